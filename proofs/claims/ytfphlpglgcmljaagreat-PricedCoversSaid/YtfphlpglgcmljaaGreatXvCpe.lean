/- Part of the proof of priced_covers_proved: Cpe. -/
import Derived.Deep.RegionHeld3
import Derived.Test.YtfphlpglgcmljaaGreatXvCpd
import Derived.Test.YtfphlpglgcmljaaGreatXvRev
import Derived.Test.YtfphlpglgcmljaaGreatXvPrs
namespace Go.Proofs.YtfphlpglgcmljaaGreat
open Go.RowKit
set_option linter.unusedVariables false
set_option linter.unusedSimpArgs false
set_option linter.unnecessarySimpa false
def lV (V : Nat → Int) (M : Nat) : List Value := (List.range M).map fun k => Value.int .i64 (V k)
theorem lV_at (V : Nat → Int) {M k : Nat} (hk : k < M) : (lV V M)[k]? = some (.int .i64 (V k)) := by unfold lV; rw [List.getElem?_map, List.getElem?_range hk]; rfl
theorem lV_set (V : Nat → Int) {M k : Nat} (x : Int) : (lV V M).set k (.int .i64 x) = lV (upI V k x) M := by
 apply List.ext_getElem?
 intro i
 unfold lV
 rw [List.getElem?_set, List.getElem?_map, List.getElem?_map]
 by_cases h : i < M
 ·rw [List.getElem?_range h]
  by_cases e : k = i
  ·subst e; rw [if_pos rfl]; simp [h, upI]
  ·rw [if_neg e]; simp [upI]; intro c; exact absurd c.symm e
 ·rw [List.getElem?_eq_none (by simp; omega)]
  split
  ·simp; omega
  ·rfl
theorem lV_congr {V U : Nat → Int} {M : Nat} (h : ∀ k, k < M → V k = U k) : lV V M = lV U M := by
 unfold lV
 refine List.map_congr_left (fun k hk => ?_)
 rw [h k (List.mem_range.1 hk)]
theorem lV_zero (M : Nat) : lV (fun _ => 0) M = List.replicate M (.int .i64 0) := by unfold lV; rw [List.map_const']; simp
def flP (x : Int) (k : Nat) : Nat → Int := fun v => if v < k then x else 0
theorem flP_next (x : Int) (k : Nat) : upI (flP x k) k x = flP x (k + 1) := by
 funext v
 unfold upI flP
 by_cases e : v = k
 ·subst e; rw [if_pos rfl, if_pos (by omega)]
 ·rw [if_neg e]
  by_cases c : v < k
  ·rw [if_pos c, if_pos (by omega)]
  ·rw [if_neg c, if_neg (by omega)]
def ngP (need : Nat → Int) (k : Nat) : Nat → Int := fun v => if v % 2 = 0 ∧ v / 2 < k ∧ need (v / 2) < 0 then 0 else farI
theorem ngP_yes {need : Nat → Int} {k : Nat} (h : need k < 0) : upI (ngP need k) (2 * k) 0 = ngP need (k + 1) := by
 funext v
 unfold upI ngP
 by_cases e : v = 2 * k
 ·subst e; rw [if_pos rfl, if_pos ⟨by omega, by omega, by rw [show 2 * k / 2 = k by omega]; exact h⟩]
 ·rw [if_neg e]
  by_cases c : v % 2 = 0 ∧ v / 2 < k ∧ need (v / 2) < 0
  ·rw [if_pos c, if_pos ⟨c.1, by omega, c.2.2⟩]
  ·rw [if_neg c, if_neg (fun q => c ⟨q.1, by omega, q.2.2⟩)]
theorem ngP_no {need : Nat → Int} {k : Nat} (h : ¬ need k < 0) : ngP need k = ngP need (k + 1) := by
 funext v
 unfold ngP
 by_cases c : v % 2 = 0 ∧ v / 2 < k ∧ need (v / 2) < 0
 ·rw [if_pos c, if_pos ⟨c.1, by omega, c.2.2⟩]
 ·rw [if_neg c, if_neg (fun q => c ⟨q.1, by
   refine Classical.byContradiction fun z => h ?_
   have : v / 2 = k := by omega
   rw [← this]; exact q.2.2, q.2.2⟩)]
theorem cell_lt {w : World} {g t : Nat} {v : Value} (h : w.cell? ⟨g, t, none⟩ = some v) : g < w.heap.size := by
 refine Classical.byContradiction fun q => ?_
 have e : w.heap[g]? = none := Array.getElem?_eq_none (by omega)
 simp [World.cell?, e] at h
theorem setCells_bt {W : World} {b : Nat} : ∀ (vs : List Value) (o : Nat) (w : World), Below W.heap.size W w → W.heap.size ≤ b → Below W.heap.size W (w.setCells b o vs)
 | [], _, _, h, _ => h
 | v :: vs, o, w, h, hb => setCells_bt vs (o + 1) (w.setCell ⟨b, o, none⟩ v) (h.setCell (p := ⟨b, o, none⟩) hb v) hb
theorem setCells_other {b c : Nat} (h : c ≠ b) : ∀ (vs : List Value) (o : Nat) (w : World), (w.setCells b o vs).heap[c]? = w.heap[c]?
 | [], _, _ => rfl
 | v :: vs, o, w => (setCells_other h vs (o + 1) (w.setCell ⟨b, o, none⟩ v)).trans (st1k_ne (w := w) (b := b) (i := o) (c := c) v h)
theorem prog_bn (N k i : Nat) (v : Value) (xs : List Int) (w : World) (hv : RL w.heap.size w v xs) (hok : OkZ N xs) (h2 : k ≤ N) (h4 : i ≤ N) :
  Calls Tryz.prog 63 #[.agg #[.int .i64 N, v], .int .i64 k, .int .i64 i] w fun e w' => e = .returned (.tuple #[.int .i64 (bF N xs k i), .bool (fnB N xs k i)]) ∧ Below w.heap.size w w' := by
 have h := prog_bound N v (k : Int) (i : Int) xs w hv hok (by omega) (by omega) (by omega) (by omega)
 simp only [Int.toNat_natCast] at h
 exact h
def PthR (N : Nat) (xs : List Int) (need : Nat → Int) (mo : Nat → Nat → Int) (base : Nat) (e : Ending) (w' : World) : Prop :=
 (endT need (pthS N xs need mo).1 (N + 1) < 0 ∧ e = .returned (.tuple #[.slice none 0 0, .int .i64 0, .int .i64 0])) ∨
 (0 ≤ endT need (pthS N xs need mo).1 (N + 1) ∧ ∃ (L : List Nat) (g cap : Nat), Ch (pthS N xs need mo).2 (endT need (pthS N xs need mo).1 (N + 1)) L ∧ base ≤ g ∧ g < w'.heap.size ∧
  (∀ j, j < L.length → w'.cell? ⟨g, j, none⟩ = some (.int .i64 ((nd L.reverse j / 2 : Nat) : Int))) ∧
  e = .returned (.tuple #[.slice (some ⟨g, 0, none⟩) L.length cap, .int .i64 ((pthS N xs need mo).1 (endT need (pthS N xs need mo).1 (N + 1)).toNat), .int .i64 (amT need mo (fun t => nd L.reverse t / 2) L.length ((L.length - 1) / 2))]))
set_option maxRecDepth 100000 in
set_option maxHeartbeats 16000000 in
theorem prog_path (N : Nat) (v rv : Value) (xs nl : List Int) (mb : Nat) (mo : Nat → Nat → Int) (rk : Nat → Nat) (w : World) (hv : RL w.heap.size w v xs) (hr : RL w.heap.size w rv nl) (hmb : mb < w.heap.size)
  (hm : ∀ k i, k ≤ N → i ≤ N → w.cell? ⟨mb, k * 11 + i, none⟩ = some (.int .i64 (mo k i))) (hok : OkZ N xs) (hN : N ≤ 3) (hnear : Near N xs) (hln : nl.length = N + 1)
  (hnb : ∀ k, k ≤ N → -1073741824 ≤ gi nl k ∧ gi nl k ≤ 1073741824) (hmo : ∀ k i, k ≤ N → i ≤ N → 0 ≤ mo k i ∧ mo k i ≤ 1073741824) (hrk : Rk (pthS N xs (gi nl) mo).2 (2 * (N + 1)) rk) :
  Calls Tryz.prog 145 #[.agg #[.int .i64 N, v], rv, .pointer (some ⟨mb, 0, none⟩)] w fun e w' => PthR N xs (gi nl) mo w.heap.size e w' ∧ Below w.heap.size w w' := by
 obtain ⟨ao, cap, rfl, hle, -⟩ := hv.open
 obtain ⟨aor, capr, rfl, hler, h0r⟩ := hr.open
 obtain ⟨bn, on, rfl, hbn, hcn⟩ := h0r (by omega)
 obtain ⟨need, hnd⟩ : ∃ f, f = gi nl := ⟨_, rfl⟩
 rw [← hnd] at hcn hnb hrk ⊢
 obtain ⟨n, hn⟩ : ∃ n, n = nl.length := ⟨_, rfl⟩
 rw [← hn] at hln hcn hler hr ⊢
 have hn1 : n ≤ N + 1 := by omega
 have hn2 : N + 1 ≤ n := by omega
 obtain ⟨M, hM⟩ : ∃ M, M = 2 * n := ⟨_, rfl⟩
 have hM1 : M ≤ 2 * n := by omega
 have hM2 : 2 * n ≤ M := by omega
 have hM11 : M ≤ 8 := by omega
 have hMw : IntKind.i64.wrap (2 * (n : Int)) = (M : Int) := by rw [wr_id (by omega) (by omega)]; omega
 have Hn := Lib.hid hln
 have HM := Lib.hid hM
 have Hv := Lib.hid hv
 have Hcn := Lib.hid hcn
 have Hm := Lib.hid hm
 have Hnear := Lib.hid hnear
 have Hnb := Lib.hid hnb
 have Hmo := Lib.hid hmo
 have Hrk := Lib.hid hrk
 clear hv hr hcn hm hnear hnb hmo hrk hnd hn hln hM h0r hler
 have hloc := Loc.one w (.cells #[.int .i64 N, .slice ao xs.length cap] 32) none
 have hbw := below_grownBy hloc.grown
 have hqz : (w.alloc (.cells #[.int .i64 N, .slice ao xs.length cap] 32)).heap[w.heap.size]? = some (.cells #[.int .i64 N, .slice ao xs.length cap] 32 (0, 0)) := hloc.objs 0 (by simp)
 clear hloc
 go_enter Tryz.func145, Tryz.ntmps145
 go_upto_region 2 with fail
 generalize (w.alloc (.cells #[.int .i64 N, .slice ao xs.length cap] 32)) = X1 at *
 have HW := Lib.hid hbw
 have HBz := Lib.hid hqz
 clear hbw hqz
 go_cut [10, 11] (fun s10 s11 wx => ∃ gp gf, s10 = .slice (some ⟨gp, 0, none⟩) M M ∧ s11 = .slice (some ⟨gf, 0, none⟩) M M ∧ wx.heap[gp]? = some (.cells (List.replicate M (.int .i64 0)).toArray 2 (0, 0)) ∧ wx.heap[gf]? = some (.cells (List.replicate M (.int .i64 0)).toArray 3 (0, 0)) ∧ X1.heap.size ≤ gp ∧ X1.heap.size ≤ gf ∧ Below X1.heap.size X1 wx)
 case first => as_aux_lemma =>
  refine wp_region_noPanic ?_
  refine wp_region_held_drew (S := (fun _ => True)) (by kernel_rfl) trivial (fun hHeld => ?_)
  refine wpAnyH_take (i := 0) (v := ?_) rfl (by kernel_rfl) (by kernel_rfl) (by kernel_rfl) (fun _ _ _ h => h) (Or.inl ⟨by rfl, ?_⟩) (by assumption) ?_
  rotate_left
  ·intro w hSw; (try dsimp only at hSw); go_simp; (try with_reducible rfl)
  try simp only [Act.put, List.getElem_toArray, List.getElem_cons_zero, List.setIfInBounds_toArray, List.set_cons_zero, List.set_cons_succ]
  refine wpAnyH_take (i := 1) (v := ?_) rfl (by kernel_rfl) (by kernel_rfl) (by kernel_rfl) (fun _ _ _ h => h) (Or.inl ⟨by rfl, ?_⟩) (by assumption) ?_
  rotate_left
  ·intro w hSw; (try dsimp only at hSw); go_simp; (try with_reducible rfl)
  try simp only [Act.put, List.getElem_toArray, List.getElem_cons_zero, List.getElem_cons_succ, List.setIfInBounds_toArray, List.set_cons_zero, List.set_cons_succ]
  refine wpAnyH_take (i := 3) (v := ?_) rfl (by kernel_rfl) (by kernel_rfl) (by kernel_rfl) (fun _ _ _ h => h) (Or.inl ⟨by rfl, ?_⟩) (by assumption) ?_
  rotate_left
  ·intro w hSw; (try dsimp only at hSw); go_simp; (try with_reducible rfl)
  try simp only [Act.put, List.getElem_toArray, List.getElem_cons_zero, List.getElem_cons_succ, List.setIfInBounds_toArray, List.set_cons_zero, List.set_cons_succ]
  refine wpAnyH_take (i := 4) (v := ?_) rfl (by kernel_rfl) (by kernel_rfl) (by kernel_rfl) (fun _ _ _ h => h) (Or.inl ⟨by rfl, ?_⟩) (by assumption) ?_
  rotate_left
  ·intro w hSw; (try dsimp only at hSw); go_simp; (try with_reducible rfl)
  try simp only [Act.put, List.getElem_toArray, List.getElem_cons_zero, List.getElem_cons_succ, List.setIfInBounds_toArray, List.set_cons_zero, List.set_cons_succ]
  have H0 := Lib.hid (show Below X1.heap.size X1 X1.drew from (Below.refl _ _).drew)
  clear hHeld
  generalize X1.drew = L0 at *
  have HL0 := Lib.hid H0.out
  clear H0
  refine wpAnyH_ready (rs := [2, 5]) (by kernel_rfl) (by simp) ?_
  refine AllReadyH.cons rfl (fun K hK => ?_) (AllReadyH.cons rfl (fun K hK => ?_) AllReadyH.nil)
  ·skip
   have hba := (Below.refl _ L0).alloc (Nat.le_refl _) (.cells (List.replicate M (.int .i64 0)).toArray 2)
   have hh2 := bt HL0.out hba
   have hrow := heap_alloc_new L0 (.cells (List.replicate M (.int .i64 0)).toArray 2)
   have hge := HL0.out.size
   refine step_make rfl (.tmp 27) (.tmp 27) 33 rfl 2 (.int .i64 0) 8 Tryz.undL64 Tryz.infL64 rfl (by decide) M _ _ rfl rfl rfl rfl (Nat.le_trans hM11 (by decide)) ?_
   refine hK.out _ _ trivial (fun hHeld2 => ?_)
   clear hK K hba
   generalize hgen : L0.alloc _ = L1 at *
   clear hgen
   generalize L0.heap.size = gp at *
   have HL1 := Lib.hid hh2
   have Hgpr := Lib.hid hrow
   have Hgpg := Lib.hid hge
   clear hh2 hrow hge
   try simp only [Act.put, List.getElem_toArray, List.getElem_cons_zero, List.getElem_cons_succ, List.setIfInBounds_toArray, List.set_cons_zero, List.set_cons_succ]
   refine wpAnyH_take (i := 6) (v := ?_) rfl (by kernel_rfl) (by kernel_rfl) (by kernel_rfl) (fun _ _ _ h => h) (Or.inl ⟨by rfl, ?_⟩) (by assumption) ?_
   rotate_left
   ·intro w hSw; (try dsimp only at hSw); go_simp; (try with_reducible rfl)
   try simp only [Act.put, List.getElem_toArray, List.getElem_cons_zero, List.getElem_cons_succ, List.setIfInBounds_toArray, List.set_cons_zero, List.set_cons_succ]
   refine wpAnyH_ready (rs := [5]) (by kernel_rfl) (by simp) ?_
   refine AllReadyH.cons rfl (fun K hK => ?_) AllReadyH.nil
   have hba := (Below.refl _ L1).alloc (Nat.le_refl _) (.cells (List.replicate M (.int .i64 0)).toArray 3)
   have hh2 := bt HL1.out hba
   have hrow := heap_alloc_new L1 (.cells (List.replicate M (.int .i64 0)).toArray 3)
   have hge := HL1.out.size
   have hoth := hp_keep4 Hgpr.out hba
   refine step_make rfl (.tmp 30) (.tmp 30) 160 rfl 3 (.int .i64 0) 8 Tryz.undInt Tryz.infInt rfl (by decide) M _ _ rfl rfl rfl rfl (Nat.le_trans hM11 (by decide)) ?_
   refine hK.out _ _ trivial (fun hHeld2 => ?_)
   clear hK K hba
   generalize hgen : L1.alloc _ = L2 at *
   clear hgen
   generalize L1.heap.size = gf at *
   have HL2 := Lib.hid hh2
   have Hgfr := Lib.hid hrow
   have Hgfg := Lib.hid hge
   clear hh2 hrow hge
   clear Hgpr
   have Hgpr := Lib.hid hoth
   clear hoth
   try simp only [Act.put, List.getElem_toArray, List.getElem_cons_zero, List.getElem_cons_succ, List.setIfInBounds_toArray, List.set_cons_zero, List.set_cons_succ]
   refine wpAnyH_take (i := 7) (v := ?_) rfl (by kernel_rfl) (by kernel_rfl) (by kernel_rfl) (fun _ _ _ h => h) (Or.inl ⟨by rfl, ?_⟩) (by assumption) ?_
   rotate_left
   ·intro w hSw; (try dsimp only at hSw); go_simp; (try with_reducible rfl)
   try simp only [Act.put, List.getElem_toArray, List.getElem_cons_zero, List.getElem_cons_succ, List.setIfInBounds_toArray, List.set_cons_zero, List.set_cons_succ]
   refine wpAnyH_done (by kernel_rfl) ?_ _
   refine NoPanic.normal ?_
   go_wp2_with fail
   go_meet
   exact ⟨gp, gf, rfl, rfl, Hgpr.out, Hgfr.out, Hgpg.out, Hgfg.out, HL2.out⟩
  ·skip
   have hba := (Below.refl _ L0).alloc (Nat.le_refl _) (.cells (List.replicate M (.int .i64 0)).toArray 3)
   have hh2 := bt HL0.out hba
   have hrow := heap_alloc_new L0 (.cells (List.replicate M (.int .i64 0)).toArray 3)
   have hge := HL0.out.size
   refine step_make rfl (.tmp 30) (.tmp 30) 160 rfl 3 (.int .i64 0) 8 Tryz.undInt Tryz.infInt rfl (by decide) M _ _ rfl rfl rfl rfl (Nat.le_trans hM11 (by decide)) ?_
   refine hK.out _ _ trivial (fun hHeld2 => ?_)
   clear hK K hba
   generalize hgen : L0.alloc _ = L1 at *
   clear hgen
   generalize L0.heap.size = gf at *
   have HL1 := Lib.hid hh2
   have Hgfr := Lib.hid hrow
   have Hgfg := Lib.hid hge
   clear hh2 hrow hge
   try simp only [Act.put, List.getElem_toArray, List.getElem_cons_zero, List.getElem_cons_succ, List.setIfInBounds_toArray, List.set_cons_zero, List.set_cons_succ]
   refine wpAnyH_ready (rs := [2]) (by kernel_rfl) (by simp) ?_
   refine AllReadyH.cons rfl (fun K hK => ?_) AllReadyH.nil
   have hba := (Below.refl _ L1).alloc (Nat.le_refl _) (.cells (List.replicate M (.int .i64 0)).toArray 2)
   have hh2 := bt HL1.out hba
   have hrow := heap_alloc_new L1 (.cells (List.replicate M (.int .i64 0)).toArray 2)
   have hge := HL1.out.size
   have hoth := hp_keep4 Hgfr.out hba
   refine step_make rfl (.tmp 27) (.tmp 27) 33 rfl 2 (.int .i64 0) 8 Tryz.undL64 Tryz.infL64 rfl (by decide) M _ _ rfl rfl rfl rfl (Nat.le_trans hM11 (by decide)) ?_
   refine hK.out _ _ trivial (fun hHeld2 => ?_)
   clear hK K hba
   generalize hgen : L1.alloc _ = L2 at *
   clear hgen
   generalize L1.heap.size = gp at *
   have HL2 := Lib.hid hh2
   have Hgpr := Lib.hid hrow
   have Hgpg := Lib.hid hge
   clear hh2 hrow hge
   clear Hgfr
   have Hgfr := Lib.hid hoth
   clear hoth
   try simp only [Act.put, List.getElem_toArray, List.getElem_cons_zero, List.getElem_cons_succ, List.setIfInBounds_toArray, List.set_cons_zero, List.set_cons_succ]
   refine wpAnyH_take (i := 6) (v := ?_) rfl (by kernel_rfl) (by kernel_rfl) (by kernel_rfl) (fun _ _ _ h => h) (Or.inl ⟨by rfl, ?_⟩) (by assumption) ?_
   rotate_left
   ·intro w hSw; (try dsimp only at hSw); go_simp; (try with_reducible rfl)
   try simp only [Act.put, List.getElem_toArray, List.getElem_cons_zero, List.getElem_cons_succ, List.setIfInBounds_toArray, List.set_cons_zero, List.set_cons_succ]
   refine wpAnyH_take (i := 7) (v := ?_) rfl (by kernel_rfl) (by kernel_rfl) (by kernel_rfl) (fun _ _ _ h => h) (Or.inl ⟨by rfl, ?_⟩) (by assumption) ?_
   rotate_left
   ·intro w hSw; (try dsimp only at hSw); go_simp; (try with_reducible rfl)
   try simp only [Act.put, List.getElem_toArray, List.getElem_cons_zero, List.getElem_cons_succ, List.setIfInBounds_toArray, List.set_cons_zero, List.set_cons_succ]
   refine wpAnyH_done (by kernel_rfl) ?_ _
   refine NoPanic.normal ?_
   go_wp2_with fail
   go_meet
   exact ⟨gp, gf, rfl, rfl, Hgpr.out, Hgfr.out, Hgpg.out, Hgfg.out, HL2.out⟩
 case rest => as_aux_lemma =>
  obtain ⟨gp, gf, rfl, rfl, hrp, hrf, hgp, hgf, hb⟩ := hcut
  obtain ⟨w1, hw1⟩ : ∃ V, V = wc := ⟨_, rfl⟩
  subst hw1
  have hX1 := HW.out.size
  have hzl := hp_lt3 HBz.out
  have hgp0 : w.heap.size < gp := by omega
  have hgf0 : w.heap.size < gf := by omega
  have hgpf := hp_ne hrp hrf (by decide)
  clear hX1 hzl hgp hgf
  replace HBz := Lib.hid (hp_keep4 HBz.out hb)
  replace HW := Lib.hid (bt HW.out hb)
  clear hb
  rw [← lV_zero] at hrp hrf
  have HBp := Lib.hid hrp
  have HBf := Lib.hid hrf
  clear hrp hrf
  go_wp2_with fail
  go_loopw [34] (fun s wr => ∃ k : Nat, k ≤ M ∧ s = .int .i64 k ∧ wr.heap[w.heap.size]? = some (.cells #[.int .i64 N, .slice ao xs.length cap] 32 (0, 0)) ∧ wr.heap[gp]? = some (.cells (lV (flP farI k) M).toArray 2 (0, 0)) ∧ wr.heap[gf]? = some (.cells (lV (flP (-1) k) M).toArray 3 (0, 0)) ∧ Below w.heap.size w wr) (fun s _ => M - (intOf s).toNat)
  case atStart => exact ⟨0, Nat.zero_le _, rfl, HBz.out, HBp.out, HBf.out, HW.out⟩
  case round => as_aux_lemma =>
   clear HBz HBp HBf HW
   obtain ⟨k, hk, rfl, h1, h2, h3, h4⟩ := hrel
   have HBz := Lib.hid h1
   have HBp := Lib.hid h2
   have HBf := Lib.hid h3
   have HW := Lib.hid h4
   clear h1 h2 h3 h4
   obtain ⟨wa, hwx⟩ : ∃ V, V = wr := ⟨_, rfl⟩
   subst hwx
   by_cases hlt : k < M
   ·have hti : decide ((k : Int) < (M : Int)) = true := by simp; omega
    have k0 : (k : Int) < (M : Int) := by omega
    have k1 : (0 : Int) ≤ (k : Int) := by omega
    have hfp := row_fro (k := k) HBp.out
    have Hq1 := Lib.hid (show (wa.setCell ⟨gp, k, none⟩ (.int .i64 (1152921504606846976))).heap[gp]? = _ from row_set (k := k) (v := .int .i64 (1152921504606846976)) HBp.out)
    have Hq2 := Lib.hid (show (wa.setCell ⟨gp, k, none⟩ (.int .i64 (1152921504606846976))).heap[gf]? = _ from (st1k_ne (w := wa) (b := gp) (i := k) (c := gf) (.int .i64 (1152921504606846976)) (fun e => hgpf e.symm)).trans HBf.out)
    have Hq3 := Lib.hid (show (wa.setCell ⟨gp, k, none⟩ (.int .i64 (1152921504606846976))).heap[w.heap.size]? = _ from (st1k_ne (w := wa) (b := gp) (i := k) (c := w.heap.size) (.int .i64 (1152921504606846976)) (by omega)).trans HBz.out)
    have Hq4 := Lib.hid (HW.out.setCell (p := ⟨gp, k, none⟩) (by show w.heap.size ≤ gp; omega) (.int .i64 (1152921504606846976)))
    have hff2 : (wa.setCell ⟨gp, k, none⟩ (.int .i64 (1152921504606846976))).frozen? ⟨gf, k, none⟩ = false := row_fro (k := k) Hq2.out
    have hcp : wa.cell? ⟨gp, k, none⟩ = some (.int .i64 (flP farI k k)) := row_at HBp.out (lV_at _ hlt)
    have hcf : wa.cell? ⟨gf, k, none⟩ = some (.int .i64 (flP (-1) k k)) := row_at HBf.out (lV_at _ hlt)
    have hcf2 : (wa.setCell ⟨gp, k, none⟩ (.int .i64 (1152921504606846976))).cell? ⟨gf, k, none⟩ = some (.int .i64 (flP (-1) k k)) := row_at Hq2.out (lV_at _ hlt)
    have HR1 := Lib.hid (show ((wa.setCell ⟨gp, k, none⟩ (.int .i64 (1152921504606846976))).setCell ⟨gf, k, none⟩ (.int .i64 (-1))).heap[gp]? = some (.cells (lV (upI (flP farI k) k (1152921504606846976)) M).toArray 2 (0, 0)) by
     rw [← lV_set]; exact (st1k_ne (b := gf) (i := k) (c := gp) (.int .i64 (-1)) hgpf).trans Hq1.out)
    have HR2 := Lib.hid (show ((wa.setCell ⟨gp, k, none⟩ (.int .i64 (1152921504606846976))).setCell ⟨gf, k, none⟩ (.int .i64 (-1))).heap[gf]? = some (.cells (lV (upI (flP (-1) k) k (-1)) M).toArray 3 (0, 0)) by
     rw [← lV_set]; exact row_set (k := k) (v := .int .i64 (-1)) Hq2.out)
    have HR3 := Lib.hid (show ((wa.setCell ⟨gp, k, none⟩ (.int .i64 (1152921504606846976))).setCell ⟨gf, k, none⟩ (.int .i64 (-1))).heap[w.heap.size]? = some (.cells #[.int .i64 N, .slice ao xs.length cap] 32 (0, 0)) from (st1k_ne (b := gf) (i := k) (c := w.heap.size) (.int .i64 (-1)) (by omega)).trans Hq3.out)
    have HR4 := Lib.hid (Hq4.out.setCell (p := ⟨gf, k, none⟩) (by show w.heap.size ≤ gf; omega) (.int .i64 (-1)))
    clear HBz HBp HBf HW Hq1 Hq2 Hq3 Hq4
    rw [show (1152921504606846976 : Int) = farI from rfl, flP_next] at HR1
    rw [flP_next] at HR2
    go_wp2_with fail
    go_roundw
    case rel => exact ⟨k + 1, by omega, by go_num, HR3.out, HR1.out, HR2.out, HR4.out⟩
    case measure => simp [intOf]; omega
   have hti : decide ((k : Int) < (M : Int)) = false := by simp; omega
   have HBp2 := Lib.hid (show wa.heap[gp]? = some (.cells (lV (ngP need 0) M).toArray 2 (0, 0)) by
    rw [lV_congr (U := flP farI k) (fun v hv => by unfold ngP flP; rw [if_neg (fun q => by omega), if_pos (by omega)])]; exact HBp.out)
   have HBf2 := Lib.hid (show wa.heap[gf]? = some (.cells (lV (p0F need).2 M).toArray 3 (0, 0)) by
    rw [lV_congr (U := flP (-1) k) (fun v hv => by show -1 = flP (-1) k v; unfold flP; rw [if_pos (by omega)])]; exact HBf.out)
   clear HBp HBf
   have HBp := Lib.hid HBp2.out
   have HBf := Lib.hid HBf2.out
   clear HBp2 HBf2
   go_wp2_with fail
   go_loopw [45] (fun s wr => ∃ j : Nat, j ≤ n ∧ s = .int .i64 j ∧ wr.heap[w.heap.size]? = some (.cells #[.int .i64 N, .slice ao xs.length cap] 32 (0, 0)) ∧ wr.heap[gp]? = some (.cells (lV (ngP need j) M).toArray 2 (0, 0)) ∧ wr.heap[gf]? = some (.cells (lV ((p0F need).2) M).toArray 3 (0, 0)) ∧ Below w.heap.size w wr) (fun s _ => n - (intOf s).toNat)
   case atStart => exact ⟨0, Nat.zero_le _, rfl, HBz.out, HBp.out, HBf.out, HW.out⟩
   case round => as_aux_lemma =>
    clear HBz HBp HBf HW
    obtain ⟨j, hj, rfl, h1, h2, h3, h4⟩ := hrel
    have HBz := Lib.hid h1
    have HBp := Lib.hid h2
    have HBf := Lib.hid h3
    have HW := Lib.hid h4
    clear h1 h2 h3 h4
    obtain ⟨wb, hwx⟩ : ∃ V, V = wr := ⟨_, rfl⟩
    subst hwx
    by_cases hjn : j < n
    ·have htj : decide ((j : Int) < (n : Int)) = true := by simp; omega
     have j0 : (j : Int) < (n : Int) := by omega
     have j1 : (0 : Int) ≤ (j : Int) := by omega
     obtain ⟨x, hx⟩ : ∃ x, need j = x := ⟨_, rfl⟩
     have c0 : wb.cell? ⟨bn, on + j, none⟩ = some (.int .i64 x) := by
      rw [← hx]; exact ((bcell HW.out).1 bn (on + j) hbn).trans (Hcn.out j hjn)
     by_cases hx0 : x < 0
     ·have hxd : decide (x < 0) = true := by simpa using hx0
      obtain ⟨A, hA⟩ : ∃ A, A = 2 * j := ⟨_, rfl⟩
      have hAw : IntKind.i64.wrap (2 * (j : Int)) = (A : Int) := by rw [wr_id (by omega) (by omega)]; omega
      have A0 : (A : Int) < (M : Int) := by omega
      have A1 : (0 : Int) ≤ (A : Int) := by omega
      have AM : A < M := by omega
      have hfp := row_fro (k := A) HBp.out
      have hcp : wb.cell? ⟨gp, A, none⟩ = some (.int .i64 (ngP need j A)) := row_at HBp.out (lV_at _ AM)
      have HR1 := Lib.hid (show (wb.setCell ⟨gp, A, none⟩ (.int .i64 0)).heap[gp]? = some (.cells (lV (ngP need (j + 1)) M).toArray 2 (0, 0)) by
       rw [← ngP_yes (by rw [hx]; exact hx0), ← hA, ← lV_set]; exact row_set (k := A) (v := .int .i64 0) HBp.out)
      have HR2 := Lib.hid (show (wb.setCell ⟨gp, A, none⟩ (.int .i64 0)).heap[gf]? = _ from (st1k_ne (w := wb) (b := gp) (i := A) (c := gf) (.int .i64 0) (fun e => hgpf e.symm)).trans HBf.out)
      have HR3 := Lib.hid (show (wb.setCell ⟨gp, A, none⟩ (.int .i64 0)).heap[w.heap.size]? = _ from (st1k_ne (w := wb) (b := gp) (i := A) (c := w.heap.size) (.int .i64 0) (by omega)).trans HBz.out)
      have HR4 := Lib.hid (HW.out.setCell (p := ⟨gp, A, none⟩) (by show w.heap.size ≤ gp; omega) (.int .i64 0))
      clear HBz HBp HBf HW hx hA
      go_wp2_with fail
      go_roundw
      case rel => exact ⟨j + 1, by omega, by go_num, HR3.out, HR1.out, HR2.out, HR4.out⟩
      case measure => simp [intOf]; omega
     ·have hxd : decide (x < 0) = false := by simpa using hx0
      have HR1 := Lib.hid (show wb.heap[gp]? = some (.cells (lV (ngP need (j + 1)) M).toArray 2 (0, 0)) by
       rw [← ngP_no (by rw [hx]; exact hx0)]; exact HBp.out)
      clear hx hx0
      go_wp2_with fail
      go_roundw
      case rel => exact ⟨j + 1, by omega, by go_num, HBz.out, HR1.out, HBf.out, HW.out⟩
      case measure => simp [intOf]; omega
    have htj : decide ((j : Int) < (n : Int)) = false := by simp; omega
    have HBp2 := Lib.hid (show wb.heap[gp]? = some (.cells (lV (p0F need).1 M).toArray 2 (0, 0)) by
     rw [lV_congr (U := ngP need j) (fun v hv => by
      show (if v % 2 = 0 ∧ need (v / 2) < 0 then (0 : Int) else farI) = ngP need j v
      unfold ngP
      by_cases c : v % 2 = 0 ∧ need (v / 2) < 0
      ·rw [if_pos c, if_pos ⟨c.1, by omega, c.2⟩]
      ·rw [if_neg c, if_neg (fun q => c ⟨q.1, q.2.2⟩)])]
     exact HBp.out)
    clear HBp
    have HBp := Lib.hid HBp2.out
    clear HBp2
    go_wp2_with fail
    go_loopw [60] (fun s wr => ∃ r : Nat, r ≤ M ∧ s = .int .i64 r ∧ wr.heap[w.heap.size]? = some (.cells #[.int .i64 N, .slice ao xs.length cap] 32 (0, 0)) ∧ wr.heap[gp]? = some (.cells (lV ((rnds (aK N xs mo (N + 1)) (p0F need) r).1) M).toArray 2 (0, 0)) ∧ wr.heap[gf]? = some (.cells (lV ((rnds (aK N xs mo (N + 1)) (p0F need) r).2) M).toArray 3 (0, 0)) ∧ Below w.heap.size w wr) (fun s _ => M - (intOf s).toNat)
    case atStart => exact ⟨0, Nat.zero_le _, rfl, HBz.out, HBp.out, HBf.out, HW.out⟩
    case round => as_aux_lemma =>
     clear HBz HBp HBf HW
     obtain ⟨r, hr, rfl, h1, h2, h3, h4⟩ := hrel
     have HBz := Lib.hid h1
     have HBp := Lib.hid h2
     have HBf := Lib.hid h3
     have HW := Lib.hid h4
     clear h1 h2 h3 h4
     obtain ⟨wc, hwx⟩ : ∃ V, V = wr := ⟨_, rfl⟩
     subst hwx
     by_cases hrM : r < M
     rotate_left
     ·have htr : decide ((r : Int) < (M : Int)) = false := by simp; omega
      have hrE : r = 2 * (N + 1) := by have := HM.out; have := Hn.out; omega
      rw [hrE] at HBp HBf
      rw [show rnds (aK N xs mo (N + 1)) (p0F need) (2 * (N + 1)) = pthS N xs need mo from rfl] at HBp HBf
      clear hrE
      obtain ⟨p, hp⟩ : ∃ p, p = (pthS N xs need mo).1 := ⟨_, rfl⟩
      obtain ⟨fr, hfr⟩ : ∃ f, f = (pthS N xs need mo).2 := ⟨_, rfl⟩
      rw [← hp] at HBp
      rw [← hfr] at HBf
      have Hp := Lib.hid hp
      have Hfr := Lib.hid hfr
      clear hp hfr
      go_wp2_with fail
      go_loopw [18, 181] (fun s18 s181 wr => ∃ i : Nat, i ≤ n ∧ s181 = .int .i64 i ∧ s18 = .int .i64 (endT need p i) ∧ wr.heap[gp]? = some (.cells (lV (p) M).toArray 2 (0, 0)) ∧ wr.heap[gf]? = some (.cells (lV (fr) M).toArray 3 (0, 0)) ∧ Below w.heap.size w wr) (fun _ s _ => n - (intOf s).toNat)
      case atStart => exact ⟨0, Nat.zero_le _, rfl, rfl, HBp.out, HBf.out, HW.out⟩
      case round => as_aux_lemma =>
       clear HBz HBp HBf HW
       obtain ⟨i, hi, rfl, rfl, h2, h3, h4⟩ := hrel
       have HBp := Lib.hid h2
       have HBf := Lib.hid h3
       have HW := Lib.hid h4
       clear h2 h3 h4
       obtain ⟨we, hwx⟩ : ∃ V, V = wr := ⟨_, rfl⟩
       subst hwx
       have HEc := Lib.hid (endT_is need p i)
       have HEn := Lib.hid (show endT need p (i + 1) = if 0 < need i ∧ p (2 * i + 1) < farI ∧ (endT need p i < 0 ∨ p (2 * i + 1) < p (endT need p i).toNat) then 2 * (i : Int) + 1 else endT need p i from rfl)
       by_cases hin : i < n
       ·have hti : decide ((i : Int) < (n : Int)) = true := by simp; omega
        obtain ⟨E, hE⟩ : ∃ E, endT need p i = E := ⟨_, rfl⟩
        rw [hE] at HEc HEn ⊢
        clear hE
        have i0 : (i : Int) < (n : Int) := by omega
        have i1 : (0 : Int) ≤ (i : Int) := by omega
        obtain ⟨B, hB⟩ : ∃ B, B = 2 * i + 1 := ⟨_, rfl⟩
        obtain ⟨B2, hB2⟩ : ∃ B2, B2 = 2 * i := ⟨_, rfl⟩
        have hBw2 : IntKind.i64.wrap (2 * (i : Int)) = (B2 : Int) := by rw [wr_id (by omega) (by omega)]; omega
        have hBw : IntKind.i64.wrap ((B2 : Int) + 1) = (B : Int) := by rw [wr_id (by omega) (by omega)]; omega
        have B0 : (B : Int) < (M : Int) := by omega
        have B1 : (0 : Int) ≤ (B : Int) := by omega
        have BM : B < M := by omega
        have HBn := Lib.hid (show (B : Int) = 2 * (i : Int) + 1 by omega)
        rw [← hB] at HEn
        clear hB hB2
        obtain ⟨x, hx⟩ : ∃ x, need i = x := ⟨_, rfl⟩
        obtain ⟨y, hy⟩ : ∃ y, p B = y := ⟨_, rfl⟩
        have cx : we.cell? ⟨bn, on + i, none⟩ = some (.int .i64 x) := by
         rw [← hx]; exact ((bcell HW.out).1 bn (on + i) hbn).trans (Hcn.out i hin)
        have cy : we.cell? ⟨gp, B, none⟩ = some (.int .i64 y) := by rw [← hy]; exact row_at HBp.out (lV_at _ BM)
        rw [hx, hy, far_val, ← HBn.out] at HEn
        clear hx hy
        obtain ⟨z, hz⟩ : ∃ z, p E.toNat = z := ⟨_, rfl⟩
        rw [hz] at HEn
        have Hz := Lib.hid hz
        clear hz
        go_upto_region 35 with fail
        go_cut [214] (fun s wx => s = .bool (decide (0 < x ∧ y < 1152921504606846976 ∧ (E < 0 ∨ y < z))) ∧ wx = we.drew)
        case first => as_aux_lemma =>
         by_cases hx0 : 0 < x
         ·have h1 : decide (0 < x) = true := by simpa using hx0
          by_cases hyf : y < 1152921504606846976
          ·have h2 : decide (y < 1152921504606846976) = true := by simpa using hyf
           by_cases hE0 : E < 0
           ·have h3 : decide (E < 0) = true := by simpa using hE0
            refine wp_region_noPanic ?_
            refine wp_region_held_drew (S := (fun w' => w'.cell? ⟨bn, on + i, none⟩ = some (.int .i64 x) ∧ w'.cell? ⟨gp, B, none⟩ = some (.int .i64 y))) (by kernel_rfl) ⟨cx, cy⟩ (fun hHeld => ?_)
            refine wpAnyH_take (i := 0) (v := ?_) rfl (by kernel_rfl) (by kernel_rfl) (by kernel_rfl) (fun _ _ _ h => h) (Or.inl ⟨by rfl, ?_⟩) (by assumption) ?_
            rotate_left
            ·intro w hSw; (try dsimp only at hSw); go_simp; (try with_reducible rfl)
            try simp only [Act.put, List.getElem_toArray, List.getElem_cons_zero, List.setIfInBounds_toArray, List.set_cons_zero, List.set_cons_succ]
            refine wpAnyH_take (i := 1) (v := ?_) rfl (by kernel_rfl) (by kernel_rfl) (by kernel_rfl) (fun _ _ _ h => h) (Or.inl ⟨by rfl, ?_⟩) (by assumption) ?_
            rotate_left
            ·intro w hSw; (try dsimp only at hSw); go_simp; (try with_reducible rfl)
            try simp only [Act.put, List.getElem_toArray, List.getElem_cons_zero, List.getElem_cons_succ, List.setIfInBounds_toArray, List.set_cons_zero, List.set_cons_succ]
            refine wpAnyH_take (i := 2) (v := ?_) rfl (by kernel_rfl) (by kernel_rfl) (by kernel_rfl) (fun _ _ _ h => h) (Or.inl ⟨by rfl, ?_⟩) (by assumption) ?_
            rotate_left
            ·intro w hSw; (try dsimp only at hSw); go_simp; (try with_reducible rfl)
            try simp only [Act.put, List.getElem_toArray, List.getElem_cons_zero, List.getElem_cons_succ, List.setIfInBounds_toArray, List.set_cons_zero, List.set_cons_succ]
            refine wpAnyH_take (i := 3) (v := ?_) rfl (by kernel_rfl) (by kernel_rfl) (by kernel_rfl) (fun _ _ _ h => h) (Or.inl ⟨by rfl, ?_⟩) (by assumption) ?_
            rotate_left
            ·intro w hSw; (try dsimp only at hSw); go_simp; (try with_reducible rfl)
            try simp only [Act.put, List.getElem_toArray, List.getElem_cons_zero, List.getElem_cons_succ, List.setIfInBounds_toArray, List.set_cons_zero, List.set_cons_succ]
            refine wpAnyH_take (i := 4) (v := ?_) rfl (by kernel_rfl) (by kernel_rfl) (by kernel_rfl) (fun _ _ _ h => h) (Or.inl ⟨by rfl, ?_⟩) (by assumption) ?_
            rotate_left
            ·intro w hSw; (try dsimp only at hSw); go_simp; (try with_reducible rfl)
            try simp only [Act.put, List.getElem_toArray, List.getElem_cons_zero, List.getElem_cons_succ, List.setIfInBounds_toArray, List.set_cons_zero, List.set_cons_succ]
            try simp only [h1]
            refine wpAnyH_take (i := 5) (v := ?_) rfl (by kernel_rfl) (by kernel_rfl) (by kernel_rfl) (fun _ _ _ h => h) (Or.inl ⟨by rfl, ?_⟩) (by assumption) ?_
            rotate_left
            ·intro w hSw; (try dsimp only at hSw); go_simp; (try with_reducible rfl)
            try simp only [Act.put, List.getElem_toArray, List.getElem_cons_zero, List.getElem_cons_succ, List.setIfInBounds_toArray, List.set_cons_zero, List.set_cons_succ]
            refine wpAnyH_take (i := 6) (v := ?_) rfl (by kernel_rfl) (by kernel_rfl) (by kernel_rfl) (fun _ _ _ h => h) (Or.inl ⟨by rfl, ?_⟩) (by assumption) ?_
            rotate_left
            ·intro w hSw; (try dsimp only at hSw); go_simp; (try with_reducible rfl)
            try simp only [Act.put, List.getElem_toArray, List.getElem_cons_zero, List.getElem_cons_succ, List.setIfInBounds_toArray, List.set_cons_zero, List.set_cons_succ]
            refine wpAnyH_take (i := 7) (v := ?_) rfl (by kernel_rfl) (by kernel_rfl) (by kernel_rfl) (fun _ _ _ h => h) (Or.inl ⟨by rfl, ?_⟩) (by assumption) ?_
            rotate_left
            ·intro w hSw; (try dsimp only at hSw); go_simp; (try with_reducible rfl)
            try simp only [Act.put, List.getElem_toArray, List.getElem_cons_zero, List.getElem_cons_succ, List.setIfInBounds_toArray, List.set_cons_zero, List.set_cons_succ]
            refine wpAnyH_take (i := 8) (v := ?_) rfl (by kernel_rfl) (by kernel_rfl) (by kernel_rfl) (fun _ _ _ h => h) (Or.inl ⟨by rfl, ?_⟩) (by assumption) ?_
            rotate_left
            ·intro w hSw; (try dsimp only at hSw); go_simp; (try with_reducible rfl)
            try simp only [Act.put, List.getElem_toArray, List.getElem_cons_zero, List.getElem_cons_succ, List.setIfInBounds_toArray, List.set_cons_zero, List.set_cons_succ]
            try simp only [hBw2, hBw]
            refine wpAnyH_take (i := 9) (v := ?_) rfl (by kernel_rfl) (by kernel_rfl) (by kernel_rfl) (fun _ _ _ h => h) (Or.inl ⟨by rfl, ?_⟩) (by assumption) ?_
            rotate_left
            ·intro w hSw; (try dsimp only at hSw); go_simp; (try with_reducible rfl)
            try simp only [Act.put, List.getElem_toArray, List.getElem_cons_zero, List.getElem_cons_succ, List.setIfInBounds_toArray, List.set_cons_zero, List.set_cons_succ]
            try simp only [hBw2, hBw]
            refine wpAnyH_take (i := 10) (v := ?_) rfl (by kernel_rfl) (by kernel_rfl) (by kernel_rfl) (fun _ _ _ h => h) (Or.inl ⟨by rfl, ?_⟩) (by assumption) ?_
            rotate_left
            ·intro w hSw; (try dsimp only at hSw); go_simp; (try with_reducible rfl)
            try simp only [Act.put, List.getElem_toArray, List.getElem_cons_zero, List.getElem_cons_succ, List.setIfInBounds_toArray, List.set_cons_zero, List.set_cons_succ]
            refine wpAnyH_take (i := 11) (v := ?_) rfl (by kernel_rfl) (by kernel_rfl) (by kernel_rfl) (fun _ _ _ h => h) (Or.inl ⟨by rfl, ?_⟩) (by assumption) ?_
            rotate_left
            ·intro w hSw; (try dsimp only at hSw); go_simp; (try with_reducible rfl)
            try simp only [Act.put, List.getElem_toArray, List.getElem_cons_zero, List.getElem_cons_succ, List.setIfInBounds_toArray, List.set_cons_zero, List.set_cons_succ]
            refine wpAnyH_take (i := 12) (v := ?_) rfl (by kernel_rfl) (by kernel_rfl) (by kernel_rfl) (fun _ _ _ h => h) (Or.inl ⟨by rfl, ?_⟩) (by assumption) ?_
            rotate_left
            ·intro w hSw; (try dsimp only at hSw); go_simp; (try with_reducible rfl)
            try simp only [Act.put, List.getElem_toArray, List.getElem_cons_zero, List.getElem_cons_succ, List.setIfInBounds_toArray, List.set_cons_zero, List.set_cons_succ]
            try simp only [h1, h2]
            refine wpAnyH_take (i := 13) (v := ?_) rfl (by kernel_rfl) (by kernel_rfl) (by kernel_rfl) (fun _ _ _ h => h) (Or.inl ⟨by rfl, ?_⟩) (by assumption) ?_
            rotate_left
            ·intro w hSw; (try dsimp only at hSw); go_simp; (try with_reducible rfl)
            try simp only [Act.put, List.getElem_toArray, List.getElem_cons_zero, List.getElem_cons_succ, List.setIfInBounds_toArray, List.set_cons_zero, List.set_cons_succ]
            try simp only [h1, h2]
            refine wpAnyH_take (i := 14) (v := ?_) rfl (by kernel_rfl) (by kernel_rfl) (by kernel_rfl) (fun _ _ _ h => h) (Or.inl ⟨by rfl, ?_⟩) (by assumption) ?_
            rotate_left
            ·intro w hSw; (try dsimp only at hSw); go_simp; (try with_reducible rfl)
            try simp only [Act.put, List.getElem_toArray, List.getElem_cons_zero, List.getElem_cons_succ, List.setIfInBounds_toArray, List.set_cons_zero, List.set_cons_succ]
            refine wpAnyH_take (i := 15) (v := ?_) rfl (by kernel_rfl) (by kernel_rfl) (by kernel_rfl) (fun _ _ _ h => h) (Or.inl ⟨by rfl, ?_⟩) (by assumption) ?_
            rotate_left
            ·intro w hSw; (try dsimp only at hSw); go_simp; (try with_reducible rfl)
            try simp only [Act.put, List.getElem_toArray, List.getElem_cons_zero, List.getElem_cons_succ, List.setIfInBounds_toArray, List.set_cons_zero, List.set_cons_succ]
            refine wpAnyH_take (i := 16) (v := ?_) rfl (by kernel_rfl) (by kernel_rfl) (by kernel_rfl) (fun _ _ _ h => h) (Or.inl ⟨by rfl, ?_⟩) (by assumption) ?_
            rotate_left
            ·intro w hSw; (try dsimp only at hSw); go_simp; (try with_reducible rfl)
            try simp only [Act.put, List.getElem_toArray, List.getElem_cons_zero, List.getElem_cons_succ, List.setIfInBounds_toArray, List.set_cons_zero, List.set_cons_succ]
            try simp only [h3]
            refine wpAnyH_take (i := 17) (v := ?_) rfl (by kernel_rfl) (by kernel_rfl) (by kernel_rfl) (fun _ _ _ h => h) (Or.inl ⟨by rfl, ?_⟩) (by assumption) ?_
            rotate_left
            ·intro w hSw; (try dsimp only at hSw); go_simp; (try with_reducible rfl)
            try simp only [Act.put, List.getElem_toArray, List.getElem_cons_zero, List.getElem_cons_succ, List.setIfInBounds_toArray, List.set_cons_zero, List.set_cons_succ]
            refine wpAnyH_take (i := 18) rfl (by kernel_rfl) (by kernel_rfl) (by kernel_rfl) (fun _ _ _ h => h) (Or.inr ⟨by rfl, rfl⟩) (by assumption) ?_
            try simp only [Act.put, List.getElem_toArray, List.getElem_cons_zero, List.getElem_cons_succ, List.setIfInBounds_toArray, List.set_cons_zero, List.set_cons_succ]
            refine wpAnyH_take (i := 19) rfl (by kernel_rfl) (by kernel_rfl) (by kernel_rfl) (fun _ _ _ h => h) (Or.inr ⟨by rfl, rfl⟩) (by assumption) ?_
            try simp only [Act.put, List.getElem_toArray, List.getElem_cons_zero, List.getElem_cons_succ, List.setIfInBounds_toArray, List.set_cons_zero, List.set_cons_succ]
            refine wpAnyH_take (i := 20) rfl (by kernel_rfl) (by kernel_rfl) (by kernel_rfl) (fun _ _ _ h => h) (Or.inr ⟨by rfl, rfl⟩) (by assumption) ?_
            try simp only [Act.put, List.getElem_toArray, List.getElem_cons_zero, List.getElem_cons_succ, List.setIfInBounds_toArray, List.set_cons_zero, List.set_cons_succ]
            try simp only [hBw2, hBw]
            refine wpAnyH_take (i := 21) rfl (by kernel_rfl) (by kernel_rfl) (by kernel_rfl) (fun _ _ _ h => h) (Or.inr ⟨by rfl, rfl⟩) (by assumption) ?_
            try simp only [Act.put, List.getElem_toArray, List.getElem_cons_zero, List.getElem_cons_succ, List.setIfInBounds_toArray, List.set_cons_zero, List.set_cons_succ]
            try simp only [hBw2, hBw]
            refine wpAnyH_take (i := 22) rfl (by kernel_rfl) (by kernel_rfl) (by kernel_rfl) (fun _ _ _ h => h) (Or.inr ⟨by rfl, rfl⟩) (by assumption) ?_
            try simp only [Act.put, List.getElem_toArray, List.getElem_cons_zero, List.getElem_cons_succ, List.setIfInBounds_toArray, List.set_cons_zero, List.set_cons_succ]
            refine wpAnyH_take (i := 23) rfl (by kernel_rfl) (by kernel_rfl) (by kernel_rfl) (fun _ _ _ h => h) (Or.inr ⟨by rfl, rfl⟩) (by assumption) ?_
            try simp only [Act.put, List.getElem_toArray, List.getElem_cons_zero, List.getElem_cons_succ, List.setIfInBounds_toArray, List.set_cons_zero, List.set_cons_succ]
            refine wpAnyH_take (i := 24) rfl (by kernel_rfl) (by kernel_rfl) (by kernel_rfl) (fun _ _ _ h => h) (Or.inr ⟨by rfl, rfl⟩) (by assumption) ?_
            try simp only [Act.put, List.getElem_toArray, List.getElem_cons_zero, List.getElem_cons_succ, List.setIfInBounds_toArray, List.set_cons_zero, List.set_cons_succ]
            refine wpAnyH_take (i := 25) rfl (by kernel_rfl) (by kernel_rfl) (by kernel_rfl) (fun _ _ _ h => h) (Or.inr ⟨by rfl, rfl⟩) (by assumption) ?_
            try simp only [Act.put, List.getElem_toArray, List.getElem_cons_zero, List.getElem_cons_succ, List.setIfInBounds_toArray, List.set_cons_zero, List.set_cons_succ]
            refine wpAnyH_take (i := 26) rfl (by kernel_rfl) (by kernel_rfl) (by kernel_rfl) (fun _ _ _ h => h) (Or.inr ⟨by rfl, rfl⟩) (by assumption) ?_
            try simp only [Act.put, List.getElem_toArray, List.getElem_cons_zero, List.getElem_cons_succ, List.setIfInBounds_toArray, List.set_cons_zero, List.set_cons_succ]
            refine wpAnyH_take (i := 27) rfl (by kernel_rfl) (by kernel_rfl) (by kernel_rfl) (fun _ _ _ h => h) (Or.inr ⟨by rfl, rfl⟩) (by assumption) ?_
            try simp only [Act.put, List.getElem_toArray, List.getElem_cons_zero, List.getElem_cons_succ, List.setIfInBounds_toArray, List.set_cons_zero, List.set_cons_succ]
            refine wpAnyH_take (i := 28) rfl (by kernel_rfl) (by kernel_rfl) (by kernel_rfl) (fun _ _ _ h => h) (Or.inr ⟨by rfl, rfl⟩) (by assumption) ?_
            try simp only [Act.put, List.getElem_toArray, List.getElem_cons_zero, List.getElem_cons_succ, List.setIfInBounds_toArray, List.set_cons_zero, List.set_cons_succ]
            refine wpAnyH_take (i := 29) (v := ?_) rfl (by kernel_rfl) (by kernel_rfl) (by kernel_rfl) (fun _ _ _ h => h) (Or.inl ⟨by rfl, ?_⟩) (by assumption) ?_
            rotate_left
            ·intro w hSw; (try dsimp only at hSw); go_simp; (try with_reducible rfl)
            try simp only [Act.put, List.getElem_toArray, List.getElem_cons_zero, List.getElem_cons_succ, List.setIfInBounds_toArray, List.set_cons_zero, List.set_cons_succ]
            refine wpAnyH_take (i := 30) (v := ?_) rfl (by kernel_rfl) (by kernel_rfl) (by kernel_rfl) (fun _ _ _ h => h) (Or.inl ⟨by rfl, ?_⟩) (by assumption) ?_
            rotate_left
            ·intro w hSw; (try dsimp only at hSw); go_simp; (try with_reducible rfl)
            try simp only [Act.put, List.getElem_toArray, List.getElem_cons_zero, List.getElem_cons_succ, List.setIfInBounds_toArray, List.set_cons_zero, List.set_cons_succ]
            refine wpAnyH_done (by kernel_rfl) ?_ _
            refine NoPanic.normal ?_
            go_wp2_with fail
            go_meet
            exact ⟨by first | rfl | (simp; omega), rfl⟩
           obtain ⟨e0, rfl⟩ : ∃ e0 : Nat, E = (e0 : Int) := ⟨E.toNat, by omega⟩
           have h3 : decide ((e0 : Int) < 0) = false := by simpa using hE0
           have e0M : e0 < M := by
            rcases HEc.out with ⟨q, _⟩ | ⟨j, q1, q2, _⟩
            ·omega
            ·omega
           have e00 : (e0 : Int) < (M : Int) := by omega
           have e01 : (0 : Int) ≤ (e0 : Int) := by omega
           have cz : we.cell? ⟨gp, e0, none⟩ = some (.int .i64 z) := by
            have q := Hz.out
            rw [Int.toNat_natCast] at q
            rw [← q]; exact row_at HBp.out (lV_at _ e0M)
           clear HEc HEn Hz
           by_cases hlt4 : y < z
           ·have h4 : decide (y < z) = true := by simpa using hlt4
            refine wp_region_noPanic ?_
            refine wp_region_held_drew (S := (fun w' => w'.cell? ⟨bn, on + i, none⟩ = some (.int .i64 x) ∧ w'.cell? ⟨gp, B, none⟩ = some (.int .i64 y) ∧ w'.cell? ⟨gp, e0, none⟩ = some (.int .i64 z))) (by kernel_rfl) ⟨cx, cy, cz⟩ (fun hHeld => ?_)
            refine wpAnyH_take (i := 0) (v := ?_) rfl (by kernel_rfl) (by kernel_rfl) (by kernel_rfl) (fun _ _ _ h => h) (Or.inl ⟨by rfl, ?_⟩) (by assumption) ?_
            rotate_left
            ·intro w hSw; (try dsimp only at hSw); go_simp; (try with_reducible rfl)
            try simp only [Act.put, List.getElem_toArray, List.getElem_cons_zero, List.setIfInBounds_toArray, List.set_cons_zero, List.set_cons_succ]
            refine wpAnyH_take (i := 1) (v := ?_) rfl (by kernel_rfl) (by kernel_rfl) (by kernel_rfl) (fun _ _ _ h => h) (Or.inl ⟨by rfl, ?_⟩) (by assumption) ?_
            rotate_left
            ·intro w hSw; (try dsimp only at hSw); go_simp; (try with_reducible rfl)
            try simp only [Act.put, List.getElem_toArray, List.getElem_cons_zero, List.getElem_cons_succ, List.setIfInBounds_toArray, List.set_cons_zero, List.set_cons_succ]
            refine wpAnyH_take (i := 2) (v := ?_) rfl (by kernel_rfl) (by kernel_rfl) (by kernel_rfl) (fun _ _ _ h => h) (Or.inl ⟨by rfl, ?_⟩) (by assumption) ?_
            rotate_left
            ·intro w hSw; (try dsimp only at hSw); go_simp; (try with_reducible rfl)
            try simp only [Act.put, List.getElem_toArray, List.getElem_cons_zero, List.getElem_cons_succ, List.setIfInBounds_toArray, List.set_cons_zero, List.set_cons_succ]
            refine wpAnyH_take (i := 3) (v := ?_) rfl (by kernel_rfl) (by kernel_rfl) (by kernel_rfl) (fun _ _ _ h => h) (Or.inl ⟨by rfl, ?_⟩) (by assumption) ?_
            rotate_left
            ·intro w hSw; (try dsimp only at hSw); go_simp; (try with_reducible rfl)
            try simp only [Act.put, List.getElem_toArray, List.getElem_cons_zero, List.getElem_cons_succ, List.setIfInBounds_toArray, List.set_cons_zero, List.set_cons_succ]
            refine wpAnyH_take (i := 4) (v := ?_) rfl (by kernel_rfl) (by kernel_rfl) (by kernel_rfl) (fun _ _ _ h => h) (Or.inl ⟨by rfl, ?_⟩) (by assumption) ?_
            rotate_left
            ·intro w hSw; (try dsimp only at hSw); go_simp; (try with_reducible rfl)
            try simp only [Act.put, List.getElem_toArray, List.getElem_cons_zero, List.getElem_cons_succ, List.setIfInBounds_toArray, List.set_cons_zero, List.set_cons_succ]
            try simp only [h1]
            refine wpAnyH_take (i := 5) (v := ?_) rfl (by kernel_rfl) (by kernel_rfl) (by kernel_rfl) (fun _ _ _ h => h) (Or.inl ⟨by rfl, ?_⟩) (by assumption) ?_
            rotate_left
            ·intro w hSw; (try dsimp only at hSw); go_simp; (try with_reducible rfl)
            try simp only [Act.put, List.getElem_toArray, List.getElem_cons_zero, List.getElem_cons_succ, List.setIfInBounds_toArray, List.set_cons_zero, List.set_cons_succ]
            refine wpAnyH_take (i := 6) (v := ?_) rfl (by kernel_rfl) (by kernel_rfl) (by kernel_rfl) (fun _ _ _ h => h) (Or.inl ⟨by rfl, ?_⟩) (by assumption) ?_
            rotate_left
            ·intro w hSw; (try dsimp only at hSw); go_simp; (try with_reducible rfl)
            try simp only [Act.put, List.getElem_toArray, List.getElem_cons_zero, List.getElem_cons_succ, List.setIfInBounds_toArray, List.set_cons_zero, List.set_cons_succ]
            refine wpAnyH_take (i := 7) (v := ?_) rfl (by kernel_rfl) (by kernel_rfl) (by kernel_rfl) (fun _ _ _ h => h) (Or.inl ⟨by rfl, ?_⟩) (by assumption) ?_
            rotate_left
            ·intro w hSw; (try dsimp only at hSw); go_simp; (try with_reducible rfl)
            try simp only [Act.put, List.getElem_toArray, List.getElem_cons_zero, List.getElem_cons_succ, List.setIfInBounds_toArray, List.set_cons_zero, List.set_cons_succ]
            refine wpAnyH_take (i := 8) (v := ?_) rfl (by kernel_rfl) (by kernel_rfl) (by kernel_rfl) (fun _ _ _ h => h) (Or.inl ⟨by rfl, ?_⟩) (by assumption) ?_
            rotate_left
            ·intro w hSw; (try dsimp only at hSw); go_simp; (try with_reducible rfl)
            try simp only [Act.put, List.getElem_toArray, List.getElem_cons_zero, List.getElem_cons_succ, List.setIfInBounds_toArray, List.set_cons_zero, List.set_cons_succ]
            try simp only [hBw2, hBw]
            refine wpAnyH_take (i := 9) (v := ?_) rfl (by kernel_rfl) (by kernel_rfl) (by kernel_rfl) (fun _ _ _ h => h) (Or.inl ⟨by rfl, ?_⟩) (by assumption) ?_
            rotate_left
            ·intro w hSw; (try dsimp only at hSw); go_simp; (try with_reducible rfl)
            try simp only [Act.put, List.getElem_toArray, List.getElem_cons_zero, List.getElem_cons_succ, List.setIfInBounds_toArray, List.set_cons_zero, List.set_cons_succ]
            try simp only [hBw2, hBw]
            refine wpAnyH_take (i := 10) (v := ?_) rfl (by kernel_rfl) (by kernel_rfl) (by kernel_rfl) (fun _ _ _ h => h) (Or.inl ⟨by rfl, ?_⟩) (by assumption) ?_
            rotate_left
            ·intro w hSw; (try dsimp only at hSw); go_simp; (try with_reducible rfl)
            try simp only [Act.put, List.getElem_toArray, List.getElem_cons_zero, List.getElem_cons_succ, List.setIfInBounds_toArray, List.set_cons_zero, List.set_cons_succ]
            refine wpAnyH_take (i := 11) (v := ?_) rfl (by kernel_rfl) (by kernel_rfl) (by kernel_rfl) (fun _ _ _ h => h) (Or.inl ⟨by rfl, ?_⟩) (by assumption) ?_
            rotate_left
            ·intro w hSw; (try dsimp only at hSw); go_simp; (try with_reducible rfl)
            try simp only [Act.put, List.getElem_toArray, List.getElem_cons_zero, List.getElem_cons_succ, List.setIfInBounds_toArray, List.set_cons_zero, List.set_cons_succ]
            refine wpAnyH_take (i := 12) (v := ?_) rfl (by kernel_rfl) (by kernel_rfl) (by kernel_rfl) (fun _ _ _ h => h) (Or.inl ⟨by rfl, ?_⟩) (by assumption) ?_
            rotate_left
            ·intro w hSw; (try dsimp only at hSw); go_simp; (try with_reducible rfl)
            try simp only [Act.put, List.getElem_toArray, List.getElem_cons_zero, List.getElem_cons_succ, List.setIfInBounds_toArray, List.set_cons_zero, List.set_cons_succ]
            try simp only [h1, h2]
            refine wpAnyH_take (i := 13) (v := ?_) rfl (by kernel_rfl) (by kernel_rfl) (by kernel_rfl) (fun _ _ _ h => h) (Or.inl ⟨by rfl, ?_⟩) (by assumption) ?_
            rotate_left
            ·intro w hSw; (try dsimp only at hSw); go_simp; (try with_reducible rfl)
            try simp only [Act.put, List.getElem_toArray, List.getElem_cons_zero, List.getElem_cons_succ, List.setIfInBounds_toArray, List.set_cons_zero, List.set_cons_succ]
            try simp only [h1, h2]
            refine wpAnyH_take (i := 14) (v := ?_) rfl (by kernel_rfl) (by kernel_rfl) (by kernel_rfl) (fun _ _ _ h => h) (Or.inl ⟨by rfl, ?_⟩) (by assumption) ?_
            rotate_left
            ·intro w hSw; (try dsimp only at hSw); go_simp; (try with_reducible rfl)
            try simp only [Act.put, List.getElem_toArray, List.getElem_cons_zero, List.getElem_cons_succ, List.setIfInBounds_toArray, List.set_cons_zero, List.set_cons_succ]
            refine wpAnyH_take (i := 15) (v := ?_) rfl (by kernel_rfl) (by kernel_rfl) (by kernel_rfl) (fun _ _ _ h => h) (Or.inl ⟨by rfl, ?_⟩) (by assumption) ?_
            rotate_left
            ·intro w hSw; (try dsimp only at hSw); go_simp; (try with_reducible rfl)
            try simp only [Act.put, List.getElem_toArray, List.getElem_cons_zero, List.getElem_cons_succ, List.setIfInBounds_toArray, List.set_cons_zero, List.set_cons_succ]
            refine wpAnyH_take (i := 16) (v := ?_) rfl (by kernel_rfl) (by kernel_rfl) (by kernel_rfl) (fun _ _ _ h => h) (Or.inl ⟨by rfl, ?_⟩) (by assumption) ?_
            rotate_left
            ·intro w hSw; (try dsimp only at hSw); go_simp; (try with_reducible rfl)
            try simp only [Act.put, List.getElem_toArray, List.getElem_cons_zero, List.getElem_cons_succ, List.setIfInBounds_toArray, List.set_cons_zero, List.set_cons_succ]
            try simp only [h3]
            refine wpAnyH_take (i := 17) (v := ?_) rfl (by kernel_rfl) (by kernel_rfl) (by kernel_rfl) (fun _ _ _ h => h) (Or.inl ⟨by rfl, ?_⟩) (by assumption) ?_
            rotate_left
            ·intro w hSw; (try dsimp only at hSw); go_simp; (try with_reducible rfl)
            try simp only [Act.put, List.getElem_toArray, List.getElem_cons_zero, List.getElem_cons_succ, List.setIfInBounds_toArray, List.set_cons_zero, List.set_cons_succ]
            refine wpAnyH_take (i := 18) (v := ?_) rfl (by kernel_rfl) (by kernel_rfl) (by kernel_rfl) (fun _ _ _ h => h) (Or.inl ⟨by rfl, ?_⟩) (by assumption) ?_
            rotate_left
            ·intro w hSw; (try dsimp only at hSw); go_simp; (try with_reducible rfl)
            try simp only [Act.put, List.getElem_toArray, List.getElem_cons_zero, List.getElem_cons_succ, List.setIfInBounds_toArray, List.set_cons_zero, List.set_cons_succ]
            refine wpAnyH_take (i := 19) (v := ?_) rfl (by kernel_rfl) (by kernel_rfl) (by kernel_rfl) (fun _ _ _ h => h) (Or.inl ⟨by rfl, ?_⟩) (by assumption) ?_
            rotate_left
            ·intro w hSw; (try dsimp only at hSw); go_simp; (try with_reducible rfl)
            try simp only [Act.put, List.getElem_toArray, List.getElem_cons_zero, List.getElem_cons_succ, List.setIfInBounds_toArray, List.set_cons_zero, List.set_cons_succ]
            refine wpAnyH_take (i := 20) (v := ?_) rfl (by kernel_rfl) (by kernel_rfl) (by kernel_rfl) (fun _ _ _ h => h) (Or.inl ⟨by rfl, ?_⟩) (by assumption) ?_
            rotate_left
            ·intro w hSw; (try dsimp only at hSw); go_simp; (try with_reducible rfl)
            try simp only [Act.put, List.getElem_toArray, List.getElem_cons_zero, List.getElem_cons_succ, List.setIfInBounds_toArray, List.set_cons_zero, List.set_cons_succ]
            try simp only [hBw2, hBw]
            refine wpAnyH_take (i := 21) (v := ?_) rfl (by kernel_rfl) (by kernel_rfl) (by kernel_rfl) (fun _ _ _ h => h) (Or.inl ⟨by rfl, ?_⟩) (by assumption) ?_
            rotate_left
            ·intro w hSw; (try dsimp only at hSw); go_simp; (try with_reducible rfl)
            try simp only [Act.put, List.getElem_toArray, List.getElem_cons_zero, List.getElem_cons_succ, List.setIfInBounds_toArray, List.set_cons_zero, List.set_cons_succ]
            try simp only [hBw2, hBw]
            refine wpAnyH_take (i := 22) (v := ?_) rfl (by kernel_rfl) (by kernel_rfl) (by kernel_rfl) (fun _ _ _ h => h) (Or.inl ⟨by rfl, ?_⟩) (by assumption) ?_
            rotate_left
            ·intro w hSw; (try dsimp only at hSw); go_simp; (try with_reducible rfl)
            try simp only [Act.put, List.getElem_toArray, List.getElem_cons_zero, List.getElem_cons_succ, List.setIfInBounds_toArray, List.set_cons_zero, List.set_cons_succ]
            refine wpAnyH_take (i := 23) (v := ?_) rfl (by kernel_rfl) (by kernel_rfl) (by kernel_rfl) (fun _ _ _ h => h) (Or.inl ⟨by rfl, ?_⟩) (by assumption) ?_
            rotate_left
            ·intro w hSw; (try dsimp only at hSw); go_simp; (try with_reducible rfl)
            try simp only [Act.put, List.getElem_toArray, List.getElem_cons_zero, List.getElem_cons_succ, List.setIfInBounds_toArray, List.set_cons_zero, List.set_cons_succ]
            refine wpAnyH_take (i := 24) (v := ?_) rfl (by kernel_rfl) (by kernel_rfl) (by kernel_rfl) (fun _ _ _ h => h) (Or.inl ⟨by rfl, ?_⟩) (by assumption) ?_
            rotate_left
            ·intro w hSw; (try dsimp only at hSw); go_simp; (try with_reducible rfl)
            try simp only [Act.put, List.getElem_toArray, List.getElem_cons_zero, List.getElem_cons_succ, List.setIfInBounds_toArray, List.set_cons_zero, List.set_cons_succ]
            refine wpAnyH_take (i := 25) (v := ?_) rfl (by kernel_rfl) (by kernel_rfl) (by kernel_rfl) (fun _ _ _ h => h) (Or.inl ⟨by rfl, ?_⟩) (by assumption) ?_
            rotate_left
            ·intro w hSw; (try dsimp only at hSw); go_simp; (try with_reducible rfl)
            try simp only [Act.put, List.getElem_toArray, List.getElem_cons_zero, List.getElem_cons_succ, List.setIfInBounds_toArray, List.set_cons_zero, List.set_cons_succ]
            refine wpAnyH_take (i := 26) (v := ?_) rfl (by kernel_rfl) (by kernel_rfl) (by kernel_rfl) (fun _ _ _ h => h) (Or.inl ⟨by rfl, ?_⟩) (by assumption) ?_
            rotate_left
            ·intro w hSw; (try dsimp only at hSw); go_simp; (try with_reducible rfl)
            try simp only [Act.put, List.getElem_toArray, List.getElem_cons_zero, List.getElem_cons_succ, List.setIfInBounds_toArray, List.set_cons_zero, List.set_cons_succ]
            refine wpAnyH_take (i := 27) (v := ?_) rfl (by kernel_rfl) (by kernel_rfl) (by kernel_rfl) (fun _ _ _ h => h) (Or.inl ⟨by rfl, ?_⟩) (by assumption) ?_
            rotate_left
            ·intro w hSw; (try dsimp only at hSw); go_simp; (try with_reducible rfl)
            try simp only [Act.put, List.getElem_toArray, List.getElem_cons_zero, List.getElem_cons_succ, List.setIfInBounds_toArray, List.set_cons_zero, List.set_cons_succ]
            refine wpAnyH_take (i := 28) (v := ?_) rfl (by kernel_rfl) (by kernel_rfl) (by kernel_rfl) (fun _ _ _ h => h) (Or.inl ⟨by rfl, ?_⟩) (by assumption) ?_
            rotate_left
            ·intro w hSw; (try dsimp only at hSw); go_simp; (try with_reducible rfl)
            try simp only [Act.put, List.getElem_toArray, List.getElem_cons_zero, List.getElem_cons_succ, List.setIfInBounds_toArray, List.set_cons_zero, List.set_cons_succ]
            try simp only [h4]
            refine wpAnyH_take (i := 29) (v := ?_) rfl (by kernel_rfl) (by kernel_rfl) (by kernel_rfl) (fun _ _ _ h => h) (Or.inl ⟨by rfl, ?_⟩) (by assumption) ?_
            rotate_left
            ·intro w hSw; (try dsimp only at hSw); go_simp; (try with_reducible rfl)
            try simp only [Act.put, List.getElem_toArray, List.getElem_cons_zero, List.getElem_cons_succ, List.setIfInBounds_toArray, List.set_cons_zero, List.set_cons_succ]
            refine wpAnyH_take (i := 30) (v := ?_) rfl (by kernel_rfl) (by kernel_rfl) (by kernel_rfl) (fun _ _ _ h => h) (Or.inl ⟨by rfl, ?_⟩) (by assumption) ?_
            rotate_left
            ·intro w hSw; (try dsimp only at hSw); go_simp; (try with_reducible rfl)
            try simp only [Act.put, List.getElem_toArray, List.getElem_cons_zero, List.getElem_cons_succ, List.setIfInBounds_toArray, List.set_cons_zero, List.set_cons_succ]
            refine wpAnyH_done (by kernel_rfl) ?_ _
            refine NoPanic.normal ?_
            go_wp2_with fail
            go_meet
            exact ⟨by first | rfl | (simp; omega), rfl⟩
           ·have h4 : decide (y < z) = false := by simpa using hlt4
            refine wp_region_noPanic ?_
            refine wp_region_held_drew (S := (fun w' => w'.cell? ⟨bn, on + i, none⟩ = some (.int .i64 x) ∧ w'.cell? ⟨gp, B, none⟩ = some (.int .i64 y) ∧ w'.cell? ⟨gp, e0, none⟩ = some (.int .i64 z))) (by kernel_rfl) ⟨cx, cy, cz⟩ (fun hHeld => ?_)
            refine wpAnyH_take (i := 0) (v := ?_) rfl (by kernel_rfl) (by kernel_rfl) (by kernel_rfl) (fun _ _ _ h => h) (Or.inl ⟨by rfl, ?_⟩) (by assumption) ?_
            rotate_left
            ·intro w hSw; (try dsimp only at hSw); go_simp; (try with_reducible rfl)
            try simp only [Act.put, List.getElem_toArray, List.getElem_cons_zero, List.setIfInBounds_toArray, List.set_cons_zero, List.set_cons_succ]
            refine wpAnyH_take (i := 1) (v := ?_) rfl (by kernel_rfl) (by kernel_rfl) (by kernel_rfl) (fun _ _ _ h => h) (Or.inl ⟨by rfl, ?_⟩) (by assumption) ?_
            rotate_left
            ·intro w hSw; (try dsimp only at hSw); go_simp; (try with_reducible rfl)
            try simp only [Act.put, List.getElem_toArray, List.getElem_cons_zero, List.getElem_cons_succ, List.setIfInBounds_toArray, List.set_cons_zero, List.set_cons_succ]
            refine wpAnyH_take (i := 2) (v := ?_) rfl (by kernel_rfl) (by kernel_rfl) (by kernel_rfl) (fun _ _ _ h => h) (Or.inl ⟨by rfl, ?_⟩) (by assumption) ?_
            rotate_left
            ·intro w hSw; (try dsimp only at hSw); go_simp; (try with_reducible rfl)
            try simp only [Act.put, List.getElem_toArray, List.getElem_cons_zero, List.getElem_cons_succ, List.setIfInBounds_toArray, List.set_cons_zero, List.set_cons_succ]
            refine wpAnyH_take (i := 3) (v := ?_) rfl (by kernel_rfl) (by kernel_rfl) (by kernel_rfl) (fun _ _ _ h => h) (Or.inl ⟨by rfl, ?_⟩) (by assumption) ?_
            rotate_left
            ·intro w hSw; (try dsimp only at hSw); go_simp; (try with_reducible rfl)
            try simp only [Act.put, List.getElem_toArray, List.getElem_cons_zero, List.getElem_cons_succ, List.setIfInBounds_toArray, List.set_cons_zero, List.set_cons_succ]
            refine wpAnyH_take (i := 4) (v := ?_) rfl (by kernel_rfl) (by kernel_rfl) (by kernel_rfl) (fun _ _ _ h => h) (Or.inl ⟨by rfl, ?_⟩) (by assumption) ?_
            rotate_left
            ·intro w hSw; (try dsimp only at hSw); go_simp; (try with_reducible rfl)
            try simp only [Act.put, List.getElem_toArray, List.getElem_cons_zero, List.getElem_cons_succ, List.setIfInBounds_toArray, List.set_cons_zero, List.set_cons_succ]
            try simp only [h1]
            refine wpAnyH_take (i := 5) (v := ?_) rfl (by kernel_rfl) (by kernel_rfl) (by kernel_rfl) (fun _ _ _ h => h) (Or.inl ⟨by rfl, ?_⟩) (by assumption) ?_
            rotate_left
            ·intro w hSw; (try dsimp only at hSw); go_simp; (try with_reducible rfl)
            try simp only [Act.put, List.getElem_toArray, List.getElem_cons_zero, List.getElem_cons_succ, List.setIfInBounds_toArray, List.set_cons_zero, List.set_cons_succ]
            refine wpAnyH_take (i := 6) (v := ?_) rfl (by kernel_rfl) (by kernel_rfl) (by kernel_rfl) (fun _ _ _ h => h) (Or.inl ⟨by rfl, ?_⟩) (by assumption) ?_
            rotate_left
            ·intro w hSw; (try dsimp only at hSw); go_simp; (try with_reducible rfl)
            try simp only [Act.put, List.getElem_toArray, List.getElem_cons_zero, List.getElem_cons_succ, List.setIfInBounds_toArray, List.set_cons_zero, List.set_cons_succ]
            refine wpAnyH_take (i := 7) (v := ?_) rfl (by kernel_rfl) (by kernel_rfl) (by kernel_rfl) (fun _ _ _ h => h) (Or.inl ⟨by rfl, ?_⟩) (by assumption) ?_
            rotate_left
            ·intro w hSw; (try dsimp only at hSw); go_simp; (try with_reducible rfl)
            try simp only [Act.put, List.getElem_toArray, List.getElem_cons_zero, List.getElem_cons_succ, List.setIfInBounds_toArray, List.set_cons_zero, List.set_cons_succ]
            refine wpAnyH_take (i := 8) (v := ?_) rfl (by kernel_rfl) (by kernel_rfl) (by kernel_rfl) (fun _ _ _ h => h) (Or.inl ⟨by rfl, ?_⟩) (by assumption) ?_
            rotate_left
            ·intro w hSw; (try dsimp only at hSw); go_simp; (try with_reducible rfl)
            try simp only [Act.put, List.getElem_toArray, List.getElem_cons_zero, List.getElem_cons_succ, List.setIfInBounds_toArray, List.set_cons_zero, List.set_cons_succ]
            try simp only [hBw2, hBw]
            refine wpAnyH_take (i := 9) (v := ?_) rfl (by kernel_rfl) (by kernel_rfl) (by kernel_rfl) (fun _ _ _ h => h) (Or.inl ⟨by rfl, ?_⟩) (by assumption) ?_
            rotate_left
            ·intro w hSw; (try dsimp only at hSw); go_simp; (try with_reducible rfl)
            try simp only [Act.put, List.getElem_toArray, List.getElem_cons_zero, List.getElem_cons_succ, List.setIfInBounds_toArray, List.set_cons_zero, List.set_cons_succ]
            try simp only [hBw2, hBw]
            refine wpAnyH_take (i := 10) (v := ?_) rfl (by kernel_rfl) (by kernel_rfl) (by kernel_rfl) (fun _ _ _ h => h) (Or.inl ⟨by rfl, ?_⟩) (by assumption) ?_
            rotate_left
            ·intro w hSw; (try dsimp only at hSw); go_simp; (try with_reducible rfl)
            try simp only [Act.put, List.getElem_toArray, List.getElem_cons_zero, List.getElem_cons_succ, List.setIfInBounds_toArray, List.set_cons_zero, List.set_cons_succ]
            refine wpAnyH_take (i := 11) (v := ?_) rfl (by kernel_rfl) (by kernel_rfl) (by kernel_rfl) (fun _ _ _ h => h) (Or.inl ⟨by rfl, ?_⟩) (by assumption) ?_
            rotate_left
            ·intro w hSw; (try dsimp only at hSw); go_simp; (try with_reducible rfl)
            try simp only [Act.put, List.getElem_toArray, List.getElem_cons_zero, List.getElem_cons_succ, List.setIfInBounds_toArray, List.set_cons_zero, List.set_cons_succ]
            refine wpAnyH_take (i := 12) (v := ?_) rfl (by kernel_rfl) (by kernel_rfl) (by kernel_rfl) (fun _ _ _ h => h) (Or.inl ⟨by rfl, ?_⟩) (by assumption) ?_
            rotate_left
            ·intro w hSw; (try dsimp only at hSw); go_simp; (try with_reducible rfl)
            try simp only [Act.put, List.getElem_toArray, List.getElem_cons_zero, List.getElem_cons_succ, List.setIfInBounds_toArray, List.set_cons_zero, List.set_cons_succ]
            try simp only [h1, h2]
            refine wpAnyH_take (i := 13) (v := ?_) rfl (by kernel_rfl) (by kernel_rfl) (by kernel_rfl) (fun _ _ _ h => h) (Or.inl ⟨by rfl, ?_⟩) (by assumption) ?_
            rotate_left
            ·intro w hSw; (try dsimp only at hSw); go_simp; (try with_reducible rfl)
            try simp only [Act.put, List.getElem_toArray, List.getElem_cons_zero, List.getElem_cons_succ, List.setIfInBounds_toArray, List.set_cons_zero, List.set_cons_succ]
            try simp only [h1, h2]
            refine wpAnyH_take (i := 14) (v := ?_) rfl (by kernel_rfl) (by kernel_rfl) (by kernel_rfl) (fun _ _ _ h => h) (Or.inl ⟨by rfl, ?_⟩) (by assumption) ?_
            rotate_left
            ·intro w hSw; (try dsimp only at hSw); go_simp; (try with_reducible rfl)
            try simp only [Act.put, List.getElem_toArray, List.getElem_cons_zero, List.getElem_cons_succ, List.setIfInBounds_toArray, List.set_cons_zero, List.set_cons_succ]
            refine wpAnyH_take (i := 15) (v := ?_) rfl (by kernel_rfl) (by kernel_rfl) (by kernel_rfl) (fun _ _ _ h => h) (Or.inl ⟨by rfl, ?_⟩) (by assumption) ?_
            rotate_left
            ·intro w hSw; (try dsimp only at hSw); go_simp; (try with_reducible rfl)
            try simp only [Act.put, List.getElem_toArray, List.getElem_cons_zero, List.getElem_cons_succ, List.setIfInBounds_toArray, List.set_cons_zero, List.set_cons_succ]
            refine wpAnyH_take (i := 16) (v := ?_) rfl (by kernel_rfl) (by kernel_rfl) (by kernel_rfl) (fun _ _ _ h => h) (Or.inl ⟨by rfl, ?_⟩) (by assumption) ?_
            rotate_left
            ·intro w hSw; (try dsimp only at hSw); go_simp; (try with_reducible rfl)
            try simp only [Act.put, List.getElem_toArray, List.getElem_cons_zero, List.getElem_cons_succ, List.setIfInBounds_toArray, List.set_cons_zero, List.set_cons_succ]
            try simp only [h3]
            refine wpAnyH_take (i := 17) (v := ?_) rfl (by kernel_rfl) (by kernel_rfl) (by kernel_rfl) (fun _ _ _ h => h) (Or.inl ⟨by rfl, ?_⟩) (by assumption) ?_
            rotate_left
            ·intro w hSw; (try dsimp only at hSw); go_simp; (try with_reducible rfl)
            try simp only [Act.put, List.getElem_toArray, List.getElem_cons_zero, List.getElem_cons_succ, List.setIfInBounds_toArray, List.set_cons_zero, List.set_cons_succ]
            refine wpAnyH_take (i := 18) (v := ?_) rfl (by kernel_rfl) (by kernel_rfl) (by kernel_rfl) (fun _ _ _ h => h) (Or.inl ⟨by rfl, ?_⟩) (by assumption) ?_
            rotate_left
            ·intro w hSw; (try dsimp only at hSw); go_simp; (try with_reducible rfl)
            try simp only [Act.put, List.getElem_toArray, List.getElem_cons_zero, List.getElem_cons_succ, List.setIfInBounds_toArray, List.set_cons_zero, List.set_cons_succ]
            refine wpAnyH_take (i := 19) (v := ?_) rfl (by kernel_rfl) (by kernel_rfl) (by kernel_rfl) (fun _ _ _ h => h) (Or.inl ⟨by rfl, ?_⟩) (by assumption) ?_
            rotate_left
            ·intro w hSw; (try dsimp only at hSw); go_simp; (try with_reducible rfl)
            try simp only [Act.put, List.getElem_toArray, List.getElem_cons_zero, List.getElem_cons_succ, List.setIfInBounds_toArray, List.set_cons_zero, List.set_cons_succ]
            refine wpAnyH_take (i := 20) (v := ?_) rfl (by kernel_rfl) (by kernel_rfl) (by kernel_rfl) (fun _ _ _ h => h) (Or.inl ⟨by rfl, ?_⟩) (by assumption) ?_
            rotate_left
            ·intro w hSw; (try dsimp only at hSw); go_simp; (try with_reducible rfl)
            try simp only [Act.put, List.getElem_toArray, List.getElem_cons_zero, List.getElem_cons_succ, List.setIfInBounds_toArray, List.set_cons_zero, List.set_cons_succ]
            try simp only [hBw2, hBw]
            refine wpAnyH_take (i := 21) (v := ?_) rfl (by kernel_rfl) (by kernel_rfl) (by kernel_rfl) (fun _ _ _ h => h) (Or.inl ⟨by rfl, ?_⟩) (by assumption) ?_
            rotate_left
            ·intro w hSw; (try dsimp only at hSw); go_simp; (try with_reducible rfl)
            try simp only [Act.put, List.getElem_toArray, List.getElem_cons_zero, List.getElem_cons_succ, List.setIfInBounds_toArray, List.set_cons_zero, List.set_cons_succ]
            try simp only [hBw2, hBw]
            refine wpAnyH_take (i := 22) (v := ?_) rfl (by kernel_rfl) (by kernel_rfl) (by kernel_rfl) (fun _ _ _ h => h) (Or.inl ⟨by rfl, ?_⟩) (by assumption) ?_
            rotate_left
            ·intro w hSw; (try dsimp only at hSw); go_simp; (try with_reducible rfl)
            try simp only [Act.put, List.getElem_toArray, List.getElem_cons_zero, List.getElem_cons_succ, List.setIfInBounds_toArray, List.set_cons_zero, List.set_cons_succ]
            refine wpAnyH_take (i := 23) (v := ?_) rfl (by kernel_rfl) (by kernel_rfl) (by kernel_rfl) (fun _ _ _ h => h) (Or.inl ⟨by rfl, ?_⟩) (by assumption) ?_
            rotate_left
            ·intro w hSw; (try dsimp only at hSw); go_simp; (try with_reducible rfl)
            try simp only [Act.put, List.getElem_toArray, List.getElem_cons_zero, List.getElem_cons_succ, List.setIfInBounds_toArray, List.set_cons_zero, List.set_cons_succ]
            refine wpAnyH_take (i := 24) (v := ?_) rfl (by kernel_rfl) (by kernel_rfl) (by kernel_rfl) (fun _ _ _ h => h) (Or.inl ⟨by rfl, ?_⟩) (by assumption) ?_
            rotate_left
            ·intro w hSw; (try dsimp only at hSw); go_simp; (try with_reducible rfl)
            try simp only [Act.put, List.getElem_toArray, List.getElem_cons_zero, List.getElem_cons_succ, List.setIfInBounds_toArray, List.set_cons_zero, List.set_cons_succ]
            refine wpAnyH_take (i := 25) (v := ?_) rfl (by kernel_rfl) (by kernel_rfl) (by kernel_rfl) (fun _ _ _ h => h) (Or.inl ⟨by rfl, ?_⟩) (by assumption) ?_
            rotate_left
            ·intro w hSw; (try dsimp only at hSw); go_simp; (try with_reducible rfl)
            try simp only [Act.put, List.getElem_toArray, List.getElem_cons_zero, List.getElem_cons_succ, List.setIfInBounds_toArray, List.set_cons_zero, List.set_cons_succ]
            refine wpAnyH_take (i := 26) (v := ?_) rfl (by kernel_rfl) (by kernel_rfl) (by kernel_rfl) (fun _ _ _ h => h) (Or.inl ⟨by rfl, ?_⟩) (by assumption) ?_
            rotate_left
            ·intro w hSw; (try dsimp only at hSw); go_simp; (try with_reducible rfl)
            try simp only [Act.put, List.getElem_toArray, List.getElem_cons_zero, List.getElem_cons_succ, List.setIfInBounds_toArray, List.set_cons_zero, List.set_cons_succ]
            refine wpAnyH_take (i := 27) (v := ?_) rfl (by kernel_rfl) (by kernel_rfl) (by kernel_rfl) (fun _ _ _ h => h) (Or.inl ⟨by rfl, ?_⟩) (by assumption) ?_
            rotate_left
            ·intro w hSw; (try dsimp only at hSw); go_simp; (try with_reducible rfl)
            try simp only [Act.put, List.getElem_toArray, List.getElem_cons_zero, List.getElem_cons_succ, List.setIfInBounds_toArray, List.set_cons_zero, List.set_cons_succ]
            refine wpAnyH_take (i := 28) (v := ?_) rfl (by kernel_rfl) (by kernel_rfl) (by kernel_rfl) (fun _ _ _ h => h) (Or.inl ⟨by rfl, ?_⟩) (by assumption) ?_
            rotate_left
            ·intro w hSw; (try dsimp only at hSw); go_simp; (try with_reducible rfl)
            try simp only [Act.put, List.getElem_toArray, List.getElem_cons_zero, List.getElem_cons_succ, List.setIfInBounds_toArray, List.set_cons_zero, List.set_cons_succ]
            try simp only [h4]
            refine wpAnyH_take (i := 29) (v := ?_) rfl (by kernel_rfl) (by kernel_rfl) (by kernel_rfl) (fun _ _ _ h => h) (Or.inl ⟨by rfl, ?_⟩) (by assumption) ?_
            rotate_left
            ·intro w hSw; (try dsimp only at hSw); go_simp; (try with_reducible rfl)
            try simp only [Act.put, List.getElem_toArray, List.getElem_cons_zero, List.getElem_cons_succ, List.setIfInBounds_toArray, List.set_cons_zero, List.set_cons_succ]
            refine wpAnyH_take (i := 30) (v := ?_) rfl (by kernel_rfl) (by kernel_rfl) (by kernel_rfl) (fun _ _ _ h => h) (Or.inl ⟨by rfl, ?_⟩) (by assumption) ?_
            rotate_left
            ·intro w hSw; (try dsimp only at hSw); go_simp; (try with_reducible rfl)
            try simp only [Act.put, List.getElem_toArray, List.getElem_cons_zero, List.getElem_cons_succ, List.setIfInBounds_toArray, List.set_cons_zero, List.set_cons_succ]
            refine wpAnyH_done (by kernel_rfl) ?_ _
            refine NoPanic.normal ?_
            go_wp2_with fail
            go_meet
            exact ⟨by first | rfl | (simp; omega), rfl⟩
          ·have h2 : decide (y < 1152921504606846976) = false := by simpa using hyf
           refine wp_region_noPanic ?_
           refine wp_region_held_drew (S := (fun w' => w'.cell? ⟨bn, on + i, none⟩ = some (.int .i64 x) ∧ w'.cell? ⟨gp, B, none⟩ = some (.int .i64 y))) (by kernel_rfl) ⟨cx, cy⟩ (fun hHeld => ?_)
           refine wpAnyH_take (i := 0) (v := ?_) rfl (by kernel_rfl) (by kernel_rfl) (by kernel_rfl) (fun _ _ _ h => h) (Or.inl ⟨by rfl, ?_⟩) (by assumption) ?_
           rotate_left
           ·intro w hSw; (try dsimp only at hSw); go_simp; (try with_reducible rfl)
           try simp only [Act.put, List.getElem_toArray, List.getElem_cons_zero, List.setIfInBounds_toArray, List.set_cons_zero, List.set_cons_succ]
           refine wpAnyH_take (i := 1) (v := ?_) rfl (by kernel_rfl) (by kernel_rfl) (by kernel_rfl) (fun _ _ _ h => h) (Or.inl ⟨by rfl, ?_⟩) (by assumption) ?_
           rotate_left
           ·intro w hSw; (try dsimp only at hSw); go_simp; (try with_reducible rfl)
           try simp only [Act.put, List.getElem_toArray, List.getElem_cons_zero, List.getElem_cons_succ, List.setIfInBounds_toArray, List.set_cons_zero, List.set_cons_succ]
           refine wpAnyH_take (i := 2) (v := ?_) rfl (by kernel_rfl) (by kernel_rfl) (by kernel_rfl) (fun _ _ _ h => h) (Or.inl ⟨by rfl, ?_⟩) (by assumption) ?_
           rotate_left
           ·intro w hSw; (try dsimp only at hSw); go_simp; (try with_reducible rfl)
           try simp only [Act.put, List.getElem_toArray, List.getElem_cons_zero, List.getElem_cons_succ, List.setIfInBounds_toArray, List.set_cons_zero, List.set_cons_succ]
           refine wpAnyH_take (i := 3) (v := ?_) rfl (by kernel_rfl) (by kernel_rfl) (by kernel_rfl) (fun _ _ _ h => h) (Or.inl ⟨by rfl, ?_⟩) (by assumption) ?_
           rotate_left
           ·intro w hSw; (try dsimp only at hSw); go_simp; (try with_reducible rfl)
           try simp only [Act.put, List.getElem_toArray, List.getElem_cons_zero, List.getElem_cons_succ, List.setIfInBounds_toArray, List.set_cons_zero, List.set_cons_succ]
           refine wpAnyH_take (i := 4) (v := ?_) rfl (by kernel_rfl) (by kernel_rfl) (by kernel_rfl) (fun _ _ _ h => h) (Or.inl ⟨by rfl, ?_⟩) (by assumption) ?_
           rotate_left
           ·intro w hSw; (try dsimp only at hSw); go_simp; (try with_reducible rfl)
           try simp only [Act.put, List.getElem_toArray, List.getElem_cons_zero, List.getElem_cons_succ, List.setIfInBounds_toArray, List.set_cons_zero, List.set_cons_succ]
           try simp only [h1]
           refine wpAnyH_take (i := 5) (v := ?_) rfl (by kernel_rfl) (by kernel_rfl) (by kernel_rfl) (fun _ _ _ h => h) (Or.inl ⟨by rfl, ?_⟩) (by assumption) ?_
           rotate_left
           ·intro w hSw; (try dsimp only at hSw); go_simp; (try with_reducible rfl)
           try simp only [Act.put, List.getElem_toArray, List.getElem_cons_zero, List.getElem_cons_succ, List.setIfInBounds_toArray, List.set_cons_zero, List.set_cons_succ]
           refine wpAnyH_take (i := 6) (v := ?_) rfl (by kernel_rfl) (by kernel_rfl) (by kernel_rfl) (fun _ _ _ h => h) (Or.inl ⟨by rfl, ?_⟩) (by assumption) ?_
           rotate_left
           ·intro w hSw; (try dsimp only at hSw); go_simp; (try with_reducible rfl)
           try simp only [Act.put, List.getElem_toArray, List.getElem_cons_zero, List.getElem_cons_succ, List.setIfInBounds_toArray, List.set_cons_zero, List.set_cons_succ]
           refine wpAnyH_take (i := 7) (v := ?_) rfl (by kernel_rfl) (by kernel_rfl) (by kernel_rfl) (fun _ _ _ h => h) (Or.inl ⟨by rfl, ?_⟩) (by assumption) ?_
           rotate_left
           ·intro w hSw; (try dsimp only at hSw); go_simp; (try with_reducible rfl)
           try simp only [Act.put, List.getElem_toArray, List.getElem_cons_zero, List.getElem_cons_succ, List.setIfInBounds_toArray, List.set_cons_zero, List.set_cons_succ]
           refine wpAnyH_take (i := 8) (v := ?_) rfl (by kernel_rfl) (by kernel_rfl) (by kernel_rfl) (fun _ _ _ h => h) (Or.inl ⟨by rfl, ?_⟩) (by assumption) ?_
           rotate_left
           ·intro w hSw; (try dsimp only at hSw); go_simp; (try with_reducible rfl)
           try simp only [Act.put, List.getElem_toArray, List.getElem_cons_zero, List.getElem_cons_succ, List.setIfInBounds_toArray, List.set_cons_zero, List.set_cons_succ]
           try simp only [hBw2, hBw]
           refine wpAnyH_take (i := 9) (v := ?_) rfl (by kernel_rfl) (by kernel_rfl) (by kernel_rfl) (fun _ _ _ h => h) (Or.inl ⟨by rfl, ?_⟩) (by assumption) ?_
           rotate_left
           ·intro w hSw; (try dsimp only at hSw); go_simp; (try with_reducible rfl)
           try simp only [Act.put, List.getElem_toArray, List.getElem_cons_zero, List.getElem_cons_succ, List.setIfInBounds_toArray, List.set_cons_zero, List.set_cons_succ]
           try simp only [hBw2, hBw]
           refine wpAnyH_take (i := 10) (v := ?_) rfl (by kernel_rfl) (by kernel_rfl) (by kernel_rfl) (fun _ _ _ h => h) (Or.inl ⟨by rfl, ?_⟩) (by assumption) ?_
           rotate_left
           ·intro w hSw; (try dsimp only at hSw); go_simp; (try with_reducible rfl)
           try simp only [Act.put, List.getElem_toArray, List.getElem_cons_zero, List.getElem_cons_succ, List.setIfInBounds_toArray, List.set_cons_zero, List.set_cons_succ]
           refine wpAnyH_take (i := 11) (v := ?_) rfl (by kernel_rfl) (by kernel_rfl) (by kernel_rfl) (fun _ _ _ h => h) (Or.inl ⟨by rfl, ?_⟩) (by assumption) ?_
           rotate_left
           ·intro w hSw; (try dsimp only at hSw); go_simp; (try with_reducible rfl)
           try simp only [Act.put, List.getElem_toArray, List.getElem_cons_zero, List.getElem_cons_succ, List.setIfInBounds_toArray, List.set_cons_zero, List.set_cons_succ]
           refine wpAnyH_take (i := 12) (v := ?_) rfl (by kernel_rfl) (by kernel_rfl) (by kernel_rfl) (fun _ _ _ h => h) (Or.inl ⟨by rfl, ?_⟩) (by assumption) ?_
           rotate_left
           ·intro w hSw; (try dsimp only at hSw); go_simp; (try with_reducible rfl)
           try simp only [Act.put, List.getElem_toArray, List.getElem_cons_zero, List.getElem_cons_succ, List.setIfInBounds_toArray, List.set_cons_zero, List.set_cons_succ]
           try simp only [h1, h2]
           refine wpAnyH_take (i := 13) (v := ?_) rfl (by kernel_rfl) (by kernel_rfl) (by kernel_rfl) (fun _ _ _ h => h) (Or.inl ⟨by rfl, ?_⟩) (by assumption) ?_
           rotate_left
           ·intro w hSw; (try dsimp only at hSw); go_simp; (try with_reducible rfl)
           try simp only [Act.put, List.getElem_toArray, List.getElem_cons_zero, List.getElem_cons_succ, List.setIfInBounds_toArray, List.set_cons_zero, List.set_cons_succ]
           try simp only [h1, h2]
           refine wpAnyH_take (i := 14) (v := ?_) rfl (by kernel_rfl) (by kernel_rfl) (by kernel_rfl) (fun _ _ _ h => h) (Or.inl ⟨by rfl, ?_⟩) (by assumption) ?_
           rotate_left
           ·intro w hSw; (try dsimp only at hSw); go_simp; (try with_reducible rfl)
           try simp only [Act.put, List.getElem_toArray, List.getElem_cons_zero, List.getElem_cons_succ, List.setIfInBounds_toArray, List.set_cons_zero, List.set_cons_succ]
           refine wpAnyH_take (i := 15) rfl (by kernel_rfl) (by kernel_rfl) (by kernel_rfl) (fun _ _ _ h => h) (Or.inr ⟨by rfl, rfl⟩) (by assumption) ?_
           try simp only [Act.put, List.getElem_toArray, List.getElem_cons_zero, List.getElem_cons_succ, List.setIfInBounds_toArray, List.set_cons_zero, List.set_cons_succ]
           refine wpAnyH_take (i := 16) rfl (by kernel_rfl) (by kernel_rfl) (by kernel_rfl) (fun _ _ _ h => h) (Or.inr ⟨by rfl, rfl⟩) (by assumption) ?_
           try simp only [Act.put, List.getElem_toArray, List.getElem_cons_zero, List.getElem_cons_succ, List.setIfInBounds_toArray, List.set_cons_zero, List.set_cons_succ]
           refine wpAnyH_take (i := 17) rfl (by kernel_rfl) (by kernel_rfl) (by kernel_rfl) (fun _ _ _ h => h) (Or.inr ⟨by rfl, rfl⟩) (by assumption) ?_
           try simp only [Act.put, List.getElem_toArray, List.getElem_cons_zero, List.getElem_cons_succ, List.setIfInBounds_toArray, List.set_cons_zero, List.set_cons_succ]
           refine wpAnyH_take (i := 18) rfl (by kernel_rfl) (by kernel_rfl) (by kernel_rfl) (fun _ _ _ h => h) (Or.inr ⟨by rfl, rfl⟩) (by assumption) ?_
           try simp only [Act.put, List.getElem_toArray, List.getElem_cons_zero, List.getElem_cons_succ, List.setIfInBounds_toArray, List.set_cons_zero, List.set_cons_succ]
           refine wpAnyH_take (i := 19) rfl (by kernel_rfl) (by kernel_rfl) (by kernel_rfl) (fun _ _ _ h => h) (Or.inr ⟨by rfl, rfl⟩) (by assumption) ?_
           try simp only [Act.put, List.getElem_toArray, List.getElem_cons_zero, List.getElem_cons_succ, List.setIfInBounds_toArray, List.set_cons_zero, List.set_cons_succ]
           refine wpAnyH_take (i := 20) rfl (by kernel_rfl) (by kernel_rfl) (by kernel_rfl) (fun _ _ _ h => h) (Or.inr ⟨by rfl, rfl⟩) (by assumption) ?_
           try simp only [Act.put, List.getElem_toArray, List.getElem_cons_zero, List.getElem_cons_succ, List.setIfInBounds_toArray, List.set_cons_zero, List.set_cons_succ]
           try simp only [hBw2, hBw]
           refine wpAnyH_take (i := 21) rfl (by kernel_rfl) (by kernel_rfl) (by kernel_rfl) (fun _ _ _ h => h) (Or.inr ⟨by rfl, rfl⟩) (by assumption) ?_
           try simp only [Act.put, List.getElem_toArray, List.getElem_cons_zero, List.getElem_cons_succ, List.setIfInBounds_toArray, List.set_cons_zero, List.set_cons_succ]
           try simp only [hBw2, hBw]
           refine wpAnyH_take (i := 22) rfl (by kernel_rfl) (by kernel_rfl) (by kernel_rfl) (fun _ _ _ h => h) (Or.inr ⟨by rfl, rfl⟩) (by assumption) ?_
           try simp only [Act.put, List.getElem_toArray, List.getElem_cons_zero, List.getElem_cons_succ, List.setIfInBounds_toArray, List.set_cons_zero, List.set_cons_succ]
           refine wpAnyH_take (i := 23) rfl (by kernel_rfl) (by kernel_rfl) (by kernel_rfl) (fun _ _ _ h => h) (Or.inr ⟨by rfl, rfl⟩) (by assumption) ?_
           try simp only [Act.put, List.getElem_toArray, List.getElem_cons_zero, List.getElem_cons_succ, List.setIfInBounds_toArray, List.set_cons_zero, List.set_cons_succ]
           refine wpAnyH_take (i := 24) rfl (by kernel_rfl) (by kernel_rfl) (by kernel_rfl) (fun _ _ _ h => h) (Or.inr ⟨by rfl, rfl⟩) (by assumption) ?_
           try simp only [Act.put, List.getElem_toArray, List.getElem_cons_zero, List.getElem_cons_succ, List.setIfInBounds_toArray, List.set_cons_zero, List.set_cons_succ]
           refine wpAnyH_take (i := 25) rfl (by kernel_rfl) (by kernel_rfl) (by kernel_rfl) (fun _ _ _ h => h) (Or.inr ⟨by rfl, rfl⟩) (by assumption) ?_
           try simp only [Act.put, List.getElem_toArray, List.getElem_cons_zero, List.getElem_cons_succ, List.setIfInBounds_toArray, List.set_cons_zero, List.set_cons_succ]
           refine wpAnyH_take (i := 26) rfl (by kernel_rfl) (by kernel_rfl) (by kernel_rfl) (fun _ _ _ h => h) (Or.inr ⟨by rfl, rfl⟩) (by assumption) ?_
           try simp only [Act.put, List.getElem_toArray, List.getElem_cons_zero, List.getElem_cons_succ, List.setIfInBounds_toArray, List.set_cons_zero, List.set_cons_succ]
           refine wpAnyH_take (i := 27) rfl (by kernel_rfl) (by kernel_rfl) (by kernel_rfl) (fun _ _ _ h => h) (Or.inr ⟨by rfl, rfl⟩) (by assumption) ?_
           try simp only [Act.put, List.getElem_toArray, List.getElem_cons_zero, List.getElem_cons_succ, List.setIfInBounds_toArray, List.set_cons_zero, List.set_cons_succ]
           refine wpAnyH_take (i := 28) rfl (by kernel_rfl) (by kernel_rfl) (by kernel_rfl) (fun _ _ _ h => h) (Or.inr ⟨by rfl, rfl⟩) (by assumption) ?_
           try simp only [Act.put, List.getElem_toArray, List.getElem_cons_zero, List.getElem_cons_succ, List.setIfInBounds_toArray, List.set_cons_zero, List.set_cons_succ]
           refine wpAnyH_take (i := 29) rfl (by kernel_rfl) (by kernel_rfl) (by kernel_rfl) (fun _ _ _ h => h) (Or.inr ⟨by rfl, rfl⟩) (by assumption) ?_
           try simp only [Act.put, List.getElem_toArray, List.getElem_cons_zero, List.getElem_cons_succ, List.setIfInBounds_toArray, List.set_cons_zero, List.set_cons_succ]
           refine wpAnyH_take (i := 30) (v := ?_) rfl (by kernel_rfl) (by kernel_rfl) (by kernel_rfl) (fun _ _ _ h => h) (Or.inl ⟨by rfl, ?_⟩) (by assumption) ?_
           rotate_left
           ·intro w hSw; (try dsimp only at hSw); go_simp; (try with_reducible rfl)
           try simp only [Act.put, List.getElem_toArray, List.getElem_cons_zero, List.getElem_cons_succ, List.setIfInBounds_toArray, List.set_cons_zero, List.set_cons_succ]
           refine wpAnyH_done (by kernel_rfl) ?_ _
           refine NoPanic.normal ?_
           go_wp2_with fail
           go_meet
           exact ⟨by first | rfl | (simp; omega), rfl⟩
         ·have h1 : decide (0 < x) = false := by simpa using hx0
          refine wp_region_noPanic ?_
          refine wp_region_held_drew (S := (fun w' => w'.cell? ⟨bn, on + i, none⟩ = some (.int .i64 x) ∧ w'.cell? ⟨gp, B, none⟩ = some (.int .i64 y))) (by kernel_rfl) ⟨cx, cy⟩ (fun hHeld => ?_)
          refine wpAnyH_take (i := 0) (v := ?_) rfl (by kernel_rfl) (by kernel_rfl) (by kernel_rfl) (fun _ _ _ h => h) (Or.inl ⟨by rfl, ?_⟩) (by assumption) ?_
          rotate_left
          ·intro w hSw; (try dsimp only at hSw); go_simp; (try with_reducible rfl)
          try simp only [Act.put, List.getElem_toArray, List.getElem_cons_zero, List.setIfInBounds_toArray, List.set_cons_zero, List.set_cons_succ]
          refine wpAnyH_take (i := 1) (v := ?_) rfl (by kernel_rfl) (by kernel_rfl) (by kernel_rfl) (fun _ _ _ h => h) (Or.inl ⟨by rfl, ?_⟩) (by assumption) ?_
          rotate_left
          ·intro w hSw; (try dsimp only at hSw); go_simp; (try with_reducible rfl)
          try simp only [Act.put, List.getElem_toArray, List.getElem_cons_zero, List.getElem_cons_succ, List.setIfInBounds_toArray, List.set_cons_zero, List.set_cons_succ]
          refine wpAnyH_take (i := 2) (v := ?_) rfl (by kernel_rfl) (by kernel_rfl) (by kernel_rfl) (fun _ _ _ h => h) (Or.inl ⟨by rfl, ?_⟩) (by assumption) ?_
          rotate_left
          ·intro w hSw; (try dsimp only at hSw); go_simp; (try with_reducible rfl)
          try simp only [Act.put, List.getElem_toArray, List.getElem_cons_zero, List.getElem_cons_succ, List.setIfInBounds_toArray, List.set_cons_zero, List.set_cons_succ]
          refine wpAnyH_take (i := 3) (v := ?_) rfl (by kernel_rfl) (by kernel_rfl) (by kernel_rfl) (fun _ _ _ h => h) (Or.inl ⟨by rfl, ?_⟩) (by assumption) ?_
          rotate_left
          ·intro w hSw; (try dsimp only at hSw); go_simp; (try with_reducible rfl)
          try simp only [Act.put, List.getElem_toArray, List.getElem_cons_zero, List.getElem_cons_succ, List.setIfInBounds_toArray, List.set_cons_zero, List.set_cons_succ]
          refine wpAnyH_take (i := 4) (v := ?_) rfl (by kernel_rfl) (by kernel_rfl) (by kernel_rfl) (fun _ _ _ h => h) (Or.inl ⟨by rfl, ?_⟩) (by assumption) ?_
          rotate_left
          ·intro w hSw; (try dsimp only at hSw); go_simp; (try with_reducible rfl)
          try simp only [Act.put, List.getElem_toArray, List.getElem_cons_zero, List.getElem_cons_succ, List.setIfInBounds_toArray, List.set_cons_zero, List.set_cons_succ]
          try simp only [h1]
          refine wpAnyH_take (i := 5) (v := ?_) rfl (by kernel_rfl) (by kernel_rfl) (by kernel_rfl) (fun _ _ _ h => h) (Or.inl ⟨by rfl, ?_⟩) (by assumption) ?_
          rotate_left
          ·intro w hSw; (try dsimp only at hSw); go_simp; (try with_reducible rfl)
          try simp only [Act.put, List.getElem_toArray, List.getElem_cons_zero, List.getElem_cons_succ, List.setIfInBounds_toArray, List.set_cons_zero, List.set_cons_succ]
          refine wpAnyH_take (i := 6) rfl (by kernel_rfl) (by kernel_rfl) (by kernel_rfl) (fun _ _ _ h => h) (Or.inr ⟨by rfl, rfl⟩) (by assumption) ?_
          try simp only [Act.put, List.getElem_toArray, List.getElem_cons_zero, List.getElem_cons_succ, List.setIfInBounds_toArray, List.set_cons_zero, List.set_cons_succ]
          refine wpAnyH_take (i := 7) rfl (by kernel_rfl) (by kernel_rfl) (by kernel_rfl) (fun _ _ _ h => h) (Or.inr ⟨by rfl, rfl⟩) (by assumption) ?_
          try simp only [Act.put, List.getElem_toArray, List.getElem_cons_zero, List.getElem_cons_succ, List.setIfInBounds_toArray, List.set_cons_zero, List.set_cons_succ]
          refine wpAnyH_take (i := 8) rfl (by kernel_rfl) (by kernel_rfl) (by kernel_rfl) (fun _ _ _ h => h) (Or.inr ⟨by rfl, rfl⟩) (by assumption) ?_
          try simp only [Act.put, List.getElem_toArray, List.getElem_cons_zero, List.getElem_cons_succ, List.setIfInBounds_toArray, List.set_cons_zero, List.set_cons_succ]
          try simp only [hBw2, hBw]
          refine wpAnyH_take (i := 9) rfl (by kernel_rfl) (by kernel_rfl) (by kernel_rfl) (fun _ _ _ h => h) (Or.inr ⟨by rfl, rfl⟩) (by assumption) ?_
          try simp only [Act.put, List.getElem_toArray, List.getElem_cons_zero, List.getElem_cons_succ, List.setIfInBounds_toArray, List.set_cons_zero, List.set_cons_succ]
          try simp only [hBw2, hBw]
          refine wpAnyH_take (i := 10) rfl (by kernel_rfl) (by kernel_rfl) (by kernel_rfl) (fun _ _ _ h => h) (Or.inr ⟨by rfl, rfl⟩) (by assumption) ?_
          try simp only [Act.put, List.getElem_toArray, List.getElem_cons_zero, List.getElem_cons_succ, List.setIfInBounds_toArray, List.set_cons_zero, List.set_cons_succ]
          refine wpAnyH_take (i := 11) rfl (by kernel_rfl) (by kernel_rfl) (by kernel_rfl) (fun _ _ _ h => h) (Or.inr ⟨by rfl, rfl⟩) (by assumption) ?_
          try simp only [Act.put, List.getElem_toArray, List.getElem_cons_zero, List.getElem_cons_succ, List.setIfInBounds_toArray, List.set_cons_zero, List.set_cons_succ]
          refine wpAnyH_take (i := 12) rfl (by kernel_rfl) (by kernel_rfl) (by kernel_rfl) (fun _ _ _ h => h) (Or.inr ⟨by rfl, rfl⟩) (by assumption) ?_
          try simp only [Act.put, List.getElem_toArray, List.getElem_cons_zero, List.getElem_cons_succ, List.setIfInBounds_toArray, List.set_cons_zero, List.set_cons_succ]
          refine wpAnyH_take (i := 13) (v := ?_) rfl (by kernel_rfl) (by kernel_rfl) (by kernel_rfl) (fun _ _ _ h => h) (Or.inl ⟨by rfl, ?_⟩) (by assumption) ?_
          rotate_left
          ·intro w hSw; (try dsimp only at hSw); go_simp; (try with_reducible rfl)
          try simp only [Act.put, List.getElem_toArray, List.getElem_cons_zero, List.getElem_cons_succ, List.setIfInBounds_toArray, List.set_cons_zero, List.set_cons_succ]
          refine wpAnyH_take (i := 14) (v := ?_) rfl (by kernel_rfl) (by kernel_rfl) (by kernel_rfl) (fun _ _ _ h => h) (Or.inl ⟨by rfl, ?_⟩) (by assumption) ?_
          rotate_left
          ·intro w hSw; (try dsimp only at hSw); go_simp; (try with_reducible rfl)
          try simp only [Act.put, List.getElem_toArray, List.getElem_cons_zero, List.getElem_cons_succ, List.setIfInBounds_toArray, List.set_cons_zero, List.set_cons_succ]
          refine wpAnyH_take (i := 15) rfl (by kernel_rfl) (by kernel_rfl) (by kernel_rfl) (fun _ _ _ h => h) (Or.inr ⟨by rfl, rfl⟩) (by assumption) ?_
          try simp only [Act.put, List.getElem_toArray, List.getElem_cons_zero, List.getElem_cons_succ, List.setIfInBounds_toArray, List.set_cons_zero, List.set_cons_succ]
          refine wpAnyH_take (i := 16) rfl (by kernel_rfl) (by kernel_rfl) (by kernel_rfl) (fun _ _ _ h => h) (Or.inr ⟨by rfl, rfl⟩) (by assumption) ?_
          try simp only [Act.put, List.getElem_toArray, List.getElem_cons_zero, List.getElem_cons_succ, List.setIfInBounds_toArray, List.set_cons_zero, List.set_cons_succ]
          refine wpAnyH_take (i := 17) rfl (by kernel_rfl) (by kernel_rfl) (by kernel_rfl) (fun _ _ _ h => h) (Or.inr ⟨by rfl, rfl⟩) (by assumption) ?_
          try simp only [Act.put, List.getElem_toArray, List.getElem_cons_zero, List.getElem_cons_succ, List.setIfInBounds_toArray, List.set_cons_zero, List.set_cons_succ]
          refine wpAnyH_take (i := 18) rfl (by kernel_rfl) (by kernel_rfl) (by kernel_rfl) (fun _ _ _ h => h) (Or.inr ⟨by rfl, rfl⟩) (by assumption) ?_
          try simp only [Act.put, List.getElem_toArray, List.getElem_cons_zero, List.getElem_cons_succ, List.setIfInBounds_toArray, List.set_cons_zero, List.set_cons_succ]
          refine wpAnyH_take (i := 19) rfl (by kernel_rfl) (by kernel_rfl) (by kernel_rfl) (fun _ _ _ h => h) (Or.inr ⟨by rfl, rfl⟩) (by assumption) ?_
          try simp only [Act.put, List.getElem_toArray, List.getElem_cons_zero, List.getElem_cons_succ, List.setIfInBounds_toArray, List.set_cons_zero, List.set_cons_succ]
          refine wpAnyH_take (i := 20) rfl (by kernel_rfl) (by kernel_rfl) (by kernel_rfl) (fun _ _ _ h => h) (Or.inr ⟨by rfl, rfl⟩) (by assumption) ?_
          try simp only [Act.put, List.getElem_toArray, List.getElem_cons_zero, List.getElem_cons_succ, List.setIfInBounds_toArray, List.set_cons_zero, List.set_cons_succ]
          try simp only [hBw2, hBw]
          refine wpAnyH_take (i := 21) rfl (by kernel_rfl) (by kernel_rfl) (by kernel_rfl) (fun _ _ _ h => h) (Or.inr ⟨by rfl, rfl⟩) (by assumption) ?_
          try simp only [Act.put, List.getElem_toArray, List.getElem_cons_zero, List.getElem_cons_succ, List.setIfInBounds_toArray, List.set_cons_zero, List.set_cons_succ]
          try simp only [hBw2, hBw]
          refine wpAnyH_take (i := 22) rfl (by kernel_rfl) (by kernel_rfl) (by kernel_rfl) (fun _ _ _ h => h) (Or.inr ⟨by rfl, rfl⟩) (by assumption) ?_
          try simp only [Act.put, List.getElem_toArray, List.getElem_cons_zero, List.getElem_cons_succ, List.setIfInBounds_toArray, List.set_cons_zero, List.set_cons_succ]
          refine wpAnyH_take (i := 23) rfl (by kernel_rfl) (by kernel_rfl) (by kernel_rfl) (fun _ _ _ h => h) (Or.inr ⟨by rfl, rfl⟩) (by assumption) ?_
          try simp only [Act.put, List.getElem_toArray, List.getElem_cons_zero, List.getElem_cons_succ, List.setIfInBounds_toArray, List.set_cons_zero, List.set_cons_succ]
          refine wpAnyH_take (i := 24) rfl (by kernel_rfl) (by kernel_rfl) (by kernel_rfl) (fun _ _ _ h => h) (Or.inr ⟨by rfl, rfl⟩) (by assumption) ?_
          try simp only [Act.put, List.getElem_toArray, List.getElem_cons_zero, List.getElem_cons_succ, List.setIfInBounds_toArray, List.set_cons_zero, List.set_cons_succ]
          refine wpAnyH_take (i := 25) rfl (by kernel_rfl) (by kernel_rfl) (by kernel_rfl) (fun _ _ _ h => h) (Or.inr ⟨by rfl, rfl⟩) (by assumption) ?_
          try simp only [Act.put, List.getElem_toArray, List.getElem_cons_zero, List.getElem_cons_succ, List.setIfInBounds_toArray, List.set_cons_zero, List.set_cons_succ]
          refine wpAnyH_take (i := 26) rfl (by kernel_rfl) (by kernel_rfl) (by kernel_rfl) (fun _ _ _ h => h) (Or.inr ⟨by rfl, rfl⟩) (by assumption) ?_
          try simp only [Act.put, List.getElem_toArray, List.getElem_cons_zero, List.getElem_cons_succ, List.setIfInBounds_toArray, List.set_cons_zero, List.set_cons_succ]
          refine wpAnyH_take (i := 27) rfl (by kernel_rfl) (by kernel_rfl) (by kernel_rfl) (fun _ _ _ h => h) (Or.inr ⟨by rfl, rfl⟩) (by assumption) ?_
          try simp only [Act.put, List.getElem_toArray, List.getElem_cons_zero, List.getElem_cons_succ, List.setIfInBounds_toArray, List.set_cons_zero, List.set_cons_succ]
          refine wpAnyH_take (i := 28) rfl (by kernel_rfl) (by kernel_rfl) (by kernel_rfl) (fun _ _ _ h => h) (Or.inr ⟨by rfl, rfl⟩) (by assumption) ?_
          try simp only [Act.put, List.getElem_toArray, List.getElem_cons_zero, List.getElem_cons_succ, List.setIfInBounds_toArray, List.set_cons_zero, List.set_cons_succ]
          refine wpAnyH_take (i := 29) rfl (by kernel_rfl) (by kernel_rfl) (by kernel_rfl) (fun _ _ _ h => h) (Or.inr ⟨by rfl, rfl⟩) (by assumption) ?_
          try simp only [Act.put, List.getElem_toArray, List.getElem_cons_zero, List.getElem_cons_succ, List.setIfInBounds_toArray, List.set_cons_zero, List.set_cons_succ]
          refine wpAnyH_take (i := 30) (v := ?_) rfl (by kernel_rfl) (by kernel_rfl) (by kernel_rfl) (fun _ _ _ h => h) (Or.inl ⟨by rfl, ?_⟩) (by assumption) ?_
          rotate_left
          ·intro w hSw; (try dsimp only at hSw); go_simp; (try with_reducible rfl)
          try simp only [Act.put, List.getElem_toArray, List.getElem_cons_zero, List.getElem_cons_succ, List.setIfInBounds_toArray, List.set_cons_zero, List.set_cons_succ]
          refine wpAnyH_done (by kernel_rfl) ?_ _
          refine NoPanic.normal ?_
          go_wp2_with fail
          go_meet
          exact ⟨by first | rfl | (simp; omega), rfl⟩
        case rest => as_aux_lemma =>
         obtain ⟨rfl, hwc⟩ := hcut
         subst hwc
         have h2 : we.drew.heap[gp]? = some (.cells (lV p M).toArray 2 (0, 0)) := HBp.out
         have h3 : we.drew.heap[gf]? = some (.cells (lV fr M).toArray 3 (0, 0)) := HBf.out
         have h4 : Below w.heap.size w we.drew := HW.out.drew
         clear cx cy HBp HBf HW
         generalize we.drew = we at *
         have HBp := Lib.hid h2
         have HBf := Lib.hid h3
         have HW := Lib.hid h4
         clear h2 h3 h4
         by_cases hrl : 0 < x ∧ y < 1152921504606846976 ∧ (E < 0 ∨ y < z)
         ·have hrd : decide (0 < x ∧ y < 1152921504606846976 ∧ (E < 0 ∨ y < z)) = true := by simpa using hrl
          rw [if_pos hrl] at HEn
          rw [hrd]
          clear hrd hrl
          go_wp2_with fail
          go_roundw
          case rel => exact ⟨i + 1, by omega, by go_num, by rw [HEn.out], HBp.out, HBf.out, HW.out⟩
          case measure => simp [intOf]; omega
         ·have hrd : decide (0 < x ∧ y < 1152921504606846976 ∧ (E < 0 ∨ y < z)) = false := by simpa using hrl
          rw [if_neg hrl] at HEn
          rw [hrd]
          clear hrd hrl
          go_wp2_with fail
          go_roundw
          case rel => exact ⟨i + 1, by omega, by go_num, by rw [HEn.out], HBp.out, HBf.out, HW.out⟩
          case measure => simp [intOf]; omega
       have hti : decide ((i : Int) < (n : Int)) = false := by simp; omega
       have hiE : i = N + 1 := by have := Hn.out; omega
       clear HEn
       obtain ⟨E, hE⟩ : ∃ E, endT need p i = E := ⟨_, rfl⟩
       rw [hE] at HEc ⊢
       have HEq := Lib.hid (show endT need (pthS N xs need mo).1 (N + 1) = E by rw [← Hp.out, ← hiE]; exact hE)
       have HiE := Lib.hid hiE
       clear hE hiE
       by_cases hE0 : E < 0
       ·have hEd : decide (E < 0) = true := by simpa using hE0
        go_wp2_with fail
        refine bodyPost_ret (v := .tuple #[.slice none 0 0, .int .i64 0, .int .i64 0]) (by simp [results, Tryz.results145, go_sem]) rfl ?_
        exact ⟨.inl ⟨by rw [HEq.out]; exact hE0, rfl⟩, HW.out⟩
       have hEd : decide (E < 0) = false := by simpa using hE0
       have HEi := Lib.hid (show ∃ j, j < N + 1 ∧ E = 2 * (j : Int) + 1 by
        rcases HEc.out with ⟨q, _⟩ | ⟨j, q1, q2, _⟩
        ·omega
        ·exact ⟨j, by have := HiE.out; omega, q2⟩)
       clear HEc
       have HEm := Lib.hid (show 0 ≤ E → E.toNat < 2 * (N + 1) from fun _ => by obtain ⟨j, q1, q2⟩ := HEi.out; omega)
       obtain ⟨L, hL, hLl⟩ : ∃ L, Ch fr E L ∧ L.length ≤ 2 * (N + 1) + 1 := by
        have h := Hrk.out
        rw [← Hfr.out] at h
        exact ch_ex h _ E (fun q => ⟨HEm.out q, by have := h.1 E.toNat (HEm.out q); omega⟩)
       have HL := Lib.hid hL
       have HLm := Lib.hid (show ∀ j, j ∈ L → j < 2 * (N + 1) by
        have h := Hrk.out
        rw [← Hfr.out] at h
        exact Ch.lt h hL HEm.out)
       have HLp := Lib.hid (show 0 < L.length by
        obtain ⟨L', e, _⟩ := hL.pos (by omega)
        rw [e]; simp)
       clear hL
       have hgpl := hp_lt3 HBp.out
       have hgfl := hp_lt3 HBf.out
       go_upto_region 40 with fail
       obtain ⟨wh, hwh⟩ : ∃ V, V = we := ⟨_, rfl⟩
       subst hwh
       obtain ⟨bs, hbs⟩ : ∃ b, b = wh.heap.size := ⟨_, rfl⟩
       rw [← hbs] at hgpl hgfl
       have hbsw : w.heap.size ≤ bs := by omega
       have hbs2 : bs ≤ wh.heap.size := by omega
       clear hbs
       go_wp2_with fail
       go_loopw [20, 21] (fun s20 s21 wr => ∃ (x : Int) (L0 L1 : List Nat), s21 = .int .i64 x ∧ Ch fr x L1 ∧ L = L0 ++ L1 ∧ (0 ≤ x → x.toNat < 2 * (N + 1)) ∧ bs ≤ wr.heap.size ∧ OL 3 bs wr s20 (L0.map fun j => ((j / 2 : Nat) : Int)) ∧ wr.heap[gp]? = some (.cells (lV (p) M).toArray 2 (0, 0)) ∧ wr.heap[gf]? = some (.cells (lV (fr) M).toArray 3 (0, 0)) ∧ Below w.heap.size w wr) (fun _ s _ => if 0 ≤ intOf s then rk (intOf s).toNat + 1 else 0)
       case atStart => exact ⟨E, [], L, rfl, HL.out, rfl, HEm.out, hbs2, OL.nil _ _ _, HBp.out, HBf.out, HW.out⟩
       case round => as_aux_lemma =>
        clear HBp HBf HW hbs2
        obtain ⟨x, L0, L1, rfl, hc, hll, hxm, hbs2, ho, h2, h3, h4⟩ := hrel
        have HBp := Lib.hid h2
        have HBf := Lib.hid h3
        have HW := Lib.hid h4
        have HCx := Lib.hid hc
        have HLL := Lib.hid hll
        have HOw := Lib.hid ho
        clear h2 h3 h4 hc hll ho
        obtain ⟨wi, hwx⟩ : ∃ V, V = wr := ⟨_, rfl⟩
        subst hwx
        by_cases hx0 : 0 ≤ x
        ·obtain ⟨j, rfl⟩ : ∃ j : Nat, x = (j : Int) := ⟨x.toNat, by omega⟩
         have hjd : decide ((j : Int) ≥ 0) = true := by simpa using hx0
         have hjm : j < 2 * (N + 1) := by have := hxm hx0; omega
         have hjM : j < M := by have := HM.out; have := Hn.out; omega
         obtain ⟨q, hq⟩ : ∃ q, q = j / 2 := ⟨_, rfl⟩
         have hjq : (j : Int) / 2 = (q : Int) := by omega
         obtain ⟨L2, hL2, hC2⟩ : ∃ L2, L1 = j :: L2 ∧ Ch fr (fr j) L2 := by
          obtain ⟨L2, e, c⟩ := HCx.out.pos hx0
          rw [Int.toNat_natCast] at e c
          exact ⟨L2, e, c⟩
         have HL3 := Lib.hid (show L = (L0 ++ [j]) ++ L2 by rw [HLL.out, hL2]; simp)
         have HC2 := Lib.hid hC2
         have hl0 : L0.length ≤ 9 := by
          have e := congrArg List.length HL3.out
          simp at e
          omega
         have hRkj := Lib.hid (show 0 ≤ fr j → (fr j).toNat < 2 * (N + 1) ∧ rk (fr j).toNat < rk j by
          have h := Hrk.out.2 j hjm
          rw [← Hfr.out] at h
          exact h)
         have j0 : (j : Int) < (M : Int) := by omega
         have HQ := Lib.hid hq
         clear hq hL2 hC2 hxm HLL HCx
         obtain ⟨it, hit, hz0, hz1, hz2⟩ := info_parts Tryz.infInt
         have Hi := Lib.hid hit
         have Hz0 := Lib.hid hz0
         have Hz1 := Lib.hid hz1
         have Hz2 := Lib.hid hz2
         clear hit hz0 hz1 hz2
         obtain ⟨lz, hlz⟩ : ∃ l, (L0.map fun j => ((j / 2 : Nat) : Int)) = l := ⟨_, rfl⟩
         rw [hlz] at HOw
         have hlzl : lz.length ≤ 9 := by rw [← hlz, List.length_map]; exact hl0
         have HLz := Lib.hid (show (L0 ++ [j]).map (fun j => ((j / 2 : Nat) : Int)) = lz ++ [(q : Int)] by rw [List.map_append, hlz, HQ.out]; rfl)
         have hownB := Lib.hid (World.ownsRow.alloc (show wi.ownsRow _ _ _ _ _ _ from HOw.out) (.cells #[.int .i64 (q : Int)] 3))
         have HrlB := Lib.hid (rs_one2v wi (.int .i64 (q : Int)) 3)
         clear hlz hl0
         go_upto_region 44 with fail
         go_upto_region 43 with (at_builtin; go_loud (refine wpList_append_rs rfl (.tmp 228) (.tmp 231) 160 rfl bs 3 it (.int .i64 0) 1 8 Tryz.undInt Hi.out Hz0.out Hz1.out Hz2.out rfl (by decide) _ lz.length (lz.map (Value.int .i64)) rfl hownB.out (wi.heap.size + 1) (.slice (some ⟨wi.heap.size, 0, none⟩) 1 1) rfl 1 [.int .i64 (q : Int)] HrlB.out rfl ?_ ?_ ?_ ?_ ?_; (intro u hu; simp only [List.mem_cons, List.not_mem_nil, or_false] at hu; rcases hu with rfl; rfl); (unfold maxLen; omega); omega; (simp; omega); intro v' w' ho' hg'))
         have hba := (Below.refl _ wi).alloc (Nat.le_refl _) (.cells #[.int .i64 (q : Int)] 3)
         have hblk : ∀ g, Value.ownBlock _ = some g → bs ≤ g := fun g e => (World.ownsRow.lt hownB.out g e).1
         have hszA : bs ≤ (wi.alloc (.cells #[.int .i64 (q : Int)] 3)).heap.size := Nat.le_trans hbs2 hba.size
         have HBp2 := Lib.hid (hp_gr0 (hp_keep4 HBp.out hba) hg' hblk hgpl)
         have HBf2 := Lib.hid (hp_gr0 (hp_keep4 HBf.out hba) hg' hblk hgfl)
         have HW2 := Lib.hid (bw_gr0 (bt HW.out hba) hg' hblk hbsw)
         have hbs3 := Nat.le_trans hszA hg'.size
         have HOw2 := Lib.hid (show OL 3 bs w' v' (lz ++ [(q : Int)]) by unfold OL; rw [List.length_append, List.map_append]; exact ho')
         clear HBp HBf HW HOw hownB HrlB hba hblk hszA ho' hg'
         have hfj : w'.cell? ⟨gf, j, none⟩ = some (.int .i64 (fr j)) := row_at HBf2.out (lV_at _ hjM)
         go_wp2_with fail
         go_roundw
         case rel => exact ⟨fr j, L0 ++ [j], L2, by first | rfl | go_num, HC2.out, HL3.out, fun q => (hRkj.out q).1, hbs3, by rw [HLz.out]; exact HOw2.out, HBp2.out, HBf2.out, HW2.out⟩
         case measure =>
          show (if 0 ≤ fr j then rk (fr j).toNat + 1 else 0) < (if 0 ≤ (j : Int) then rk ((j : Int).toNat) + 1 else 0)
          by_cases q0 : 0 ≤ fr j
          ·rw [if_pos q0, if_pos (by omega), Int.toNat_natCast]
           have := (hRkj.out q0).2
           omega
          ·rw [if_neg q0, if_pos (by omega)]; omega
        have hjd : decide (x ≥ 0) = false := by simpa using hx0
        have hLE : L1 = [] := HCx.out.neg (by omega)
        have HLL2 := Lib.hid (show L = L0 by rw [HLL.out, hLE, List.append_nil])
        clear hLE HLL HCx hxm
        obtain ⟨zs, hzs⟩ : ∃ l, (L0.map fun j => ((j / 2 : Nat) : Int)) = l := ⟨_, rfl⟩
        rw [hzs] at HOw
        obtain ⟨len, hlen⟩ : ∃ n, n = L.length := ⟨_, rfl⟩
        have hzl : zs.length = len := by rw [← hzs, List.length_map, hlen, HLL2.out]
        have hlen0 : 0 < len := by rw [hlen]; exact HLp.out
        have hlen9 : len ≤ 9 := by omega
        obtain ⟨g, cg, hs20, hgb, hgw, _, hgc⟩ := OL.open HOw.out (by rw [hzl]; exact hlen0)
        rw [hzl] at hs20 hgc
        subst hs20
        obtain ⟨W, hW⟩ : ∃ W : Nat → Nat, W = fun t => nd L.reverse t / 2 := ⟨_, rfl⟩
        have HWg := Lib.hid (show ∀ t, t < len → zs.reverse[t]? = some ((W t : Nat) : Int) ∧ W t ≤ N by
         intro t ht
         have e : t < L.reverse.length := by rw [List.length_reverse]; omega
         refine ⟨?_, ?_⟩
         ·rw [← hzs, ← HLL2.out, ← List.map_reverse, List.getElem?_map, List.getElem?_eq_getElem e, hW]
          show some (((L.reverse[t] / 2 : Nat) : Int)) = some ((nd L.reverse t / 2 : Nat) : Int)
          unfold nd
          rw [List.getD_eq_getElem?_getD, List.getElem?_eq_getElem e]; rfl
         ·rw [hW]
          show nd L.reverse t / 2 ≤ N
          have m := HLm.out (nd L.reverse t) (by
           unfold nd
           rw [List.getD_eq_getElem?_getD, List.getElem?_eq_getElem e]
           exact List.mem_reverse.1 (List.getElem_mem e))
          omega)
        have HWd := Lib.hid hW
        have Hlen := Lib.hid hlen
        have Hzl := Lib.hid hzl
        have Hgc := Lib.hid hgc
        clear hzs hW hlen hzl hgc hLl HLL2
        go_upto_region 45 with fail
        go_wp2_with fail
        refine (prog_reverse g len cg zs _ Hzl.out.symm (by omega) (fun j hj => (Hgc.out j (by rw [← Hzl.out]; exact hj)).1) (fun j hj => (Hgc.out j hj).2)).mono ?_
        rintro e w5 ⟨rfl, qn, rfl⟩
        have hrl : (zs.reverse.map (Value.int .i64)).length = len := by rw [List.length_map, List.length_reverse]; exact Hzl.out
        have hcg : ∀ t, t < len → ((wi.drewN qn).setCells g 0 (zs.reverse.map (Value.int .i64))).cell? ⟨g, t, none⟩ = some (.int .i64 ((W t : Nat) : Int)) := fun t ht => by
         have q := World.cell?_setCells_in g (zs.reverse.map (Value.int .i64)) 0 (wi.drewN qn) (fun j hj => by
          rw [hrl] at hj
          rw [Nat.zero_add]
          show (wi.cell? ⟨g, j, none⟩).isSome = true
          rw [(Hgc.out j hj).1]; rfl) t (by rw [hrl]; exact ht)
         rw [Nat.zero_add] at q
         rw [q]
         have e := (HWg.out t ht).1
         congr 1
         rw [List.getElem_map]
         congr 1
         rw [List.getElem?_eq_some_iff] at e
         exact e.2
        have hW5 : Below w.heap.size w ((wi.drewN qn).setCells g 0 (zs.reverse.map (Value.int .i64))) := setCells_bt _ 0 _ (bdn HW.out qn) (by omega)
        have hp5 : ((wi.drewN qn).setCells g 0 (zs.reverse.map (Value.int .i64))).heap[gp]? = some (.cells (lV p M).toArray 2 (0, 0)) := (setCells_other (b := g) (c := gp) (by omega) _ 0 (wi.drewN qn)).trans HBp.out
        have hg5 : g < ((wi.drewN qn).setCells g 0 (zs.reverse.map (Value.int .i64))).heap.size := by
         have q := hcg 0 hlen0
         exact cell_lt q
        clear HBp HBf HW HOw Hgc Hzl hrl
        generalize (wi.drewN qn).setCells g 0 (zs.reverse.map (Value.int .i64)) = wj at *
        have HBp := Lib.hid hp5
        have HW := Lib.hid hW5
        have HC := Lib.hid hcg
        have HG := Lib.hid hg5
        clear hp5 hW5 hcg hg5
        have HNd := Lib.hid (fun (X : World) (hX : Below w.heap.size w X) (t : Nat) (ht : t ≤ N) => (((bcell hX).1 bn (on + t) hbn).trans (Hcn.out t (by omega)) : X.cell? ⟨bn, on + t, none⟩ = some (.int .i64 (need t))))
        have HMv := Lib.hid (fun (X : World) (hX : Below w.heap.size w X) (k i : Nat) (hk : k ≤ N) (hi : i ≤ N) => (((bcell hX).1 mb (k * 11 + i) hmb).trans (Hm.out k i hk hi) : X.cell? ⟨mb, k * 11 + i, none⟩ = some (.int .i64 (mo k i))))
        obtain ⟨l1, hl1⟩ : ∃ l, l = len - 1 := ⟨_, rfl⟩
        have hl1w : IntKind.i64.wrap ((len : Int) - 1) = (l1 : Int) := by rw [wr_id (by omega) (by omega)]; omega
        obtain ⟨a0, ha0⟩ : ∃ a, W 0 = a := ⟨_, rfl⟩
        obtain ⟨a1, ha1⟩ : ∃ a, W l1 = a := ⟨_, rfl⟩
        have h0N : a0 ≤ N := by rw [← ha0]; exact (HWg.out 0 hlen0).2
        have h1N : a1 ≤ N := by rw [← ha1]; exact (HWg.out l1 (by omega)).2
        obtain ⟨x0, hx0e⟩ : ∃ a, need a0 = a := ⟨_, rfl⟩
        obtain ⟨x1, hx1e⟩ : ∃ a, need a1 = a := ⟨_, rfl⟩
        have d0 : wj.cell? ⟨g, 0, none⟩ = some (.int .i64 (a0 : Int)) := by rw [← ha0]; exact HC.out 0 hlen0
        have d1 : wj.cell? ⟨g, l1, none⟩ = some (.int .i64 (a1 : Int)) := by rw [← ha1]; exact HC.out l1 (by omega)
        have d2 : wj.cell? ⟨bn, on + a0, none⟩ = some (.int .i64 x0) := by rw [← hx0e]; exact HNd.out wj HW.out a0 h0N
        have d3 : wj.cell? ⟨bn, on + a1, none⟩ = some (.int .i64 x1) := by rw [← hx1e]; exact HNd.out wj HW.out a1 h1N
        have hb0 := Hnb.out a0 h0N
        rw [hx0e] at hb0
        have hx0w : IntKind.i64.wrap (-x0) = -x0 := wr_id (by omega) (by omega)
        have HA0 := Lib.hid (show amT need mo W len 0 = min (-x0) x1 by
         show min (-need (W 0)) (need (W (len - 1))) = _
         rw [← hl1, ha0, ha1, hx0e, hx1e])
        have c00 : (0 : Int) < (len : Int) := by omega
        have c01 : (l1 : Int) < (len : Int) := by omega
        have c02 : (0 : Int) ≤ (l1 : Int) := by omega
        have c03 : (a0 : Int) < (n : Int) := by omega
        have c04 : (0 : Int) ≤ (a0 : Int) := by omega
        have c05 : (a1 : Int) < (n : Int) := by omega
        have c06 : (0 : Int) ≤ (a1 : Int) := by omega
        clear ha0 ha1 hx0e hx1e hl1
        go_upto_region 46 with fail
        go_cut [22] (fun s wx => s = .int .i64 (amT need mo W len 0) ∧ wx = wj.drew)
        case first => as_aux_lemma =>
         refine wp_region_noPanic ?_
         refine wp_region_held_drew (S := (fun w' => w'.cell? ⟨g, 0, none⟩ = some (.int .i64 (a0 : Int)) ∧ w'.cell? ⟨g, l1, none⟩ = some (.int .i64 (a1 : Int)) ∧ w'.cell? ⟨bn, on + a0, none⟩ = some (.int .i64 x0) ∧ w'.cell? ⟨bn, on + a1, none⟩ = some (.int .i64 x1))) (by kernel_rfl) ⟨d0, d1, d2, d3⟩ (fun hHeld => ?_)
         refine wpAnyH_take (i := 0) (v := ?_) rfl (by kernel_rfl) (by kernel_rfl) (by kernel_rfl) (fun _ _ _ h => h) (Or.inl ⟨by rfl, ?_⟩) (by assumption) ?_
         rotate_left
         ·intro w hSw; (try dsimp only at hSw); go_simp; (try with_reducible rfl)
         try simp only [Act.put, List.getElem_toArray, List.getElem_cons_zero, List.setIfInBounds_toArray, List.set_cons_zero, List.set_cons_succ]
         refine wpAnyH_take (i := 1) (v := ?_) rfl (by kernel_rfl) (by kernel_rfl) (by kernel_rfl) (fun _ _ _ h => h) (Or.inl ⟨by rfl, ?_⟩) (by assumption) ?_
         rotate_left
         ·intro w hSw; (try dsimp only at hSw); go_simp; (try with_reducible rfl)
         try simp only [Act.put, List.getElem_toArray, List.getElem_cons_zero, List.getElem_cons_succ, List.setIfInBounds_toArray, List.set_cons_zero, List.set_cons_succ]
         refine wpAnyH_take (i := 2) (v := ?_) rfl (by kernel_rfl) (by kernel_rfl) (by kernel_rfl) (fun _ _ _ h => h) (Or.inl ⟨by rfl, ?_⟩) (by assumption) ?_
         rotate_left
         ·intro w hSw; (try dsimp only at hSw); go_simp; (try with_reducible rfl)
         try simp only [Act.put, List.getElem_toArray, List.getElem_cons_zero, List.getElem_cons_succ, List.setIfInBounds_toArray, List.set_cons_zero, List.set_cons_succ]
         refine wpAnyH_take (i := 3) (v := ?_) rfl (by kernel_rfl) (by kernel_rfl) (by kernel_rfl) (fun _ _ _ h => h) (Or.inl ⟨by rfl, ?_⟩) (by assumption) ?_
         rotate_left
         ·intro w hSw; (try dsimp only at hSw); go_simp; (try with_reducible rfl)
         try simp only [Act.put, List.getElem_toArray, List.getElem_cons_zero, List.getElem_cons_succ, List.setIfInBounds_toArray, List.set_cons_zero, List.set_cons_succ]
         refine wpAnyH_take (i := 4) (v := ?_) rfl (by kernel_rfl) (by kernel_rfl) (by kernel_rfl) (fun _ _ _ h => h) (Or.inl ⟨by rfl, ?_⟩) (by assumption) ?_
         rotate_left
         ·intro w hSw; (try dsimp only at hSw); go_simp; (try with_reducible rfl)
         try simp only [Act.put, List.getElem_toArray, List.getElem_cons_zero, List.getElem_cons_succ, List.setIfInBounds_toArray, List.set_cons_zero, List.set_cons_succ]
         refine wpAnyH_take (i := 5) (v := ?_) rfl (by kernel_rfl) (by kernel_rfl) (by kernel_rfl) (fun _ _ _ h => h) (Or.inl ⟨by rfl, ?_⟩) (by assumption) ?_
         rotate_left
         ·intro w hSw; (try dsimp only at hSw); go_simp; (try with_reducible rfl)
         try simp only [Act.put, List.getElem_toArray, List.getElem_cons_zero, List.getElem_cons_succ, List.setIfInBounds_toArray, List.set_cons_zero, List.set_cons_succ]
         refine wpAnyH_take (i := 6) (v := ?_) rfl (by kernel_rfl) (by kernel_rfl) (by kernel_rfl) (fun _ _ _ h => h) (Or.inl ⟨by rfl, ?_⟩) (by assumption) ?_
         rotate_left
         ·intro w hSw; (try dsimp only at hSw); go_simp; (try with_reducible rfl)
         try simp only [Act.put, List.getElem_toArray, List.getElem_cons_zero, List.getElem_cons_succ, List.setIfInBounds_toArray, List.set_cons_zero, List.set_cons_succ]
         try simp only [hl1w, hx0w]
         refine wpAnyH_take (i := 7) (v := ?_) rfl (by kernel_rfl) (by kernel_rfl) (by kernel_rfl) (fun _ _ _ h => h) (Or.inl ⟨by rfl, ?_⟩) (by assumption) ?_
         rotate_left
         ·intro w hSw; (try dsimp only at hSw); go_simp; (try with_reducible rfl)
         try simp only [Act.put, List.getElem_toArray, List.getElem_cons_zero, List.getElem_cons_succ, List.setIfInBounds_toArray, List.set_cons_zero, List.set_cons_succ]
         refine wpAnyH_take (i := 8) (v := ?_) rfl (by kernel_rfl) (by kernel_rfl) (by kernel_rfl) (fun _ _ _ h => h) (Or.inl ⟨by rfl, ?_⟩) (by assumption) ?_
         rotate_left
         ·intro w hSw; (try dsimp only at hSw); go_simp; (try with_reducible rfl)
         try simp only [Act.put, List.getElem_toArray, List.getElem_cons_zero, List.getElem_cons_succ, List.setIfInBounds_toArray, List.set_cons_zero, List.set_cons_succ]
         refine wpAnyH_take (i := 9) (v := ?_) rfl (by kernel_rfl) (by kernel_rfl) (by kernel_rfl) (fun _ _ _ h => h) (Or.inl ⟨by rfl, ?_⟩) (by assumption) ?_
         rotate_left
         ·intro w hSw; (try dsimp only at hSw); go_simp; (try with_reducible rfl)
         try simp only [Act.put, List.getElem_toArray, List.getElem_cons_zero, List.getElem_cons_succ, List.setIfInBounds_toArray, List.set_cons_zero, List.set_cons_succ]
         refine wpAnyH_take (i := 10) (v := ?_) rfl (by kernel_rfl) (by kernel_rfl) (by kernel_rfl) (fun _ _ _ h => h) (Or.inl ⟨by rfl, ?_⟩) (by assumption) ?_
         rotate_left
         ·intro w hSw; (try dsimp only at hSw); go_simp; (try with_reducible rfl)
         try simp only [Act.put, List.getElem_toArray, List.getElem_cons_zero, List.getElem_cons_succ, List.setIfInBounds_toArray, List.set_cons_zero, List.set_cons_succ]
         refine wpAnyH_take (i := 11) (v := ?_) rfl (by kernel_rfl) (by kernel_rfl) (by kernel_rfl) (fun _ _ _ h => h) (Or.inl ⟨by rfl, ?_⟩) (by assumption) ?_
         rotate_left
         ·intro w hSw; (try dsimp only at hSw); go_simp; (try with_reducible rfl)
         try simp only [Act.put, List.getElem_toArray, List.getElem_cons_zero, List.getElem_cons_succ, List.setIfInBounds_toArray, List.set_cons_zero, List.set_cons_succ]
         try simp only [hl1w, hx0w]
         refine wpAnyH_take (i := 12) (v := ?_) rfl (by kernel_rfl) (by kernel_rfl) (by kernel_rfl) (fun _ _ _ h => h) (Or.inl ⟨by rfl, ?_⟩) (by assumption) ?_
         rotate_left
         ·intro w hSw; (try dsimp only at hSw); go_simp; (try with_reducible rfl)
         try simp only [Act.put, List.getElem_toArray, List.getElem_cons_zero, List.getElem_cons_succ, List.setIfInBounds_toArray, List.set_cons_zero, List.set_cons_succ]
         refine wpAnyH_take (i := 13) (v := ?_) rfl (by kernel_rfl) (by kernel_rfl) (by kernel_rfl) (fun _ _ _ h => h) (Or.inl ⟨by rfl, ?_⟩) (by assumption) ?_
         rotate_left
         ·intro w hSw; (try dsimp only at hSw); go_simp; (try with_reducible rfl)
         try simp only [Act.put, List.getElem_toArray, List.getElem_cons_zero, List.getElem_cons_succ, List.setIfInBounds_toArray, List.set_cons_zero, List.set_cons_succ]
         refine wpAnyH_take (i := 14) (v := ?_) rfl (by kernel_rfl) (by kernel_rfl) (by kernel_rfl) (fun _ _ _ h => h) (Or.inl ⟨by rfl, ?_⟩) (by assumption) ?_
         rotate_left
         ·intro w hSw; (try dsimp only at hSw); go_simp; (try with_reducible rfl)
         try simp only [Act.put, List.getElem_toArray, List.getElem_cons_zero, List.getElem_cons_succ, List.setIfInBounds_toArray, List.set_cons_zero, List.set_cons_succ]
         refine wpAnyH_take (i := 15) (v := ?_) rfl (by kernel_rfl) (by kernel_rfl) (by kernel_rfl) (fun _ _ _ h => h) (Or.inl ⟨by rfl, ?_⟩) (by assumption) ?_
         rotate_left
         ·intro w hSw; (try dsimp only at hSw); go_simp; (try with_reducible rfl)
         try simp only [Act.put, List.getElem_toArray, List.getElem_cons_zero, List.getElem_cons_succ, List.setIfInBounds_toArray, List.set_cons_zero, List.set_cons_succ]
         refine wpAnyH_take (i := 16) (v := ?_) rfl (by kernel_rfl) (by kernel_rfl) (by kernel_rfl) (fun _ _ _ h => h) (Or.inl ⟨by rfl, ?_⟩) (by assumption) ?_
         rotate_left
         ·intro w hSw; (try dsimp only at hSw); go_simp; (try with_reducible rfl)
         try simp only [Act.put, List.getElem_toArray, List.getElem_cons_zero, List.getElem_cons_succ, List.setIfInBounds_toArray, List.set_cons_zero, List.set_cons_succ]
         refine wpAnyH_take (i := 17) (v := ?_) rfl (by kernel_rfl) (by kernel_rfl) (by kernel_rfl) (fun _ _ _ h => h) (Or.inl ⟨by rfl, ?_⟩) (by assumption) ?_
         rotate_left
         ·intro w hSw; (try dsimp only at hSw); go_simp; (try with_reducible rfl)
         try simp only [Act.put, List.getElem_toArray, List.getElem_cons_zero, List.getElem_cons_succ, List.setIfInBounds_toArray, List.set_cons_zero, List.set_cons_succ]
         refine wpAnyH_done (by kernel_rfl) ?_ _
         refine NoPanic.normal ?_
         go_wp2_with fail
         go_meet
         exact ⟨by rw [HA0.out], rfl⟩
        case rest => as_aux_lemma =>
         obtain ⟨rfl, hwc⟩ := hcut
         subst hwc
         have h2 : wj.drew.heap[gp]? = some (.cells (lV p M).toArray 2 (0, 0)) := HBp.out
         have h3 : ∀ t, t < len → wj.drew.cell? ⟨g, t, none⟩ = some (.int .i64 ((W t : Nat) : Int)) := HC.out
         have h4 : Below w.heap.size w wj.drew := HW.out.drew
         have h5 : g < wj.drew.heap.size := HG.out
         clear d0 d1 d2 d3 HBp HC HW HG
         generalize wj.drew = wj at *
         have HBp := Lib.hid h2
         have HC := Lib.hid h3
         have HW := Lib.hid h4
         have HG := Lib.hid h5
         clear h2 h3 h4 h5
         clear c00 c01 c02 c03 c04 c05 c06 HA0 hx0w hb0 hl1w
         go_wp2_with fail
         go_loopw [22, 23] (fun s22 s23 wr => ∃ t : Nat, 2 * t < len ∧ s23 = .int .i64 (2 * (t : Int) + 1) ∧ s22 = .int .i64 (amT need mo W len t) ∧ wr.heap[gp]? = some (.cells (lV (p) M).toArray 2 (0, 0)) ∧ (∀ t, t < len → wr.cell? ⟨g, t, none⟩ = some (.int .i64 ((W t : Nat) : Int))) ∧ Below w.heap.size w wr ∧ g < wr.heap.size) (fun _ s _ => len - (intOf s).toNat)
         case atStart => exact ⟨0, by omega, rfl, rfl, HBp.out, HC.out, HW.out, HG.out⟩
         case round => as_aux_lemma =>
          clear HBp HC HW HG
          obtain ⟨t, ht, rfl, rfl, h2, h3, h4, h5⟩ := hrel
          have HBp := Lib.hid h2
          have HC := Lib.hid h3
          have HW := Lib.hid h4
          have HG := Lib.hid h5
          clear h2 h3 h4 h5
          obtain ⟨wj, hwx⟩ : ∃ V, V = wr := ⟨_, rfl⟩
          subst hwx
          have hsw : IntKind.i64.wrap (2 * (t : Int) + 1 + 1) = 2 * (t : Int) + 2 := by rw [wr_id (by omega) (by omega)]; omega
          have hsw2 : IntKind.i64.wrap (2 * (t : Int) + 1 + 2) = 2 * ((t + 1 : Nat) : Int) + 1 := by rw [wr_id (by omega) (by omega)]; omega
          by_cases htl : 2 * t + 2 < len
          ·have htd : decide (2 * (t : Int) + 2 < (len : Int)) = true := by simp; omega
           obtain ⟨t1, ht1⟩ : ∃ t1, t1 = 2 * t + 1 := ⟨_, rfl⟩
           obtain ⟨t2, ht2⟩ : ∃ t2, t2 = 2 * t + 2 := ⟨_, rfl⟩
           have e1 : 2 * (t : Int) + 1 = (t1 : Int) := by omega
           have e2 : 2 * (t : Int) + 2 = (t2 : Int) := by omega
           obtain ⟨i, hi2⟩ : ∃ a, W t1 = a := ⟨_, rfl⟩
           obtain ⟨k2, hk2⟩ : ∃ a, W t2 = a := ⟨_, rfl⟩
           have hiN : i ≤ N := by rw [← hi2]; exact (HWg.out t1 (by omega)).2
           have hkN : k2 ≤ N := by rw [← hk2]; exact (HWg.out t2 (by omega)).2
           obtain ⟨m, hm2⟩ : ∃ a, mo k2 i = a := ⟨_, rfl⟩
           obtain ⟨am, ham⟩ : ∃ a, amT need mo W len t = a := ⟨_, rfl⟩
           have HA1 := Lib.hid (show amT need mo W len (t + 1) = min am m by
            show min (amT need mo W len t) (mo (W (2 * t + 2)) (W (2 * t + 1))) = _
            rw [← ht1, ← ht2, hi2, hk2, hm2, ham])
           have d0 : wj.cell? ⟨g, t1, none⟩ = some (.int .i64 (i : Int)) := by rw [← hi2]; exact HC.out t1 (by omega)
           have d1 : wj.cell? ⟨g, t2, none⟩ = some (.int .i64 (k2 : Int)) := by rw [← hk2]; exact HC.out t2 (by omega)
           have d2 : wj.cell? ⟨mb, k2 * 11 + i, none⟩ = some (.int .i64 m) := by rw [← hm2]; exact HMv.out wj HW.out k2 i hkN hiN
           have c00 : (t1 : Int) < (len : Int) := by omega
           have c01 : (0 : Int) ≤ (t1 : Int) := by omega
           have c02 : (t2 : Int) < (len : Int) := by omega
           have c03 : (0 : Int) ≤ (t2 : Int) := by omega
           have c04 : (i : Int) < 11 := by omega
           have c05 : (0 : Int) ≤ (i : Int) := by omega
           have c06 : (k2 : Int) < 11 := by omega
           have c07 : (0 : Int) ≤ (k2 : Int) := by omega
           rw [ham]
           have q1a : t1 ≤ 2 * t + 1 := by omega
           have q1b : 2 * t + 1 ≤ t1 := by omega
           rw [e2] at hsw htd
           rw [e1] at hsw hsw2 ⊢
           clear ht1 ht2 e1 e2 hi2 hk2 hm2 ham
           have HD2 := Lib.hid (show wj.drew.heap[gp]? = some (.cells (lV p M).toArray 2 (0, 0)) from HBp.out)
           have HD3 := Lib.hid (show ∀ t, t < len → wj.drew.cell? ⟨g, t, none⟩ = some (.int .i64 ((W t : Nat) : Int)) from HC.out)
           have HD4 := Lib.hid (show Below w.heap.size w wj.drew from HW.out.drew)
           have HD5 := Lib.hid (show g < wj.drew.heap.size from HG.out)
           clear HBp HC HW HG
           go_upto_region 50 with fail
           refine wp_region_noPanic ?_
           refine wp_region_held_drew (S := (fun w' => w'.cell? ⟨g, t1, none⟩ = some (.int .i64 (i : Int)) ∧ w'.cell? ⟨g, t2, none⟩ = some (.int .i64 (k2 : Int)) ∧ w'.cell? ⟨mb, k2 * 11 + i, none⟩ = some (.int .i64 m))) (by kernel_rfl) ⟨d0, d1, d2⟩ (fun hHeld => ?_)
           refine wpAnyH_take (i := 0) (v := ?_) rfl (by kernel_rfl) (by kernel_rfl) (by kernel_rfl) (fun _ _ _ h => h) (Or.inl ⟨by rfl, ?_⟩) (by assumption) ?_
           rotate_left
           ·intro w hSw; (try dsimp only at hSw); go_simp; (try with_reducible rfl)
           try simp only [Act.put, List.getElem_toArray, List.getElem_cons_zero, List.setIfInBounds_toArray, List.set_cons_zero, List.set_cons_succ]
           refine wpAnyH_take (i := 1) (v := ?_) rfl (by kernel_rfl) (by kernel_rfl) (by kernel_rfl) (fun _ _ _ h => h) (Or.inl ⟨by rfl, ?_⟩) (by assumption) ?_
           rotate_left
           ·intro w hSw; (try dsimp only at hSw); go_simp; (try with_reducible rfl)
           try simp only [Act.put, List.getElem_toArray, List.getElem_cons_zero, List.getElem_cons_succ, List.setIfInBounds_toArray, List.set_cons_zero, List.set_cons_succ]
           refine wpAnyH_take (i := 2) (v := ?_) rfl (by kernel_rfl) (by kernel_rfl) (by kernel_rfl) (fun _ _ _ h => h) (Or.inl ⟨by rfl, ?_⟩) (by assumption) ?_
           rotate_left
           ·intro w hSw; (try dsimp only at hSw); go_simp; (try with_reducible rfl)
           try simp only [Act.put, List.getElem_toArray, List.getElem_cons_zero, List.getElem_cons_succ, List.setIfInBounds_toArray, List.set_cons_zero, List.set_cons_succ]
           refine wpAnyH_take (i := 3) (v := ?_) rfl (by kernel_rfl) (by kernel_rfl) (by kernel_rfl) (fun _ _ _ h => h) (Or.inl ⟨by rfl, ?_⟩) (by assumption) ?_
           rotate_left
           ·intro w hSw; (try dsimp only at hSw); go_simp; (try with_reducible rfl)
           try simp only [Act.put, List.getElem_toArray, List.getElem_cons_zero, List.getElem_cons_succ, List.setIfInBounds_toArray, List.set_cons_zero, List.set_cons_succ]
           refine wpAnyH_take (i := 4) (v := ?_) rfl (by kernel_rfl) (by kernel_rfl) (by kernel_rfl) (fun _ _ _ h => h) (Or.inl ⟨by rfl, ?_⟩) (by assumption) ?_
           rotate_left
           ·intro w hSw; (try dsimp only at hSw); go_simp; (try with_reducible rfl)
           try simp only [Act.put, List.getElem_toArray, List.getElem_cons_zero, List.getElem_cons_succ, List.setIfInBounds_toArray, List.set_cons_zero, List.set_cons_succ]
           try simp only [hsw]
           refine wpAnyH_take (i := 5) (v := ?_) rfl (by kernel_rfl) (by kernel_rfl) (by kernel_rfl) (fun _ _ _ h => h) (Or.inl ⟨by rfl, ?_⟩) (by assumption) ?_
           rotate_left
           ·intro w hSw; (try dsimp only at hSw); go_simp; (try with_reducible rfl)
           try simp only [Act.put, List.getElem_toArray, List.getElem_cons_zero, List.getElem_cons_succ, List.setIfInBounds_toArray, List.set_cons_zero, List.set_cons_succ]
           refine wpAnyH_take (i := 6) (v := ?_) rfl (by kernel_rfl) (by kernel_rfl) (by kernel_rfl) (fun _ _ _ h => h) (Or.inl ⟨by rfl, ?_⟩) (by assumption) ?_
           rotate_left
           ·intro w hSw; (try dsimp only at hSw); go_simp; (try with_reducible rfl)
           try simp only [Act.put, List.getElem_toArray, List.getElem_cons_zero, List.getElem_cons_succ, List.setIfInBounds_toArray, List.set_cons_zero, List.set_cons_succ]
           refine wpAnyH_take (i := 7) (v := ?_) rfl (by kernel_rfl) (by kernel_rfl) (by kernel_rfl) (fun _ _ _ h => h) (Or.inl ⟨by rfl, ?_⟩) (by assumption) ?_
           rotate_left
           ·intro w hSw; (try dsimp only at hSw); go_simp; (try with_reducible rfl)
           try simp only [Act.put, List.getElem_toArray, List.getElem_cons_zero, List.getElem_cons_succ, List.setIfInBounds_toArray, List.set_cons_zero, List.set_cons_succ]
           refine wpAnyH_take (i := 8) (v := ?_) rfl (by kernel_rfl) (by kernel_rfl) (by kernel_rfl) (fun _ _ _ h => h) (Or.inl ⟨by rfl, ?_⟩) (by assumption) ?_
           rotate_left
           ·intro w hSw; (try dsimp only at hSw); go_simp; (try with_reducible rfl)
           try simp only [Act.put, List.getElem_toArray, List.getElem_cons_zero, List.getElem_cons_succ, List.setIfInBounds_toArray, List.set_cons_zero, List.set_cons_succ]
           refine wpAnyH_take (i := 9) (v := ?_) rfl (by kernel_rfl) (by kernel_rfl) (by kernel_rfl) (fun _ _ _ h => h) (Or.inl ⟨by rfl, ?_⟩) (by assumption) ?_
           rotate_left
           ·intro w hSw; (try dsimp only at hSw); go_simp; (try with_reducible rfl)
           try simp only [Act.put, List.getElem_toArray, List.getElem_cons_zero, List.getElem_cons_succ, List.setIfInBounds_toArray, List.set_cons_zero, List.set_cons_succ]
           refine wpAnyH_take (i := 10) (v := ?_) rfl (by kernel_rfl) (by kernel_rfl) (by kernel_rfl) (fun _ _ _ h => h) (Or.inl ⟨by rfl, ?_⟩) (by assumption) ?_
           rotate_left
           ·intro w hSw; (try dsimp only at hSw); go_simp; (try with_reducible rfl)
           try simp only [Act.put, List.getElem_toArray, List.getElem_cons_zero, List.getElem_cons_succ, List.setIfInBounds_toArray, List.set_cons_zero, List.set_cons_succ]
           refine wpAnyH_take (i := 11) (v := ?_) rfl (by kernel_rfl) (by kernel_rfl) (by kernel_rfl) (fun _ _ _ h => h) (Or.inl ⟨by rfl, ?_⟩) (by assumption) ?_
           rotate_left
           ·intro w hSw; (try dsimp only at hSw); go_simp; (try with_reducible rfl)
           try simp only [Act.put, List.getElem_toArray, List.getElem_cons_zero, List.getElem_cons_succ, List.setIfInBounds_toArray, List.set_cons_zero, List.set_cons_succ]
           refine wpAnyH_take (i := 12) (v := ?_) rfl (by kernel_rfl) (by kernel_rfl) (by kernel_rfl) (fun _ _ _ h => h) (Or.inl ⟨by rfl, ?_⟩) (by assumption) ?_
           rotate_left
           ·intro w hSw; (try dsimp only at hSw); go_simp; (try with_reducible rfl)
           try simp only [Act.put, List.getElem_toArray, List.getElem_cons_zero, List.getElem_cons_succ, List.setIfInBounds_toArray, List.set_cons_zero, List.set_cons_succ]
           refine wpAnyH_take (i := 13) (v := ?_) rfl (by kernel_rfl) (by kernel_rfl) (by kernel_rfl) (fun _ _ _ h => h) (Or.inl ⟨by rfl, ?_⟩) (by assumption) ?_
           rotate_left
           ·intro w hSw; (try dsimp only at hSw); go_simp; (try with_reducible rfl)
           try simp only [Act.put, List.getElem_toArray, List.getElem_cons_zero, List.getElem_cons_succ, List.setIfInBounds_toArray, List.set_cons_zero, List.set_cons_succ]
           refine wpAnyH_take (i := 14) (v := ?_) rfl (by kernel_rfl) (by kernel_rfl) (by kernel_rfl) (fun _ _ _ h => h) (Or.inl ⟨by rfl, ?_⟩) (by assumption) ?_
           rotate_left
           ·intro w hSw; (try dsimp only at hSw); go_simp; (try with_reducible rfl)
           try simp only [Act.put, List.getElem_toArray, List.getElem_cons_zero, List.getElem_cons_succ, List.setIfInBounds_toArray, List.set_cons_zero, List.set_cons_succ]
           refine wpAnyH_take (i := 15) (v := ?_) rfl (by kernel_rfl) (by kernel_rfl) (by kernel_rfl) (fun _ _ _ h => h) (Or.inl ⟨by rfl, ?_⟩) (by assumption) ?_
           rotate_left
           ·intro w hSw; (try dsimp only at hSw); go_simp; (try with_reducible rfl)
           try simp only [Act.put, List.getElem_toArray, List.getElem_cons_zero, List.getElem_cons_succ, List.setIfInBounds_toArray, List.set_cons_zero, List.set_cons_succ]
           refine wpAnyH_take (i := 16) (v := ?_) rfl (by kernel_rfl) (by kernel_rfl) (by kernel_rfl) (fun _ _ _ h => h) (Or.inl ⟨by rfl, ?_⟩) (by assumption) ?_
           rotate_left
           ·intro w hSw; (try dsimp only at hSw); go_simp; (try with_reducible rfl)
           try simp only [Act.put, List.getElem_toArray, List.getElem_cons_zero, List.getElem_cons_succ, List.setIfInBounds_toArray, List.set_cons_zero, List.set_cons_succ]
           refine wpAnyH_done (by kernel_rfl) ?_ _
           refine NoPanic.normal ?_
           clear d0 d1 d2
           go_wp2_with fail
           go_roundw
           case rel => exact ⟨t + 1, by omega, by first | rfl | go_num, by rw [HA1.out], HD2.out, HD3.out, HD4.out, HD5.out⟩
           case measure => simp [intOf]; omega
          have htd : decide (2 * (t : Int) + 2 < (len : Int)) = false := by simp; omega
          have htE : t = (len - 1) / 2 := by omega
          obtain ⟨e0, rfl⟩ : ∃ e0 : Nat, E = (e0 : Int) := ⟨E.toNat, by omega⟩
          have e0M : e0 < M := by have q := HEm.out (by omega); rw [Int.toNat_natCast] at q; have := HM.out; have := Hn.out; omega
          have e00 : (e0 : Int) < (M : Int) := by omega
          have e01 : (0 : Int) ≤ (e0 : Int) := by omega
          obtain ⟨z, hz⟩ : ∃ z, p e0 = z := ⟨_, rfl⟩
          have cz : wj.cell? ⟨gp, e0, none⟩ = some (.int .i64 z) := by rw [← hz]; exact row_at HBp.out (lV_at _ e0M)
          obtain ⟨am, ham⟩ : ∃ a, amT need mo W len t = a := ⟨_, rfl⟩
          rw [ham]
          have HR := Lib.hid (show PthR N xs need mo w.heap.size (.returned (.tuple #[.slice (some ⟨g, 0, none⟩) len cg, .int .i64 z, .int .i64 am])) wj.drew by
           refine .inr ⟨by rw [HEq.out]; omega, L, g, cg, by rw [HEq.out, ← Hfr.out]; exact HL.out, by omega, HG.out, fun j hj => ?_, ?_⟩
           ·have q := HC.out j (by rw [Hlen.out]; exact hj)
            rw [HWd.out] at q
            exact q
           ·rw [HEq.out, Int.toNat_natCast, ← Hp.out, hz, ← ham, HWd.out, htE, Hlen.out])
          have HWd2 := Lib.hid (HW.out.drew)
          clear hz ham htE
          go_upto_region 51 with fail
          refine wp_region_noPanic ?_
          refine wp_region_held_drew (S := (fun w' => w'.cell? ⟨gp, e0, none⟩ = some (.int .i64 z))) (by kernel_rfl) cz (fun hHeld => ?_)
          refine wpAnyH_take (i := 0) (v := ?_) rfl (by kernel_rfl) (by kernel_rfl) (by kernel_rfl) (fun _ _ _ h => h) (Or.inl ⟨by rfl, ?_⟩) (by assumption) ?_
          rotate_left
          ·intro w hSw; (try dsimp only at hSw); go_simp; (try with_reducible rfl)
          try simp only [Act.put, List.getElem_toArray, List.getElem_cons_zero, List.setIfInBounds_toArray, List.set_cons_zero, List.set_cons_succ]
          refine wpAnyH_take (i := 1) (v := ?_) rfl (by kernel_rfl) (by kernel_rfl) (by kernel_rfl) (fun _ _ _ h => h) (Or.inl ⟨by rfl, ?_⟩) (by assumption) ?_
          rotate_left
          ·intro w hSw; (try dsimp only at hSw); go_simp; (try with_reducible rfl)
          try simp only [Act.put, List.getElem_toArray, List.getElem_cons_zero, List.getElem_cons_succ, List.setIfInBounds_toArray, List.set_cons_zero, List.set_cons_succ]
          refine wpAnyH_take (i := 2) (v := ?_) rfl (by kernel_rfl) (by kernel_rfl) (by kernel_rfl) (fun _ _ _ h => h) (Or.inl ⟨by rfl, ?_⟩) (by assumption) ?_
          rotate_left
          ·intro w hSw; (try dsimp only at hSw); go_simp; (try with_reducible rfl)
          try simp only [Act.put, List.getElem_toArray, List.getElem_cons_zero, List.getElem_cons_succ, List.setIfInBounds_toArray, List.set_cons_zero, List.set_cons_succ]
          refine wpAnyH_take (i := 3) (v := ?_) rfl (by kernel_rfl) (by kernel_rfl) (by kernel_rfl) (fun _ _ _ h => h) (Or.inl ⟨by rfl, ?_⟩) (by assumption) ?_
          rotate_left
          ·intro w hSw; (try dsimp only at hSw); go_simp; (try with_reducible rfl)
          try simp only [Act.put, List.getElem_toArray, List.getElem_cons_zero, List.getElem_cons_succ, List.setIfInBounds_toArray, List.set_cons_zero, List.set_cons_succ]
          refine wpAnyH_take (i := 4) (v := ?_) rfl (by kernel_rfl) (by kernel_rfl) (by kernel_rfl) (fun _ _ _ h => h) (Or.inl ⟨by rfl, ?_⟩) (by assumption) ?_
          rotate_left
          ·intro w hSw; (try dsimp only at hSw); go_simp; (try with_reducible rfl)
          try simp only [Act.put, List.getElem_toArray, List.getElem_cons_zero, List.getElem_cons_succ, List.setIfInBounds_toArray, List.set_cons_zero, List.set_cons_succ]
          refine wpAnyH_take (i := 5) (v := ?_) rfl (by kernel_rfl) (by kernel_rfl) (by kernel_rfl) (fun _ _ _ h => h) (Or.inl ⟨by rfl, ?_⟩) (by assumption) ?_
          rotate_left
          ·intro w hSw; (try dsimp only at hSw); go_simp; (try with_reducible rfl)
          try simp only [Act.put, List.getElem_toArray, List.getElem_cons_zero, List.getElem_cons_succ, List.setIfInBounds_toArray, List.set_cons_zero, List.set_cons_succ]
          refine wpAnyH_take (i := 6) (v := ?_) rfl (by kernel_rfl) (by kernel_rfl) (by kernel_rfl) (fun _ _ _ h => h) (Or.inl ⟨by rfl, ?_⟩) (by assumption) ?_
          rotate_left
          ·intro w hSw; (try dsimp only at hSw); go_simp; (try with_reducible rfl)
          try simp only [Act.put, List.getElem_toArray, List.getElem_cons_zero, List.getElem_cons_succ, List.setIfInBounds_toArray, List.set_cons_zero, List.set_cons_succ]
          refine wpAnyH_take (i := 7) (v := ?_) rfl (by kernel_rfl) (by kernel_rfl) (by kernel_rfl) (fun _ _ _ h => h) (Or.inl ⟨by rfl, ?_⟩) (by assumption) ?_
          rotate_left
          ·intro w hSw; (try dsimp only at hSw); go_simp; (try with_reducible rfl)
          try simp only [Act.put, List.getElem_toArray, List.getElem_cons_zero, List.getElem_cons_succ, List.setIfInBounds_toArray, List.set_cons_zero, List.set_cons_succ]
          refine wpAnyH_take (i := 8) (v := ?_) rfl (by kernel_rfl) (by kernel_rfl) (by kernel_rfl) (fun _ _ _ h => h) (Or.inl ⟨by rfl, ?_⟩) (by assumption) ?_
          rotate_left
          ·intro w hSw; (try dsimp only at hSw); go_simp; (try with_reducible rfl)
          try simp only [Act.put, List.getElem_toArray, List.getElem_cons_zero, List.getElem_cons_succ, List.setIfInBounds_toArray, List.set_cons_zero, List.set_cons_succ]
          refine wpAnyH_done (by kernel_rfl) ?_ _
          refine NoPanic.normal ?_
          clear cz
          go_wp2_with fail
          refine bodyPost_ret (v := .tuple #[.slice (some ⟨g, 0, none⟩) len cg, .int .i64 z, .int .i64 am]) (by simp [results, Tryz.results145, go_sem]) rfl ?_
          exact ⟨HR.out, HWd2.out⟩
     have htr : decide ((r : Int) < (M : Int)) = true := by simp; omega
     go_wp2_with fail
     go_loopw [63] (fun s wr => ∃ a : Nat, a ≤ n ∧ s = .int .i64 a ∧ wr.heap[w.heap.size]? = some (.cells #[.int .i64 N, .slice ao xs.length cap] 32 (0, 0)) ∧ wr.heap[gp]? = some (.cells (lV ((rels (aK N xs mo a) (rnds (aK N xs mo (N + 1)) (p0F need) r)).1) M).toArray 2 (0, 0)) ∧ wr.heap[gf]? = some (.cells (lV ((rels (aK N xs mo a) (rnds (aK N xs mo (N + 1)) (p0F need) r)).2) M).toArray 3 (0, 0)) ∧ Below w.heap.size w wr) (fun s _ => n - (intOf s).toNat)
     case atStart => exact ⟨0, Nat.zero_le _, rfl, HBz.out, HBp.out, HBf.out, HW.out⟩
     case round => as_aux_lemma =>
      clear HBz HBp HBf HW
      obtain ⟨a, ha, rfl, h1, h2, h3, h4⟩ := hrel
      have HBz := Lib.hid h1
      have HBp := Lib.hid h2
      have HBf := Lib.hid h3
      have HW := Lib.hid h4
      clear h1 h2 h3 h4
      obtain ⟨wd, hwx⟩ : ∃ V, V = wr := ⟨_, rfl⟩
      subst hwx
      by_cases han : a < n
      rotate_left
      ·have hta : decide ((a : Int) < (n : Int)) = false := by simp; omega
       have haE : a = N + 1 := by have := Hn.out; omega
       rw [haE] at HBp HBf
       clear haE
       go_wp2_with fail
       go_roundw
       case rel => exact ⟨r + 1, by omega, by go_num, HBz.out, HBp.out, HBf.out, HW.out⟩
       case measure => simp [intOf]; omega
      have hta : decide ((a : Int) < (n : Int)) = true := by simp; omega
      go_wp2_with fail
      go_loopw [67] (fun s wr => ∃ i : Nat, i ≤ n ∧ s = .int .i64 i ∧ wr.heap[w.heap.size]? = some (.cells #[.int .i64 N, .slice ao xs.length cap] 32 (0, 0)) ∧ wr.heap[gp]? = some (.cells (lV ((rels (aI N xs mo a i) (rels (aK N xs mo a) (rnds (aK N xs mo (N + 1)) (p0F need) r))).1) M).toArray 2 (0, 0)) ∧ wr.heap[gf]? = some (.cells (lV ((rels (aI N xs mo a i) (rels (aK N xs mo a) (rnds (aK N xs mo (N + 1)) (p0F need) r))).2) M).toArray 3 (0, 0)) ∧ Below w.heap.size w wr) (fun s _ => n - (intOf s).toNat)
      case atStart => exact ⟨0, Nat.zero_le _, rfl, HBz.out, HBp.out, HBf.out, HW.out⟩
      case round => as_aux_lemma =>
       clear HBz HBp HBf HW
       obtain ⟨i, hi, rfl, h1, h2, h3, h4⟩ := hrel
       have HBz := Lib.hid h1
       have HBp := Lib.hid h2
       have HBf := Lib.hid h3
       have HW := Lib.hid h4
       clear h1 h2 h3 h4
       obtain ⟨we, hwx⟩ : ∃ V, V = wr := ⟨_, rfl⟩
       subst hwx
       by_cases hin : i < n
       rotate_left
       ·have hti : decide ((i : Int) < (n : Int)) = false := by simp; omega
        have hiE : i = N + 1 := by have := Hn.out; omega
        rw [hiE] at HBp HBf
        rw [← rels_append] at HBp HBf
        rw [show aK N xs mo a ++ aI N xs mo a (N + 1) = aK N xs mo (a + 1) from rfl] at HBp HBf
        clear hiE
        go_wp2_with fail
        go_roundw
        case rel => exact ⟨a + 1, by omega, by go_num, HBz.out, HBp.out, HBf.out, HW.out⟩
        case measure => simp [intOf]; omega
       have hti : decide ((i : Int) < (n : Int)) = true := by simp; omega
       have haN : a ≤ N := by omega
       have hiN : i ≤ N := by omega
       obtain ⟨P, Fr, hst⟩ : ∃ P Fr, rels (aI N xs mo a i) (rels (aK N xs mo a) (rnds (aK N xs mo (N + 1)) (p0F need) r)) = (P, Fr) := ⟨_, _, rfl⟩
       have hPb : ∀ v, -19327352832 ≤ P v ∧ P v ≤ 1152921504606846976 := fun v => by
        have q := in_round hN Hnear.out need mo (r := r) (by omega) (L := aK N xs mo a ++ aI N xs mo a i) (by
         have q1 := aK_len hN xs mo a
         have q2 := aI_len N xs mo a i
         rw [List.length_append]; omega) (fun x hx => by
          rcases List.mem_append.1 hx with hx | hx
          ·obtain ⟨k', i', q1, q2, q3⟩ := aK_mem.1 hx
           exact arc_bd Hnear.out (by omega) (by omega) q3
          ·obtain ⟨i', q1, q2⟩ := aI_mem.1 hx
           exact arc_bd Hnear.out haN (by omega) q2) v
        rw [rels_append, hst] at q
        rw [far_val] at q
        have q' : P v = 1152921504606846976 ∨ (-19327352832 ≤ P v ∧ P v ≤ 19327352832) := q
        omega
       have HNext := Lib.hid (show ∀ s, rels (aOne N xs mo a i) (P, Fr) = s → rels (aI N xs mo a (i + 1)) (rels (aK N xs mo a) (rnds (aK N xs mo (N + 1)) (p0F need) r)) = s from fun s hs => by
        show rels (aI N xs mo a i ++ aOne N xs mo a i) _ = s
        rw [rels_append, hst]; exact hs)
       rw [hst] at HBp HBf
       clear hst
       have HPb := Lib.hid hPb
       clear hPb
       have z0 : we.cell? ⟨w.heap.size, 0, none⟩ = some (.int .i64 N) := cell_of_row _ (w.heap.size) 0 _ _ _ HBz.out
       have z1 : we.cell? ⟨w.heap.size, 1, none⟩ = some (.slice ao xs.length cap) := cell_of_row _ (w.heap.size) 1 _ _ _ HBz.out
       go_wp2_with fail
       refine (prog_bn N a i _ xs _ (Hv.out.keepb HW.out) hok haN hiN).mono ?_
       rintro e w3 ⟨rfl, hb⟩
       clear z0 z1
       replace HBz := Lib.hid (hp_keep4 HBz.out hb)
       replace HBp := Lib.hid (hp_keep4 HBp.out hb)
       replace HBf := Lib.hid (hp_keep4 HBf.out hb)
       replace HW := Lib.hid (bt HW.out hb)
       clear hb
       obtain ⟨wf, hwx⟩ : ∃ V, V = w3 := ⟨_, rfl⟩
       subst hwx
       obtain ⟨c, hc⟩ : ∃ c, bF N xs a i = c := ⟨_, rfl⟩
       obtain ⟨is, his⟩ : ∃ b, fnB N xs a i = b := ⟨_, rfl⟩
       rw [hc, his]
       by_cases hai : a = i
       ·have hab : ((a : Int) == (i : Int)) = true := by simp; omega
        have HE := Lib.hid (HNext.out (P, Fr) (by unfold aOne; rw [if_pos (.inl hai)]; rfl))
        clear hai hc his
        go_wp2_with fail
        go_roundw
        case rel => exact ⟨i + 1, by omega, by go_num, HBz.out, by rw [HE.out]; exact HBp.out, by rw [HE.out]; exact HBf.out, HW.out⟩
        case measure => simp [intOf]; omega
       have hab : ((a : Int) == (i : Int)) = false := by simp; omega
       cases is with
       | false =>
        have HE := Lib.hid (HNext.out (P, Fr) (by unfold aOne; rw [if_pos (.inr his)]; rfl))
        clear hai hc his
        go_wp2_with fail
        go_roundw
        case rel => exact ⟨i + 1, by omega, by go_num, HBz.out, by rw [HE.out]; exact HBp.out, by rw [HE.out]; exact HBf.out, HW.out⟩
        case measure => simp [intOf]; omega
       | true =>
        have hcb := Hnear.out a i haN hiN (fnB_iff.1 his)
        rw [hc] at hcb
        have HNx2 := Lib.hid (show ∀ s, rels (if 0 < mo a i then [⟨2 * i + 1, 2 * a, -c⟩] else []) (rel (P, Fr) ⟨2 * a, 2 * i + 1, c⟩) = s → rels (aI N xs mo a (i + 1)) (_) = s from fun s hs => HNext.out s (by
         unfold aOne
         rw [if_neg (fun q => q.elim hai (fun z => by rw [his] at z; cases z)), hc]
         exact hs))
        clear HNext hc his hai
        obtain ⟨A, hA⟩ : ∃ A, A = 2 * a := ⟨_, rfl⟩
        obtain ⟨B, hB⟩ : ∃ B, B = 2 * i + 1 := ⟨_, rfl⟩
        obtain ⟨B2, hB2⟩ : ∃ B2, B2 = 2 * i := ⟨_, rfl⟩
        have hAw : IntKind.i64.wrap (2 * (a : Int)) = (A : Int) := by rw [wr_id (by omega) (by omega)]; omega
        have hBw2 : IntKind.i64.wrap (2 * (i : Int)) = (B2 : Int) := by rw [wr_id (by omega) (by omega)]; omega
        have hBw : IntKind.i64.wrap ((B2 : Int) + 1) = (B : Int) := by rw [wr_id (by omega) (by omega)]; omega
        have A0 : (A : Int) < (M : Int) := by omega
        have A1 : (0 : Int) ≤ (A : Int) := by omega
        have AM : A < M := by omega
        have B0 : (B : Int) < (M : Int) := by omega
        have B1 : (0 : Int) ≤ (B : Int) := by omega
        have BM : B < M := by omega
        have hAB : A ≠ B := by omega
        have HA := Lib.hid hA
        have HB := Lib.hid hB
        rw [← hA, ← hB] at HNx2
        clear hA hB hB2
        obtain ⟨x, hx⟩ : ∃ x, P A = x := ⟨_, rfl⟩
        obtain ⟨y, hy⟩ : ∃ y, P B = y := ⟨_, rfl⟩
        have hxb := HPb.out A
        have hyb := HPb.out B
        rw [hx] at hxb
        rw [hy] at hyb
        have cx : wf.cell? ⟨gp, A, none⟩ = some (.int .i64 x) := by rw [← hx]; exact row_at HBp.out (lV_at _ AM)
        have cy : wf.cell? ⟨gp, B, none⟩ = some (.int .i64 y) := by rw [← hy]; exact row_at HBp.out (lV_at _ BM)
        obtain ⟨s1, hs1⟩ : ∃ s1, s1 = x + c := ⟨_, rfl⟩
        have hsw : IntKind.i64.wrap (x + c) = s1 := by rw [wr_id (by omega) (by omega)]; exact hs1.symm
        have Hs1 := Lib.hid hs1
        have Hx := Lib.hid hx
        have Hy := Lib.hid hy
        have hs1b : -20000000000 ≤ s1 := by omega
        clear hs1 hx hy
        go_upto_region 24 with fail
        go_cut [105] (fun s wx => s = .bool (decide (x < 1152921504606846976 ∧ s1 < y)) ∧ wx = wf.drew)
        case first => as_aux_lemma =>
         by_cases hxf : x < 1152921504606846976
         ·have h1 : decide (x < 1152921504606846976) = true := by simpa using hxf
          by_cases hlt2 : s1 < y
          ·have h2 : decide (s1 < y) = true := by simpa using hlt2
           refine wp_region_noPanic ?_
           refine wp_region_held_drew (S := (fun w' => w'.cell? ⟨gp, A, none⟩ = some (.int .i64 x) ∧ w'.cell? ⟨gp, B, none⟩ = some (.int .i64 y))) (by kernel_rfl) ⟨cx, cy⟩ (fun hHeld => ?_)
           refine wpAnyH_take (i := 0) (v := ?_) rfl (by kernel_rfl) (by kernel_rfl) (by kernel_rfl) (fun _ _ _ h => h) (Or.inl ⟨by rfl, ?_⟩) (by assumption) ?_
           rotate_left
           ·intro w hSw; (try dsimp only at hSw); go_simp; (try with_reducible rfl)
           try simp only [Act.put, List.getElem_toArray, List.getElem_cons_zero, List.setIfInBounds_toArray, List.set_cons_zero, List.set_cons_succ]
           refine wpAnyH_take (i := 1) (v := ?_) rfl (by kernel_rfl) (by kernel_rfl) (by kernel_rfl) (fun _ _ _ h => h) (Or.inl ⟨by rfl, ?_⟩) (by assumption) ?_
           rotate_left
           ·intro w hSw; (try dsimp only at hSw); go_simp; (try with_reducible rfl)
           try simp only [Act.put, List.getElem_toArray, List.getElem_cons_zero, List.getElem_cons_succ, List.setIfInBounds_toArray, List.set_cons_zero, List.set_cons_succ]
           refine wpAnyH_take (i := 2) (v := ?_) rfl (by kernel_rfl) (by kernel_rfl) (by kernel_rfl) (fun _ _ _ h => h) (Or.inl ⟨by rfl, ?_⟩) (by assumption) ?_
           rotate_left
           ·intro w hSw; (try dsimp only at hSw); go_simp; (try with_reducible rfl)
           try simp only [Act.put, List.getElem_toArray, List.getElem_cons_zero, List.getElem_cons_succ, List.setIfInBounds_toArray, List.set_cons_zero, List.set_cons_succ]
           try simp only [hAw, hBw2, hBw, hsw]
           refine wpAnyH_take (i := 3) (v := ?_) rfl (by kernel_rfl) (by kernel_rfl) (by kernel_rfl) (fun _ _ _ h => h) (Or.inl ⟨by rfl, ?_⟩) (by assumption) ?_
           rotate_left
           ·intro w hSw; (try dsimp only at hSw); go_simp; (try with_reducible rfl)
           try simp only [Act.put, List.getElem_toArray, List.getElem_cons_zero, List.getElem_cons_succ, List.setIfInBounds_toArray, List.set_cons_zero, List.set_cons_succ]
           refine wpAnyH_take (i := 4) (v := ?_) rfl (by kernel_rfl) (by kernel_rfl) (by kernel_rfl) (fun _ _ _ h => h) (Or.inl ⟨by rfl, ?_⟩) (by assumption) ?_
           rotate_left
           ·intro w hSw; (try dsimp only at hSw); go_simp; (try with_reducible rfl)
           try simp only [Act.put, List.getElem_toArray, List.getElem_cons_zero, List.getElem_cons_succ, List.setIfInBounds_toArray, List.set_cons_zero, List.set_cons_succ]
           refine wpAnyH_take (i := 5) (v := ?_) rfl (by kernel_rfl) (by kernel_rfl) (by kernel_rfl) (fun _ _ _ h => h) (Or.inl ⟨by rfl, ?_⟩) (by assumption) ?_
           rotate_left
           ·intro w hSw; (try dsimp only at hSw); go_simp; (try with_reducible rfl)
           try simp only [Act.put, List.getElem_toArray, List.getElem_cons_zero, List.getElem_cons_succ, List.setIfInBounds_toArray, List.set_cons_zero, List.set_cons_succ]
           try simp only [h1, h2]
           refine wpAnyH_take (i := 6) (v := ?_) rfl (by kernel_rfl) (by kernel_rfl) (by kernel_rfl) (fun _ _ _ h => h) (Or.inl ⟨by rfl, ?_⟩) (by assumption) ?_
           rotate_left
           ·intro w hSw; (try dsimp only at hSw); go_simp; (try with_reducible rfl)
           try simp only [Act.put, List.getElem_toArray, List.getElem_cons_zero, List.getElem_cons_succ, List.setIfInBounds_toArray, List.set_cons_zero, List.set_cons_succ]
           refine wpAnyH_take (i := 7) (v := ?_) rfl (by kernel_rfl) (by kernel_rfl) (by kernel_rfl) (fun _ _ _ h => h) (Or.inl ⟨by rfl, ?_⟩) (by assumption) ?_
           rotate_left
           ·intro w hSw; (try dsimp only at hSw); go_simp; (try with_reducible rfl)
           try simp only [Act.put, List.getElem_toArray, List.getElem_cons_zero, List.getElem_cons_succ, List.setIfInBounds_toArray, List.set_cons_zero, List.set_cons_succ]
           refine wpAnyH_take (i := 8) (v := ?_) rfl (by kernel_rfl) (by kernel_rfl) (by kernel_rfl) (fun _ _ _ h => h) (Or.inl ⟨by rfl, ?_⟩) (by assumption) ?_
           rotate_left
           ·intro w hSw; (try dsimp only at hSw); go_simp; (try with_reducible rfl)
           try simp only [Act.put, List.getElem_toArray, List.getElem_cons_zero, List.getElem_cons_succ, List.setIfInBounds_toArray, List.set_cons_zero, List.set_cons_succ]
           refine wpAnyH_take (i := 9) (v := ?_) rfl (by kernel_rfl) (by kernel_rfl) (by kernel_rfl) (fun _ _ _ h => h) (Or.inl ⟨by rfl, ?_⟩) (by assumption) ?_
           rotate_left
           ·intro w hSw; (try dsimp only at hSw); go_simp; (try with_reducible rfl)
           try simp only [Act.put, List.getElem_toArray, List.getElem_cons_zero, List.getElem_cons_succ, List.setIfInBounds_toArray, List.set_cons_zero, List.set_cons_succ]
           try simp only [hAw, hBw2, hBw, hsw]
           refine wpAnyH_take (i := 10) (v := ?_) rfl (by kernel_rfl) (by kernel_rfl) (by kernel_rfl) (fun _ _ _ h => h) (Or.inl ⟨by rfl, ?_⟩) (by assumption) ?_
           rotate_left
           ·intro w hSw; (try dsimp only at hSw); go_simp; (try with_reducible rfl)
           try simp only [Act.put, List.getElem_toArray, List.getElem_cons_zero, List.getElem_cons_succ, List.setIfInBounds_toArray, List.set_cons_zero, List.set_cons_succ]
           refine wpAnyH_take (i := 11) (v := ?_) rfl (by kernel_rfl) (by kernel_rfl) (by kernel_rfl) (fun _ _ _ h => h) (Or.inl ⟨by rfl, ?_⟩) (by assumption) ?_
           rotate_left
           ·intro w hSw; (try dsimp only at hSw); go_simp; (try with_reducible rfl)
           try simp only [Act.put, List.getElem_toArray, List.getElem_cons_zero, List.getElem_cons_succ, List.setIfInBounds_toArray, List.set_cons_zero, List.set_cons_succ]
           refine wpAnyH_take (i := 12) (v := ?_) rfl (by kernel_rfl) (by kernel_rfl) (by kernel_rfl) (fun _ _ _ h => h) (Or.inl ⟨by rfl, ?_⟩) (by assumption) ?_
           rotate_left
           ·intro w hSw; (try dsimp only at hSw); go_simp; (try with_reducible rfl)
           try simp only [Act.put, List.getElem_toArray, List.getElem_cons_zero, List.getElem_cons_succ, List.setIfInBounds_toArray, List.set_cons_zero, List.set_cons_succ]
           refine wpAnyH_take (i := 13) (v := ?_) rfl (by kernel_rfl) (by kernel_rfl) (by kernel_rfl) (fun _ _ _ h => h) (Or.inl ⟨by rfl, ?_⟩) (by assumption) ?_
           rotate_left
           ·intro w hSw; (try dsimp only at hSw); go_simp; (try with_reducible rfl)
           try simp only [Act.put, List.getElem_toArray, List.getElem_cons_zero, List.getElem_cons_succ, List.setIfInBounds_toArray, List.set_cons_zero, List.set_cons_succ]
           try simp only [hAw, hBw2, hBw, hsw]
           refine wpAnyH_take (i := 14) (v := ?_) rfl (by kernel_rfl) (by kernel_rfl) (by kernel_rfl) (fun _ _ _ h => h) (Or.inl ⟨by rfl, ?_⟩) (by assumption) ?_
           rotate_left
           ·intro w hSw; (try dsimp only at hSw); go_simp; (try with_reducible rfl)
           try simp only [Act.put, List.getElem_toArray, List.getElem_cons_zero, List.getElem_cons_succ, List.setIfInBounds_toArray, List.set_cons_zero, List.set_cons_succ]
           refine wpAnyH_take (i := 15) (v := ?_) rfl (by kernel_rfl) (by kernel_rfl) (by kernel_rfl) (fun _ _ _ h => h) (Or.inl ⟨by rfl, ?_⟩) (by assumption) ?_
           rotate_left
           ·intro w hSw; (try dsimp only at hSw); go_simp; (try with_reducible rfl)
           try simp only [Act.put, List.getElem_toArray, List.getElem_cons_zero, List.getElem_cons_succ, List.setIfInBounds_toArray, List.set_cons_zero, List.set_cons_succ]
           refine wpAnyH_take (i := 16) (v := ?_) rfl (by kernel_rfl) (by kernel_rfl) (by kernel_rfl) (fun _ _ _ h => h) (Or.inl ⟨by rfl, ?_⟩) (by assumption) ?_
           rotate_left
           ·intro w hSw; (try dsimp only at hSw); go_simp; (try with_reducible rfl)
           try simp only [Act.put, List.getElem_toArray, List.getElem_cons_zero, List.getElem_cons_succ, List.setIfInBounds_toArray, List.set_cons_zero, List.set_cons_succ]
           try simp only [hAw, hBw2, hBw, hsw]
           refine wpAnyH_take (i := 17) (v := ?_) rfl (by kernel_rfl) (by kernel_rfl) (by kernel_rfl) (fun _ _ _ h => h) (Or.inl ⟨by rfl, ?_⟩) (by assumption) ?_
           rotate_left
           ·intro w hSw; (try dsimp only at hSw); go_simp; (try with_reducible rfl)
           try simp only [Act.put, List.getElem_toArray, List.getElem_cons_zero, List.getElem_cons_succ, List.setIfInBounds_toArray, List.set_cons_zero, List.set_cons_succ]
           try simp only [hAw, hBw2, hBw, hsw]
           refine wpAnyH_take (i := 18) (v := ?_) rfl (by kernel_rfl) (by kernel_rfl) (by kernel_rfl) (fun _ _ _ h => h) (Or.inl ⟨by rfl, ?_⟩) (by assumption) ?_
           rotate_left
           ·intro w hSw; (try dsimp only at hSw); go_simp; (try with_reducible rfl)
           try simp only [Act.put, List.getElem_toArray, List.getElem_cons_zero, List.getElem_cons_succ, List.setIfInBounds_toArray, List.set_cons_zero, List.set_cons_succ]
           refine wpAnyH_take (i := 19) (v := ?_) rfl (by kernel_rfl) (by kernel_rfl) (by kernel_rfl) (fun _ _ _ h => h) (Or.inl ⟨by rfl, ?_⟩) (by assumption) ?_
           rotate_left
           ·intro w hSw; (try dsimp only at hSw); go_simp; (try with_reducible rfl)
           try simp only [Act.put, List.getElem_toArray, List.getElem_cons_zero, List.getElem_cons_succ, List.setIfInBounds_toArray, List.set_cons_zero, List.set_cons_succ]
           refine wpAnyH_take (i := 20) (v := ?_) rfl (by kernel_rfl) (by kernel_rfl) (by kernel_rfl) (fun _ _ _ h => h) (Or.inl ⟨by rfl, ?_⟩) (by assumption) ?_
           rotate_left
           ·intro w hSw; (try dsimp only at hSw); go_simp; (try with_reducible rfl)
           try simp only [Act.put, List.getElem_toArray, List.getElem_cons_zero, List.getElem_cons_succ, List.setIfInBounds_toArray, List.set_cons_zero, List.set_cons_succ]
           try simp only [h1, h2]
           refine wpAnyH_take (i := 21) (v := ?_) rfl (by kernel_rfl) (by kernel_rfl) (by kernel_rfl) (fun _ _ _ h => h) (Or.inl ⟨by rfl, ?_⟩) (by assumption) ?_
           rotate_left
           ·intro w hSw; (try dsimp only at hSw); go_simp; (try with_reducible rfl)
           try simp only [Act.put, List.getElem_toArray, List.getElem_cons_zero, List.getElem_cons_succ, List.setIfInBounds_toArray, List.set_cons_zero, List.set_cons_succ]
           refine wpAnyH_done (by kernel_rfl) ?_ _
           refine NoPanic.normal ?_
           go_wp2_with fail
           go_meet
           exact ⟨by first | rfl | (simp; omega), rfl⟩
          ·have h2 : decide (s1 < y) = false := by simpa using hlt2
           refine wp_region_noPanic ?_
           refine wp_region_held_drew (S := (fun w' => w'.cell? ⟨gp, A, none⟩ = some (.int .i64 x) ∧ w'.cell? ⟨gp, B, none⟩ = some (.int .i64 y))) (by kernel_rfl) ⟨cx, cy⟩ (fun hHeld => ?_)
           refine wpAnyH_take (i := 0) (v := ?_) rfl (by kernel_rfl) (by kernel_rfl) (by kernel_rfl) (fun _ _ _ h => h) (Or.inl ⟨by rfl, ?_⟩) (by assumption) ?_
           rotate_left
           ·intro w hSw; (try dsimp only at hSw); go_simp; (try with_reducible rfl)
           try simp only [Act.put, List.getElem_toArray, List.getElem_cons_zero, List.setIfInBounds_toArray, List.set_cons_zero, List.set_cons_succ]
           refine wpAnyH_take (i := 1) (v := ?_) rfl (by kernel_rfl) (by kernel_rfl) (by kernel_rfl) (fun _ _ _ h => h) (Or.inl ⟨by rfl, ?_⟩) (by assumption) ?_
           rotate_left
           ·intro w hSw; (try dsimp only at hSw); go_simp; (try with_reducible rfl)
           try simp only [Act.put, List.getElem_toArray, List.getElem_cons_zero, List.getElem_cons_succ, List.setIfInBounds_toArray, List.set_cons_zero, List.set_cons_succ]
           refine wpAnyH_take (i := 2) (v := ?_) rfl (by kernel_rfl) (by kernel_rfl) (by kernel_rfl) (fun _ _ _ h => h) (Or.inl ⟨by rfl, ?_⟩) (by assumption) ?_
           rotate_left
           ·intro w hSw; (try dsimp only at hSw); go_simp; (try with_reducible rfl)
           try simp only [Act.put, List.getElem_toArray, List.getElem_cons_zero, List.getElem_cons_succ, List.setIfInBounds_toArray, List.set_cons_zero, List.set_cons_succ]
           try simp only [hAw, hBw2, hBw, hsw]
           refine wpAnyH_take (i := 3) (v := ?_) rfl (by kernel_rfl) (by kernel_rfl) (by kernel_rfl) (fun _ _ _ h => h) (Or.inl ⟨by rfl, ?_⟩) (by assumption) ?_
           rotate_left
           ·intro w hSw; (try dsimp only at hSw); go_simp; (try with_reducible rfl)
           try simp only [Act.put, List.getElem_toArray, List.getElem_cons_zero, List.getElem_cons_succ, List.setIfInBounds_toArray, List.set_cons_zero, List.set_cons_succ]
           refine wpAnyH_take (i := 4) (v := ?_) rfl (by kernel_rfl) (by kernel_rfl) (by kernel_rfl) (fun _ _ _ h => h) (Or.inl ⟨by rfl, ?_⟩) (by assumption) ?_
           rotate_left
           ·intro w hSw; (try dsimp only at hSw); go_simp; (try with_reducible rfl)
           try simp only [Act.put, List.getElem_toArray, List.getElem_cons_zero, List.getElem_cons_succ, List.setIfInBounds_toArray, List.set_cons_zero, List.set_cons_succ]
           refine wpAnyH_take (i := 5) (v := ?_) rfl (by kernel_rfl) (by kernel_rfl) (by kernel_rfl) (fun _ _ _ h => h) (Or.inl ⟨by rfl, ?_⟩) (by assumption) ?_
           rotate_left
           ·intro w hSw; (try dsimp only at hSw); go_simp; (try with_reducible rfl)
           try simp only [Act.put, List.getElem_toArray, List.getElem_cons_zero, List.getElem_cons_succ, List.setIfInBounds_toArray, List.set_cons_zero, List.set_cons_succ]
           try simp only [h1, h2]
           refine wpAnyH_take (i := 6) (v := ?_) rfl (by kernel_rfl) (by kernel_rfl) (by kernel_rfl) (fun _ _ _ h => h) (Or.inl ⟨by rfl, ?_⟩) (by assumption) ?_
           rotate_left
           ·intro w hSw; (try dsimp only at hSw); go_simp; (try with_reducible rfl)
           try simp only [Act.put, List.getElem_toArray, List.getElem_cons_zero, List.getElem_cons_succ, List.setIfInBounds_toArray, List.set_cons_zero, List.set_cons_succ]
           refine wpAnyH_take (i := 7) (v := ?_) rfl (by kernel_rfl) (by kernel_rfl) (by kernel_rfl) (fun _ _ _ h => h) (Or.inl ⟨by rfl, ?_⟩) (by assumption) ?_
           rotate_left
           ·intro w hSw; (try dsimp only at hSw); go_simp; (try with_reducible rfl)
           try simp only [Act.put, List.getElem_toArray, List.getElem_cons_zero, List.getElem_cons_succ, List.setIfInBounds_toArray, List.set_cons_zero, List.set_cons_succ]
           refine wpAnyH_take (i := 8) (v := ?_) rfl (by kernel_rfl) (by kernel_rfl) (by kernel_rfl) (fun _ _ _ h => h) (Or.inl ⟨by rfl, ?_⟩) (by assumption) ?_
           rotate_left
           ·intro w hSw; (try dsimp only at hSw); go_simp; (try with_reducible rfl)
           try simp only [Act.put, List.getElem_toArray, List.getElem_cons_zero, List.getElem_cons_succ, List.setIfInBounds_toArray, List.set_cons_zero, List.set_cons_succ]
           refine wpAnyH_take (i := 9) (v := ?_) rfl (by kernel_rfl) (by kernel_rfl) (by kernel_rfl) (fun _ _ _ h => h) (Or.inl ⟨by rfl, ?_⟩) (by assumption) ?_
           rotate_left
           ·intro w hSw; (try dsimp only at hSw); go_simp; (try with_reducible rfl)
           try simp only [Act.put, List.getElem_toArray, List.getElem_cons_zero, List.getElem_cons_succ, List.setIfInBounds_toArray, List.set_cons_zero, List.set_cons_succ]
           try simp only [hAw, hBw2, hBw, hsw]
           refine wpAnyH_take (i := 10) (v := ?_) rfl (by kernel_rfl) (by kernel_rfl) (by kernel_rfl) (fun _ _ _ h => h) (Or.inl ⟨by rfl, ?_⟩) (by assumption) ?_
           rotate_left
           ·intro w hSw; (try dsimp only at hSw); go_simp; (try with_reducible rfl)
           try simp only [Act.put, List.getElem_toArray, List.getElem_cons_zero, List.getElem_cons_succ, List.setIfInBounds_toArray, List.set_cons_zero, List.set_cons_succ]
           refine wpAnyH_take (i := 11) (v := ?_) rfl (by kernel_rfl) (by kernel_rfl) (by kernel_rfl) (fun _ _ _ h => h) (Or.inl ⟨by rfl, ?_⟩) (by assumption) ?_
           rotate_left
           ·intro w hSw; (try dsimp only at hSw); go_simp; (try with_reducible rfl)
           try simp only [Act.put, List.getElem_toArray, List.getElem_cons_zero, List.getElem_cons_succ, List.setIfInBounds_toArray, List.set_cons_zero, List.set_cons_succ]
           refine wpAnyH_take (i := 12) (v := ?_) rfl (by kernel_rfl) (by kernel_rfl) (by kernel_rfl) (fun _ _ _ h => h) (Or.inl ⟨by rfl, ?_⟩) (by assumption) ?_
           rotate_left
           ·intro w hSw; (try dsimp only at hSw); go_simp; (try with_reducible rfl)
           try simp only [Act.put, List.getElem_toArray, List.getElem_cons_zero, List.getElem_cons_succ, List.setIfInBounds_toArray, List.set_cons_zero, List.set_cons_succ]
           refine wpAnyH_take (i := 13) (v := ?_) rfl (by kernel_rfl) (by kernel_rfl) (by kernel_rfl) (fun _ _ _ h => h) (Or.inl ⟨by rfl, ?_⟩) (by assumption) ?_
           rotate_left
           ·intro w hSw; (try dsimp only at hSw); go_simp; (try with_reducible rfl)
           try simp only [Act.put, List.getElem_toArray, List.getElem_cons_zero, List.getElem_cons_succ, List.setIfInBounds_toArray, List.set_cons_zero, List.set_cons_succ]
           try simp only [hAw, hBw2, hBw, hsw]
           refine wpAnyH_take (i := 14) (v := ?_) rfl (by kernel_rfl) (by kernel_rfl) (by kernel_rfl) (fun _ _ _ h => h) (Or.inl ⟨by rfl, ?_⟩) (by assumption) ?_
           rotate_left
           ·intro w hSw; (try dsimp only at hSw); go_simp; (try with_reducible rfl)
           try simp only [Act.put, List.getElem_toArray, List.getElem_cons_zero, List.getElem_cons_succ, List.setIfInBounds_toArray, List.set_cons_zero, List.set_cons_succ]
           refine wpAnyH_take (i := 15) (v := ?_) rfl (by kernel_rfl) (by kernel_rfl) (by kernel_rfl) (fun _ _ _ h => h) (Or.inl ⟨by rfl, ?_⟩) (by assumption) ?_
           rotate_left
           ·intro w hSw; (try dsimp only at hSw); go_simp; (try with_reducible rfl)
           try simp only [Act.put, List.getElem_toArray, List.getElem_cons_zero, List.getElem_cons_succ, List.setIfInBounds_toArray, List.set_cons_zero, List.set_cons_succ]
           refine wpAnyH_take (i := 16) (v := ?_) rfl (by kernel_rfl) (by kernel_rfl) (by kernel_rfl) (fun _ _ _ h => h) (Or.inl ⟨by rfl, ?_⟩) (by assumption) ?_
           rotate_left
           ·intro w hSw; (try dsimp only at hSw); go_simp; (try with_reducible rfl)
           try simp only [Act.put, List.getElem_toArray, List.getElem_cons_zero, List.getElem_cons_succ, List.setIfInBounds_toArray, List.set_cons_zero, List.set_cons_succ]
           try simp only [hAw, hBw2, hBw, hsw]
           refine wpAnyH_take (i := 17) (v := ?_) rfl (by kernel_rfl) (by kernel_rfl) (by kernel_rfl) (fun _ _ _ h => h) (Or.inl ⟨by rfl, ?_⟩) (by assumption) ?_
           rotate_left
           ·intro w hSw; (try dsimp only at hSw); go_simp; (try with_reducible rfl)
           try simp only [Act.put, List.getElem_toArray, List.getElem_cons_zero, List.getElem_cons_succ, List.setIfInBounds_toArray, List.set_cons_zero, List.set_cons_succ]
           try simp only [hAw, hBw2, hBw, hsw]
           refine wpAnyH_take (i := 18) (v := ?_) rfl (by kernel_rfl) (by kernel_rfl) (by kernel_rfl) (fun _ _ _ h => h) (Or.inl ⟨by rfl, ?_⟩) (by assumption) ?_
           rotate_left
           ·intro w hSw; (try dsimp only at hSw); go_simp; (try with_reducible rfl)
           try simp only [Act.put, List.getElem_toArray, List.getElem_cons_zero, List.getElem_cons_succ, List.setIfInBounds_toArray, List.set_cons_zero, List.set_cons_succ]
           refine wpAnyH_take (i := 19) (v := ?_) rfl (by kernel_rfl) (by kernel_rfl) (by kernel_rfl) (fun _ _ _ h => h) (Or.inl ⟨by rfl, ?_⟩) (by assumption) ?_
           rotate_left
           ·intro w hSw; (try dsimp only at hSw); go_simp; (try with_reducible rfl)
           try simp only [Act.put, List.getElem_toArray, List.getElem_cons_zero, List.getElem_cons_succ, List.setIfInBounds_toArray, List.set_cons_zero, List.set_cons_succ]
           refine wpAnyH_take (i := 20) (v := ?_) rfl (by kernel_rfl) (by kernel_rfl) (by kernel_rfl) (fun _ _ _ h => h) (Or.inl ⟨by rfl, ?_⟩) (by assumption) ?_
           rotate_left
           ·intro w hSw; (try dsimp only at hSw); go_simp; (try with_reducible rfl)
           try simp only [Act.put, List.getElem_toArray, List.getElem_cons_zero, List.getElem_cons_succ, List.setIfInBounds_toArray, List.set_cons_zero, List.set_cons_succ]
           try simp only [h1, h2]
           refine wpAnyH_take (i := 21) (v := ?_) rfl (by kernel_rfl) (by kernel_rfl) (by kernel_rfl) (fun _ _ _ h => h) (Or.inl ⟨by rfl, ?_⟩) (by assumption) ?_
           rotate_left
           ·intro w hSw; (try dsimp only at hSw); go_simp; (try with_reducible rfl)
           try simp only [Act.put, List.getElem_toArray, List.getElem_cons_zero, List.getElem_cons_succ, List.setIfInBounds_toArray, List.set_cons_zero, List.set_cons_succ]
           refine wpAnyH_done (by kernel_rfl) ?_ _
           refine NoPanic.normal ?_
           go_wp2_with fail
           go_meet
           exact ⟨by first | rfl | (simp; omega), rfl⟩
         ·have h1 : decide (x < 1152921504606846976) = false := by simpa using hxf
          refine wp_region_noPanic ?_
          refine wp_region_held_drew (S := (fun w' => w'.cell? ⟨gp, A, none⟩ = some (.int .i64 x) ∧ w'.cell? ⟨gp, B, none⟩ = some (.int .i64 y))) (by kernel_rfl) ⟨cx, cy⟩ (fun hHeld => ?_)
          refine wpAnyH_take (i := 0) (v := ?_) rfl (by kernel_rfl) (by kernel_rfl) (by kernel_rfl) (fun _ _ _ h => h) (Or.inl ⟨by rfl, ?_⟩) (by assumption) ?_
          rotate_left
          ·intro w hSw; (try dsimp only at hSw); go_simp; (try with_reducible rfl)
          try simp only [Act.put, List.getElem_toArray, List.getElem_cons_zero, List.setIfInBounds_toArray, List.set_cons_zero, List.set_cons_succ]
          refine wpAnyH_take (i := 1) (v := ?_) rfl (by kernel_rfl) (by kernel_rfl) (by kernel_rfl) (fun _ _ _ h => h) (Or.inl ⟨by rfl, ?_⟩) (by assumption) ?_
          rotate_left
          ·intro w hSw; (try dsimp only at hSw); go_simp; (try with_reducible rfl)
          try simp only [Act.put, List.getElem_toArray, List.getElem_cons_zero, List.getElem_cons_succ, List.setIfInBounds_toArray, List.set_cons_zero, List.set_cons_succ]
          refine wpAnyH_take (i := 2) (v := ?_) rfl (by kernel_rfl) (by kernel_rfl) (by kernel_rfl) (fun _ _ _ h => h) (Or.inl ⟨by rfl, ?_⟩) (by assumption) ?_
          rotate_left
          ·intro w hSw; (try dsimp only at hSw); go_simp; (try with_reducible rfl)
          try simp only [Act.put, List.getElem_toArray, List.getElem_cons_zero, List.getElem_cons_succ, List.setIfInBounds_toArray, List.set_cons_zero, List.set_cons_succ]
          try simp only [hAw, hBw2, hBw, hsw]
          refine wpAnyH_take (i := 3) (v := ?_) rfl (by kernel_rfl) (by kernel_rfl) (by kernel_rfl) (fun _ _ _ h => h) (Or.inl ⟨by rfl, ?_⟩) (by assumption) ?_
          rotate_left
          ·intro w hSw; (try dsimp only at hSw); go_simp; (try with_reducible rfl)
          try simp only [Act.put, List.getElem_toArray, List.getElem_cons_zero, List.getElem_cons_succ, List.setIfInBounds_toArray, List.set_cons_zero, List.set_cons_succ]
          refine wpAnyH_take (i := 4) (v := ?_) rfl (by kernel_rfl) (by kernel_rfl) (by kernel_rfl) (fun _ _ _ h => h) (Or.inl ⟨by rfl, ?_⟩) (by assumption) ?_
          rotate_left
          ·intro w hSw; (try dsimp only at hSw); go_simp; (try with_reducible rfl)
          try simp only [Act.put, List.getElem_toArray, List.getElem_cons_zero, List.getElem_cons_succ, List.setIfInBounds_toArray, List.set_cons_zero, List.set_cons_succ]
          refine wpAnyH_take (i := 5) (v := ?_) rfl (by kernel_rfl) (by kernel_rfl) (by kernel_rfl) (fun _ _ _ h => h) (Or.inl ⟨by rfl, ?_⟩) (by assumption) ?_
          rotate_left
          ·intro w hSw; (try dsimp only at hSw); go_simp; (try with_reducible rfl)
          try simp only [Act.put, List.getElem_toArray, List.getElem_cons_zero, List.getElem_cons_succ, List.setIfInBounds_toArray, List.set_cons_zero, List.set_cons_succ]
          try simp only [h1]
          refine wpAnyH_take (i := 6) (v := ?_) rfl (by kernel_rfl) (by kernel_rfl) (by kernel_rfl) (fun _ _ _ h => h) (Or.inl ⟨by rfl, ?_⟩) (by assumption) ?_
          rotate_left
          ·intro w hSw; (try dsimp only at hSw); go_simp; (try with_reducible rfl)
          try simp only [Act.put, List.getElem_toArray, List.getElem_cons_zero, List.getElem_cons_succ, List.setIfInBounds_toArray, List.set_cons_zero, List.set_cons_succ]
          refine wpAnyH_take (i := 7) rfl (by kernel_rfl) (by kernel_rfl) (by kernel_rfl) (fun _ _ _ h => h) (Or.inr ⟨by rfl, rfl⟩) (by assumption) ?_
          try simp only [Act.put, List.getElem_toArray, List.getElem_cons_zero, List.getElem_cons_succ, List.setIfInBounds_toArray, List.set_cons_zero, List.set_cons_succ]
          refine wpAnyH_take (i := 8) rfl (by kernel_rfl) (by kernel_rfl) (by kernel_rfl) (fun _ _ _ h => h) (Or.inr ⟨by rfl, rfl⟩) (by assumption) ?_
          try simp only [Act.put, List.getElem_toArray, List.getElem_cons_zero, List.getElem_cons_succ, List.setIfInBounds_toArray, List.set_cons_zero, List.set_cons_succ]
          refine wpAnyH_take (i := 9) rfl (by kernel_rfl) (by kernel_rfl) (by kernel_rfl) (fun _ _ _ h => h) (Or.inr ⟨by rfl, rfl⟩) (by assumption) ?_
          try simp only [Act.put, List.getElem_toArray, List.getElem_cons_zero, List.getElem_cons_succ, List.setIfInBounds_toArray, List.set_cons_zero, List.set_cons_succ]
          try simp only [hAw, hBw2, hBw, hsw]
          refine wpAnyH_take (i := 10) rfl (by kernel_rfl) (by kernel_rfl) (by kernel_rfl) (fun _ _ _ h => h) (Or.inr ⟨by rfl, rfl⟩) (by assumption) ?_
          try simp only [Act.put, List.getElem_toArray, List.getElem_cons_zero, List.getElem_cons_succ, List.setIfInBounds_toArray, List.set_cons_zero, List.set_cons_succ]
          refine wpAnyH_take (i := 11) rfl (by kernel_rfl) (by kernel_rfl) (by kernel_rfl) (fun _ _ _ h => h) (Or.inr ⟨by rfl, rfl⟩) (by assumption) ?_
          try simp only [Act.put, List.getElem_toArray, List.getElem_cons_zero, List.getElem_cons_succ, List.setIfInBounds_toArray, List.set_cons_zero, List.set_cons_succ]
          refine wpAnyH_take (i := 12) rfl (by kernel_rfl) (by kernel_rfl) (by kernel_rfl) (fun _ _ _ h => h) (Or.inr ⟨by rfl, rfl⟩) (by assumption) ?_
          try simp only [Act.put, List.getElem_toArray, List.getElem_cons_zero, List.getElem_cons_succ, List.setIfInBounds_toArray, List.set_cons_zero, List.set_cons_succ]
          refine wpAnyH_take (i := 13) rfl (by kernel_rfl) (by kernel_rfl) (by kernel_rfl) (fun _ _ _ h => h) (Or.inr ⟨by rfl, rfl⟩) (by assumption) ?_
          try simp only [Act.put, List.getElem_toArray, List.getElem_cons_zero, List.getElem_cons_succ, List.setIfInBounds_toArray, List.set_cons_zero, List.set_cons_succ]
          try simp only [hAw, hBw2, hBw, hsw]
          refine wpAnyH_take (i := 14) rfl (by kernel_rfl) (by kernel_rfl) (by kernel_rfl) (fun _ _ _ h => h) (Or.inr ⟨by rfl, rfl⟩) (by assumption) ?_
          try simp only [Act.put, List.getElem_toArray, List.getElem_cons_zero, List.getElem_cons_succ, List.setIfInBounds_toArray, List.set_cons_zero, List.set_cons_succ]
          refine wpAnyH_take (i := 15) rfl (by kernel_rfl) (by kernel_rfl) (by kernel_rfl) (fun _ _ _ h => h) (Or.inr ⟨by rfl, rfl⟩) (by assumption) ?_
          try simp only [Act.put, List.getElem_toArray, List.getElem_cons_zero, List.getElem_cons_succ, List.setIfInBounds_toArray, List.set_cons_zero, List.set_cons_succ]
          refine wpAnyH_take (i := 16) rfl (by kernel_rfl) (by kernel_rfl) (by kernel_rfl) (fun _ _ _ h => h) (Or.inr ⟨by rfl, rfl⟩) (by assumption) ?_
          try simp only [Act.put, List.getElem_toArray, List.getElem_cons_zero, List.getElem_cons_succ, List.setIfInBounds_toArray, List.set_cons_zero, List.set_cons_succ]
          try simp only [hAw, hBw2, hBw, hsw]
          refine wpAnyH_take (i := 17) rfl (by kernel_rfl) (by kernel_rfl) (by kernel_rfl) (fun _ _ _ h => h) (Or.inr ⟨by rfl, rfl⟩) (by assumption) ?_
          try simp only [Act.put, List.getElem_toArray, List.getElem_cons_zero, List.getElem_cons_succ, List.setIfInBounds_toArray, List.set_cons_zero, List.set_cons_succ]
          try simp only [hAw, hBw2, hBw, hsw]
          refine wpAnyH_take (i := 18) rfl (by kernel_rfl) (by kernel_rfl) (by kernel_rfl) (fun _ _ _ h => h) (Or.inr ⟨by rfl, rfl⟩) (by assumption) ?_
          try simp only [Act.put, List.getElem_toArray, List.getElem_cons_zero, List.getElem_cons_succ, List.setIfInBounds_toArray, List.set_cons_zero, List.set_cons_succ]
          refine wpAnyH_take (i := 19) rfl (by kernel_rfl) (by kernel_rfl) (by kernel_rfl) (fun _ _ _ h => h) (Or.inr ⟨by rfl, rfl⟩) (by assumption) ?_
          try simp only [Act.put, List.getElem_toArray, List.getElem_cons_zero, List.getElem_cons_succ, List.setIfInBounds_toArray, List.set_cons_zero, List.set_cons_succ]
          refine wpAnyH_take (i := 20) rfl (by kernel_rfl) (by kernel_rfl) (by kernel_rfl) (fun _ _ _ h => h) (Or.inr ⟨by rfl, rfl⟩) (by assumption) ?_
          try simp only [Act.put, List.getElem_toArray, List.getElem_cons_zero, List.getElem_cons_succ, List.setIfInBounds_toArray, List.set_cons_zero, List.set_cons_succ]
          try simp only [h1]
          refine wpAnyH_take (i := 21) (v := ?_) rfl (by kernel_rfl) (by kernel_rfl) (by kernel_rfl) (fun _ _ _ h => h) (Or.inl ⟨by rfl, ?_⟩) (by assumption) ?_
          rotate_left
          ·intro w hSw; (try dsimp only at hSw); go_simp; (try with_reducible rfl)
          try simp only [Act.put, List.getElem_toArray, List.getElem_cons_zero, List.getElem_cons_succ, List.setIfInBounds_toArray, List.set_cons_zero, List.set_cons_succ]
          refine wpAnyH_done (by kernel_rfl) ?_ _
          refine NoPanic.normal ?_
          go_wp2_with fail
          go_meet
          exact ⟨by first | rfl | (simp; omega), rfl⟩
        case rest => as_aux_lemma =>
         obtain ⟨rfl, hwc⟩ := hcut
         subst hwc
         have h1 : wf.drew.heap[w.heap.size]? = some (.cells #[.int .i64 N, .slice ao xs.length cap] 32 (0, 0)) := HBz.out
         have h2 : wf.drew.heap[gp]? = some (.cells (lV P M).toArray 2 (0, 0)) := HBp.out
         have h3 : wf.drew.heap[gf]? = some (.cells (lV Fr M).toArray 3 (0, 0)) := HBf.out
         have h4 : Below w.heap.size w wf.drew := HW.out.drew
         clear cx cy HBz HBp HBf HW
         generalize wf.drew = wf at *
         have HBz := Lib.hid h1
         have HBp := Lib.hid h2
         have HBf := Lib.hid h3
         have HW := Lib.hid h4
         clear h1 h2 h3 h4
         obtain ⟨P1, F1, hst1⟩ : ∃ P1 F1, rel (P, Fr) ⟨A, B, c⟩ = (P1, F1) := ⟨_, _, rfl⟩
         have HRl := Lib.hid (show (P1, F1) = if x < 1152921504606846976 ∧ s1 < y then (upI P B s1, upI Fr B (A : Int)) else (P, Fr) by
          rw [← hst1]
          show (if P A < farI ∧ P A + c < P B then (upI P B (P A + c), upI Fr B (A : Int)) else (P, Fr)) = _
          rw [Hx.out, Hy.out, ← Hs1.out, far_val])
         rw [hst1] at HNx2
         clear hst1
         have cx : wf.cell? ⟨gp, A, none⟩ = some (.int .i64 x) := by rw [← Hx.out]; exact row_at HBp.out (lV_at _ AM)
         go_upto_if 105 with fail
         go_cut [] (fun wx => wx.heap[w.heap.size]? = some (.cells #[.int .i64 N, .slice ao xs.length cap] 32 (0, 0)) ∧ wx.heap[gp]? = some (.cells (lV (P1) M).toArray 2 (0, 0)) ∧ wx.heap[gf]? = some (.cells (lV (F1) M).toArray 3 (0, 0)) ∧ Below w.heap.size w wx)
         case first => as_aux_lemma =>
          by_cases hrl : x < 1152921504606846976 ∧ s1 < y
          ·have hrd : decide (x < 1152921504606846976 ∧ s1 < y) = true := by simpa using hrl
           have he := HRl.out
           rw [if_pos hrl] at he
           have HP1 := Lib.hid (congrArg Prod.fst he)
           have HF1 := Lib.hid (congrArg Prod.snd he)
           rw [hrd]
           clear he hrd
           have hfp := row_fro (k := B) HBp.out
           have Hq1 := Lib.hid (show (wf.setCell ⟨gp, B, none⟩ (.int .i64 (s1))).heap[gp]? = _ from row_set (k := B) (v := .int .i64 (s1)) HBp.out)
           have Hq2 := Lib.hid (show (wf.setCell ⟨gp, B, none⟩ (.int .i64 (s1))).heap[gf]? = _ from (st1k_ne (w := wf) (b := gp) (i := B) (c := gf) (.int .i64 (s1)) (fun e => hgpf e.symm)).trans HBf.out)
           have Hq3 := Lib.hid (show (wf.setCell ⟨gp, B, none⟩ (.int .i64 (s1))).heap[w.heap.size]? = _ from (st1k_ne (w := wf) (b := gp) (i := B) (c := w.heap.size) (.int .i64 (s1)) (by omega)).trans HBz.out)
           have Hq4 := Lib.hid (HW.out.setCell (p := ⟨gp, B, none⟩) (by show w.heap.size ≤ gp; omega) (.int .i64 (s1)))
           have hff2 : (wf.setCell ⟨gp, B, none⟩ (.int .i64 (s1))).frozen? ⟨gf, B, none⟩ = false := row_fro (k := B) Hq2.out
           have hcp : wf.cell? ⟨gp, B, none⟩ = some (.int .i64 (P B)) := row_at HBp.out (lV_at _ BM)
           have hcf : wf.cell? ⟨gf, B, none⟩ = some (.int .i64 (Fr B)) := row_at HBf.out (lV_at _ BM)
           have hcf2 : (wf.setCell ⟨gp, B, none⟩ (.int .i64 (s1))).cell? ⟨gf, B, none⟩ = some (.int .i64 (Fr B)) := row_at Hq2.out (lV_at _ BM)
           have HR1 := Lib.hid (show ((wf.setCell ⟨gp, B, none⟩ (.int .i64 (s1))).setCell ⟨gf, B, none⟩ (.int .i64 ((A : Int)))).heap[gp]? = some (.cells (lV (upI (P) B (s1)) M).toArray 2 (0, 0)) by
            rw [← lV_set]; exact (st1k_ne (b := gf) (i := B) (c := gp) (.int .i64 ((A : Int))) hgpf).trans Hq1.out)
           have HR2 := Lib.hid (show ((wf.setCell ⟨gp, B, none⟩ (.int .i64 (s1))).setCell ⟨gf, B, none⟩ (.int .i64 ((A : Int)))).heap[gf]? = some (.cells (lV (upI (Fr) B ((A : Int))) M).toArray 3 (0, 0)) by
            rw [← lV_set]; exact row_set (k := B) (v := .int .i64 ((A : Int))) Hq2.out)
           have HR3 := Lib.hid (show ((wf.setCell ⟨gp, B, none⟩ (.int .i64 (s1))).setCell ⟨gf, B, none⟩ (.int .i64 ((A : Int)))).heap[w.heap.size]? = some (.cells #[.int .i64 N, .slice ao xs.length cap] 32 (0, 0)) from (st1k_ne (b := gf) (i := B) (c := w.heap.size) (.int .i64 ((A : Int))) (by omega)).trans Hq3.out)
           have HR4 := Lib.hid (Hq4.out.setCell (p := ⟨gf, B, none⟩) (by show w.heap.size ≤ gf; omega) (.int .i64 ((A : Int))))
           clear HBz HBp HBf HW Hq1 Hq2 Hq3 Hq4
           go_wp2_with fail
           go_meet
           exact ⟨HR3.out, by rw [show P1 = _ from HP1.out]; exact HR1.out, by rw [show F1 = _ from HF1.out]; exact HR2.out, HR4.out⟩
          ·have hrd : decide (x < 1152921504606846976 ∧ s1 < y) = false := by simpa using hrl
           have he := HRl.out
           rw [if_neg hrl] at he
           have HP1 := Lib.hid (congrArg Prod.fst he)
           have HF1 := Lib.hid (congrArg Prod.snd he)
           rw [hrd]
           clear he hrd
           go_wp2_with fail
           go_meet
           exact ⟨HBz.out, by rw [show P1 = _ from HP1.out]; exact HBp.out, by rw [show F1 = _ from HF1.out]; exact HBf.out, HW.out⟩
         case rest => as_aux_lemma =>
          clear HBz HBp HBf HW cx
          obtain ⟨h1, h2, h3, h4⟩ := hcut
          obtain ⟨wg, hwx⟩ : ∃ V, V = wc := ⟨_, rfl⟩
          subst hwx
          have HBz := Lib.hid h1
          have HBp := Lib.hid h2
          have HBf := Lib.hid h3
          have HW := Lib.hid h4
          clear h1 h2 h3 h4
          have h1A : P1 A = x := by
           have e := HRl.out
           split at e
           ·have e1 := congrArg Prod.fst e
            have e2 : P1 = upI P B s1 := e1
            rw [e2, upI_ne hAB]; exact Hx.out
           ·have e1 := congrArg Prod.fst e
            have e2 : P1 = P := e1
            rw [e2]; exact Hx.out
          obtain ⟨y1, hy1⟩ : ∃ y1, P1 B = y1 := ⟨_, rfl⟩
          have hy1b : -20000000000 ≤ y1 ∧ y1 ≤ 1152921504606846976 := by
           rw [← hy1]
           have e := HRl.out
           split at e
           ·have e1 := congrArg Prod.fst e
            have e2 : P1 = upI P B s1 := e1
            rename_i q
            rw [e2, upI_same]; omega
           ·have e1 := congrArg Prod.fst e
            have e2 : P1 = P := e1
            rw [e2, Hy.out]; omega
          obtain ⟨m, hm2⟩ : ∃ m, mo a i = m := ⟨_, rfl⟩
          rw [hm2] at HNx2
          have cx : wg.cell? ⟨gp, A, none⟩ = some (.int .i64 x) := by rw [← h1A]; exact row_at HBp.out (lV_at _ AM)
          have cy : wg.cell? ⟨gp, B, none⟩ = some (.int .i64 y1) := by rw [← hy1]; exact row_at HBp.out (lV_at _ BM)
          have cm : wg.cell? ⟨mb, a * 11 + i, none⟩ = some (.int .i64 m) := by rw [← hm2]; exact ((bcell HW.out).1 mb (a * 11 + i) hmb).trans (Hm.out a i haN hiN)
          obtain ⟨s2, hs2⟩ : ∃ s2, s2 = y1 - c := ⟨_, rfl⟩
          have hsw2 : IntKind.i64.wrap (y1 - c) = s2 := by rw [wr_id (by omega) (by omega)]; exact hs2.symm
          have Hs2 := Lib.hid hs2
          have H1A := Lib.hid h1A
          have Hy1 := Lib.hid hy1
          have a11 : (a : Int) < 11 := by omega
          have i11 : (i : Int) < 11 := by omega
          have a00 : (0 : Int) ≤ (a : Int) := by omega
          have i00 : (0 : Int) ≤ (i : Int) := by omega
          clear hs2 hy1 h1A hm2
          go_upto_region 26 with fail
          go_cut [157] (fun s wx => s = .bool (decide (0 < m ∧ y1 < 1152921504606846976 ∧ s2 < x)) ∧ wx = wg.drew)
          case first => as_aux_lemma =>
           by_cases hmp : 0 < m
           ·have h1 : decide (0 < m) = true := by simpa using hmp
            by_cases hyf : y1 < 1152921504606846976
            ·have h2 : decide (y1 < 1152921504606846976) = true := by simpa using hyf
             by_cases hlt3 : s2 < x
             ·have h3 : decide (s2 < x) = true := by simpa using hlt3
              refine wp_region_noPanic ?_
              refine wp_region_held_drew (S := (fun w' => w'.cell? ⟨gp, A, none⟩ = some (.int .i64 x) ∧ w'.cell? ⟨gp, B, none⟩ = some (.int .i64 y1) ∧ w'.cell? ⟨mb, a * 11 + i, none⟩ = some (.int .i64 m))) (by kernel_rfl) ⟨cx, cy, cm⟩ (fun hHeld => ?_)
              refine wpAnyH_take (i := 0) (v := ?_) rfl (by kernel_rfl) (by kernel_rfl) (by kernel_rfl) (fun _ _ _ h => h) (Or.inl ⟨by rfl, ?_⟩) (by assumption) ?_
              rotate_left
              ·intro w hSw; (try dsimp only at hSw); go_simp; (try with_reducible rfl)
              try simp only [Act.put, List.getElem_toArray, List.getElem_cons_zero, List.setIfInBounds_toArray, List.set_cons_zero, List.set_cons_succ]
              refine wpAnyH_take (i := 1) (v := ?_) rfl (by kernel_rfl) (by kernel_rfl) (by kernel_rfl) (fun _ _ _ h => h) (Or.inl ⟨by rfl, ?_⟩) (by assumption) ?_
              rotate_left
              ·intro w hSw; (try dsimp only at hSw); go_simp; (try with_reducible rfl)
              try simp only [Act.put, List.getElem_toArray, List.getElem_cons_zero, List.getElem_cons_succ, List.setIfInBounds_toArray, List.set_cons_zero, List.set_cons_succ]
              refine wpAnyH_take (i := 2) (v := ?_) rfl (by kernel_rfl) (by kernel_rfl) (by kernel_rfl) (fun _ _ _ h => h) (Or.inl ⟨by rfl, ?_⟩) (by assumption) ?_
              rotate_left
              ·intro w hSw; (try dsimp only at hSw); go_simp; (try with_reducible rfl)
              try simp only [Act.put, List.getElem_toArray, List.getElem_cons_zero, List.getElem_cons_succ, List.setIfInBounds_toArray, List.set_cons_zero, List.set_cons_succ]
              refine wpAnyH_take (i := 3) (v := ?_) rfl (by kernel_rfl) (by kernel_rfl) (by kernel_rfl) (fun _ _ _ h => h) (Or.inl ⟨by rfl, ?_⟩) (by assumption) ?_
              rotate_left
              ·intro w hSw; (try dsimp only at hSw); go_simp; (try with_reducible rfl)
              try simp only [Act.put, List.getElem_toArray, List.getElem_cons_zero, List.getElem_cons_succ, List.setIfInBounds_toArray, List.set_cons_zero, List.set_cons_succ]
              refine wpAnyH_take (i := 4) (v := ?_) rfl (by kernel_rfl) (by kernel_rfl) (by kernel_rfl) (fun _ _ _ h => h) (Or.inl ⟨by rfl, ?_⟩) (by assumption) ?_
              rotate_left
              ·intro w hSw; (try dsimp only at hSw); go_simp; (try with_reducible rfl)
              try simp only [Act.put, List.getElem_toArray, List.getElem_cons_zero, List.getElem_cons_succ, List.setIfInBounds_toArray, List.set_cons_zero, List.set_cons_succ]
              refine wpAnyH_take (i := 5) (v := ?_) rfl (by kernel_rfl) (by kernel_rfl) (by kernel_rfl) (fun _ _ _ h => h) (Or.inl ⟨by rfl, ?_⟩) (by assumption) ?_
              rotate_left
              ·intro w hSw; (try dsimp only at hSw); go_simp; (try with_reducible rfl)
              try simp only [Act.put, List.getElem_toArray, List.getElem_cons_zero, List.getElem_cons_succ, List.setIfInBounds_toArray, List.set_cons_zero, List.set_cons_succ]
              refine wpAnyH_take (i := 6) (v := ?_) rfl (by kernel_rfl) (by kernel_rfl) (by kernel_rfl) (fun _ _ _ h => h) (Or.inl ⟨by rfl, ?_⟩) (by assumption) ?_
              rotate_left
              ·intro w hSw; (try dsimp only at hSw); go_simp; (try with_reducible rfl)
              try simp only [Act.put, List.getElem_toArray, List.getElem_cons_zero, List.getElem_cons_succ, List.setIfInBounds_toArray, List.set_cons_zero, List.set_cons_succ]
              refine wpAnyH_take (i := 7) (v := ?_) rfl (by kernel_rfl) (by kernel_rfl) (by kernel_rfl) (fun _ _ _ h => h) (Or.inl ⟨by rfl, ?_⟩) (by assumption) ?_
              rotate_left
              ·intro w hSw; (try dsimp only at hSw); go_simp; (try with_reducible rfl)
              try simp only [Act.put, List.getElem_toArray, List.getElem_cons_zero, List.getElem_cons_succ, List.setIfInBounds_toArray, List.set_cons_zero, List.set_cons_succ]
              try simp only [h1]
              refine wpAnyH_take (i := 8) (v := ?_) rfl (by kernel_rfl) (by kernel_rfl) (by kernel_rfl) (fun _ _ _ h => h) (Or.inl ⟨by rfl, ?_⟩) (by assumption) ?_
              rotate_left
              ·intro w hSw; (try dsimp only at hSw); go_simp; (try with_reducible rfl)
              try simp only [Act.put, List.getElem_toArray, List.getElem_cons_zero, List.getElem_cons_succ, List.setIfInBounds_toArray, List.set_cons_zero, List.set_cons_succ]
              refine wpAnyH_take (i := 9) (v := ?_) rfl (by kernel_rfl) (by kernel_rfl) (by kernel_rfl) (fun _ _ _ h => h) (Or.inl ⟨by rfl, ?_⟩) (by assumption) ?_
              rotate_left
              ·intro w hSw; (try dsimp only at hSw); go_simp; (try with_reducible rfl)
              try simp only [Act.put, List.getElem_toArray, List.getElem_cons_zero, List.getElem_cons_succ, List.setIfInBounds_toArray, List.set_cons_zero, List.set_cons_succ]
              refine wpAnyH_take (i := 10) (v := ?_) rfl (by kernel_rfl) (by kernel_rfl) (by kernel_rfl) (fun _ _ _ h => h) (Or.inl ⟨by rfl, ?_⟩) (by assumption) ?_
              rotate_left
              ·intro w hSw; (try dsimp only at hSw); go_simp; (try with_reducible rfl)
              try simp only [Act.put, List.getElem_toArray, List.getElem_cons_zero, List.getElem_cons_succ, List.setIfInBounds_toArray, List.set_cons_zero, List.set_cons_succ]
              refine wpAnyH_take (i := 11) (v := ?_) rfl (by kernel_rfl) (by kernel_rfl) (by kernel_rfl) (fun _ _ _ h => h) (Or.inl ⟨by rfl, ?_⟩) (by assumption) ?_
              rotate_left
              ·intro w hSw; (try dsimp only at hSw); go_simp; (try with_reducible rfl)
              try simp only [Act.put, List.getElem_toArray, List.getElem_cons_zero, List.getElem_cons_succ, List.setIfInBounds_toArray, List.set_cons_zero, List.set_cons_succ]
              try simp only [hAw, hBw2, hBw, hsw2]
              refine wpAnyH_take (i := 12) (v := ?_) rfl (by kernel_rfl) (by kernel_rfl) (by kernel_rfl) (fun _ _ _ h => h) (Or.inl ⟨by rfl, ?_⟩) (by assumption) ?_
              rotate_left
              ·intro w hSw; (try dsimp only at hSw); go_simp; (try with_reducible rfl)
              try simp only [Act.put, List.getElem_toArray, List.getElem_cons_zero, List.getElem_cons_succ, List.setIfInBounds_toArray, List.set_cons_zero, List.set_cons_succ]
              try simp only [hAw, hBw2, hBw, hsw2]
              refine wpAnyH_take (i := 13) (v := ?_) rfl (by kernel_rfl) (by kernel_rfl) (by kernel_rfl) (fun _ _ _ h => h) (Or.inl ⟨by rfl, ?_⟩) (by assumption) ?_
              rotate_left
              ·intro w hSw; (try dsimp only at hSw); go_simp; (try with_reducible rfl)
              try simp only [Act.put, List.getElem_toArray, List.getElem_cons_zero, List.getElem_cons_succ, List.setIfInBounds_toArray, List.set_cons_zero, List.set_cons_succ]
              refine wpAnyH_take (i := 14) (v := ?_) rfl (by kernel_rfl) (by kernel_rfl) (by kernel_rfl) (fun _ _ _ h => h) (Or.inl ⟨by rfl, ?_⟩) (by assumption) ?_
              rotate_left
              ·intro w hSw; (try dsimp only at hSw); go_simp; (try with_reducible rfl)
              try simp only [Act.put, List.getElem_toArray, List.getElem_cons_zero, List.getElem_cons_succ, List.setIfInBounds_toArray, List.set_cons_zero, List.set_cons_succ]
              refine wpAnyH_take (i := 15) (v := ?_) rfl (by kernel_rfl) (by kernel_rfl) (by kernel_rfl) (fun _ _ _ h => h) (Or.inl ⟨by rfl, ?_⟩) (by assumption) ?_
              rotate_left
              ·intro w hSw; (try dsimp only at hSw); go_simp; (try with_reducible rfl)
              try simp only [Act.put, List.getElem_toArray, List.getElem_cons_zero, List.getElem_cons_succ, List.setIfInBounds_toArray, List.set_cons_zero, List.set_cons_succ]
              try simp only [h2]
              refine wpAnyH_take (i := 16) (v := ?_) rfl (by kernel_rfl) (by kernel_rfl) (by kernel_rfl) (fun _ _ _ h => h) (Or.inl ⟨by rfl, ?_⟩) (by assumption) ?_
              rotate_left
              ·intro w hSw; (try dsimp only at hSw); go_simp; (try with_reducible rfl)
              try simp only [Act.put, List.getElem_toArray, List.getElem_cons_zero, List.getElem_cons_succ, List.setIfInBounds_toArray, List.set_cons_zero, List.set_cons_succ]
              try simp only [h1, h2]
              refine wpAnyH_take (i := 17) (v := ?_) rfl (by kernel_rfl) (by kernel_rfl) (by kernel_rfl) (fun _ _ _ h => h) (Or.inl ⟨by rfl, ?_⟩) (by assumption) ?_
              rotate_left
              ·intro w hSw; (try dsimp only at hSw); go_simp; (try with_reducible rfl)
              try simp only [Act.put, List.getElem_toArray, List.getElem_cons_zero, List.getElem_cons_succ, List.setIfInBounds_toArray, List.set_cons_zero, List.set_cons_succ]
              refine wpAnyH_take (i := 18) (v := ?_) rfl (by kernel_rfl) (by kernel_rfl) (by kernel_rfl) (fun _ _ _ h => h) (Or.inl ⟨by rfl, ?_⟩) (by assumption) ?_
              rotate_left
              ·intro w hSw; (try dsimp only at hSw); go_simp; (try with_reducible rfl)
              try simp only [Act.put, List.getElem_toArray, List.getElem_cons_zero, List.getElem_cons_succ, List.setIfInBounds_toArray, List.set_cons_zero, List.set_cons_succ]
              refine wpAnyH_take (i := 19) (v := ?_) rfl (by kernel_rfl) (by kernel_rfl) (by kernel_rfl) (fun _ _ _ h => h) (Or.inl ⟨by rfl, ?_⟩) (by assumption) ?_
              rotate_left
              ·intro w hSw; (try dsimp only at hSw); go_simp; (try with_reducible rfl)
              try simp only [Act.put, List.getElem_toArray, List.getElem_cons_zero, List.getElem_cons_succ, List.setIfInBounds_toArray, List.set_cons_zero, List.set_cons_succ]
              refine wpAnyH_take (i := 20) (v := ?_) rfl (by kernel_rfl) (by kernel_rfl) (by kernel_rfl) (fun _ _ _ h => h) (Or.inl ⟨by rfl, ?_⟩) (by assumption) ?_
              rotate_left
              ·intro w hSw; (try dsimp only at hSw); go_simp; (try with_reducible rfl)
              try simp only [Act.put, List.getElem_toArray, List.getElem_cons_zero, List.getElem_cons_succ, List.setIfInBounds_toArray, List.set_cons_zero, List.set_cons_succ]
              try simp only [hAw, hBw2, hBw, hsw2]
              refine wpAnyH_take (i := 21) (v := ?_) rfl (by kernel_rfl) (by kernel_rfl) (by kernel_rfl) (fun _ _ _ h => h) (Or.inl ⟨by rfl, ?_⟩) (by assumption) ?_
              rotate_left
              ·intro w hSw; (try dsimp only at hSw); go_simp; (try with_reducible rfl)
              try simp only [Act.put, List.getElem_toArray, List.getElem_cons_zero, List.getElem_cons_succ, List.setIfInBounds_toArray, List.set_cons_zero, List.set_cons_succ]
              try simp only [hAw, hBw2, hBw, hsw2]
              refine wpAnyH_take (i := 22) (v := ?_) rfl (by kernel_rfl) (by kernel_rfl) (by kernel_rfl) (fun _ _ _ h => h) (Or.inl ⟨by rfl, ?_⟩) (by assumption) ?_
              rotate_left
              ·intro w hSw; (try dsimp only at hSw); go_simp; (try with_reducible rfl)
              try simp only [Act.put, List.getElem_toArray, List.getElem_cons_zero, List.getElem_cons_succ, List.setIfInBounds_toArray, List.set_cons_zero, List.set_cons_succ]
              refine wpAnyH_take (i := 23) (v := ?_) rfl (by kernel_rfl) (by kernel_rfl) (by kernel_rfl) (fun _ _ _ h => h) (Or.inl ⟨by rfl, ?_⟩) (by assumption) ?_
              rotate_left
              ·intro w hSw; (try dsimp only at hSw); go_simp; (try with_reducible rfl)
              try simp only [Act.put, List.getElem_toArray, List.getElem_cons_zero, List.getElem_cons_succ, List.setIfInBounds_toArray, List.set_cons_zero, List.set_cons_succ]
              refine wpAnyH_take (i := 24) (v := ?_) rfl (by kernel_rfl) (by kernel_rfl) (by kernel_rfl) (fun _ _ _ h => h) (Or.inl ⟨by rfl, ?_⟩) (by assumption) ?_
              rotate_left
              ·intro w hSw; (try dsimp only at hSw); go_simp; (try with_reducible rfl)
              try simp only [Act.put, List.getElem_toArray, List.getElem_cons_zero, List.getElem_cons_succ, List.setIfInBounds_toArray, List.set_cons_zero, List.set_cons_succ]
              refine wpAnyH_take (i := 25) (v := ?_) rfl (by kernel_rfl) (by kernel_rfl) (by kernel_rfl) (fun _ _ _ h => h) (Or.inl ⟨by rfl, ?_⟩) (by assumption) ?_
              rotate_left
              ·intro w hSw; (try dsimp only at hSw); go_simp; (try with_reducible rfl)
              try simp only [Act.put, List.getElem_toArray, List.getElem_cons_zero, List.getElem_cons_succ, List.setIfInBounds_toArray, List.set_cons_zero, List.set_cons_succ]
              try simp only [hAw, hBw2, hBw, hsw2]
              refine wpAnyH_take (i := 26) (v := ?_) rfl (by kernel_rfl) (by kernel_rfl) (by kernel_rfl) (fun _ _ _ h => h) (Or.inl ⟨by rfl, ?_⟩) (by assumption) ?_
              rotate_left
              ·intro w hSw; (try dsimp only at hSw); go_simp; (try with_reducible rfl)
              try simp only [Act.put, List.getElem_toArray, List.getElem_cons_zero, List.getElem_cons_succ, List.setIfInBounds_toArray, List.set_cons_zero, List.set_cons_succ]
              refine wpAnyH_take (i := 27) (v := ?_) rfl (by kernel_rfl) (by kernel_rfl) (by kernel_rfl) (fun _ _ _ h => h) (Or.inl ⟨by rfl, ?_⟩) (by assumption) ?_
              rotate_left
              ·intro w hSw; (try dsimp only at hSw); go_simp; (try with_reducible rfl)
              try simp only [Act.put, List.getElem_toArray, List.getElem_cons_zero, List.getElem_cons_succ, List.setIfInBounds_toArray, List.set_cons_zero, List.set_cons_succ]
              refine wpAnyH_take (i := 28) (v := ?_) rfl (by kernel_rfl) (by kernel_rfl) (by kernel_rfl) (fun _ _ _ h => h) (Or.inl ⟨by rfl, ?_⟩) (by assumption) ?_
              rotate_left
              ·intro w hSw; (try dsimp only at hSw); go_simp; (try with_reducible rfl)
              try simp only [Act.put, List.getElem_toArray, List.getElem_cons_zero, List.getElem_cons_succ, List.setIfInBounds_toArray, List.set_cons_zero, List.set_cons_succ]
              try simp only [hAw, hBw2, hBw, hsw2]
              refine wpAnyH_take (i := 29) (v := ?_) rfl (by kernel_rfl) (by kernel_rfl) (by kernel_rfl) (fun _ _ _ h => h) (Or.inl ⟨by rfl, ?_⟩) (by assumption) ?_
              rotate_left
              ·intro w hSw; (try dsimp only at hSw); go_simp; (try with_reducible rfl)
              try simp only [Act.put, List.getElem_toArray, List.getElem_cons_zero, List.getElem_cons_succ, List.setIfInBounds_toArray, List.set_cons_zero, List.set_cons_succ]
              refine wpAnyH_take (i := 30) (v := ?_) rfl (by kernel_rfl) (by kernel_rfl) (by kernel_rfl) (fun _ _ _ h => h) (Or.inl ⟨by rfl, ?_⟩) (by assumption) ?_
              rotate_left
              ·intro w hSw; (try dsimp only at hSw); go_simp; (try with_reducible rfl)
              try simp only [Act.put, List.getElem_toArray, List.getElem_cons_zero, List.getElem_cons_succ, List.setIfInBounds_toArray, List.set_cons_zero, List.set_cons_succ]
              refine wpAnyH_take (i := 31) (v := ?_) rfl (by kernel_rfl) (by kernel_rfl) (by kernel_rfl) (fun _ _ _ h => h) (Or.inl ⟨by rfl, ?_⟩) (by assumption) ?_
              rotate_left
              ·intro w hSw; (try dsimp only at hSw); go_simp; (try with_reducible rfl)
              try simp only [Act.put, List.getElem_toArray, List.getElem_cons_zero, List.getElem_cons_succ, List.setIfInBounds_toArray, List.set_cons_zero, List.set_cons_succ]
              try simp only [h3]
              refine wpAnyH_take (i := 32) (v := ?_) rfl (by kernel_rfl) (by kernel_rfl) (by kernel_rfl) (fun _ _ _ h => h) (Or.inl ⟨by rfl, ?_⟩) (by assumption) ?_
              rotate_left
              ·intro w hSw; (try dsimp only at hSw); go_simp; (try with_reducible rfl)
              try simp only [Act.put, List.getElem_toArray, List.getElem_cons_zero, List.getElem_cons_succ, List.setIfInBounds_toArray, List.set_cons_zero, List.set_cons_succ]
              refine wpAnyH_done (by kernel_rfl) ?_ _
              refine NoPanic.normal ?_
              go_wp2_with fail
              go_meet
              exact ⟨by first | rfl | (simp; omega), rfl⟩
             ·have h3 : decide (s2 < x) = false := by simpa using hlt3
              refine wp_region_noPanic ?_
              refine wp_region_held_drew (S := (fun w' => w'.cell? ⟨gp, A, none⟩ = some (.int .i64 x) ∧ w'.cell? ⟨gp, B, none⟩ = some (.int .i64 y1) ∧ w'.cell? ⟨mb, a * 11 + i, none⟩ = some (.int .i64 m))) (by kernel_rfl) ⟨cx, cy, cm⟩ (fun hHeld => ?_)
              refine wpAnyH_take (i := 0) (v := ?_) rfl (by kernel_rfl) (by kernel_rfl) (by kernel_rfl) (fun _ _ _ h => h) (Or.inl ⟨by rfl, ?_⟩) (by assumption) ?_
              rotate_left
              ·intro w hSw; (try dsimp only at hSw); go_simp; (try with_reducible rfl)
              try simp only [Act.put, List.getElem_toArray, List.getElem_cons_zero, List.setIfInBounds_toArray, List.set_cons_zero, List.set_cons_succ]
              refine wpAnyH_take (i := 1) (v := ?_) rfl (by kernel_rfl) (by kernel_rfl) (by kernel_rfl) (fun _ _ _ h => h) (Or.inl ⟨by rfl, ?_⟩) (by assumption) ?_
              rotate_left
              ·intro w hSw; (try dsimp only at hSw); go_simp; (try with_reducible rfl)
              try simp only [Act.put, List.getElem_toArray, List.getElem_cons_zero, List.getElem_cons_succ, List.setIfInBounds_toArray, List.set_cons_zero, List.set_cons_succ]
              refine wpAnyH_take (i := 2) (v := ?_) rfl (by kernel_rfl) (by kernel_rfl) (by kernel_rfl) (fun _ _ _ h => h) (Or.inl ⟨by rfl, ?_⟩) (by assumption) ?_
              rotate_left
              ·intro w hSw; (try dsimp only at hSw); go_simp; (try with_reducible rfl)
              try simp only [Act.put, List.getElem_toArray, List.getElem_cons_zero, List.getElem_cons_succ, List.setIfInBounds_toArray, List.set_cons_zero, List.set_cons_succ]
              refine wpAnyH_take (i := 3) (v := ?_) rfl (by kernel_rfl) (by kernel_rfl) (by kernel_rfl) (fun _ _ _ h => h) (Or.inl ⟨by rfl, ?_⟩) (by assumption) ?_
              rotate_left
              ·intro w hSw; (try dsimp only at hSw); go_simp; (try with_reducible rfl)
              try simp only [Act.put, List.getElem_toArray, List.getElem_cons_zero, List.getElem_cons_succ, List.setIfInBounds_toArray, List.set_cons_zero, List.set_cons_succ]
              refine wpAnyH_take (i := 4) (v := ?_) rfl (by kernel_rfl) (by kernel_rfl) (by kernel_rfl) (fun _ _ _ h => h) (Or.inl ⟨by rfl, ?_⟩) (by assumption) ?_
              rotate_left
              ·intro w hSw; (try dsimp only at hSw); go_simp; (try with_reducible rfl)
              try simp only [Act.put, List.getElem_toArray, List.getElem_cons_zero, List.getElem_cons_succ, List.setIfInBounds_toArray, List.set_cons_zero, List.set_cons_succ]
              refine wpAnyH_take (i := 5) (v := ?_) rfl (by kernel_rfl) (by kernel_rfl) (by kernel_rfl) (fun _ _ _ h => h) (Or.inl ⟨by rfl, ?_⟩) (by assumption) ?_
              rotate_left
              ·intro w hSw; (try dsimp only at hSw); go_simp; (try with_reducible rfl)
              try simp only [Act.put, List.getElem_toArray, List.getElem_cons_zero, List.getElem_cons_succ, List.setIfInBounds_toArray, List.set_cons_zero, List.set_cons_succ]
              refine wpAnyH_take (i := 6) (v := ?_) rfl (by kernel_rfl) (by kernel_rfl) (by kernel_rfl) (fun _ _ _ h => h) (Or.inl ⟨by rfl, ?_⟩) (by assumption) ?_
              rotate_left
              ·intro w hSw; (try dsimp only at hSw); go_simp; (try with_reducible rfl)
              try simp only [Act.put, List.getElem_toArray, List.getElem_cons_zero, List.getElem_cons_succ, List.setIfInBounds_toArray, List.set_cons_zero, List.set_cons_succ]
              refine wpAnyH_take (i := 7) (v := ?_) rfl (by kernel_rfl) (by kernel_rfl) (by kernel_rfl) (fun _ _ _ h => h) (Or.inl ⟨by rfl, ?_⟩) (by assumption) ?_
              rotate_left
              ·intro w hSw; (try dsimp only at hSw); go_simp; (try with_reducible rfl)
              try simp only [Act.put, List.getElem_toArray, List.getElem_cons_zero, List.getElem_cons_succ, List.setIfInBounds_toArray, List.set_cons_zero, List.set_cons_succ]
              try simp only [h1]
              refine wpAnyH_take (i := 8) (v := ?_) rfl (by kernel_rfl) (by kernel_rfl) (by kernel_rfl) (fun _ _ _ h => h) (Or.inl ⟨by rfl, ?_⟩) (by assumption) ?_
              rotate_left
              ·intro w hSw; (try dsimp only at hSw); go_simp; (try with_reducible rfl)
              try simp only [Act.put, List.getElem_toArray, List.getElem_cons_zero, List.getElem_cons_succ, List.setIfInBounds_toArray, List.set_cons_zero, List.set_cons_succ]
              refine wpAnyH_take (i := 9) (v := ?_) rfl (by kernel_rfl) (by kernel_rfl) (by kernel_rfl) (fun _ _ _ h => h) (Or.inl ⟨by rfl, ?_⟩) (by assumption) ?_
              rotate_left
              ·intro w hSw; (try dsimp only at hSw); go_simp; (try with_reducible rfl)
              try simp only [Act.put, List.getElem_toArray, List.getElem_cons_zero, List.getElem_cons_succ, List.setIfInBounds_toArray, List.set_cons_zero, List.set_cons_succ]
              refine wpAnyH_take (i := 10) (v := ?_) rfl (by kernel_rfl) (by kernel_rfl) (by kernel_rfl) (fun _ _ _ h => h) (Or.inl ⟨by rfl, ?_⟩) (by assumption) ?_
              rotate_left
              ·intro w hSw; (try dsimp only at hSw); go_simp; (try with_reducible rfl)
              try simp only [Act.put, List.getElem_toArray, List.getElem_cons_zero, List.getElem_cons_succ, List.setIfInBounds_toArray, List.set_cons_zero, List.set_cons_succ]
              refine wpAnyH_take (i := 11) (v := ?_) rfl (by kernel_rfl) (by kernel_rfl) (by kernel_rfl) (fun _ _ _ h => h) (Or.inl ⟨by rfl, ?_⟩) (by assumption) ?_
              rotate_left
              ·intro w hSw; (try dsimp only at hSw); go_simp; (try with_reducible rfl)
              try simp only [Act.put, List.getElem_toArray, List.getElem_cons_zero, List.getElem_cons_succ, List.setIfInBounds_toArray, List.set_cons_zero, List.set_cons_succ]
              try simp only [hAw, hBw2, hBw, hsw2]
              refine wpAnyH_take (i := 12) (v := ?_) rfl (by kernel_rfl) (by kernel_rfl) (by kernel_rfl) (fun _ _ _ h => h) (Or.inl ⟨by rfl, ?_⟩) (by assumption) ?_
              rotate_left
              ·intro w hSw; (try dsimp only at hSw); go_simp; (try with_reducible rfl)
              try simp only [Act.put, List.getElem_toArray, List.getElem_cons_zero, List.getElem_cons_succ, List.setIfInBounds_toArray, List.set_cons_zero, List.set_cons_succ]
              try simp only [hAw, hBw2, hBw, hsw2]
              refine wpAnyH_take (i := 13) (v := ?_) rfl (by kernel_rfl) (by kernel_rfl) (by kernel_rfl) (fun _ _ _ h => h) (Or.inl ⟨by rfl, ?_⟩) (by assumption) ?_
              rotate_left
              ·intro w hSw; (try dsimp only at hSw); go_simp; (try with_reducible rfl)
              try simp only [Act.put, List.getElem_toArray, List.getElem_cons_zero, List.getElem_cons_succ, List.setIfInBounds_toArray, List.set_cons_zero, List.set_cons_succ]
              refine wpAnyH_take (i := 14) (v := ?_) rfl (by kernel_rfl) (by kernel_rfl) (by kernel_rfl) (fun _ _ _ h => h) (Or.inl ⟨by rfl, ?_⟩) (by assumption) ?_
              rotate_left
              ·intro w hSw; (try dsimp only at hSw); go_simp; (try with_reducible rfl)
              try simp only [Act.put, List.getElem_toArray, List.getElem_cons_zero, List.getElem_cons_succ, List.setIfInBounds_toArray, List.set_cons_zero, List.set_cons_succ]
              refine wpAnyH_take (i := 15) (v := ?_) rfl (by kernel_rfl) (by kernel_rfl) (by kernel_rfl) (fun _ _ _ h => h) (Or.inl ⟨by rfl, ?_⟩) (by assumption) ?_
              rotate_left
              ·intro w hSw; (try dsimp only at hSw); go_simp; (try with_reducible rfl)
              try simp only [Act.put, List.getElem_toArray, List.getElem_cons_zero, List.getElem_cons_succ, List.setIfInBounds_toArray, List.set_cons_zero, List.set_cons_succ]
              try simp only [h2]
              refine wpAnyH_take (i := 16) (v := ?_) rfl (by kernel_rfl) (by kernel_rfl) (by kernel_rfl) (fun _ _ _ h => h) (Or.inl ⟨by rfl, ?_⟩) (by assumption) ?_
              rotate_left
              ·intro w hSw; (try dsimp only at hSw); go_simp; (try with_reducible rfl)
              try simp only [Act.put, List.getElem_toArray, List.getElem_cons_zero, List.getElem_cons_succ, List.setIfInBounds_toArray, List.set_cons_zero, List.set_cons_succ]
              try simp only [h1, h2]
              refine wpAnyH_take (i := 17) (v := ?_) rfl (by kernel_rfl) (by kernel_rfl) (by kernel_rfl) (fun _ _ _ h => h) (Or.inl ⟨by rfl, ?_⟩) (by assumption) ?_
              rotate_left
              ·intro w hSw; (try dsimp only at hSw); go_simp; (try with_reducible rfl)
              try simp only [Act.put, List.getElem_toArray, List.getElem_cons_zero, List.getElem_cons_succ, List.setIfInBounds_toArray, List.set_cons_zero, List.set_cons_succ]
              refine wpAnyH_take (i := 18) (v := ?_) rfl (by kernel_rfl) (by kernel_rfl) (by kernel_rfl) (fun _ _ _ h => h) (Or.inl ⟨by rfl, ?_⟩) (by assumption) ?_
              rotate_left
              ·intro w hSw; (try dsimp only at hSw); go_simp; (try with_reducible rfl)
              try simp only [Act.put, List.getElem_toArray, List.getElem_cons_zero, List.getElem_cons_succ, List.setIfInBounds_toArray, List.set_cons_zero, List.set_cons_succ]
              refine wpAnyH_take (i := 19) (v := ?_) rfl (by kernel_rfl) (by kernel_rfl) (by kernel_rfl) (fun _ _ _ h => h) (Or.inl ⟨by rfl, ?_⟩) (by assumption) ?_
              rotate_left
              ·intro w hSw; (try dsimp only at hSw); go_simp; (try with_reducible rfl)
              try simp only [Act.put, List.getElem_toArray, List.getElem_cons_zero, List.getElem_cons_succ, List.setIfInBounds_toArray, List.set_cons_zero, List.set_cons_succ]
              refine wpAnyH_take (i := 20) (v := ?_) rfl (by kernel_rfl) (by kernel_rfl) (by kernel_rfl) (fun _ _ _ h => h) (Or.inl ⟨by rfl, ?_⟩) (by assumption) ?_
              rotate_left
              ·intro w hSw; (try dsimp only at hSw); go_simp; (try with_reducible rfl)
              try simp only [Act.put, List.getElem_toArray, List.getElem_cons_zero, List.getElem_cons_succ, List.setIfInBounds_toArray, List.set_cons_zero, List.set_cons_succ]
              try simp only [hAw, hBw2, hBw, hsw2]
              refine wpAnyH_take (i := 21) (v := ?_) rfl (by kernel_rfl) (by kernel_rfl) (by kernel_rfl) (fun _ _ _ h => h) (Or.inl ⟨by rfl, ?_⟩) (by assumption) ?_
              rotate_left
              ·intro w hSw; (try dsimp only at hSw); go_simp; (try with_reducible rfl)
              try simp only [Act.put, List.getElem_toArray, List.getElem_cons_zero, List.getElem_cons_succ, List.setIfInBounds_toArray, List.set_cons_zero, List.set_cons_succ]
              try simp only [hAw, hBw2, hBw, hsw2]
              refine wpAnyH_take (i := 22) (v := ?_) rfl (by kernel_rfl) (by kernel_rfl) (by kernel_rfl) (fun _ _ _ h => h) (Or.inl ⟨by rfl, ?_⟩) (by assumption) ?_
              rotate_left
              ·intro w hSw; (try dsimp only at hSw); go_simp; (try with_reducible rfl)
              try simp only [Act.put, List.getElem_toArray, List.getElem_cons_zero, List.getElem_cons_succ, List.setIfInBounds_toArray, List.set_cons_zero, List.set_cons_succ]
              refine wpAnyH_take (i := 23) (v := ?_) rfl (by kernel_rfl) (by kernel_rfl) (by kernel_rfl) (fun _ _ _ h => h) (Or.inl ⟨by rfl, ?_⟩) (by assumption) ?_
              rotate_left
              ·intro w hSw; (try dsimp only at hSw); go_simp; (try with_reducible rfl)
              try simp only [Act.put, List.getElem_toArray, List.getElem_cons_zero, List.getElem_cons_succ, List.setIfInBounds_toArray, List.set_cons_zero, List.set_cons_succ]
              refine wpAnyH_take (i := 24) (v := ?_) rfl (by kernel_rfl) (by kernel_rfl) (by kernel_rfl) (fun _ _ _ h => h) (Or.inl ⟨by rfl, ?_⟩) (by assumption) ?_
              rotate_left
              ·intro w hSw; (try dsimp only at hSw); go_simp; (try with_reducible rfl)
              try simp only [Act.put, List.getElem_toArray, List.getElem_cons_zero, List.getElem_cons_succ, List.setIfInBounds_toArray, List.set_cons_zero, List.set_cons_succ]
              refine wpAnyH_take (i := 25) (v := ?_) rfl (by kernel_rfl) (by kernel_rfl) (by kernel_rfl) (fun _ _ _ h => h) (Or.inl ⟨by rfl, ?_⟩) (by assumption) ?_
              rotate_left
              ·intro w hSw; (try dsimp only at hSw); go_simp; (try with_reducible rfl)
              try simp only [Act.put, List.getElem_toArray, List.getElem_cons_zero, List.getElem_cons_succ, List.setIfInBounds_toArray, List.set_cons_zero, List.set_cons_succ]
              try simp only [hAw, hBw2, hBw, hsw2]
              refine wpAnyH_take (i := 26) (v := ?_) rfl (by kernel_rfl) (by kernel_rfl) (by kernel_rfl) (fun _ _ _ h => h) (Or.inl ⟨by rfl, ?_⟩) (by assumption) ?_
              rotate_left
              ·intro w hSw; (try dsimp only at hSw); go_simp; (try with_reducible rfl)
              try simp only [Act.put, List.getElem_toArray, List.getElem_cons_zero, List.getElem_cons_succ, List.setIfInBounds_toArray, List.set_cons_zero, List.set_cons_succ]
              refine wpAnyH_take (i := 27) (v := ?_) rfl (by kernel_rfl) (by kernel_rfl) (by kernel_rfl) (fun _ _ _ h => h) (Or.inl ⟨by rfl, ?_⟩) (by assumption) ?_
              rotate_left
              ·intro w hSw; (try dsimp only at hSw); go_simp; (try with_reducible rfl)
              try simp only [Act.put, List.getElem_toArray, List.getElem_cons_zero, List.getElem_cons_succ, List.setIfInBounds_toArray, List.set_cons_zero, List.set_cons_succ]
              refine wpAnyH_take (i := 28) (v := ?_) rfl (by kernel_rfl) (by kernel_rfl) (by kernel_rfl) (fun _ _ _ h => h) (Or.inl ⟨by rfl, ?_⟩) (by assumption) ?_
              rotate_left
              ·intro w hSw; (try dsimp only at hSw); go_simp; (try with_reducible rfl)
              try simp only [Act.put, List.getElem_toArray, List.getElem_cons_zero, List.getElem_cons_succ, List.setIfInBounds_toArray, List.set_cons_zero, List.set_cons_succ]
              try simp only [hAw, hBw2, hBw, hsw2]
              refine wpAnyH_take (i := 29) (v := ?_) rfl (by kernel_rfl) (by kernel_rfl) (by kernel_rfl) (fun _ _ _ h => h) (Or.inl ⟨by rfl, ?_⟩) (by assumption) ?_
              rotate_left
              ·intro w hSw; (try dsimp only at hSw); go_simp; (try with_reducible rfl)
              try simp only [Act.put, List.getElem_toArray, List.getElem_cons_zero, List.getElem_cons_succ, List.setIfInBounds_toArray, List.set_cons_zero, List.set_cons_succ]
              refine wpAnyH_take (i := 30) (v := ?_) rfl (by kernel_rfl) (by kernel_rfl) (by kernel_rfl) (fun _ _ _ h => h) (Or.inl ⟨by rfl, ?_⟩) (by assumption) ?_
              rotate_left
              ·intro w hSw; (try dsimp only at hSw); go_simp; (try with_reducible rfl)
              try simp only [Act.put, List.getElem_toArray, List.getElem_cons_zero, List.getElem_cons_succ, List.setIfInBounds_toArray, List.set_cons_zero, List.set_cons_succ]
              refine wpAnyH_take (i := 31) (v := ?_) rfl (by kernel_rfl) (by kernel_rfl) (by kernel_rfl) (fun _ _ _ h => h) (Or.inl ⟨by rfl, ?_⟩) (by assumption) ?_
              rotate_left
              ·intro w hSw; (try dsimp only at hSw); go_simp; (try with_reducible rfl)
              try simp only [Act.put, List.getElem_toArray, List.getElem_cons_zero, List.getElem_cons_succ, List.setIfInBounds_toArray, List.set_cons_zero, List.set_cons_succ]
              try simp only [h3]
              refine wpAnyH_take (i := 32) (v := ?_) rfl (by kernel_rfl) (by kernel_rfl) (by kernel_rfl) (fun _ _ _ h => h) (Or.inl ⟨by rfl, ?_⟩) (by assumption) ?_
              rotate_left
              ·intro w hSw; (try dsimp only at hSw); go_simp; (try with_reducible rfl)
              try simp only [Act.put, List.getElem_toArray, List.getElem_cons_zero, List.getElem_cons_succ, List.setIfInBounds_toArray, List.set_cons_zero, List.set_cons_succ]
              refine wpAnyH_done (by kernel_rfl) ?_ _
              refine NoPanic.normal ?_
              go_wp2_with fail
              go_meet
              exact ⟨by first | rfl | (simp; omega), rfl⟩
            ·have h2 : decide (y1 < 1152921504606846976) = false := by simpa using hyf
             refine wp_region_noPanic ?_
             refine wp_region_held_drew (S := (fun w' => w'.cell? ⟨gp, A, none⟩ = some (.int .i64 x) ∧ w'.cell? ⟨gp, B, none⟩ = some (.int .i64 y1) ∧ w'.cell? ⟨mb, a * 11 + i, none⟩ = some (.int .i64 m))) (by kernel_rfl) ⟨cx, cy, cm⟩ (fun hHeld => ?_)
             refine wpAnyH_take (i := 0) (v := ?_) rfl (by kernel_rfl) (by kernel_rfl) (by kernel_rfl) (fun _ _ _ h => h) (Or.inl ⟨by rfl, ?_⟩) (by assumption) ?_
             rotate_left
             ·intro w hSw; (try dsimp only at hSw); go_simp; (try with_reducible rfl)
             try simp only [Act.put, List.getElem_toArray, List.getElem_cons_zero, List.setIfInBounds_toArray, List.set_cons_zero, List.set_cons_succ]
             refine wpAnyH_take (i := 1) (v := ?_) rfl (by kernel_rfl) (by kernel_rfl) (by kernel_rfl) (fun _ _ _ h => h) (Or.inl ⟨by rfl, ?_⟩) (by assumption) ?_
             rotate_left
             ·intro w hSw; (try dsimp only at hSw); go_simp; (try with_reducible rfl)
             try simp only [Act.put, List.getElem_toArray, List.getElem_cons_zero, List.getElem_cons_succ, List.setIfInBounds_toArray, List.set_cons_zero, List.set_cons_succ]
             refine wpAnyH_take (i := 2) (v := ?_) rfl (by kernel_rfl) (by kernel_rfl) (by kernel_rfl) (fun _ _ _ h => h) (Or.inl ⟨by rfl, ?_⟩) (by assumption) ?_
             rotate_left
             ·intro w hSw; (try dsimp only at hSw); go_simp; (try with_reducible rfl)
             try simp only [Act.put, List.getElem_toArray, List.getElem_cons_zero, List.getElem_cons_succ, List.setIfInBounds_toArray, List.set_cons_zero, List.set_cons_succ]
             refine wpAnyH_take (i := 3) (v := ?_) rfl (by kernel_rfl) (by kernel_rfl) (by kernel_rfl) (fun _ _ _ h => h) (Or.inl ⟨by rfl, ?_⟩) (by assumption) ?_
             rotate_left
             ·intro w hSw; (try dsimp only at hSw); go_simp; (try with_reducible rfl)
             try simp only [Act.put, List.getElem_toArray, List.getElem_cons_zero, List.getElem_cons_succ, List.setIfInBounds_toArray, List.set_cons_zero, List.set_cons_succ]
             refine wpAnyH_take (i := 4) (v := ?_) rfl (by kernel_rfl) (by kernel_rfl) (by kernel_rfl) (fun _ _ _ h => h) (Or.inl ⟨by rfl, ?_⟩) (by assumption) ?_
             rotate_left
             ·intro w hSw; (try dsimp only at hSw); go_simp; (try with_reducible rfl)
             try simp only [Act.put, List.getElem_toArray, List.getElem_cons_zero, List.getElem_cons_succ, List.setIfInBounds_toArray, List.set_cons_zero, List.set_cons_succ]
             refine wpAnyH_take (i := 5) (v := ?_) rfl (by kernel_rfl) (by kernel_rfl) (by kernel_rfl) (fun _ _ _ h => h) (Or.inl ⟨by rfl, ?_⟩) (by assumption) ?_
             rotate_left
             ·intro w hSw; (try dsimp only at hSw); go_simp; (try with_reducible rfl)
             try simp only [Act.put, List.getElem_toArray, List.getElem_cons_zero, List.getElem_cons_succ, List.setIfInBounds_toArray, List.set_cons_zero, List.set_cons_succ]
             refine wpAnyH_take (i := 6) (v := ?_) rfl (by kernel_rfl) (by kernel_rfl) (by kernel_rfl) (fun _ _ _ h => h) (Or.inl ⟨by rfl, ?_⟩) (by assumption) ?_
             rotate_left
             ·intro w hSw; (try dsimp only at hSw); go_simp; (try with_reducible rfl)
             try simp only [Act.put, List.getElem_toArray, List.getElem_cons_zero, List.getElem_cons_succ, List.setIfInBounds_toArray, List.set_cons_zero, List.set_cons_succ]
             refine wpAnyH_take (i := 7) (v := ?_) rfl (by kernel_rfl) (by kernel_rfl) (by kernel_rfl) (fun _ _ _ h => h) (Or.inl ⟨by rfl, ?_⟩) (by assumption) ?_
             rotate_left
             ·intro w hSw; (try dsimp only at hSw); go_simp; (try with_reducible rfl)
             try simp only [Act.put, List.getElem_toArray, List.getElem_cons_zero, List.getElem_cons_succ, List.setIfInBounds_toArray, List.set_cons_zero, List.set_cons_succ]
             try simp only [h1]
             refine wpAnyH_take (i := 8) (v := ?_) rfl (by kernel_rfl) (by kernel_rfl) (by kernel_rfl) (fun _ _ _ h => h) (Or.inl ⟨by rfl, ?_⟩) (by assumption) ?_
             rotate_left
             ·intro w hSw; (try dsimp only at hSw); go_simp; (try with_reducible rfl)
             try simp only [Act.put, List.getElem_toArray, List.getElem_cons_zero, List.getElem_cons_succ, List.setIfInBounds_toArray, List.set_cons_zero, List.set_cons_succ]
             refine wpAnyH_take (i := 9) (v := ?_) rfl (by kernel_rfl) (by kernel_rfl) (by kernel_rfl) (fun _ _ _ h => h) (Or.inl ⟨by rfl, ?_⟩) (by assumption) ?_
             rotate_left
             ·intro w hSw; (try dsimp only at hSw); go_simp; (try with_reducible rfl)
             try simp only [Act.put, List.getElem_toArray, List.getElem_cons_zero, List.getElem_cons_succ, List.setIfInBounds_toArray, List.set_cons_zero, List.set_cons_succ]
             refine wpAnyH_take (i := 10) (v := ?_) rfl (by kernel_rfl) (by kernel_rfl) (by kernel_rfl) (fun _ _ _ h => h) (Or.inl ⟨by rfl, ?_⟩) (by assumption) ?_
             rotate_left
             ·intro w hSw; (try dsimp only at hSw); go_simp; (try with_reducible rfl)
             try simp only [Act.put, List.getElem_toArray, List.getElem_cons_zero, List.getElem_cons_succ, List.setIfInBounds_toArray, List.set_cons_zero, List.set_cons_succ]
             refine wpAnyH_take (i := 11) (v := ?_) rfl (by kernel_rfl) (by kernel_rfl) (by kernel_rfl) (fun _ _ _ h => h) (Or.inl ⟨by rfl, ?_⟩) (by assumption) ?_
             rotate_left
             ·intro w hSw; (try dsimp only at hSw); go_simp; (try with_reducible rfl)
             try simp only [Act.put, List.getElem_toArray, List.getElem_cons_zero, List.getElem_cons_succ, List.setIfInBounds_toArray, List.set_cons_zero, List.set_cons_succ]
             try simp only [hAw, hBw2, hBw, hsw2]
             refine wpAnyH_take (i := 12) (v := ?_) rfl (by kernel_rfl) (by kernel_rfl) (by kernel_rfl) (fun _ _ _ h => h) (Or.inl ⟨by rfl, ?_⟩) (by assumption) ?_
             rotate_left
             ·intro w hSw; (try dsimp only at hSw); go_simp; (try with_reducible rfl)
             try simp only [Act.put, List.getElem_toArray, List.getElem_cons_zero, List.getElem_cons_succ, List.setIfInBounds_toArray, List.set_cons_zero, List.set_cons_succ]
             try simp only [hAw, hBw2, hBw, hsw2]
             refine wpAnyH_take (i := 13) (v := ?_) rfl (by kernel_rfl) (by kernel_rfl) (by kernel_rfl) (fun _ _ _ h => h) (Or.inl ⟨by rfl, ?_⟩) (by assumption) ?_
             rotate_left
             ·intro w hSw; (try dsimp only at hSw); go_simp; (try with_reducible rfl)
             try simp only [Act.put, List.getElem_toArray, List.getElem_cons_zero, List.getElem_cons_succ, List.setIfInBounds_toArray, List.set_cons_zero, List.set_cons_succ]
             refine wpAnyH_take (i := 14) (v := ?_) rfl (by kernel_rfl) (by kernel_rfl) (by kernel_rfl) (fun _ _ _ h => h) (Or.inl ⟨by rfl, ?_⟩) (by assumption) ?_
             rotate_left
             ·intro w hSw; (try dsimp only at hSw); go_simp; (try with_reducible rfl)
             try simp only [Act.put, List.getElem_toArray, List.getElem_cons_zero, List.getElem_cons_succ, List.setIfInBounds_toArray, List.set_cons_zero, List.set_cons_succ]
             refine wpAnyH_take (i := 15) (v := ?_) rfl (by kernel_rfl) (by kernel_rfl) (by kernel_rfl) (fun _ _ _ h => h) (Or.inl ⟨by rfl, ?_⟩) (by assumption) ?_
             rotate_left
             ·intro w hSw; (try dsimp only at hSw); go_simp; (try with_reducible rfl)
             try simp only [Act.put, List.getElem_toArray, List.getElem_cons_zero, List.getElem_cons_succ, List.setIfInBounds_toArray, List.set_cons_zero, List.set_cons_succ]
             try simp only [h2]
             refine wpAnyH_take (i := 16) (v := ?_) rfl (by kernel_rfl) (by kernel_rfl) (by kernel_rfl) (fun _ _ _ h => h) (Or.inl ⟨by rfl, ?_⟩) (by assumption) ?_
             rotate_left
             ·intro w hSw; (try dsimp only at hSw); go_simp; (try with_reducible rfl)
             try simp only [Act.put, List.getElem_toArray, List.getElem_cons_zero, List.getElem_cons_succ, List.setIfInBounds_toArray, List.set_cons_zero, List.set_cons_succ]
             try simp only [h1, h2]
             refine wpAnyH_take (i := 17) (v := ?_) rfl (by kernel_rfl) (by kernel_rfl) (by kernel_rfl) (fun _ _ _ h => h) (Or.inl ⟨by rfl, ?_⟩) (by assumption) ?_
             rotate_left
             ·intro w hSw; (try dsimp only at hSw); go_simp; (try with_reducible rfl)
             try simp only [Act.put, List.getElem_toArray, List.getElem_cons_zero, List.getElem_cons_succ, List.setIfInBounds_toArray, List.set_cons_zero, List.set_cons_succ]
             refine wpAnyH_take (i := 18) rfl (by kernel_rfl) (by kernel_rfl) (by kernel_rfl) (fun _ _ _ h => h) (Or.inr ⟨by rfl, rfl⟩) (by assumption) ?_
             try simp only [Act.put, List.getElem_toArray, List.getElem_cons_zero, List.getElem_cons_succ, List.setIfInBounds_toArray, List.set_cons_zero, List.set_cons_succ]
             refine wpAnyH_take (i := 19) rfl (by kernel_rfl) (by kernel_rfl) (by kernel_rfl) (fun _ _ _ h => h) (Or.inr ⟨by rfl, rfl⟩) (by assumption) ?_
             try simp only [Act.put, List.getElem_toArray, List.getElem_cons_zero, List.getElem_cons_succ, List.setIfInBounds_toArray, List.set_cons_zero, List.set_cons_succ]
             refine wpAnyH_take (i := 20) rfl (by kernel_rfl) (by kernel_rfl) (by kernel_rfl) (fun _ _ _ h => h) (Or.inr ⟨by rfl, rfl⟩) (by assumption) ?_
             try simp only [Act.put, List.getElem_toArray, List.getElem_cons_zero, List.getElem_cons_succ, List.setIfInBounds_toArray, List.set_cons_zero, List.set_cons_succ]
             try simp only [hAw, hBw2, hBw, hsw2]
             refine wpAnyH_take (i := 21) rfl (by kernel_rfl) (by kernel_rfl) (by kernel_rfl) (fun _ _ _ h => h) (Or.inr ⟨by rfl, rfl⟩) (by assumption) ?_
             try simp only [Act.put, List.getElem_toArray, List.getElem_cons_zero, List.getElem_cons_succ, List.setIfInBounds_toArray, List.set_cons_zero, List.set_cons_succ]
             try simp only [hAw, hBw2, hBw, hsw2]
             refine wpAnyH_take (i := 22) rfl (by kernel_rfl) (by kernel_rfl) (by kernel_rfl) (fun _ _ _ h => h) (Or.inr ⟨by rfl, rfl⟩) (by assumption) ?_
             try simp only [Act.put, List.getElem_toArray, List.getElem_cons_zero, List.getElem_cons_succ, List.setIfInBounds_toArray, List.set_cons_zero, List.set_cons_succ]
             refine wpAnyH_take (i := 23) rfl (by kernel_rfl) (by kernel_rfl) (by kernel_rfl) (fun _ _ _ h => h) (Or.inr ⟨by rfl, rfl⟩) (by assumption) ?_
             try simp only [Act.put, List.getElem_toArray, List.getElem_cons_zero, List.getElem_cons_succ, List.setIfInBounds_toArray, List.set_cons_zero, List.set_cons_succ]
             refine wpAnyH_take (i := 24) rfl (by kernel_rfl) (by kernel_rfl) (by kernel_rfl) (fun _ _ _ h => h) (Or.inr ⟨by rfl, rfl⟩) (by assumption) ?_
             try simp only [Act.put, List.getElem_toArray, List.getElem_cons_zero, List.getElem_cons_succ, List.setIfInBounds_toArray, List.set_cons_zero, List.set_cons_succ]
             refine wpAnyH_take (i := 25) rfl (by kernel_rfl) (by kernel_rfl) (by kernel_rfl) (fun _ _ _ h => h) (Or.inr ⟨by rfl, rfl⟩) (by assumption) ?_
             try simp only [Act.put, List.getElem_toArray, List.getElem_cons_zero, List.getElem_cons_succ, List.setIfInBounds_toArray, List.set_cons_zero, List.set_cons_succ]
             try simp only [hAw, hBw2, hBw, hsw2]
             refine wpAnyH_take (i := 26) rfl (by kernel_rfl) (by kernel_rfl) (by kernel_rfl) (fun _ _ _ h => h) (Or.inr ⟨by rfl, rfl⟩) (by assumption) ?_
             try simp only [Act.put, List.getElem_toArray, List.getElem_cons_zero, List.getElem_cons_succ, List.setIfInBounds_toArray, List.set_cons_zero, List.set_cons_succ]
             refine wpAnyH_take (i := 27) rfl (by kernel_rfl) (by kernel_rfl) (by kernel_rfl) (fun _ _ _ h => h) (Or.inr ⟨by rfl, rfl⟩) (by assumption) ?_
             try simp only [Act.put, List.getElem_toArray, List.getElem_cons_zero, List.getElem_cons_succ, List.setIfInBounds_toArray, List.set_cons_zero, List.set_cons_succ]
             refine wpAnyH_take (i := 28) rfl (by kernel_rfl) (by kernel_rfl) (by kernel_rfl) (fun _ _ _ h => h) (Or.inr ⟨by rfl, rfl⟩) (by assumption) ?_
             try simp only [Act.put, List.getElem_toArray, List.getElem_cons_zero, List.getElem_cons_succ, List.setIfInBounds_toArray, List.set_cons_zero, List.set_cons_succ]
             try simp only [hAw, hBw2, hBw, hsw2]
             refine wpAnyH_take (i := 29) rfl (by kernel_rfl) (by kernel_rfl) (by kernel_rfl) (fun _ _ _ h => h) (Or.inr ⟨by rfl, rfl⟩) (by assumption) ?_
             try simp only [Act.put, List.getElem_toArray, List.getElem_cons_zero, List.getElem_cons_succ, List.setIfInBounds_toArray, List.set_cons_zero, List.set_cons_succ]
             refine wpAnyH_take (i := 30) rfl (by kernel_rfl) (by kernel_rfl) (by kernel_rfl) (fun _ _ _ h => h) (Or.inr ⟨by rfl, rfl⟩) (by assumption) ?_
             try simp only [Act.put, List.getElem_toArray, List.getElem_cons_zero, List.getElem_cons_succ, List.setIfInBounds_toArray, List.set_cons_zero, List.set_cons_succ]
             refine wpAnyH_take (i := 31) rfl (by kernel_rfl) (by kernel_rfl) (by kernel_rfl) (fun _ _ _ h => h) (Or.inr ⟨by rfl, rfl⟩) (by assumption) ?_
             try simp only [Act.put, List.getElem_toArray, List.getElem_cons_zero, List.getElem_cons_succ, List.setIfInBounds_toArray, List.set_cons_zero, List.set_cons_succ]
             refine wpAnyH_take (i := 32) (v := ?_) rfl (by kernel_rfl) (by kernel_rfl) (by kernel_rfl) (fun _ _ _ h => h) (Or.inl ⟨by rfl, ?_⟩) (by assumption) ?_
             rotate_left
             ·intro w hSw; (try dsimp only at hSw); go_simp; (try with_reducible rfl)
             try simp only [Act.put, List.getElem_toArray, List.getElem_cons_zero, List.getElem_cons_succ, List.setIfInBounds_toArray, List.set_cons_zero, List.set_cons_succ]
             refine wpAnyH_done (by kernel_rfl) ?_ _
             refine NoPanic.normal ?_
             go_wp2_with fail
             go_meet
             exact ⟨by first | rfl | (simp; omega), rfl⟩
           ·have h1 : decide (0 < m) = false := by simpa using hmp
            refine wp_region_noPanic ?_
            refine wp_region_held_drew (S := (fun w' => w'.cell? ⟨gp, A, none⟩ = some (.int .i64 x) ∧ w'.cell? ⟨gp, B, none⟩ = some (.int .i64 y1) ∧ w'.cell? ⟨mb, a * 11 + i, none⟩ = some (.int .i64 m))) (by kernel_rfl) ⟨cx, cy, cm⟩ (fun hHeld => ?_)
            refine wpAnyH_take (i := 0) (v := ?_) rfl (by kernel_rfl) (by kernel_rfl) (by kernel_rfl) (fun _ _ _ h => h) (Or.inl ⟨by rfl, ?_⟩) (by assumption) ?_
            rotate_left
            ·intro w hSw; (try dsimp only at hSw); go_simp; (try with_reducible rfl)
            try simp only [Act.put, List.getElem_toArray, List.getElem_cons_zero, List.setIfInBounds_toArray, List.set_cons_zero, List.set_cons_succ]
            refine wpAnyH_take (i := 1) (v := ?_) rfl (by kernel_rfl) (by kernel_rfl) (by kernel_rfl) (fun _ _ _ h => h) (Or.inl ⟨by rfl, ?_⟩) (by assumption) ?_
            rotate_left
            ·intro w hSw; (try dsimp only at hSw); go_simp; (try with_reducible rfl)
            try simp only [Act.put, List.getElem_toArray, List.getElem_cons_zero, List.getElem_cons_succ, List.setIfInBounds_toArray, List.set_cons_zero, List.set_cons_succ]
            refine wpAnyH_take (i := 2) (v := ?_) rfl (by kernel_rfl) (by kernel_rfl) (by kernel_rfl) (fun _ _ _ h => h) (Or.inl ⟨by rfl, ?_⟩) (by assumption) ?_
            rotate_left
            ·intro w hSw; (try dsimp only at hSw); go_simp; (try with_reducible rfl)
            try simp only [Act.put, List.getElem_toArray, List.getElem_cons_zero, List.getElem_cons_succ, List.setIfInBounds_toArray, List.set_cons_zero, List.set_cons_succ]
            refine wpAnyH_take (i := 3) (v := ?_) rfl (by kernel_rfl) (by kernel_rfl) (by kernel_rfl) (fun _ _ _ h => h) (Or.inl ⟨by rfl, ?_⟩) (by assumption) ?_
            rotate_left
            ·intro w hSw; (try dsimp only at hSw); go_simp; (try with_reducible rfl)
            try simp only [Act.put, List.getElem_toArray, List.getElem_cons_zero, List.getElem_cons_succ, List.setIfInBounds_toArray, List.set_cons_zero, List.set_cons_succ]
            refine wpAnyH_take (i := 4) (v := ?_) rfl (by kernel_rfl) (by kernel_rfl) (by kernel_rfl) (fun _ _ _ h => h) (Or.inl ⟨by rfl, ?_⟩) (by assumption) ?_
            rotate_left
            ·intro w hSw; (try dsimp only at hSw); go_simp; (try with_reducible rfl)
            try simp only [Act.put, List.getElem_toArray, List.getElem_cons_zero, List.getElem_cons_succ, List.setIfInBounds_toArray, List.set_cons_zero, List.set_cons_succ]
            refine wpAnyH_take (i := 5) (v := ?_) rfl (by kernel_rfl) (by kernel_rfl) (by kernel_rfl) (fun _ _ _ h => h) (Or.inl ⟨by rfl, ?_⟩) (by assumption) ?_
            rotate_left
            ·intro w hSw; (try dsimp only at hSw); go_simp; (try with_reducible rfl)
            try simp only [Act.put, List.getElem_toArray, List.getElem_cons_zero, List.getElem_cons_succ, List.setIfInBounds_toArray, List.set_cons_zero, List.set_cons_succ]
            refine wpAnyH_take (i := 6) (v := ?_) rfl (by kernel_rfl) (by kernel_rfl) (by kernel_rfl) (fun _ _ _ h => h) (Or.inl ⟨by rfl, ?_⟩) (by assumption) ?_
            rotate_left
            ·intro w hSw; (try dsimp only at hSw); go_simp; (try with_reducible rfl)
            try simp only [Act.put, List.getElem_toArray, List.getElem_cons_zero, List.getElem_cons_succ, List.setIfInBounds_toArray, List.set_cons_zero, List.set_cons_succ]
            refine wpAnyH_take (i := 7) (v := ?_) rfl (by kernel_rfl) (by kernel_rfl) (by kernel_rfl) (fun _ _ _ h => h) (Or.inl ⟨by rfl, ?_⟩) (by assumption) ?_
            rotate_left
            ·intro w hSw; (try dsimp only at hSw); go_simp; (try with_reducible rfl)
            try simp only [Act.put, List.getElem_toArray, List.getElem_cons_zero, List.getElem_cons_succ, List.setIfInBounds_toArray, List.set_cons_zero, List.set_cons_succ]
            try simp only [h1]
            refine wpAnyH_take (i := 8) (v := ?_) rfl (by kernel_rfl) (by kernel_rfl) (by kernel_rfl) (fun _ _ _ h => h) (Or.inl ⟨by rfl, ?_⟩) (by assumption) ?_
            rotate_left
            ·intro w hSw; (try dsimp only at hSw); go_simp; (try with_reducible rfl)
            try simp only [Act.put, List.getElem_toArray, List.getElem_cons_zero, List.getElem_cons_succ, List.setIfInBounds_toArray, List.set_cons_zero, List.set_cons_succ]
            refine wpAnyH_take (i := 9) rfl (by kernel_rfl) (by kernel_rfl) (by kernel_rfl) (fun _ _ _ h => h) (Or.inr ⟨by rfl, rfl⟩) (by assumption) ?_
            try simp only [Act.put, List.getElem_toArray, List.getElem_cons_zero, List.getElem_cons_succ, List.setIfInBounds_toArray, List.set_cons_zero, List.set_cons_succ]
            refine wpAnyH_take (i := 10) rfl (by kernel_rfl) (by kernel_rfl) (by kernel_rfl) (fun _ _ _ h => h) (Or.inr ⟨by rfl, rfl⟩) (by assumption) ?_
            try simp only [Act.put, List.getElem_toArray, List.getElem_cons_zero, List.getElem_cons_succ, List.setIfInBounds_toArray, List.set_cons_zero, List.set_cons_succ]
            refine wpAnyH_take (i := 11) rfl (by kernel_rfl) (by kernel_rfl) (by kernel_rfl) (fun _ _ _ h => h) (Or.inr ⟨by rfl, rfl⟩) (by assumption) ?_
            try simp only [Act.put, List.getElem_toArray, List.getElem_cons_zero, List.getElem_cons_succ, List.setIfInBounds_toArray, List.set_cons_zero, List.set_cons_succ]
            try simp only [hAw, hBw2, hBw, hsw2]
            refine wpAnyH_take (i := 12) rfl (by kernel_rfl) (by kernel_rfl) (by kernel_rfl) (fun _ _ _ h => h) (Or.inr ⟨by rfl, rfl⟩) (by assumption) ?_
            try simp only [Act.put, List.getElem_toArray, List.getElem_cons_zero, List.getElem_cons_succ, List.setIfInBounds_toArray, List.set_cons_zero, List.set_cons_succ]
            try simp only [hAw, hBw2, hBw, hsw2]
            refine wpAnyH_take (i := 13) rfl (by kernel_rfl) (by kernel_rfl) (by kernel_rfl) (fun _ _ _ h => h) (Or.inr ⟨by rfl, rfl⟩) (by assumption) ?_
            try simp only [Act.put, List.getElem_toArray, List.getElem_cons_zero, List.getElem_cons_succ, List.setIfInBounds_toArray, List.set_cons_zero, List.set_cons_succ]
            refine wpAnyH_take (i := 14) rfl (by kernel_rfl) (by kernel_rfl) (by kernel_rfl) (fun _ _ _ h => h) (Or.inr ⟨by rfl, rfl⟩) (by assumption) ?_
            try simp only [Act.put, List.getElem_toArray, List.getElem_cons_zero, List.getElem_cons_succ, List.setIfInBounds_toArray, List.set_cons_zero, List.set_cons_succ]
            refine wpAnyH_take (i := 15) rfl (by kernel_rfl) (by kernel_rfl) (by kernel_rfl) (fun _ _ _ h => h) (Or.inr ⟨by rfl, rfl⟩) (by assumption) ?_
            try simp only [Act.put, List.getElem_toArray, List.getElem_cons_zero, List.getElem_cons_succ, List.setIfInBounds_toArray, List.set_cons_zero, List.set_cons_succ]
            refine wpAnyH_take (i := 16) (v := ?_) rfl (by kernel_rfl) (by kernel_rfl) (by kernel_rfl) (fun _ _ _ h => h) (Or.inl ⟨by rfl, ?_⟩) (by assumption) ?_
            rotate_left
            ·intro w hSw; (try dsimp only at hSw); go_simp; (try with_reducible rfl)
            try simp only [Act.put, List.getElem_toArray, List.getElem_cons_zero, List.getElem_cons_succ, List.setIfInBounds_toArray, List.set_cons_zero, List.set_cons_succ]
            try simp only [h1]
            refine wpAnyH_take (i := 17) (v := ?_) rfl (by kernel_rfl) (by kernel_rfl) (by kernel_rfl) (fun _ _ _ h => h) (Or.inl ⟨by rfl, ?_⟩) (by assumption) ?_
            rotate_left
            ·intro w hSw; (try dsimp only at hSw); go_simp; (try with_reducible rfl)
            try simp only [Act.put, List.getElem_toArray, List.getElem_cons_zero, List.getElem_cons_succ, List.setIfInBounds_toArray, List.set_cons_zero, List.set_cons_succ]
            refine wpAnyH_take (i := 18) rfl (by kernel_rfl) (by kernel_rfl) (by kernel_rfl) (fun _ _ _ h => h) (Or.inr ⟨by rfl, rfl⟩) (by assumption) ?_
            try simp only [Act.put, List.getElem_toArray, List.getElem_cons_zero, List.getElem_cons_succ, List.setIfInBounds_toArray, List.set_cons_zero, List.set_cons_succ]
            refine wpAnyH_take (i := 19) rfl (by kernel_rfl) (by kernel_rfl) (by kernel_rfl) (fun _ _ _ h => h) (Or.inr ⟨by rfl, rfl⟩) (by assumption) ?_
            try simp only [Act.put, List.getElem_toArray, List.getElem_cons_zero, List.getElem_cons_succ, List.setIfInBounds_toArray, List.set_cons_zero, List.set_cons_succ]
            refine wpAnyH_take (i := 20) rfl (by kernel_rfl) (by kernel_rfl) (by kernel_rfl) (fun _ _ _ h => h) (Or.inr ⟨by rfl, rfl⟩) (by assumption) ?_
            try simp only [Act.put, List.getElem_toArray, List.getElem_cons_zero, List.getElem_cons_succ, List.setIfInBounds_toArray, List.set_cons_zero, List.set_cons_succ]
            try simp only [hAw, hBw2, hBw, hsw2]
            refine wpAnyH_take (i := 21) rfl (by kernel_rfl) (by kernel_rfl) (by kernel_rfl) (fun _ _ _ h => h) (Or.inr ⟨by rfl, rfl⟩) (by assumption) ?_
            try simp only [Act.put, List.getElem_toArray, List.getElem_cons_zero, List.getElem_cons_succ, List.setIfInBounds_toArray, List.set_cons_zero, List.set_cons_succ]
            try simp only [hAw, hBw2, hBw, hsw2]
            refine wpAnyH_take (i := 22) rfl (by kernel_rfl) (by kernel_rfl) (by kernel_rfl) (fun _ _ _ h => h) (Or.inr ⟨by rfl, rfl⟩) (by assumption) ?_
            try simp only [Act.put, List.getElem_toArray, List.getElem_cons_zero, List.getElem_cons_succ, List.setIfInBounds_toArray, List.set_cons_zero, List.set_cons_succ]
            refine wpAnyH_take (i := 23) rfl (by kernel_rfl) (by kernel_rfl) (by kernel_rfl) (fun _ _ _ h => h) (Or.inr ⟨by rfl, rfl⟩) (by assumption) ?_
            try simp only [Act.put, List.getElem_toArray, List.getElem_cons_zero, List.getElem_cons_succ, List.setIfInBounds_toArray, List.set_cons_zero, List.set_cons_succ]
            refine wpAnyH_take (i := 24) rfl (by kernel_rfl) (by kernel_rfl) (by kernel_rfl) (fun _ _ _ h => h) (Or.inr ⟨by rfl, rfl⟩) (by assumption) ?_
            try simp only [Act.put, List.getElem_toArray, List.getElem_cons_zero, List.getElem_cons_succ, List.setIfInBounds_toArray, List.set_cons_zero, List.set_cons_succ]
            refine wpAnyH_take (i := 25) rfl (by kernel_rfl) (by kernel_rfl) (by kernel_rfl) (fun _ _ _ h => h) (Or.inr ⟨by rfl, rfl⟩) (by assumption) ?_
            try simp only [Act.put, List.getElem_toArray, List.getElem_cons_zero, List.getElem_cons_succ, List.setIfInBounds_toArray, List.set_cons_zero, List.set_cons_succ]
            try simp only [hAw, hBw2, hBw, hsw2]
            refine wpAnyH_take (i := 26) rfl (by kernel_rfl) (by kernel_rfl) (by kernel_rfl) (fun _ _ _ h => h) (Or.inr ⟨by rfl, rfl⟩) (by assumption) ?_
            try simp only [Act.put, List.getElem_toArray, List.getElem_cons_zero, List.getElem_cons_succ, List.setIfInBounds_toArray, List.set_cons_zero, List.set_cons_succ]
            refine wpAnyH_take (i := 27) rfl (by kernel_rfl) (by kernel_rfl) (by kernel_rfl) (fun _ _ _ h => h) (Or.inr ⟨by rfl, rfl⟩) (by assumption) ?_
            try simp only [Act.put, List.getElem_toArray, List.getElem_cons_zero, List.getElem_cons_succ, List.setIfInBounds_toArray, List.set_cons_zero, List.set_cons_succ]
            refine wpAnyH_take (i := 28) rfl (by kernel_rfl) (by kernel_rfl) (by kernel_rfl) (fun _ _ _ h => h) (Or.inr ⟨by rfl, rfl⟩) (by assumption) ?_
            try simp only [Act.put, List.getElem_toArray, List.getElem_cons_zero, List.getElem_cons_succ, List.setIfInBounds_toArray, List.set_cons_zero, List.set_cons_succ]
            try simp only [hAw, hBw2, hBw, hsw2]
            refine wpAnyH_take (i := 29) rfl (by kernel_rfl) (by kernel_rfl) (by kernel_rfl) (fun _ _ _ h => h) (Or.inr ⟨by rfl, rfl⟩) (by assumption) ?_
            try simp only [Act.put, List.getElem_toArray, List.getElem_cons_zero, List.getElem_cons_succ, List.setIfInBounds_toArray, List.set_cons_zero, List.set_cons_succ]
            refine wpAnyH_take (i := 30) rfl (by kernel_rfl) (by kernel_rfl) (by kernel_rfl) (fun _ _ _ h => h) (Or.inr ⟨by rfl, rfl⟩) (by assumption) ?_
            try simp only [Act.put, List.getElem_toArray, List.getElem_cons_zero, List.getElem_cons_succ, List.setIfInBounds_toArray, List.set_cons_zero, List.set_cons_succ]
            refine wpAnyH_take (i := 31) rfl (by kernel_rfl) (by kernel_rfl) (by kernel_rfl) (fun _ _ _ h => h) (Or.inr ⟨by rfl, rfl⟩) (by assumption) ?_
            try simp only [Act.put, List.getElem_toArray, List.getElem_cons_zero, List.getElem_cons_succ, List.setIfInBounds_toArray, List.set_cons_zero, List.set_cons_succ]
            refine wpAnyH_take (i := 32) (v := ?_) rfl (by kernel_rfl) (by kernel_rfl) (by kernel_rfl) (fun _ _ _ h => h) (Or.inl ⟨by rfl, ?_⟩) (by assumption) ?_
            rotate_left
            ·intro w hSw; (try dsimp only at hSw); go_simp; (try with_reducible rfl)
            try simp only [Act.put, List.getElem_toArray, List.getElem_cons_zero, List.getElem_cons_succ, List.setIfInBounds_toArray, List.set_cons_zero, List.set_cons_succ]
            refine wpAnyH_done (by kernel_rfl) ?_ _
            refine NoPanic.normal ?_
            go_wp2_with fail
            go_meet
            exact ⟨by first | rfl | (simp; omega), rfl⟩
          case rest => as_aux_lemma =>
           obtain ⟨rfl, hwc⟩ := hcut
           subst hwc
           have h1 : wg.drew.heap[w.heap.size]? = some (.cells #[.int .i64 N, .slice ao xs.length cap] 32 (0, 0)) := HBz.out
           have h2 : wg.drew.heap[gp]? = some (.cells (lV P1 M).toArray 2 (0, 0)) := HBp.out
           have h3 : wg.drew.heap[gf]? = some (.cells (lV F1 M).toArray 3 (0, 0)) := HBf.out
           have h4 : Below w.heap.size w wg.drew := HW.out.drew
           clear cx cy cm HBz HBp HBf HW
           generalize wg.drew = wg at *
           have HBz := Lib.hid h1
           have HBp := Lib.hid h2
           have HBf := Lib.hid h3
           have HW := Lib.hid h4
           clear h1 h2 h3 h4
           have cx : wg.cell? ⟨gp, A, none⟩ = some (.int .i64 x) := by rw [← H1A.out]; exact row_at HBp.out (lV_at _ AM)
           have cy : wg.cell? ⟨gp, B, none⟩ = some (.int .i64 y1) := by rw [← Hy1.out]; exact row_at HBp.out (lV_at _ BM)
           by_cases hrl : 0 < m ∧ y1 < 1152921504606846976 ∧ s2 < x
           ·have hrd : decide (0 < m ∧ y1 < 1152921504606846976 ∧ s2 < x) = true := by simpa using hrl
            have HE := Lib.hid (HNx2.out (upI P1 A s2, upI F1 A (B : Int)) (by
             rw [if_pos hrl.1]
             show (if P1 B < farI ∧ P1 B + -c < P1 A then (upI P1 A (P1 B + -c), upI F1 A (B : Int)) else (P1, F1)) = _
             have e : y1 + -c = s2 := by rw [Hs2.out]; omega
             rw [H1A.out, Hy1.out, far_val, e, if_pos hrl.2]))
            clear HNx2
            rw [hrd]
            clear hrd
            have hfp := row_fro (k := A) HBp.out
            have Hq1 := Lib.hid (show (wg.setCell ⟨gp, A, none⟩ (.int .i64 (s2))).heap[gp]? = _ from row_set (k := A) (v := .int .i64 (s2)) HBp.out)
            have Hq2 := Lib.hid (show (wg.setCell ⟨gp, A, none⟩ (.int .i64 (s2))).heap[gf]? = _ from (st1k_ne (w := wg) (b := gp) (i := A) (c := gf) (.int .i64 (s2)) (fun e => hgpf e.symm)).trans HBf.out)
            have Hq3 := Lib.hid (show (wg.setCell ⟨gp, A, none⟩ (.int .i64 (s2))).heap[w.heap.size]? = _ from (st1k_ne (w := wg) (b := gp) (i := A) (c := w.heap.size) (.int .i64 (s2)) (by omega)).trans HBz.out)
            have Hq4 := Lib.hid (HW.out.setCell (p := ⟨gp, A, none⟩) (by show w.heap.size ≤ gp; omega) (.int .i64 (s2)))
            have hff2 : (wg.setCell ⟨gp, A, none⟩ (.int .i64 (s2))).frozen? ⟨gf, A, none⟩ = false := row_fro (k := A) Hq2.out
            have hcp : wg.cell? ⟨gp, A, none⟩ = some (.int .i64 (P1 A)) := row_at HBp.out (lV_at _ AM)
            have hcf : wg.cell? ⟨gf, A, none⟩ = some (.int .i64 (F1 A)) := row_at HBf.out (lV_at _ AM)
            have hcf2 : (wg.setCell ⟨gp, A, none⟩ (.int .i64 (s2))).cell? ⟨gf, A, none⟩ = some (.int .i64 (F1 A)) := row_at Hq2.out (lV_at _ AM)
            have HR1 := Lib.hid (show ((wg.setCell ⟨gp, A, none⟩ (.int .i64 (s2))).setCell ⟨gf, A, none⟩ (.int .i64 ((B : Int)))).heap[gp]? = some (.cells (lV (upI (P1) A (s2)) M).toArray 2 (0, 0)) by
             rw [← lV_set]; exact (st1k_ne (b := gf) (i := A) (c := gp) (.int .i64 ((B : Int))) hgpf).trans Hq1.out)
            have HR2 := Lib.hid (show ((wg.setCell ⟨gp, A, none⟩ (.int .i64 (s2))).setCell ⟨gf, A, none⟩ (.int .i64 ((B : Int)))).heap[gf]? = some (.cells (lV (upI (F1) A ((B : Int))) M).toArray 3 (0, 0)) by
             rw [← lV_set]; exact row_set (k := A) (v := .int .i64 ((B : Int))) Hq2.out)
            have HR3 := Lib.hid (show ((wg.setCell ⟨gp, A, none⟩ (.int .i64 (s2))).setCell ⟨gf, A, none⟩ (.int .i64 ((B : Int)))).heap[w.heap.size]? = some (.cells #[.int .i64 N, .slice ao xs.length cap] 32 (0, 0)) from (st1k_ne (b := gf) (i := A) (c := w.heap.size) (.int .i64 ((B : Int))) (by omega)).trans Hq3.out)
            have HR4 := Lib.hid (Hq4.out.setCell (p := ⟨gf, A, none⟩) (by show w.heap.size ≤ gf; omega) (.int .i64 ((B : Int))))
            clear HBz HBp HBf HW Hq1 Hq2 Hq3 Hq4
            go_wp2_with fail
            go_roundw
            case rel => exact ⟨i + 1, by omega, by go_num, HR3.out, by rw [HE.out]; exact HR1.out, by rw [HE.out]; exact HR2.out, HR4.out⟩
            case measure => simp [intOf]; omega
           ·have hrd : decide (0 < m ∧ y1 < 1152921504606846976 ∧ s2 < x) = false := by simpa using hrl
            have HE := Lib.hid (HNx2.out (P1, F1) (by
             by_cases q : 0 < m
             ·rw [if_pos q]
              show (if P1 B < farI ∧ P1 B + -c < P1 A then (upI P1 A (P1 B + -c), upI F1 A (B : Int)) else (P1, F1)) = _
              have e : y1 + -c = s2 := by rw [Hs2.out]; omega
              rw [H1A.out, Hy1.out, far_val, e, if_neg (fun z => hrl ⟨q, z⟩)]
             ·rw [if_neg q]; rfl))
            clear HNx2
            rw [hrd]
            clear hrd
            go_wp2_with fail
            go_roundw
            case rel => exact ⟨i + 1, by omega, by go_num, HBz.out, by rw [HE.out]; exact HBp.out, by rw [HE.out]; exact HBf.out, HW.out⟩
            case measure => simp [intOf]; omega
end Go.Proofs.YtfphlpglgcmljaaGreat
