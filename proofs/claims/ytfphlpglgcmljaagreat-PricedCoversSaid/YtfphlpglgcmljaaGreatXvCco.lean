/- Part of the proof of priced_covers_proved: Cco. -/
import Derived.Deep.RegionHeld3
import Derived.Test.YtfphlpglgcmljaaGreatXvCvc
import Derived.Test.YtfphlpglgcmljaaGreatXvCrc
import Derived.Test.YtfphlpglgcmljaaGreatXvPrs
namespace Go.Proofs.YtfphlpglgcmljaaGreat
open Go.RowKit
set_option linter.unusedVariables false
set_option linter.unusedSimpArgs false
set_option linter.unnecessarySimpa false
def lI (V : Nat → Int) (N : Nat) : List Value := (List.range N).map fun k => Value.int .i64 (V (k + 1))
def lB (K : Nat → Bool) (N : Nat) : List Value := (List.range N).map fun k => Value.bool (K (k + 1))
theorem lI_at (V : Nat → Int) {N k : Nat} (hk : k < N) : (lI V N)[k]? = some (.int .i64 (V (k + 1))) := by unfold lI; rw [List.getElem?_map, List.getElem?_range hk]; rfl
theorem lB_at (K : Nat → Bool) {N k : Nat} (hk : k < N) : (lB K N)[k]? = some (.bool (K (k + 1))) := by unfold lB; rw [List.getElem?_map, List.getElem?_range hk]; rfl
theorem lI_set (V : Nat → Int) {N k : Nat} (x : Int) : (lI V N).set k (.int .i64 x) = lI (upI V (k + 1) x) N := by
 apply List.ext_getElem?
 intro i
 unfold lI
 rw [List.getElem?_set, List.getElem?_map, List.getElem?_map]
 by_cases h : i < N
 ·rw [List.getElem?_range h]
  by_cases e : k = i
  ·subst e; rw [if_pos rfl]; simp [h, upI]
  ·rw [if_neg e]; simp [upI, fun c : i + 1 = k + 1 => e (by omega)]; intro c; exact absurd c.symm e
 ·rw [List.getElem?_eq_none (by simp; omega)]
  split
  ·simp; omega
  ·rfl
theorem lB_set (K : Nat → Bool) {N k : Nat} (x : Bool) : (lB K N).set k (.bool x) = lB (upB K (k + 1) x) N := by
 apply List.ext_getElem?
 intro i
 unfold lB
 rw [List.getElem?_set, List.getElem?_map, List.getElem?_map]
 by_cases h : i < N
 ·rw [List.getElem?_range h]
  by_cases e : k = i
  ·subst e; rw [if_pos rfl]; simp [h, upB]
  ·rw [if_neg e]; simp [upB, fun c : i + 1 = k + 1 => e (by omega)]; intro c; exact absurd c.symm e
 ·rw [List.getElem?_eq_none (by simp; omega)]
  split
  ·simp; omega
  ·rfl
theorem lI_zero (N : Nat) : lI (fun _ => 0) N = List.replicate N (.int .i64 0) := by unfold lI; rw [List.map_const']; simp
theorem lB_zero (N : Nat) : lB (fun _ => false) N = List.replicate N (.bool false) := by unfold lB; rw [List.map_const']; simp
def lZ (V : Nat → Int) (N : Nat) : List Int := (List.range N).map fun k => V (k + 1)
theorem lZ_len (V : Nat → Int) (N : Nat) : (lZ V N).length = N := by simp [lZ]
theorem lZ_row (V : Nat → Int) (N : Nat) : (lZ V N).map (Value.int .i64) = lI V N := by unfold lZ lI; rw [List.map_map]; rfl
theorem lZ_at (V : Nat → Int) {N k : Nat} (hk : k < N) : gi (lZ V N) k = V (k + 1) := by unfold gi lZ; rw [List.getD_eq_getElem?_getD, List.getElem?_map, List.getElem?_range hk]; rfl
theorem tm_mod (d N : Nat) : ((d : Int).tmod ((N : Int) + 1)) = ((d % (N + 1) : Nat) : Int) := by rw [Int.tmod_eq_emod_of_nonneg (by omega)]; push_cast; rfl
theorem rl_row {X : World} {g N t : Nat} {V : Nat → Int} (hN : N ≤ 1000) (h : X.heap[g]? = some (.cells (lI V N).toArray t (0, 0))) : RL X.heap.size X (.slice (some ⟨g, 0, none⟩) N N) (lZ V N) := by
 unfold RL
 rw [lZ_len, lZ_row]
 refine .inr ⟨g, 0, none, N, rfl, Nat.le_refl _, by unfold maxLen; omega, fun e => by subst e; rfl, fun _ => ⟨rfl, hp_lt3 h, fun k hk => ?_⟩⟩
 rw [Nat.zero_add, cell_of_row _ g k _ _ _ h]
 simp
set_option maxRecDepth 100000 in
set_option maxHeartbeats 16000000 in
theorem ref_corner23 (N : Nat) (v cv : Value) (xs ch : List Int) (w : World) (hv : RL w.heap.size w v xs) (hc : RL w.heap.size w cv ch) (hok : OkZ N xs) (hN : N ≤ 3) (hnear : Near N xs) (hch : Cho N ch) :
  Calls Tryz.prog 149 #[.agg #[.int .i64 N, v], cv] w fun e w' => (∃ vv, (e = .returned (.tuple #[vv, .bool true]) ∧ CorOk N xs ch ∧ RL w'.heap.size w' vv (lZ (cnR N xs (dgL ch) N).1 N)) ∨ (e = .returned (.tuple #[vv, .bool false]) ∧ ¬ CorOk N xs ch)) ∧ Below w.heap.size w w' := by
 obtain ⟨ao, cap, rfl, hle, _⟩ := hv.open
 obtain ⟨aoc, capc, rfl, hlec, h0c⟩ := hc.open
 have H0c := Lib.hid h0c
 have Hv := Lib.hid hv
 have Hch := Lib.hid hch
 have Hnear := Lib.hid hnear
 have hN10 : N ≤ 10 := by omega
 clear h0c hc hch hnear
 have hloc := Loc.one w (.cells #[.int .i64 N, .slice ao xs.length cap] 32) none
 have hbw := below_grownBy hloc.grown
 have hqz : (w.alloc (.cells #[.int .i64 N, .slice ao xs.length cap] 32)).heap[w.heap.size]? = some (.cells #[.int .i64 N, .slice ao xs.length cap] 32 (0, 0)) := hloc.objs 0 (by simp)
 clear hv hloc
 go_enter Tryz.func149, Tryz.ntmps149
 go_upto_region 1 with fail
 generalize (w.alloc (.cells #[.int .i64 N, .slice ao xs.length cap] 32)) = X1 at *
 have HW := Lib.hid hbw
 have HBz := Lib.hid hqz
 clear hbw hqz
 have z0 : X1.cell? ⟨w.heap.size, 0, none⟩ = some (.int .i64 N) := cell_of_row _ (w.heap.size) 0 _ _ _ HBz.out
 have HS := Lib.hid (fun (X : World) (hX : Below X1.heap.size X1 X) => (keepb z0 hX : X.cell? ⟨w.heap.size, 0, none⟩ = some (.int .i64 N)))
 go_cut [6, 7] (fun s6 s7 wx => ∃ gv gk, s6 = .slice (some ⟨gv, 0, none⟩) N N ∧ s7 = .slice (some ⟨gk, 0, none⟩) N N ∧ wx.heap[gv]? = some (.cells (List.replicate N (.int .i64 0)).toArray 2 (0, 0)) ∧ wx.heap[gk]? = some (.cells (List.replicate N (.bool false)).toArray 4 (0, 0)) ∧ X1.heap.size ≤ gv ∧ X1.heap.size ≤ gk ∧ Below X1.heap.size X1 wx)
 case first =>
  refine wp_region_noPanic ?_
  refine wp_region_held_drew (S := (fun w' => w'.cell? ⟨w.heap.size, 0, none⟩ = some (.int .i64 N))) (by kernel_rfl) z0 (fun hHeld => ?_)
  refine wpAnyH_take (i := 0) (v := ?_) rfl (by kernel_rfl) (by kernel_rfl) (by kernel_rfl) (fun _ _ _ h => h) (Or.inl ⟨by rfl, ?_⟩) (by assumption) ?_
  rotate_left
  ·intro w hSw; (try dsimp only at hSw); go_simp; (try with_reducible rfl)
  try simp only [Act.put, List.getElem_toArray, List.getElem_cons_zero, List.setIfInBounds_toArray, List.set_cons_zero, List.set_cons_succ]
  refine wpAnyH_take (i := 1) (v := ?_) rfl (by kernel_rfl) (by kernel_rfl) (by kernel_rfl) (fun _ _ _ h => h) (Or.inl ⟨by rfl, ?_⟩) (by assumption) ?_
  rotate_left
  ·intro w hSw; (try dsimp only at hSw); go_simp; (try with_reducible rfl)
  try simp only [Act.put, List.getElem_toArray, List.getElem_cons_zero, List.getElem_cons_succ, List.setIfInBounds_toArray, List.set_cons_zero, List.set_cons_succ]
  refine wpAnyH_take (i := 3) (v := ?_) rfl (by kernel_rfl) (by kernel_rfl) (by kernel_rfl) (fun _ _ _ h => h) (Or.inl ⟨by rfl, ?_⟩) (by assumption) ?_
  rotate_left
  ·intro w hSw; (try dsimp only at hSw); go_simp; (try with_reducible rfl)
  try simp only [Act.put, List.getElem_toArray, List.getElem_cons_zero, List.getElem_cons_succ, List.setIfInBounds_toArray, List.set_cons_zero, List.set_cons_succ]
  refine wpAnyH_take (i := 4) (v := ?_) rfl (by kernel_rfl) (by kernel_rfl) (by kernel_rfl) (fun _ _ _ h => h) (Or.inl ⟨by rfl, ?_⟩) (by assumption) ?_
  rotate_left
  ·intro w hSw; (try dsimp only at hSw); go_simp; (try with_reducible rfl)
  try simp only [Act.put, List.getElem_toArray, List.getElem_cons_zero, List.getElem_cons_succ, List.setIfInBounds_toArray, List.set_cons_zero, List.set_cons_succ]
  have H0 := Lib.hid (show Below X1.heap.size X1 X1.drew from (Below.refl _ _).drew)
  clear hHeld
  generalize X1.drew = L0 at *
  have HL0 := Lib.hid H0.out
  clear H0
  refine wpAnyH_ready (rs := [2, 5]) (by kernel_rfl) (by simp) ?_
  refine AllReadyH.cons rfl (fun K hK => ?_) (AllReadyH.cons rfl (fun K hK => ?_) AllReadyH.nil)
  ·skip
   have hba := (Below.refl _ L0).alloc (Nat.le_refl _) (.cells (List.replicate N (.int .i64 0)).toArray 2)
   have hh2 := bt HL0.out hba
   have hrow := heap_alloc_new L0 (.cells (List.replicate N (.int .i64 0)).toArray 2)
   have hge := HL0.out.size
   refine step_make rfl (.tmp 18) (.tmp 18) 33 rfl 2 (.int .i64 0) 8 Tryz.undL64 Tryz.infL64 rfl (by decide) N _ _ rfl rfl rfl rfl (Nat.le_trans hN10 (by decide)) ?_
   refine hK.out _ _ (HS.out _ hh2) (fun hHeld2 => ?_)
   clear hK K hba
   generalize hgen : L0.alloc _ = L1 at *
   clear hgen
   generalize L0.heap.size = gv at *
   have HL1 := Lib.hid hh2
   have Hgvr := Lib.hid hrow
   have Hgvg := Lib.hid hge
   clear hh2 hrow hge
   try simp only [Act.put, List.getElem_toArray, List.getElem_cons_zero, List.getElem_cons_succ, List.setIfInBounds_toArray, List.set_cons_zero, List.set_cons_succ]
   refine wpAnyH_take (i := 6) (v := ?_) rfl (by kernel_rfl) (by kernel_rfl) (by kernel_rfl) (fun _ _ _ h => h) (Or.inl ⟨by rfl, ?_⟩) (by assumption) ?_
   rotate_left
   ·intro w hSw; (try dsimp only at hSw); go_simp; (try with_reducible rfl)
   try simp only [Act.put, List.getElem_toArray, List.getElem_cons_zero, List.getElem_cons_succ, List.setIfInBounds_toArray, List.set_cons_zero, List.set_cons_succ]
   refine wpAnyH_ready (rs := [5]) (by kernel_rfl) (by simp) ?_
   refine AllReadyH.cons rfl (fun K hK => ?_) AllReadyH.nil
   have hba := (Below.refl _ L1).alloc (Nat.le_refl _) (.cells (List.replicate N (.bool false)).toArray 4)
   have hh2 := bt HL1.out hba
   have hrow := heap_alloc_new L1 (.cells (List.replicate N (.bool false)).toArray 4)
   have hge := HL1.out.size
   have hoth := hp_keep4 Hgvr.out hba
   refine step_make rfl (.tmp 21) (.tmp 21) 109 rfl 4 (.bool false) 1 Tryz.undBs Tryz.infBs rfl (by decide) N _ _ rfl rfl rfl rfl (Nat.le_trans hN10 (by decide)) ?_
   refine hK.out _ _ (HS.out _ hh2) (fun hHeld2 => ?_)
   clear hK K hba
   generalize hgen : L1.alloc _ = L2 at *
   clear hgen
   generalize L1.heap.size = gk at *
   have HL2 := Lib.hid hh2
   have Hgkr := Lib.hid hrow
   have Hgkg := Lib.hid hge
   clear hh2 hrow hge
   clear Hgvr
   have Hgvr := Lib.hid hoth
   clear hoth
   try simp only [Act.put, List.getElem_toArray, List.getElem_cons_zero, List.getElem_cons_succ, List.setIfInBounds_toArray, List.set_cons_zero, List.set_cons_succ]
   refine wpAnyH_take (i := 7) (v := ?_) rfl (by kernel_rfl) (by kernel_rfl) (by kernel_rfl) (fun _ _ _ h => h) (Or.inl ⟨by rfl, ?_⟩) (by assumption) ?_
   rotate_left
   ·intro w hSw; (try dsimp only at hSw); go_simp; (try with_reducible rfl)
   try simp only [Act.put, List.getElem_toArray, List.getElem_cons_zero, List.getElem_cons_succ, List.setIfInBounds_toArray, List.set_cons_zero, List.set_cons_succ]
   refine wpAnyH_done (by kernel_rfl) ?_ _
   refine NoPanic.normal ?_
   go_wp2_with fail
   go_meet
   exact ⟨gv, gk, rfl, rfl, Hgvr.out, Hgkr.out, Hgvg.out, Hgkg.out, HL2.out⟩
  ·skip
   have hba := (Below.refl _ L0).alloc (Nat.le_refl _) (.cells (List.replicate N (.bool false)).toArray 4)
   have hh2 := bt HL0.out hba
   have hrow := heap_alloc_new L0 (.cells (List.replicate N (.bool false)).toArray 4)
   have hge := HL0.out.size
   refine step_make rfl (.tmp 21) (.tmp 21) 109 rfl 4 (.bool false) 1 Tryz.undBs Tryz.infBs rfl (by decide) N _ _ rfl rfl rfl rfl (Nat.le_trans hN10 (by decide)) ?_
   refine hK.out _ _ (HS.out _ hh2) (fun hHeld2 => ?_)
   clear hK K hba
   generalize hgen : L0.alloc _ = L1 at *
   clear hgen
   generalize L0.heap.size = gk at *
   have HL1 := Lib.hid hh2
   have Hgkr := Lib.hid hrow
   have Hgkg := Lib.hid hge
   clear hh2 hrow hge
   try simp only [Act.put, List.getElem_toArray, List.getElem_cons_zero, List.getElem_cons_succ, List.setIfInBounds_toArray, List.set_cons_zero, List.set_cons_succ]
   refine wpAnyH_ready (rs := [2]) (by kernel_rfl) (by simp) ?_
   refine AllReadyH.cons rfl (fun K hK => ?_) AllReadyH.nil
   have hba := (Below.refl _ L1).alloc (Nat.le_refl _) (.cells (List.replicate N (.int .i64 0)).toArray 2)
   have hh2 := bt HL1.out hba
   have hrow := heap_alloc_new L1 (.cells (List.replicate N (.int .i64 0)).toArray 2)
   have hge := HL1.out.size
   have hoth := hp_keep4 Hgkr.out hba
   refine step_make rfl (.tmp 18) (.tmp 18) 33 rfl 2 (.int .i64 0) 8 Tryz.undL64 Tryz.infL64 rfl (by decide) N _ _ rfl rfl rfl rfl (Nat.le_trans hN10 (by decide)) ?_
   refine hK.out _ _ (HS.out _ hh2) (fun hHeld2 => ?_)
   clear hK K hba
   generalize hgen : L1.alloc _ = L2 at *
   clear hgen
   generalize L1.heap.size = gv at *
   have HL2 := Lib.hid hh2
   have Hgvr := Lib.hid hrow
   have Hgvg := Lib.hid hge
   clear hh2 hrow hge
   clear Hgkr
   have Hgkr := Lib.hid hoth
   clear hoth
   try simp only [Act.put, List.getElem_toArray, List.getElem_cons_zero, List.getElem_cons_succ, List.setIfInBounds_toArray, List.set_cons_zero, List.set_cons_succ]
   refine wpAnyH_take (i := 6) (v := ?_) rfl (by kernel_rfl) (by kernel_rfl) (by kernel_rfl) (fun _ _ _ h => h) (Or.inl ⟨by rfl, ?_⟩) (by assumption) ?_
   rotate_left
   ·intro w hSw; (try dsimp only at hSw); go_simp; (try with_reducible rfl)
   try simp only [Act.put, List.getElem_toArray, List.getElem_cons_zero, List.getElem_cons_succ, List.setIfInBounds_toArray, List.set_cons_zero, List.set_cons_succ]
   refine wpAnyH_take (i := 7) (v := ?_) rfl (by kernel_rfl) (by kernel_rfl) (by kernel_rfl) (fun _ _ _ h => h) (Or.inl ⟨by rfl, ?_⟩) (by assumption) ?_
   rotate_left
   ·intro w hSw; (try dsimp only at hSw); go_simp; (try with_reducible rfl)
   try simp only [Act.put, List.getElem_toArray, List.getElem_cons_zero, List.getElem_cons_succ, List.setIfInBounds_toArray, List.set_cons_zero, List.set_cons_succ]
   refine wpAnyH_done (by kernel_rfl) ?_ _
   refine NoPanic.normal ?_
   go_wp2_with fail
   go_meet
   exact ⟨gv, gk, rfl, rfl, Hgvr.out, Hgkr.out, Hgvg.out, Hgkg.out, HL2.out⟩
 case rest =>
  obtain ⟨gv, gk, rfl, rfl, hrv, hrk, hgv, hgk, hb⟩ := hcut
  obtain ⟨w1, hw1⟩ : ∃ V, V = wc := ⟨_, rfl⟩
  subst hw1
  have hX1 := HW.out.size
  have hzl := hp_lt3 HBz.out
  have hgv0 : w.heap.size < gv := by omega
  have hgk0 : w.heap.size < gk := by omega
  have hgvk := hp_ne hrv hrk (by decide)
  clear z0 HS hX1 hzl hgv hgk
  replace HBz := Lib.hid (hp_keep4 HBz.out hb)
  replace HW := Lib.hid (bt HW.out hb)
  clear hb
  rw [← lI_zero] at hrv
  rw [← lB_zero] at hrk
  have HBv := Lib.hid hrv
  have HBk := Lib.hid hrk
  clear hrv hrk
  go_wp2_with fail
  go_loopw [8] (fun s wr => ∃ r : Nat, r ≤ N ∧ s = .int .i64 r ∧ wr.heap[w.heap.size]? = some (.cells #[.int .i64 N, .slice ao xs.length cap] 32 (0, 0)) ∧ wr.heap[gv]? = some (.cells (lI (cnR N xs (dgL ch) r).1 N).toArray 2 (0, 0)) ∧ wr.heap[gk]? = some (.cells (lB (cnR N xs (dgL ch) r).2 N).toArray 4 (0, 0)) ∧ Below w.heap.size w wr) (fun s _ => N - (intOf s).toNat)
  case atStart => exact ⟨0, Nat.zero_le _, rfl, HBz.out, HBv.out, HBk.out, HW.out⟩
  case round =>
   clear HBz HBv HBk HW
   obtain ⟨r, hr, rfl, h1, h2, h3, h4⟩ := hrel
   have HBz := Lib.hid h1
   have HBv := Lib.hid h2
   have HBk := Lib.hid h3
   have HW := Lib.hid h4
   clear h1 h2 h3 h4
   obtain ⟨wa, hwa⟩ : ∃ V, V = wr := ⟨_, rfl⟩
   subst hwa
   have z0 : wa.cell? ⟨w.heap.size, 0, none⟩ = some (.int .i64 N) := cell_of_row _ (w.heap.size) 0 _ _ _ HBz.out
   by_cases hlt : r < N
   rotate_left
   ·have htr : decide ((r : Int) < (N : Int)) = false := by simp; omega
    obtain rfl : N = r := by omega
    obtain ⟨V, K, hst⟩ : ∃ V K, cnR N xs (dgL ch) N = (V, K) := ⟨_, _, rfl⟩
    have HKb := Lib.hid (show ∀ m, m + 1 ≤ N → K (m + 1) = true → -1073741824 ≤ V (m + 1) ∧ V (m + 1) ≤ 1073741824 from fun m hm hk => by
     have q := Kb.all (dg := dgL ch) hN Hnear.out N (Nat.le_refl _)
     rw [hst] at q
     have q2 : -((N : Int) * 201326592) ≤ V (m + 1) ∧ V (m + 1) ≤ (N : Int) * 201326592 := q (m + 1) (by omega) hm hk
     omega)
    have HCo := Lib.hid (show CorOk N xs ch ↔ (∀ m, m < N → K (m + 1) = true) ∧ PI N xs (lv (lZ V N)) by
     have e : ∀ i, i ≤ N → cornV N xs ch i = lv (lZ V N) i := fun i hi => by
      unfold cornV
      rw [hst]
      by_cases h0 : i = 0
      ·subst h0; rfl
      ·rw [if_neg h0, show i = i - 1 + 1 by omega, lv_s, lZ_at V (by omega)]
     unfold CorOk
     rw [hst]
     exact ⟨fun ⟨a, b⟩ => ⟨fun m hm => a (m + 1) (by omega) (by omega), b.congr (fun i hi => (e i hi).symm)⟩, fun ⟨a, b⟩ => ⟨fun i h1 h2 => by have := a (i - 1) (by omega); rwa [show i - 1 + 1 = i by omega] at this, b.congr e⟩⟩)
    rw [hst] at HBv HBk
    have HVe := Lib.hid (show lZ (cnR N xs (dgL ch) N).1 N = lZ V N by rw [hst])
    clear hst
    go_upto_region 19 with fail
    clear z0
    go_loopw [16] (fun s wr => ∃ i : Nat, i ≤ N ∧ s = .int .i64 i ∧ (∀ m, m < i → K (m + 1) = true) ∧ wr = wa) (fun s _ => N - (intOf s).toNat)
    case atStart => exact ⟨0, Nat.zero_le _, rfl, fun m hm => by omega, rfl⟩
    case round =>
     obtain ⟨i, hi, rfl, hal, hwr⟩ := hrel
     subst hwr
     obtain ⟨wa, hwa⟩ : ∃ V, V = wr := ⟨_, rfl⟩
     subst hwa
     have Hal := Lib.hid hal
     clear hal
     have z0 : wa.cell? ⟨w.heap.size, 0, none⟩ = some (.int .i64 N) := cell_of_row _ (w.heap.size) 0 _ _ _ HBz.out
     by_cases hlt : i < N
     ·have hti : decide ((i : Int) < (N : Int)) = true := by simp; omega
      obtain ⟨kb, hkb⟩ : ∃ b, K (i + 1) = b := ⟨_, rfl⟩
      have v1 : wa.cell? ⟨gk, i, none⟩ = some (.bool kb) := by rw [← hkb]; exact row_at HBk.out (lB_at K hlt)
      have k0 : (i : Int) < N := by omega
      have k1 : (0 : Int) ≤ (i : Int) := by omega
      cases kb with
      | false =>
       have HNo := Lib.hid (show ¬ CorOk N xs ch from fun q => by have := (HCo.out.1 q).1 i hlt; rw [hkb] at this; cases this)
       clear hkb
       go_wp2_with fail
       go_ret2
       exact ⟨⟨_, .inr ⟨rfl, HNo.out⟩⟩, HW.out⟩
      | true =>
       have HN2 := Lib.hid (show ∀ m, m < i + 1 → K (m + 1) = true from fun m hm => by
        by_cases e : m = i
        ·subst e; exact hkb
        ·exact Hal.out m (by omega))
       clear hkb
       go_wp2_with fail
       go_roundw
       case rel => exact ⟨i + 1, by omega, by go_num, HN2.out, trivial⟩
       case measure => simp [intOf]; omega
     ·have hti : decide ((i : Int) < (N : Int)) = false := by simp; omega
      have HAl := Lib.hid (show ∀ m, m < N → K (m + 1) = true from fun m hm => Hal.out m (by omega))
      have z1 : wa.cell? ⟨w.heap.size, 1, none⟩ = some (.slice ao xs.length cap) := cell_of_row _ (w.heap.size) 1 _ _ _ HBz.out
      have HRl := Lib.hid (rl_row (by omega) HBv.out)
      have HbB := Lib.hid (show ∀ m, m < N → -1099511627776 ≤ gi (lZ V N) m ∧ gi (lZ V N) m ≤ 1099511627776 from fun m hm => by
       rw [lZ_at V hm]; have := HKb.out m hm (HAl.out m hm); omega)
      skip
      go_wp2_with fail
      refine (ref_closed23 N _ (.slice (some ⟨gv, 0, none⟩) N N) xs (lZ V N) _ (Hv.out.keepb HW.out) HRl.out hok (lZ_len V N) HbB.out).mono ?_
      rintro e w3 ⟨he, hb⟩
      have HW3 := Lib.hid (bt HW.out hb)
      have HRl3 := Lib.hid (HRl.out.keepb hb)
      clear hb z0 z1
      rcases he with ⟨rfl, hp⟩ | ⟨rfl, hp⟩
      ·have HY := Lib.hid (HCo.out.2 ⟨HAl.out, hp⟩)
       clear hp
       go_wp2_with fail
       go_ret2
       exact ⟨⟨_, .inl ⟨rfl, HY.out, by rw [HVe.out]; exact HRl3.out⟩⟩, HW3.out⟩
      ·have HY := Lib.hid (show ¬ CorOk N xs ch from fun q => hp (HCo.out.1 q).2)
       clear hp
       go_wp2_with fail
       go_ret2
       exact ⟨⟨_, .inr ⟨rfl, HY.out⟩⟩, HW3.out⟩
   have htr : decide ((r : Int) < (N : Int)) = true := by simp; omega
   go_upto_region 5 with fail
   clear z0
   go_wp2_with fail
   go_loopw [9] (fun s wr => ∃ k : Nat, k ≤ N ∧ s = .int .i64 ((k : Int) + 1) ∧ wr.heap[w.heap.size]? = some (.cells #[.int .i64 N, .slice ao xs.length cap] 32 (0, 0)) ∧ wr.heap[gv]? = some (.cells (lI (cnI N xs (dgL ch) (cnR N xs (dgL ch) r) k).1 N).toArray 2 (0, 0)) ∧ wr.heap[gk]? = some (.cells (lB (cnI N xs (dgL ch) (cnR N xs (dgL ch) r) k).2 N).toArray 4 (0, 0)) ∧ Below w.heap.size w wr) (fun s _ => N + 1 - (intOf s).toNat)
   case atStart => exact ⟨0, Nat.zero_le _, rfl, HBz.out, HBv.out, HBk.out, HW.out⟩
   case round =>
    clear HBz HBv HBk HW
    obtain ⟨k, hk, rfl, h1, h2, h3, h4⟩ := hrel
    have HBz := Lib.hid h1
    have HBv := Lib.hid h2
    have HBk := Lib.hid h3
    have HW := Lib.hid h4
    clear h1 h2 h3 h4
    obtain ⟨wb, hwb⟩ : ∃ V, V = wr := ⟨_, rfl⟩
    subst hwb
    have z0 : wb.cell? ⟨w.heap.size, 0, none⟩ = some (.int .i64 N) := cell_of_row _ (w.heap.size) 0 _ _ _ HBz.out
    by_cases hkN : k < N
    rotate_left
    ·have htk : decide ((k : Int) + 1 ≤ (N : Int)) = false := by simp; omega
     obtain rfl : k = N := by omega
     go_wp2_with fail
     go_roundw
     case rel => exact ⟨r + 1, by omega, by go_num, HBz.out, HBv.out, HBk.out, HW.out⟩
     case measure => simp [intOf]; omega
    have htk : decide ((k : Int) + 1 ≤ (N : Int)) = true := by simp; omega
    obtain ⟨bc, oc, rfl, hbc, hcc⟩ := H0c.out (by have := Hch.out.1; omega)
    obtain ⟨d, hd⟩ : ∃ d, dgL ch (k + 1) = d := ⟨_, rfl⟩
    have hdi : gi ch k = (d : Int) := by
     have m := Hch.out.2 (gi ch k) (by rw [gi_of (by have := Hch.out.1; omega)]; exact List.getElem_mem _)
     rw [← hd]; unfold dgL; rw [show k + 1 - 1 = k by omega]; omega
    have c0 : wb.cell? ⟨bc, oc + k, none⟩ = some (.int .i64 (d : Int)) := by
     have h := ((bcell HW.out).1 bc (oc + k) hbc).trans (hcc k (by have := Hch.out.1; omega))
     rw [hdi] at h
     exact h
    have k0 : (k : Int) < ch.length := by have := Hch.out.1; omega
    have k1 : (0 : Int) ≤ (k : Int) := by omega
    have Hd := Lib.hid hd
    clear hcc hdi hd
    go_upto_region 8 with fail
    have HwK := Lib.hid (show IntKind.i64.wrap (k : Int) = (k : Int) from wr_id (by omega) (by omega))
    have HwN := Lib.hid (show IntKind.i64.wrap ((N : Int) + 1) = (N : Int) + 1 from wr_id (by omega) (by omega))
    have hNne : ¬ ((N : Int) + 1 = 0) := by omega
    go_cut [10] (fun s wx => s = .int .i64 ((d % (N + 1) : Nat) : Int) ∧ wx = wb.drew)
    case first =>
     refine wp_region_noPanic ?_
     refine wp_region_held_drew (S := (fun w' => w'.cell? ⟨w.heap.size, 0, none⟩ = some (.int .i64 N) ∧ w'.cell? ⟨bc, oc + k, none⟩ = some (.int .i64 (d : Int)))) (by kernel_rfl) ⟨z0, c0⟩ (fun hHeld => ?_)
     refine wpAnyH_take (i := 0) (v := ?_) rfl (by kernel_rfl) (by kernel_rfl) (by kernel_rfl) (fun _ _ _ h => h) (Or.inl ⟨by rfl, ?_⟩) (by assumption) ?_
     rotate_left
     ·intro w hSw; (try dsimp only at hSw); go_simp; (try with_reducible rfl)
     try simp only [Act.put, List.getElem_toArray, List.getElem_cons_zero, List.setIfInBounds_toArray, List.set_cons_zero, List.set_cons_succ]
     refine wpAnyH_take (i := 1) (v := ?_) rfl (by kernel_rfl) (by kernel_rfl) (by kernel_rfl) (fun _ _ _ h => h) (Or.inl ⟨by rfl, ?_⟩) (by assumption) ?_
     rotate_left
     ·intro w hSw; (try dsimp only at hSw); go_simp; (try with_reducible rfl)
     try simp only [Act.put, List.getElem_toArray, List.getElem_cons_zero, List.getElem_cons_succ, List.setIfInBounds_toArray, List.set_cons_zero, List.set_cons_succ]
     refine wpAnyH_take (i := 2) (v := ?_) rfl (by kernel_rfl) (by kernel_rfl) (by kernel_rfl) (fun _ _ _ h => h) (Or.inl ⟨by rfl, ?_⟩) (by assumption) ?_
     rotate_left
     ·intro w hSw; (try dsimp only at hSw); go_simp; (try with_reducible rfl)
     try simp only [Act.put, List.getElem_toArray, List.getElem_cons_zero, List.getElem_cons_succ, List.setIfInBounds_toArray, List.set_cons_zero, List.set_cons_succ]
     try simp only [HwK.out, HwN.out]
     refine wpAnyH_take (i := 3) (v := ?_) rfl (by kernel_rfl) (by kernel_rfl) (by kernel_rfl) (fun _ _ _ h => h) (Or.inl ⟨by rfl, ?_⟩) (by assumption) ?_
     rotate_left
     ·intro w hSw; (try dsimp only at hSw); go_simp; (try with_reducible rfl)
     try simp only [Act.put, List.getElem_toArray, List.getElem_cons_zero, List.getElem_cons_succ, List.setIfInBounds_toArray, List.set_cons_zero, List.set_cons_succ]
     refine wpAnyH_take (i := 4) (v := ?_) rfl (by kernel_rfl) (by kernel_rfl) (by kernel_rfl) (fun _ _ _ h => h) (Or.inl ⟨by rfl, ?_⟩) (by assumption) ?_
     rotate_left
     ·intro w hSw; (try dsimp only at hSw); go_simp; (try with_reducible rfl)
     try simp only [Act.put, List.getElem_toArray, List.getElem_cons_zero, List.getElem_cons_succ, List.setIfInBounds_toArray, List.set_cons_zero, List.set_cons_succ]
     refine wpAnyH_take (i := 5) (v := ?_) rfl (by kernel_rfl) (by kernel_rfl) (by kernel_rfl) (fun _ _ _ h => h) (Or.inl ⟨by rfl, ?_⟩) (by assumption) ?_
     rotate_left
     ·intro w hSw; (try dsimp only at hSw); go_simp; (try with_reducible rfl)
     try simp only [Act.put, List.getElem_toArray, List.getElem_cons_zero, List.getElem_cons_succ, List.setIfInBounds_toArray, List.set_cons_zero, List.set_cons_succ]
     refine wpAnyH_take (i := 6) (v := ?_) rfl (by kernel_rfl) (by kernel_rfl) (by kernel_rfl) (fun _ _ _ h => h) (Or.inl ⟨by rfl, ?_⟩) (by assumption) ?_
     rotate_left
     ·intro w hSw; (try dsimp only at hSw); go_simp; (try with_reducible rfl)
     try simp only [Act.put, List.getElem_toArray, List.getElem_cons_zero, List.getElem_cons_succ, List.setIfInBounds_toArray, List.set_cons_zero, List.set_cons_succ]
     refine wpAnyH_take (i := 7) (v := ?_) rfl (by kernel_rfl) (by kernel_rfl) (by kernel_rfl) (fun _ _ _ h => h) (Or.inl ⟨by rfl, ?_⟩) (by assumption) ?_
     rotate_left
     ·intro w hSw; (try dsimp only at hSw); go_simp; (try with_reducible rfl)
     try simp only [Act.put, List.getElem_toArray, List.getElem_cons_zero, List.getElem_cons_succ, List.setIfInBounds_toArray, List.set_cons_zero, List.set_cons_succ]
     try simp only [HwK.out, HwN.out]
     refine wpAnyH_take (i := 8) (v := ?_) rfl (by kernel_rfl) (by kernel_rfl) (by kernel_rfl) (fun _ _ _ h => h) (Or.inl ⟨by rfl, ?_⟩) (by assumption) ?_
     rotate_left
     ·intro w hSw; (try dsimp only at hSw); go_simp; (try with_reducible rfl)
     try simp only [Act.put, List.getElem_toArray, List.getElem_cons_zero, List.getElem_cons_succ, List.setIfInBounds_toArray, List.set_cons_zero, List.set_cons_succ]
     try simp only [HwK.out, HwN.out]
     refine wpAnyH_take (i := 9) (v := ?_) rfl (by kernel_rfl) (by kernel_rfl) (by kernel_rfl) (fun _ _ _ h => h) (Or.inl ⟨by rfl, ?_⟩) (by assumption) ?_
     rotate_left
     ·intro w hSw; (try dsimp only at hSw); go_simp; (try with_reducible rfl)
     try simp only [Act.put, List.getElem_toArray, List.getElem_cons_zero, List.getElem_cons_succ, List.setIfInBounds_toArray, List.set_cons_zero, List.set_cons_succ]
     refine wpAnyH_done (by kernel_rfl) ?_ _
     refine NoPanic.normal ?_
     go_wp2_with fail
     go_meet
     exact ⟨by congr 1, rfl⟩
    case rest =>
     obtain ⟨rfl, hwc⟩ := hcut
     subst hwc
     have h1 := HBz.out
     have h2 := HBv.out
     have h3 := HBk.out
     have h4 := HW.out
     have h5 : wb.drew.cell? ⟨w.heap.size, 0, none⟩ = some (.int .i64 N) := z0
     have h6 : wb.drew.cell? ⟨bc, oc + k, none⟩ = some (.int .i64 (d : Int)) := c0
     clear z0 c0 HBz HBv HBk HW
     have h1 : wb.drew.heap[w.heap.size]? = some (.cells #[.int .i64 N, .slice ao xs.length cap] 32 (0, 0)) := h1
     have h2 : wb.drew.heap[gv]? = some (.cells (lI (cnI N xs (dgL ch) (cnR N xs (dgL ch) r) k).1 N).toArray 2 (0, 0)) := h2
     have h3 : wb.drew.heap[gk]? = some (.cells (lB (cnI N xs (dgL ch) (cnR N xs (dgL ch) r) k).2 N).toArray 4 (0, 0)) := h3
     have h4 : Below w.heap.size w wb.drew := h4.drew
     generalize wb.drew = wb at *
     have HBz := Lib.hid h1
     have HBv := Lib.hid h2
     have HBk := Lib.hid h3
     have HW := Lib.hid h4
     have z0 := h5
     have c0 := h6
     clear h1 h2 h3 h4 h5 h6
     obtain ⟨j, hj⟩ : ∃ j, d % (N + 1) = j := ⟨_, rfl⟩
     have hjN : j ≤ N := by have := Nat.mod_lt d (show 0 < N + 1 by omega); omega
     obtain ⟨V, K, hst⟩ : ∃ V K, cnI N xs (dgL ch) (cnR N xs (dgL ch) r) k = (V, K) := ⟨_, _, rfl⟩
     have HKb := Lib.hid (show ∀ m, m + 1 ≤ N → K (m + 1) = true → -1073741824 ≤ V (m + 1) ∧ V (m + 1) ≤ 1073741824 from fun m hm hk => by
      have q := Kb.inner (dg := dgL ch) (by omega) Hnear.out (Kb.all (dg := dgL ch) hN Hnear.out r (by omega)) k (by omega)
      rw [hst] at q
      have q2 : -((r : Int) * 201326592 + (k : Int) * 67108864) ≤ V (m + 1) ∧ V (m + 1) ≤ (r : Int) * 201326592 + (k : Int) * 67108864 := q (m + 1) (by omega) hm hk
      omega)
     have HSk := Lib.hid (show (j = k + 1 ∨ (0 < j ∧ K j = false)) → cnI N xs (dgL ch) (cnR N xs (dgL ch) r) (k + 1) = (V, K) from fun q => by
      show cnStep N xs (dgL ch) (cnI N xs (dgL ch) (cnR N xs (dgL ch) r) k) (k + 1) = _
      rw [hst]; unfold cnStep; rw [Hd.out, hj, if_pos q])
     have HUp := Lib.hid (show ¬ (j = k + 1 ∨ (0 < j ∧ K j = false)) → d ≤ N → cnI N xs (dgL ch) (cnR N xs (dgL ch) r) (k + 1) = (upI V (k + 1) ((if 0 < j then V j else 0) + bF N xs (k + 1) j), upB K (k + 1) (fnB N xs (k + 1) j)) from fun q q2 => by
      show cnStep N xs (dgL ch) (cnI N xs (dgL ch) (cnR N xs (dgL ch) r) k) (k + 1) = _
      rw [hst]; unfold cnStep; rw [Hd.out, hj, if_neg q, if_pos q2])
     have HDn := Lib.hid (show ¬ (j = k + 1 ∨ (0 < j ∧ K j = false)) → ¬ d ≤ N → cnI N xs (dgL ch) (cnR N xs (dgL ch) r) (k + 1) = (upI V (k + 1) ((if 0 < j then V j else 0) - bF N xs j (k + 1)), upB K (k + 1) (fnB N xs j (k + 1))) from fun q q2 => by
      show cnStep N xs (dgL ch) (cnI N xs (dgL ch) (cnR N xs (dgL ch) r) k) (k + 1) = _
      rw [hst]; unfold cnStep; rw [Hd.out, hj, if_neg q, if_neg q2])
     rw [hst] at HBv HBk
     rw [hj]
     clear hst hj hNne
     by_cases hjk : j = k + 1
     ·have hjb : (((j : Nat) : Int) == (k : Int) + 1) = true := by simp; omega
      have HE := Lib.hid (HSk.out (.inl hjk))
      have Hjk := Lib.hid hjk
      clear hjk z0 c0
      go_wp2_with fail
      go_roundw
      case rel => exact ⟨k + 1, by omega, by go_num, HBz.out, by rw [HE.out]; exact HBv.out, by rw [HE.out]; exact HBk.out, HW.out⟩
      case measure => simp [intOf]; omega
     have Hjk := Lib.hid hjk
     rcases Nat.eq_zero_or_pos j with hj0 | hj0
     ·subst hj0
      have hjb : ((0 : Int) == (k : Int) + 1) = false := by simp; omega
      clear hjk
      have Hns := Lib.hid (show ¬ (0 = k + 1 ∨ (0 < 0 ∧ K 0 = false)) by omega)
      rw [if_neg (show ¬ 0 < 0 by omega)] at HUp HDn
      try rw [Int.natCast_zero]
      try simp only [Int.ofNat_zero, Int.natCast_zero]
      go_upto_region 13 with fail
      go_cut [73] (fun s wx => s = .bool (decide ((d : Int) ≤ (N : Int))) ∧ wx = wb.drew)
      case first =>
       refine wp_region_noPanic ?_
       refine wp_region_held_drew (S := (fun w' => w'.cell? ⟨w.heap.size, 0, none⟩ = some (.int .i64 N) ∧ w'.cell? ⟨bc, oc + k, none⟩ = some (.int .i64 (d : Int)))) (by kernel_rfl) ⟨z0, c0⟩ (fun hHeld => ?_)
       refine wpAnyH_take (i := 0) (v := ?_) rfl (by kernel_rfl) (by kernel_rfl) (by kernel_rfl) (fun _ _ _ h => h) (Or.inl ⟨by rfl, ?_⟩) (by assumption) ?_
       rotate_left
       ·intro w hSw; (try dsimp only at hSw); go_simp; (try with_reducible rfl)
       try simp only [Act.put, List.getElem_toArray, List.getElem_cons_zero, List.setIfInBounds_toArray, List.set_cons_zero, List.set_cons_succ]
       refine wpAnyH_take (i := 1) (v := ?_) rfl (by kernel_rfl) (by kernel_rfl) (by kernel_rfl) (fun _ _ _ h => h) (Or.inl ⟨by rfl, ?_⟩) (by assumption) ?_
       rotate_left
       ·intro w hSw; (try dsimp only at hSw); go_simp; (try with_reducible rfl)
       try simp only [Act.put, List.getElem_toArray, List.getElem_cons_zero, List.getElem_cons_succ, List.setIfInBounds_toArray, List.set_cons_zero, List.set_cons_succ]
       refine wpAnyH_take (i := 2) (v := ?_) rfl (by kernel_rfl) (by kernel_rfl) (by kernel_rfl) (fun _ _ _ h => h) (Or.inl ⟨by rfl, ?_⟩) (by assumption) ?_
       rotate_left
       ·intro w hSw; (try dsimp only at hSw); go_simp; (try with_reducible rfl)
       try simp only [Act.put, List.getElem_toArray, List.getElem_cons_zero, List.getElem_cons_succ, List.setIfInBounds_toArray, List.set_cons_zero, List.set_cons_succ]
       try simp only [HwK.out, HwN.out]
       refine wpAnyH_take (i := 3) (v := ?_) rfl (by kernel_rfl) (by kernel_rfl) (by kernel_rfl) (fun _ _ _ h => h) (Or.inl ⟨by rfl, ?_⟩) (by assumption) ?_
       rotate_left
       ·intro w hSw; (try dsimp only at hSw); go_simp; (try with_reducible rfl)
       try simp only [Act.put, List.getElem_toArray, List.getElem_cons_zero, List.getElem_cons_succ, List.setIfInBounds_toArray, List.set_cons_zero, List.set_cons_succ]
       refine wpAnyH_take (i := 4) (v := ?_) rfl (by kernel_rfl) (by kernel_rfl) (by kernel_rfl) (fun _ _ _ h => h) (Or.inl ⟨by rfl, ?_⟩) (by assumption) ?_
       rotate_left
       ·intro w hSw; (try dsimp only at hSw); go_simp; (try with_reducible rfl)
       try simp only [Act.put, List.getElem_toArray, List.getElem_cons_zero, List.getElem_cons_succ, List.setIfInBounds_toArray, List.set_cons_zero, List.set_cons_succ]
       refine wpAnyH_take (i := 5) (v := ?_) rfl (by kernel_rfl) (by kernel_rfl) (by kernel_rfl) (fun _ _ _ h => h) (Or.inl ⟨by rfl, ?_⟩) (by assumption) ?_
       rotate_left
       ·intro w hSw; (try dsimp only at hSw); go_simp; (try with_reducible rfl)
       try simp only [Act.put, List.getElem_toArray, List.getElem_cons_zero, List.getElem_cons_succ, List.setIfInBounds_toArray, List.set_cons_zero, List.set_cons_succ]
       refine wpAnyH_take (i := 6) (v := ?_) rfl (by kernel_rfl) (by kernel_rfl) (by kernel_rfl) (fun _ _ _ h => h) (Or.inl ⟨by rfl, ?_⟩) (by assumption) ?_
       rotate_left
       ·intro w hSw; (try dsimp only at hSw); go_simp; (try with_reducible rfl)
       try simp only [Act.put, List.getElem_toArray, List.getElem_cons_zero, List.getElem_cons_succ, List.setIfInBounds_toArray, List.set_cons_zero, List.set_cons_succ]
       refine wpAnyH_take (i := 7) (v := ?_) rfl (by kernel_rfl) (by kernel_rfl) (by kernel_rfl) (fun _ _ _ h => h) (Or.inl ⟨by rfl, ?_⟩) (by assumption) ?_
       rotate_left
       ·intro w hSw; (try dsimp only at hSw); go_simp; (try with_reducible rfl)
       try simp only [Act.put, List.getElem_toArray, List.getElem_cons_zero, List.getElem_cons_succ, List.setIfInBounds_toArray, List.set_cons_zero, List.set_cons_succ]
       refine wpAnyH_done (by kernel_rfl) ?_ _
       refine NoPanic.normal ?_
       go_wp2_with fail
       go_meet
       exact ⟨by first | rfl | simp, rfl⟩
      case rest =>
       obtain ⟨rfl, hwc⟩ := hcut
       subst hwc
       have h1 : wb.drew.heap[w.heap.size]? = some (.cells #[.int .i64 N, .slice ao xs.length cap] 32 (0, 0)) := HBz.out
       have h2 : wb.drew.heap[gv]? = some (.cells (lI V N).toArray 2 (0, 0)) := HBv.out
       have h3 : wb.drew.heap[gk]? = some (.cells (lB K N).toArray 4 (0, 0)) := HBk.out
       have h4 : Below w.heap.size w wb.drew := HW.out.drew
       clear z0 c0 HBz HBv HBk HW
       try clear v0 v1
       generalize wb.drew = wb at *
       have HBz := Lib.hid h1
       have HBv := Lib.hid h2
       have HBk := Lib.hid h3
       have HW := Lib.hid h4
       clear h1 h2 h3 h4
       have z0 : wb.cell? ⟨w.heap.size, 0, none⟩ = some (.int .i64 N) := cell_of_row _ (w.heap.size) 0 _ _ _ HBz.out
       have z1 : wb.cell? ⟨w.heap.size, 1, none⟩ = some (.slice ao xs.length cap) := cell_of_row _ (w.heap.size) 1 _ _ _ HBz.out
       by_cases hdN : d ≤ N
       ·skip
        have hdb : decide ((d : Int) ≤ (N : Int)) = true := by simp; omega
        go_wp2_with fail
        refine (ref_bn N (k + 1) 0 ((k : Int) + 1) (0 : Int) _ xs _ (Hv.out.keepb HW.out) hok (by omega) (by omega) (by omega) (by omega)).mono ?_
        rintro e w3 ⟨rfl, hb⟩
        clear z0 z1
        replace HBz := Lib.hid (hp_keep4 HBz.out hb)
        replace HBv := Lib.hid (hp_keep4 HBv.out hb)
        replace HBk := Lib.hid (hp_keep4 HBk.out hb)
        replace HW := Lib.hid (bt HW.out hb)
        clear hb
        obtain ⟨c, hc⟩ : ∃ c, bF N xs (k + 1) 0 = c := ⟨_, rfl⟩
        obtain ⟨is, his⟩ : ∃ b, fnB N xs (k + 1) 0 = b := ⟨_, rfl⟩
        have hcb : -2147483648 ≤ c ∧ c ≤ 1099511627776 := by
         have q := ent_bd hok (i := (k + 1)) (j := 0) (by omega) (by omega)
         rw [← hc]; unfold bF; omega
        have HE := Lib.hid (HUp.out Hns.out hdN)
        rw [hc, his] at HE ⊢
        have q := HE.out
        rw [Int.zero_add] at q
        clear HE
        have HE := Lib.hid q
        clear q
        clear hc his
        have Hdn := Lib.hid hdN
        clear hdN
        have hfv := row_fro (k := k) HBv.out
        have hfk := row_fro (k := k) HBk.out
        have hl := hp_lt3 HBz.out
        have Hq1 := Lib.hid (show (w3.setCell ⟨gv, k, none⟩ (.int .i64 c)).heap[gv]? = _ from row_set (k := k) (v := .int .i64 c) HBv.out)
        have Hq2 := Lib.hid (show (w3.setCell ⟨gv, k, none⟩ (.int .i64 c)).heap[gk]? = _ from (st1k_ne (w := w3) (b := gv) (i := k) (c := gk) (.int .i64 c) (fun e => hgvk e.symm)).trans HBk.out)
        have Hq3 := Lib.hid (show (w3.setCell ⟨gv, k, none⟩ (.int .i64 c)).heap[w.heap.size]? = _ from (st1k_ne (w := w3) (b := gv) (i := k) (c := w.heap.size) (.int .i64 c) (by omega)).trans HBz.out)
        have Hq4 := Lib.hid (HW.out.setCell (p := ⟨gv, k, none⟩) (by show w.heap.size ≤ gv; omega) (.int .i64 c))
        have hfk2 : (w3.setCell ⟨gv, k, none⟩ (.int .i64 c)).frozen? ⟨gk, k, none⟩ = false := row_fro (k := k) Hq2.out
        have hcv : w3.cell? ⟨gv, k, none⟩ = some (.int .i64 (V (k + 1))) := row_at HBv.out (lI_at V hkN)
        have hck : w3.cell? ⟨gk, k, none⟩ = some (.bool (K (k + 1))) := row_at HBk.out (lB_at K hkN)
        have hck2 : (w3.setCell ⟨gv, k, none⟩ (.int .i64 c)).cell? ⟨gk, k, none⟩ = some (.bool (K (k + 1))) := row_at Hq2.out (lB_at K hkN)
        have kN0 : (k : Int) < N := by omega
        have HR1 := Lib.hid (show ((w3.setCell ⟨gv, k, none⟩ (.int .i64 c)).setCell ⟨gk, k, none⟩ (.bool is)).heap[gv]? = some (.cells (lI (upI V (k + 1) c) N).toArray 2 (0, 0)) by
         rw [← lI_set]; exact (st1k_ne (b := gk) (i := k) (c := gv) (.bool is) hgvk).trans Hq1.out)
        have HR2 := Lib.hid (show ((w3.setCell ⟨gv, k, none⟩ (.int .i64 c)).setCell ⟨gk, k, none⟩ (.bool is)).heap[gk]? = some (.cells (lB (upB K (k + 1) is) N).toArray 4 (0, 0)) by
         rw [← lB_set]; exact row_set (k := k) (v := .bool is) Hq2.out)
        have HR3 := Lib.hid (show ((w3.setCell ⟨gv, k, none⟩ (.int .i64 c)).setCell ⟨gk, k, none⟩ (.bool is)).heap[w.heap.size]? = some (.cells #[.int .i64 N, .slice ao xs.length cap] 32 (0, 0)) from (st1k_ne (b := gk) (i := k) (c := w.heap.size) (.bool is) (by omega)).trans Hq3.out)
        have HR4 := Lib.hid (Hq4.out.setCell (p := ⟨gk, k, none⟩) (by show w.heap.size ≤ gk; omega) (.bool is))
        clear HBz HBv HBk HW Hq1 Hq2 Hq3 Hq4
        go_wp2_with fail
        go_roundw
        case rel => exact ⟨k + 1, by omega, by go_num, HR3.out, by rw [HE.out]; exact HR1.out, by rw [HE.out]; exact HR2.out, HR4.out⟩
        case measure => simp [intOf]; omega
       ·skip
        have hdb : decide ((d : Int) ≤ (N : Int)) = false := by simp; omega
        go_wp2_with fail
        refine (ref_bn N 0 (k + 1) (0 : Int) ((k : Int) + 1) _ xs _ (Hv.out.keepb HW.out) hok (by omega) (by omega) (by omega) (by omega)).mono ?_
        rintro e w3 ⟨rfl, hb⟩
        clear z0 z1
        replace HBz := Lib.hid (hp_keep4 HBz.out hb)
        replace HBv := Lib.hid (hp_keep4 HBv.out hb)
        replace HBk := Lib.hid (hp_keep4 HBk.out hb)
        replace HW := Lib.hid (bt HW.out hb)
        clear hb
        obtain ⟨c, hc⟩ : ∃ c, bF N xs 0 (k + 1) = c := ⟨_, rfl⟩
        obtain ⟨is, his⟩ : ∃ b, fnB N xs 0 (k + 1) = b := ⟨_, rfl⟩
        have hcb : -2147483648 ≤ c ∧ c ≤ 1099511627776 := by
         have q := ent_bd hok (i := 0) (j := (k + 1)) (by omega) (by omega)
         rw [← hc]; unfold bF; omega
        have HE := Lib.hid (HDn.out Hns.out hdN)
        rw [hc, his] at HE ⊢
        have q := HE.out
        rw [Int.zero_sub] at q
        clear HE
        have HE := Lib.hid q
        clear q
        clear hc his
        have Hdn := Lib.hid hdN
        clear hdN
        have hfv := row_fro (k := k) HBv.out
        have hfk := row_fro (k := k) HBk.out
        have hl := hp_lt3 HBz.out
        have Hq1 := Lib.hid (show (w3.setCell ⟨gv, k, none⟩ (.int .i64 (-c))).heap[gv]? = _ from row_set (k := k) (v := .int .i64 (-c)) HBv.out)
        have Hq2 := Lib.hid (show (w3.setCell ⟨gv, k, none⟩ (.int .i64 (-c))).heap[gk]? = _ from (st1k_ne (w := w3) (b := gv) (i := k) (c := gk) (.int .i64 (-c)) (fun e => hgvk e.symm)).trans HBk.out)
        have Hq3 := Lib.hid (show (w3.setCell ⟨gv, k, none⟩ (.int .i64 (-c))).heap[w.heap.size]? = _ from (st1k_ne (w := w3) (b := gv) (i := k) (c := w.heap.size) (.int .i64 (-c)) (by omega)).trans HBz.out)
        have Hq4 := Lib.hid (HW.out.setCell (p := ⟨gv, k, none⟩) (by show w.heap.size ≤ gv; omega) (.int .i64 (-c)))
        have hfk2 : (w3.setCell ⟨gv, k, none⟩ (.int .i64 (-c))).frozen? ⟨gk, k, none⟩ = false := row_fro (k := k) Hq2.out
        have hcv : w3.cell? ⟨gv, k, none⟩ = some (.int .i64 (V (k + 1))) := row_at HBv.out (lI_at V hkN)
        have hck : w3.cell? ⟨gk, k, none⟩ = some (.bool (K (k + 1))) := row_at HBk.out (lB_at K hkN)
        have hck2 : (w3.setCell ⟨gv, k, none⟩ (.int .i64 (-c))).cell? ⟨gk, k, none⟩ = some (.bool (K (k + 1))) := row_at Hq2.out (lB_at K hkN)
        have kN0 : (k : Int) < N := by omega
        have HR1 := Lib.hid (show ((w3.setCell ⟨gv, k, none⟩ (.int .i64 (-c))).setCell ⟨gk, k, none⟩ (.bool is)).heap[gv]? = some (.cells (lI (upI V (k + 1) (-c)) N).toArray 2 (0, 0)) by
         rw [← lI_set]; exact (st1k_ne (b := gk) (i := k) (c := gv) (.bool is) hgvk).trans Hq1.out)
        have HR2 := Lib.hid (show ((w3.setCell ⟨gv, k, none⟩ (.int .i64 (-c))).setCell ⟨gk, k, none⟩ (.bool is)).heap[gk]? = some (.cells (lB (upB K (k + 1) is) N).toArray 4 (0, 0)) by
         rw [← lB_set]; exact row_set (k := k) (v := .bool is) Hq2.out)
        have HR3 := Lib.hid (show ((w3.setCell ⟨gv, k, none⟩ (.int .i64 (-c))).setCell ⟨gk, k, none⟩ (.bool is)).heap[w.heap.size]? = some (.cells #[.int .i64 N, .slice ao xs.length cap] 32 (0, 0)) from (st1k_ne (b := gk) (i := k) (c := w.heap.size) (.bool is) (by omega)).trans Hq3.out)
        have HR4 := Lib.hid (Hq4.out.setCell (p := ⟨gk, k, none⟩) (by show w.heap.size ≤ gk; omega) (.bool is))
        clear HBz HBv HBk HW Hq1 Hq2 Hq3 Hq4
        go_wp2_with fail
        go_roundw
        case rel => exact ⟨k + 1, by omega, by go_num, HR3.out, by rw [HE.out]; exact HR1.out, by rw [HE.out]; exact HR2.out, HR4.out⟩
        case measure => simp [intOf]; omega
     ·obtain ⟨m, rfl⟩ : ∃ m, j = m + 1 := ⟨j - 1, by omega⟩
      have hjb : ((m : Int) + 1 == (k : Int) + 1) = false := by simp; omega
      have hm0 : (0 : Int) < (m : Int) + 1 := by omega
      have hm1 : decide ((0 : Int) < (m : Int) + 1) = true := by simpa using hm0
      have mN : (m : Int) < N := by omega
      have m0 : (0 : Int) ≤ (m : Int) := by omega
      clear hjk
      obtain ⟨kb, hkb⟩ : ∃ b, K (m + 1) = b := ⟨_, rfl⟩
      have v1 : wb.cell? ⟨gk, m, none⟩ = some (.bool kb) := by rw [← hkb]; exact row_at HBk.out (lB_at K (by omega))
      cases kb with
      | false =>
       have HE := Lib.hid (HSk.out (.inr ⟨by omega, hkb⟩))
       clear hkb
       go_wp2_with fail
       go_roundw
       case rel => exact ⟨k + 1, by omega, by go_num, HBz.out, by rw [HE.out]; exact HBv.out, by rw [HE.out]; exact HBk.out, HW.out⟩
       case measure => simp [intOf]; omega
      | true =>
       obtain ⟨x, hx⟩ : ∃ x, V (m + 1) = x := ⟨_, rfl⟩
       have hxb := HKb.out m hjN hkb
       rw [hx] at hxb
       have v0 : wb.cell? ⟨gv, m, none⟩ = some (.int .i64 x) := by rw [← hx]; exact row_at HBv.out (lI_at V (by omega))
       have Hns := Lib.hid (show ¬ (m + 1 = k + 1 ∨ (0 < m + 1 ∧ K (m + 1) = false)) by rw [hkb]; intro q; rcases q with q | q; exact Hjk.out q; cases q.2)
       rw [if_pos (show 0 < m + 1 by omega), hx] at HUp HDn
       clear hkb hx
       go_upto_region 13 with fail
       go_cut [73] (fun s wx => s = .bool (decide ((d : Int) ≤ (N : Int))) ∧ wx = wb.drew)
       case first =>
        refine wp_region_noPanic ?_
        refine wp_region_held_drew (S := (fun w' => w'.cell? ⟨w.heap.size, 0, none⟩ = some (.int .i64 N) ∧ w'.cell? ⟨bc, oc + k, none⟩ = some (.int .i64 (d : Int)))) (by kernel_rfl) ⟨z0, c0⟩ (fun hHeld => ?_)
        refine wpAnyH_take (i := 0) (v := ?_) rfl (by kernel_rfl) (by kernel_rfl) (by kernel_rfl) (fun _ _ _ h => h) (Or.inl ⟨by rfl, ?_⟩) (by assumption) ?_
        rotate_left
        ·intro w hSw; (try dsimp only at hSw); go_simp; (try with_reducible rfl)
        try simp only [Act.put, List.getElem_toArray, List.getElem_cons_zero, List.setIfInBounds_toArray, List.set_cons_zero, List.set_cons_succ]
        refine wpAnyH_take (i := 1) (v := ?_) rfl (by kernel_rfl) (by kernel_rfl) (by kernel_rfl) (fun _ _ _ h => h) (Or.inl ⟨by rfl, ?_⟩) (by assumption) ?_
        rotate_left
        ·intro w hSw; (try dsimp only at hSw); go_simp; (try with_reducible rfl)
        try simp only [Act.put, List.getElem_toArray, List.getElem_cons_zero, List.getElem_cons_succ, List.setIfInBounds_toArray, List.set_cons_zero, List.set_cons_succ]
        refine wpAnyH_take (i := 2) (v := ?_) rfl (by kernel_rfl) (by kernel_rfl) (by kernel_rfl) (fun _ _ _ h => h) (Or.inl ⟨by rfl, ?_⟩) (by assumption) ?_
        rotate_left
        ·intro w hSw; (try dsimp only at hSw); go_simp; (try with_reducible rfl)
        try simp only [Act.put, List.getElem_toArray, List.getElem_cons_zero, List.getElem_cons_succ, List.setIfInBounds_toArray, List.set_cons_zero, List.set_cons_succ]
        try simp only [HwK.out, HwN.out]
        refine wpAnyH_take (i := 3) (v := ?_) rfl (by kernel_rfl) (by kernel_rfl) (by kernel_rfl) (fun _ _ _ h => h) (Or.inl ⟨by rfl, ?_⟩) (by assumption) ?_
        rotate_left
        ·intro w hSw; (try dsimp only at hSw); go_simp; (try with_reducible rfl)
        try simp only [Act.put, List.getElem_toArray, List.getElem_cons_zero, List.getElem_cons_succ, List.setIfInBounds_toArray, List.set_cons_zero, List.set_cons_succ]
        refine wpAnyH_take (i := 4) (v := ?_) rfl (by kernel_rfl) (by kernel_rfl) (by kernel_rfl) (fun _ _ _ h => h) (Or.inl ⟨by rfl, ?_⟩) (by assumption) ?_
        rotate_left
        ·intro w hSw; (try dsimp only at hSw); go_simp; (try with_reducible rfl)
        try simp only [Act.put, List.getElem_toArray, List.getElem_cons_zero, List.getElem_cons_succ, List.setIfInBounds_toArray, List.set_cons_zero, List.set_cons_succ]
        refine wpAnyH_take (i := 5) (v := ?_) rfl (by kernel_rfl) (by kernel_rfl) (by kernel_rfl) (fun _ _ _ h => h) (Or.inl ⟨by rfl, ?_⟩) (by assumption) ?_
        rotate_left
        ·intro w hSw; (try dsimp only at hSw); go_simp; (try with_reducible rfl)
        try simp only [Act.put, List.getElem_toArray, List.getElem_cons_zero, List.getElem_cons_succ, List.setIfInBounds_toArray, List.set_cons_zero, List.set_cons_succ]
        refine wpAnyH_take (i := 6) (v := ?_) rfl (by kernel_rfl) (by kernel_rfl) (by kernel_rfl) (fun _ _ _ h => h) (Or.inl ⟨by rfl, ?_⟩) (by assumption) ?_
        rotate_left
        ·intro w hSw; (try dsimp only at hSw); go_simp; (try with_reducible rfl)
        try simp only [Act.put, List.getElem_toArray, List.getElem_cons_zero, List.getElem_cons_succ, List.setIfInBounds_toArray, List.set_cons_zero, List.set_cons_succ]
        refine wpAnyH_take (i := 7) (v := ?_) rfl (by kernel_rfl) (by kernel_rfl) (by kernel_rfl) (fun _ _ _ h => h) (Or.inl ⟨by rfl, ?_⟩) (by assumption) ?_
        rotate_left
        ·intro w hSw; (try dsimp only at hSw); go_simp; (try with_reducible rfl)
        try simp only [Act.put, List.getElem_toArray, List.getElem_cons_zero, List.getElem_cons_succ, List.setIfInBounds_toArray, List.set_cons_zero, List.set_cons_succ]
        refine wpAnyH_done (by kernel_rfl) ?_ _
        refine NoPanic.normal ?_
        go_wp2_with fail
        go_meet
        exact ⟨by first | rfl | simp, rfl⟩
       case rest =>
        obtain ⟨rfl, hwc⟩ := hcut
        subst hwc
        have h1 : wb.drew.heap[w.heap.size]? = some (.cells #[.int .i64 N, .slice ao xs.length cap] 32 (0, 0)) := HBz.out
        have h2 : wb.drew.heap[gv]? = some (.cells (lI V N).toArray 2 (0, 0)) := HBv.out
        have h3 : wb.drew.heap[gk]? = some (.cells (lB K N).toArray 4 (0, 0)) := HBk.out
        have h4 : Below w.heap.size w wb.drew := HW.out.drew
        clear z0 c0 HBz HBv HBk HW
        try clear v0 v1
        generalize wb.drew = wb at *
        have HBz := Lib.hid h1
        have HBv := Lib.hid h2
        have HBk := Lib.hid h3
        have HW := Lib.hid h4
        clear h1 h2 h3 h4
        have z0 : wb.cell? ⟨w.heap.size, 0, none⟩ = some (.int .i64 N) := cell_of_row _ (w.heap.size) 0 _ _ _ HBz.out
        have z1 : wb.cell? ⟨w.heap.size, 1, none⟩ = some (.slice ao xs.length cap) := cell_of_row _ (w.heap.size) 1 _ _ _ HBz.out
        by_cases hdN : d ≤ N
        ·skip
         have hdb : decide ((d : Int) ≤ (N : Int)) = true := by simp; omega
         go_wp2_with fail
         refine (ref_bn N (k + 1) (m + 1) ((k : Int) + 1) ((m : Int) + 1) _ xs _ (Hv.out.keepb HW.out) hok (by omega) (by omega) (by omega) (by omega)).mono ?_
         rintro e w3 ⟨rfl, hb⟩
         clear z0 z1
         replace HBz := Lib.hid (hp_keep4 HBz.out hb)
         replace HBv := Lib.hid (hp_keep4 HBv.out hb)
         replace HBk := Lib.hid (hp_keep4 HBk.out hb)
         replace HW := Lib.hid (bt HW.out hb)
         clear hb
         obtain ⟨c, hc⟩ : ∃ c, bF N xs (k + 1) (m + 1) = c := ⟨_, rfl⟩
         obtain ⟨is, his⟩ : ∃ b, fnB N xs (k + 1) (m + 1) = b := ⟨_, rfl⟩
         have hcb : -2147483648 ≤ c ∧ c ≤ 1099511627776 := by
          have q := ent_bd hok (i := (k + 1)) (j := (m + 1)) (by omega) (by omega)
          rw [← hc]; unfold bF; omega
         have HE := Lib.hid (HUp.out Hns.out hdN)
         rw [hc, his] at HE ⊢
         skip
         clear hc his
         have Hdn := Lib.hid hdN
         clear hdN
         have hfv := row_fro (k := k) HBv.out
         have hfk := row_fro (k := k) HBk.out
         have hl := hp_lt3 HBz.out
         have Hq1 := Lib.hid (show (w3.setCell ⟨gv, k, none⟩ (.int .i64 (x + c))).heap[gv]? = _ from row_set (k := k) (v := .int .i64 (x + c)) HBv.out)
         have Hq2 := Lib.hid (show (w3.setCell ⟨gv, k, none⟩ (.int .i64 (x + c))).heap[gk]? = _ from (st1k_ne (w := w3) (b := gv) (i := k) (c := gk) (.int .i64 (x + c)) (fun e => hgvk e.symm)).trans HBk.out)
         have Hq3 := Lib.hid (show (w3.setCell ⟨gv, k, none⟩ (.int .i64 (x + c))).heap[w.heap.size]? = _ from (st1k_ne (w := w3) (b := gv) (i := k) (c := w.heap.size) (.int .i64 (x + c)) (by omega)).trans HBz.out)
         have Hq4 := Lib.hid (HW.out.setCell (p := ⟨gv, k, none⟩) (by show w.heap.size ≤ gv; omega) (.int .i64 (x + c)))
         have hfk2 : (w3.setCell ⟨gv, k, none⟩ (.int .i64 (x + c))).frozen? ⟨gk, k, none⟩ = false := row_fro (k := k) Hq2.out
         have hcv : w3.cell? ⟨gv, k, none⟩ = some (.int .i64 (V (k + 1))) := row_at HBv.out (lI_at V hkN)
         have hck : w3.cell? ⟨gk, k, none⟩ = some (.bool (K (k + 1))) := row_at HBk.out (lB_at K hkN)
         have hck2 : (w3.setCell ⟨gv, k, none⟩ (.int .i64 (x + c))).cell? ⟨gk, k, none⟩ = some (.bool (K (k + 1))) := row_at Hq2.out (lB_at K hkN)
         have kN0 : (k : Int) < N := by omega
         have HR1 := Lib.hid (show ((w3.setCell ⟨gv, k, none⟩ (.int .i64 (x + c))).setCell ⟨gk, k, none⟩ (.bool is)).heap[gv]? = some (.cells (lI (upI V (k + 1) (x + c)) N).toArray 2 (0, 0)) by
          rw [← lI_set]; exact (st1k_ne (b := gk) (i := k) (c := gv) (.bool is) hgvk).trans Hq1.out)
         have HR2 := Lib.hid (show ((w3.setCell ⟨gv, k, none⟩ (.int .i64 (x + c))).setCell ⟨gk, k, none⟩ (.bool is)).heap[gk]? = some (.cells (lB (upB K (k + 1) is) N).toArray 4 (0, 0)) by
          rw [← lB_set]; exact row_set (k := k) (v := .bool is) Hq2.out)
         have HR3 := Lib.hid (show ((w3.setCell ⟨gv, k, none⟩ (.int .i64 (x + c))).setCell ⟨gk, k, none⟩ (.bool is)).heap[w.heap.size]? = some (.cells #[.int .i64 N, .slice ao xs.length cap] 32 (0, 0)) from (st1k_ne (b := gk) (i := k) (c := w.heap.size) (.bool is) (by omega)).trans Hq3.out)
         have HR4 := Lib.hid (Hq4.out.setCell (p := ⟨gk, k, none⟩) (by show w.heap.size ≤ gk; omega) (.bool is))
         clear HBz HBv HBk HW Hq1 Hq2 Hq3 Hq4
         go_wp2_with fail
         go_roundw
         case rel => exact ⟨k + 1, by omega, by go_num, HR3.out, by rw [HE.out]; exact HR1.out, by rw [HE.out]; exact HR2.out, HR4.out⟩
         case measure => simp [intOf]; omega
        ·skip
         have hdb : decide ((d : Int) ≤ (N : Int)) = false := by simp; omega
         go_wp2_with fail
         refine (ref_bn N (m + 1) (k + 1) ((m : Int) + 1) ((k : Int) + 1) _ xs _ (Hv.out.keepb HW.out) hok (by omega) (by omega) (by omega) (by omega)).mono ?_
         rintro e w3 ⟨rfl, hb⟩
         clear z0 z1
         replace HBz := Lib.hid (hp_keep4 HBz.out hb)
         replace HBv := Lib.hid (hp_keep4 HBv.out hb)
         replace HBk := Lib.hid (hp_keep4 HBk.out hb)
         replace HW := Lib.hid (bt HW.out hb)
         clear hb
         obtain ⟨c, hc⟩ : ∃ c, bF N xs (m + 1) (k + 1) = c := ⟨_, rfl⟩
         obtain ⟨is, his⟩ : ∃ b, fnB N xs (m + 1) (k + 1) = b := ⟨_, rfl⟩
         have hcb : -2147483648 ≤ c ∧ c ≤ 1099511627776 := by
          have q := ent_bd hok (i := (m + 1)) (j := (k + 1)) (by omega) (by omega)
          rw [← hc]; unfold bF; omega
         have HE := Lib.hid (HDn.out Hns.out hdN)
         rw [hc, his] at HE ⊢
         skip
         clear hc his
         have Hdn := Lib.hid hdN
         clear hdN
         have hfv := row_fro (k := k) HBv.out
         have hfk := row_fro (k := k) HBk.out
         have hl := hp_lt3 HBz.out
         have Hq1 := Lib.hid (show (w3.setCell ⟨gv, k, none⟩ (.int .i64 (x - c))).heap[gv]? = _ from row_set (k := k) (v := .int .i64 (x - c)) HBv.out)
         have Hq2 := Lib.hid (show (w3.setCell ⟨gv, k, none⟩ (.int .i64 (x - c))).heap[gk]? = _ from (st1k_ne (w := w3) (b := gv) (i := k) (c := gk) (.int .i64 (x - c)) (fun e => hgvk e.symm)).trans HBk.out)
         have Hq3 := Lib.hid (show (w3.setCell ⟨gv, k, none⟩ (.int .i64 (x - c))).heap[w.heap.size]? = _ from (st1k_ne (w := w3) (b := gv) (i := k) (c := w.heap.size) (.int .i64 (x - c)) (by omega)).trans HBz.out)
         have Hq4 := Lib.hid (HW.out.setCell (p := ⟨gv, k, none⟩) (by show w.heap.size ≤ gv; omega) (.int .i64 (x - c)))
         have hfk2 : (w3.setCell ⟨gv, k, none⟩ (.int .i64 (x - c))).frozen? ⟨gk, k, none⟩ = false := row_fro (k := k) Hq2.out
         have hcv : w3.cell? ⟨gv, k, none⟩ = some (.int .i64 (V (k + 1))) := row_at HBv.out (lI_at V hkN)
         have hck : w3.cell? ⟨gk, k, none⟩ = some (.bool (K (k + 1))) := row_at HBk.out (lB_at K hkN)
         have hck2 : (w3.setCell ⟨gv, k, none⟩ (.int .i64 (x - c))).cell? ⟨gk, k, none⟩ = some (.bool (K (k + 1))) := row_at Hq2.out (lB_at K hkN)
         have kN0 : (k : Int) < N := by omega
         have HR1 := Lib.hid (show ((w3.setCell ⟨gv, k, none⟩ (.int .i64 (x - c))).setCell ⟨gk, k, none⟩ (.bool is)).heap[gv]? = some (.cells (lI (upI V (k + 1) (x - c)) N).toArray 2 (0, 0)) by
          rw [← lI_set]; exact (st1k_ne (b := gk) (i := k) (c := gv) (.bool is) hgvk).trans Hq1.out)
         have HR2 := Lib.hid (show ((w3.setCell ⟨gv, k, none⟩ (.int .i64 (x - c))).setCell ⟨gk, k, none⟩ (.bool is)).heap[gk]? = some (.cells (lB (upB K (k + 1) is) N).toArray 4 (0, 0)) by
          rw [← lB_set]; exact row_set (k := k) (v := .bool is) Hq2.out)
         have HR3 := Lib.hid (show ((w3.setCell ⟨gv, k, none⟩ (.int .i64 (x - c))).setCell ⟨gk, k, none⟩ (.bool is)).heap[w.heap.size]? = some (.cells #[.int .i64 N, .slice ao xs.length cap] 32 (0, 0)) from (st1k_ne (b := gk) (i := k) (c := w.heap.size) (.bool is) (by omega)).trans Hq3.out)
         have HR4 := Lib.hid (Hq4.out.setCell (p := ⟨gk, k, none⟩) (by show w.heap.size ≤ gk; omega) (.bool is))
         clear HBz HBv HBk HW Hq1 Hq2 Hq3 Hq4
         go_wp2_with fail
         go_roundw
         case rel => exact ⟨k + 1, by omega, by go_num, HR3.out, by rw [HE.out]; exact HR1.out, by rw [HE.out]; exact HR2.out, HR4.out⟩
         case measure => simp [intOf]; omega
end Go.Proofs.YtfphlpglgcmljaaGreat
