/- Part of the proof of priced_clears_proved: Pzq, Pon. -/
import Derived.Deep.RegionHeld3
import Derived.Deep.DeepCutAuto
import Derived.Test.YtfphlpglgcmljaaGreatXcPap
import Derived.Test.YtfphlpglgcmljaaGreatXcPand2
namespace Go.Proofs.YtfphlpglgcmljaaGreat
open Go.RowKit
set_option linter.unusedVariables false
theorem own_set4 {e base size b : Nat} {w : World} {v : Value} {n : Nat} {xs : List Value} (h : w.ownsRow base e size v n xs) (hb : b < base) (u0 u1 u2 u3 : Value) : ((((w.setCell ⟨b, 0, none⟩ u0).setCell ⟨b, 1, none⟩ u1).setCell ⟨b, 2, none⟩ u2).setCell ⟨b, 3, none⟩ u3).ownsRow base e size v n xs :=
 ownsRow_setCell_below (own_set3 h hb _ _ _) hb _
def cst0 (N : Nat) (xs : List Int) (c : Int) (rs zs : List Int) : Int := cstTo N xs c rs (fun j => lowF N zs j) N
def onC (N : Nat) (xs : List Int) (c : Int) (rs zs : List Int) (more : Int) (i : Nat) (at' : Int) : Int :=
 if 0 < i then IntKind.i64.wrap (cst0 N xs c rs zs + IntKind.i64.wrap (more * IntKind.i64.wrap (lowF N zs i - at'))) else cst0 N xs c rs zs
def onR (rs : List Int) (more : Int) (i : Nat) : List Int := if 0 < i then rs.set (i - 1) (IntKind.i64.wrap (gi rs (i - 1) + more)) else rs
def onF (N : Nat) (xs : List Int) (c : Int) (rs zs : List Int) (more : Int) (i : Nat) (at' : Int) : Pv × Int := resF N zs (onC N xs c rs zs more i at') (onR rs more i)
theorem cst_P (N : Nat) (xs : List Int) (c : Int) (rs zs : List Int) : cstTo N xs c rs (fun j => gi (crTo N zs N) j) N = cst0 N xs c rs zs :=
 cstTo_congr N (fun j h1 h2 => by show gi (crTo N zs N) j = _; rw [crTo_at h2, if_pos ⟨h1, h2⟩])
set_option linter.unusedVariables false
theorem wrap_rg (x : Int) : -9223372036854775808 ≤ IntKind.i64.wrap x ∧ IntKind.i64.wrap x ≤ 9223372036854775807 := by rw [IntKind.wrap_i64]; omega
theorem cstTo_rg {N : Nat} {xs : List Int} {c : Int} {rs : List Int} {v : Nat → Int} (h : -9223372036854775808 ≤ c ∧ c ≤ 9223372036854775807) : ∀ k, -9223372036854775808 ≤ cstTo N xs c rs v k ∧ cstTo N xs c rs v k ≤ 9223372036854775807
 | 0 => h
 | k + 1 => wrap_rg _
theorem wrap_self {x : Int} (h : -9223372036854775808 ≤ x ∧ x ≤ 9223372036854775807) : IntKind.i64.wrap x = x := IntWalk.i64_in _ h
theorem own_other4 {t base bx : Nat} {w : World} {v : Value} {xs : List Int} (h : OL t base w v xs) (hn : v.ownBlock ≠ some bx) (u0 u1 u2 u3 : Value) : OL t base ((((w.setCell ⟨bx, 0, none⟩ u0).setCell ⟨bx, 1, none⟩ u1).setCell ⟨bx, 2, none⟩ u2).setCell ⟨bx, 3, none⟩ u3) v xs :=
 ownsRow_other (ownsRow_other (ownsRow_other (ownsRow_other h hn) hn) hn) hn
def OnI (N : Nat) (ao2 : Option Addr) (zl cap2 : Nat) (T : Int) (rs : List Int) (w1 : World) (s : Value) (wx : World) : Prop :=
 ∃ bx ao1 cap1, s = .pointer (some ⟨bx, 0, none⟩) ∧ wx.heap[bx]? = some (.cells #[.int .i64 N, .slice ao2 zl cap2, .int .i64 T, .slice ao1 rs.length cap1] 35 (0, 0)) ∧
  OL 2 w1.heap.size wx (.slice ao1 rs.length cap1) rs ∧ (Value.slice ao1 rs.length cap1).ownBlock ≠ some bx ∧ w1.heap.size ≤ bx ∧ Below w1.heap.size w1 wx
set_option maxRecDepth 100000 in
set_option maxHeartbeats 16000000 in
theorem prog_on (N i : Nat) (c more at' : Int) (v rv zv : Value) (xs rs zs : List Int) (w : World) (hv : RL w.heap.size w v xs) (hr : RL w.heap.size w rv rs) (hz : RL w.heap.size w zv zs) (hok : OkZ N xs) (hokz : OkZ N zs) (hlr : rs.length = N) (hi : i ≤ N)
  (hc : -9223372036854775808 ≤ c ∧ c ≤ 9223372036854775807) (h0 : i = 0 → more = 0 ∧ at' = 0) :
  Calls Tryz.prog 61 #[.agg #[.int .i64 N, v, .int .i64 c, rv], .agg #[.int .i64 N, zv], .int .i64 more, .int .i64 i, .int .i64 at'] w fun e w' => PE zv w.heap.size (onF N xs c rs zs more i at') e w' ∧ Below w.heap.size w w' := by
 have hN : N ≤ 10 := by have := hok.hi; omega
 obtain ⟨ao, cap, rfl, hle, _⟩ := hv.open
 obtain ⟨aor, capr, rfl, hler, _⟩ := hr.open
 obtain ⟨ao2, cap2, rfl, hle2, _⟩ := hz.open
 have hloc := Loc.three w (.cells #[.int .i64 N, .slice ao xs.length cap, .int .i64 c, .slice aor rs.length capr] 35) (.cells #[.int .i64 N, .slice ao2 zs.length cap2] 32) (.cells #[.int .i64 0, .slice none 0 0, .int .i64 0, .slice none 0 0] 35) none
 have Hv0 := Lib.hid hv
 have Hr := Lib.hid hr
 have Hz := Lib.hid hz
 have HOK := Lib.hid hok
 have HOKZ := Lib.hid hokz
 have Hlr := Lib.hid hlr
 have HcP := Lib.hid (cst_P N xs c rs zs)
 obtain ⟨V, hV⟩ : ∃ V, gi (crTo N zs N) i = V := ⟨_, rfl⟩
 obtain ⟨C, hC⟩ : ∃ C, cst0 N xs c rs zs = C := ⟨_, rfl⟩
 obtain ⟨D, hD⟩ : ∃ D, IntKind.i64.wrap (V - at') = D := ⟨_, rfl⟩
 obtain ⟨M, hM⟩ : ∃ M, IntKind.i64.wrap (more * D) = M := ⟨_, rfl⟩
 obtain ⟨T, hT⟩ : ∃ T, IntKind.i64.wrap (C + M) = T := ⟨_, rfl⟩
 have HonC := Lib.hid (show onC N xs c rs zs more i at' = T by
  unfold onC
  by_cases e : 0 < i
  ·rw [if_pos e, hC]
   rw [crTo_at hi, if_pos ⟨e, hi⟩] at hV
   rw [hV, hD, hM, hT]
  ·obtain rfl : i = 0 := by omega
   obtain ⟨rfl, rfl⟩ := h0 rfl
   rw [if_neg e, hC]
   have eV : V = 0 := by rw [← hV, crTo_at (Nat.zero_le _), if_neg (by omega)]
   have eD : D = 0 := by rw [← hD, eV]; rfl
   have eM : M = 0 := by rw [← hM, eD]; rfl
   rw [← hT, eM, Int.add_zero, wrap_self (by rw [← hC]; exact cstTo_rg hc N)])
 have HV := Lib.hid hV
 have Hh0 := Lib.hid h0
 clear hv hr hz hok hokz hlr h0 hc hV
 go_enter Tryz.func61, Tryz.ntmps61
 go_wp2_with fail
 refine (prog_corner N _ zs _ (Hz.out.keepb (below_grownBy hloc.grown)) HOKZ.out).mono ?_
 rintro e w1 ⟨⟨v1, rfl, hov⟩, hb1⟩
 have hloc1 := hloc.next (grownBy_below hb1 none) (fun _ h => by cases h)
 have hs1 : w.heap.size + 3 ≤ w1.heap.size := hloc1.size
 have Hv1 := Lib.hid (OL.rl hov)
 obtain ⟨gv, capv, hvf, hgb, hgs, _, hcv⟩ := hov.open (by rw [crTo_len]; omega)
 subst hvf
 have x0 : w1.cell? ⟨gv, i, none⟩ = some (.int .i64 V) := by rw [← HV.out]; exact (hcv i (by rw [crTo_len]; omega)).1
 have k0 : (i : Int) < ((crTo N zs N).length : Int) := by rw [crTo_len]; omega
 have k1 : (0 : Int) ≤ (i : Int) := by omega
 have z0 : w1.cell? ⟨w.heap.size, 0, none⟩ = some (.int .i64 N) := hloc1.cell 0 rfl 0
 have z1 : w1.cell? ⟨w.heap.size, 1, none⟩ = some (.slice ao xs.length cap) := hloc1.cell 0 rfl 1
 have z2 : w1.cell? ⟨w.heap.size, 2, none⟩ = some (.int .i64 c) := hloc1.cell 0 rfl 2
 have z3 : w1.cell? ⟨w.heap.size, 3, none⟩ = some (.slice aor rs.length capr) := hloc1.cell 0 rfl 3
 have y0 : w1.cell? ⟨w.heap.size + 1, 0, none⟩ = some (.int .i64 N) := hloc1.cell 1 rfl 0
 have y1 : w1.cell? ⟨w.heap.size + 1, 1, none⟩ = some (.slice ao2 zs.length cap2) := hloc1.cell 1 rfl 1
 have HS := Lib.hid (fun (X : World) (hX : Below w1.heap.size w1 X) => (⟨keepb y0 hX, keepb y1 hX, keepb z0 hX, keepb z1 hX, keepb z2 hX, keepb z3 hX, keepb x0 hX⟩ : X.cell? ⟨w.heap.size + 1, 0, none⟩ = some (.int .i64 N) ∧ X.cell? ⟨w.heap.size + 1, 1, none⟩ = some (.slice ao2 zs.length cap2) ∧ X.cell? ⟨w.heap.size, 0, none⟩ = some (.int .i64 N) ∧ X.cell? ⟨w.heap.size, 1, none⟩ = some (.slice ao xs.length cap) ∧ X.cell? ⟨w.heap.size, 2, none⟩ = some (.int .i64 c) ∧ X.cell? ⟨w.heap.size, 3, none⟩ = some (.slice aor rs.length capr) ∧ X.cell? ⟨gv, i, none⟩ = some (.int .i64 V)))
 have HCost := Lib.hid (fun X (hX : Below w1.heap.size w1 X) => prog_cost N c _ _ _ xs rs (crTo N zs N) X ((Hv0.out.keepb (below_grownBy hloc1.grown)).keepb hX) ((Hr.out.keepb (below_grownBy hloc1.grown)).keepb hX) (Hv1.out.keepb hX) HOK.out Hlr.out (crTo_len _ _ _))
 rw [HcP.out, hC] at HCost
 have HClone := Lib.hid (fun X (hX : Below w1.heap.size w1 X) => clone64 _ rs X ((Hr.out.keepb (below_grownBy hloc1.grown)).keepb hX) (by have := Hlr.out; omega))
 have Hloc1 := Lib.hid hloc1
 clear hb1 hloc hov hcv hloc1 hC
 go_upto_region 2 with fail
 go_cut [13] (fun s13 wx => OnI N ao2 zs.length cap2 T rs w1 s13 wx)
 case first =>
  refine wp_region_noPanic ?_
  refine wp_region_held_drew (S := (fun w' => w'.cell? ⟨w.heap.size + 1, 0, none⟩ = some (.int .i64 N) ∧ w'.cell? ⟨w.heap.size + 1, 1, none⟩ = some (.slice ao2 zs.length cap2) ∧ w'.cell? ⟨w.heap.size, 0, none⟩ = some (.int .i64 N) ∧ w'.cell? ⟨w.heap.size, 1, none⟩ = some (.slice ao xs.length cap) ∧ w'.cell? ⟨w.heap.size, 2, none⟩ = some (.int .i64 c) ∧ w'.cell? ⟨w.heap.size, 3, none⟩ = some (.slice aor rs.length capr) ∧ w'.cell? ⟨gv, i, none⟩ = some (.int .i64 V))) (by kernel_rfl) ⟨y0, y1, z0, z1, z2, z3, x0⟩ (fun hHeld => ?_)
  refine wpAnyH_take (i := 0) (v := ?_) rfl (by kernel_rfl) (by kernel_rfl) (by kernel_rfl) (fun _ _ _ h => h) (Or.inl ⟨by rfl, ?_⟩) (by assumption) ?_
  rotate_left
  ·intro w hSw; (try dsimp only at hSw); go_simp; (try with_reducible rfl)
  try simp only [Act.put, List.getElem_toArray, List.getElem_cons_zero, List.setIfInBounds_toArray, List.set_cons_zero, List.set_cons_succ]
  refine wpAnyH_take (i := 1) (v := ?_) rfl (by kernel_rfl) (by kernel_rfl) (by kernel_rfl) (fun _ _ _ h => h) (Or.inl ⟨by rfl, ?_⟩) (by assumption) ?_
  rotate_left
  ·intro w hSw; (try dsimp only at hSw); go_simp; (try with_reducible rfl)
  try simp only [Act.put, List.getElem_toArray, List.getElem_cons_zero, List.getElem_cons_succ, List.setIfInBounds_toArray, List.set_cons_zero, List.set_cons_succ]
  refine wpAnyH_take (i := 2) (v := ?_) rfl (by kernel_rfl) (by kernel_rfl) (by kernel_rfl) (fun _ _ _ h => h) (Or.inl ⟨by rfl, ?_⟩) (by assumption) ?_
  rotate_left
  ·intro w hSw; (try dsimp only at hSw); go_simp; (try with_reducible rfl)
  try simp only [Act.put, List.getElem_toArray, List.getElem_cons_zero, List.getElem_cons_succ, List.setIfInBounds_toArray, List.set_cons_zero, List.set_cons_succ]
  refine wpAnyH_take (i := 4) (v := ?_) rfl (by kernel_rfl) (by kernel_rfl) (by kernel_rfl) (fun _ _ _ h => h) (Or.inl ⟨by rfl, ?_⟩) (by assumption) ?_
  rotate_left
  ·intro w hSw; (try dsimp only at hSw); go_simp; (try with_reducible rfl)
  try simp only [Act.put, List.getElem_toArray, List.getElem_cons_zero, List.getElem_cons_succ, List.setIfInBounds_toArray, List.set_cons_zero, List.set_cons_succ]
  refine wpAnyH_take (i := 5) (v := ?_) rfl (by kernel_rfl) (by kernel_rfl) (by kernel_rfl) (fun _ _ _ h => h) (Or.inl ⟨by rfl, ?_⟩) (by assumption) ?_
  rotate_left
  ·intro w hSw; (try dsimp only at hSw); go_simp; (try with_reducible rfl)
  try simp only [Act.put, List.getElem_toArray, List.getElem_cons_zero, List.getElem_cons_succ, List.setIfInBounds_toArray, List.set_cons_zero, List.set_cons_succ]
  refine wpAnyH_take (i := 6) (v := ?_) rfl (by kernel_rfl) (by kernel_rfl) (by kernel_rfl) (fun _ _ _ h => h) (Or.inl ⟨by rfl, ?_⟩) (by assumption) ?_
  rotate_left
  ·intro w hSw; (try dsimp only at hSw); go_simp; (try with_reducible rfl)
  try simp only [Act.put, List.getElem_toArray, List.getElem_cons_zero, List.getElem_cons_succ, List.setIfInBounds_toArray, List.set_cons_zero, List.set_cons_succ]
  refine wpAnyH_take (i := 7) (v := ?_) rfl (by kernel_rfl) (by kernel_rfl) (by kernel_rfl) (fun _ _ _ h => h) (Or.inl ⟨by rfl, ?_⟩) (by assumption) ?_
  rotate_left
  ·intro w hSw; (try dsimp only at hSw); go_simp; (try with_reducible rfl)
  try simp only [Act.put, List.getElem_toArray, List.getElem_cons_zero, List.getElem_cons_succ, List.setIfInBounds_toArray, List.set_cons_zero, List.set_cons_succ]
  refine wpAnyH_take (i := 8) (v := ?_) rfl (by kernel_rfl) (by kernel_rfl) (by kernel_rfl) (fun _ _ _ h => h) (Or.inl ⟨by rfl, ?_⟩) (by assumption) ?_
  rotate_left
  ·intro w hSw; (try dsimp only at hSw); go_simp; (try with_reducible rfl)
  try simp only [Act.put, List.getElem_toArray, List.getElem_cons_zero, List.getElem_cons_succ, List.setIfInBounds_toArray, List.set_cons_zero, List.set_cons_succ]
  refine wpAnyH_take (i := 9) (v := ?_) rfl (by kernel_rfl) (by kernel_rfl) (by kernel_rfl) (fun _ _ _ h => h) (Or.inl ⟨by rfl, ?_⟩) (by assumption) ?_
  rotate_left
  ·intro w hSw; (try dsimp only at hSw); go_simp; (try with_reducible rfl)
  try simp only [Act.put, List.getElem_toArray, List.getElem_cons_zero, List.getElem_cons_succ, List.setIfInBounds_toArray, List.set_cons_zero, List.set_cons_succ]
  refine wpAnyH_take (i := 10) (v := ?_) rfl (by kernel_rfl) (by kernel_rfl) (by kernel_rfl) (fun _ _ _ h => h) (Or.inl ⟨by rfl, ?_⟩) (by assumption) ?_
  rotate_left
  ·intro w hSw; (try dsimp only at hSw); go_simp; (try with_reducible rfl)
  try simp only [Act.put, List.getElem_toArray, List.getElem_cons_zero, List.getElem_cons_succ, List.setIfInBounds_toArray, List.set_cons_zero, List.set_cons_succ]
  refine wpAnyH_take (i := 11) (v := ?_) rfl (by kernel_rfl) (by kernel_rfl) (by kernel_rfl) (fun _ _ _ h => h) (Or.inl ⟨by rfl, ?_⟩) (by assumption) ?_
  rotate_left
  ·intro w hSw; (try dsimp only at hSw); go_simp; (try with_reducible rfl)
  try simp only [Act.put, List.getElem_toArray, List.getElem_cons_zero, List.getElem_cons_succ, List.setIfInBounds_toArray, List.set_cons_zero, List.set_cons_succ]
  refine wpAnyH_take (i := 13) (v := ?_) rfl (by kernel_rfl) (by kernel_rfl) (by kernel_rfl) (fun _ _ _ h => h) (Or.inl ⟨by rfl, ?_⟩) (by assumption) ?_
  rotate_left
  ·intro w hSw; (try dsimp only at hSw); go_simp; (try with_reducible rfl)
  try simp only [Act.put, List.getElem_toArray, List.getElem_cons_zero, List.getElem_cons_succ, List.setIfInBounds_toArray, List.set_cons_zero, List.set_cons_succ]
  refine wpAnyH_take (i := 14) (v := ?_) rfl (by kernel_rfl) (by kernel_rfl) (by kernel_rfl) (fun _ _ _ h => h) (Or.inl ⟨by rfl, ?_⟩) (by assumption) ?_
  rotate_left
  ·intro w hSw; (try dsimp only at hSw); go_simp; (try with_reducible rfl)
  try simp only [Act.put, List.getElem_toArray, List.getElem_cons_zero, List.getElem_cons_succ, List.setIfInBounds_toArray, List.set_cons_zero, List.set_cons_succ]
  have H0 := Lib.hid (show Below w1.heap.size w1 w1.drew from (Below.refl _ _).drew)
  clear hHeld
  generalize w1.drew = X0 at *
  refine wpAnyH_ready (rs := [3, 17]) (by kernel_rfl) (by simp) ?_
  refine AllReadyH.cons rfl (fun K hK => ?_) (AllReadyH.cons rfl (fun K hK => ?_) (AllReadyH.nil))
  ·skip
   go_simp
   refine (HCost.out X0 H0.out).mono ?_
   rintro e X1 ⟨rfl, hb⟩
   have H1 := Lib.hid (bt H0.out hb)
   refine hK.out _ _ (HS.out X1 H1.out) (fun hHeld2 => ?_)
   clear hK K hb
   try simp only [Act.put, List.getElem_toArray, List.getElem_cons_zero, List.getElem_cons_succ, List.setIfInBounds_toArray, List.set_cons_zero, List.set_cons_succ]
   refine wpAnyH_take (i := 12) (v := ?_) rfl (by kernel_rfl) (by kernel_rfl) (by kernel_rfl) (fun _ _ _ h => h) (Or.inl ⟨by rfl, ?_⟩) (by assumption) ?_
   rotate_left
   ·intro w hSw; (try dsimp only at hSw); go_simp; (try with_reducible rfl)
   try simp only [Act.put, List.getElem_toArray, List.getElem_cons_zero, List.getElem_cons_succ, List.setIfInBounds_toArray, List.set_cons_zero, List.set_cons_succ]
   refine wpAnyH_ready (rs := [15, 17]) (by kernel_rfl) (by simp) ?_
   refine AllReadyH.cons rfl (fun K hK => ?_) (AllReadyH.cons rfl (fun K hK => ?_) (AllReadyH.nil))
   ·skip
    go_simp
    refine (HClone.out X1 H1.out).mono ?_
    rintro e X2 ⟨⟨vq, rfl, ho⟩, hb⟩
    obtain ⟨ao1, cap1, rfl⟩ := owns_form ho
    have H2 := Lib.hid (bt H1.out hb)
    have Hcl := Lib.hid (OL.mono ho H1.out.size)
    refine hK.out _ _ (HS.out X2 H2.out) (fun hHeld2 => ?_)
    clear hK K hb ho
    try simp only [Act.put, List.getElem_toArray, List.getElem_cons_zero, List.getElem_cons_succ, List.setIfInBounds_toArray, List.set_cons_zero, List.set_cons_succ]
    refine wpAnyH_take (i := 16) (v := ?_) rfl (by kernel_rfl) (by kernel_rfl) (by kernel_rfl) (fun _ _ _ h => h) (Or.inl ⟨by rfl, ?_⟩) (by assumption) ?_
    rotate_left
    ·intro w hSw; (try dsimp only at hSw); go_simp; (try with_reducible rfl)
    try simp only [Act.put, List.getElem_toArray, List.getElem_cons_zero, List.getElem_cons_succ, List.setIfInBounds_toArray, List.set_cons_zero, List.set_cons_succ]
    refine wpAnyH_ready (rs := [17]) (by kernel_rfl) (by simp) ?_
    refine AllReadyH.cons rfl (fun K hK => ?_) (AllReadyH.nil)
    ·skip
     go_simp
     have H3' := bal H2.out (.cells #[.int .i64 0, .slice none 0 0, .int .i64 0, .slice none 0 0] 35)
     have Hbx' := heap_alloc_new X2 (.cells #[.int .i64 0, .slice none 0 0, .int .i64 0, .slice none 0 0] 35)
     have Hne' := Lib.hid (show (Value.slice ao1 rs.length cap1).ownBlock ≠ some X2.heap.size from fun e => by have h1 := (World.ownsRow.lt Hcl.out X2.heap.size e).2; omega)
     have Hcl' : OL _ _ (X2.alloc (.cells #[.int .i64 0, .slice none 0 0, .int .i64 0, .slice none 0 0] 35)) _ rs := World.ownsRow.alloc Hcl.out _
     have Hge' := H2.out.size
     refine hK.out _ _ (HS.out _ H3') (fun hHeld2 => ?_)
     clear hK K
     generalize hgen : World.alloc X2 _ = X3 at *
     clear hgen
     generalize X2.heap.size = bx at *
     have H3 := Lib.hid H3'
     have Hbx := Lib.hid Hbx'
     have Hge := Lib.hid Hge'
     have Hne := Lib.hid Hne'.out
     clear Hcl Hne'
     have Hcl := Lib.hid Hcl'
     clear Hcl'
     clear H3' Hbx' Hge'
     try simp only [Act.put, List.getElem_toArray, List.getElem_cons_zero, List.getElem_cons_succ, List.setIfInBounds_toArray, List.set_cons_zero, List.set_cons_succ]
     refine wpAnyH_ready (rs := [18]) (by kernel_rfl) (by simp) ?_
     refine AllReadyH.cons rfl (fun K hK => ?_) (AllReadyH.nil)
     ·skip
      have t0 := cell_of_row _ bx 0 _ _ _ Hbx.out
      have t1 := cell_of_row _ bx 1 _ _ _ Hbx.out
      have t2 := cell_of_row _ bx 2 _ _ _ Hbx.out
      have t3 := cell_of_row _ bx 3 _ _ _ Hbx.out
      have f0 := frozen_of_row _ bx 0 _ _ Hbx.out
      have f1 := frozen_of_row _ bx 1 _ _ Hbx.out
      have f2 := frozen_of_row _ bx 2 _ _ Hbx.out
      have f3 := frozen_of_row _ bx 3 _ _ Hbx.out
      have HF1 := Lib.hid (heap_setCell_same _ bx 3 _ _ (.slice ao1 rs.length cap1) (heap_setCell_same _ bx 2 _ _ (.int .i64 T) (heap_setCell_same _ bx 1 _ _ (.slice ao2 zs.length cap2) (heap_setCell_same _ bx 0 _ _ (.int .i64 N) Hbx.out))))
      have HF2 := Lib.hid (own_other4 Hcl.out Hne.out (.int .i64 N) (.slice ao2 zs.length cap2) (.int .i64 T) (.slice ao1 rs.length cap1))
      have HF3 := Lib.hid ((((H3.out.setCell (p := ⟨bx, 0, none⟩) Hge.out (.int .i64 N)).setCell (p := ⟨bx, 1, none⟩) Hge.out (.slice ao2 zs.length cap2)).setCell (p := ⟨bx, 2, none⟩) Hge.out (.int .i64 T)).setCell (p := ⟨bx, 3, none⟩) Hge.out (.slice ao1 rs.length cap1))
      go_simp
      refine hK.out _ _ (HS.out _ HF3.out) (fun hHeld2 => ?_)
      clear hK K t0 t1 t2 t3 f0 f1 f2 f3
      try simp only [Act.put, List.getElem_toArray, List.getElem_cons_zero, List.getElem_cons_succ, List.setIfInBounds_toArray, List.set_cons_zero, List.set_cons_succ]
      refine wpAnyH_done (by kernel_rfl) ?_ _
      refine NoPanic.normal ?_
      go_wp2_with fail
      go_meet
      exact ⟨bx, ao1, cap1, rfl, HF1.out, HF2.out, Hne.out, Hge.out, HF3.out⟩
   ·skip
    go_simp
    have H2' := bal H1.out (.cells #[.int .i64 0, .slice none 0 0, .int .i64 0, .slice none 0 0] 35)
    have Hbx' := heap_alloc_new X1 (.cells #[.int .i64 0, .slice none 0 0, .int .i64 0, .slice none 0 0] 35)
    have Hge' := H1.out.size
    refine hK.out _ _ (HS.out _ H2') (fun hHeld2 => ?_)
    clear hK K
    generalize hgen : World.alloc X1 _ = X2 at *
    clear hgen
    generalize X1.heap.size = bx at *
    have H2 := Lib.hid H2'
    have Hbx := Lib.hid Hbx'
    have Hge := Lib.hid Hge'
    clear H2' Hbx' Hge'
    try simp only [Act.put, List.getElem_toArray, List.getElem_cons_zero, List.getElem_cons_succ, List.setIfInBounds_toArray, List.set_cons_zero, List.set_cons_succ]
    refine wpAnyH_ready (rs := [15]) (by kernel_rfl) (by simp) ?_
    refine AllReadyH.cons rfl (fun K hK => ?_) (AllReadyH.nil)
    ·skip
     go_simp
     refine (HClone.out X2 H2.out).mono ?_
     rintro e X3 ⟨⟨vq, rfl, ho⟩, hb⟩
     obtain ⟨ao1, cap1, rfl⟩ := owns_form ho
     have H3 := Lib.hid (bt H2.out hb)
     have Hne := Lib.hid (show (Value.slice ao1 rs.length cap1).ownBlock ≠ some bx from fun e => by have h1 := (World.ownsRow.lt ho bx e).1; have h2 := hp_lt3 Hbx.out; omega)
     replace Hbx := Lib.hid (hp_keep4 Hbx.out hb)
     have Hcl := Lib.hid (OL.mono ho H2.out.size)
     refine hK.out _ _ (HS.out X3 H3.out) (fun hHeld2 => ?_)
     clear hK K hb ho
     try simp only [Act.put, List.getElem_toArray, List.getElem_cons_zero, List.getElem_cons_succ, List.setIfInBounds_toArray, List.set_cons_zero, List.set_cons_succ]
     refine wpAnyH_take (i := 16) (v := ?_) rfl (by kernel_rfl) (by kernel_rfl) (by kernel_rfl) (fun _ _ _ h => h) (Or.inl ⟨by rfl, ?_⟩) (by assumption) ?_
     rotate_left
     ·intro w hSw; (try dsimp only at hSw); go_simp; (try with_reducible rfl)
     try simp only [Act.put, List.getElem_toArray, List.getElem_cons_zero, List.getElem_cons_succ, List.setIfInBounds_toArray, List.set_cons_zero, List.set_cons_succ]
     refine wpAnyH_ready (rs := [18]) (by kernel_rfl) (by simp) ?_
     refine AllReadyH.cons rfl (fun K hK => ?_) (AllReadyH.nil)
     ·skip
      have t0 := cell_of_row _ bx 0 _ _ _ Hbx.out
      have t1 := cell_of_row _ bx 1 _ _ _ Hbx.out
      have t2 := cell_of_row _ bx 2 _ _ _ Hbx.out
      have t3 := cell_of_row _ bx 3 _ _ _ Hbx.out
      have f0 := frozen_of_row _ bx 0 _ _ Hbx.out
      have f1 := frozen_of_row _ bx 1 _ _ Hbx.out
      have f2 := frozen_of_row _ bx 2 _ _ Hbx.out
      have f3 := frozen_of_row _ bx 3 _ _ Hbx.out
      have HF1 := Lib.hid (heap_setCell_same _ bx 3 _ _ (.slice ao1 rs.length cap1) (heap_setCell_same _ bx 2 _ _ (.int .i64 T) (heap_setCell_same _ bx 1 _ _ (.slice ao2 zs.length cap2) (heap_setCell_same _ bx 0 _ _ (.int .i64 N) Hbx.out))))
      have HF2 := Lib.hid (own_other4 Hcl.out Hne.out (.int .i64 N) (.slice ao2 zs.length cap2) (.int .i64 T) (.slice ao1 rs.length cap1))
      have HF3 := Lib.hid ((((H3.out.setCell (p := ⟨bx, 0, none⟩) Hge.out (.int .i64 N)).setCell (p := ⟨bx, 1, none⟩) Hge.out (.slice ao2 zs.length cap2)).setCell (p := ⟨bx, 2, none⟩) Hge.out (.int .i64 T)).setCell (p := ⟨bx, 3, none⟩) Hge.out (.slice ao1 rs.length cap1))
      go_simp
      refine hK.out _ _ (HS.out _ HF3.out) (fun hHeld2 => ?_)
      clear hK K t0 t1 t2 t3 f0 f1 f2 f3
      try simp only [Act.put, List.getElem_toArray, List.getElem_cons_zero, List.getElem_cons_succ, List.setIfInBounds_toArray, List.set_cons_zero, List.set_cons_succ]
      refine wpAnyH_done (by kernel_rfl) ?_ _
      refine NoPanic.normal ?_
      go_wp2_with fail
      go_meet
      exact ⟨bx, ao1, cap1, rfl, HF1.out, HF2.out, Hne.out, Hge.out, HF3.out⟩
  ·skip
   go_simp
   have H1' := bal H0.out (.cells #[.int .i64 0, .slice none 0 0, .int .i64 0, .slice none 0 0] 35)
   have Hbx' := heap_alloc_new X0 (.cells #[.int .i64 0, .slice none 0 0, .int .i64 0, .slice none 0 0] 35)
   have Hge' := H0.out.size
   refine hK.out _ _ (HS.out _ H1') (fun hHeld2 => ?_)
   clear hK K
   generalize hgen : World.alloc X0 _ = X1 at *
   clear hgen
   generalize X0.heap.size = bx at *
   have H1 := Lib.hid H1'
   have Hbx := Lib.hid Hbx'
   have Hge := Lib.hid Hge'
   clear H1' Hbx' Hge'
   try simp only [Act.put, List.getElem_toArray, List.getElem_cons_zero, List.getElem_cons_succ, List.setIfInBounds_toArray, List.set_cons_zero, List.set_cons_succ]
   refine wpAnyH_ready (rs := [3]) (by kernel_rfl) (by simp) ?_
   refine AllReadyH.cons rfl (fun K hK => ?_) (AllReadyH.nil)
   ·skip
    go_simp
    refine (HCost.out X1 H1.out).mono ?_
    rintro e X2 ⟨rfl, hb⟩
    have H2 := Lib.hid (bt H1.out hb)
    replace Hbx := Lib.hid (hp_keep4 Hbx.out hb)
    refine hK.out _ _ (HS.out X2 H2.out) (fun hHeld2 => ?_)
    clear hK K hb
    try simp only [Act.put, List.getElem_toArray, List.getElem_cons_zero, List.getElem_cons_succ, List.setIfInBounds_toArray, List.set_cons_zero, List.set_cons_succ]
    refine wpAnyH_take (i := 12) (v := ?_) rfl (by kernel_rfl) (by kernel_rfl) (by kernel_rfl) (fun _ _ _ h => h) (Or.inl ⟨by rfl, ?_⟩) (by assumption) ?_
    rotate_left
    ·intro w hSw; (try dsimp only at hSw); go_simp; (try with_reducible rfl)
    try simp only [Act.put, List.getElem_toArray, List.getElem_cons_zero, List.getElem_cons_succ, List.setIfInBounds_toArray, List.set_cons_zero, List.set_cons_succ]
    refine wpAnyH_ready (rs := [15]) (by kernel_rfl) (by simp) ?_
    refine AllReadyH.cons rfl (fun K hK => ?_) (AllReadyH.nil)
    ·skip
     go_simp
     refine (HClone.out X2 H2.out).mono ?_
     rintro e X3 ⟨⟨vq, rfl, ho⟩, hb⟩
     obtain ⟨ao1, cap1, rfl⟩ := owns_form ho
     have H3 := Lib.hid (bt H2.out hb)
     have Hne := Lib.hid (show (Value.slice ao1 rs.length cap1).ownBlock ≠ some bx from fun e => by have h1 := (World.ownsRow.lt ho bx e).1; have h2 := hp_lt3 Hbx.out; omega)
     replace Hbx := Lib.hid (hp_keep4 Hbx.out hb)
     have Hcl := Lib.hid (OL.mono ho H2.out.size)
     refine hK.out _ _ (HS.out X3 H3.out) (fun hHeld2 => ?_)
     clear hK K hb ho
     try simp only [Act.put, List.getElem_toArray, List.getElem_cons_zero, List.getElem_cons_succ, List.setIfInBounds_toArray, List.set_cons_zero, List.set_cons_succ]
     refine wpAnyH_take (i := 16) (v := ?_) rfl (by kernel_rfl) (by kernel_rfl) (by kernel_rfl) (fun _ _ _ h => h) (Or.inl ⟨by rfl, ?_⟩) (by assumption) ?_
     rotate_left
     ·intro w hSw; (try dsimp only at hSw); go_simp; (try with_reducible rfl)
     try simp only [Act.put, List.getElem_toArray, List.getElem_cons_zero, List.getElem_cons_succ, List.setIfInBounds_toArray, List.set_cons_zero, List.set_cons_succ]
     refine wpAnyH_ready (rs := [18]) (by kernel_rfl) (by simp) ?_
     refine AllReadyH.cons rfl (fun K hK => ?_) (AllReadyH.nil)
     ·skip
      have t0 := cell_of_row _ bx 0 _ _ _ Hbx.out
      have t1 := cell_of_row _ bx 1 _ _ _ Hbx.out
      have t2 := cell_of_row _ bx 2 _ _ _ Hbx.out
      have t3 := cell_of_row _ bx 3 _ _ _ Hbx.out
      have f0 := frozen_of_row _ bx 0 _ _ Hbx.out
      have f1 := frozen_of_row _ bx 1 _ _ Hbx.out
      have f2 := frozen_of_row _ bx 2 _ _ Hbx.out
      have f3 := frozen_of_row _ bx 3 _ _ Hbx.out
      have HF1 := Lib.hid (heap_setCell_same _ bx 3 _ _ (.slice ao1 rs.length cap1) (heap_setCell_same _ bx 2 _ _ (.int .i64 T) (heap_setCell_same _ bx 1 _ _ (.slice ao2 zs.length cap2) (heap_setCell_same _ bx 0 _ _ (.int .i64 N) Hbx.out))))
      have HF2 := Lib.hid (own_other4 Hcl.out Hne.out (.int .i64 N) (.slice ao2 zs.length cap2) (.int .i64 T) (.slice ao1 rs.length cap1))
      have HF3 := Lib.hid ((((H3.out.setCell (p := ⟨bx, 0, none⟩) Hge.out (.int .i64 N)).setCell (p := ⟨bx, 1, none⟩) Hge.out (.slice ao2 zs.length cap2)).setCell (p := ⟨bx, 2, none⟩) Hge.out (.int .i64 T)).setCell (p := ⟨bx, 3, none⟩) Hge.out (.slice ao1 rs.length cap1))
      go_simp
      refine hK.out _ _ (HS.out _ HF3.out) (fun hHeld2 => ?_)
      clear hK K t0 t1 t2 t3 f0 f1 f2 f3
      try simp only [Act.put, List.getElem_toArray, List.getElem_cons_zero, List.getElem_cons_succ, List.setIfInBounds_toArray, List.set_cons_zero, List.set_cons_succ]
      refine wpAnyH_done (by kernel_rfl) ?_ _
      refine NoPanic.normal ?_
      go_wp2_with fail
      go_meet
      exact ⟨bx, ao1, cap1, rfl, HF1.out, HF2.out, Hne.out, Hge.out, HF3.out⟩
 case rest =>
  obtain ⟨V, hV⟩ : ∃ V, V = wc := ⟨_, rfl⟩
  subst hV
  obtain ⟨bx, ao1, cap1, rfl, hbx, hol, hne, hge, hbel⟩ := hcut
  have hloc2 := Hloc1.out.next (grownBy_below hbel none) (fun _ h => by cases h)
  have Hbw := Lib.hid (below_grownBy hloc2.grown)
  have Hbx := Lib.hid hbx
  have Hge := Lib.hid hge
  have Hown := Lib.hid hol
  have Hne := Lib.hid hne
  clear y0 y1 z0 z1 z2 z3 x0 hbx hge hol hne hbel HS HCost HClone
  by_cases hi0 : i = 0
  ·subst hi0
   obtain ⟨rfl, rfl⟩ := Hh0.out rfl
   have HonR := Lib.hid (show onR rs 0 0 = rs from rfl)
   go_upto_region 5 with fail
   have HC2 := Lib.hid (prog_ranged N T _ _ zs rs V (Hz.out.keepb Hbw.out) (OL.rl Hown.out))
   have b0 := cell_of_row _ bx 0 _ _ _ Hbx.out
   have b1 := cell_of_row _ bx 1 _ _ _ Hbx.out
   have b2 := cell_of_row _ bx 2 _ _ _ Hbx.out
   have b3 := cell_of_row _ bx 3 _ _ _ Hbx.out
   cases hg : rngB zs T rs with
   | false =>
    have HF := Lib.hid (show onF N xs c rs zs 0 0 0 = (pv0, 7) by unfold onF; rw [HonC.out, HonR.out]; exact resF_bad hg)
    rw [hg] at HC2
    clear hg
    go_wp2_with fail
    refine HC2.out.mono ?_
    rintro e w5 ⟨rfl, hb5⟩
    have hloc5 := hloc2.next (grownBy_below hb5 none) (fun _ h => by cases h)
    have hb6 := below_grownBy hloc5.grown
    have t0 : w5.cell? ⟨w.heap.size + 1 + 1, 0, none⟩ = some (.int .i64 0) := hloc5.cell 2 rfl 0
    have f0 : w5.frozen? ⟨w.heap.size + 1 + 1, 0, none⟩ = false := hloc5.free 2 rfl 0
    have t1 : w5.cell? ⟨w.heap.size + 1 + 1, 1, none⟩ = some (.slice none 0 0) := hloc5.cell 2 rfl 1
    have f1 : w5.frozen? ⟨w.heap.size + 1 + 1, 1, none⟩ = false := hloc5.free 2 rfl 1
    have t2 : w5.cell? ⟨w.heap.size + 1 + 1, 2, none⟩ = some (.int .i64 0) := hloc5.cell 2 rfl 2
    have f2 : w5.frozen? ⟨w.heap.size + 1 + 1, 2, none⟩ = false := hloc5.free 2 rfl 2
    have t3 : w5.cell? ⟨w.heap.size + 1 + 1, 3, none⟩ = some (.slice none 0 0) := hloc5.cell 2 rfl 3
    have f3 : w5.frozen? ⟨w.heap.size + 1 + 1, 3, none⟩ = false := hloc5.free 2 rfl 3
    clear hb5 b0 b1 b2 b3
    go_wp2_with fail
    refine bodyPost_ret (v := .tuple #[.agg #[.int .i64 0, .slice none 0 0, .int .i64 0, .slice none 0 0], .int .i64 7]) (by simp [results, Tryz.results61, go_sem, t0, t1, t2, t3]) rfl ⟨PE.err HF.out (by decide) _, ?_⟩
    exact ((((hb6).setCell (by show w.heap.size ≤ w.heap.size + 1 + 1; omega) _).setCell (by show w.heap.size ≤ w.heap.size + 1 + 1; omega) _).setCell (by show w.heap.size ≤ w.heap.size + 1 + 1; omega) _).setCell (by show w.heap.size ≤ w.heap.size + 1 + 1; omega) _
   | true =>
    have HF := Lib.hid (show onF N xs c rs zs 0 0 0 = (⟨N, zs, T, rs⟩, 0) by unfold onF; rw [HonC.out, HonR.out]; exact resF_ok hg)
    rw [hg] at HC2
    clear hg
    go_wp2_with fail
    refine HC2.out.mono ?_
    rintro e w5 ⟨rfl, hb5⟩
    have hloc5 := hloc2.next (grownBy_below hb5 none) (fun _ h => by cases h)
    have hb6 := below_grownBy hloc5.grown
    have Hown5 := Lib.hid (OL.keepb Hown.out hb5)
    have c0 := keepb b0 hb5
    have c1 := keepb b1 hb5
    have c2 := keepb b2 hb5
    have c3 := keepb b3 hb5
    have t0 : w5.cell? ⟨w.heap.size + 1 + 1, 0, none⟩ = some (.int .i64 0) := hloc5.cell 2 rfl 0
    have f0 : w5.frozen? ⟨w.heap.size + 1 + 1, 0, none⟩ = false := hloc5.free 2 rfl 0
    have t1 : w5.cell? ⟨w.heap.size + 1 + 1, 1, none⟩ = some (.slice none 0 0) := hloc5.cell 2 rfl 1
    have f1 : w5.frozen? ⟨w.heap.size + 1 + 1, 1, none⟩ = false := hloc5.free 2 rfl 1
    have t2 : w5.cell? ⟨w.heap.size + 1 + 1, 2, none⟩ = some (.int .i64 0) := hloc5.cell 2 rfl 2
    have f2 : w5.frozen? ⟨w.heap.size + 1 + 1, 2, none⟩ = false := hloc5.free 2 rfl 2
    have t3 : w5.cell? ⟨w.heap.size + 1 + 1, 3, none⟩ = some (.slice none 0 0) := hloc5.cell 2 rfl 3
    have f3 : w5.frozen? ⟨w.heap.size + 1 + 1, 3, none⟩ = false := hloc5.free 2 rfl 3
    clear hb5 b0 b1 b2 b3
    go_wp2_with fail
    have hb7 := ((((hb6).setCell (p := ⟨w.heap.size + 1 + 1, 0, none⟩) (by show w.heap.size ≤ w.heap.size + 1 + 1; omega) (.int .i64 N)).setCell (p := ⟨w.heap.size + 1 + 1, 1, none⟩) (by show w.heap.size ≤ w.heap.size + 1 + 1; omega) (.slice ao2 zs.length cap2)).setCell (p := ⟨w.heap.size + 1 + 1, 2, none⟩) (by show w.heap.size ≤ w.heap.size + 1 + 1; omega) (.int .i64 T)).setCell (p := ⟨w.heap.size + 1 + 1, 3, none⟩) (by show w.heap.size ≤ w.heap.size + 1 + 1; omega) (.slice ao1 rs.length cap1)
    have ho7 := own_set4 Hown5.out (show w.heap.size + 1 + 1 < w1.heap.size by omega) (.int .i64 N) (.slice ao2 zs.length cap2) (.int .i64 T) (.slice ao1 rs.length cap1)
    refine bodyPost_ret (v := .tuple #[.agg #[.int .i64 N, .slice ao2 zs.length cap2, .int .i64 T, .slice ao1 rs.length cap1], .int .i64 0]) (by simp [results, Tryz.results61, go_sem, t0, t1, t2, t3]) rfl ⟨PE.ok HF.out (owns_mono ho7 (by omega)), hb7⟩
  ·have hipos : decide (0 < (i : Int)) = true := by simp; omega
   obtain ⟨m, rfl⟩ : ∃ m, i = m + 1 := ⟨i - 1, by omega⟩
   have HonR := Lib.hid (show onR rs more (m + 1) = rs.set m (IntKind.i64.wrap (gi rs m + more)) from rfl)
   obtain ⟨g1, cap1', e1, hg1b, hg1s, _, hc1⟩ := Hown.out.open (by have := Hlr.out; omega)
   simp only [Value.slice.injEq, true_and] at e1
   obtain ⟨rfl, rfl⟩ := e1
   obtain ⟨r0, rf0⟩ := hc1 m (by have := Hlr.out; omega)
   have Hst := Lib.hid (Hown.out.stored rfl m (IntKind.i64.wrap (gi rs m + more)))
   have k3 : (m : Int) < (rs.length : Int) := by have := Hlr.out; omega
   have k2 : (0 : Int) ≤ (m : Int) := by omega
   have k4 : ((m : Int) + 1) - 1 = (m : Int) := by omega
   have b0 := cell_of_row _ bx 0 _ _ _ Hbx.out
   have b1 := cell_of_row _ bx 1 _ _ _ Hbx.out
   have b2 := cell_of_row _ bx 2 _ _ _ Hbx.out
   have b3 := cell_of_row _ bx 3 _ _ _ Hbx.out
   clear hc1
   generalize gi rs m = R at *
   obtain ⟨Q, hQ⟩ : ∃ Q, IntKind.i64.wrap (R + more) = Q := ⟨_, rfl⟩
   rw [hQ] at HonR Hst
   have hQ2 : wrap64 (R + more) = Q := by rw [← hQ, IntKind.wrap_i64]; unfold wrap64; omega
   go_upto_region 5 with fail
   have hloc4 := hloc2.anyrow Hst.out.2 (fun g' e => by cases e; show w.heap.size + 3 ≤ g1; omega)
   have hown4 : OL 2 w1.heap.size _ (.slice (some ⟨g1, 0, none⟩) rs.length cap1) (rs.set m Q) := Hst.out.1
   have hbx4 := (heap_setCell_other V ⟨g1, m, none⟩ bx (.int .i64 Q) (fun e => Hne.out (by rw [e]; rfl))).trans Hbx.out
   clear hloc2 Hst r0 rf0 b0 b1 b2 b3 Hown Hbx Hbw
   generalize V.setCell ⟨g1, m, none⟩ (.int .i64 Q) = W4 at *
   have Hbw := Lib.hid (below_grownBy hloc4.grown)
   have Hbx := Lib.hid hbx4
   have Hown := Lib.hid hown4
   clear hbx4 hown4
   have HC2 := Lib.hid (prog_ranged N T _ _ zs (rs.set m Q) W4 (Hz.out.keepb Hbw.out) (OL.rl Hown.out))
   have b0 := cell_of_row _ bx 0 _ _ _ Hbx.out
   have b1 := cell_of_row _ bx 1 _ _ _ Hbx.out
   have b2 := cell_of_row _ bx 2 _ _ _ Hbx.out
   have b3 := cell_of_row _ bx 3 _ _ _ Hbx.out
   cases hg : rngB zs T (rs.set m Q) with
   | false =>
    have HF := Lib.hid (show onF N xs c rs zs more (m + 1) at' = (pv0, 7) by unfold onF; rw [HonC.out, HonR.out]; exact resF_bad hg)
    rw [hg] at HC2
    clear hg
    go_wp2_with fail
    refine HC2.out.mono ?_
    rintro e w5 ⟨rfl, hb5⟩
    have hloc5 := hloc4.next (grownBy_below hb5 none) (fun _ h => by cases h)
    have hb6 := below_grownBy hloc5.grown
    have t0 : w5.cell? ⟨w.heap.size + 1 + 1, 0, none⟩ = some (.int .i64 0) := hloc5.cell 2 rfl 0
    have f0 : w5.frozen? ⟨w.heap.size + 1 + 1, 0, none⟩ = false := hloc5.free 2 rfl 0
    have t1 : w5.cell? ⟨w.heap.size + 1 + 1, 1, none⟩ = some (.slice none 0 0) := hloc5.cell 2 rfl 1
    have f1 : w5.frozen? ⟨w.heap.size + 1 + 1, 1, none⟩ = false := hloc5.free 2 rfl 1
    have t2 : w5.cell? ⟨w.heap.size + 1 + 1, 2, none⟩ = some (.int .i64 0) := hloc5.cell 2 rfl 2
    have f2 : w5.frozen? ⟨w.heap.size + 1 + 1, 2, none⟩ = false := hloc5.free 2 rfl 2
    have t3 : w5.cell? ⟨w.heap.size + 1 + 1, 3, none⟩ = some (.slice none 0 0) := hloc5.cell 2 rfl 3
    have f3 : w5.frozen? ⟨w.heap.size + 1 + 1, 3, none⟩ = false := hloc5.free 2 rfl 3
    clear hb5 b0 b1 b2 b3
    go_wp2_with fail
    refine bodyPost_ret (v := .tuple #[.agg #[.int .i64 0, .slice none 0 0, .int .i64 0, .slice none 0 0], .int .i64 7]) (by simp [results, Tryz.results61, go_sem, t0, t1, t2, t3]) rfl ⟨PE.err HF.out (by decide) _, ?_⟩
    exact ((((hb6).setCell (by show w.heap.size ≤ w.heap.size + 1 + 1; omega) _).setCell (by show w.heap.size ≤ w.heap.size + 1 + 1; omega) _).setCell (by show w.heap.size ≤ w.heap.size + 1 + 1; omega) _).setCell (by show w.heap.size ≤ w.heap.size + 1 + 1; omega) _
   | true =>
    have HF := Lib.hid (show onF N xs c rs zs more (m + 1) at' = (⟨N, zs, T, (rs.set m Q)⟩, 0) by unfold onF; rw [HonC.out, HonR.out]; exact resF_ok hg)
    rw [hg] at HC2
    clear hg
    go_wp2_with fail
    refine HC2.out.mono ?_
    rintro e w5 ⟨rfl, hb5⟩
    have hloc5 := hloc4.next (grownBy_below hb5 none) (fun _ h => by cases h)
    have hb6 := below_grownBy hloc5.grown
    have Hown5 := Lib.hid (OL.keepb Hown.out hb5)
    have c0 := keepb b0 hb5
    have c1 := keepb b1 hb5
    have c2 := keepb b2 hb5
    have c3 := keepb b3 hb5
    have t0 : w5.cell? ⟨w.heap.size + 1 + 1, 0, none⟩ = some (.int .i64 0) := hloc5.cell 2 rfl 0
    have f0 : w5.frozen? ⟨w.heap.size + 1 + 1, 0, none⟩ = false := hloc5.free 2 rfl 0
    have t1 : w5.cell? ⟨w.heap.size + 1 + 1, 1, none⟩ = some (.slice none 0 0) := hloc5.cell 2 rfl 1
    have f1 : w5.frozen? ⟨w.heap.size + 1 + 1, 1, none⟩ = false := hloc5.free 2 rfl 1
    have t2 : w5.cell? ⟨w.heap.size + 1 + 1, 2, none⟩ = some (.int .i64 0) := hloc5.cell 2 rfl 2
    have f2 : w5.frozen? ⟨w.heap.size + 1 + 1, 2, none⟩ = false := hloc5.free 2 rfl 2
    have t3 : w5.cell? ⟨w.heap.size + 1 + 1, 3, none⟩ = some (.slice none 0 0) := hloc5.cell 2 rfl 3
    have f3 : w5.frozen? ⟨w.heap.size + 1 + 1, 3, none⟩ = false := hloc5.free 2 rfl 3
    clear hb5 b0 b1 b2 b3
    go_wp2_with fail
    have hb7 := ((((hb6).setCell (p := ⟨w.heap.size + 1 + 1, 0, none⟩) (by show w.heap.size ≤ w.heap.size + 1 + 1; omega) (.int .i64 N)).setCell (p := ⟨w.heap.size + 1 + 1, 1, none⟩) (by show w.heap.size ≤ w.heap.size + 1 + 1; omega) (.slice ao2 zs.length cap2)).setCell (p := ⟨w.heap.size + 1 + 1, 2, none⟩) (by show w.heap.size ≤ w.heap.size + 1 + 1; omega) (.int .i64 T)).setCell (p := ⟨w.heap.size + 1 + 1, 3, none⟩) (by show w.heap.size ≤ w.heap.size + 1 + 1; omega) (.slice (some ⟨g1, 0, none⟩) rs.length cap1)
    have ho7 := own_set4 Hown5.out (show w.heap.size + 1 + 1 < w1.heap.size by omega) (.int .i64 N) (.slice ao2 zs.length cap2) (.int .i64 T) (.slice (some ⟨g1, 0, none⟩) rs.length cap1)
    refine bodyPost_ret (v := .tuple #[.agg #[.int .i64 N, .slice ao2 zs.length cap2, .int .i64 T, .slice (some ⟨g1, 0, none⟩) rs.length cap1], .int .i64 0]) (by simp [results, Tryz.results61, go_sem, t0, t1, t2, t3]) rfl ⟨PE.ok HF.out (owns_mono ho7 (by omega)), hb7⟩
end Go.Proofs.YtfphlpglgcmljaaGreat
