/- Part of the proof of priced_clears_proved: Psl, Wto, Wtb, Prp. -/
import Derived.Deep.RegionHeld3
import Derived.Test.YtfphlpglgcmljaaGreatXcPdd
import Derived.Test.YtfphlpglgcmljaaGreatXcPla
import Derived.Test.YtfphlpglgcmljaaGreatXcWtl
import Derived.Test.YtfphlpglgcmljaaGreatXcRap
import Derived.Test.YtfphlpglgcmljaaGreatXcHas
namespace Go.Proofs.YtfphlpglgcmljaaGreat
open Go.RowKit
set_option linter.unusedVariables false
def LR (w : World) (els : List Pz) : Prop := ∀ x, x ∈ els → RL w.heap.size w x.zv x.xs ∧ RL w.heap.size w x.rv x.rs
theorem LR.keepb {w w' : World} {els : List Pz} (h : LR w els) (hb : Below w.heap.size w w') : LR w' els := fun x hx => ⟨(h x hx).1.keepb hb, (h x hx).2.keepb hb⟩
theorem LZ.lr {w : World} {els : List Pz} (h : LZ w els) : LR w els := fun x hx => ⟨OL.rl (h x hx).1, OL.rl (h x hx).2⟩
def GR (r : List Pv) (v : Value) (w : World) : Prop := ∃ els, RX cdPz w.heap.size w v els ∧ LR w els ∧ els.map pvOf = r
theorem GR.keepb {r : List Pv} {v : Value} {w w' : World} (h : GR r v w) (hb : Below w.heap.size w w') : GR r v w' := by
 obtain ⟨els, h1, h2, h3⟩ := h
 exact ⟨els, h1.keepb hb, h2.keepb hb, h3⟩
theorem GaP.gr {base : Nat} {r : List Pv × Int} {e : Ending} {w' : World} (h : GaP base r e w') : ∃ v', e = .returned (.tuple #[v', .int .i64 r.2]) ∧ GR r.1 v' w' := by
 obtain ⟨v', els, h1, h2, h3, h4⟩ := h
 exact ⟨v', h1, els, OE.re (by decide) h2, h3.lr, h4⟩
set_option linter.unusedVariables false
set_option linter.unusedSimpArgs false
noncomputable def toldS (ps : List (Int × Int)) (acc : Int × Bool) (P : Pv) : Int × Bool :=
 if pzB P.n P.xs P.c P.rs = true ∧ (hasF P.n P.xs ps).1 = true then
  (if (patF P.n P.xs P.c P.rs ps).2 = 0 ∧ (patF P.n P.xs P.c P.rs ps).1.2 = 1 ∧ (acc.2 = false ∨ (patF P.n P.xs P.c P.rs ps).1.1 < acc.1) then ((patF P.n P.xs P.c P.rs ps).1.1, true) else acc)
 else acc
noncomputable def toldF (L : List Pv) (ps : List (Int × Int)) : Int × Bool := L.foldl (toldS ps) (0, false)
theorem told_next {L : List Pv} {ps : List (Int × Int)} {k : Nat} (hk : k < L.length) : (L.take (k + 1)).foldl (toldS ps) (0, false) = toldS ps ((L.take k).foldl (toldS ps) (0, false)) L[k] := by
 rw [List.take_succ_eq_append_getElem hk, List.foldl_append]; rfl
theorem toldS_no {ps : List (Int × Int)} {acc : Int × Bool} {P : Pv} (h : ¬(pzB P.n P.xs P.c P.rs = true ∧ (hasF P.n P.xs ps).1 = true)) : toldS ps acc P = acc := by unfold toldS; rw [if_neg h]
theorem toldS_in {ps : List (Int × Int)} {acc : Int × Bool} {P : Pv} {an ad ae : Int} (h : pzB P.n P.xs P.c P.rs = true) (h2 : (hasF P.n P.xs ps).1 = true) (h3 : patF P.n P.xs P.c P.rs ps = ((an, ad), ae)) :
  toldS ps acc P = if ae = 0 ∧ ad = 1 ∧ (acc.2 = false ∨ an < acc.1) then (an, true) else acc := by unfold toldS; rw [if_pos ⟨h, h2⟩, h3]
set_option maxRecDepth 100000 in
set_option maxHeartbeats 8000000 in
theorem law_told (lv v : Value) (L : List Pv) (vs : List Int) (w : World) (hl : GR L lv w) (hv : RL w.heap.size w v vs) (hn : vs.length ≤ 100) (hb : ∀ k, k < vs.length → -1000000 ≤ gi vs k ∧ gi vs k ≤ 1000000) :
  Calls Tryz.prog 27 #[lv, v] w fun e w' => e = .returned (.tuple #[.int .i64 (toldF L (rat1 vs)).1, .bool (toldF L (rat1 vs)).2]) ∧ Below w.heap.size w w' := by
 obtain ⟨els, r1, z1, m1⟩ := hl
 have Hm := Lib.hid m1
 have Z1 := Lib.hid z1
 have Hv := Lib.hid hv
 have HB := Lib.hid hb
 obtain ⟨ao1, cap1, rfl, hle1, hc1⟩ := r1.open
 obtain ⟨aov, capv, rfl, _, _⟩ := hv.open
 have HC1 := Lib.hid hc1
 have HLn := Lib.hid (show L.length = els.length by rw [← m1, List.length_map])
 clear r1 z1 m1 hc1 hv hb
 go_enter Tryz.func27, Tryz.ntmps27
 go_wp2_with fail
 go_loopw [6, 7, 8] (fun s6 s7 i wr => ∃ (k : Nat) (a : Int) (b : Bool), k ≤ els.length ∧ i = .int .i64 k ∧ s6 = .int .i64 a ∧ s7 = .bool b ∧ (L.take k).foldl (toldS (rat1 vs)) (0, false) = (a, b) ∧ Below w.heap.size w wr) (fun _ _ i _ => els.length - (intOf i).toNat)
 case atStart => exact ⟨0, 0, false, Nat.zero_le _, rfl, rfl, rfl, by rw [List.take_zero]; rfl, Below.refl _ _⟩
 case round =>
  obtain ⟨k, a, fd, hk, rfl, rfl, rfl, hacc, hw⟩ := hrel
  have HW := Lib.hid hw
  have HA := Lib.hid hacc
  clear hw hacc
  by_cases hlt : k < els.length
  rotate_left
  ·have htk : decide ((k : Int) < (els.length : Int)) = false := by simp; omega
   have HE := Lib.hid (show toldF L (rat1 vs) = (a, fd) by unfold toldF; rw [← HA.out, List.take_of_length_le (by rw [HLn.out]; omega)])
   go_wp2_with fail
   go_ret2
   exact ⟨by rw [HE.out]; rfl, HW.out⟩
  have htk : decide ((k : Int) < (els.length : Int)) = true := by simp; omega
  obtain ⟨b, off, rfl, hb, hcc⟩ := HC1.out (by omega)
  have hkL : k < L.length := by rw [HLn.out]; exact hlt
  have hpv : L[k] = pvOf (ge cdPz els k) := by
   have e1 : L[k]? = some (pvOf els[k]) := by rw [← Hm.out, List.getElem?_map, List.getElem?_eq_getElem hlt]; rfl
   rw [List.getElem?_eq_getElem hkL] at e1
   rw [ge_of cdPz hlt]
   exact Option.some.inj e1
  have hz1 := Z1.out _ (ge_mem cdPz hlt)
  obtain ⟨E, hE⟩ : ∃ E, ge cdPz els k = E := ⟨_, rfl⟩
  rw [hE] at hz1 hpv
  obtain ⟨n, zv, xs, c, rv, rs⟩ := E
  have HZ1 := Lib.hid (show RL w.heap.size w zv xs ∧ RL w.heap.size w rv rs from hz1)
  have HN := Lib.hid (show (L.take (k + 1)).foldl (toldS (rat1 vs)) (0, false) = toldS (rat1 vs) (a, fd) ⟨n, xs, c, rs⟩ by rw [told_next hkL, HA.out, hpv]; rfl)
  have k0 : (k : Int) < els.length := by omega
  have k1 : (0 : Int) ≤ (k : Int) := by omega
  clear hpv hz1
  have Hcc := Lib.hid hcc
  have HE := Lib.hid hE
  have Hlt := Lib.hid hlt
  clear hcc hE hlt hkL
  have x0 : wr.cell? ⟨b, off + k * 4, none⟩ = some (.int .i64 n) := by
   have h := ((bcell HW.out).1 b (off + (k * 4 + 0)) hb).trans (Hcc.out k 0 Hlt.out (by decide))
   rw [HE.out] at h
   rw [show off + k * 4 = off + (k * 4 + 0) by omega]
   exact h
  have x1 : wr.cell? ⟨b, off + k * 4 + 1, none⟩ = some (zv) := by
   have h := ((bcell HW.out).1 b (off + (k * 4 + 1)) hb).trans (Hcc.out k 1 Hlt.out (by decide))
   rw [HE.out] at h
   rw [show off + k * 4 + 1 = off + (k * 4 + 1) by omega]
   exact h
  have x2 : wr.cell? ⟨b, off + k * 4 + 2, none⟩ = some (.int .i64 c) := by
   have h := ((bcell HW.out).1 b (off + (k * 4 + 2)) hb).trans (Hcc.out k 2 Hlt.out (by decide))
   rw [HE.out] at h
   rw [show off + k * 4 + 2 = off + (k * 4 + 2) by omega]
   exact h
  have x3 : wr.cell? ⟨b, off + k * 4 + 3, none⟩ = some (rv) := by
   have h := ((bcell HW.out).1 b (off + (k * 4 + 3)) hb).trans (Hcc.out k 3 Hlt.out (by decide))
   rw [HE.out] at h
   rw [show off + k * 4 + 3 = off + (k * 4 + 3) by omega]
   exact h
  have HRat := Lib.hid (fun (X : World) (hX : Below wr.heap.size wr X) => law_ratios _ vs X (Hv.out.keepb (bt HW.out hX)) hn HB.out)
  obtain ⟨hh, hxe, hH⟩ : ∃ a b, hasF n xs (rat1 vs) = (a, b) := ⟨_, _, rfl⟩
  have HHas := Lib.hid (fun (X : World) (qv : Value) (hX : Below wr.heap.size wr X) (hq : RQ X.heap.size X qv (rat1 vs)) => by
   have h := ref_has n zv qv xs (rat1 vs) X (HZ1.out.1.keepb (bt HW.out hX)) hq
   rw [hH] at h
   exact h)
  have HH := Lib.hid hH
  clear hH
  go_upto_region 5 with fail
  have HS := Lib.hid (fun (X : World) (hX : Below wr.heap.size wr X) => (⟨keepb x0 hX, keepb x1 hX⟩ : X.cell? ⟨b, off + k * 4, none⟩ = some (.int .i64 n) ∧ X.cell? ⟨b, off + k * 4 + 1, none⟩ = some (zv)))
  refine wp_region_noPanic ?_
  refine wp_region_held_drew (S := (fun w' => w'.cell? ⟨b, off + k * 4, none⟩ = some (.int .i64 n) ∧ w'.cell? ⟨b, off + k * 4 + 1, none⟩ = some (zv))) (by kernel_rfl) ⟨x0, x1⟩ (fun hHeld => ?_)
  refine wpAnyH_take (i := 0) (v := ?_) rfl (by kernel_rfl) (by kernel_rfl) (by kernel_rfl) (fun _ _ _ h => h) (Or.inl ⟨by rfl, ?_⟩) (by assumption) ?_
  rotate_left
  ·intro w hSw; (try dsimp only at hSw); go_simp; (try with_reducible rfl)
  try simp only [Act.put, List.getElem_toArray, List.getElem_cons_zero, List.setIfInBounds_toArray, List.set_cons_zero, List.set_cons_succ]
  refine wpAnyH_take (i := 1) (v := ?_) rfl (by kernel_rfl) (by kernel_rfl) (by kernel_rfl) (fun _ _ _ h => h) (Or.inl ⟨by rfl, ?_⟩) (by assumption) ?_
  rotate_left
  ·intro w hSw; (try dsimp only at hSw); go_simp; (try with_reducible rfl)
  try simp only [Act.put, List.getElem_toArray, List.getElem_cons_zero, List.getElem_cons_succ, List.setIfInBounds_toArray, List.set_cons_zero, List.set_cons_succ]
  refine wpAnyH_take (i := 2) (v := ?_) rfl (by kernel_rfl) (by kernel_rfl) (by kernel_rfl) (fun _ _ _ h => h) (Or.inl ⟨by rfl, ?_⟩) (by assumption) ?_
  rotate_left
  ·intro w hSw; (try dsimp only at hSw); go_simp; (try with_reducible rfl)
  try simp only [Act.put, List.getElem_toArray, List.getElem_cons_zero, List.getElem_cons_succ, List.setIfInBounds_toArray, List.set_cons_zero, List.set_cons_succ]
  refine wpAnyH_take (i := 3) (v := ?_) rfl (by kernel_rfl) (by kernel_rfl) (by kernel_rfl) (fun _ _ _ h => h) (Or.inl ⟨by rfl, ?_⟩) (by assumption) ?_
  rotate_left
  ·intro w hSw; (try dsimp only at hSw); go_simp; (try with_reducible rfl)
  try simp only [Act.put, List.getElem_toArray, List.getElem_cons_zero, List.getElem_cons_succ, List.setIfInBounds_toArray, List.set_cons_zero, List.set_cons_succ]
  refine wpAnyH_take (i := 4) (v := ?_) rfl (by kernel_rfl) (by kernel_rfl) (by kernel_rfl) (fun _ _ _ h => h) (Or.inl ⟨by rfl, ?_⟩) (by assumption) ?_
  rotate_left
  ·intro w hSw; (try dsimp only at hSw); go_simp; (try with_reducible rfl)
  try simp only [Act.put, List.getElem_toArray, List.getElem_cons_zero, List.getElem_cons_succ, List.setIfInBounds_toArray, List.set_cons_zero, List.set_cons_succ]
  refine wpAnyH_take (i := 5) (v := ?_) rfl (by kernel_rfl) (by kernel_rfl) (by kernel_rfl) (fun _ _ _ h => h) (Or.inl ⟨by rfl, ?_⟩) (by assumption) ?_
  rotate_left
  ·intro w hSw; (try dsimp only at hSw); go_simp; (try with_reducible rfl)
  try simp only [Act.put, List.getElem_toArray, List.getElem_cons_zero, List.getElem_cons_succ, List.setIfInBounds_toArray, List.set_cons_zero, List.set_cons_succ]
  have H0 := Lib.hid (show Below wr.heap.size wr wr.drew from (Below.refl _ _).drew)
  clear hHeld
  generalize wr.drew = L0 at *
  refine wpAnyH_ready (rs := [6]) (by kernel_rfl) (by simp) ?_
  refine AllReadyH.cons rfl (fun K hK => ?_) AllReadyH.nil
  go_simp
  refine (HRat.out L0 H0.out).mono ?_
  rintro e L1 ⟨⟨qv, rfl, hq⟩, hb⟩
  have H1 := Lib.hid (bt H0.out hb)
  have Hq := Lib.hid (OQ.rq hq)
  refine hK.out _ _ (HS.out L1 H1.out) (fun hHeld2 => ?_)
  clear hK K hb hq
  try simp only [Act.put, List.getElem_toArray, List.getElem_cons_zero, List.getElem_cons_succ, List.setIfInBounds_toArray, List.set_cons_zero, List.set_cons_succ]
  refine wpAnyH_ready (rs := [7]) (by kernel_rfl) (by simp) ?_
  refine AllReadyH.cons rfl (fun K hK => ?_) AllReadyH.nil
  go_simp
  refine (HHas.out L1 _ H1.out Hq.out).mono ?_
  rintro e L2 ⟨he, hb⟩
  obtain rfl := he
  have hbel := bt H1.out hb
  refine hK.out _ _ (HS.out L2 hbel) (fun hHeld3 => ?_)
  clear hK K hb Hq
  try simp only [Act.put, List.getElem_toArray, List.getElem_cons_zero, List.getElem_cons_succ, List.setIfInBounds_toArray, List.set_cons_zero, List.set_cons_succ]
  refine wpAnyH_take (i := 8) (v := ?_) rfl (by kernel_rfl) (by kernel_rfl) (by kernel_rfl) (fun _ _ _ h => h) (Or.inl ⟨by rfl, ?_⟩) (by assumption) ?_
  rotate_left
  ·intro w hSw; (try dsimp only at hSw); go_simp; (try with_reducible rfl)
  try simp only [Act.put, List.getElem_toArray, List.getElem_cons_zero, List.getElem_cons_succ, List.setIfInBounds_toArray, List.set_cons_zero, List.set_cons_succ]
  refine wpAnyH_take (i := 9) (v := ?_) rfl (by kernel_rfl) (by kernel_rfl) (by kernel_rfl) (fun _ _ _ h => h) (Or.inl ⟨by rfl, ?_⟩) (by assumption) ?_
  rotate_left
  ·intro w hSw; (try dsimp only at hSw); go_simp; (try with_reducible rfl)
  try simp only [Act.put, List.getElem_toArray, List.getElem_cons_zero, List.getElem_cons_succ, List.setIfInBounds_toArray, List.set_cons_zero, List.set_cons_succ]
  refine wpAnyH_take (i := 10) (v := ?_) rfl (by kernel_rfl) (by kernel_rfl) (by kernel_rfl) (fun _ _ _ h => h) (Or.inl ⟨by rfl, ?_⟩) (by assumption) ?_
  rotate_left
  ·intro w hSw; (try dsimp only at hSw); go_simp; (try with_reducible rfl)
  try simp only [Act.put, List.getElem_toArray, List.getElem_cons_zero, List.getElem_cons_succ, List.setIfInBounds_toArray, List.set_cons_zero, List.set_cons_succ]
  refine wpAnyH_take (i := 11) (v := ?_) rfl (by kernel_rfl) (by kernel_rfl) (by kernel_rfl) (fun _ _ _ h => h) (Or.inl ⟨by rfl, ?_⟩) (by assumption) ?_
  rotate_left
  ·intro w hSw; (try dsimp only at hSw); go_simp; (try with_reducible rfl)
  try simp only [Act.put, List.getElem_toArray, List.getElem_cons_zero, List.getElem_cons_succ, List.setIfInBounds_toArray, List.set_cons_zero, List.set_cons_succ]
  refine wpAnyH_take (i := 12) (v := ?_) rfl (by kernel_rfl) (by kernel_rfl) (by kernel_rfl) (fun _ _ _ h => h) (Or.inl ⟨by rfl, ?_⟩) (by assumption) ?_
  rotate_left
  ·intro w hSw; (try dsimp only at hSw); go_simp; (try with_reducible rfl)
  try simp only [Act.put, List.getElem_toArray, List.getElem_cons_zero, List.getElem_cons_succ, List.setIfInBounds_toArray, List.set_cons_zero, List.set_cons_succ]
  refine wpAnyH_done (by kernel_rfl) ?_ _
  refine NoPanic.normal ?_
  clear HS HRat HHas H0 H1
  have HW2 := Lib.hid (bt HW.out hbel)
  clear hbel x0 x1 x2 x3 hHeld2 hHeld3 HW
  have x0 : L2.cell? ⟨b, off + k * 4, none⟩ = some (.int .i64 n) := by
   have h := ((bcell HW2.out).1 b (off + (k * 4 + 0)) hb).trans (Hcc.out k 0 Hlt.out (by decide))
   rw [HE.out] at h
   rw [show off + k * 4 = off + (k * 4 + 0) by omega]
   exact h
  have x1 : L2.cell? ⟨b, off + k * 4 + 1, none⟩ = some (zv) := by
   have h := ((bcell HW2.out).1 b (off + (k * 4 + 1)) hb).trans (Hcc.out k 1 Hlt.out (by decide))
   rw [HE.out] at h
   rw [show off + k * 4 + 1 = off + (k * 4 + 1) by omega]
   exact h
  have x2 : L2.cell? ⟨b, off + k * 4 + 2, none⟩ = some (.int .i64 c) := by
   have h := ((bcell HW2.out).1 b (off + (k * 4 + 2)) hb).trans (Hcc.out k 2 Hlt.out (by decide))
   rw [HE.out] at h
   rw [show off + k * 4 + 2 = off + (k * 4 + 2) by omega]
   exact h
  have x3 : L2.cell? ⟨b, off + k * 4 + 3, none⟩ = some (rv) := by
   have h := ((bcell HW2.out).1 b (off + (k * 4 + 3)) hb).trans (Hcc.out k 3 Hlt.out (by decide))
   rw [HE.out] at h
   rw [show off + k * 4 + 3 = off + (k * 4 + 3) by omega]
   exact h
  go_wp2_with fail
  refine (ref_pcheck n c _ _ xs rs _ (HZ1.out.1.keepb HW2.out) (HZ1.out.2.keepb HW2.out)).mono ?_
  rintro e w3 ⟨rfl, hb3⟩
  have HW3 := Lib.hid (bt HW2.out hb3)
  clear hb3 x0 x1 x2 x3 HW2
  cases hpz : pzB n xs c rs with
  | false =>
   rw [pzE_no hpz]
   have HN2 := Lib.hid (show (L.take (k + 1)).foldl (toldS (rat1 vs)) (0, false) = (a, fd) by rw [HN.out, toldS_no]; intro h; rw [show pzB n xs c rs = false from hpz] at h; cases h.1)
   go_wp2_with fail
   go_roundw
   case rel => exact ⟨k + 1, a, fd, by omega, by go_num, rfl, rfl, HN2.out, HW3.out⟩
   case measure => simp [intOf]; omega
  | true =>
   rw [pzE_yes hpz]
   cases hh with
   | false =>
    have HN2 := Lib.hid (show (L.take (k + 1)).foldl (toldS (rat1 vs)) (0, false) = (a, fd) by rw [HN.out, toldS_no]; intro h; have h2 := h.2; rw [show hasF n xs (rat1 vs) = (false, hxe) from HH.out] at h2; cases h2)
    go_wp2_with fail
    go_roundw
    case rel => exact ⟨k + 1, a, fd, by omega, by go_num, rfl, rfl, HN2.out, HW3.out⟩
    case measure => simp [intOf]; omega
   | true =>
    obtain ⟨an, ad, ae, hA⟩ : ∃ p q r, patF n xs c rs (rat1 vs) = ((p, q), r) := ⟨_, _, _, rfl⟩
    have HRat := Lib.hid (fun (X : World) (hX : Below w3.heap.size w3 X) => law_ratios _ vs X (Hv.out.keepb (bt HW3.out hX)) hn HB.out)
    have HAt := Lib.hid (fun (X : World) (qv : Value) (hX : Below w3.heap.size w3 X) (hq : RQ X.heap.size X qv (rat1 vs)) => by
     have h := ref_pat n c zv rv qv xs rs (rat1 vs) X (HZ1.out.1.keepb (bt HW3.out hX)) (HZ1.out.2.keepb (bt HW3.out hX)) hq
     rw [hA] at h
     exact h)
    have HN2 := Lib.hid (show (L.take (k + 1)).foldl (toldS (rat1 vs)) (0, false) = if ae = 0 ∧ ad = 1 ∧ (fd = false ∨ an < a) then (an, true) else (a, fd) by rw [HN.out]; exact toldS_in hpz (by rw [show hasF n xs (rat1 vs) = (true, hxe) from HH.out]) hA)
    clear hA HH HN hpz
    have x0 : w3.cell? ⟨b, off + k * 4, none⟩ = some (.int .i64 n) := by
     have h := ((bcell HW3.out).1 b (off + (k * 4 + 0)) hb).trans (Hcc.out k 0 Hlt.out (by decide))
     rw [HE.out] at h
     rw [show off + k * 4 = off + (k * 4 + 0) by omega]
     exact h
    have x1 : w3.cell? ⟨b, off + k * 4 + 1, none⟩ = some (zv) := by
     have h := ((bcell HW3.out).1 b (off + (k * 4 + 1)) hb).trans (Hcc.out k 1 Hlt.out (by decide))
     rw [HE.out] at h
     rw [show off + k * 4 + 1 = off + (k * 4 + 1) by omega]
     exact h
    have x2 : w3.cell? ⟨b, off + k * 4 + 2, none⟩ = some (.int .i64 c) := by
     have h := ((bcell HW3.out).1 b (off + (k * 4 + 2)) hb).trans (Hcc.out k 2 Hlt.out (by decide))
     rw [HE.out] at h
     rw [show off + k * 4 + 2 = off + (k * 4 + 2) by omega]
     exact h
    have x3 : w3.cell? ⟨b, off + k * 4 + 3, none⟩ = some (rv) := by
     have h := ((bcell HW3.out).1 b (off + (k * 4 + 3)) hb).trans (Hcc.out k 3 Hlt.out (by decide))
     rw [HE.out] at h
     rw [show off + k * 4 + 3 = off + (k * 4 + 3) by omega]
     exact h
    go_upto_region 7 with fail
    have HS := Lib.hid (fun (X : World) (hX : Below w3.heap.size w3 X) => (⟨keepb x0 hX, keepb x1 hX, keepb x2 hX, keepb x3 hX⟩ : X.cell? ⟨b, off + k * 4, none⟩ = some (.int .i64 n) ∧ X.cell? ⟨b, off + k * 4 + 1, none⟩ = some (zv) ∧ X.cell? ⟨b, off + k * 4 + 2, none⟩ = some (.int .i64 c) ∧ X.cell? ⟨b, off + k * 4 + 3, none⟩ = some (rv)))
    go_cut [11, 12] (fun s6 s7 wx => s7 = .int .i64 ae ∧ ∃ bx, s6 = .pointer (some ⟨bx, 0, none⟩) ∧ wx.heap[bx]? = some (.cells #[.int .i64 an, .int .i64 ad] 56 (0, 0)) ∧ w3.heap.size ≤ bx ∧ Below w3.heap.size w3 wx)
    case first =>
     refine wp_region_noPanic ?_
     refine wp_region_held_drew (S := (fun w' => w'.cell? ⟨b, off + k * 4, none⟩ = some (.int .i64 n) ∧ w'.cell? ⟨b, off + k * 4 + 1, none⟩ = some (zv) ∧ w'.cell? ⟨b, off + k * 4 + 2, none⟩ = some (.int .i64 c) ∧ w'.cell? ⟨b, off + k * 4 + 3, none⟩ = some (rv))) (by kernel_rfl) ⟨x0, x1, x2, x3⟩ (fun hHeld => ?_)
     refine wpAnyH_take (i := 0) (v := ?_) rfl (by kernel_rfl) (by kernel_rfl) (by kernel_rfl) (fun _ _ _ h => h) (Or.inl ⟨by rfl, ?_⟩) (by assumption) ?_
     rotate_left
     ·intro w hSw; (try dsimp only at hSw); go_simp; (try with_reducible rfl)
     try simp only [Act.put, List.getElem_toArray, List.getElem_cons_zero, List.setIfInBounds_toArray, List.set_cons_zero, List.set_cons_succ]
     refine wpAnyH_take (i := 1) (v := ?_) rfl (by kernel_rfl) (by kernel_rfl) (by kernel_rfl) (fun _ _ _ h => h) (Or.inl ⟨by rfl, ?_⟩) (by assumption) ?_
     rotate_left
     ·intro w hSw; (try dsimp only at hSw); go_simp; (try with_reducible rfl)
     try simp only [Act.put, List.getElem_toArray, List.getElem_cons_zero, List.getElem_cons_succ, List.setIfInBounds_toArray, List.set_cons_zero, List.set_cons_succ]
     refine wpAnyH_take (i := 2) (v := ?_) rfl (by kernel_rfl) (by kernel_rfl) (by kernel_rfl) (fun _ _ _ h => h) (Or.inl ⟨by rfl, ?_⟩) (by assumption) ?_
     rotate_left
     ·intro w hSw; (try dsimp only at hSw); go_simp; (try with_reducible rfl)
     try simp only [Act.put, List.getElem_toArray, List.getElem_cons_zero, List.getElem_cons_succ, List.setIfInBounds_toArray, List.set_cons_zero, List.set_cons_succ]
     refine wpAnyH_take (i := 3) (v := ?_) rfl (by kernel_rfl) (by kernel_rfl) (by kernel_rfl) (fun _ _ _ h => h) (Or.inl ⟨by rfl, ?_⟩) (by assumption) ?_
     rotate_left
     ·intro w hSw; (try dsimp only at hSw); go_simp; (try with_reducible rfl)
     try simp only [Act.put, List.getElem_toArray, List.getElem_cons_zero, List.getElem_cons_succ, List.setIfInBounds_toArray, List.set_cons_zero, List.set_cons_succ]
     refine wpAnyH_take (i := 4) (v := ?_) rfl (by kernel_rfl) (by kernel_rfl) (by kernel_rfl) (fun _ _ _ h => h) (Or.inl ⟨by rfl, ?_⟩) (by assumption) ?_
     rotate_left
     ·intro w hSw; (try dsimp only at hSw); go_simp; (try with_reducible rfl)
     try simp only [Act.put, List.getElem_toArray, List.getElem_cons_zero, List.getElem_cons_succ, List.setIfInBounds_toArray, List.set_cons_zero, List.set_cons_succ]
     have H0 := Lib.hid (show Below w3.heap.size w3 w3.drew from (Below.refl _ _).drew)
     clear hHeld
     generalize w3.drew = L0 at *
     refine wpAnyH_ready (rs := [5, 10]) (by kernel_rfl) (by simp) ?_
     refine AllReadyH.cons rfl (fun K hK => ?_) (AllReadyH.cons rfl (fun K hK => ?_) (AllReadyH.nil))
     ·skip
      go_simp
      refine (HRat.out L0 H0.out).mono ?_
      rintro e L1 ⟨⟨qv, rfl, hq⟩, hb⟩
      have H1 := Lib.hid (bt H0.out hb)
      have Hq := Lib.hid (OQ.rq hq)
      refine hK.out _ _ (HS.out L1 H1.out) (fun hHeld2 => ?_)
      clear hK K hb hq
      try simp only [Act.put, List.getElem_toArray, List.getElem_cons_zero, List.getElem_cons_succ, List.setIfInBounds_toArray, List.set_cons_zero, List.set_cons_succ]
      refine wpAnyH_ready (rs := [6, 10]) (by kernel_rfl) (by simp) ?_
      refine AllReadyH.cons rfl (fun K hK => ?_) (AllReadyH.cons rfl (fun K hK => ?_) (AllReadyH.nil))
      ·skip
       go_simp
       refine (HAt.out L1 _ H1.out Hq.out).mono ?_
       rintro e L2 ⟨he, hb⟩
       obtain rfl := he
       have H2 := Lib.hid (bt H1.out hb)
       refine hK.out _ _ (HS.out L2 H2.out) (fun hHeld2 => ?_)
       clear hK K hb Hq
       try simp only [Act.put, List.getElem_toArray, List.getElem_cons_zero, List.getElem_cons_succ, List.setIfInBounds_toArray, List.set_cons_zero, List.set_cons_succ]
       refine wpAnyH_take (i := 7) (v := ?_) rfl (by kernel_rfl) (by kernel_rfl) (by kernel_rfl) (fun _ _ _ h => h) (Or.inl ⟨by rfl, ?_⟩) (by assumption) ?_
       rotate_left
       ·intro w hSw; (try dsimp only at hSw); go_simp; (try with_reducible rfl)
       try simp only [Act.put, List.getElem_toArray, List.getElem_cons_zero, List.getElem_cons_succ, List.setIfInBounds_toArray, List.set_cons_zero, List.set_cons_succ]
       refine wpAnyH_take (i := 8) (v := ?_) rfl (by kernel_rfl) (by kernel_rfl) (by kernel_rfl) (fun _ _ _ h => h) (Or.inl ⟨by rfl, ?_⟩) (by assumption) ?_
       rotate_left
       ·intro w hSw; (try dsimp only at hSw); go_simp; (try with_reducible rfl)
       try simp only [Act.put, List.getElem_toArray, List.getElem_cons_zero, List.getElem_cons_succ, List.setIfInBounds_toArray, List.set_cons_zero, List.set_cons_succ]
       refine wpAnyH_take (i := 9) (v := ?_) rfl (by kernel_rfl) (by kernel_rfl) (by kernel_rfl) (fun _ _ _ h => h) (Or.inl ⟨by rfl, ?_⟩) (by assumption) ?_
       rotate_left
       ·intro w hSw; (try dsimp only at hSw); go_simp; (try with_reducible rfl)
       try simp only [Act.put, List.getElem_toArray, List.getElem_cons_zero, List.getElem_cons_succ, List.setIfInBounds_toArray, List.set_cons_zero, List.set_cons_succ]
       refine wpAnyH_ready (rs := [10]) (by kernel_rfl) (by simp) ?_
       refine AllReadyH.cons rfl (fun K hK => ?_) (AllReadyH.nil)
       ·skip
        go_simp
        have H3' := bal H2.out (.cells #[.int .i64 0, .int .i64 0] 56)
        have Hbx' := heap_alloc_new L2 (.cells #[.int .i64 0, .int .i64 0] 56)
        have Hge' := H2.out.size
        refine hK.out _ _ (HS.out _ H3') (fun hHeld2 => ?_)
        clear hK K
        generalize hgen : World.alloc L2 _ = L3 at *
        clear hgen
        generalize L2.heap.size = bx at *
        have H3 := Lib.hid H3'
        have Hbx := Lib.hid Hbx'
        have Hge := Lib.hid Hge'
        clear H3' Hbx' Hge'
        try simp only [Act.put, List.getElem_toArray, List.getElem_cons_zero, List.getElem_cons_succ, List.setIfInBounds_toArray, List.set_cons_zero, List.set_cons_succ]
        refine wpAnyH_ready (rs := [11]) (by kernel_rfl) (by simp) ?_
        refine AllReadyH.cons rfl (fun K hK => ?_) (AllReadyH.nil)
        ·skip
         have t0 := cell_of_row _ bx 0 _ _ _ Hbx.out
         have t1 := cell_of_row _ bx 1 _ _ _ Hbx.out
         have f0 := frozen_of_row _ bx 0 _ _ Hbx.out
         have f1 := frozen_of_row _ bx 1 _ _ Hbx.out
         have HF1 := Lib.hid (heap_setCell_same _ bx 1 _ _ (.int .i64 ad) (heap_setCell_same _ bx 0 _ _ (.int .i64 an) Hbx.out))
         have HF3 := Lib.hid ((H3.out.setCell (p := ⟨bx, 0, none⟩) Hge.out (.int .i64 an)).setCell (p := ⟨bx, 1, none⟩) Hge.out (.int .i64 ad))
         go_simp
         refine hK.out _ _ (HS.out _ HF3.out) (fun hHeld2 => ?_)
         clear hK K t0 t1 f0 f1
         try simp only [Act.put, List.getElem_toArray, List.getElem_cons_zero, List.getElem_cons_succ, List.setIfInBounds_toArray, List.set_cons_zero, List.set_cons_succ]
         refine wpAnyH_take (i := 12) (v := ?_) rfl (by kernel_rfl) (by kernel_rfl) (by kernel_rfl) (fun _ _ _ h => h) (Or.inl ⟨by rfl, ?_⟩) (by assumption) ?_
         rotate_left
         ·intro w hSw; (try dsimp only at hSw); go_simp; (try with_reducible rfl)
         try simp only [Act.put, List.getElem_toArray, List.getElem_cons_zero, List.getElem_cons_succ, List.setIfInBounds_toArray, List.set_cons_zero, List.set_cons_succ]
         refine wpAnyH_done (by kernel_rfl) ?_ _
         refine NoPanic.normal ?_
         go_wp2_with fail
         go_meet
         exact ⟨rfl, bx, rfl, HF1.out, Hge.out, HF3.out⟩
      ·skip
       go_simp
       have H2' := bal H1.out (.cells #[.int .i64 0, .int .i64 0] 56)
       have Hbx' := heap_alloc_new L1 (.cells #[.int .i64 0, .int .i64 0] 56)
       have Hge' := H1.out.size
       have Hq' := RQ.keepb Hq.out ((Below.refl L1.heap.size L1).alloc (Nat.le_refl _) (.cells #[.int .i64 0, .int .i64 0] 56))
       refine hK.out _ _ (HS.out _ H2') (fun hHeld2 => ?_)
       clear hK K
       generalize hgen : World.alloc L1 _ = L2 at *
       clear hgen
       generalize L1.heap.size = bx at *
       have H2 := Lib.hid H2'
       have Hbx := Lib.hid Hbx'
       have Hge := Lib.hid Hge'
       clear Hq
       have Hq := Lib.hid Hq'
       clear Hq'
       clear H2' Hbx' Hge'
       try simp only [Act.put, List.getElem_toArray, List.getElem_cons_zero, List.getElem_cons_succ, List.setIfInBounds_toArray, List.set_cons_zero, List.set_cons_succ]
       refine wpAnyH_ready (rs := [6]) (by kernel_rfl) (by simp) ?_
       refine AllReadyH.cons rfl (fun K hK => ?_) (AllReadyH.nil)
       ·skip
        go_simp
        refine (HAt.out L2 _ H2.out Hq.out).mono ?_
        rintro e L3 ⟨he, hb⟩
        obtain rfl := he
        have H3 := Lib.hid (bt H2.out hb)
        replace Hbx := Lib.hid (hp_keep4 Hbx.out hb)
        refine hK.out _ _ (HS.out L3 H3.out) (fun hHeld2 => ?_)
        clear hK K hb Hq
        try simp only [Act.put, List.getElem_toArray, List.getElem_cons_zero, List.getElem_cons_succ, List.setIfInBounds_toArray, List.set_cons_zero, List.set_cons_succ]
        refine wpAnyH_take (i := 7) (v := ?_) rfl (by kernel_rfl) (by kernel_rfl) (by kernel_rfl) (fun _ _ _ h => h) (Or.inl ⟨by rfl, ?_⟩) (by assumption) ?_
        rotate_left
        ·intro w hSw; (try dsimp only at hSw); go_simp; (try with_reducible rfl)
        try simp only [Act.put, List.getElem_toArray, List.getElem_cons_zero, List.getElem_cons_succ, List.setIfInBounds_toArray, List.set_cons_zero, List.set_cons_succ]
        refine wpAnyH_take (i := 8) (v := ?_) rfl (by kernel_rfl) (by kernel_rfl) (by kernel_rfl) (fun _ _ _ h => h) (Or.inl ⟨by rfl, ?_⟩) (by assumption) ?_
        rotate_left
        ·intro w hSw; (try dsimp only at hSw); go_simp; (try with_reducible rfl)
        try simp only [Act.put, List.getElem_toArray, List.getElem_cons_zero, List.getElem_cons_succ, List.setIfInBounds_toArray, List.set_cons_zero, List.set_cons_succ]
        refine wpAnyH_take (i := 9) (v := ?_) rfl (by kernel_rfl) (by kernel_rfl) (by kernel_rfl) (fun _ _ _ h => h) (Or.inl ⟨by rfl, ?_⟩) (by assumption) ?_
        rotate_left
        ·intro w hSw; (try dsimp only at hSw); go_simp; (try with_reducible rfl)
        try simp only [Act.put, List.getElem_toArray, List.getElem_cons_zero, List.getElem_cons_succ, List.setIfInBounds_toArray, List.set_cons_zero, List.set_cons_succ]
        refine wpAnyH_ready (rs := [11]) (by kernel_rfl) (by simp) ?_
        refine AllReadyH.cons rfl (fun K hK => ?_) (AllReadyH.nil)
        ·skip
         have t0 := cell_of_row _ bx 0 _ _ _ Hbx.out
         have t1 := cell_of_row _ bx 1 _ _ _ Hbx.out
         have f0 := frozen_of_row _ bx 0 _ _ Hbx.out
         have f1 := frozen_of_row _ bx 1 _ _ Hbx.out
         have HF1 := Lib.hid (heap_setCell_same _ bx 1 _ _ (.int .i64 ad) (heap_setCell_same _ bx 0 _ _ (.int .i64 an) Hbx.out))
         have HF3 := Lib.hid ((H3.out.setCell (p := ⟨bx, 0, none⟩) Hge.out (.int .i64 an)).setCell (p := ⟨bx, 1, none⟩) Hge.out (.int .i64 ad))
         go_simp
         refine hK.out _ _ (HS.out _ HF3.out) (fun hHeld2 => ?_)
         clear hK K t0 t1 f0 f1
         try simp only [Act.put, List.getElem_toArray, List.getElem_cons_zero, List.getElem_cons_succ, List.setIfInBounds_toArray, List.set_cons_zero, List.set_cons_succ]
         refine wpAnyH_take (i := 12) (v := ?_) rfl (by kernel_rfl) (by kernel_rfl) (by kernel_rfl) (fun _ _ _ h => h) (Or.inl ⟨by rfl, ?_⟩) (by assumption) ?_
         rotate_left
         ·intro w hSw; (try dsimp only at hSw); go_simp; (try with_reducible rfl)
         try simp only [Act.put, List.getElem_toArray, List.getElem_cons_zero, List.getElem_cons_succ, List.setIfInBounds_toArray, List.set_cons_zero, List.set_cons_succ]
         refine wpAnyH_done (by kernel_rfl) ?_ _
         refine NoPanic.normal ?_
         go_wp2_with fail
         go_meet
         exact ⟨rfl, bx, rfl, HF1.out, Hge.out, HF3.out⟩
     ·skip
      go_simp
      have H1' := bal H0.out (.cells #[.int .i64 0, .int .i64 0] 56)
      have Hbx' := heap_alloc_new L0 (.cells #[.int .i64 0, .int .i64 0] 56)
      have Hge' := H0.out.size
      refine hK.out _ _ (HS.out _ H1') (fun hHeld2 => ?_)
      clear hK K
      generalize hgen : World.alloc L0 _ = L1 at *
      clear hgen
      generalize L0.heap.size = bx at *
      have H1 := Lib.hid H1'
      have Hbx := Lib.hid Hbx'
      have Hge := Lib.hid Hge'
      clear H1' Hbx' Hge'
      try simp only [Act.put, List.getElem_toArray, List.getElem_cons_zero, List.getElem_cons_succ, List.setIfInBounds_toArray, List.set_cons_zero, List.set_cons_succ]
      refine wpAnyH_ready (rs := [5]) (by kernel_rfl) (by simp) ?_
      refine AllReadyH.cons rfl (fun K hK => ?_) (AllReadyH.nil)
      ·skip
       go_simp
       refine (HRat.out L1 H1.out).mono ?_
       rintro e L2 ⟨⟨qv, rfl, hq⟩, hb⟩
       have H2 := Lib.hid (bt H1.out hb)
       have Hq := Lib.hid (OQ.rq hq)
       replace Hbx := Lib.hid (hp_keep4 Hbx.out hb)
       refine hK.out _ _ (HS.out L2 H2.out) (fun hHeld2 => ?_)
       clear hK K hb hq
       try simp only [Act.put, List.getElem_toArray, List.getElem_cons_zero, List.getElem_cons_succ, List.setIfInBounds_toArray, List.set_cons_zero, List.set_cons_succ]
       refine wpAnyH_ready (rs := [6]) (by kernel_rfl) (by simp) ?_
       refine AllReadyH.cons rfl (fun K hK => ?_) (AllReadyH.nil)
       ·skip
        go_simp
        refine (HAt.out L2 _ H2.out Hq.out).mono ?_
        rintro e L3 ⟨he, hb⟩
        obtain rfl := he
        have H3 := Lib.hid (bt H2.out hb)
        replace Hbx := Lib.hid (hp_keep4 Hbx.out hb)
        refine hK.out _ _ (HS.out L3 H3.out) (fun hHeld2 => ?_)
        clear hK K hb Hq
        try simp only [Act.put, List.getElem_toArray, List.getElem_cons_zero, List.getElem_cons_succ, List.setIfInBounds_toArray, List.set_cons_zero, List.set_cons_succ]
        refine wpAnyH_take (i := 7) (v := ?_) rfl (by kernel_rfl) (by kernel_rfl) (by kernel_rfl) (fun _ _ _ h => h) (Or.inl ⟨by rfl, ?_⟩) (by assumption) ?_
        rotate_left
        ·intro w hSw; (try dsimp only at hSw); go_simp; (try with_reducible rfl)
        try simp only [Act.put, List.getElem_toArray, List.getElem_cons_zero, List.getElem_cons_succ, List.setIfInBounds_toArray, List.set_cons_zero, List.set_cons_succ]
        refine wpAnyH_take (i := 8) (v := ?_) rfl (by kernel_rfl) (by kernel_rfl) (by kernel_rfl) (fun _ _ _ h => h) (Or.inl ⟨by rfl, ?_⟩) (by assumption) ?_
        rotate_left
        ·intro w hSw; (try dsimp only at hSw); go_simp; (try with_reducible rfl)
        try simp only [Act.put, List.getElem_toArray, List.getElem_cons_zero, List.getElem_cons_succ, List.setIfInBounds_toArray, List.set_cons_zero, List.set_cons_succ]
        refine wpAnyH_take (i := 9) (v := ?_) rfl (by kernel_rfl) (by kernel_rfl) (by kernel_rfl) (fun _ _ _ h => h) (Or.inl ⟨by rfl, ?_⟩) (by assumption) ?_
        rotate_left
        ·intro w hSw; (try dsimp only at hSw); go_simp; (try with_reducible rfl)
        try simp only [Act.put, List.getElem_toArray, List.getElem_cons_zero, List.getElem_cons_succ, List.setIfInBounds_toArray, List.set_cons_zero, List.set_cons_succ]
        refine wpAnyH_ready (rs := [11]) (by kernel_rfl) (by simp) ?_
        refine AllReadyH.cons rfl (fun K hK => ?_) (AllReadyH.nil)
        ·skip
         have t0 := cell_of_row _ bx 0 _ _ _ Hbx.out
         have t1 := cell_of_row _ bx 1 _ _ _ Hbx.out
         have f0 := frozen_of_row _ bx 0 _ _ Hbx.out
         have f1 := frozen_of_row _ bx 1 _ _ Hbx.out
         have HF1 := Lib.hid (heap_setCell_same _ bx 1 _ _ (.int .i64 ad) (heap_setCell_same _ bx 0 _ _ (.int .i64 an) Hbx.out))
         have HF3 := Lib.hid ((H3.out.setCell (p := ⟨bx, 0, none⟩) Hge.out (.int .i64 an)).setCell (p := ⟨bx, 1, none⟩) Hge.out (.int .i64 ad))
         go_simp
         refine hK.out _ _ (HS.out _ HF3.out) (fun hHeld2 => ?_)
         clear hK K t0 t1 f0 f1
         try simp only [Act.put, List.getElem_toArray, List.getElem_cons_zero, List.getElem_cons_succ, List.setIfInBounds_toArray, List.set_cons_zero, List.set_cons_succ]
         refine wpAnyH_take (i := 12) (v := ?_) rfl (by kernel_rfl) (by kernel_rfl) (by kernel_rfl) (fun _ _ _ h => h) (Or.inl ⟨by rfl, ?_⟩) (by assumption) ?_
         rotate_left
         ·intro w hSw; (try dsimp only at hSw); go_simp; (try with_reducible rfl)
         try simp only [Act.put, List.getElem_toArray, List.getElem_cons_zero, List.getElem_cons_succ, List.setIfInBounds_toArray, List.set_cons_zero, List.set_cons_succ]
         refine wpAnyH_done (by kernel_rfl) ?_ _
         refine NoPanic.normal ?_
         go_wp2_with fail
         go_meet
         exact ⟨rfl, bx, rfl, HF1.out, Hge.out, HF3.out⟩
    case rest =>
     obtain ⟨rfl, bx, rfl, hbx, hge, hbel⟩ := hcut
     clear HS HRat HAt
     have HW4 := Lib.hid (bt HW3.out hbel)
     have t0 := cell_of_row _ bx 0 _ _ _ hbx
     have t1 := cell_of_row _ bx 1 _ _ _ hbx
     clear hbel x0 x1 x2 x3 hbx HW3
     by_cases h1 : ae = 0
     rotate_left
     ·have h1' : (ae == 0) = false := by simpa using h1
      have HN3 := Lib.hid (show (L.take (k + 1)).foldl (toldS (rat1 vs)) (0, false) = (a, fd) by rw [HN2.out, if_neg (fun h => h1 h.1)])
      clear HN2
      go_wp2_with fail
      go_roundw
      case rel => exact ⟨k + 1, a, fd, by omega, by go_num, rfl, rfl, HN3.out, HW4.out⟩
      case measure => simp [intOf]; omega
     have h1' : (ae == 0) = true := by simpa using h1
     by_cases h2 : ad = 1
     rotate_left
     ·have h2' : (ad == 1) = false := by simpa using h2
      have HN3 := Lib.hid (show (L.take (k + 1)).foldl (toldS (rat1 vs)) (0, false) = (a, fd) by rw [HN2.out, if_neg (fun h => h2 h.2.1)])
      clear HN2
      go_wp2_with fail
      go_roundw
      case rel => exact ⟨k + 1, a, fd, by omega, by go_num, rfl, rfl, HN3.out, HW4.out⟩
      case measure => simp [intOf]; omega
     have h2' : (ad == 1) = true := by simpa using h2
     cases fd with
     | false =>
      have HN3 := Lib.hid (show (L.take (k + 1)).foldl (toldS (rat1 vs)) (0, false) = (an, true) by rw [HN2.out, if_pos ⟨h1, h2, .inl rfl⟩])
      clear HN2
      go_wp2_with fail
      go_roundw
      case rel => exact ⟨k + 1, an, true, by omega, by go_num, rfl, rfl, HN3.out, HW4.out⟩
      case measure => simp [intOf]; omega
     | true =>
      by_cases h3 : an < a
      ·have h3' : decide (an < a) = true := by simpa using h3
       have HN3 := Lib.hid (show (L.take (k + 1)).foldl (toldS (rat1 vs)) (0, false) = (an, true) by rw [HN2.out, if_pos ⟨h1, h2, .inr h3⟩])
       clear HN2
       go_wp2_with fail
       go_roundw
       case rel => exact ⟨k + 1, an, true, by omega, by go_num, rfl, rfl, HN3.out, HW4.out⟩
       case measure => simp [intOf]; omega
      ·have h3' : decide (an < a) = false := by simpa using h3
       have HN3 := Lib.hid (show (L.take (k + 1)).foldl (toldS (rat1 vs)) (0, false) = (a, true) by rw [HN2.out, if_neg (fun h => by rcases h.2.2 with h | h <;> first | cases h | exact h3 h)])
       clear HN2
       go_wp2_with fail
       go_roundw
       case rel => exact ⟨k + 1, a, true, by omega, by go_num, rfl, rfl, HN3.out, HW4.out⟩
       case measure => simp [intOf]; omega
set_option linter.unusedVariables false
def Mn (S : Int → Prop) (r : Int × Bool) : Prop := (r = (0, false) ∧ ∀ x, ¬ S x) ∨ (r.2 = true ∧ S r.1 ∧ ∀ x, S x → r.1 ≤ x)
theorem Mn.none : Mn (fun _ => False) (0, false) := .inl ⟨rfl, fun _ h => h⟩
theorem Mn.congr {S S' : Int → Prop} {r : Int × Bool} (h : Mn S r) (e : ∀ x, S x ↔ S' x) : Mn S' r := by
 rcases h with ⟨h1, h2⟩ | ⟨h1, h2, h3⟩
 ·exact .inl ⟨h1, fun x k => h2 x ((e x).2 k)⟩
 ·exact .inr ⟨h1, (e _).1 h2, fun x k => h3 x ((e x).2 k)⟩
theorem Mn.step {S : Int → Prop} {r : Int × Bool} (h : Mn S r) (x : Int) : Mn (fun y => S y ∨ y = x) (if r.2 = false ∨ x < r.1 then (x, true) else r) := by
 rcases h with ⟨h1, h2⟩ | ⟨h1, h2, h3⟩
 ·subst h1
  rw [if_pos (.inl rfl)]
  exact .inr ⟨rfl, .inr rfl, fun y hy => by
   rcases hy with hy | hy
   ·exact absurd hy (h2 y)
   ·rw [hy]; exact Int.le_refl _⟩
 ·by_cases c : x < r.1
  ·rw [if_pos (.inr c)]
   exact .inr ⟨rfl, .inr rfl, fun y hy => by
    rcases hy with hy | hy
    ·exact Int.le_trans (Int.le_of_lt c) (h3 y hy)
    ·rw [hy]; exact Int.le_refl _⟩
  ·rw [if_neg (by rw [h1]; simp; omega)]
   exact .inr ⟨h1, .inl h2, fun y hy => by
    rcases hy with hy | hy
    ·exact h3 y hy
    ·rw [hy]; omega⟩
theorem Mn.eq {S S' : Int → Prop} {r r' : Int × Bool} (h : Mn S r) (h' : Mn S' r') (h1 : ∀ x, S x → S' x) (h2 : ∀ y, S' y → ∃ x, S x ∧ x ≤ y) : r = r' := by
 rcases h with ⟨e, n⟩ | ⟨e, s, m⟩
 ·rcases h' with ⟨e', n'⟩ | ⟨e', s', m'⟩
  ·rw [e, e']
  ·obtain ⟨x, hx, _⟩ := h2 _ s'
   exact absurd hx (n x)
 ·rcases h' with ⟨e', n'⟩ | ⟨e', s', m'⟩
  ·exact absurd (h1 _ s) (n' _)
  ·obtain ⟨x, hx, hl⟩ := h2 _ s'
   have a := m x hx
   have b := m' _ (h1 _ s)
   exact Prod.ext (by omega) (by rw [e, e'])
theorem told_mn {ps : List (Int × Int)} {V : Pv → Int} {I : Pv → Prop} : ∀ (l : List Pv) (acc : Int × Bool) (S : Int → Prop), Mn S acc → (∀ P, P ∈ l → pzB P.n P.xs P.c P.rs = true ∧ ((hasF P.n P.xs ps).1 = true ↔ I P) ∧ (I P → patF P.n P.xs P.c P.rs ps = ((V P, 1), 0))) →
    Mn (fun x => S x ∨ ∃ P, P ∈ l ∧ I P ∧ x = V P) (l.foldl (toldS ps) acc)
  | [], acc, S, h, _ => h.congr (fun x => ⟨.inl, fun h => by
      rcases h with h | ⟨P, hP, _⟩
      · exact h
      · cases hP⟩)
  | P :: l, acc, S, h, hl => by
    obtain ⟨q1, q2, q3⟩ := hl P (.head _)
    have rest := fun Q (hQ : Q ∈ l) => hl Q (.tail _ hQ)
    show Mn _ (l.foldl (toldS ps) (toldS ps acc P))
    by_cases hi : I P
    · have e : toldS ps acc P = if acc.2 = false ∨ V P < acc.1 then (V P, true) else acc := by
        rw [toldS_in q1 (q2.2 hi) (q3 hi)]
        simp
      rw [e]
      refine (told_mn l _ _ (h.step (V P)) rest).congr (fun x => ?_)
      constructor
      · rintro ((h | h) | ⟨Q, a, b, c⟩)
        · exact .inl h
        · exact .inr ⟨P, .head _, hi, h⟩
        · exact .inr ⟨Q, .tail _ a, b, c⟩
      · rintro (h | ⟨Q, a, b, c⟩)
        · exact .inl (.inl h)
        · cases a with
          | head => exact .inl (.inr c)
          | tail _ a => exact .inr ⟨Q, a, b, c⟩
    · rw [toldS_no (fun h => hi (q2.1 h.2))]
      refine (told_mn l _ _ h rest).congr (fun x => ?_)
      constructor
      · rintro (h | ⟨Q, a, b, c⟩)
        · exact .inl h
        · exact .inr ⟨Q, .tail _ a, b, c⟩
      · rintro (h | ⟨Q, a, b, c⟩)
        · exact .inl h
        · cases a with
          | head => exact absurd b hi
          | tail _ a => exact .inr ⟨Q, a, b, c⟩
theorem SmZ.at {N : Nat} {xs : List Int} {c : Int} {rs : List Int} (hz : SmZ N xs c rs) {p : Nat → Int} (hp : Sp9 N p) : patF N xs c rs (ipts p N) = ((cS N xs c rs p N, 1), 0) ∧ -10000000 ≤ cS N xs c rs p N ∧ cS N xs c rs p N ≤ 10000000 := by
 have cb := hz.cb
 have n3 := hz.n3
 have hd : ∀ k, 1 ≤ k → k ≤ N → -1020 ≤ p k - lowF N xs k ∧ p k - lowF N xs k ≤ 1020 := fun k h1 h2 => by have := hp.b k h2; have := hz.low h2; omega
 have b := cS_bd (c := c) hz.rb hd N (Nat.le_refl _)
 have hN : (N : Int) ≤ 3 := by omega
 exact ⟨at_int n3 hz.pz hp (by omega) (fun k hk => by have := hz.rb k hk; omega) (fun k h1 h2 => by have := hz.low h2; omega), by omega, by omega⟩
set_option linter.unusedVariables false
def atF (N : Nat) (xs : List Int) (x : Nat) (s : Int) (j : Nat) : Int := if s < 0 then ent N xs x j / 2 else -(ent N xs j x / 2)
def noF (N : Nat) (xs : List Int) (x : Nat) (s : Int) (j : Nat) : Bool := if s < 0 then decide (ent N xs x j = 1099511627776) else decide (ent N xs j x = 1099511627776)
def isF (N : Nat) (xs : List Int) (x : Nat) (s : Int) (j : Nat) : Bool := !noF N xs x s j && decide (j ≠ x)
theorem at_bd {N : Nat} {xs : List Int} (h : OkZ N xs) {x j : Nat} (hx : x ≤ N) (hj : j ≤ N) (s : Int) : -549755813888 ≤ atF N xs x s j ∧ atF N xs x s j ≤ 549755813888 := by
 have h1 := ent_bd h hx hj
 have h2 := ent_bd h hj hx
 unfold atF
 split <;> omega
def rkTo (N : Nat) (xs : List Int) (x : Nat) (s : Int) (j : Nat) : Nat → List K3
 | 0 => []
 | k + 1 => if k = j ∨ isF N xs x s k = false then rkTo N xs x s j k else rkTo N xs x s j k ++ [if s < 0 then wk j k (atF N xs x s k - atF N xs x s j) else wk k j (atF N xs x s j - atF N xs x s k)]
theorem rkTo_len (N : Nat) (xs : List Int) (x : Nat) (s : Int) (j : Nat) : ∀ k, (rkTo N xs x s j k).length ≤ k
  | 0 => Nat.le_refl _
  | k + 1 => by
    have := rkTo_len N xs x s j k
    unfold rkTo
    split
    · omega
    · rw [List.length_append, List.length_singleton]; omega
theorem rkTo_same {N : Nat} {xs : List Int} {x : Nat} {s : Int} {j k : Nat} (h : k = j ∨ isF N xs x s k = false) : rkTo N xs x s j (k + 1) = rkTo N xs x s j k := by
 show (if k = j ∨ _ then _ else _) = _
 rw [if_pos h]
theorem rkTo_neg {N : Nat} {xs : List Int} {x : Nat} {s : Int} {j k : Nat} (h : k ≠ j) (h2 : isF N xs x s k = true) (hs : s < 0) : rkTo N xs x s j (k + 1) = rkTo N xs x s j k ++ [wk j k (atF N xs x s k - atF N xs x s j)] := by
 show (if k = j ∨ _ then _ else _) = _
 rw [if_neg (fun e => e.elim h (fun e => by rw [h2] at e; cases e)), if_pos hs]
theorem rkTo_pos {N : Nat} {xs : List Int} {x : Nat} {s : Int} {j k : Nat} (h : k ≠ j) (h2 : isF N xs x s k = true) (hs : ¬ s < 0) : rkTo N xs x s j (k + 1) = rkTo N xs x s j k ++ [wk k j (atF N xs x s j - atF N xs x s k)] := by
 show (if k = j ∨ _ then _ else _) = _
 rw [if_neg (fun e => e.elim h (fun e => by rw [h2] at e; cases e)), if_neg hs]
def lowZ (N : Nat) (zs : List Int) (j : Nat) : Int := if 1 ≤ j then lowF N zs j else 0
def rC (N : Nat) (xs : List Int) (c : Int) (rs zs : List Int) (x j : Nat) (s : Int) : Int :=
 cstTo N xs c rs (fun k => if k = x then IntKind.i64.wrap (lowZ N zs j + atF N xs x s j) else lowF N zs k) N
def rR (rs : List Int) (x j : Nat) (s : Int) : List Int := if 0 < j then (rs.set (x - 1) 0).set (j - 1) (IntKind.i64.wrap (gi (rs.set (x - 1) 0) (j - 1) + s)) else rs.set (x - 1) 0
noncomputable def rG (N : Nat) (xs : List Int) (c : Int) (rs ws : List Int) (x : Nat) (s : Int) (j : Nat) : Pv × Int :=
 if isF N xs x s j = false then (pv0, 4)
 else if (andF N ws (rkTo N xs x s j (N + 1))).1 = 0 then resF N (andF N ws (rkTo N xs x s j (N + 1))).2 (rC N xs c rs (andF N ws (rkTo N xs x s j (N + 1))).2 x j s) (rR rs x j s) else (pv0, 4)
theorem rG_no {N : Nat} {xs : List Int} {c : Int} {rs ws : List Int} {x : Nat} {s : Int} {j : Nat} (h : isF N xs x s j = false) : rG N xs c rs ws x s j = (pv0, 4) := by unfold rG; rw [if_pos h]
theorem rG_none {N : Nat} {xs : List Int} {c : Int} {rs ws : List Int} {x : Nat} {s : Int} {j : Nat} {e : Int} {R : List Int} (h : isF N xs x s j = true) (h2 : andF N ws (rkTo N xs x s j (N + 1)) = (e, R)) (he : e ≠ 0) : rG N xs c rs ws x s j = (pv0, 4) := by
 unfold rG; rw [if_neg (by rw [h]; simp), h2, if_neg he]
theorem rG_yes {N : Nat} {xs : List Int} {c : Int} {rs ws : List Int} {x : Nat} {s : Int} {j : Nat} {R : List Int} (h : isF N xs x s j = true) (h2 : andF N ws (rkTo N xs x s j (N + 1)) = (0, R)) : rG N xs c rs ws x s j = resF N R (rC N xs c rs R x j s) (rR rs x j s) := by
 unfold rG; rw [if_neg (by rw [h]; simp), h2, if_pos rfl]
def anyF (N : Nat) (xs : List Int) (x : Nat) (s : Int) : Bool := (List.range (N + 1)).any fun j => isF N xs x s j
noncomputable def presetF (n : Int) (xs : List Int) (c : Int) (rs : List Int) (x tv : Int) : List Pv × Int :=
 if pzB n xs c rs = true ∧ rsB n (x, tv) = true then
  (if gi rs (x.toNat - 1) = 0 then
   (if (onF n.toNat xs c rs (resetF n xs x tv).2 0 0 0).2 = 0 then ([(onF n.toNat xs c rs (resetF n xs x tv).2 0 0 0).1], 0) else ([], (onF n.toNat xs c rs (resetF n xs x tv).2 0 0 0).2))
  else if anyF n.toNat xs x.toNat (gi rs (x.toNat - 1)) = true then gaF [] (rG n.toNat xs c rs (resetF n xs x tv).2 x.toNat (gi rs (x.toNat - 1))) 0 n.toNat
  else ([], 9))
 else ([], 2)
theorem preset_bad {n : Int} {xs : List Int} {c : Int} {rs : List Int} {x tv : Int} (h : ¬ (pzB n xs c rs = true ∧ rsB n (x, tv) = true)) : presetF n xs c rs x tv = ([], 2) := by unfold presetF; rw [if_neg h]
theorem preset_one {N x : Nat} {xs : List Int} {c : Int} {rs : List Int} {tv : Int} (h : pzB N xs c rs = true ∧ rsB N ((x : Int), tv) = true) (hs : gi rs (x - 1) = 0) {ws : List Int} (hw : resetF N xs x tv = (0, ws)) {p : Pv} (h2 : onF N xs c rs ws 0 0 0 = (p, 0)) : presetF N xs c rs x tv = ([p], 0) := by
 unfold presetF; rw [if_pos h, Int.toNat_natCast, Int.toNat_natCast, if_pos hs, hw, h2, if_pos rfl]
theorem preset_err {N x : Nat} {xs : List Int} {c : Int} {rs : List Int} {tv : Int} (h : pzB N xs c rs = true ∧ rsB N ((x : Int), tv) = true) (hs : gi rs (x - 1) = 0) {ws : List Int} (hw : resetF N xs x tv = (0, ws)) {p : Pv} {e : Int} (h2 : onF N xs c rs ws 0 0 0 = (p, e)) (he : e ≠ 0) : presetF N xs c rs x tv = ([], e) := by
 unfold presetF; rw [if_pos h, Int.toNat_natCast, Int.toNat_natCast, if_pos hs, hw, h2, if_neg he]
theorem preset_down {N x : Nat} {xs : List Int} {c : Int} {rs : List Int} {tv : Int} (h : pzB N xs c rs = true ∧ rsB N ((x : Int), tv) = true) {s : Int} (hs : gi rs (x - 1) = s) (h0 : s ≠ 0) (ha : anyF N xs x s = false) : presetF N xs c rs x tv = ([], 9) := by
 subst hs; unfold presetF; rw [if_pos h, Int.toNat_natCast, Int.toNat_natCast, if_neg h0, if_neg (by rw [ha]; simp)]
theorem preset_ga {N x : Nat} {xs : List Int} {c : Int} {rs : List Int} {tv : Int} (h : pzB N xs c rs = true ∧ rsB N ((x : Int), tv) = true) {s : Int} (hs : gi rs (x - 1) = s) (h0 : s ≠ 0) (ha : anyF N xs x s = true) {ws : List Int} (hw : resetF N xs x tv = (0, ws)) : presetF N xs c rs x tv = gaF [] (rG N xs c rs ws x s) 0 N := by
 subst hs; unfold presetF; rw [if_pos h, Int.toNat_natCast, Int.toNat_natCast, if_neg h0, if_pos ha, hw]
end Go.Proofs.YtfphlpglgcmljaaGreat
