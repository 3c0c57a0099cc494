/- Part of the proof of priced_waits_proved: Psl, Wto, Wtb, Wts. -/
import Derived.Deep.RegionHeld3
import Derived.Test.YtfphlpglgcmljaaGreatXwPdd
import Derived.Test.YtfphlpglgcmljaaGreatXwPla
import Derived.Test.YtfphlpglgcmljaaGreatXwWtl
import Derived.Test.YtfphlpglgcmljaaGreatXwRap
import Derived.Test.YtfphlpglgcmljaaGreatXwHas
import Derived.Test.YtfphlpglgcmljaaGreatXwWtd
import Derived.Test.YtfphlpglgcmljaaGreatXwPzc
namespace Go.Proofs.YtfphlpglgcmljaaGreat
open Go.RowKit
set_option linter.unusedVariables false
def LR (w : World) (els : List Pz) : Prop := ∀ x, x ∈ els → RL w.heap.size w x.zv x.xs ∧ RL w.heap.size w x.rv x.rs
theorem LR.keepb {w w' : World} {els : List Pz} (h : LR w els) (hb : Below w.heap.size w w') : LR w' els := fun x hx => ⟨(h x hx).1.keepb hb, (h x hx).2.keepb hb⟩
theorem LZ.lr {w : World} {els : List Pz} (h : LZ w els) : LR w els := fun x hx => ⟨OL.rl (h x hx).1, OL.rl (h x hx).2⟩
def GR (r : List Pv) (v : Value) (w : World) : Prop := ∃ els, RX cdPz w.heap.size w v els ∧ LR w els ∧ els.map pvOf = r
theorem GR.keepb {r : List Pv} {v : Value} {w w' : World} (h : GR r v w) (hb : Below w.heap.size w w') : GR r v w' := by
 obtain ⟨els, h1, h2, h3⟩ := h
 exact ⟨els, h1.keepb hb, h2.keepb hb, h3⟩
theorem GaP.gr {base : Nat} {r : List Pv × Int} {e : Ending} {w' : World} (h : GaP base r e w') : ∃ v', e = .returned (.tuple #[v', .int .i64 r.2]) ∧ GR r.1 v' w' := by
 obtain ⟨v', els, h1, h2, h3, h4⟩ := h
 exact ⟨v', h1, els, OE.re (by decide) h2, h3.lr, h4⟩
set_option linter.unusedVariables false
set_option linter.unusedSimpArgs false
noncomputable def toldS (ps : List (Int × Int)) (acc : Int × Bool) (P : Pv) : Int × Bool :=
 if pzB P.n P.xs P.c P.rs = true ∧ (hasF P.n P.xs ps).1 = true then
  (if (atF P.n P.xs P.c P.rs ps).2 = 0 ∧ (atF P.n P.xs P.c P.rs ps).1.2 = 1 ∧ (acc.2 = false ∨ (atF P.n P.xs P.c P.rs ps).1.1 < acc.1) then ((atF P.n P.xs P.c P.rs ps).1.1, true) else acc)
 else acc
noncomputable def toldF (L : List Pv) (ps : List (Int × Int)) : Int × Bool := L.foldl (toldS ps) (0, false)
theorem told_next {L : List Pv} {ps : List (Int × Int)} {k : Nat} (hk : k < L.length) : (L.take (k + 1)).foldl (toldS ps) (0, false) = toldS ps ((L.take k).foldl (toldS ps) (0, false)) L[k] := by
 rw [List.take_succ_eq_append_getElem hk, List.foldl_append]; rfl
theorem toldS_no {ps : List (Int × Int)} {acc : Int × Bool} {P : Pv} (h : ¬(pzB P.n P.xs P.c P.rs = true ∧ (hasF P.n P.xs ps).1 = true)) : toldS ps acc P = acc := by unfold toldS; rw [if_neg h]
theorem toldS_in {ps : List (Int × Int)} {acc : Int × Bool} {P : Pv} {an ad ae : Int} (h : pzB P.n P.xs P.c P.rs = true) (h2 : (hasF P.n P.xs ps).1 = true) (h3 : atF P.n P.xs P.c P.rs ps = ((an, ad), ae)) :
  toldS ps acc P = if ae = 0 ∧ ad = 1 ∧ (acc.2 = false ∨ an < acc.1) then (an, true) else acc := by unfold toldS; rw [if_pos ⟨h, h2⟩, h3]
set_option maxRecDepth 100000 in
set_option maxHeartbeats 8000000 in
theorem law_told (lv v : Value) (L : List Pv) (vs : List Int) (w : World) (hl : GR L lv w) (hv : RL w.heap.size w v vs) (hn : vs.length ≤ 100) (hb : ∀ k, k < vs.length → -1000000 ≤ gi vs k ∧ gi vs k ≤ 1000000) :
  Calls Tryz.prog 27 #[lv, v] w fun e w' => e = .returned (.tuple #[.int .i64 (toldF L (rat1 vs)).1, .bool (toldF L (rat1 vs)).2]) ∧ Below w.heap.size w w' := by
 obtain ⟨els, r1, z1, m1⟩ := hl
 have Hm := Lib.hid m1
 have Z1 := Lib.hid z1
 have Hv := Lib.hid hv
 have HB := Lib.hid hb
 obtain ⟨ao1, cap1, rfl, hle1, hc1⟩ := r1.open
 obtain ⟨aov, capv, rfl, _, _⟩ := hv.open
 have HC1 := Lib.hid hc1
 have HLn := Lib.hid (show L.length = els.length by rw [← m1, List.length_map])
 clear r1 z1 m1 hc1 hv hb
 go_enter Tryz.func27, Tryz.ntmps27
 go_wp2_with fail
 go_loopw [6, 7, 8] (fun s6 s7 i wr => ∃ (k : Nat) (a : Int) (b : Bool), k ≤ els.length ∧ i = .int .i64 k ∧ s6 = .int .i64 a ∧ s7 = .bool b ∧ (L.take k).foldl (toldS (rat1 vs)) (0, false) = (a, b) ∧ Below w.heap.size w wr) (fun _ _ i _ => els.length - (intOf i).toNat)
 case atStart => exact ⟨0, 0, false, Nat.zero_le _, rfl, rfl, rfl, by rw [List.take_zero]; rfl, Below.refl _ _⟩
 case round =>
  obtain ⟨k, a, fd, hk, rfl, rfl, rfl, hacc, hw⟩ := hrel
  have HW := Lib.hid hw
  have HA := Lib.hid hacc
  clear hw hacc
  by_cases hlt : k < els.length
  rotate_left
  ·have htk : decide ((k : Int) < (els.length : Int)) = false := by simp; omega
   have HE := Lib.hid (show toldF L (rat1 vs) = (a, fd) by unfold toldF; rw [← HA.out, List.take_of_length_le (by rw [HLn.out]; omega)])
   go_wp2_with fail
   go_ret2
   exact ⟨by rw [HE.out]; rfl, HW.out⟩
  have htk : decide ((k : Int) < (els.length : Int)) = true := by simp; omega
  obtain ⟨b, off, rfl, hb, hcc⟩ := HC1.out (by omega)
  have hkL : k < L.length := by rw [HLn.out]; exact hlt
  have hpv : L[k] = pvOf (ge cdPz els k) := by
   have e1 : L[k]? = some (pvOf els[k]) := by rw [← Hm.out, List.getElem?_map, List.getElem?_eq_getElem hlt]; rfl
   rw [List.getElem?_eq_getElem hkL] at e1
   rw [ge_of cdPz hlt]
   exact Option.some.inj e1
  have hz1 := Z1.out _ (ge_mem cdPz hlt)
  obtain ⟨E, hE⟩ : ∃ E, ge cdPz els k = E := ⟨_, rfl⟩
  rw [hE] at hz1 hpv
  obtain ⟨n, zv, xs, c, rv, rs⟩ := E
  have HZ1 := Lib.hid (show RL w.heap.size w zv xs ∧ RL w.heap.size w rv rs from hz1)
  have HN := Lib.hid (show (L.take (k + 1)).foldl (toldS (rat1 vs)) (0, false) = toldS (rat1 vs) (a, fd) ⟨n, xs, c, rs⟩ by rw [told_next hkL, HA.out, hpv]; rfl)
  have k0 : (k : Int) < els.length := by omega
  have k1 : (0 : Int) ≤ (k : Int) := by omega
  clear hpv hz1
  have Hcc := Lib.hid hcc
  have HE := Lib.hid hE
  have Hlt := Lib.hid hlt
  clear hcc hE hlt hkL
  have x0 : wr.cell? ⟨b, off + k * 4, none⟩ = some (.int .i64 n) := by
   have h := ((bcell HW.out).1 b (off + (k * 4 + 0)) hb).trans (Hcc.out k 0 Hlt.out (by decide))
   rw [HE.out] at h
   rw [show off + k * 4 = off + (k * 4 + 0) by omega]
   exact h
  have x1 : wr.cell? ⟨b, off + k * 4 + 1, none⟩ = some (zv) := by
   have h := ((bcell HW.out).1 b (off + (k * 4 + 1)) hb).trans (Hcc.out k 1 Hlt.out (by decide))
   rw [HE.out] at h
   rw [show off + k * 4 + 1 = off + (k * 4 + 1) by omega]
   exact h
  have x2 : wr.cell? ⟨b, off + k * 4 + 2, none⟩ = some (.int .i64 c) := by
   have h := ((bcell HW.out).1 b (off + (k * 4 + 2)) hb).trans (Hcc.out k 2 Hlt.out (by decide))
   rw [HE.out] at h
   rw [show off + k * 4 + 2 = off + (k * 4 + 2) by omega]
   exact h
  have x3 : wr.cell? ⟨b, off + k * 4 + 3, none⟩ = some (rv) := by
   have h := ((bcell HW.out).1 b (off + (k * 4 + 3)) hb).trans (Hcc.out k 3 Hlt.out (by decide))
   rw [HE.out] at h
   rw [show off + k * 4 + 3 = off + (k * 4 + 3) by omega]
   exact h
  have HRat := Lib.hid (fun (X : World) (hX : Below wr.heap.size wr X) => law_ratios _ vs X (Hv.out.keepb (bt HW.out hX)) hn HB.out)
  obtain ⟨hh, hxe, hH⟩ : ∃ a b, hasF n xs (rat1 vs) = (a, b) := ⟨_, _, rfl⟩
  have HHas := Lib.hid (fun (X : World) (qv : Value) (hX : Below wr.heap.size wr X) (hq : RQ X.heap.size X qv (rat1 vs)) => by
   have h := ref_has n zv qv xs (rat1 vs) X (HZ1.out.1.keepb (bt HW.out hX)) hq
   rw [hH] at h
   exact h)
  have HH := Lib.hid hH
  clear hH
  go_upto_region 5 with fail
  have HS := Lib.hid (fun (X : World) (hX : Below wr.heap.size wr X) => (⟨keepb x0 hX, keepb x1 hX⟩ : X.cell? ⟨b, off + k * 4, none⟩ = some (.int .i64 n) ∧ X.cell? ⟨b, off + k * 4 + 1, none⟩ = some (zv)))
  refine wp_region_noPanic ?_
  refine wp_region_held_drew (S := (fun w' => w'.cell? ⟨b, off + k * 4, none⟩ = some (.int .i64 n) ∧ w'.cell? ⟨b, off + k * 4 + 1, none⟩ = some (zv))) (by kernel_rfl) ⟨x0, x1⟩ (fun hHeld => ?_)
  refine wpAnyH_take (i := 0) (v := ?_) rfl (by kernel_rfl) (by kernel_rfl) (by kernel_rfl) (fun _ _ _ h => h) (Or.inl ⟨by rfl, ?_⟩) (by assumption) ?_
  rotate_left
  ·intro w hSw; (try dsimp only at hSw); go_simp; (try with_reducible rfl)
  try simp only [Act.put, List.getElem_toArray, List.getElem_cons_zero, List.setIfInBounds_toArray, List.set_cons_zero, List.set_cons_succ]
  refine wpAnyH_take (i := 1) (v := ?_) rfl (by kernel_rfl) (by kernel_rfl) (by kernel_rfl) (fun _ _ _ h => h) (Or.inl ⟨by rfl, ?_⟩) (by assumption) ?_
  rotate_left
  ·intro w hSw; (try dsimp only at hSw); go_simp; (try with_reducible rfl)
  try simp only [Act.put, List.getElem_toArray, List.getElem_cons_zero, List.getElem_cons_succ, List.setIfInBounds_toArray, List.set_cons_zero, List.set_cons_succ]
  refine wpAnyH_take (i := 2) (v := ?_) rfl (by kernel_rfl) (by kernel_rfl) (by kernel_rfl) (fun _ _ _ h => h) (Or.inl ⟨by rfl, ?_⟩) (by assumption) ?_
  rotate_left
  ·intro w hSw; (try dsimp only at hSw); go_simp; (try with_reducible rfl)
  try simp only [Act.put, List.getElem_toArray, List.getElem_cons_zero, List.getElem_cons_succ, List.setIfInBounds_toArray, List.set_cons_zero, List.set_cons_succ]
  refine wpAnyH_take (i := 3) (v := ?_) rfl (by kernel_rfl) (by kernel_rfl) (by kernel_rfl) (fun _ _ _ h => h) (Or.inl ⟨by rfl, ?_⟩) (by assumption) ?_
  rotate_left
  ·intro w hSw; (try dsimp only at hSw); go_simp; (try with_reducible rfl)
  try simp only [Act.put, List.getElem_toArray, List.getElem_cons_zero, List.getElem_cons_succ, List.setIfInBounds_toArray, List.set_cons_zero, List.set_cons_succ]
  refine wpAnyH_take (i := 4) (v := ?_) rfl (by kernel_rfl) (by kernel_rfl) (by kernel_rfl) (fun _ _ _ h => h) (Or.inl ⟨by rfl, ?_⟩) (by assumption) ?_
  rotate_left
  ·intro w hSw; (try dsimp only at hSw); go_simp; (try with_reducible rfl)
  try simp only [Act.put, List.getElem_toArray, List.getElem_cons_zero, List.getElem_cons_succ, List.setIfInBounds_toArray, List.set_cons_zero, List.set_cons_succ]
  refine wpAnyH_take (i := 5) (v := ?_) rfl (by kernel_rfl) (by kernel_rfl) (by kernel_rfl) (fun _ _ _ h => h) (Or.inl ⟨by rfl, ?_⟩) (by assumption) ?_
  rotate_left
  ·intro w hSw; (try dsimp only at hSw); go_simp; (try with_reducible rfl)
  try simp only [Act.put, List.getElem_toArray, List.getElem_cons_zero, List.getElem_cons_succ, List.setIfInBounds_toArray, List.set_cons_zero, List.set_cons_succ]
  have H0 := Lib.hid (show Below wr.heap.size wr wr.drew from (Below.refl _ _).drew)
  clear hHeld
  generalize wr.drew = L0 at *
  refine wpAnyH_ready (rs := [6]) (by kernel_rfl) (by simp) ?_
  refine AllReadyH.cons rfl (fun K hK => ?_) AllReadyH.nil
  go_simp
  refine (HRat.out L0 H0.out).mono ?_
  rintro e L1 ⟨⟨qv, rfl, hq⟩, hb⟩
  have H1 := Lib.hid (bt H0.out hb)
  have Hq := Lib.hid (OQ.rq hq)
  refine hK.out _ _ (HS.out L1 H1.out) (fun hHeld2 => ?_)
  clear hK K hb hq
  try simp only [Act.put, List.getElem_toArray, List.getElem_cons_zero, List.getElem_cons_succ, List.setIfInBounds_toArray, List.set_cons_zero, List.set_cons_succ]
  refine wpAnyH_ready (rs := [7]) (by kernel_rfl) (by simp) ?_
  refine AllReadyH.cons rfl (fun K hK => ?_) AllReadyH.nil
  go_simp
  refine (HHas.out L1 _ H1.out Hq.out).mono ?_
  rintro e L2 ⟨he, hb⟩
  obtain rfl := he
  have hbel := bt H1.out hb
  refine hK.out _ _ (HS.out L2 hbel) (fun hHeld3 => ?_)
  clear hK K hb Hq
  try simp only [Act.put, List.getElem_toArray, List.getElem_cons_zero, List.getElem_cons_succ, List.setIfInBounds_toArray, List.set_cons_zero, List.set_cons_succ]
  refine wpAnyH_take (i := 8) (v := ?_) rfl (by kernel_rfl) (by kernel_rfl) (by kernel_rfl) (fun _ _ _ h => h) (Or.inl ⟨by rfl, ?_⟩) (by assumption) ?_
  rotate_left
  ·intro w hSw; (try dsimp only at hSw); go_simp; (try with_reducible rfl)
  try simp only [Act.put, List.getElem_toArray, List.getElem_cons_zero, List.getElem_cons_succ, List.setIfInBounds_toArray, List.set_cons_zero, List.set_cons_succ]
  refine wpAnyH_take (i := 9) (v := ?_) rfl (by kernel_rfl) (by kernel_rfl) (by kernel_rfl) (fun _ _ _ h => h) (Or.inl ⟨by rfl, ?_⟩) (by assumption) ?_
  rotate_left
  ·intro w hSw; (try dsimp only at hSw); go_simp; (try with_reducible rfl)
  try simp only [Act.put, List.getElem_toArray, List.getElem_cons_zero, List.getElem_cons_succ, List.setIfInBounds_toArray, List.set_cons_zero, List.set_cons_succ]
  refine wpAnyH_take (i := 10) (v := ?_) rfl (by kernel_rfl) (by kernel_rfl) (by kernel_rfl) (fun _ _ _ h => h) (Or.inl ⟨by rfl, ?_⟩) (by assumption) ?_
  rotate_left
  ·intro w hSw; (try dsimp only at hSw); go_simp; (try with_reducible rfl)
  try simp only [Act.put, List.getElem_toArray, List.getElem_cons_zero, List.getElem_cons_succ, List.setIfInBounds_toArray, List.set_cons_zero, List.set_cons_succ]
  refine wpAnyH_take (i := 11) (v := ?_) rfl (by kernel_rfl) (by kernel_rfl) (by kernel_rfl) (fun _ _ _ h => h) (Or.inl ⟨by rfl, ?_⟩) (by assumption) ?_
  rotate_left
  ·intro w hSw; (try dsimp only at hSw); go_simp; (try with_reducible rfl)
  try simp only [Act.put, List.getElem_toArray, List.getElem_cons_zero, List.getElem_cons_succ, List.setIfInBounds_toArray, List.set_cons_zero, List.set_cons_succ]
  refine wpAnyH_take (i := 12) (v := ?_) rfl (by kernel_rfl) (by kernel_rfl) (by kernel_rfl) (fun _ _ _ h => h) (Or.inl ⟨by rfl, ?_⟩) (by assumption) ?_
  rotate_left
  ·intro w hSw; (try dsimp only at hSw); go_simp; (try with_reducible rfl)
  try simp only [Act.put, List.getElem_toArray, List.getElem_cons_zero, List.getElem_cons_succ, List.setIfInBounds_toArray, List.set_cons_zero, List.set_cons_succ]
  refine wpAnyH_done (by kernel_rfl) ?_ _
  refine NoPanic.normal ?_
  clear HS HRat HHas H0 H1
  have HW2 := Lib.hid (bt HW.out hbel)
  clear hbel x0 x1 x2 x3 hHeld2 hHeld3 HW
  have x0 : L2.cell? ⟨b, off + k * 4, none⟩ = some (.int .i64 n) := by
   have h := ((bcell HW2.out).1 b (off + (k * 4 + 0)) hb).trans (Hcc.out k 0 Hlt.out (by decide))
   rw [HE.out] at h
   rw [show off + k * 4 = off + (k * 4 + 0) by omega]
   exact h
  have x1 : L2.cell? ⟨b, off + k * 4 + 1, none⟩ = some (zv) := by
   have h := ((bcell HW2.out).1 b (off + (k * 4 + 1)) hb).trans (Hcc.out k 1 Hlt.out (by decide))
   rw [HE.out] at h
   rw [show off + k * 4 + 1 = off + (k * 4 + 1) by omega]
   exact h
  have x2 : L2.cell? ⟨b, off + k * 4 + 2, none⟩ = some (.int .i64 c) := by
   have h := ((bcell HW2.out).1 b (off + (k * 4 + 2)) hb).trans (Hcc.out k 2 Hlt.out (by decide))
   rw [HE.out] at h
   rw [show off + k * 4 + 2 = off + (k * 4 + 2) by omega]
   exact h
  have x3 : L2.cell? ⟨b, off + k * 4 + 3, none⟩ = some (rv) := by
   have h := ((bcell HW2.out).1 b (off + (k * 4 + 3)) hb).trans (Hcc.out k 3 Hlt.out (by decide))
   rw [HE.out] at h
   rw [show off + k * 4 + 3 = off + (k * 4 + 3) by omega]
   exact h
  go_wp2_with fail
  refine (ref_pcheck n c _ _ xs rs _ (HZ1.out.1.keepb HW2.out) (HZ1.out.2.keepb HW2.out)).mono ?_
  rintro e w3 ⟨rfl, hb3⟩
  have HW3 := Lib.hid (bt HW2.out hb3)
  clear hb3 x0 x1 x2 x3 HW2
  cases hpz : pzB n xs c rs with
  | false =>
   rw [pzE_no hpz]
   have HN2 := Lib.hid (show (L.take (k + 1)).foldl (toldS (rat1 vs)) (0, false) = (a, fd) by rw [HN.out, toldS_no]; intro h; rw [show pzB n xs c rs = false from hpz] at h; cases h.1)
   go_wp2_with fail
   go_roundw
   case rel => exact ⟨k + 1, a, fd, by omega, by go_num, rfl, rfl, HN2.out, HW3.out⟩
   case measure => simp [intOf]; omega
  | true =>
   rw [pzE_yes hpz]
   cases hh with
   | false =>
    have HN2 := Lib.hid (show (L.take (k + 1)).foldl (toldS (rat1 vs)) (0, false) = (a, fd) by rw [HN.out, toldS_no]; intro h; have h2 := h.2; rw [show hasF n xs (rat1 vs) = (false, hxe) from HH.out] at h2; cases h2)
    go_wp2_with fail
    go_roundw
    case rel => exact ⟨k + 1, a, fd, by omega, by go_num, rfl, rfl, HN2.out, HW3.out⟩
    case measure => simp [intOf]; omega
   | true =>
    obtain ⟨an, ad, ae, hA⟩ : ∃ p q r, atF n xs c rs (rat1 vs) = ((p, q), r) := ⟨_, _, _, rfl⟩
    have HRat := Lib.hid (fun (X : World) (hX : Below w3.heap.size w3 X) => law_ratios _ vs X (Hv.out.keepb (bt HW3.out hX)) hn HB.out)
    have HAt := Lib.hid (fun (X : World) (qv : Value) (hX : Below w3.heap.size w3 X) (hq : RQ X.heap.size X qv (rat1 vs)) => by
     have h := ref_pat n c zv rv qv xs rs (rat1 vs) X (HZ1.out.1.keepb (bt HW3.out hX)) (HZ1.out.2.keepb (bt HW3.out hX)) hq
     rw [hA] at h
     exact h)
    have HN2 := Lib.hid (show (L.take (k + 1)).foldl (toldS (rat1 vs)) (0, false) = if ae = 0 ∧ ad = 1 ∧ (fd = false ∨ an < a) then (an, true) else (a, fd) by rw [HN.out]; exact toldS_in hpz (by rw [show hasF n xs (rat1 vs) = (true, hxe) from HH.out]) hA)
    clear hA HH HN hpz
    have x0 : w3.cell? ⟨b, off + k * 4, none⟩ = some (.int .i64 n) := by
     have h := ((bcell HW3.out).1 b (off + (k * 4 + 0)) hb).trans (Hcc.out k 0 Hlt.out (by decide))
     rw [HE.out] at h
     rw [show off + k * 4 = off + (k * 4 + 0) by omega]
     exact h
    have x1 : w3.cell? ⟨b, off + k * 4 + 1, none⟩ = some (zv) := by
     have h := ((bcell HW3.out).1 b (off + (k * 4 + 1)) hb).trans (Hcc.out k 1 Hlt.out (by decide))
     rw [HE.out] at h
     rw [show off + k * 4 + 1 = off + (k * 4 + 1) by omega]
     exact h
    have x2 : w3.cell? ⟨b, off + k * 4 + 2, none⟩ = some (.int .i64 c) := by
     have h := ((bcell HW3.out).1 b (off + (k * 4 + 2)) hb).trans (Hcc.out k 2 Hlt.out (by decide))
     rw [HE.out] at h
     rw [show off + k * 4 + 2 = off + (k * 4 + 2) by omega]
     exact h
    have x3 : w3.cell? ⟨b, off + k * 4 + 3, none⟩ = some (rv) := by
     have h := ((bcell HW3.out).1 b (off + (k * 4 + 3)) hb).trans (Hcc.out k 3 Hlt.out (by decide))
     rw [HE.out] at h
     rw [show off + k * 4 + 3 = off + (k * 4 + 3) by omega]
     exact h
    go_upto_region 7 with fail
    have HS := Lib.hid (fun (X : World) (hX : Below w3.heap.size w3 X) => (⟨keepb x0 hX, keepb x1 hX, keepb x2 hX, keepb x3 hX⟩ : X.cell? ⟨b, off + k * 4, none⟩ = some (.int .i64 n) ∧ X.cell? ⟨b, off + k * 4 + 1, none⟩ = some (zv) ∧ X.cell? ⟨b, off + k * 4 + 2, none⟩ = some (.int .i64 c) ∧ X.cell? ⟨b, off + k * 4 + 3, none⟩ = some (rv)))
    go_cut [11, 12] (fun s6 s7 wx => s7 = .int .i64 ae ∧ ∃ bx, s6 = .pointer (some ⟨bx, 0, none⟩) ∧ wx.heap[bx]? = some (.cells #[.int .i64 an, .int .i64 ad] 56 (0, 0)) ∧ w3.heap.size ≤ bx ∧ Below w3.heap.size w3 wx)
    case first =>
     refine wp_region_noPanic ?_
     refine wp_region_held_drew (S := (fun w' => w'.cell? ⟨b, off + k * 4, none⟩ = some (.int .i64 n) ∧ w'.cell? ⟨b, off + k * 4 + 1, none⟩ = some (zv) ∧ w'.cell? ⟨b, off + k * 4 + 2, none⟩ = some (.int .i64 c) ∧ w'.cell? ⟨b, off + k * 4 + 3, none⟩ = some (rv))) (by kernel_rfl) ⟨x0, x1, x2, x3⟩ (fun hHeld => ?_)
     refine wpAnyH_take (i := 0) (v := ?_) rfl (by kernel_rfl) (by kernel_rfl) (by kernel_rfl) (fun _ _ _ h => h) (Or.inl ⟨by rfl, ?_⟩) (by assumption) ?_
     rotate_left
     ·intro w hSw; (try dsimp only at hSw); go_simp; (try with_reducible rfl)
     try simp only [Act.put, List.getElem_toArray, List.getElem_cons_zero, List.setIfInBounds_toArray, List.set_cons_zero, List.set_cons_succ]
     refine wpAnyH_take (i := 1) (v := ?_) rfl (by kernel_rfl) (by kernel_rfl) (by kernel_rfl) (fun _ _ _ h => h) (Or.inl ⟨by rfl, ?_⟩) (by assumption) ?_
     rotate_left
     ·intro w hSw; (try dsimp only at hSw); go_simp; (try with_reducible rfl)
     try simp only [Act.put, List.getElem_toArray, List.getElem_cons_zero, List.getElem_cons_succ, List.setIfInBounds_toArray, List.set_cons_zero, List.set_cons_succ]
     refine wpAnyH_take (i := 2) (v := ?_) rfl (by kernel_rfl) (by kernel_rfl) (by kernel_rfl) (fun _ _ _ h => h) (Or.inl ⟨by rfl, ?_⟩) (by assumption) ?_
     rotate_left
     ·intro w hSw; (try dsimp only at hSw); go_simp; (try with_reducible rfl)
     try simp only [Act.put, List.getElem_toArray, List.getElem_cons_zero, List.getElem_cons_succ, List.setIfInBounds_toArray, List.set_cons_zero, List.set_cons_succ]
     refine wpAnyH_take (i := 3) (v := ?_) rfl (by kernel_rfl) (by kernel_rfl) (by kernel_rfl) (fun _ _ _ h => h) (Or.inl ⟨by rfl, ?_⟩) (by assumption) ?_
     rotate_left
     ·intro w hSw; (try dsimp only at hSw); go_simp; (try with_reducible rfl)
     try simp only [Act.put, List.getElem_toArray, List.getElem_cons_zero, List.getElem_cons_succ, List.setIfInBounds_toArray, List.set_cons_zero, List.set_cons_succ]
     refine wpAnyH_take (i := 4) (v := ?_) rfl (by kernel_rfl) (by kernel_rfl) (by kernel_rfl) (fun _ _ _ h => h) (Or.inl ⟨by rfl, ?_⟩) (by assumption) ?_
     rotate_left
     ·intro w hSw; (try dsimp only at hSw); go_simp; (try with_reducible rfl)
     try simp only [Act.put, List.getElem_toArray, List.getElem_cons_zero, List.getElem_cons_succ, List.setIfInBounds_toArray, List.set_cons_zero, List.set_cons_succ]
     have H0 := Lib.hid (show Below w3.heap.size w3 w3.drew from (Below.refl _ _).drew)
     clear hHeld
     generalize w3.drew = L0 at *
     refine wpAnyH_ready (rs := [5, 10]) (by kernel_rfl) (by simp) ?_
     refine AllReadyH.cons rfl (fun K hK => ?_) (AllReadyH.cons rfl (fun K hK => ?_) (AllReadyH.nil))
     ·skip
      go_simp
      refine (HRat.out L0 H0.out).mono ?_
      rintro e L1 ⟨⟨qv, rfl, hq⟩, hb⟩
      have H1 := Lib.hid (bt H0.out hb)
      have Hq := Lib.hid (OQ.rq hq)
      refine hK.out _ _ (HS.out L1 H1.out) (fun hHeld2 => ?_)
      clear hK K hb hq
      try simp only [Act.put, List.getElem_toArray, List.getElem_cons_zero, List.getElem_cons_succ, List.setIfInBounds_toArray, List.set_cons_zero, List.set_cons_succ]
      refine wpAnyH_ready (rs := [6, 10]) (by kernel_rfl) (by simp) ?_
      refine AllReadyH.cons rfl (fun K hK => ?_) (AllReadyH.cons rfl (fun K hK => ?_) (AllReadyH.nil))
      ·skip
       go_simp
       refine (HAt.out L1 _ H1.out Hq.out).mono ?_
       rintro e L2 ⟨he, hb⟩
       obtain rfl := he
       have H2 := Lib.hid (bt H1.out hb)
       refine hK.out _ _ (HS.out L2 H2.out) (fun hHeld2 => ?_)
       clear hK K hb Hq
       try simp only [Act.put, List.getElem_toArray, List.getElem_cons_zero, List.getElem_cons_succ, List.setIfInBounds_toArray, List.set_cons_zero, List.set_cons_succ]
       refine wpAnyH_take (i := 7) (v := ?_) rfl (by kernel_rfl) (by kernel_rfl) (by kernel_rfl) (fun _ _ _ h => h) (Or.inl ⟨by rfl, ?_⟩) (by assumption) ?_
       rotate_left
       ·intro w hSw; (try dsimp only at hSw); go_simp; (try with_reducible rfl)
       try simp only [Act.put, List.getElem_toArray, List.getElem_cons_zero, List.getElem_cons_succ, List.setIfInBounds_toArray, List.set_cons_zero, List.set_cons_succ]
       refine wpAnyH_take (i := 8) (v := ?_) rfl (by kernel_rfl) (by kernel_rfl) (by kernel_rfl) (fun _ _ _ h => h) (Or.inl ⟨by rfl, ?_⟩) (by assumption) ?_
       rotate_left
       ·intro w hSw; (try dsimp only at hSw); go_simp; (try with_reducible rfl)
       try simp only [Act.put, List.getElem_toArray, List.getElem_cons_zero, List.getElem_cons_succ, List.setIfInBounds_toArray, List.set_cons_zero, List.set_cons_succ]
       refine wpAnyH_take (i := 9) (v := ?_) rfl (by kernel_rfl) (by kernel_rfl) (by kernel_rfl) (fun _ _ _ h => h) (Or.inl ⟨by rfl, ?_⟩) (by assumption) ?_
       rotate_left
       ·intro w hSw; (try dsimp only at hSw); go_simp; (try with_reducible rfl)
       try simp only [Act.put, List.getElem_toArray, List.getElem_cons_zero, List.getElem_cons_succ, List.setIfInBounds_toArray, List.set_cons_zero, List.set_cons_succ]
       refine wpAnyH_ready (rs := [10]) (by kernel_rfl) (by simp) ?_
       refine AllReadyH.cons rfl (fun K hK => ?_) (AllReadyH.nil)
       ·skip
        go_simp
        have H3' := bal H2.out (.cells #[.int .i64 0, .int .i64 0] 56)
        have Hbx' := heap_alloc_new L2 (.cells #[.int .i64 0, .int .i64 0] 56)
        have Hge' := H2.out.size
        refine hK.out _ _ (HS.out _ H3') (fun hHeld2 => ?_)
        clear hK K
        generalize hgen : World.alloc L2 _ = L3 at *
        clear hgen
        generalize L2.heap.size = bx at *
        have H3 := Lib.hid H3'
        have Hbx := Lib.hid Hbx'
        have Hge := Lib.hid Hge'
        clear H3' Hbx' Hge'
        try simp only [Act.put, List.getElem_toArray, List.getElem_cons_zero, List.getElem_cons_succ, List.setIfInBounds_toArray, List.set_cons_zero, List.set_cons_succ]
        refine wpAnyH_ready (rs := [11]) (by kernel_rfl) (by simp) ?_
        refine AllReadyH.cons rfl (fun K hK => ?_) (AllReadyH.nil)
        ·skip
         have t0 := cell_of_row _ bx 0 _ _ _ Hbx.out
         have t1 := cell_of_row _ bx 1 _ _ _ Hbx.out
         have f0 := frozen_of_row _ bx 0 _ _ Hbx.out
         have f1 := frozen_of_row _ bx 1 _ _ Hbx.out
         have HF1 := Lib.hid (heap_setCell_same _ bx 1 _ _ (.int .i64 ad) (heap_setCell_same _ bx 0 _ _ (.int .i64 an) Hbx.out))
         have HF3 := Lib.hid ((H3.out.setCell (p := ⟨bx, 0, none⟩) Hge.out (.int .i64 an)).setCell (p := ⟨bx, 1, none⟩) Hge.out (.int .i64 ad))
         go_simp
         refine hK.out _ _ (HS.out _ HF3.out) (fun hHeld2 => ?_)
         clear hK K t0 t1 f0 f1
         try simp only [Act.put, List.getElem_toArray, List.getElem_cons_zero, List.getElem_cons_succ, List.setIfInBounds_toArray, List.set_cons_zero, List.set_cons_succ]
         refine wpAnyH_take (i := 12) (v := ?_) rfl (by kernel_rfl) (by kernel_rfl) (by kernel_rfl) (fun _ _ _ h => h) (Or.inl ⟨by rfl, ?_⟩) (by assumption) ?_
         rotate_left
         ·intro w hSw; (try dsimp only at hSw); go_simp; (try with_reducible rfl)
         try simp only [Act.put, List.getElem_toArray, List.getElem_cons_zero, List.getElem_cons_succ, List.setIfInBounds_toArray, List.set_cons_zero, List.set_cons_succ]
         refine wpAnyH_done (by kernel_rfl) ?_ _
         refine NoPanic.normal ?_
         go_wp2_with fail
         go_meet
         exact ⟨rfl, bx, rfl, HF1.out, Hge.out, HF3.out⟩
      ·skip
       go_simp
       have H2' := bal H1.out (.cells #[.int .i64 0, .int .i64 0] 56)
       have Hbx' := heap_alloc_new L1 (.cells #[.int .i64 0, .int .i64 0] 56)
       have Hge' := H1.out.size
       have Hq' := RQ.keepb Hq.out ((Below.refl L1.heap.size L1).alloc (Nat.le_refl _) (.cells #[.int .i64 0, .int .i64 0] 56))
       refine hK.out _ _ (HS.out _ H2') (fun hHeld2 => ?_)
       clear hK K
       generalize hgen : World.alloc L1 _ = L2 at *
       clear hgen
       generalize L1.heap.size = bx at *
       have H2 := Lib.hid H2'
       have Hbx := Lib.hid Hbx'
       have Hge := Lib.hid Hge'
       clear Hq
       have Hq := Lib.hid Hq'
       clear Hq'
       clear H2' Hbx' Hge'
       try simp only [Act.put, List.getElem_toArray, List.getElem_cons_zero, List.getElem_cons_succ, List.setIfInBounds_toArray, List.set_cons_zero, List.set_cons_succ]
       refine wpAnyH_ready (rs := [6]) (by kernel_rfl) (by simp) ?_
       refine AllReadyH.cons rfl (fun K hK => ?_) (AllReadyH.nil)
       ·skip
        go_simp
        refine (HAt.out L2 _ H2.out Hq.out).mono ?_
        rintro e L3 ⟨he, hb⟩
        obtain rfl := he
        have H3 := Lib.hid (bt H2.out hb)
        replace Hbx := Lib.hid (hp_keep4 Hbx.out hb)
        refine hK.out _ _ (HS.out L3 H3.out) (fun hHeld2 => ?_)
        clear hK K hb Hq
        try simp only [Act.put, List.getElem_toArray, List.getElem_cons_zero, List.getElem_cons_succ, List.setIfInBounds_toArray, List.set_cons_zero, List.set_cons_succ]
        refine wpAnyH_take (i := 7) (v := ?_) rfl (by kernel_rfl) (by kernel_rfl) (by kernel_rfl) (fun _ _ _ h => h) (Or.inl ⟨by rfl, ?_⟩) (by assumption) ?_
        rotate_left
        ·intro w hSw; (try dsimp only at hSw); go_simp; (try with_reducible rfl)
        try simp only [Act.put, List.getElem_toArray, List.getElem_cons_zero, List.getElem_cons_succ, List.setIfInBounds_toArray, List.set_cons_zero, List.set_cons_succ]
        refine wpAnyH_take (i := 8) (v := ?_) rfl (by kernel_rfl) (by kernel_rfl) (by kernel_rfl) (fun _ _ _ h => h) (Or.inl ⟨by rfl, ?_⟩) (by assumption) ?_
        rotate_left
        ·intro w hSw; (try dsimp only at hSw); go_simp; (try with_reducible rfl)
        try simp only [Act.put, List.getElem_toArray, List.getElem_cons_zero, List.getElem_cons_succ, List.setIfInBounds_toArray, List.set_cons_zero, List.set_cons_succ]
        refine wpAnyH_take (i := 9) (v := ?_) rfl (by kernel_rfl) (by kernel_rfl) (by kernel_rfl) (fun _ _ _ h => h) (Or.inl ⟨by rfl, ?_⟩) (by assumption) ?_
        rotate_left
        ·intro w hSw; (try dsimp only at hSw); go_simp; (try with_reducible rfl)
        try simp only [Act.put, List.getElem_toArray, List.getElem_cons_zero, List.getElem_cons_succ, List.setIfInBounds_toArray, List.set_cons_zero, List.set_cons_succ]
        refine wpAnyH_ready (rs := [11]) (by kernel_rfl) (by simp) ?_
        refine AllReadyH.cons rfl (fun K hK => ?_) (AllReadyH.nil)
        ·skip
         have t0 := cell_of_row _ bx 0 _ _ _ Hbx.out
         have t1 := cell_of_row _ bx 1 _ _ _ Hbx.out
         have f0 := frozen_of_row _ bx 0 _ _ Hbx.out
         have f1 := frozen_of_row _ bx 1 _ _ Hbx.out
         have HF1 := Lib.hid (heap_setCell_same _ bx 1 _ _ (.int .i64 ad) (heap_setCell_same _ bx 0 _ _ (.int .i64 an) Hbx.out))
         have HF3 := Lib.hid ((H3.out.setCell (p := ⟨bx, 0, none⟩) Hge.out (.int .i64 an)).setCell (p := ⟨bx, 1, none⟩) Hge.out (.int .i64 ad))
         go_simp
         refine hK.out _ _ (HS.out _ HF3.out) (fun hHeld2 => ?_)
         clear hK K t0 t1 f0 f1
         try simp only [Act.put, List.getElem_toArray, List.getElem_cons_zero, List.getElem_cons_succ, List.setIfInBounds_toArray, List.set_cons_zero, List.set_cons_succ]
         refine wpAnyH_take (i := 12) (v := ?_) rfl (by kernel_rfl) (by kernel_rfl) (by kernel_rfl) (fun _ _ _ h => h) (Or.inl ⟨by rfl, ?_⟩) (by assumption) ?_
         rotate_left
         ·intro w hSw; (try dsimp only at hSw); go_simp; (try with_reducible rfl)
         try simp only [Act.put, List.getElem_toArray, List.getElem_cons_zero, List.getElem_cons_succ, List.setIfInBounds_toArray, List.set_cons_zero, List.set_cons_succ]
         refine wpAnyH_done (by kernel_rfl) ?_ _
         refine NoPanic.normal ?_
         go_wp2_with fail
         go_meet
         exact ⟨rfl, bx, rfl, HF1.out, Hge.out, HF3.out⟩
     ·skip
      go_simp
      have H1' := bal H0.out (.cells #[.int .i64 0, .int .i64 0] 56)
      have Hbx' := heap_alloc_new L0 (.cells #[.int .i64 0, .int .i64 0] 56)
      have Hge' := H0.out.size
      refine hK.out _ _ (HS.out _ H1') (fun hHeld2 => ?_)
      clear hK K
      generalize hgen : World.alloc L0 _ = L1 at *
      clear hgen
      generalize L0.heap.size = bx at *
      have H1 := Lib.hid H1'
      have Hbx := Lib.hid Hbx'
      have Hge := Lib.hid Hge'
      clear H1' Hbx' Hge'
      try simp only [Act.put, List.getElem_toArray, List.getElem_cons_zero, List.getElem_cons_succ, List.setIfInBounds_toArray, List.set_cons_zero, List.set_cons_succ]
      refine wpAnyH_ready (rs := [5]) (by kernel_rfl) (by simp) ?_
      refine AllReadyH.cons rfl (fun K hK => ?_) (AllReadyH.nil)
      ·skip
       go_simp
       refine (HRat.out L1 H1.out).mono ?_
       rintro e L2 ⟨⟨qv, rfl, hq⟩, hb⟩
       have H2 := Lib.hid (bt H1.out hb)
       have Hq := Lib.hid (OQ.rq hq)
       replace Hbx := Lib.hid (hp_keep4 Hbx.out hb)
       refine hK.out _ _ (HS.out L2 H2.out) (fun hHeld2 => ?_)
       clear hK K hb hq
       try simp only [Act.put, List.getElem_toArray, List.getElem_cons_zero, List.getElem_cons_succ, List.setIfInBounds_toArray, List.set_cons_zero, List.set_cons_succ]
       refine wpAnyH_ready (rs := [6]) (by kernel_rfl) (by simp) ?_
       refine AllReadyH.cons rfl (fun K hK => ?_) (AllReadyH.nil)
       ·skip
        go_simp
        refine (HAt.out L2 _ H2.out Hq.out).mono ?_
        rintro e L3 ⟨he, hb⟩
        obtain rfl := he
        have H3 := Lib.hid (bt H2.out hb)
        replace Hbx := Lib.hid (hp_keep4 Hbx.out hb)
        refine hK.out _ _ (HS.out L3 H3.out) (fun hHeld2 => ?_)
        clear hK K hb Hq
        try simp only [Act.put, List.getElem_toArray, List.getElem_cons_zero, List.getElem_cons_succ, List.setIfInBounds_toArray, List.set_cons_zero, List.set_cons_succ]
        refine wpAnyH_take (i := 7) (v := ?_) rfl (by kernel_rfl) (by kernel_rfl) (by kernel_rfl) (fun _ _ _ h => h) (Or.inl ⟨by rfl, ?_⟩) (by assumption) ?_
        rotate_left
        ·intro w hSw; (try dsimp only at hSw); go_simp; (try with_reducible rfl)
        try simp only [Act.put, List.getElem_toArray, List.getElem_cons_zero, List.getElem_cons_succ, List.setIfInBounds_toArray, List.set_cons_zero, List.set_cons_succ]
        refine wpAnyH_take (i := 8) (v := ?_) rfl (by kernel_rfl) (by kernel_rfl) (by kernel_rfl) (fun _ _ _ h => h) (Or.inl ⟨by rfl, ?_⟩) (by assumption) ?_
        rotate_left
        ·intro w hSw; (try dsimp only at hSw); go_simp; (try with_reducible rfl)
        try simp only [Act.put, List.getElem_toArray, List.getElem_cons_zero, List.getElem_cons_succ, List.setIfInBounds_toArray, List.set_cons_zero, List.set_cons_succ]
        refine wpAnyH_take (i := 9) (v := ?_) rfl (by kernel_rfl) (by kernel_rfl) (by kernel_rfl) (fun _ _ _ h => h) (Or.inl ⟨by rfl, ?_⟩) (by assumption) ?_
        rotate_left
        ·intro w hSw; (try dsimp only at hSw); go_simp; (try with_reducible rfl)
        try simp only [Act.put, List.getElem_toArray, List.getElem_cons_zero, List.getElem_cons_succ, List.setIfInBounds_toArray, List.set_cons_zero, List.set_cons_succ]
        refine wpAnyH_ready (rs := [11]) (by kernel_rfl) (by simp) ?_
        refine AllReadyH.cons rfl (fun K hK => ?_) (AllReadyH.nil)
        ·skip
         have t0 := cell_of_row _ bx 0 _ _ _ Hbx.out
         have t1 := cell_of_row _ bx 1 _ _ _ Hbx.out
         have f0 := frozen_of_row _ bx 0 _ _ Hbx.out
         have f1 := frozen_of_row _ bx 1 _ _ Hbx.out
         have HF1 := Lib.hid (heap_setCell_same _ bx 1 _ _ (.int .i64 ad) (heap_setCell_same _ bx 0 _ _ (.int .i64 an) Hbx.out))
         have HF3 := Lib.hid ((H3.out.setCell (p := ⟨bx, 0, none⟩) Hge.out (.int .i64 an)).setCell (p := ⟨bx, 1, none⟩) Hge.out (.int .i64 ad))
         go_simp
         refine hK.out _ _ (HS.out _ HF3.out) (fun hHeld2 => ?_)
         clear hK K t0 t1 f0 f1
         try simp only [Act.put, List.getElem_toArray, List.getElem_cons_zero, List.getElem_cons_succ, List.setIfInBounds_toArray, List.set_cons_zero, List.set_cons_succ]
         refine wpAnyH_take (i := 12) (v := ?_) rfl (by kernel_rfl) (by kernel_rfl) (by kernel_rfl) (fun _ _ _ h => h) (Or.inl ⟨by rfl, ?_⟩) (by assumption) ?_
         rotate_left
         ·intro w hSw; (try dsimp only at hSw); go_simp; (try with_reducible rfl)
         try simp only [Act.put, List.getElem_toArray, List.getElem_cons_zero, List.getElem_cons_succ, List.setIfInBounds_toArray, List.set_cons_zero, List.set_cons_succ]
         refine wpAnyH_done (by kernel_rfl) ?_ _
         refine NoPanic.normal ?_
         go_wp2_with fail
         go_meet
         exact ⟨rfl, bx, rfl, HF1.out, Hge.out, HF3.out⟩
    case rest =>
     obtain ⟨rfl, bx, rfl, hbx, hge, hbel⟩ := hcut
     clear HS HRat HAt
     have HW4 := Lib.hid (bt HW3.out hbel)
     have t0 := cell_of_row _ bx 0 _ _ _ hbx
     have t1 := cell_of_row _ bx 1 _ _ _ hbx
     clear hbel x0 x1 x2 x3 hbx HW3
     by_cases h1 : ae = 0
     rotate_left
     ·have h1' : (ae == 0) = false := by simpa using h1
      have HN3 := Lib.hid (show (L.take (k + 1)).foldl (toldS (rat1 vs)) (0, false) = (a, fd) by rw [HN2.out, if_neg (fun h => h1 h.1)])
      clear HN2
      go_wp2_with fail
      go_roundw
      case rel => exact ⟨k + 1, a, fd, by omega, by go_num, rfl, rfl, HN3.out, HW4.out⟩
      case measure => simp [intOf]; omega
     have h1' : (ae == 0) = true := by simpa using h1
     by_cases h2 : ad = 1
     rotate_left
     ·have h2' : (ad == 1) = false := by simpa using h2
      have HN3 := Lib.hid (show (L.take (k + 1)).foldl (toldS (rat1 vs)) (0, false) = (a, fd) by rw [HN2.out, if_neg (fun h => h2 h.2.1)])
      clear HN2
      go_wp2_with fail
      go_roundw
      case rel => exact ⟨k + 1, a, fd, by omega, by go_num, rfl, rfl, HN3.out, HW4.out⟩
      case measure => simp [intOf]; omega
     have h2' : (ad == 1) = true := by simpa using h2
     cases fd with
     | false =>
      have HN3 := Lib.hid (show (L.take (k + 1)).foldl (toldS (rat1 vs)) (0, false) = (an, true) by rw [HN2.out, if_pos ⟨h1, h2, .inl rfl⟩])
      clear HN2
      go_wp2_with fail
      go_roundw
      case rel => exact ⟨k + 1, an, true, by omega, by go_num, rfl, rfl, HN3.out, HW4.out⟩
      case measure => simp [intOf]; omega
     | true =>
      by_cases h3 : an < a
      ·have h3' : decide (an < a) = true := by simpa using h3
       have HN3 := Lib.hid (show (L.take (k + 1)).foldl (toldS (rat1 vs)) (0, false) = (an, true) by rw [HN2.out, if_pos ⟨h1, h2, .inr h3⟩])
       clear HN2
       go_wp2_with fail
       go_roundw
       case rel => exact ⟨k + 1, an, true, by omega, by go_num, rfl, rfl, HN3.out, HW4.out⟩
       case measure => simp [intOf]; omega
      ·have h3' : decide (an < a) = false := by simpa using h3
       have HN3 := Lib.hid (show (L.take (k + 1)).foldl (toldS (rat1 vs)) (0, false) = (a, true) by rw [HN2.out, if_neg (fun h => by rcases h.2.2 with h | h <;> first | cases h | exact h3 h)])
       clear HN2
       go_wp2_with fail
       go_roundw
       case rel => exact ⟨k + 1, a, true, by omega, by go_num, rfl, rfl, HN3.out, HW4.out⟩
       case measure => simp [intOf]; omega
set_option linter.unusedVariables false
def Mn (S : Int → Prop) (r : Int × Bool) : Prop := (r = (0, false) ∧ ∀ x, ¬ S x) ∨ (r.2 = true ∧ S r.1 ∧ ∀ x, S x → r.1 ≤ x)
theorem Mn.none : Mn (fun _ => False) (0, false) := .inl ⟨rfl, fun _ h => h⟩
theorem Mn.congr {S S' : Int → Prop} {r : Int × Bool} (h : Mn S r) (e : ∀ x, S x ↔ S' x) : Mn S' r := by
 rcases h with ⟨h1, h2⟩ | ⟨h1, h2, h3⟩
 ·exact .inl ⟨h1, fun x k => h2 x ((e x).2 k)⟩
 ·exact .inr ⟨h1, (e _).1 h2, fun x k => h3 x ((e x).2 k)⟩
theorem Mn.step {S : Int → Prop} {r : Int × Bool} (h : Mn S r) (x : Int) : Mn (fun y => S y ∨ y = x) (if r.2 = false ∨ x < r.1 then (x, true) else r) := by
 rcases h with ⟨h1, h2⟩ | ⟨h1, h2, h3⟩
 ·subst h1
  rw [if_pos (.inl rfl)]
  exact .inr ⟨rfl, .inr rfl, fun y hy => by
   rcases hy with hy | hy
   ·exact absurd hy (h2 y)
   ·rw [hy]; exact Int.le_refl _⟩
 ·by_cases c : x < r.1
  ·rw [if_pos (.inr c)]
   exact .inr ⟨rfl, .inr rfl, fun y hy => by
    rcases hy with hy | hy
    ·exact Int.le_trans (Int.le_of_lt c) (h3 y hy)
    ·rw [hy]; exact Int.le_refl _⟩
  ·rw [if_neg (by rw [h1]; simp; omega)]
   exact .inr ⟨h1, .inl h2, fun y hy => by
    rcases hy with hy | hy
    ·exact h3 y hy
    ·rw [hy]; omega⟩
theorem Mn.eq {S S' : Int → Prop} {r r' : Int × Bool} (h : Mn S r) (h' : Mn S' r') (h1 : ∀ x, S x → S' x) (h2 : ∀ y, S' y → ∃ x, S x ∧ x ≤ y) : r = r' := by
 rcases h with ⟨e, n⟩ | ⟨e, s, m⟩
 ·rcases h' with ⟨e', n'⟩ | ⟨e', s', m'⟩
  ·rw [e, e']
  ·obtain ⟨x, hx, _⟩ := h2 _ s'
   exact absurd hx (n x)
 ·rcases h' with ⟨e', n'⟩ | ⟨e', s', m'⟩
  ·exact absurd (h1 _ s) (n' _)
  ·obtain ⟨x, hx, hl⟩ := h2 _ s'
   have a := m x hx
   have b := m' _ (h1 _ s)
   exact Prod.ext (by omega) (by rw [e, e'])
theorem told_mn {ps : List (Int × Int)} {V : Pv → Int} {I : Pv → Prop} : ∀ (l : List Pv) (acc : Int × Bool) (S : Int → Prop), Mn S acc → (∀ P, P ∈ l → pzB P.n P.xs P.c P.rs = true ∧ ((hasF P.n P.xs ps).1 = true ↔ I P) ∧ (I P → atF P.n P.xs P.c P.rs ps = ((V P, 1), 0))) →
    Mn (fun x => S x ∨ ∃ P, P ∈ l ∧ I P ∧ x = V P) (l.foldl (toldS ps) acc)
  | [], acc, S, h, _ => h.congr (fun x => ⟨.inl, fun h => by
      rcases h with h | ⟨P, hP, _⟩
      · exact h
      · cases hP⟩)
  | P :: l, acc, S, h, hl => by
    obtain ⟨q1, q2, q3⟩ := hl P (.head _)
    have rest := fun Q (hQ : Q ∈ l) => hl Q (.tail _ hQ)
    show Mn _ (l.foldl (toldS ps) (toldS ps acc P))
    by_cases hi : I P
    · have e : toldS ps acc P = if acc.2 = false ∨ V P < acc.1 then (V P, true) else acc := by
        rw [toldS_in q1 (q2.2 hi) (q3 hi)]
        simp
      rw [e]
      refine (told_mn l _ _ (h.step (V P)) rest).congr (fun x => ?_)
      constructor
      · rintro ((h | h) | ⟨Q, a, b, c⟩)
        · exact .inl h
        · exact .inr ⟨P, .head _, hi, h⟩
        · exact .inr ⟨Q, .tail _ a, b, c⟩
      · rintro (h | ⟨Q, a, b, c⟩)
        · exact .inl (.inl h)
        · cases a with
          | head => exact .inl (.inr c)
          | tail _ a => exact .inr ⟨Q, a, b, c⟩
    · rw [toldS_no (fun h => hi (q2.1 h.2))]
      refine (told_mn l _ _ h rest).congr (fun x => ?_)
      constructor
      · rintro (h | ⟨Q, a, b, c⟩)
        · exact .inl h
        · exact .inr ⟨Q, .tail _ a, b, c⟩
      · rintro (h | ⟨Q, a, b, c⟩)
        · exact .inl h
        · cases a with
          | head => exact absurd b hi
          | tail _ a => exact .inr ⟨Q, a, b, c⟩
noncomputable def bestS (N : Nat) (xs : List Int) (c : Int) (rs : List Int) (rate : Int) (vs : List Int) (acc : Int × Bool) (d : Int) : Int × Bool :=
 if (hasF N xs (ipts (pv vs d) N)).1 = true ∧ (atF N xs c rs (ipts (pv vs d) N)).2 = 0 then
  (if acc.2 = false ∨ IntKind.i64.wrap ((atF N xs c rs (ipts (pv vs d) N)).1.1 + IntKind.i64.wrap (rate * d)) < acc.1 then (IntKind.i64.wrap ((atF N xs c rs (ipts (pv vs d) N)).1.1 + IntKind.i64.wrap (rate * d)), true) else acc)
 else acc
noncomputable def bestTo (N : Nat) (xs : List Int) (c : Int) (rs : List Int) (rate : Int) (vs : List Int) : Nat → Int × Bool
 | 0 => (0, false)
 | d + 1 => bestS N xs c rs rate vs (bestTo N xs c rs rate vs d) d
theorem SmZ.at {N : Nat} {xs : List Int} {c : Int} {rs : List Int} (hz : SmZ N xs c rs) {p : Nat → Int} (hp : Sp9 N p) : atF N xs c rs (ipts p N) = ((cS N xs c rs p N, 1), 0) ∧ -10000000 ≤ cS N xs c rs p N ∧ cS N xs c rs p N ≤ 10000000 := by
 have cb := hz.cb
 have n3 := hz.n3
 have hd : ∀ k, 1 ≤ k → k ≤ N → -1020 ≤ p k - lowF N xs k ∧ p k - lowF N xs k ≤ 1020 := fun k h1 h2 => by have := hp.b k h2; have := hz.low h2; omega
 have b := cS_bd (c := c) hz.rb hd N (Nat.le_refl _)
 have hN : (N : Int) ≤ 3 := by omega
 exact ⟨at_int n3 hz.pz hp (by omega) (fun k hk => by have := hz.rb k hk; omega) (fun k h1 h2 => by have := hz.low h2; omega), by omega, by omega⟩
theorem best_one {N : Nat} {xs : List Int} {c : Int} {rs : List Int} {rate : Int} {vs : List Int} (hz : SmZ N xs c rs) (r0 : 0 ≤ rate) (r1 : rate ≤ 1000) (hv : Vs N vs) {d : Int} (h0 : 0 ≤ d) (h1 : d ≤ 60) (acc : Int × Bool) :
  (Ip N xs (pv vs d) → bestS N xs c rs rate vs acc d = if acc.2 = false ∨ cS N xs c rs (pv vs d) N + rate * d < acc.1 then (cS N xs c rs (pv vs d) N + rate * d, true) else acc) ∧ (¬ Ip N xs (pv vs d) → bestS N xs c rs rate vs acc d = acc) := by
 have sp := hv.sp h0 h1
 obtain ⟨a1, a2, a3⟩ := hz.at sp
 have hi := has_int hz.ok sp
 have m := mul_rng (a := rate) (b := d) (A := 1000) (B := 60) (by omega) r1 (by omega) h1
 constructor
 ·intro h
  unfold bestS
  rw [if_pos ⟨hi.2 h, by rw [a1]⟩, a1]
  show (if acc.2 = false ∨ IntKind.i64.wrap (cS N xs c rs (pv vs d) N + IntKind.i64.wrap (rate * d)) < acc.1 then (IntKind.i64.wrap (cS N xs c rs (pv vs d) N + IntKind.i64.wrap (rate * d)), true) else acc) = _
  generalize rate * d = Y at *
  rw [wr_id (x := Y) (by omega) (by omega), wr_id (by omega) (by omega)]
 ·intro h
  unfold bestS
  rw [if_neg (fun k => h (hi.1 k.1))]
theorem best_mn {N : Nat} {xs : List Int} {c : Int} {rs : List Int} {rate : Int} {vs : List Int} (hz : SmZ N xs c rs) (r0 : 0 ≤ rate) (r1 : rate ≤ 1000) (hv : Vs N vs) : ∀ n : Nat, n ≤ 61 →
    Mn (fun x => ∃ d : Nat, d < n ∧ Ip N xs (pv vs d) ∧ x = cS N xs c rs (pv vs d) N + rate * d) (bestTo N xs c rs rate vs n)
  | 0, _ => Mn.none.congr (fun x => ⟨fun h => h.elim, fun ⟨d, h, _⟩ => by omega⟩)
  | n + 1, hn => by
    have ih := best_mn hz r0 r1 hv n (by omega)
    obtain ⟨b1, b2⟩ := best_one hz r0 r1 hv (d := n) (by omega) (by omega) (bestTo N xs c rs rate vs n)
    show Mn _ (bestS N xs c rs rate vs (bestTo N xs c rs rate vs n) n)
    by_cases h : Ip N xs (pv vs n)
    · rw [b1 h]
      refine (ih.step _).congr (fun x => ⟨?_, ?_⟩)
      · rintro (⟨d, a, b, c⟩ | e)
        · exact ⟨d, by omega, b, c⟩
        · exact ⟨n, by omega, h, e⟩
      · intro ⟨d, a, b, c⟩
        by_cases e : d = n
        · subst e; exact .inr c
        · exact .inl ⟨d, by omega, b, c⟩
    · rw [b2 h]
      refine ih.congr (fun x => ⟨fun ⟨d, a, b, c⟩ => ⟨d, by omega, b, c⟩, fun ⟨d, a, b, c⟩ => ?_⟩)
      by_cases e : d = n
      · subst e; exact absurd b h
      · exact ⟨d, by omega, b, c⟩
theorem best_stop {N : Nat} {xs : List Int} {c : Int} {rs : List Int} {rate : Int} {vs : List Int} (hz : SmZ N xs c rs) (r0 : 0 ≤ rate) (r1 : rate ≤ 1000) (hv : Vs N vs) {n : Nat} (h : gi vs 0 - n < 0) : ∀ k, n + k ≤ 61 → bestTo N xs c rs rate vs (n + k) = bestTo N xs c rs rate vs n
  | 0, _ => rfl
  | k + 1, hk => by
    show bestS N xs c rs rate vs (bestTo N xs c rs rate vs (n + k)) ((n + k : Nat) : Int) = _
    have n1 := hz.n1
    rw [(best_one hz r0 r1 hv (d := ((n + k : Nat) : Int)) (by omega) (by omega) _).2 (fun hi => by
      have := hi 0 1 (Nat.zero_le _) n1
      have r := ent_row hz.ok n1
      rw [pv_z, pv_s (Nat.le_refl _)] at this
      have e : gi vs (1 - 1) = gi vs 0 := rfl
      rw [e] at this
      omega)]
    exact best_stop hz r0 r1 hv h k (by omega)
theorem waits_plain {N : Nat} {xs : List Int} {c : Int} {rs : List Int} {rate : Int} (hz : SmZ N xs c rs) (r0 : 0 ≤ rate) (r1 : rate ≤ 1000) :
  ∃ L, delayF N xs c rs rate [] = (L, 0) ∧ ∀ vs, Vs N vs → toldF L (ipts (pv vs 0) N) = bestTo N xs c rs rate vs 61 := by
 obtain ⟨L, e, h⟩ := delay_plain hz r0 r1
 refine ⟨L, e, fun vs hv => ?_⟩
 obtain ⟨h1, h2⟩ := h vs hv
 have sp := hv.sp (d := 0) (by decide) (by decide)
 refine Mn.eq (told_mn (ps := ipts (pv vs 0) N) (V := fun P => (atF P.n P.xs P.c P.rs (ipts (pv vs 0) N)).1.1) (I := fun P => Ip N P.xs (pv vs 0)) L (0, false) _ Mn.none (fun P hP => ?_)) (best_mn hz r0 r1 hv 61 (Nat.le_refl _)) ?_ ?_
 ·obtain ⟨q1, q2, q3⟩ := h1 P hP
  rw [q1]
  have ok : OkZ N P.xs := by
   obtain ⟨M, eM, ok, _⟩ := pzB_nat q2
   rw [eM]; exact ok
  refine ⟨q2, has_int ok sp, fun hi => ?_⟩
  obtain ⟨d, _, _, _, a, _⟩ := q3 hi
  rw [a]
 ·rintro x (hx | ⟨P, hP, hi, rfl⟩)
  ·exact hx.elim
  ·obtain ⟨q1, q2, q3⟩ := h1 P hP
   obtain ⟨d, d0, d1, d2, a, _⟩ := q3 hi
   refine ⟨d.toNat, by omega, by rw [Int.toNat_of_nonneg d0]; exact d2, ?_⟩
   show (atF P.n P.xs P.c P.rs _).1.1 = _
   rw [q1, a, Int.toNat_of_nonneg d0]
 ·rintro y ⟨d, hd, hi, rfl⟩
  obtain ⟨P, hP, hp⟩ := h2 d (by omega) hi
  obtain ⟨q1, q2, q3⟩ := h1 P hP
  obtain ⟨d', _, _, _, a, m⟩ := q3 hp
  refine ⟨_, .inr ⟨P, hP, hp, rfl⟩, ?_⟩
  show (atF P.n P.xs P.c P.rs _).1.1 ≤ _
  rw [q1, a]
  exact m d (by omega) hi
set_option linter.unusedVariables false
def Eok (l : Int) : Prop := l = 1099511627776 ∨ (l % 2 = 1 ∧ -39 ≤ l ∧ l ≤ 41)
structure Sml (n : Int) (xs : List Int) (c : Int) (rs : List Int) : Prop where
 pz : pzB n xs c rs = true
 n1 : 1 ≤ n
 cb : -1000000 ≤ c ∧ c ≤ 1000000
 eb : ∀ k, k < xs.length → Eok (gi xs k)
 rb : ∀ k, k < rs.length → -1000 ≤ gi rs k ∧ gi rs k ≤ 1000
def SmR (n : Int) (xs : List Int) (c : Int) (rs : List Int) (e : Ending) : Prop := ∃ b, e = .returned (.bool b) ∧ (b = true → Sml n xs c rs)
theorem SmR.no (n : Int) (xs : List Int) (c : Int) (rs : List Int) : SmR n xs c rs (.returned (.bool false)) := ⟨false, rfl, fun h => by cases h⟩
theorem SmR.yes {n : Int} {xs : List Int} {c : Int} {rs : List Int} (h : Sml n xs c rs) : SmR n xs c rs (.returned (.bool true)) := ⟨true, rfl, fun _ => h⟩
set_option maxRecDepth 100000 in
set_option maxHeartbeats 4000000 in
theorem law_small (n c : Int) (v rv : Value) (xs rs : List Int) (w : World) (hv : RL w.heap.size w v xs) (hr : RL w.heap.size w rv rs) :
  Calls Tryz.prog 23 #[.agg #[.int .i64 n, v, .int .i64 c, rv]] w fun e w' => SmR n xs c rs e ∧ Below w.heap.size w w' := by
 obtain ⟨ao, cap, rfl, hle, h0⟩ := hv.open
 obtain ⟨aor, capr, rfl, hler, h0r⟩ := hr.open
 have hloc := Loc.one w (.cells #[.int .i64 n, .slice ao xs.length cap, .int .i64 c, .slice aor rs.length capr] 35) none
 have H0 := Lib.hid h0
 have H0r := Lib.hid h0r
 have Hv := Lib.hid hv
 have Hr := Lib.hid hr
 clear hv hr h0r h0
 go_enter Tryz.func23, Tryz.ntmps23
 have z0 : (w.alloc (.cells #[.int .i64 n, .slice ao xs.length cap, .int .i64 c, .slice aor rs.length capr] 35)).cell? ⟨w.heap.size, 0, none⟩ = some (.int .i64 n) := hloc.cell 0 rfl 0
 have z1 : (w.alloc (.cells #[.int .i64 n, .slice ao xs.length cap, .int .i64 c, .slice aor rs.length capr] 35)).cell? ⟨w.heap.size, 1, none⟩ = some (.slice ao xs.length cap) := hloc.cell 0 rfl 1
 have z2 : (w.alloc (.cells #[.int .i64 n, .slice ao xs.length cap, .int .i64 c, .slice aor rs.length capr] 35)).cell? ⟨w.heap.size, 2, none⟩ = some (.int .i64 c) := hloc.cell 0 rfl 2
 have z3 : (w.alloc (.cells #[.int .i64 n, .slice ao xs.length cap, .int .i64 c, .slice aor rs.length capr] 35)).cell? ⟨w.heap.size, 3, none⟩ = some (.slice aor rs.length capr) := hloc.cell 0 rfl 3
 go_wp2_with fail
 refine (ref_pcheck n c _ _ xs rs _ (Hv.out.keepb (below_grownBy hloc.grown)) (Hr.out.keepb (below_grownBy hloc.grown))).mono ?_
 rintro e w1 ⟨rfl, hb⟩
 have hloc1 := hloc.next (grownBy_below hb none) (fun _ h => by cases h)
 clear hb z0 z1 z2 z3 hloc
 have z0 : w1.cell? ⟨w.heap.size, 0, none⟩ = some (.int .i64 n) := hloc1.cell 0 rfl 0
 have z1 : w1.cell? ⟨w.heap.size, 1, none⟩ = some (.slice ao xs.length cap) := hloc1.cell 0 rfl 1
 have z2 : w1.cell? ⟨w.heap.size, 2, none⟩ = some (.int .i64 c) := hloc1.cell 0 rfl 2
 have z3 : w1.cell? ⟨w.heap.size, 3, none⟩ = some (.slice aor rs.length capr) := hloc1.cell 0 rfl 3
 have HW1 := Lib.hid (below_grownBy hloc1.grown)
 cases hpz : pzB n xs c rs with
 | false =>
  rw [pzE_no hpz]
  go_wp2_with fail
  go_ret
  exact ⟨SmR.no _ _ _ _, HW1.out⟩
 | true =>
  rw [pzE_yes hpz]
  by_cases hn : n < 1
  ·have hn' : decide (n < 1) = true := by simp; omega
   go_wp2_with fail
   go_ret
   exact ⟨SmR.no _ _ _ _, HW1.out⟩
  have hn' : decide (n < 1) = false := by simp; omega
  by_cases hc1 : c < -1000000
  ·have hc1' : decide (c < -1000000) = true := by simp; omega
   go_wp2_with fail
   go_ret
   exact ⟨SmR.no _ _ _ _, HW1.out⟩
  have hc1' : decide (c < -1000000) = false := by simp; omega
  by_cases hc2 : 1000000 < c
  ·have hc2' : decide (1000000 < c) = true := by simp; omega
   go_wp2_with fail
   go_ret
   exact ⟨SmR.no _ _ _ _, HW1.out⟩
  have hc2' : decide (1000000 < c) = false := by simp; omega
  go_upto_region 3 with fail
  have HL := Lib.hid hloc1
  clear z0 z1 z2 z3 hloc1
  go_wp2_with fail
  go_loopw [3] (fun i wr => ∃ k : Nat, k ≤ xs.length ∧ i = .int .i64 k ∧ (∀ j, j < k → Eok (gi xs j)) ∧ Loc w wr none [.cells #[.int .i64 n, .slice ao xs.length cap, .int .i64 c, .slice aor rs.length capr] 35]) (fun i _ => xs.length - (intOf i).toNat)
  case atStart => exact ⟨0, Nat.zero_le _, rfl, fun j hj => by omega, HL.out⟩
  case round =>
   obtain ⟨k, hk, rfl, hE, hloc1⟩ := hrel
   have HE := Lib.hid hE
   have HW := Lib.hid (below_grownBy hloc1.grown)
   have z0 : wr.cell? ⟨w.heap.size, 0, none⟩ = some (.int .i64 n) := hloc1.cell 0 rfl 0
   have z1 : wr.cell? ⟨w.heap.size, 1, none⟩ = some (.slice ao xs.length cap) := hloc1.cell 0 rfl 1
   have z2 : wr.cell? ⟨w.heap.size, 2, none⟩ = some (.int .i64 c) := hloc1.cell 0 rfl 2
   have z3 : wr.cell? ⟨w.heap.size, 3, none⟩ = some (.slice aor rs.length capr) := hloc1.cell 0 rfl 3
   clear hE
   by_cases hlt : k < xs.length
   ·have htk : decide ((k : Int) < (xs.length : Int)) = true := by simp; omega
    obtain ⟨b, off, rfl, hb, hc⟩ := H0.out (by omega)
    obtain ⟨E, hE⟩ : ∃ E, gi xs k = E := ⟨_, rfl⟩
    have x0 : wr.cell? ⟨b, off + k, none⟩ = some (.int .i64 E) := by
     have h := ((bcell HW.out).1 b (off + k) hb).trans (hc k hlt)
     rw [hE] at h
     exact h
    have k0 : (k : Int) < xs.length := by omega
    have k1 : (0 : Int) ≤ (k : Int) := by omega
    clear hc
    go_upto_region 7 with fail
    by_cases e1 : E = 1099511627776
    ·have e1' : (E != 1099511627776) = false := by simpa using e1
     have HN := Lib.hid (show ∀ j, j < k + 1 → Eok (gi xs j) from fun j hj => by
      by_cases e : j = k
      ·rw [e, hE]; exact .inl e1
      ·exact HE.out j (by omega))
     go_wp2_with fail
     go_roundw
     case rel => exact ⟨k + 1, by omega, by go_num, HN.out, hloc1⟩
     case measure => simp [intOf]; omega
    have e1' : (E != 1099511627776) = true := by simpa using e1
    by_cases e2 : E.tmod 2 = 0
    ·have e2' : (E.tmod 2 == 0) = true := by simpa using e2
     clear e2
     go_wp2_with fail
     go_ret
     exact ⟨SmR.no _ _ _ _, HW.out⟩
    have e2' : (E.tmod 2 == 0) = false := by simpa using e2
    have e5 : E % 2 = 1 := by
     by_cases h : E % 2 = 0
     ·exact absurd (Int.tmod_eq_zero_of_dvd (Int.dvd_of_emod_eq_zero h)) e2
     ·omega
    have e5' : (E % 2 == 0) = false := by rw [e5]; rfl
    have E5 := Lib.hid e5
    clear e5
    by_cases e3 : 41 < E
    ·have e3' : decide (41 < E) = true := by simpa using e3
     clear e2
     go_wp2_with fail
     go_ret
     exact ⟨SmR.no _ _ _ _, HW.out⟩
    have e3' : decide (41 < E) = false := by simp; omega
    by_cases e4 : E < -39
    ·have e4' : decide (E < -39) = true := by simpa using e4
     clear e2
     go_wp2_with fail
     go_ret
     exact ⟨SmR.no _ _ _ _, HW.out⟩
    have e4' : decide (E < -39) = false := by simp; omega
    have HN := Lib.hid (show ∀ j, j < k + 1 → Eok (gi xs j) from fun j hj => by
     by_cases e : j = k
     ·rw [e, hE]; exact .inr ⟨E5.out, by omega, by omega⟩
     ·exact HE.out j (by omega))
    clear e2
    go_wp2_with fail
    go_roundw
    case rel => exact ⟨k + 1, by omega, by go_num, HN.out, hloc1⟩
    case measure => simp [intOf]; omega
   ·have htk : decide ((k : Int) < (xs.length : Int)) = false := by simp; omega
    have HX := Lib.hid (show ∀ j, j < xs.length → Eok (gi xs j) from fun j hj => HE.out j (by omega))
    go_upto_region 9 with fail
    have HL := Lib.hid hloc1
    clear z0 z1 z2 z3 hloc1 HE hk hlt htk
    go_wp2_with fail
    go_loopw [5] (fun i wr2 => ∃ k : Nat, k ≤ rs.length ∧ i = .int .i64 k ∧ (∀ j, j < k → -1000 ≤ gi rs j ∧ gi rs j ≤ 1000) ∧ Loc w wr2 none [.cells #[.int .i64 n, .slice ao xs.length cap, .int .i64 c, .slice aor rs.length capr] 35]) (fun i _ => rs.length - (intOf i).toNat)
    case atStart => exact ⟨0, Nat.zero_le _, rfl, fun j hj => by omega, HL.out⟩
    case round =>
     clear HL HW
     obtain ⟨q, hq, rfl, hE2, hloc2⟩ := hrel
     have HE2 := Lib.hid hE2
     obtain ⟨wa, hwa⟩ : ∃ V, V = wr := ⟨_, rfl⟩
     subst hwa
     have HW2 := Lib.hid (below_grownBy hloc2.grown)
     have z0 : wa.cell? ⟨w.heap.size, 0, none⟩ = some (.int .i64 n) := hloc2.cell 0 rfl 0
     have z1 : wa.cell? ⟨w.heap.size, 1, none⟩ = some (.slice ao xs.length cap) := hloc2.cell 0 rfl 1
     have z2 : wa.cell? ⟨w.heap.size, 2, none⟩ = some (.int .i64 c) := hloc2.cell 0 rfl 2
     have z3 : wa.cell? ⟨w.heap.size, 3, none⟩ = some (.slice aor rs.length capr) := hloc2.cell 0 rfl 3
     clear hE2
     by_cases hlt : q < rs.length
     ·have htk : decide ((q : Int) < (rs.length : Int)) = true := by simp; omega
      obtain ⟨b, off, rfl, hb, hc⟩ := H0r.out (by omega)
      obtain ⟨E, hE⟩ : ∃ E, gi rs q = E := ⟨_, rfl⟩
      have x0 : wa.cell? ⟨b, off + q, none⟩ = some (.int .i64 E) := by
       have h := ((bcell HW2.out).1 b (off + q) hb).trans (hc q hlt)
       rw [hE] at h
       exact h
      have k0 : (q : Int) < rs.length := by omega
      have k1 : (0 : Int) ≤ (q : Int) := by omega
      clear hc
      by_cases e3 : E < -1000
      ·have e3' : decide (E < -1000) = true := by simpa using e3
       go_wp2_with fail
       go_ret
       exact ⟨SmR.no _ _ _ _, HW2.out⟩
      have e3' : decide (E < -1000) = false := by simp; omega
      by_cases e4 : 1000 < E
      ·have e4' : decide (1000 < E) = true := by simpa using e4
       go_wp2_with fail
       go_ret
       exact ⟨SmR.no _ _ _ _, HW2.out⟩
      have e4' : decide (1000 < E) = false := by simp; omega
      have HN := Lib.hid (show ∀ j, j < q + 1 → -1000 ≤ gi rs j ∧ gi rs j ≤ 1000 from fun j hj => by
       by_cases e : j = q
       ·rw [e, hE]; omega
       ·exact HE2.out j (by omega))
      go_wp2_with fail
      go_roundw
      case rel => exact ⟨q + 1, by omega, by go_num, HN.out, hloc2⟩
      case measure => simp [intOf]; omega
     ·have htk : decide ((q : Int) < (rs.length : Int)) = false := by simp; omega
      have HY := Lib.hid (show ∀ j, j < rs.length → -1000 ≤ gi rs j ∧ gi rs j ≤ 1000 from fun j hj => HE2.out j (by omega))
      go_wp2_with fail
      go_ret
      exact ⟨SmR.yes ⟨hpz, by omega, ⟨by omega, by omega⟩, HX.out, HY.out⟩, HW2.out⟩
end Go.Proofs.YtfphlpglgcmljaaGreat
