/- Part of the proof of priced_resets_proved: Psl. -/
import Derived.Deep.RegionHeld3
import Derived.Test.YtfphlpglgcmljaaGreatXsPix
import Derived.Test.YtfphlpglgcmljaaGreatXsPla
namespace Go.Proofs.YtfphlpglgcmljaaGreat
open Go.RowKit
set_option linter.unusedVariables false
def LR (w : World) (els : List Pz) : Prop := ∀ x, x ∈ els → RL w.heap.size w x.zv x.xs ∧ RL w.heap.size w x.rv x.rs
theorem LR.keepb {w w' : World} {els : List Pz} (h : LR w els) (hb : Below w.heap.size w w') : LR w' els := fun x hx => ⟨(h x hx).1.keepb hb, (h x hx).2.keepb hb⟩
theorem LZ.lr {w : World} {els : List Pz} (h : LZ w els) : LR w els := fun x hx => ⟨OL.rl (h x hx).1, OL.rl (h x hx).2⟩
def GR (r : List Pv) (v : Value) (w : World) : Prop := ∃ els, RX cdPz w.heap.size w v els ∧ LR w els ∧ els.map pvOf = r
theorem GR.keepb {r : List Pv} {v : Value} {w w' : World} (h : GR r v w) (hb : Below w.heap.size w w') : GR r v w' := by
 obtain ⟨els, h1, h2, h3⟩ := h
 exact ⟨els, h1.keepb hb, h2.keepb hb, h3⟩
theorem GaP.gr {base : Nat} {r : List Pv × Int} {e : Ending} {w' : World} (h : GaP base r e w') : ∃ v', e = .returned (.tuple #[v', .int .i64 r.2]) ∧ GR r.1 v' w' := by
 obtain ⟨v', els, h1, h2, h3, h4⟩ := h
 exact ⟨v', h1, els, OE.re (by decide) h2, h3.lr, h4⟩
theorem pv_at {l1 l2 : List Pz} (h : l1.map pvOf = l2.map pvOf) {k : Nat} (h1 : k < l1.length) (h2 : k < l2.length) : pvOf (ge cdPz l1 k) = pvOf (ge cdPz l2 k) := by
 rw [ge_of cdPz h1, ge_of cdPz h2]
 have e1 : (l1.map pvOf)[k]? = some (pvOf l1[k]) := by rw [List.getElem?_map, List.getElem?_eq_getElem h1]; rfl
 have e2 : (l2.map pvOf)[k]? = some (pvOf l2[k]) := by rw [List.getElem?_map, List.getElem?_eq_getElem h2]; rfl
 rw [h, e2] at e1
 exact (Option.some.inj e1).symm
set_option maxRecDepth 100000 in
set_option maxHeartbeats 4000000 in
theorem law_samelists (v1 v2 : Value) (l : List Pv) (w : World) (h1 : GR l v1 w) (h2 : GR l v2 w) :
  Calls Tryz.prog 19 #[v1, v2] w fun e w' => e = .returned (.bool true) ∧ Below w.heap.size w w' := by
 obtain ⟨e1, r1, z1, m1⟩ := h1
 obtain ⟨e2, r2, z2, m2⟩ := h2
 have hlen : e2.length = e1.length := by have := congrArg List.length (m2.trans m1.symm); simpa using this
 have HM := Lib.hid (m1.trans m2.symm)
 have Z1 := Lib.hid z1
 have Z2 := Lib.hid z2
 obtain ⟨ao1, cap1, rfl, hle1, hc1⟩ := r1.open
 obtain ⟨ao2, cap2, rfl, hle2, hc2⟩ := r2.open
 rw [hlen]
 have Hlen := Lib.hid hlen
 have HC1 := Lib.hid hc1
 have HC2 := Lib.hid hc2
 have hne : ((e1.length : Int) != (e1.length : Int)) = false := by simp
 clear r1 r2 z1 z2 m1 m2 hc1 hc2 hlen
 go_enter Tryz.func19, Tryz.ntmps19
 go_wp2_with fail
 go_loopw [5] (fun i wr => ∃ k : Nat, k ≤ e1.length ∧ i = .int .i64 k ∧ Below w.heap.size w wr) (fun i _ => e1.length - (intOf i).toNat)
 case atStart => exact ⟨0, Nat.zero_le _, rfl, Below.refl _ _⟩
 case round =>
  obtain ⟨k, hk, rfl, hw⟩ := hrel
  have HW := Lib.hid hw
  clear hw
  by_cases hlt : k < e1.length
  rotate_left
  ·have htk : decide ((k : Int) < (e1.length : Int)) = false := by simp; omega
   go_wp2_with fail
   go_ret
   exact ⟨rfl, HW.out⟩
  have htk : decide ((k : Int) < (e1.length : Int)) = true := by simp; omega
  obtain ⟨b, off, rfl, hb, hcc⟩ := HC1.out (by omega)
  obtain ⟨b2, off2, rfl, hb2, hcc2⟩ := HC2.out (by have := Hlen.out; omega)
  have hl2 : k < e2.length := by have := Hlen.out; omega
  have hpv := pv_at HM.out hlt hl2
  have hz1 := Z1.out _ (ge_mem cdPz hlt)
  have hz2 := Z2.out _ (ge_mem cdPz hl2)
  obtain ⟨E, hE⟩ : ∃ E, ge cdPz e1 k = E := ⟨_, rfl⟩
  obtain ⟨E2, hE2⟩ : ∃ E, ge cdPz e2 k = E := ⟨_, rfl⟩
  rw [hE, hE2] at hpv
  rw [hE] at hz1
  rw [hE2] at hz2
  obtain ⟨n, zv, xs, c, rv, rs⟩ := E
  obtain ⟨n', zv', xs', c', rv', rs'⟩ := E2
  simp only [pvOf, Pv.mk.injEq] at hpv
  obtain ⟨rfl, rfl, rfl, rfl⟩ := hpv
  have HZ1 := Lib.hid hz1
  have HZ2 := Lib.hid hz2
  have k0 : (k : Int) < e1.length := by omega
  have k1 : (0 : Int) ≤ (k : Int) := by omega
  have x0 : wr.cell? ⟨b, off + k * 4, none⟩ = some (.int .i64 n) := by
   have h := ((bcell HW.out).1 b (off + (k * 4 + 0)) hb).trans (hcc k 0 hlt (by decide))
   rw [hE] at h
   rw [show off + k * 4 = off + (k * 4 + 0) by omega]
   exact h
  have x1 : wr.cell? ⟨b, off + k * 4 + 1, none⟩ = some (zv) := by
   have h := ((bcell HW.out).1 b (off + (k * 4 + 1)) hb).trans (hcc k 1 hlt (by decide))
   rw [hE] at h
   rw [show off + k * 4 + 1 = off + (k * 4 + 1) by omega]
   exact h
  have x2 : wr.cell? ⟨b, off + k * 4 + 2, none⟩ = some (.int .i64 c) := by
   have h := ((bcell HW.out).1 b (off + (k * 4 + 2)) hb).trans (hcc k 2 hlt (by decide))
   rw [hE] at h
   rw [show off + k * 4 + 2 = off + (k * 4 + 2) by omega]
   exact h
  have x3 : wr.cell? ⟨b, off + k * 4 + 3, none⟩ = some (rv) := by
   have h := ((bcell HW.out).1 b (off + (k * 4 + 3)) hb).trans (hcc k 3 hlt (by decide))
   rw [hE] at h
   rw [show off + k * 4 + 3 = off + (k * 4 + 3) by omega]
   exact h
  have y0 : wr.cell? ⟨b2, off2 + k * 4, none⟩ = some (.int .i64 n) := by
   have h := ((bcell HW.out).1 b2 (off2 + (k * 4 + 0)) hb2).trans (hcc2 k 0 hl2 (by decide))
   rw [hE2] at h
   rw [show off2 + k * 4 = off2 + (k * 4 + 0) by omega]
   exact h
  have y1 : wr.cell? ⟨b2, off2 + k * 4 + 1, none⟩ = some (zv') := by
   have h := ((bcell HW.out).1 b2 (off2 + (k * 4 + 1)) hb2).trans (hcc2 k 1 hl2 (by decide))
   rw [hE2] at h
   rw [show off2 + k * 4 + 1 = off2 + (k * 4 + 1) by omega]
   exact h
  have y2 : wr.cell? ⟨b2, off2 + k * 4 + 2, none⟩ = some (.int .i64 c) := by
   have h := ((bcell HW.out).1 b2 (off2 + (k * 4 + 2)) hb2).trans (hcc2 k 2 hl2 (by decide))
   rw [hE2] at h
   rw [show off2 + k * 4 + 2 = off2 + (k * 4 + 2) by omega]
   exact h
  have y3 : wr.cell? ⟨b2, off2 + k * 4 + 3, none⟩ = some (rv') := by
   have h := ((bcell HW.out).1 b2 (off2 + (k * 4 + 3)) hb2).trans (hcc2 k 3 hl2 (by decide))
   rw [hE2] at h
   rw [show off2 + k * 4 + 3 = off2 + (k * 4 + 3) by omega]
   exact h
  clear hcc hcc2 hE hE2 hz1 hz2 hlt hl2
  go_upto_region 6 with fail
  have HS := Lib.hid (fun (X : World) (hX : Below wr.heap.size wr X) => (⟨keepb x0 hX, keepb x1 hX, keepb x2 hX, keepb x3 hX, keepb y0 hX, keepb y1 hX, keepb y2 hX, keepb y3 hX⟩ : X.cell? ⟨b, off + k * 4, none⟩ = some (.int .i64 n) ∧ X.cell? ⟨b, off + k * 4 + 1, none⟩ = some (zv) ∧ X.cell? ⟨b, off + k * 4 + 2, none⟩ = some (.int .i64 c) ∧ X.cell? ⟨b, off + k * 4 + 3, none⟩ = some (rv) ∧ X.cell? ⟨b2, off2 + k * 4, none⟩ = some (.int .i64 n) ∧ X.cell? ⟨b2, off2 + k * 4 + 1, none⟩ = some (zv') ∧ X.cell? ⟨b2, off2 + k * 4 + 2, none⟩ = some (.int .i64 c) ∧ X.cell? ⟨b2, off2 + k * 4 + 3, none⟩ = some (rv')))
  refine wp_region_noPanic ?_
  refine wp_region_held_drew (S := (fun w' => w'.cell? ⟨b, off + k * 4, none⟩ = some (.int .i64 n) ∧ w'.cell? ⟨b, off + k * 4 + 1, none⟩ = some (zv) ∧ w'.cell? ⟨b, off + k * 4 + 2, none⟩ = some (.int .i64 c) ∧ w'.cell? ⟨b, off + k * 4 + 3, none⟩ = some (rv) ∧ w'.cell? ⟨b2, off2 + k * 4, none⟩ = some (.int .i64 n) ∧ w'.cell? ⟨b2, off2 + k * 4 + 1, none⟩ = some (zv') ∧ w'.cell? ⟨b2, off2 + k * 4 + 2, none⟩ = some (.int .i64 c) ∧ w'.cell? ⟨b2, off2 + k * 4 + 3, none⟩ = some (rv'))) (by kernel_rfl) ⟨x0, x1, x2, x3, y0, y1, y2, y3⟩ (fun hHeld => ?_)
  refine wpAnyH_take (i := 0) (v := ?_) rfl (by kernel_rfl) (by kernel_rfl) (by kernel_rfl) (fun _ _ _ h => h) (Or.inl ⟨by rfl, ?_⟩) (by assumption) ?_
  rotate_left
  ·intro w hSw; (try dsimp only at hSw); go_simp; (try with_reducible rfl)
  try simp only [Act.put, List.getElem_toArray, List.getElem_cons_zero, List.setIfInBounds_toArray, List.set_cons_zero, List.set_cons_succ]
  refine wpAnyH_take (i := 1) (v := ?_) rfl (by kernel_rfl) (by kernel_rfl) (by kernel_rfl) (fun _ _ _ h => h) (Or.inl ⟨by rfl, ?_⟩) (by assumption) ?_
  rotate_left
  ·intro w hSw; (try dsimp only at hSw); go_simp; (try with_reducible rfl)
  try simp only [Act.put, List.getElem_toArray, List.getElem_cons_zero, List.getElem_cons_succ, List.setIfInBounds_toArray, List.set_cons_zero, List.set_cons_succ]
  refine wpAnyH_take (i := 2) (v := ?_) rfl (by kernel_rfl) (by kernel_rfl) (by kernel_rfl) (fun _ _ _ h => h) (Or.inl ⟨by rfl, ?_⟩) (by assumption) ?_
  rotate_left
  ·intro w hSw; (try dsimp only at hSw); go_simp; (try with_reducible rfl)
  try simp only [Act.put, List.getElem_toArray, List.getElem_cons_zero, List.getElem_cons_succ, List.setIfInBounds_toArray, List.set_cons_zero, List.set_cons_succ]
  refine wpAnyH_take (i := 3) (v := ?_) rfl (by kernel_rfl) (by kernel_rfl) (by kernel_rfl) (fun _ _ _ h => h) (Or.inl ⟨by rfl, ?_⟩) (by assumption) ?_
  rotate_left
  ·intro w hSw; (try dsimp only at hSw); go_simp; (try with_reducible rfl)
  try simp only [Act.put, List.getElem_toArray, List.getElem_cons_zero, List.getElem_cons_succ, List.setIfInBounds_toArray, List.set_cons_zero, List.set_cons_succ]
  refine wpAnyH_take (i := 4) (v := ?_) rfl (by kernel_rfl) (by kernel_rfl) (by kernel_rfl) (fun _ _ _ h => h) (Or.inl ⟨by rfl, ?_⟩) (by assumption) ?_
  rotate_left
  ·intro w hSw; (try dsimp only at hSw); go_simp; (try with_reducible rfl)
  try simp only [Act.put, List.getElem_toArray, List.getElem_cons_zero, List.getElem_cons_succ, List.setIfInBounds_toArray, List.set_cons_zero, List.set_cons_succ]
  refine wpAnyH_take (i := 5) (v := ?_) rfl (by kernel_rfl) (by kernel_rfl) (by kernel_rfl) (fun _ _ _ h => h) (Or.inl ⟨by rfl, ?_⟩) (by assumption) ?_
  rotate_left
  ·intro w hSw; (try dsimp only at hSw); go_simp; (try with_reducible rfl)
  try simp only [Act.put, List.getElem_toArray, List.getElem_cons_zero, List.getElem_cons_succ, List.setIfInBounds_toArray, List.set_cons_zero, List.set_cons_succ]
  refine wpAnyH_take (i := 6) (v := ?_) rfl (by kernel_rfl) (by kernel_rfl) (by kernel_rfl) (fun _ _ _ h => h) (Or.inl ⟨by rfl, ?_⟩) (by assumption) ?_
  rotate_left
  ·intro w hSw; (try dsimp only at hSw); go_simp; (try with_reducible rfl)
  try simp only [Act.put, List.getElem_toArray, List.getElem_cons_zero, List.getElem_cons_succ, List.setIfInBounds_toArray, List.set_cons_zero, List.set_cons_succ]
  refine wpAnyH_take (i := 7) (v := ?_) rfl (by kernel_rfl) (by kernel_rfl) (by kernel_rfl) (fun _ _ _ h => h) (Or.inl ⟨by rfl, ?_⟩) (by assumption) ?_
  rotate_left
  ·intro w hSw; (try dsimp only at hSw); go_simp; (try with_reducible rfl)
  try simp only [Act.put, List.getElem_toArray, List.getElem_cons_zero, List.getElem_cons_succ, List.setIfInBounds_toArray, List.set_cons_zero, List.set_cons_succ]
  have H0 := Lib.hid (show Below wr.heap.size wr wr.drew from (Below.refl _ _).drew)
  clear hHeld x0 x1 x2 x3 y0 y1 y2 y3
  generalize wr.drew = X0 at *
  refine wpAnyH_ready (rs := [8]) (by kernel_rfl) (by simp) ?_
  refine AllReadyH.cons rfl (fun K hK => ?_) AllReadyH.nil
  go_simp
  refine (law_same23 n c zv rv zv' rv' xs rs _ (HZ1.out.1.keepb (bt HW.out H0.out)) (HZ1.out.2.keepb (bt HW.out H0.out)) (HZ2.out.1.keepb (bt HW.out H0.out)) (HZ2.out.2.keepb (bt HW.out H0.out))).mono ?_
  rintro e w3 ⟨rfl, hb3⟩
  refine hK.out _ _ (HS.out _ (bt H0.out hb3)) (fun hHeld2 => ?_)
  clear hK K
  refine wpAnyH_take (i := 9) (v := ?_) rfl (by kernel_rfl) (by kernel_rfl) (by kernel_rfl) (fun _ _ _ h => h) (Or.inl ⟨by rfl, ?_⟩) (by assumption) ?_
  rotate_left
  ·intro w hSw; (try dsimp only at hSw); go_simp; (try with_reducible rfl)
  try simp only [Act.put, List.getElem_toArray, List.getElem_cons_zero, List.getElem_cons_succ, List.setIfInBounds_toArray, List.set_cons_zero, List.set_cons_succ]
  refine wpAnyH_done (by kernel_rfl) ?_ _
  refine NoPanic.normal ?_
  have HW3 := Lib.hid (bt HW.out (bt H0.out hb3))
  go_wp2_with fail
  go_roundw
  case rel => exact ⟨k + 1, by omega, by go_num, HW3.out⟩
  case measure => simp [intOf]; omega
end Go.Proofs.YtfphlpglgcmljaaGreat
