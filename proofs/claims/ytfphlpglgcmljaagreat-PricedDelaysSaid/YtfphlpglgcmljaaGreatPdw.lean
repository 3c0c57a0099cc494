/- The reference's Delay. Two lists of priced zones that hold the same are told to be equal; what a gathered list reads as. The law PricedDelays answers true for every input, and writes nothing that was there. -/
import Derived.Test.YtfphlpglgcmljaaGreatRdh
import Derived.Test.YtfphlpglgcmljaaGreatRdi
import Derived.Test.YtfphlpglgcmljaaGreatPdd
import Derived.Test.YtfphlpglgcmljaaGreatPla
import Derived.Deep.RegionHeld3
import Derived.Test.YtfphlpglgcmljaaGreatPaw
namespace Go.Proofs.YtfphlpglgcmljaaGreat
open Go.RowKit
set_option linter.unusedVariables false

theorem ref_delay (n c rate : Int) (v rv lv : Value) (xs rs : List Int) (cs : List Kc) (w : World) (hv : RL w.heap.size w v xs) (hr : RL w.heap.size w rv rs) (hl : RX cdCon w.heap.size w lv cs) (hn : cs.length ≤ 1000) :
    Calls Tryz.prog 18 #[.agg #[.int .i64 n, v, .int .i64 c, rv], .int .i64 rate, lv] w fun e w' => GaP w.heap.size (delayF n xs c rs rate cs) e w' ∧ Below w.heap.size w w' := by
  by_cases h : moTo rate rs rs.length < 0
  · exact ref_delay_lo n c rate v rv lv xs rs cs w hv hr hl hn h
  · by_cases h2 : (andF n.toNat xs (cs.map con3)).1 = 0
    · exact ref_delay_hi1 n c rate v rv lv xs rs cs w hv hr hl hn (Int.not_lt.1 h) h2
    · exact ref_delay_hi0 n c rate v rv lv xs rs cs w hv hr hl hn (Int.not_lt.1 h) h2
end Go.Proofs.YtfphlpglgcmljaaGreat
namespace Go.Proofs.YtfphlpglgcmljaaGreat
open Go.RowKit
set_option linter.unusedVariables false

/-- The elements' slices can be read. -/
def LR (w : World) (els : List Pz) : Prop := ∀ x, x ∈ els → RL w.heap.size w x.zv x.xs ∧ RL w.heap.size w x.rv x.rs
theorem LR.keepb {w w' : World} {els : List Pz} (h : LR w els) (hb : Below w.heap.size w w') : LR w' els := fun x hx => ⟨(h x hx).1.keepb hb, (h x hx).2.keepb hb⟩
theorem LZ.lr {w : World} {els : List Pz} (h : LZ w els) : LR w els := fun x hx => ⟨OL.rl (h x hx).1, OL.rl (h x hx).2⟩
/-- A list of priced zones as it reads. -/
def GR (r : List Pv) (v : Value) (w : World) : Prop := ∃ els, RX cdPz w.heap.size w v els ∧ LR w els ∧ els.map pvOf = r
theorem GR.keepb {r : List Pv} {v : Value} {w w' : World} (h : GR r v w) (hb : Below w.heap.size w w') : GR r v w' := by
  obtain ⟨els, h1, h2, h3⟩ := h
  exact ⟨els, h1.keepb hb, h2.keepb hb, h3⟩
theorem GaP.gr {base : Nat} {r : List Pv × Int} {e : Ending} {w' : World} (h : GaP base r e w') : ∃ v', e = .returned (.tuple #[v', .int .i64 r.2]) ∧ GR r.1 v' w' := by
  obtain ⟨v', els, h1, h2, h3, h4⟩ := h
  exact ⟨v', h1, els, OE.re (by decide) h2, h3.lr, h4⟩
theorem pv_at {l1 l2 : List Pz} (h : l1.map pvOf = l2.map pvOf) {k : Nat} (h1 : k < l1.length) (h2 : k < l2.length) : pvOf (ge cdPz l1 k) = pvOf (ge cdPz l2 k) := by
  rw [ge_of cdPz h1, ge_of cdPz h2]
  have e1 : (l1.map pvOf)[k]? = some (pvOf l1[k]) := by rw [List.getElem?_map, List.getElem?_eq_getElem h1]; rfl
  have e2 : (l2.map pvOf)[k]? = some (pvOf l2[k]) := by rw [List.getElem?_map, List.getElem?_eq_getElem h2]; rfl
  rw [h, e2] at e1
  exact (Option.some.inj e1).symm
set_option maxRecDepth 100000 in
set_option maxHeartbeats 4000000 in
theorem law_samelists (v1 v2 : Value) (l : List Pv) (w : World) (h1 : GR l v1 w) (h2 : GR l v2 w) :
    Calls Tryz.prog 19 #[v1, v2] w fun e w' => e = .returned (.bool true) ∧ Below w.heap.size w w' := by
  obtain ⟨e1, r1, z1, m1⟩ := h1
  obtain ⟨e2, r2, z2, m2⟩ := h2
  have hlen : e2.length = e1.length := by have := congrArg List.length (m2.trans m1.symm); simpa using this
  have HM := Lib.hid (m1.trans m2.symm)
  have Z1 := Lib.hid z1
  have Z2 := Lib.hid z2
  obtain ⟨ao1, cap1, rfl, hle1, hc1⟩ := r1.open
  obtain ⟨ao2, cap2, rfl, hle2, hc2⟩ := r2.open
  rw [hlen]
  have Hlen := Lib.hid hlen
  have HC1 := Lib.hid hc1
  have HC2 := Lib.hid hc2
  have hne : ((e1.length : Int) != (e1.length : Int)) = false := by simp
  clear r1 r2 z1 z2 m1 m2 hc1 hc2 hlen
  go_enter Tryz.func19, Tryz.ntmps19
  go_wp2_with fail
  go_loopw [5] (fun i wr => ∃ k : Nat, k ≤ e1.length ∧ i = .int .i64 k ∧ Below w.heap.size w wr) (fun i _ => e1.length - (intOf i).toNat)
  case atStart => exact ⟨0, Nat.zero_le _, rfl, Below.refl _ _⟩
  case round =>
    obtain ⟨k, hk, rfl, hw⟩ := hrel
    have HW := Lib.hid hw
    clear hw
    by_cases hlt : k < e1.length
    rotate_left
    · have htk : decide ((k : Int) < (e1.length : Int)) = false := by simp; omega
      go_wp2_with fail
      go_ret
      exact ⟨rfl, HW.out⟩
    have htk : decide ((k : Int) < (e1.length : Int)) = true := by simp; omega
    obtain ⟨b, off, rfl, hb, hcc⟩ := HC1.out (by omega)
    obtain ⟨b2, off2, rfl, hb2, hcc2⟩ := HC2.out (by have := Hlen.out; omega)
    have hl2 : k < e2.length := by have := Hlen.out; omega
    have hpv := pv_at HM.out hlt hl2
    have hz1 := Z1.out _ (ge_mem cdPz hlt)
    have hz2 := Z2.out _ (ge_mem cdPz hl2)
    obtain ⟨E, hE⟩ : ∃ E, ge cdPz e1 k = E := ⟨_, rfl⟩
    obtain ⟨E2, hE2⟩ : ∃ E, ge cdPz e2 k = E := ⟨_, rfl⟩
    rw [hE, hE2] at hpv
    rw [hE] at hz1
    rw [hE2] at hz2
    obtain ⟨n, zv, xs, c, rv, rs⟩ := E
    obtain ⟨n', zv', xs', c', rv', rs'⟩ := E2
    simp only [pvOf, Pv.mk.injEq] at hpv
    obtain ⟨rfl, rfl, rfl, rfl⟩ := hpv
    have HZ1 := Lib.hid hz1
    have HZ2 := Lib.hid hz2
    have k0 : (k : Int) < e1.length := by omega
    have k1 : (0 : Int) ≤ (k : Int) := by omega
    have x0 : wr.cell? ⟨b, off + k * 4, none⟩ = some (.int .i64 n) := by
      have h := ((bcell HW.out).1 b (off + (k * 4 + 0)) hb).trans (hcc k 0 hlt (by decide))
      rw [hE] at h
      rw [show off + k * 4 = off + (k * 4 + 0) by omega]
      exact h
    have x1 : wr.cell? ⟨b, off + k * 4 + 1, none⟩ = some (zv) := by
      have h := ((bcell HW.out).1 b (off + (k * 4 + 1)) hb).trans (hcc k 1 hlt (by decide))
      rw [hE] at h
      rw [show off + k * 4 + 1 = off + (k * 4 + 1) by omega]
      exact h
    have x2 : wr.cell? ⟨b, off + k * 4 + 2, none⟩ = some (.int .i64 c) := by
      have h := ((bcell HW.out).1 b (off + (k * 4 + 2)) hb).trans (hcc k 2 hlt (by decide))
      rw [hE] at h
      rw [show off + k * 4 + 2 = off + (k * 4 + 2) by omega]
      exact h
    have x3 : wr.cell? ⟨b, off + k * 4 + 3, none⟩ = some (rv) := by
      have h := ((bcell HW.out).1 b (off + (k * 4 + 3)) hb).trans (hcc k 3 hlt (by decide))
      rw [hE] at h
      rw [show off + k * 4 + 3 = off + (k * 4 + 3) by omega]
      exact h
    have y0 : wr.cell? ⟨b2, off2 + k * 4, none⟩ = some (.int .i64 n) := by
      have h := ((bcell HW.out).1 b2 (off2 + (k * 4 + 0)) hb2).trans (hcc2 k 0 hl2 (by decide))
      rw [hE2] at h
      rw [show off2 + k * 4 = off2 + (k * 4 + 0) by omega]
      exact h
    have y1 : wr.cell? ⟨b2, off2 + k * 4 + 1, none⟩ = some (zv') := by
      have h := ((bcell HW.out).1 b2 (off2 + (k * 4 + 1)) hb2).trans (hcc2 k 1 hl2 (by decide))
      rw [hE2] at h
      rw [show off2 + k * 4 + 1 = off2 + (k * 4 + 1) by omega]
      exact h
    have y2 : wr.cell? ⟨b2, off2 + k * 4 + 2, none⟩ = some (.int .i64 c) := by
      have h := ((bcell HW.out).1 b2 (off2 + (k * 4 + 2)) hb2).trans (hcc2 k 2 hl2 (by decide))
      rw [hE2] at h
      rw [show off2 + k * 4 + 2 = off2 + (k * 4 + 2) by omega]
      exact h
    have y3 : wr.cell? ⟨b2, off2 + k * 4 + 3, none⟩ = some (rv') := by
      have h := ((bcell HW.out).1 b2 (off2 + (k * 4 + 3)) hb2).trans (hcc2 k 3 hl2 (by decide))
      rw [hE2] at h
      rw [show off2 + k * 4 + 3 = off2 + (k * 4 + 3) by omega]
      exact h
    clear hcc hcc2 hE hE2 hz1 hz2 hlt hl2
    go_upto_region 6 with fail
    have HS := Lib.hid (fun (X : World) (hX : Below wr.heap.size wr X) => (⟨keepb x0 hX, keepb x1 hX, keepb x2 hX, keepb x3 hX, keepb y0 hX, keepb y1 hX, keepb y2 hX, keepb y3 hX⟩ : X.cell? ⟨b, off + k * 4, none⟩ = some (.int .i64 n) ∧ X.cell? ⟨b, off + k * 4 + 1, none⟩ = some (zv) ∧ X.cell? ⟨b, off + k * 4 + 2, none⟩ = some (.int .i64 c) ∧ X.cell? ⟨b, off + k * 4 + 3, none⟩ = some (rv) ∧ X.cell? ⟨b2, off2 + k * 4, none⟩ = some (.int .i64 n) ∧ X.cell? ⟨b2, off2 + k * 4 + 1, none⟩ = some (zv') ∧ X.cell? ⟨b2, off2 + k * 4 + 2, none⟩ = some (.int .i64 c) ∧ X.cell? ⟨b2, off2 + k * 4 + 3, none⟩ = some (rv')))
    refine wp_region_noPanic ?_
    refine wp_region_held_drew (S := (fun w' => w'.cell? ⟨b, off + k * 4, none⟩ = some (.int .i64 n) ∧ w'.cell? ⟨b, off + k * 4 + 1, none⟩ = some (zv) ∧ w'.cell? ⟨b, off + k * 4 + 2, none⟩ = some (.int .i64 c) ∧ w'.cell? ⟨b, off + k * 4 + 3, none⟩ = some (rv) ∧ w'.cell? ⟨b2, off2 + k * 4, none⟩ = some (.int .i64 n) ∧ w'.cell? ⟨b2, off2 + k * 4 + 1, none⟩ = some (zv') ∧ w'.cell? ⟨b2, off2 + k * 4 + 2, none⟩ = some (.int .i64 c) ∧ w'.cell? ⟨b2, off2 + k * 4 + 3, none⟩ = some (rv'))) (by kernel_rfl) ⟨x0, x1, x2, x3, y0, y1, y2, y3⟩ (fun hHeld => ?_)
    refine wpAnyH_take (i := 0) (v := ?_) rfl (by kernel_rfl) (by kernel_rfl) (by kernel_rfl) (fun _ _ _ h => h) (Or.inl ⟨by rfl, ?_⟩) (by assumption) ?_
    rotate_left
    · intro w hSw; (try dsimp only at hSw); go_simp; (try with_reducible rfl)
    try simp only [Act.put, List.getElem_toArray, List.getElem_cons_zero, List.setIfInBounds_toArray, List.set_cons_zero, List.set_cons_succ]
    refine wpAnyH_take (i := 1) (v := ?_) rfl (by kernel_rfl) (by kernel_rfl) (by kernel_rfl) (fun _ _ _ h => h) (Or.inl ⟨by rfl, ?_⟩) (by assumption) ?_
    rotate_left
    · intro w hSw; (try dsimp only at hSw); go_simp; (try with_reducible rfl)
    try simp only [Act.put, List.getElem_toArray, List.getElem_cons_zero, List.getElem_cons_succ, List.setIfInBounds_toArray, List.set_cons_zero, List.set_cons_succ]
    refine wpAnyH_take (i := 2) (v := ?_) rfl (by kernel_rfl) (by kernel_rfl) (by kernel_rfl) (fun _ _ _ h => h) (Or.inl ⟨by rfl, ?_⟩) (by assumption) ?_
    rotate_left
    · intro w hSw; (try dsimp only at hSw); go_simp; (try with_reducible rfl)
    try simp only [Act.put, List.getElem_toArray, List.getElem_cons_zero, List.getElem_cons_succ, List.setIfInBounds_toArray, List.set_cons_zero, List.set_cons_succ]
    refine wpAnyH_take (i := 3) (v := ?_) rfl (by kernel_rfl) (by kernel_rfl) (by kernel_rfl) (fun _ _ _ h => h) (Or.inl ⟨by rfl, ?_⟩) (by assumption) ?_
    rotate_left
    · intro w hSw; (try dsimp only at hSw); go_simp; (try with_reducible rfl)
    try simp only [Act.put, List.getElem_toArray, List.getElem_cons_zero, List.getElem_cons_succ, List.setIfInBounds_toArray, List.set_cons_zero, List.set_cons_succ]
    refine wpAnyH_take (i := 4) (v := ?_) rfl (by kernel_rfl) (by kernel_rfl) (by kernel_rfl) (fun _ _ _ h => h) (Or.inl ⟨by rfl, ?_⟩) (by assumption) ?_
    rotate_left
    · intro w hSw; (try dsimp only at hSw); go_simp; (try with_reducible rfl)
    try simp only [Act.put, List.getElem_toArray, List.getElem_cons_zero, List.getElem_cons_succ, List.setIfInBounds_toArray, List.set_cons_zero, List.set_cons_succ]
    refine wpAnyH_take (i := 5) (v := ?_) rfl (by kernel_rfl) (by kernel_rfl) (by kernel_rfl) (fun _ _ _ h => h) (Or.inl ⟨by rfl, ?_⟩) (by assumption) ?_
    rotate_left
    · intro w hSw; (try dsimp only at hSw); go_simp; (try with_reducible rfl)
    try simp only [Act.put, List.getElem_toArray, List.getElem_cons_zero, List.getElem_cons_succ, List.setIfInBounds_toArray, List.set_cons_zero, List.set_cons_succ]
    refine wpAnyH_take (i := 6) (v := ?_) rfl (by kernel_rfl) (by kernel_rfl) (by kernel_rfl) (fun _ _ _ h => h) (Or.inl ⟨by rfl, ?_⟩) (by assumption) ?_
    rotate_left
    · intro w hSw; (try dsimp only at hSw); go_simp; (try with_reducible rfl)
    try simp only [Act.put, List.getElem_toArray, List.getElem_cons_zero, List.getElem_cons_succ, List.setIfInBounds_toArray, List.set_cons_zero, List.set_cons_succ]
    refine wpAnyH_take (i := 7) (v := ?_) rfl (by kernel_rfl) (by kernel_rfl) (by kernel_rfl) (fun _ _ _ h => h) (Or.inl ⟨by rfl, ?_⟩) (by assumption) ?_
    rotate_left
    · intro w hSw; (try dsimp only at hSw); go_simp; (try with_reducible rfl)
    try simp only [Act.put, List.getElem_toArray, List.getElem_cons_zero, List.getElem_cons_succ, List.setIfInBounds_toArray, List.set_cons_zero, List.set_cons_succ]
    have H0 := Lib.hid (show Below wr.heap.size wr wr.drew from (Below.refl _ _).drew)
    clear hHeld x0 x1 x2 x3 y0 y1 y2 y3
    generalize wr.drew = X0 at *
    refine wpAnyH_ready (rs := [8]) (by kernel_rfl) (by simp) ?_
    refine AllReadyH.cons rfl (fun K hK => ?_) AllReadyH.nil
    go_simp
    refine (law_same23 n c zv rv zv' rv' xs rs _ (HZ1.out.1.keepb (bt HW.out H0.out)) (HZ1.out.2.keepb (bt HW.out H0.out)) (HZ2.out.1.keepb (bt HW.out H0.out)) (HZ2.out.2.keepb (bt HW.out H0.out))).mono ?_
    rintro e w3 ⟨rfl, hb3⟩
    refine hK.out _ _ (HS.out _ (bt H0.out hb3)) (fun hHeld2 => ?_)
    clear hK K
    refine wpAnyH_take (i := 9) (v := ?_) rfl (by kernel_rfl) (by kernel_rfl) (by kernel_rfl) (fun _ _ _ h => h) (Or.inl ⟨by rfl, ?_⟩) (by assumption) ?_
    rotate_left
    · intro w hSw; (try dsimp only at hSw); go_simp; (try with_reducible rfl)
    try simp only [Act.put, List.getElem_toArray, List.getElem_cons_zero, List.getElem_cons_succ, List.setIfInBounds_toArray, List.set_cons_zero, List.set_cons_succ]
    refine wpAnyH_done (by kernel_rfl) ?_ _
    refine NoPanic.normal ?_
    have HW3 := Lib.hid (bt HW.out (bt H0.out hb3))
    go_wp2_with fail
    go_roundw
    case rel => exact ⟨k + 1, by omega, by go_num, HW3.out⟩
    case measure => simp [intOf]; omega
end Go.Proofs.YtfphlpglgcmljaaGreat
namespace Go.Proofs.YtfphlpglgcmljaaGreat
open Go.RowKit
set_option linter.unusedVariables false

set_option maxRecDepth 100000 in
set_option maxHeartbeats 8000000 in
theorem law_priced_delays (n c rate : Int) (v rv lv : Value) (xs rs : List Int) (cs : List Kc) (w : World) (hv : RL w.heap.size w v xs) (hr : RL w.heap.size w rv rs) (hl : RX cdCon w.heap.size w lv cs) :
    Calls Tryz.prog 4 #[.agg #[.int .i64 n, v, .int .i64 c, rv], .agg #[.int .i64 rate, lv]] w fun e w' => e = .returned (.bool true) ∧ Below w.heap.size w w' := by
  obtain ⟨ao, cap, rfl, _, _⟩ := hv.open
  obtain ⟨aor, capr, rfl, _, _⟩ := hr.open
  obtain ⟨aol, capl, rfl, _, _⟩ := hl.open
  have hloc := Loc.two w (.cells #[.int .i64 n, .slice ao xs.length cap, .int .i64 c, .slice aor rs.length capr] 35) (.cells #[.int .i64 rate, .slice aol cs.length capl] 38) none
  have hbw := below_grownBy hloc.grown
  have hqz : ((w.alloc (.cells #[.int .i64 n, .slice ao xs.length cap, .int .i64 c, .slice aor rs.length capr] 35)).alloc (.cells #[.int .i64 rate, .slice aol cs.length capl] 38)).heap[w.heap.size]? = some (.cells #[.int .i64 n, .slice ao xs.length cap, .int .i64 c, .slice aor rs.length capr] 35 (0, 0)) := hloc.objs 0 (by simp)
  have hqt : ((w.alloc (.cells #[.int .i64 n, .slice ao xs.length cap, .int .i64 c, .slice aor rs.length capr] 35)).alloc (.cells #[.int .i64 rate, .slice aol cs.length capl] 38)).heap[w.heap.size + 1]? = some (.cells #[.int .i64 rate, .slice aol cs.length capl] 38 (0, 0)) := hloc.objs 1 (by simp)
  have hvz := hv.keepb hbw
  have hrz := hr.keepb hbw
  have hlz := hl.keepb hbw
  clear hv hr hl hloc
  go_enter Tryz.func4, Tryz.ntmps4
  go_upto_region 1 with fail
  generalize ((w.alloc (.cells #[.int .i64 n, .slice ao xs.length cap, .int .i64 c, .slice aor rs.length capr] 35)).alloc (.cells #[.int .i64 rate, .slice aol cs.length capl] 38)) = X1 at *
  have HW := Lib.hid hbw
  have HBz := Lib.hid hqz
  have HBt := Lib.hid hqt
  have Hvz := Lib.hid hvz
  have Hrz := Lib.hid hrz
  have Hl := Lib.hid hlz
  clear hbw hqz hqt hvz hrz hlz
  have z0 : X1.cell? ⟨w.heap.size, 0, none⟩ = some (.int .i64 n) := cell_of_row _ (w.heap.size) 0 _ _ _ HBz.out
  have z1 : X1.cell? ⟨w.heap.size, 1, none⟩ = some (.slice ao xs.length cap) := cell_of_row _ (w.heap.size) 1 _ _ _ HBz.out
  have z2 : X1.cell? ⟨w.heap.size, 2, none⟩ = some (.int .i64 c) := cell_of_row _ (w.heap.size) 2 _ _ _ HBz.out
  have z3 : X1.cell? ⟨w.heap.size, 3, none⟩ = some (.slice aor rs.length capr) := cell_of_row _ (w.heap.size) 3 _ _ _ HBz.out
  go_wp2_with fail
  refine (law_large23 n c _ _ xs rs _ Hvz.out Hrz.out).mono ?_
  rintro e w1 ⟨bl, rfl, hbl, hb⟩
  clear z0 z1 z2 z3
  replace HBz := Lib.hid (hp_keep4 HBz.out hb)
  replace HBt := Lib.hid (hp_keep4 HBt.out hb)
  replace Hvz := Lib.hid (RL.keepb Hvz.out hb)
  replace Hrz := Lib.hid (RL.keepb Hrz.out hb)
  replace Hl := Lib.hid (RX.keepb Hl.out hb)
  replace HW := Lib.hid (bt HW.out hb)
  clear hb
  cases bl with
  | true =>
    go_wp2_with fail
    refine (law_awake _).mono ?_
    rintro e w9 ⟨rfl, hb⟩
    go_wp2_with fail
    go_ret
    exact ⟨rfl, bt HW.out hb⟩
  | false =>
    have t0 : w1.cell? ⟨w.heap.size + 1, 0, none⟩ = some (.int .i64 rate) := cell_of_row _ (w.heap.size + 1) 0 _ _ _ HBt.out
    have t1 : w1.cell? ⟨w.heap.size + 1, 1, none⟩ = some (.slice aol cs.length capl) := cell_of_row _ (w.heap.size + 1) 1 _ _ _ HBt.out
    by_cases h2 : 110 < cs.length
    · have h2' : decide ((110 : Int) < (cs.length : Int)) = true := by simp; omega
      clear h2
      go_wp2_with fail
      refine (law_awake _).mono ?_
      rintro e w9 ⟨rfl, hb⟩
      go_wp2_with fail
      go_ret
      exact ⟨rfl, bt HW.out hb⟩
    have h2' : decide ((110 : Int) < (cs.length : Int)) = false := by simp; omega
    have HN := Lib.hid (show cs.length ≤ 1000 by omega)
    have HS := Lib.hid (hbl rfl)
    clear h2 hbl
    have z0 : w1.cell? ⟨w.heap.size, 0, none⟩ = some (.int .i64 n) := cell_of_row _ (w.heap.size) 0 _ _ _ HBz.out
    have z1 : w1.cell? ⟨w.heap.size, 1, none⟩ = some (.slice ao xs.length cap) := cell_of_row _ (w.heap.size) 1 _ _ _ HBz.out
    have z2 : w1.cell? ⟨w.heap.size, 2, none⟩ = some (.int .i64 c) := cell_of_row _ (w.heap.size) 2 _ _ _ HBz.out
    have z3 : w1.cell? ⟨w.heap.size, 3, none⟩ = some (.slice aor rs.length capr) := cell_of_row _ (w.heap.size) 3 _ _ _ HBz.out
    go_wp2_with fail
    refine (law_copied23 n c _ _ xs rs _ Hvz.out Hrz.out HS.out.2.1 HS.out.2.2).mono ?_
    rintro e w2 ⟨⟨v', rv', rfl, hv, hr⟩, hb⟩
    clear z0 z1 z2 z3
    clear t0 t1
    replace HBz := Lib.hid (hp_keep4 HBz.out hb)
    replace HBt := Lib.hid (hp_keep4 HBt.out hb)
    replace Hvz := Lib.hid (RL.keepb Hvz.out hb)
    replace Hrz := Lib.hid (RL.keepb Hrz.out hb)
    replace Hl := Lib.hid (RX.keepb Hl.out hb)
    replace HW := Lib.hid (bt HW.out hb)
    clear hb
    have Hvo := Lib.hid hv
    have Hro := Lib.hid hr
    obtain ⟨aoo, capo, rfl, _, _⟩ := hv.open
    obtain ⟨aoro, capro, rfl, _, _⟩ := hr.open
    clear hv hr
    have hba := (Below.refl _ w2).alloc (Nat.le_refl _) (.cells #[.int .i64 n, .slice aoo xs.length capo, .int .i64 c, .slice aoro rs.length capro] 35)
    have hqn := heap_alloc_new w2 (.cells #[.int .i64 n, .slice aoo xs.length capo, .int .i64 c, .slice aoro rs.length capro] 35)
    have hqW := HW.out.size
    have hlz : w.heap.size < w2.heap.size := hp_lt3 HBz.out
    have hqz := hp_keep4 HBz.out hba
    have hlt : w.heap.size + 1 < w2.heap.size := hp_lt3 HBt.out
    have hqt := hp_keep4 HBt.out hba
    have hqHvz := RL.keepb Hvz.out hba
    have hqHrz := RL.keepb Hrz.out hba
    have hqHl := RX.keepb Hl.out hba
    have hqHvo := RL.keepb Hvo.out hba
    have hqHro := RL.keepb Hro.out hba
    have hqw := bt HW.out hba
    clear hba HW HBz HBt Hvz Hrz Hl Hvo Hro
    go_upto_region 4 with fail
    generalize hgen : w2.alloc (.cells #[.int .i64 n, .slice aoo xs.length capo, .int .i64 c, .slice aoro rs.length capro] 35) = X2 at *
    clear hgen
    generalize hgen : w2.heap.size = O at *
    clear hgen
    have HBo := Lib.hid hqn
    have HBz := Lib.hid hqz
    have HBt := Lib.hid hqt
    have Hvz := Lib.hid hqHvz
    have Hrz := Lib.hid hqHrz
    have Hl := Lib.hid hqHl
    have Hvo := Lib.hid hqHvo
    have Hro := Lib.hid hqHro
    have HW := Lib.hid hqw
    clear hqn hqw hqz hqt hqHvz hqHrz hqHl hqHvo hqHro
    obtain ⟨⟨L, x⟩, hL⟩ : ∃ Q, delayF n xs c rs rate cs = Q := ⟨_, rfl⟩
    have HL := Lib.hid hL
    clear hL
    have s0 : X2.cell? ⟨O, 0, none⟩ = some (.int .i64 n) := cell_of_row _ (O) 0 _ _ _ HBo.out
    have s1 : X2.cell? ⟨O, 1, none⟩ = some (.slice aoo xs.length capo) := cell_of_row _ (O) 1 _ _ _ HBo.out
    have s2 : X2.cell? ⟨O, 2, none⟩ = some (.int .i64 c) := cell_of_row _ (O) 2 _ _ _ HBo.out
    have s3 : X2.cell? ⟨O, 3, none⟩ = some (.slice aoro rs.length capro) := cell_of_row _ (O) 3 _ _ _ HBo.out
    have t0 : X2.cell? ⟨w.heap.size + 1, 0, none⟩ = some (.int .i64 rate) := cell_of_row _ (w.heap.size + 1) 0 _ _ _ HBt.out
    have t1 : X2.cell? ⟨w.heap.size + 1, 1, none⟩ = some (.slice aol cs.length capl) := cell_of_row _ (w.heap.size + 1) 1 _ _ _ HBt.out
    go_wp2_with fail
    refine (prog_delay n c rate _ _ _ xs rs cs _ Hvo.out Hro.out Hl.out HN.out).mono ?_
    rintro e w3 ⟨h, hb⟩
    obtain ⟨va, he, hg⟩ := GaP.gr h
    rw [HL.out] at he hg
    obtain rfl : e = .returned (.tuple #[va, .int .i64 x]) := he
    clear h
    clear s0 s1 s2 s3
    clear t0 t1
    replace HBz := Lib.hid (hp_keep4 HBz.out hb)
    replace HBt := Lib.hid (hp_keep4 HBt.out hb)
    replace HBo := Lib.hid (hp_keep4 HBo.out hb)
    replace Hvz := Lib.hid (RL.keepb Hvz.out hb)
    replace Hrz := Lib.hid (RL.keepb Hrz.out hb)
    replace Hl := Lib.hid (RX.keepb Hl.out hb)
    replace Hvo := Lib.hid (RL.keepb Hvo.out hb)
    replace Hro := Lib.hid (RL.keepb Hro.out hb)
    replace HW := Lib.hid (bt HW.out hb)
    clear hb
    have HGa := Lib.hid (show GR L va w3 from hg)
    clear hg
    have s0 : w3.cell? ⟨w.heap.size, 0, none⟩ = some (.int .i64 n) := cell_of_row _ (w.heap.size) 0 _ _ _ HBz.out
    have s1 : w3.cell? ⟨w.heap.size, 1, none⟩ = some (.slice ao xs.length cap) := cell_of_row _ (w.heap.size) 1 _ _ _ HBz.out
    have s2 : w3.cell? ⟨w.heap.size, 2, none⟩ = some (.int .i64 c) := cell_of_row _ (w.heap.size) 2 _ _ _ HBz.out
    have s3 : w3.cell? ⟨w.heap.size, 3, none⟩ = some (.slice aor rs.length capr) := cell_of_row _ (w.heap.size) 3 _ _ _ HBz.out
    have t0 : w3.cell? ⟨w.heap.size + 1, 0, none⟩ = some (.int .i64 rate) := cell_of_row _ (w.heap.size + 1) 0 _ _ _ HBt.out
    have t1 : w3.cell? ⟨w.heap.size + 1, 1, none⟩ = some (.slice aol cs.length capl) := cell_of_row _ (w.heap.size + 1) 1 _ _ _ HBt.out
    go_wp2_with fail
    refine (ref_delay n c rate _ _ _ xs rs cs _ Hvz.out Hrz.out Hl.out HN.out).mono ?_
    rintro e w4 ⟨h, hb⟩
    obtain ⟨vb, he, hg⟩ := GaP.gr h
    rw [HL.out] at he hg
    obtain rfl : e = .returned (.tuple #[vb, .int .i64 x]) := he
    clear h
    clear s0 s1 s2 s3
    clear t0 t1
    replace HBz := Lib.hid (hp_keep4 HBz.out hb)
    replace HBt := Lib.hid (hp_keep4 HBt.out hb)
    replace HBo := Lib.hid (hp_keep4 HBo.out hb)
    replace Hvz := Lib.hid (RL.keepb Hvz.out hb)
    replace Hrz := Lib.hid (RL.keepb Hrz.out hb)
    replace Hl := Lib.hid (RX.keepb Hl.out hb)
    replace Hvo := Lib.hid (RL.keepb Hvo.out hb)
    replace Hro := Lib.hid (RL.keepb Hro.out hb)
    replace HGa := Lib.hid (GR.keepb HGa.out hb)
    replace HW := Lib.hid (bt HW.out hb)
    clear hb
    have HGb := Lib.hid (show GR L vb w4 from hg)
    clear hg
    have hxx : (x == x) = true := by simp
    go_wp2_with fail
    refine (law_samelists va vb L _ HGa.out HGb.out).mono ?_
    rintro e w5 ⟨rfl, hb⟩
    replace HBz := Lib.hid (hp_keep4 HBz.out hb)
    replace HBt := Lib.hid (hp_keep4 HBt.out hb)
    replace HBo := Lib.hid (hp_keep4 HBo.out hb)
    replace Hvz := Lib.hid (RL.keepb Hvz.out hb)
    replace Hrz := Lib.hid (RL.keepb Hrz.out hb)
    replace Hl := Lib.hid (RX.keepb Hl.out hb)
    replace Hvo := Lib.hid (RL.keepb Hvo.out hb)
    replace Hro := Lib.hid (RL.keepb Hro.out hb)
    replace HGa := Lib.hid (GR.keepb HGa.out hb)
    replace HGb := Lib.hid (GR.keepb HGb.out hb)
    replace HW := Lib.hid (bt HW.out hb)
    clear hb
    have s0 : w5.cell? ⟨O, 0, none⟩ = some (.int .i64 n) := cell_of_row _ (O) 0 _ _ _ HBo.out
    have s1 : w5.cell? ⟨O, 1, none⟩ = some (.slice aoo xs.length capo) := cell_of_row _ (O) 1 _ _ _ HBo.out
    have s2 : w5.cell? ⟨O, 2, none⟩ = some (.int .i64 c) := cell_of_row _ (O) 2 _ _ _ HBo.out
    have s3 : w5.cell? ⟨O, 3, none⟩ = some (.slice aoro rs.length capro) := cell_of_row _ (O) 3 _ _ _ HBo.out
    have z0 : w5.cell? ⟨w.heap.size, 0, none⟩ = some (.int .i64 n) := cell_of_row _ (w.heap.size) 0 _ _ _ HBz.out
    have z1 : w5.cell? ⟨w.heap.size, 1, none⟩ = some (.slice ao xs.length cap) := cell_of_row _ (w.heap.size) 1 _ _ _ HBz.out
    have z2 : w5.cell? ⟨w.heap.size, 2, none⟩ = some (.int .i64 c) := cell_of_row _ (w.heap.size) 2 _ _ _ HBz.out
    have z3 : w5.cell? ⟨w.heap.size, 3, none⟩ = some (.slice aor rs.length capr) := cell_of_row _ (w.heap.size) 3 _ _ _ HBz.out
    go_wp2_with fail
    refine (law_same23 n c _ _ _ _ xs rs _ Hvo.out Hro.out Hvz.out Hrz.out).mono ?_
    rintro e w6 ⟨rfl, hb⟩
    clear s0 s1 s2 s3
    clear z0 z1 z2 z3
    replace HBz := Lib.hid (hp_keep4 HBz.out hb)
    replace HBt := Lib.hid (hp_keep4 HBt.out hb)
    replace HBo := Lib.hid (hp_keep4 HBo.out hb)
    replace Hvz := Lib.hid (RL.keepb Hvz.out hb)
    replace Hrz := Lib.hid (RL.keepb Hrz.out hb)
    replace Hl := Lib.hid (RX.keepb Hl.out hb)
    replace Hvo := Lib.hid (RL.keepb Hvo.out hb)
    replace Hro := Lib.hid (RL.keepb Hro.out hb)
    replace HGa := Lib.hid (GR.keepb HGa.out hb)
    replace HGb := Lib.hid (GR.keepb HGb.out hb)
    replace HW := Lib.hid (bt HW.out hb)
    clear hb
    go_wp2_with fail
    refine (law_awake _).mono ?_
    rintro e w7 ⟨rfl, hb⟩
    go_wp2_with fail
    go_ret
    exact ⟨rfl, bt HW.out hb⟩
end Go.Proofs.YtfphlpglgcmljaaGreat
