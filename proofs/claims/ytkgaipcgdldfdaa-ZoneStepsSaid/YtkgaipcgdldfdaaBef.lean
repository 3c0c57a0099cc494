/- The program's Before. -/
import Derived.Test.YtkgaipcgdldfdaaDwn
import Derived.Test.YtkgaipcgdldfdaaCpy2
import Derived.Test.YtkgaipcgdldfdaaHeldU
import Derived.Deep.DeepCutAuto
namespace Go.Proofs.Ytkgaipcgdldfdaa
open Go.RowKit
set_option linter.unusedVariables false

/-- The first zone of Before, and what Before returns. -/
noncomputable def befC (n : Int) (xs : List Int) (i c : Int) : Int × List Int := chgF n xs (clkB n i && conB c) (setB n.toNat xs i.toNat c)
noncomputable def befF (n : Int) (xs : List Int) (i c : Int) : Int × List Int := if (befC n xs i c).1 = 0 then freeF n (befC n xs i c).2 i else ((befC n xs i c).1, [])
theorem enters_before : Enters Try.prog 113 := enters_of Try.func113 (by kernel_rfl) rfl
/-- The world between the two steps. -/
def BefMid (w : World) (n i : Int) (R : Int × List Int) (wx : World) : Prop :=
  ∃ v5, OL 60 (w.heap.size + 4) wx v5 R.2 ∧ wx.heap[w.heap.size]? = some (.cells #[.int .i64 (zdim R n), v5] 24 (0, 0)) ∧ wx.heap[w.heap.size + 3]? = some (.cells #[.int .i64 0, .slice none 0 0] 24 (0, 0)) ∧ Below w.heap.size w wx ∧ wx.cell? ⟨w.heap.size + 1, 0, none⟩ = some (.int .i64 i)
theorem BefMid.mk' {w w5 : World} {n i c : Int} {R : Int × List Int} {ao ao5 : Option Addr} {l cap cap5 : Nat} {base : Nat}
    (h : Loc w w5 none [.cells #[.int .i64 n, .slice ao l cap] 24, .cells #[.int .i64 i] 3, .cells #[.int .i64 c] 2, .cells #[.int .i64 0, .slice none 0 0] 24])
    (ho : OL 60 base w5 (.slice ao5 R.2.length cap5) R.2) (hb : w.heap.size + 4 ≤ base) :
    BefMid w n i R ((w5.setCell ⟨w.heap.size, 0, none⟩ (.int .i64 (zdim R n))).setCell ⟨w.heap.size, 1, none⟩ (.slice ao5 R.2.length cap5)) := by
  have h0 : w5.heap[w.heap.size]? = _ := h.objs 0 (by simp)
  have h3 := h.objs 3 (by simp)
  refine ⟨_, own_set2 (OL.mono ho hb) (by omega) _ _, ?_, ?_, ?_, ?_⟩
  · exact heap_setCell_same _ _ 1 _ _ _ (heap_setCell_same _ _ 0 _ _ _ h0)
  · rw [Below.heap_setCell _ _ _ _ (by simp), Below.heap_setCell _ _ _ _ (by simp)]; exact h3
  · exact ((below_grownBy h.grown).setCell (by simp) _).setCell (by simp) _
  · rw [World.cell?_setCell_far _ _ _ _ (by simp), World.cell?_setCell_far _ _ _ _ (by simp)]; exact h.cell 1 rfl 0
theorem hp_keep3 {w w' : World} {b : Nat} {o : Obj} (h : w.heap[b]? = some o) (hb : Below w.heap.size w w') : w'.heap[b]? = some o := (hb.block b (Array.getElem?_eq_some_iff.1 h).1).trans h

set_option maxRecDepth 100000 in
set_option maxHeartbeats 8000000 in
theorem prog_before_no (n i c : Int) (zv : Value) (xs : List Int) (w : World) (hz : RL w.heap.size w zv xs) (hi : clkB n i = false) :
    Calls Try.prog 50 #[.agg #[.int .i64 n, zv], .int .i64 i, .int .i64 c] w fun e w' => ZPost 60 w.heap.size n (befF n xs i c) e w' ∧ Below w.heap.size w w' := by
  obtain ⟨aoz, capz, rfl, hlez, _⟩ := hz.open
  have hloc : Loc w ((((w.alloc (.cells #[.int .i64 n, .slice aoz xs.length capz] 24)).alloc (.cells #[.int .i64 i] 3)).alloc (.cells #[.int .i64 c] 2)).alloc (.cells #[.int .i64 0, .slice none 0 0] 24)) none [.cells #[.int .i64 n, .slice aoz xs.length capz] 24, .cells #[.int .i64 i] 3, .cells #[.int .i64 c] 2, .cells #[.int .i64 0, .slice none 0 0] 24] := Loc.four w _ _ _ _ _
  have Hz := Lib.hid hz
  clear hz
  have key : ∀ wr : World, Below w.heap.size w wr → w.heap.size + 3 ≤ wr.heap.size → wr.cell? ⟨w.heap.size + 1, 0, none⟩ = some (.int .i64 i) → wr.cell? ⟨w.heap.size + 1 + 1, 0, none⟩ = some (.int .i64 c) → Calls Try.prog 100 #[.agg #[.int .i64 n, .slice aoz xs.length capz], .bool false, .func (.func 113) #[] #[.pointer (some ⟨w.heap.size + 1, 0, none⟩), .pointer (some ⟨w.heap.size + 1 + 1, 0, none⟩)]] wr fun e w' => ZPost 60 wr.heap.size n (befC n xs i c) e w' ∧ Below wr.heap.size wr w' := by
    intro wr hbe hse hc1 hc2
    have Hz1 : RL wr.heap.size wr (.slice aoz xs.length capz) xs := Hz.out.keepb hbe
    unfold befC
    rw [hi, Bool.false_and]
    exact prog_changed_bad n _ _ xs _ _ wr Hz1 (fun e => by cases e.2)
  have Key := Lib.hid key
  have Hi := Lib.hid hi
  clear key hi
  have c00 := hloc.cell 0 rfl 0
  have c01 := hloc.cell 0 rfl 1
  have c10 := hloc.cell 1 rfl 0
  have c20 := hloc.cell 2 rfl 0
  go_enter Try.func50, Try.ntmps50
  go_wp2_with fail
  generalize World.alloc _ (Obj.cells #[.int .i64 0, .slice none 0 0] 24) = W at *
  have z0 : W.cell? ⟨w.heap.size, 0, none⟩ = some (.int .i64 n) := c00
  have z1 : W.cell? ⟨w.heap.size, 1, none⟩ = some (.slice aoz xs.length capz) := c01
  have z2 : W.cell? ⟨w.heap.size + 1, 0, none⟩ = some (.int .i64 i) := c10
  have z3 : W.cell? ⟨w.heap.size + 1 + 1, 0, none⟩ = some (.int .i64 c) := c20
  clear c00 c01 c10 c20
  have Hloc := Lib.hid hloc
  clear hloc
  have HF : Hid (befF n xs i c = if (befC n xs i c).1 = 0 then freeF n (befC n xs i c).2 i else ((befC n xs i c).1, [])) := Lib.hid rfl
  generalize hR : befC n xs i c = R at *
  generalize hT : befF n xs i c = T at *
  have HT := Lib.hid hT
  clear hR hT
  go_cut [8] (fun s8 wx => s8 = .int .i64 R.1 ∧ BefMid w n i R wx)
  case first =>
    refine wp_region_noPanic ?_
    refine wp_region_U (S := (fun w' => w'.cell? ⟨w.heap.size, 0, none⟩ = some (.int .i64 n) ∧ w'.cell? ⟨w.heap.size, 1, none⟩ = some (.slice aoz xs.length capz) ∧ w'.cell? ⟨w.heap.size + 1, 0, none⟩ = some (.int .i64 i) ∧ w'.cell? ⟨w.heap.size + 1 + 1, 0, none⟩ = some (.int .i64 c))) (k := 13) (by kernel_rfl) ⟨z0, z1, z2, z3⟩ (fun hHeld => ?_)
    refine wpAnyU_take (i := 0) (v := ?_) rfl (by kernel_rfl) (by kernel_rfl) (by kernel_rfl) (by kernel_rfl) (by kernel_rfl) (by kernel_rfl) (fun _ _ _ h => h) (Or.inl ⟨by rfl, ?_⟩) (by assumption) ?_
    rotate_left
    · intro w hSw; (try dsimp only at hSw); go_simp; (try with_reducible rfl)
    try simp only [Act.put, List.getElem_toArray, List.getElem_cons_zero, List.setIfInBounds_toArray, List.set_cons_zero, List.set_cons_succ]
    refine wpAnyU_take (i := 1) (v := ?_) rfl (by kernel_rfl) (by kernel_rfl) (by kernel_rfl) (by kernel_rfl) (by kernel_rfl) (by kernel_rfl) (fun _ _ _ h => h) (Or.inl ⟨by rfl, ?_⟩) (by assumption) ?_
    rotate_left
    · intro w hSw; (try dsimp only at hSw); go_simp; (try with_reducible rfl)
    try simp only [Act.put, List.getElem_toArray, List.getElem_cons_zero, List.getElem_cons_succ, List.setIfInBounds_toArray, List.set_cons_zero, List.set_cons_succ]
    refine wpAnyU_take (i := 2) (v := ?_) rfl (by kernel_rfl) (by kernel_rfl) (by kernel_rfl) (by kernel_rfl) (by kernel_rfl) (by kernel_rfl) (fun _ _ _ h => h) (Or.inl ⟨by rfl, ?_⟩) (by assumption) ?_
    rotate_left
    · intro w hSw; (try dsimp only at hSw); go_simp; (try with_reducible rfl)
    try simp only [Act.put, List.getElem_toArray, List.getElem_cons_zero, List.getElem_cons_succ, List.setIfInBounds_toArray, List.set_cons_zero, List.set_cons_succ]
    refine wpAnyU_take (i := 8) (v := ?_) rfl (by kernel_rfl) (by kernel_rfl) (by kernel_rfl) (by kernel_rfl) (by kernel_rfl) (by kernel_rfl) (fun _ _ _ h => h) (Or.inl ⟨by rfl, ?_⟩) (by assumption) ?_
    rotate_left
    · intro w hSw; (try dsimp only at hSw); go_simp; (try with_reducible rfl)
    try simp only [Act.put, List.getElem_toArray, List.getElem_cons_zero, List.getElem_cons_succ, List.setIfInBounds_toArray, List.set_cons_zero, List.set_cons_succ]
    refine wpAnyU_ready (rs := [3]) (by kernel_rfl) (by simp) ?_
    refine AllReadyU.cons rfl (fun K hK => ?_) AllReadyU.nil
    go_simp
    refine (prog_clock n i _ _).mono ?_
    rw [Hi.out]
    rintro e w8 ⟨rfl, hb8⟩
    have hloc8 := Hloc.out.next (grownBy_trans (grownBy_drew W none) (grownBy_below hb8 none)) (fun _ h => by cases h)
    have q0 : w8.cell? ⟨w.heap.size, 0, none⟩ = some (.int .i64 n) := hloc8.cell 0 rfl 0
    have q1 : w8.cell? ⟨w.heap.size, 1, none⟩ = some (.slice aoz xs.length capz) := hloc8.cell 0 rfl 1
    have q2 : w8.cell? ⟨w.heap.size + 1, 0, none⟩ = some (.int .i64 i) := hloc8.cell 1 rfl 0
    have q3 : w8.cell? ⟨w.heap.size + 1 + 1, 0, none⟩ = some (.int .i64 c) := hloc8.cell 2 rfl 0
    refine hK.out _ _ ⟨q0, q1, q2, q3⟩ (fun hHeld2 => ?_)
    clear hK K
    try simp only [Act.put, List.getElem_toArray, List.getElem_cons_zero, List.getElem_cons_succ, List.setIfInBounds_toArray, List.set_cons_zero, List.set_cons_succ]
    refine wpAnyU_take (i := 4) (v := ?_) rfl (by kernel_rfl) (by kernel_rfl) (by kernel_rfl) (by kernel_rfl) (by kernel_rfl) (by kernel_rfl) (fun _ _ _ h => h) (Or.inl ⟨by rfl, ?_⟩) (by assumption) ?_
    rotate_left
    · intro w hSw; (try dsimp only at hSw); go_simp; (try with_reducible rfl)
    try simp only [Act.put, List.getElem_toArray, List.getElem_cons_zero, List.getElem_cons_succ, List.setIfInBounds_toArray, List.set_cons_zero, List.set_cons_succ]
    refine wpAnyU_take (i := 5) rfl (by kernel_rfl) (by kernel_rfl) (by kernel_rfl) (by kernel_rfl) (by kernel_rfl) (by kernel_rfl) (fun _ _ _ h => h) (Or.inr ⟨by rfl, rfl⟩) (by assumption) ?_
    try simp only [Act.put, List.getElem_toArray, List.getElem_cons_zero, List.getElem_cons_succ, List.setIfInBounds_toArray, List.set_cons_zero, List.set_cons_succ]
    refine wpAnyU_take (i := 6) rfl (by kernel_rfl) (by kernel_rfl) (by kernel_rfl) (by kernel_rfl) (by kernel_rfl) (by kernel_rfl) (fun _ _ _ h => h) (Or.inr ⟨by rfl, rfl⟩) (by assumption) ?_
    try simp only [Act.put, List.getElem_toArray, List.getElem_cons_zero, List.getElem_cons_succ, List.setIfInBounds_toArray, List.set_cons_zero, List.set_cons_succ]
    refine wpAnyU_take (i := 7) (v := ?_) rfl (by kernel_rfl) (by kernel_rfl) (by kernel_rfl) (by kernel_rfl) (by kernel_rfl) (by kernel_rfl) (fun _ _ _ h => h) (Or.inl ⟨by rfl, ?_⟩) (by assumption) ?_
    rotate_left
    · intro w hSw; (try dsimp only at hSw); go_simp; (try with_reducible rfl)
    try simp only [Act.put, List.getElem_toArray, List.getElem_cons_zero, List.getElem_cons_succ, List.setIfInBounds_toArray, List.set_cons_zero, List.set_cons_succ]
    refine wpAnyU_ready (rs := [9]) (by kernel_rfl) (by simp) ?_
    refine AllReadyU.cons rfl (fun K hK => ?_) AllReadyU.nil
    go_simp
    refine (Key.out _ (below_grownBy hloc8.grown) (by have := hloc8.size; simp at this; omega) q2 q3).mono ?_
    rintro e w5 ⟨⟨v5, rfl, ho5⟩, hb5⟩
    obtain ⟨ao5, cap5, rfl⟩ := owns_form ho5
    have hloc5 := hloc8.next (grownBy_below hb5 none) (fun _ h => by cases h)
    have p0 : w5.cell? ⟨w.heap.size, 0, none⟩ = some (.int .i64 n) := hloc5.cell 0 rfl 0
    have p1 : w5.cell? ⟨w.heap.size, 1, none⟩ = some (.slice aoz xs.length capz) := hloc5.cell 0 rfl 1
    have p2 : w5.cell? ⟨w.heap.size + 1, 0, none⟩ = some (.int .i64 i) := hloc5.cell 1 rfl 0
    have p3 : w5.cell? ⟨w.heap.size + 1 + 1, 0, none⟩ = some (.int .i64 c) := hloc5.cell 2 rfl 0
    have pf0 : w5.frozen? ⟨w.heap.size, 0, none⟩ = false := hloc5.free 0 rfl 0
    have pf1 : w5.frozen? ⟨w.heap.size, 1, none⟩ = false := hloc5.free 0 rfl 1
    have Hm5 := Lib.hid (BefMid.mk' hloc5 ho5 (by have := hloc8.size; simp at this; omega))
    refine hK.out _ _ ⟨p0, p1, p2, p3⟩ (fun hHeld2 => ?_)
    clear hK K
    try simp only [Act.put, List.getElem_toArray, List.getElem_cons_zero, List.getElem_cons_succ, List.setIfInBounds_toArray, List.set_cons_zero, List.set_cons_succ]
    refine wpAnyU_take (i := 10) (v := ?_) rfl (by kernel_rfl) (by kernel_rfl) (by kernel_rfl) (by kernel_rfl) (by kernel_rfl) (by kernel_rfl) (fun _ _ _ h => h) (Or.inl ⟨by rfl, ?_⟩) (by assumption) ?_
    rotate_left
    · intro w hSw; (try dsimp only at hSw); go_simp; (try with_reducible rfl)
    try simp only [Act.put, List.getElem_toArray, List.getElem_cons_zero, List.getElem_cons_succ, List.setIfInBounds_toArray, List.set_cons_zero, List.set_cons_succ]
    refine wpAnyU_take (i := 11) (v := ?_) rfl (by kernel_rfl) (by kernel_rfl) (by kernel_rfl) (by kernel_rfl) (by kernel_rfl) (by kernel_rfl) (fun _ _ _ h => h) (Or.inl ⟨by rfl, ?_⟩) (by assumption) ?_
    rotate_left
    · intro w hSw; (try dsimp only at hSw); go_simp; (try with_reducible rfl)
    try simp only [Act.put, List.getElem_toArray, List.getElem_cons_zero, List.getElem_cons_succ, List.setIfInBounds_toArray, List.set_cons_zero, List.set_cons_succ]
    refine wpAnyU_takeW (i := 12) (v := ?_) rfl (by kernel_rfl) (by kernel_rfl) (by kernel_rfl) (by kernel_rfl) (fun _ _ _ h => h) (Or.inl ⟨by rfl, ?_⟩) (Or.inr (by assumption)) ?_
    rotate_left
    · intro w _; go_simp; (try with_reducible rfl)
    try simp only [Act.put, List.getElem_toArray, List.getElem_cons_zero, List.getElem_cons_succ, List.setIfInBounds_toArray, List.set_cons_zero, List.set_cons_succ]
    refine wpAnyU_ready (rs := [13]) (by kernel_rfl) (by simp) ?_
    refine AllReadyU.past rfl (by kernel_rfl) (fun K hK => ?_) AllReadyU.nil
    go_simp
    refine hK.out _ _ ?_
    clear hK K
    try simp only [Act.put, List.getElem_toArray, List.getElem_cons_zero, List.getElem_cons_succ, List.setIfInBounds_toArray, List.set_cons_zero, List.set_cons_succ]
    refine wpAnyU_takeW (i := 14) (v := ?_) rfl (by kernel_rfl) (by kernel_rfl) (by kernel_rfl) (by kernel_rfl) (fun _ _ _ h => h) (Or.inl ⟨by rfl, ?_⟩) (Or.inl (by kernel_rfl)) ?_
    rotate_left
    · intro w _; go_simp; (try with_reducible rfl)
    try simp only [Act.put, List.getElem_toArray, List.getElem_cons_zero, List.getElem_cons_succ, List.setIfInBounds_toArray, List.set_cons_zero, List.set_cons_succ]
    refine wpAnyU_done (by kernel_rfl) ?_ _
    refine NoPanic.normal ?_
    go_wp2_with fail
    go_meet
    exact ⟨rfl, Hm5.out⟩
  case rest =>
    obtain ⟨rfl, v5, ho5, hb1, hb2, hB5, p2⟩ := hcut
    obtain ⟨ao5, cap5, rfl⟩ := owns_form ho5
    have p0 := cell_of_row _ w.heap.size 0 _ _ _ hb1
    have p1 := cell_of_row _ w.heap.size 1 _ _ _ hb1
    have Hb1 := Lib.hid hb1
    have Hb2 := Lib.hid hb2
    have Ho5 := Lib.hid ho5
    have HB5 := Lib.hid hB5
    clear hb1 hb2 ho5 hB5
    by_cases he : R.1 = 0
    · have hE : (R.1 != 0) = false := by simpa using he
      have hTf := HF.out
      rw [if_pos he] at hTf
      have HTF := Lib.hid hTf
      have hd : zdim R n = n := by unfold zdim; rw [if_pos he]
      rw [hd] at p0
      clear hTf he hd
      go_wp2_with fail
      refine (prog_zfree n i _ R.2 _ (OL.rl Ho5.out)).mono ?_
      rw [← HTF.out]
      rintro e w7 ⟨⟨v7, rfl, ho7⟩, hb7⟩
      obtain ⟨ao7, cap7, rfl⟩ := owns_form ho7
      have h3 := hp_keep3 Hb2.out hb7
      have r0 := cell_of_row _ (w.heap.size + 3) 0 _ _ _ h3
      have r1 := cell_of_row _ (w.heap.size + 3) 1 _ _ _ h3
      have r2 := frozen_of_row _ (w.heap.size + 3) 0 _ _ h3
      have r3 := frozen_of_row _ (w.heap.size + 3) 1 _ _ h3
      have Ho7 := Lib.hid (show OL 60 (w.heap.size + 4) w7 (.slice ao7 T.2.length cap7) T.2 from OL.mono ho7 (by have h := (Array.getElem?_eq_some_iff.1 Hb2.out).1; omega))
      have HB7 := Lib.hid (HB5.out.trans (hb7.mono HB5.out.size))
      clear ho7 hb7 h3 p0 p1 p2
      go_wp2_with fail
      refine bodyPost_ret (v := .tuple #[.agg #[.int .i64 (zdim T n), .slice ao7 T.2.length cap7], .int .i64 T.1]) (by simp [results, Try.results50, go_sem, r0, r1]) rfl ⟨⟨_, by rw [HT.out], ?_⟩, ?_⟩
      · rw [HT.out]; exact OL.mono (base := w.heap.size + 4) (own_set2 Ho7.out (by omega) _ _) (by omega)
      · exact (HB7.out.setCell (by simp; omega) _).setCell (by simp; omega) _
    · have hE : (R.1 != 0) = true := by simpa using he
      have hTf := HF.out
      rw [if_neg he] at hTf
      have HTF := Lib.hid hTf
      have Hne := Lib.hid he
      have r0 := cell_of_row _ (w.heap.size + 3) 0 _ _ _ Hb2.out
      have r1 := cell_of_row _ (w.heap.size + 3) 1 _ _ _ Hb2.out
      have r2 := frozen_of_row _ (w.heap.size + 3) 0 _ _ Hb2.out
      have r3 := frozen_of_row _ (w.heap.size + 3) 1 _ _ Hb2.out
      clear hTf he p0 p1 p2
      go_wp2_with fail
      refine bodyPost_ret (v := .tuple #[.agg #[.int .i64 0, .slice none 0 0], .int .i64 R.1]) (by simp [results, Try.results50, go_sem, r0, r1]) rfl ⟨by rw [HT.out]; exact ZPost.err HTF.out Hne.out _, ?_⟩
      exact (HB5.out.setCell (by simp; omega) _).setCell (by simp; omega) _

set_option maxRecDepth 100000 in
set_option maxHeartbeats 8000000 in
theorem prog_before_in (n i c : Int) (zv : Value) (xs : List Int) (w : World) (hz : RL w.heap.size w zv xs) (hi : clkB n i = true) :
    Calls Try.prog 50 #[.agg #[.int .i64 n, zv], .int .i64 i, .int .i64 c] w fun e w' => ZPost 60 w.heap.size n (befF n xs i c) e w' ∧ Below w.heap.size w w' := by
  obtain ⟨aoz, capz, rfl, hlez, _⟩ := hz.open
  have hloc : Loc w ((((w.alloc (.cells #[.int .i64 n, .slice aoz xs.length capz] 24)).alloc (.cells #[.int .i64 i] 3)).alloc (.cells #[.int .i64 c] 2)).alloc (.cells #[.int .i64 0, .slice none 0 0] 24)) none [.cells #[.int .i64 n, .slice aoz xs.length capz] 24, .cells #[.int .i64 i] 3, .cells #[.int .i64 c] 2, .cells #[.int .i64 0, .slice none 0 0] 24] := Loc.four w _ _ _ _ _
  have Hz := Lib.hid hz
  clear hz
  have key : ∀ wr : World, Below w.heap.size w wr → w.heap.size + 3 ≤ wr.heap.size → wr.cell? ⟨w.heap.size + 1, 0, none⟩ = some (.int .i64 i) → wr.cell? ⟨w.heap.size + 1 + 1, 0, none⟩ = some (.int .i64 c) → Calls Try.prog 100 #[.agg #[.int .i64 n, .slice aoz xs.length capz], .bool (conB c), .func (.func 113) #[] #[.pointer (some ⟨w.heap.size + 1, 0, none⟩), .pointer (some ⟨w.heap.size + 1 + 1, 0, none⟩)]] wr fun e w' => ZPost 60 wr.heap.size n (befC n xs i c) e w' ∧ Below wr.heap.size wr w' := by
    intro wr hbe hse hc1 hc2
    have Hz1 : RL wr.heap.size wr (.slice aoz xs.length capz) xs := Hz.out.keepb hbe
    unfold befC
    rw [hi, Bool.true_and]
    by_cases hok : OkZ n xs ∧ conB c = true
    · obtain ⟨N, rfl⟩ := Int.eq_ofNat_of_zero_le hok.1.lo
      have hN : N ≤ 10 := by have := hok.1.hi; omega
      have hlen : xs.length = (N + 1) * (N + 1) := by have := hok.1.len; rwa [Int.toNat_natCast] at this
      have hvx := (dimF_nat hok.1.dim).2.2
      have h3 : 1 ≤ i ∧ i ≤ N := by simpa [clkB] using hi
      obtain ⟨i', rfl⟩ := Int.eq_ofNat_of_zero_le (show 0 ≤ i by omega)
      have h4 : 0 ≤ c ∧ c ≤ 1048576 := by simpa [conB] using hok.2
      rw [Int.toNat_natCast, Int.toNat_natCast, hok.2]
      refine prog_changed_ok N _ xs _ _ _ wr Hz1 hok.1 enters_before (fun base rv av w' hb hb1 hb2 hm => ?_) (setB_len _ _ _ _) (setB_vld i' c hvx hlen (by omega) h4.1 h4.2)
      exact prog_before_change N base i' (w.heap.size + 1) (w.heap.size + 1 + 1) c rv av xs w' hm hb2 hN hlen (by omega) h4.1 h4.2 (keepb hc1 hb) (keepb hc2 hb)
    · exact prog_changed_bad n _ _ xs _ _ wr Hz1 hok
  have Key := Lib.hid key
  have Hi := Lib.hid hi
  clear key hi
  have c00 := hloc.cell 0 rfl 0
  have c01 := hloc.cell 0 rfl 1
  have c10 := hloc.cell 1 rfl 0
  have c20 := hloc.cell 2 rfl 0
  go_enter Try.func50, Try.ntmps50
  go_wp2_with fail
  generalize World.alloc _ (Obj.cells #[.int .i64 0, .slice none 0 0] 24) = W at *
  have z0 : W.cell? ⟨w.heap.size, 0, none⟩ = some (.int .i64 n) := c00
  have z1 : W.cell? ⟨w.heap.size, 1, none⟩ = some (.slice aoz xs.length capz) := c01
  have z2 : W.cell? ⟨w.heap.size + 1, 0, none⟩ = some (.int .i64 i) := c10
  have z3 : W.cell? ⟨w.heap.size + 1 + 1, 0, none⟩ = some (.int .i64 c) := c20
  clear c00 c01 c10 c20
  have Hloc := Lib.hid hloc
  clear hloc
  have HF : Hid (befF n xs i c = if (befC n xs i c).1 = 0 then freeF n (befC n xs i c).2 i else ((befC n xs i c).1, [])) := Lib.hid rfl
  generalize hR : befC n xs i c = R at *
  generalize hT : befF n xs i c = T at *
  have HT := Lib.hid hT
  clear hR hT
  go_cut [8] (fun s8 wx => s8 = .int .i64 R.1 ∧ BefMid w n i R wx)
  case first =>
    refine wp_region_noPanic ?_
    refine wp_region_U (S := (fun w' => w'.cell? ⟨w.heap.size, 0, none⟩ = some (.int .i64 n) ∧ w'.cell? ⟨w.heap.size, 1, none⟩ = some (.slice aoz xs.length capz) ∧ w'.cell? ⟨w.heap.size + 1, 0, none⟩ = some (.int .i64 i) ∧ w'.cell? ⟨w.heap.size + 1 + 1, 0, none⟩ = some (.int .i64 c))) (k := 13) (by kernel_rfl) ⟨z0, z1, z2, z3⟩ (fun hHeld => ?_)
    refine wpAnyU_take (i := 0) (v := ?_) rfl (by kernel_rfl) (by kernel_rfl) (by kernel_rfl) (by kernel_rfl) (by kernel_rfl) (by kernel_rfl) (fun _ _ _ h => h) (Or.inl ⟨by rfl, ?_⟩) (by assumption) ?_
    rotate_left
    · intro w hSw; (try dsimp only at hSw); go_simp; (try with_reducible rfl)
    try simp only [Act.put, List.getElem_toArray, List.getElem_cons_zero, List.setIfInBounds_toArray, List.set_cons_zero, List.set_cons_succ]
    refine wpAnyU_take (i := 1) (v := ?_) rfl (by kernel_rfl) (by kernel_rfl) (by kernel_rfl) (by kernel_rfl) (by kernel_rfl) (by kernel_rfl) (fun _ _ _ h => h) (Or.inl ⟨by rfl, ?_⟩) (by assumption) ?_
    rotate_left
    · intro w hSw; (try dsimp only at hSw); go_simp; (try with_reducible rfl)
    try simp only [Act.put, List.getElem_toArray, List.getElem_cons_zero, List.getElem_cons_succ, List.setIfInBounds_toArray, List.set_cons_zero, List.set_cons_succ]
    refine wpAnyU_take (i := 2) (v := ?_) rfl (by kernel_rfl) (by kernel_rfl) (by kernel_rfl) (by kernel_rfl) (by kernel_rfl) (by kernel_rfl) (fun _ _ _ h => h) (Or.inl ⟨by rfl, ?_⟩) (by assumption) ?_
    rotate_left
    · intro w hSw; (try dsimp only at hSw); go_simp; (try with_reducible rfl)
    try simp only [Act.put, List.getElem_toArray, List.getElem_cons_zero, List.getElem_cons_succ, List.setIfInBounds_toArray, List.set_cons_zero, List.set_cons_succ]
    refine wpAnyU_take (i := 8) (v := ?_) rfl (by kernel_rfl) (by kernel_rfl) (by kernel_rfl) (by kernel_rfl) (by kernel_rfl) (by kernel_rfl) (fun _ _ _ h => h) (Or.inl ⟨by rfl, ?_⟩) (by assumption) ?_
    rotate_left
    · intro w hSw; (try dsimp only at hSw); go_simp; (try with_reducible rfl)
    try simp only [Act.put, List.getElem_toArray, List.getElem_cons_zero, List.getElem_cons_succ, List.setIfInBounds_toArray, List.set_cons_zero, List.set_cons_succ]
    refine wpAnyU_ready (rs := [3]) (by kernel_rfl) (by simp) ?_
    refine AllReadyU.cons rfl (fun K hK => ?_) AllReadyU.nil
    go_simp
    refine (prog_clock n i _ _).mono ?_
    rw [Hi.out]
    rintro e w8 ⟨rfl, hb8⟩
    have hloc8 := Hloc.out.next (grownBy_trans (grownBy_drew W none) (grownBy_below hb8 none)) (fun _ h => by cases h)
    have q0 : w8.cell? ⟨w.heap.size, 0, none⟩ = some (.int .i64 n) := hloc8.cell 0 rfl 0
    have q1 : w8.cell? ⟨w.heap.size, 1, none⟩ = some (.slice aoz xs.length capz) := hloc8.cell 0 rfl 1
    have q2 : w8.cell? ⟨w.heap.size + 1, 0, none⟩ = some (.int .i64 i) := hloc8.cell 1 rfl 0
    have q3 : w8.cell? ⟨w.heap.size + 1 + 1, 0, none⟩ = some (.int .i64 c) := hloc8.cell 2 rfl 0
    refine hK.out _ _ ⟨q0, q1, q2, q3⟩ (fun hHeld2 => ?_)
    clear hK K
    try simp only [Act.put, List.getElem_toArray, List.getElem_cons_zero, List.getElem_cons_succ, List.setIfInBounds_toArray, List.set_cons_zero, List.set_cons_succ]
    refine wpAnyU_take (i := 4) (v := ?_) rfl (by kernel_rfl) (by kernel_rfl) (by kernel_rfl) (by kernel_rfl) (by kernel_rfl) (by kernel_rfl) (fun _ _ _ h => h) (Or.inl ⟨by rfl, ?_⟩) (by assumption) ?_
    rotate_left
    · intro w hSw; (try dsimp only at hSw); go_simp; (try with_reducible rfl)
    try simp only [Act.put, List.getElem_toArray, List.getElem_cons_zero, List.getElem_cons_succ, List.setIfInBounds_toArray, List.set_cons_zero, List.set_cons_succ]
    refine wpAnyU_take (i := 5) (v := ?_) rfl (by kernel_rfl) (by kernel_rfl) (by kernel_rfl) (by kernel_rfl) (by kernel_rfl) (by kernel_rfl) (fun _ _ _ h => h) (Or.inl ⟨by rfl, ?_⟩) (by assumption) ?_
    rotate_left
    · intro w hSw; (try dsimp only at hSw); go_simp; (try with_reducible rfl)
    try simp only [Act.put, List.getElem_toArray, List.getElem_cons_zero, List.getElem_cons_succ, List.setIfInBounds_toArray, List.set_cons_zero, List.set_cons_succ]
    refine wpAnyU_ready (rs := [6]) (by kernel_rfl) (by simp) ?_
    refine AllReadyU.cons rfl (fun K hK => ?_) AllReadyU.nil
    go_simp
    refine (prog_zcon c _).mono ?_
    rintro e w9 ⟨rfl, rfl⟩
    refine hK.out _ _ ⟨q0, q1, q2, q3⟩ (fun hHeld2 => ?_)
    clear hK K
    try simp only [Act.put, List.getElem_toArray, List.getElem_cons_zero, List.getElem_cons_succ, List.setIfInBounds_toArray, List.set_cons_zero, List.set_cons_succ]
    refine wpAnyU_take (i := 7) (v := ?_) rfl (by kernel_rfl) (by kernel_rfl) (by kernel_rfl) (by kernel_rfl) (by kernel_rfl) (by kernel_rfl) (fun _ _ _ h => h) (Or.inl ⟨by rfl, ?_⟩) (by assumption) ?_
    rotate_left
    · intro w hSw; (try dsimp only at hSw); go_simp; (try with_reducible rfl)
    try simp only [Act.put, List.getElem_toArray, List.getElem_cons_zero, List.getElem_cons_succ, List.setIfInBounds_toArray, List.set_cons_zero, List.set_cons_succ]
    refine wpAnyU_ready (rs := [9]) (by kernel_rfl) (by simp) ?_
    refine AllReadyU.cons rfl (fun K hK => ?_) AllReadyU.nil
    go_simp
    refine (Key.out _ (below_grownBy hloc8.grown) (by have := hloc8.size; simp at this; omega) q2 q3).mono ?_
    rintro e w5 ⟨⟨v5, rfl, ho5⟩, hb5⟩
    obtain ⟨ao5, cap5, rfl⟩ := owns_form ho5
    have hloc5 := hloc8.next (grownBy_below hb5 none) (fun _ h => by cases h)
    have p0 : w5.cell? ⟨w.heap.size, 0, none⟩ = some (.int .i64 n) := hloc5.cell 0 rfl 0
    have p1 : w5.cell? ⟨w.heap.size, 1, none⟩ = some (.slice aoz xs.length capz) := hloc5.cell 0 rfl 1
    have p2 : w5.cell? ⟨w.heap.size + 1, 0, none⟩ = some (.int .i64 i) := hloc5.cell 1 rfl 0
    have p3 : w5.cell? ⟨w.heap.size + 1 + 1, 0, none⟩ = some (.int .i64 c) := hloc5.cell 2 rfl 0
    have pf0 : w5.frozen? ⟨w.heap.size, 0, none⟩ = false := hloc5.free 0 rfl 0
    have pf1 : w5.frozen? ⟨w.heap.size, 1, none⟩ = false := hloc5.free 0 rfl 1
    have Hm5 := Lib.hid (BefMid.mk' hloc5 ho5 (by have := hloc8.size; simp at this; omega))
    refine hK.out _ _ ⟨p0, p1, p2, p3⟩ (fun hHeld2 => ?_)
    clear hK K
    try simp only [Act.put, List.getElem_toArray, List.getElem_cons_zero, List.getElem_cons_succ, List.setIfInBounds_toArray, List.set_cons_zero, List.set_cons_succ]
    refine wpAnyU_take (i := 10) (v := ?_) rfl (by kernel_rfl) (by kernel_rfl) (by kernel_rfl) (by kernel_rfl) (by kernel_rfl) (by kernel_rfl) (fun _ _ _ h => h) (Or.inl ⟨by rfl, ?_⟩) (by assumption) ?_
    rotate_left
    · intro w hSw; (try dsimp only at hSw); go_simp; (try with_reducible rfl)
    try simp only [Act.put, List.getElem_toArray, List.getElem_cons_zero, List.getElem_cons_succ, List.setIfInBounds_toArray, List.set_cons_zero, List.set_cons_succ]
    refine wpAnyU_take (i := 11) (v := ?_) rfl (by kernel_rfl) (by kernel_rfl) (by kernel_rfl) (by kernel_rfl) (by kernel_rfl) (by kernel_rfl) (fun _ _ _ h => h) (Or.inl ⟨by rfl, ?_⟩) (by assumption) ?_
    rotate_left
    · intro w hSw; (try dsimp only at hSw); go_simp; (try with_reducible rfl)
    try simp only [Act.put, List.getElem_toArray, List.getElem_cons_zero, List.getElem_cons_succ, List.setIfInBounds_toArray, List.set_cons_zero, List.set_cons_succ]
    refine wpAnyU_takeW (i := 12) (v := ?_) rfl (by kernel_rfl) (by kernel_rfl) (by kernel_rfl) (by kernel_rfl) (fun _ _ _ h => h) (Or.inl ⟨by rfl, ?_⟩) (Or.inr (by assumption)) ?_
    rotate_left
    · intro w _; go_simp; (try with_reducible rfl)
    try simp only [Act.put, List.getElem_toArray, List.getElem_cons_zero, List.getElem_cons_succ, List.setIfInBounds_toArray, List.set_cons_zero, List.set_cons_succ]
    refine wpAnyU_ready (rs := [13]) (by kernel_rfl) (by simp) ?_
    refine AllReadyU.past rfl (by kernel_rfl) (fun K hK => ?_) AllReadyU.nil
    go_simp
    refine hK.out _ _ ?_
    clear hK K
    try simp only [Act.put, List.getElem_toArray, List.getElem_cons_zero, List.getElem_cons_succ, List.setIfInBounds_toArray, List.set_cons_zero, List.set_cons_succ]
    refine wpAnyU_takeW (i := 14) (v := ?_) rfl (by kernel_rfl) (by kernel_rfl) (by kernel_rfl) (by kernel_rfl) (fun _ _ _ h => h) (Or.inl ⟨by rfl, ?_⟩) (Or.inl (by kernel_rfl)) ?_
    rotate_left
    · intro w _; go_simp; (try with_reducible rfl)
    try simp only [Act.put, List.getElem_toArray, List.getElem_cons_zero, List.getElem_cons_succ, List.setIfInBounds_toArray, List.set_cons_zero, List.set_cons_succ]
    refine wpAnyU_done (by kernel_rfl) ?_ _
    refine NoPanic.normal ?_
    go_wp2_with fail
    go_meet
    exact ⟨rfl, Hm5.out⟩
  case rest =>
    obtain ⟨rfl, v5, ho5, hb1, hb2, hB5, p2⟩ := hcut
    obtain ⟨ao5, cap5, rfl⟩ := owns_form ho5
    have p0 := cell_of_row _ w.heap.size 0 _ _ _ hb1
    have p1 := cell_of_row _ w.heap.size 1 _ _ _ hb1
    have Hb1 := Lib.hid hb1
    have Hb2 := Lib.hid hb2
    have Ho5 := Lib.hid ho5
    have HB5 := Lib.hid hB5
    clear hb1 hb2 ho5 hB5
    by_cases he : R.1 = 0
    · have hE : (R.1 != 0) = false := by simpa using he
      have hTf := HF.out
      rw [if_pos he] at hTf
      have HTF := Lib.hid hTf
      have hd : zdim R n = n := by unfold zdim; rw [if_pos he]
      rw [hd] at p0
      clear hTf he hd
      go_wp2_with fail
      refine (prog_zfree n i _ R.2 _ (OL.rl Ho5.out)).mono ?_
      rw [← HTF.out]
      rintro e w7 ⟨⟨v7, rfl, ho7⟩, hb7⟩
      obtain ⟨ao7, cap7, rfl⟩ := owns_form ho7
      have h3 := hp_keep3 Hb2.out hb7
      have r0 := cell_of_row _ (w.heap.size + 3) 0 _ _ _ h3
      have r1 := cell_of_row _ (w.heap.size + 3) 1 _ _ _ h3
      have r2 := frozen_of_row _ (w.heap.size + 3) 0 _ _ h3
      have r3 := frozen_of_row _ (w.heap.size + 3) 1 _ _ h3
      have Ho7 := Lib.hid (show OL 60 (w.heap.size + 4) w7 (.slice ao7 T.2.length cap7) T.2 from OL.mono ho7 (by have h := (Array.getElem?_eq_some_iff.1 Hb2.out).1; omega))
      have HB7 := Lib.hid (HB5.out.trans (hb7.mono HB5.out.size))
      clear ho7 hb7 h3 p0 p1 p2
      go_wp2_with fail
      refine bodyPost_ret (v := .tuple #[.agg #[.int .i64 (zdim T n), .slice ao7 T.2.length cap7], .int .i64 T.1]) (by simp [results, Try.results50, go_sem, r0, r1]) rfl ⟨⟨_, by rw [HT.out], ?_⟩, ?_⟩
      · rw [HT.out]; exact OL.mono (base := w.heap.size + 4) (own_set2 Ho7.out (by omega) _ _) (by omega)
      · exact (HB7.out.setCell (by simp; omega) _).setCell (by simp; omega) _
    · have hE : (R.1 != 0) = true := by simpa using he
      have hTf := HF.out
      rw [if_neg he] at hTf
      have HTF := Lib.hid hTf
      have Hne := Lib.hid he
      have r0 := cell_of_row _ (w.heap.size + 3) 0 _ _ _ Hb2.out
      have r1 := cell_of_row _ (w.heap.size + 3) 1 _ _ _ Hb2.out
      have r2 := frozen_of_row _ (w.heap.size + 3) 0 _ _ Hb2.out
      have r3 := frozen_of_row _ (w.heap.size + 3) 1 _ _ Hb2.out
      clear hTf he p0 p1 p2
      go_wp2_with fail
      refine bodyPost_ret (v := .tuple #[.agg #[.int .i64 0, .slice none 0 0], .int .i64 R.1]) (by simp [results, Try.results50, go_sem, r0, r1]) rfl ⟨by rw [HT.out]; exact ZPost.err HTF.out Hne.out _, ?_⟩
      exact (HB5.out.setCell (by simp; omega) _).setCell (by simp; omega) _
theorem prog_before (n i c : Int) (zv : Value) (xs : List Int) (w : World) (hz : RL w.heap.size w zv xs) :
    Calls Try.prog 50 #[.agg #[.int .i64 n, zv], .int .i64 i, .int .i64 c] w fun e w' => ZPost 60 w.heap.size n (befF n xs i c) e w' ∧ Below w.heap.size w w' := by
  cases hi : clkB n i with
  | false => exact prog_before_no n i c zv xs w hz hi
  | true => exact prog_before_in n i c zv xs w hz hi
end Go.Proofs.Ytkgaipcgdldfdaa
