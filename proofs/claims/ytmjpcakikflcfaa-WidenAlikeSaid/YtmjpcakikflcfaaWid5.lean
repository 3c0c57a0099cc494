/- The contract of the program's Bounds. -/
import Derived.Test.YtmjpcakikflcfaaWid2
import Derived.Test.YtmjpcakikflcfaaWid4
import Derived.Test.YtmjpcakikflcfaaZclose
import Derived.Laws.EntriesVeiled
import Derived.BigRegion
namespace Go.Proofs.Ytmjpcakikflcfaa
open Go.RowKit

theorem Loc.snoc {w wr : World} {row : Option Nat} {l : List Obj} (h : Loc w wr row l) (hs : wr.heap.size = w.heap.size + l.length) (o : Obj) : Loc w (wr.alloc o) row (l ++ [o]) :=
  ⟨grownBy_trans h.grown (World.grownBy_alloc _ _ _), fun i hi => by
    by_cases e : i < l.length
    · rw [List.getElem?_append_left e, Below.heap_alloc wr o _ (by omega)]; exact h.objs i e
    · have hi' : i = l.length := by simp at hi; omega
      subst hi'
      rw [List.getElem?_append_right (Nat.le_refl _), Nat.sub_self, ← hs]
      exact heap_alloc_new wr o, by simp; omega⟩

set_option maxRecDepth 100000 in
set_option maxHeartbeats 2000000 in
theorem prog_bounds_no (n : Int) (v lv hgv : Value) (xs low high : List Int) (w : World) (hv : RL w.heap.size w v xs) (hl : RL w.heap.size w lv low) (hh : RL w.heap.size w hgv high)
    (hno : ¬ (OkZ n xs ∧ cstF n low = true ∧ cstF n high = true)) :
    Calls Try.prog 9 #[.agg #[.int .i64 n, v], lv, hgv] w fun e w' => ZPost 49 w.heap.size n (widB n xs low high) e w' ∧ Below w.heap.size w w' := by
  have Hres := Lib.hid (widB_no hno)
  obtain ⟨ao, cap, rfl, _⟩ := hv.open
  obtain ⟨aol, capl, rfl, _⟩ := hl.open
  obtain ⟨aoh, caph, rfl, _⟩ := hh.open
  by_cases h1 : OkZ n xs
  · have e1 := okErr_yes h1
    by_cases h2 : cstF n low = true
    · have h3 : cstF n high = false := by rw [Bool.eq_false_iff]; exact fun h => hno ⟨h1, h2, h⟩
      clear h1 hno
      have hloc0 := (((Loc.two w (.cells #[.int .i64 n, (.slice ao xs.length cap)] 24) (.cells #[(.slice aol low.length capl)] 25) none).snoc (by simp) (.cells #[(.slice aoh high.length caph)] 25)).snoc (by simp) (.cells #[.int .i64 0, .slice none 0 0] 24))
      simp only [List.cons_append, List.nil_append] at hloc0
      have Hv := Lib.hid hv
      have Hl := Lib.hid hl
      have Hh := Lib.hid hh
      clear hv hl hh
      go_enter Try.func9, Try.ntmps9
      go_wp2_with fail
      refine (prog_check n _ xs _ (Hv.out.keepb (below_grownBy hloc0.grown))).mono ?_
      rw [e1]
      rintro e w1 ⟨rfl, hb1⟩
      have hloc1 := hloc0.next (grownBy_below hb1 none) (fun _ h => by cases h)
      have c10 : w1.cell? ⟨w.heap.size, 0, none⟩ = some (.int .i64 n) := hloc1.cell 0 rfl 0
      have c11 : w1.cell? ⟨w.heap.size, 1, none⟩ = some (.slice ao xs.length cap) := hloc1.cell 0 rfl 1
      have c12 : w1.cell? ⟨w.heap.size + 1, 0, none⟩ = some (.slice aol low.length capl) := hloc1.cell 1 rfl 0
      have c13 : w1.cell? ⟨w.heap.size + 1 + 1, 0, none⟩ = some (.slice aoh high.length caph) := hloc1.cell 2 rfl 0
      have r10 : w1.cell? ⟨w.heap.size + 1 + 1 + 1, 0, none⟩ = some (.int .i64 0) := hloc1.cell 3 rfl 0
      have r11 : w1.cell? ⟨w.heap.size + 1 + 1 + 1, 1, none⟩ = some (.slice none 0 0) := hloc1.cell 3 rfl 1
      have f10 : w1.frozen? ⟨w.heap.size + 1 + 1 + 1, 0, none⟩ = false := hloc1.free 3 rfl 0
      have f11 : w1.frozen? ⟨w.heap.size + 1 + 1 + 1, 1, none⟩ = false := hloc1.free 3 rfl 1
      clear hb1 hloc0
      go_wp2_with fail
      refine (prog_constants n _ _ low _ ⟨_, _, _, rfl⟩ (Hl.out.keepb (below_grownBy hloc1.grown))).mono ?_
      rw [h2]
      rintro e w2 ⟨rfl, hb2⟩
      have hloc2 := hloc1.next (grownBy_below hb2 none) (fun _ h => by cases h)
      have c20 : w2.cell? ⟨w.heap.size, 0, none⟩ = some (.int .i64 n) := hloc2.cell 0 rfl 0
      have c21 : w2.cell? ⟨w.heap.size, 1, none⟩ = some (.slice ao xs.length cap) := hloc2.cell 0 rfl 1
      have c22 : w2.cell? ⟨w.heap.size + 1, 0, none⟩ = some (.slice aol low.length capl) := hloc2.cell 1 rfl 0
      have c23 : w2.cell? ⟨w.heap.size + 1 + 1, 0, none⟩ = some (.slice aoh high.length caph) := hloc2.cell 2 rfl 0
      have r20 : w2.cell? ⟨w.heap.size + 1 + 1 + 1, 0, none⟩ = some (.int .i64 0) := hloc2.cell 3 rfl 0
      have r21 : w2.cell? ⟨w.heap.size + 1 + 1 + 1, 1, none⟩ = some (.slice none 0 0) := hloc2.cell 3 rfl 1
      have f20 : w2.frozen? ⟨w.heap.size + 1 + 1 + 1, 0, none⟩ = false := hloc2.free 3 rfl 0
      have f21 : w2.frozen? ⟨w.heap.size + 1 + 1 + 1, 1, none⟩ = false := hloc2.free 3 rfl 1
      clear hb2 hloc1 c10 c11 c12 c13 r10 r11 f10 f11
      go_wp2_with fail
      refine (prog_constants n _ _ high _ ⟨_, _, _, rfl⟩ (Hh.out.keepb (below_grownBy hloc2.grown))).mono ?_
      rw [h3]
      rintro e w3 ⟨rfl, hb3⟩
      have hloc3 := hloc2.next (grownBy_below hb3 none) (fun _ h => by cases h)
      have c30 : w3.cell? ⟨w.heap.size, 0, none⟩ = some (.int .i64 n) := hloc3.cell 0 rfl 0
      have c31 : w3.cell? ⟨w.heap.size, 1, none⟩ = some (.slice ao xs.length cap) := hloc3.cell 0 rfl 1
      have c32 : w3.cell? ⟨w.heap.size + 1, 0, none⟩ = some (.slice aol low.length capl) := hloc3.cell 1 rfl 0
      have c33 : w3.cell? ⟨w.heap.size + 1 + 1, 0, none⟩ = some (.slice aoh high.length caph) := hloc3.cell 2 rfl 0
      have r30 : w3.cell? ⟨w.heap.size + 1 + 1 + 1, 0, none⟩ = some (.int .i64 0) := hloc3.cell 3 rfl 0
      have r31 : w3.cell? ⟨w.heap.size + 1 + 1 + 1, 1, none⟩ = some (.slice none 0 0) := hloc3.cell 3 rfl 1
      have f30 : w3.frozen? ⟨w.heap.size + 1 + 1 + 1, 0, none⟩ = false := hloc3.free 3 rfl 0
      have f31 : w3.frozen? ⟨w.heap.size + 1 + 1 + 1, 1, none⟩ = false := hloc3.free 3 rfl 1
      clear hb3 hloc2 c20 c21 c22 c23 r20 r21 f20 f21
      go_wp2_with fail
      refine bodyPost_ret (v := .tuple #[.agg #[.int .i64 0, .slice none 0 0], .int .i64 2]) (by simp [results, Try.results9, go_sem, r30, r31]) rfl ⟨ZPost.err Hres.out (by omega) _, ?_⟩
      exact ((below_grownBy hloc3.grown).setCell (by simp; omega) _).setCell (by simp; omega) _
    · have h2' : cstF n low = false := by simpa using h2
      clear h1 h2 hno
      have hloc0 := (((Loc.two w (.cells #[.int .i64 n, (.slice ao xs.length cap)] 24) (.cells #[(.slice aol low.length capl)] 25) none).snoc (by simp) (.cells #[(.slice aoh high.length caph)] 25)).snoc (by simp) (.cells #[.int .i64 0, .slice none 0 0] 24))
      simp only [List.cons_append, List.nil_append] at hloc0
      have Hv := Lib.hid hv
      have Hl := Lib.hid hl
      have Hh := Lib.hid hh
      clear hv hl hh
      go_enter Try.func9, Try.ntmps9
      go_wp2_with fail
      refine (prog_check n _ xs _ (Hv.out.keepb (below_grownBy hloc0.grown))).mono ?_
      rw [e1]
      rintro e w1 ⟨rfl, hb1⟩
      have hloc1 := hloc0.next (grownBy_below hb1 none) (fun _ h => by cases h)
      have c10 : w1.cell? ⟨w.heap.size, 0, none⟩ = some (.int .i64 n) := hloc1.cell 0 rfl 0
      have c11 : w1.cell? ⟨w.heap.size, 1, none⟩ = some (.slice ao xs.length cap) := hloc1.cell 0 rfl 1
      have c12 : w1.cell? ⟨w.heap.size + 1, 0, none⟩ = some (.slice aol low.length capl) := hloc1.cell 1 rfl 0
      have c13 : w1.cell? ⟨w.heap.size + 1 + 1, 0, none⟩ = some (.slice aoh high.length caph) := hloc1.cell 2 rfl 0
      have r10 : w1.cell? ⟨w.heap.size + 1 + 1 + 1, 0, none⟩ = some (.int .i64 0) := hloc1.cell 3 rfl 0
      have r11 : w1.cell? ⟨w.heap.size + 1 + 1 + 1, 1, none⟩ = some (.slice none 0 0) := hloc1.cell 3 rfl 1
      have f10 : w1.frozen? ⟨w.heap.size + 1 + 1 + 1, 0, none⟩ = false := hloc1.free 3 rfl 0
      have f11 : w1.frozen? ⟨w.heap.size + 1 + 1 + 1, 1, none⟩ = false := hloc1.free 3 rfl 1
      clear hb1 hloc0
      go_wp2_with fail
      refine (prog_constants n _ _ low _ ⟨_, _, _, rfl⟩ (Hl.out.keepb (below_grownBy hloc1.grown))).mono ?_
      rw [h2']
      rintro e w2 ⟨rfl, hb2⟩
      have hloc2 := hloc1.next (grownBy_below hb2 none) (fun _ h => by cases h)
      have c20 : w2.cell? ⟨w.heap.size, 0, none⟩ = some (.int .i64 n) := hloc2.cell 0 rfl 0
      have c21 : w2.cell? ⟨w.heap.size, 1, none⟩ = some (.slice ao xs.length cap) := hloc2.cell 0 rfl 1
      have c22 : w2.cell? ⟨w.heap.size + 1, 0, none⟩ = some (.slice aol low.length capl) := hloc2.cell 1 rfl 0
      have c23 : w2.cell? ⟨w.heap.size + 1 + 1, 0, none⟩ = some (.slice aoh high.length caph) := hloc2.cell 2 rfl 0
      have r20 : w2.cell? ⟨w.heap.size + 1 + 1 + 1, 0, none⟩ = some (.int .i64 0) := hloc2.cell 3 rfl 0
      have r21 : w2.cell? ⟨w.heap.size + 1 + 1 + 1, 1, none⟩ = some (.slice none 0 0) := hloc2.cell 3 rfl 1
      have f20 : w2.frozen? ⟨w.heap.size + 1 + 1 + 1, 0, none⟩ = false := hloc2.free 3 rfl 0
      have f21 : w2.frozen? ⟨w.heap.size + 1 + 1 + 1, 1, none⟩ = false := hloc2.free 3 rfl 1
      clear hb2 hloc1 c10 c11 c12 c13 r10 r11 f10 f11
      go_wp2_with fail
      refine bodyPost_ret (v := .tuple #[.agg #[.int .i64 0, .slice none 0 0], .int .i64 2]) (by simp [results, Try.results9, go_sem, r20, r21]) rfl ⟨ZPost.err Hres.out (by omega) _, ?_⟩
      exact ((below_grownBy hloc2.grown).setCell (by simp; omega) _).setCell (by simp; omega) _
  · have e1 := okErr_no h1
    clear h1 hno
    have hloc0 := (((Loc.two w (.cells #[.int .i64 n, (.slice ao xs.length cap)] 24) (.cells #[(.slice aol low.length capl)] 25) none).snoc (by simp) (.cells #[(.slice aoh high.length caph)] 25)).snoc (by simp) (.cells #[.int .i64 0, .slice none 0 0] 24))
    simp only [List.cons_append, List.nil_append] at hloc0
    have Hv := Lib.hid hv
    have Hl := Lib.hid hl
    have Hh := Lib.hid hh
    clear hv hl hh
    go_enter Try.func9, Try.ntmps9
    go_wp2_with fail
    refine (prog_check n _ xs _ (Hv.out.keepb (below_grownBy hloc0.grown))).mono ?_
    rw [e1]
    rintro e w1 ⟨rfl, hb1⟩
    have hloc1 := hloc0.next (grownBy_below hb1 none) (fun _ h => by cases h)
    have c10 : w1.cell? ⟨w.heap.size, 0, none⟩ = some (.int .i64 n) := hloc1.cell 0 rfl 0
    have c11 : w1.cell? ⟨w.heap.size, 1, none⟩ = some (.slice ao xs.length cap) := hloc1.cell 0 rfl 1
    have c12 : w1.cell? ⟨w.heap.size + 1, 0, none⟩ = some (.slice aol low.length capl) := hloc1.cell 1 rfl 0
    have c13 : w1.cell? ⟨w.heap.size + 1 + 1, 0, none⟩ = some (.slice aoh high.length caph) := hloc1.cell 2 rfl 0
    have r10 : w1.cell? ⟨w.heap.size + 1 + 1 + 1, 0, none⟩ = some (.int .i64 0) := hloc1.cell 3 rfl 0
    have r11 : w1.cell? ⟨w.heap.size + 1 + 1 + 1, 1, none⟩ = some (.slice none 0 0) := hloc1.cell 3 rfl 1
    have f10 : w1.frozen? ⟨w.heap.size + 1 + 1 + 1, 0, none⟩ = false := hloc1.free 3 rfl 0
    have f11 : w1.frozen? ⟨w.heap.size + 1 + 1 + 1, 1, none⟩ = false := hloc1.free 3 rfl 1
    clear hb1 hloc0
    go_wp2_with fail
    refine bodyPost_ret (v := .tuple #[.agg #[.int .i64 0, .slice none 0 0], .int .i64 2]) (by simp [results, Try.results9, go_sem, r10, r11]) rfl ⟨ZPost.err Hres.out (by omega) _, ?_⟩
    exact ((below_grownBy hloc1.grown).setCell (by simp; omega) _).setCell (by simp; omega) _

/-- The four rules, as they lie in memory behind block B. -/
def rulesObj (B : Nat) : Obj := .cells #[.func (Fn.func 25) #[] #[.pointer (some ⟨B + 1, 0, none⟩)], .func (Fn.func 26) #[] #[.pointer (some ⟨B + 1 + 1, 0, none⟩)], .func (Fn.func 27) #[] #[.pointer (some ⟨B + 1 + 1, 0, none⟩)], .func (Fn.func 28) #[] #[]] 61
set_option maxRecDepth 100000 in
set_option maxHeartbeats 4000000 in
theorem prog_bounds_yes (N : Nat) (v lv hgv : Value) (xs low high : List Int) (w : World) (hv : RL w.heap.size w v xs) (hl : RL w.heap.size w lv low) (hh : RL w.heap.size w hgv high)
    (hyes : OkZ N xs ∧ cstF N low = true ∧ cstF N high = true) :
    Calls Try.prog 9 #[.agg #[.int .i64 N, v], lv, hgv] w fun e w' => ZPost 49 w.heap.size N (widB N xs low high) e w' ∧ Below w.heap.size w w' := by
  have Hres := Lib.hid (widB_yes hyes)
  obtain ⟨h1, h2, h3⟩ := hyes
  obtain ⟨ao, cap, rfl, hle, h0⟩ := hv.open
  obtain ⟨bz, offz, rfl, hbz, hcz⟩ := h0 (by have := h1.len; rw [this]; exact Nat.mul_pos (by omega) (by omega))
  obtain ⟨aol, capl, rfl, hlel, _⟩ := hl.open
  obtain ⟨aoh, caph, rfl, hleh, _⟩ := hh.open
  have Hcz := Lib.hid hcz
  clear hcz h0
  have e1 := okErr_yes h1
  have hN : N ≤ 10 := by have := h1.hi; omega
  have hx : xs.length = (N + 1) * (N + 1) := by have := h1.len; rwa [Int.toNat_natCast] at this
  have Hx := Lib.hid hx
  have Hxb := Lib.hid (show xs.length ≤ 121 by rw [hx]; exact Nat.mul_le_mul (by omega : N + 1 ≤ 11) (by omega : N + 1 ≤ 11))
  have Hok := Lib.hid h1
  have Hc2 := Lib.hid h2
  have Hc3 := Lib.hid h3
  have hsq := sq_bd N hN
  clear h1 hx
  obtain ⟨i0, hi, hz0, hz1, hz2⟩ := info_parts Try.infoLimit
  have Hi := Lib.hid hi
  have Hz0 := Lib.hid hz0
  have Hz1 := Lib.hid hz1
  have Hz2 := Lib.hid hz2
  clear hi hz0 hz1 hz2
  have hloc0 := (((Loc.two w (.cells #[.int .i64 N, (.slice (some ⟨bz, offz, none⟩) xs.length cap)] 24) (.cells #[(.slice aol low.length capl)] 25) none).snoc (by simp) (.cells #[(.slice aoh high.length caph)] 25)).snoc (by simp) (.cells #[.int .i64 0, .slice none 0 0] 24))
  simp only [List.cons_append, List.nil_append] at hloc0
  have Hv := Lib.hid hv
  have Hl := Lib.hid hl
  have Hh := Lib.hid hh
  clear hv hl hh
  go_enter Try.func9, Try.ntmps9
  go_wp2_with fail
  refine (prog_check N _ xs _ (Hv.out.keepb (below_grownBy hloc0.grown))).mono ?_
  rw [e1]
  rintro e w1 ⟨rfl, hb1⟩
  have hloc1 := hloc0.next (grownBy_below hb1 none) (fun _ h => by cases h)
  have c10 : w1.cell? ⟨w.heap.size, 0, none⟩ = some (.int .i64 N) := hloc1.cell 0 rfl 0
  have c11 : w1.cell? ⟨w.heap.size, 1, none⟩ = some (.slice (some ⟨bz, offz, none⟩) xs.length cap) := hloc1.cell 0 rfl 1
  have c12 : w1.cell? ⟨w.heap.size + 1, 0, none⟩ = some (.slice aol low.length capl) := hloc1.cell 1 rfl 0
  have c13 : w1.cell? ⟨w.heap.size + 1 + 1, 0, none⟩ = some (.slice aoh high.length caph) := hloc1.cell 2 rfl 0
  have r10 : w1.cell? ⟨w.heap.size + 1 + 1 + 1, 0, none⟩ = some (.int .i64 0) := hloc1.cell 3 rfl 0
  have r11 : w1.cell? ⟨w.heap.size + 1 + 1 + 1, 1, none⟩ = some (.slice none 0 0) := hloc1.cell 3 rfl 1
  have f10 : w1.frozen? ⟨w.heap.size + 1 + 1 + 1, 0, none⟩ = false := hloc1.free 3 rfl 0
  have f11 : w1.frozen? ⟨w.heap.size + 1 + 1 + 1, 1, none⟩ = false := hloc1.free 3 rfl 1
  clear hb1 hloc0
  go_wp2_with fail
  refine (prog_constants N _ _ low _ ⟨_, _, _, rfl⟩ (Hl.out.keepb (below_grownBy hloc1.grown))).mono ?_
  rw [h2]
  rintro e w2 ⟨rfl, hb2⟩
  have hloc2 := hloc1.next (grownBy_below hb2 none) (fun _ h => by cases h)
  have c20 : w2.cell? ⟨w.heap.size, 0, none⟩ = some (.int .i64 N) := hloc2.cell 0 rfl 0
  have c21 : w2.cell? ⟨w.heap.size, 1, none⟩ = some (.slice (some ⟨bz, offz, none⟩) xs.length cap) := hloc2.cell 0 rfl 1
  have c22 : w2.cell? ⟨w.heap.size + 1, 0, none⟩ = some (.slice aol low.length capl) := hloc2.cell 1 rfl 0
  have c23 : w2.cell? ⟨w.heap.size + 1 + 1, 0, none⟩ = some (.slice aoh high.length caph) := hloc2.cell 2 rfl 0
  have r20 : w2.cell? ⟨w.heap.size + 1 + 1 + 1, 0, none⟩ = some (.int .i64 0) := hloc2.cell 3 rfl 0
  have r21 : w2.cell? ⟨w.heap.size + 1 + 1 + 1, 1, none⟩ = some (.slice none 0 0) := hloc2.cell 3 rfl 1
  have f20 : w2.frozen? ⟨w.heap.size + 1 + 1 + 1, 0, none⟩ = false := hloc2.free 3 rfl 0
  have f21 : w2.frozen? ⟨w.heap.size + 1 + 1 + 1, 1, none⟩ = false := hloc2.free 3 rfl 1
  clear hb2 hloc1 c10 c11 c12 c13 r10 r11 f10 f11
  go_wp2_with fail
  refine (prog_constants N _ _ high _ ⟨_, _, _, rfl⟩ (Hh.out.keepb (below_grownBy hloc2.grown))).mono ?_
  rw [h3]
  rintro e w3 ⟨rfl, hb3⟩
  have hloc3 := hloc2.next (grownBy_below hb3 none) (fun _ h => by cases h)
  have c30 : w3.cell? ⟨w.heap.size, 0, none⟩ = some (.int .i64 N) := hloc3.cell 0 rfl 0
  have c31 : w3.cell? ⟨w.heap.size, 1, none⟩ = some (.slice (some ⟨bz, offz, none⟩) xs.length cap) := hloc3.cell 0 rfl 1
  have c32 : w3.cell? ⟨w.heap.size + 1, 0, none⟩ = some (.slice aol low.length capl) := hloc3.cell 1 rfl 0
  have c33 : w3.cell? ⟨w.heap.size + 1 + 1, 0, none⟩ = some (.slice aoh high.length caph) := hloc3.cell 2 rfl 0
  have r30 : w3.cell? ⟨w.heap.size + 1 + 1 + 1, 0, none⟩ = some (.int .i64 0) := hloc3.cell 3 rfl 0
  have r31 : w3.cell? ⟨w.heap.size + 1 + 1 + 1, 1, none⟩ = some (.slice none 0 0) := hloc3.cell 3 rfl 1
  have f30 : w3.frozen? ⟨w.heap.size + 1 + 1 + 1, 0, none⟩ = false := hloc3.free 3 rfl 0
  have f31 : w3.frozen? ⟨w.heap.size + 1 + 1 + 1, 1, none⟩ = false := hloc3.free 3 rfl 1
  clear hb3 hloc2 c20 c21 c22 c23 r20 r21 f20 f21
  have s1 : w.heap.size < w3.heap.size := by have := hloc3.size; simp at this; omega
  have Hsq := Lib.hid (sq_nat N).symm
  have Hby := Lib.hid (show i0.bytes * ((N + 1) * (N + 1)) ≤ 281474976710656 by rw [Hz2.out, ← Hx.out]; have := Hxb.out; omega)
  have Hml := Lib.hid (show (N + 1) * (N + 1) ≤ maxLen by rw [← Hx.out]; have := Hxb.out; unfold maxLen; omega)
  go_wp2_with (at_make; (refine wpList_make_full _ ?_ (.tmp 47) (.tmp 47) 22 ?_ (w3.heap.size + 1) 49 i0 (.int .i64 0) 1 Try.undLimits Hi.out Hz0.out Hz1.out .i64 .i64 _ _ ((N + 1) * (N + 1)) ?_ ?_ Hsq.out Hsq.out Hby.out Hml.out ?_ ?_; rfl; rfl; rfl; rfl; simp; intro w4 hown4 hg4; have hloc4 := hloc3.next (grownBy_trans (World.grownBy_alloc w3 (rulesObj w.heap.size) none) hg4) (fun _ h => by cases h); have hrul : w4.heap[w3.heap.size]? = some (rulesObj w.heap.size) := (hg4.block _ (by simp) (by simp)).trans (heap_alloc_new w3 _); have c40 : w4.cell? ⟨w.heap.size, 0, none⟩ = some (.int .i64 N) := hloc4.cell 0 rfl 0; have c41 : w4.cell? ⟨w.heap.size, 1, none⟩ = some (.slice (some ⟨bz, offz, none⟩) xs.length cap) := hloc4.cell 0 rfl 1; have Hrul := Lib.hid hrul; clear hrul))
  have hown5 : OL 49 (w3.heap.size + 1) w4 (.slice (some ⟨w3.heap.size + 1, 0, none⟩) ((N + 1) * (N + 1)) ((N + 1) * (N + 1))) (List.replicate ((N + 1) * (N + 1)) 0) := by
    unfold OL
    rw [List.length_replicate, List.map_replicate]
    have h : w4.ownsRow (w3.heap.size + 1) 49 1 (.slice (some ⟨w3.heap.size + 1, 0, none⟩) ((N + 1) * (N + 1)) ((N + 1) * (N + 1))) ((N + 1) * (N + 1)) (madeCells #[Value.int .i64 0] ((N + 1) * (N + 1) * 1)).toList := by
      have hq := hown4
      rw [World.size_alloc] at hq
      exact hq
    rwa [toList_madeCells_one, Nat.mul_one] at h
  have Hown5 := Lib.hid hown5
  have hs3 : w.heap.size + 4 ≤ w3.heap.size := hloc3.size
  clear hown4 hown5 hg4 c30 c31 c32 c33 r30 r31 f30 f31 hloc3 c40 c41 h2 h3 e1
  go_loopw [52] (fun a wr => ∃ q : Nat, q ≤ xs.length ∧ a = .int .i64 q ∧ ∃ m, MidP N low high xs m q ∧ OL 49 (w3.heap.size + 1) wr (.slice (some ⟨w3.heap.size + 1, 0, none⟩) ((N + 1) * (N + 1)) ((N + 1) * (N + 1))) m ∧ Loc w wr none [.cells #[.int .i64 N, (.slice (some ⟨bz, offz, none⟩) xs.length cap)] 24, .cells #[(.slice aol low.length capl)] 25, .cells #[(.slice aoh high.length caph)] 25, .cells #[.int .i64 0, .slice none 0 0] 24] ∧ wr.heap[w3.heap.size]? = some (rulesObj w.heap.size)) (fun a _ => xs.length - (intOf a).toNat)
  case atStart => exact ⟨0, by omega, rfl, List.replicate ((N + 1) * (N + 1)) 0, ⟨by rw [List.length_replicate, Hx.out], fun _ h => by omega⟩, Hown5.out, hloc4, Hrul.out⟩
  case round =>
    clear hloc4 Hrul
    obtain ⟨t, ht, rfl, m, hm, hown, hloc, hrul⟩ := hrel
    have Hm := Lib.hid hm
    clear hm
    by_cases hlt : t < xs.length
    · have htt : decide ((t : Int) < (xs.length : Int)) = true := by simp; omega
      obtain ⟨i, hi⟩ : ∃ i, i = t / (N + 1) := ⟨_, rfl⟩
      obtain ⟨j, hj⟩ : ∃ j, j = t % (N + 1) := ⟨_, rfl⟩
      have hiN : i ≤ N := by have : t / (N + 1) < N + 1 := Nat.div_lt_of_lt_mul (by rw [← Hx.out]; exact hlt)
                             omega
      have hjN : j ≤ N := by have := Nat.mod_lt t (show N + 1 > 0 by omega); omega
      have d1 : (t : Int).tdiv ((N : Int) + 1) = (i : Int) := by rw [hi, show ((N : Int) + 1) = ((N + 1 : Nat) : Int) by push_cast; rfl, Int.ofNat_tdiv]
      have d2 : (t : Int).tmod ((N : Int) + 1) = (j : Int) := by rw [hj, show ((N : Int) + 1) = ((N + 1 : Nat) : Int) by push_cast; rfl, Int.ofNat_tmod]
      have d3 : IntKind.i64.wrap (i : Int) = (i : Int) := IntWalk.i64_in _ (by omega)
      have d4 : IntKind.i64.wrap (j : Int) = (j : Int) := IntWalk.i64_in _ (by omega)
      have d5 : (((N : Int) + 1) == 0) = false := by simp; omega
      have Hi := Lib.hid hi
      have Hj := Lib.hid hj
      clear hi hj
      have hz1 : wr.cell? ⟨bz, offz + t, none⟩ = some (.int .i64 (gi xs t)) := ((bcell (below_grownBy hloc.grown)).1 _ _ hbz).trans (Hcz.out t hlt)
      have x0 := ol_cell hown (k := t) (by rw [Hm.out.len]; exact hlt)
      have hlt1 : t < (N + 1) * (N + 1) := by rw [← Hx.out]; exact hlt
      have hlt2 : (t : Int) < ((N : Int) + 1) * ((N : Int) + 1) := by rw [← sq_nat]; exact Int.ofNat_lt.2 hlt1
      have Hs1 := Lib.hid (OL.stored hown (by rw [Hm.out.len, Hx.out]) t (gi xs t))
      have Hloc2 := Lib.hid (hloc.anyrow Hs1.out.2 (fun k hk => by cases hk; simp; omega))
      have Hrul2 := Lib.hid ((heap_setCell_other wr ⟨w3.heap.size + 1, t, none⟩ w3.heap.size (.int .i64 (gi xs t)) (by simp)).trans hrul)
      have Hv1 := Lib.hid (show vld (gi xs t) = true from vld_gi (all_of_idx Hx.out (fun a b ha hb => Hok.out.val a b (by rw [Int.toNat_natCast]; exact ha) (by rw [Int.toNat_natCast]; exact hb))) hlt)
      have Hown := Lib.hid hown
      clear hown
      by_cases hij : i = j
      · have hij' : ((i : Int) == (j : Int)) = true := by simp; omega
        have Hd := Lib.hid (show gi xs t = widAt N low high xs t from widAt_diag (by rw [← Hi.out, ← Hj.out]; exact hij))
        have Hij := Lib.hid hij
        clear hij hrul
        go_wp2_with fail
        go_region
        go_wp2_with fail
        go_roundw
        case rel => exact ⟨t + 1, by omega, by go_num, _, Hm.out.one hlt Hd.out, Hs1.out.1.drew, Hloc2.out.next (grownBy_drew _ _) (fun _ h => by cases h), Hrul2.out⟩
        case measure => simp [intOf]; omega
      · have hij' : ((i : Int) == (j : Int)) = false := by simp; omega
        have Hij := Lib.hid hij
        have u0 : wr.cell? ⟨w3.heap.size, 0, none⟩ = some (.func (Fn.func 25) #[] #[.pointer (some ⟨w.heap.size + 1, 0, none⟩)]) := cell_of_row wr _ 0 _ _ _ hrul
        have u1 : wr.cell? ⟨w3.heap.size, 1, none⟩ = some (.func (Fn.func 26) #[] #[.pointer (some ⟨w.heap.size + 1 + 1, 0, none⟩)]) := cell_of_row wr _ 1 _ _ _ hrul
        have u2 : wr.cell? ⟨w3.heap.size, 2, none⟩ = some (.func (Fn.func 27) #[] #[.pointer (some ⟨w.heap.size + 1 + 1, 0, none⟩)]) := cell_of_row wr _ 2 _ _ _ hrul
        have u3 : wr.cell? ⟨w3.heap.size, 3, none⟩ = some (.func (Fn.func 28) #[] #[]) := cell_of_row wr _ 3 _ _ _ hrul
        clear hij
        go_wp2_with fail
        go_region
        go_wp2_with (go_at_call 29; refine (prog_split _ _).mono ?_; rintro e w9 ⟨rfl, rfl⟩)
        clear u0 u1 u2 u3 x0 hz1 hrul
        have ix0 : ∀ W : World, (Instr.index 61 (.agg #[.func (Fn.func 25) #[] #[.pointer (some ⟨w.heap.size + 1, 0, none⟩)], .func (Fn.func 26) #[] #[.pointer (some ⟨w.heap.size + 1 + 1, 0, none⟩)], .func (Fn.func 27) #[] #[.pointer (some ⟨w.heap.size + 1 + 1, 0, none⟩)], .func (Fn.func 28) #[] #[]]) (.int .i64 0)).run Try.prog W = .ok (.func (Fn.func 25) #[] #[.pointer (some ⟨w.heap.size + 1, 0, none⟩)]) W := fun _ => by kernel_rfl
        have ix1 : ∀ W : World, (Instr.index 61 (.agg #[.func (Fn.func 25) #[] #[.pointer (some ⟨w.heap.size + 1, 0, none⟩)], .func (Fn.func 26) #[] #[.pointer (some ⟨w.heap.size + 1 + 1, 0, none⟩)], .func (Fn.func 27) #[] #[.pointer (some ⟨w.heap.size + 1 + 1, 0, none⟩)], .func (Fn.func 28) #[] #[]]) (.int .i64 1)).run Try.prog W = .ok (.func (Fn.func 26) #[] #[.pointer (some ⟨w.heap.size + 1 + 1, 0, none⟩)]) W := fun _ => by kernel_rfl
        have ix2 : ∀ W : World, (Instr.index 61 (.agg #[.func (Fn.func 25) #[] #[.pointer (some ⟨w.heap.size + 1, 0, none⟩)], .func (Fn.func 26) #[] #[.pointer (some ⟨w.heap.size + 1 + 1, 0, none⟩)], .func (Fn.func 27) #[] #[.pointer (some ⟨w.heap.size + 1 + 1, 0, none⟩)], .func (Fn.func 28) #[] #[]]) (.int .i64 2)).run Try.prog W = .ok (.func (Fn.func 27) #[] #[.pointer (some ⟨w.heap.size + 1 + 1, 0, none⟩)]) W := fun _ => by kernel_rfl
        have ix3 : ∀ W : World, (Instr.index 61 (.agg #[.func (Fn.func 25) #[] #[.pointer (some ⟨w.heap.size + 1, 0, none⟩)], .func (Fn.func 26) #[] #[.pointer (some ⟨w.heap.size + 1 + 1, 0, none⟩)], .func (Fn.func 27) #[] #[.pointer (some ⟨w.heap.size + 1 + 1, 0, none⟩)], .func (Fn.func 28) #[] #[]]) (.int .i64 3)).run Try.prog W = .ok (.func (Fn.func 28) #[] #[]) W := fun _ => by kernel_rfl
        have Hln := Lib.hid (show low.length = N by have := cst_len Hc2.out; omega)
        have Hhn := Lib.hid (show high.length = N by have := cst_len Hc3.out; omega)
        have Hhb := Lib.hid (show ∀ k, k < N → -1 ≤ gi high k ∧ gi high k ≤ 1048576 from fun k hk => cst_gi Hc3.out (by have := cst_len Hc3.out; omega))
        go_loopw [77] (fun a wr => ∃ q : Nat, q ≤ 3 ∧ a = .int .i64 q ∧ NA low high i j (gi xs t) q ∧ OL 49 (w3.heap.size + 1) wr (.slice (some ⟨w3.heap.size + 1, 0, none⟩) ((N + 1) * (N + 1)) ((N + 1) * (N + 1))) (m.set t (gi xs t)) ∧ Loc w wr none [.cells #[.int .i64 N, (.slice (some ⟨bz, offz, none⟩) xs.length cap)] 24, .cells #[(.slice aol low.length capl)] 25, .cells #[(.slice aoh high.length caph)] 25, .cells #[.int .i64 0, .slice none 0 0] 24] ∧ wr.heap[w3.heap.size]? = some (rulesObj w.heap.size)) (fun a _ => 4 - (intOf a).toNat)
        case atStart => exact ⟨0, by omega, rfl, ⟨fun h => by omega, fun h => by omega, fun h => by omega⟩, Hs1.out.1.drew, Hloc2.out.next (grownBy_drew _ _) (fun _ h => by cases h), Hrul2.out⟩
        case round =>
          clear hloc
          obtain ⟨q, hq, rfl, hna, hown2, hloc3, hrul3⟩ := hrel
          have hsz3 : w3.heap.size < wr.heap.size := (Array.getElem?_eq_some_iff.1 hrul3).1
          have cl : wr.cell? ⟨w.heap.size + 1, 0, none⟩ = some (.slice aol low.length capl) := hloc3.cell 1 rfl 0
          have ch : wr.cell? ⟨w.heap.size + 1 + 1, 0, none⟩ = some (.slice aoh high.length caph) := hloc3.cell 2 rfl 0
          have Hrl := Lib.hid (Hl.out.keepb (below_grownBy hloc3.grown))
          have Hrh := Lib.hid (Hh.out.keepb (below_grownBy hloc3.grown))
          have Hown2 := Lib.hid hown2
          clear hown2
          obtain rfl | rfl | rfl | rfl : q = 0 ∨ q = 1 ∨ q = 2 ∨ q = 3 := by omega
          · by_cases hA : rule1 low i (gi xs t) (spC (gi xs t)) = true
            · have Hval := Lib.hid (show 1099511627776 = widAt N low high xs t by rw [widAt_off Hi.out Hj.out Hij.out]; exact (wid_r1 Hv1.out (fun h => (cst_gi Hc2.out (by have := cst_len Hc2.out; omega)).1) hA).symm)
              clear hna
              go_wp2_with (go_at_call 25; refine (prog_rule1 i N (w.heap.size + 1) _ _ _ _ low _ Hrl.out Hln.out hiN cl).mono ?_; rw [hA]; rintro e w9 ⟨rfl, hb9⟩; have x9 := ol_cell (OL.keepb Hown2.out hb9) (k := t) (by rw [len_set, Hm.out.len]; exact hlt))
              have hst := OL.stored (OL.keepb Hown2.out hb9) (by rw [len_set, Hm.out.len, Hx.out]) t 1099511627776
              go_roundw
              case rel => exact ⟨t + 1, by omega, by go_num, _, Hm.out.step hlt Hval.out, hst.1, (hloc3.next (grownBy_below hb9 none) (fun _ h => by cases h)).anyrow hst.2 (fun k hk => by cases hk; simp; omega), (heap_setCell_other w9 ⟨w3.heap.size + 1, t, none⟩ w3.heap.size (.int .i64 1099511627776) (by simp)).trans ((hb9.block _ (by omega)).trans hrul3)⟩
              case measure => simp [intOf]; omega
            · have hA' : rule1 low i (gi xs t) (spC (gi xs t)) = false := by simpa using hA
              clear hA
              have Hna := Lib.hid (show NA low high i j (gi xs t) 1 from ⟨fun _ => hA', fun h => by omega, fun h => by omega⟩)
              clear hna
              go_wp2_with (go_at_call 25; refine (prog_rule1 i N (w.heap.size + 1) _ _ _ _ low _ Hrl.out Hln.out hiN cl).mono ?_; rw [hA']; rintro e w9 ⟨rfl, hb9⟩; have x9 := ol_cell (OL.keepb Hown2.out hb9) (k := t) (by rw [len_set, Hm.out.len]; exact hlt))
              go_roundw
              case rel => exact ⟨1, by omega, by go_num, Hna.out, OL.keepb Hown2.out hb9, hloc3.next (grownBy_below hb9 none) (fun _ h => by cases h), (hb9.block _ (by omega)).trans hrul3⟩
              case measure => simp [intOf]
          · by_cases hA : rule2 high j = true
            · have Hval := Lib.hid (show (if i = 0 then 1 else 1099511627776) = widAt N low high xs t by rw [widAt_off Hi.out Hj.out Hij.out]; exact (wid_r2 (fun h => (cst_gi Hc3.out (by have := cst_len Hc3.out; omega)).1) (not1 Hv1.out (hna.r1 (by omega))) hA).symm)
              clear hna
              go_wp2_with (go_at_call 26; refine (prog_rule2 i j N (w.heap.size + 1 + 1) _ _ _ high _ Hrh.out Hhn.out hjN ch).mono ?_; unfold r2val; rw [hA]; rintro e w9 ⟨rfl, hb9⟩; have x9 := ol_cell (OL.keepb Hown2.out hb9) (k := t) (by rw [len_set, Hm.out.len]; exact hlt))
              have hst := OL.stored (OL.keepb Hown2.out hb9) (by rw [len_set, Hm.out.len, Hx.out]) t (if i = 0 then 1 else 1099511627776)
              go_roundw
              case rel => exact ⟨t + 1, by omega, by go_num, _, Hm.out.step hlt Hval.out, hst.1, (hloc3.next (grownBy_below hb9 none) (fun _ h => by cases h)).anyrow hst.2 (fun k hk => by cases hk; simp; omega), (heap_setCell_other w9 ⟨w3.heap.size + 1, t, none⟩ w3.heap.size (.int .i64 (if i = 0 then 1 else 1099511627776)) (by simp)).trans ((hb9.block _ (by omega)).trans hrul3)⟩
              case measure => simp [intOf]; omega
            · have hA' : rule2 high j = false := by simpa using hA
              clear hA
              have Hna := Lib.hid (show NA low high i j (gi xs t) 2 from ⟨fun _ => hna.r1 (by omega), fun _ => hA', fun h => by omega⟩)
              clear hna
              go_wp2_with (go_at_call 26; refine (prog_rule2 i j N (w.heap.size + 1 + 1) _ _ _ high _ Hrh.out Hhn.out hjN ch).mono ?_; unfold r2val; rw [hA']; rintro e w9 ⟨rfl, hb9⟩; have x9 := ol_cell (OL.keepb Hown2.out hb9) (k := t) (by rw [len_set, Hm.out.len]; exact hlt))
              go_roundw
              case rel => exact ⟨2, by omega, by go_num, Hna.out, OL.keepb Hown2.out hb9, hloc3.next (grownBy_below hb9 none) (fun _ h => by cases h), (hb9.block _ (by omega)).trans hrul3⟩
              case measure => simp [intOf]
          · by_cases hA : rule3 high j (spC (gi xs t)) = true
            · have Hval := Lib.hid (show -2 * gi high (j - 1) = widAt N low high xs t by rw [widAt_off Hi.out Hj.out Hij.out]; exact (wid_r3 (not1 Hv1.out (hna.r1 (by omega))) (hna.r2 (by omega)) hA).symm)
              clear hna
              go_wp2_with (go_at_call 27; refine (prog_rule3 j N (w.heap.size + 1 + 1) _ _ _ _ high _ Hrh.out Hhn.out hjN ch Hhb.out).mono ?_; unfold r3val; rw [hA]; rintro e w9 ⟨rfl, hb9⟩; have x9 := ol_cell (OL.keepb Hown2.out hb9) (k := t) (by rw [len_set, Hm.out.len]; exact hlt))
              have hst := OL.stored (OL.keepb Hown2.out hb9) (by rw [len_set, Hm.out.len, Hx.out]) t (-2 * gi high (j - 1))
              go_roundw
              case rel => exact ⟨t + 1, by omega, by go_num, _, Hm.out.step hlt Hval.out, hst.1, (hloc3.next (grownBy_below hb9 none) (fun _ h => by cases h)).anyrow hst.2 (fun k hk => by cases hk; simp; omega), (heap_setCell_other w9 ⟨w3.heap.size + 1, t, none⟩ w3.heap.size (.int .i64 (-2 * gi high (j - 1))) (by simp)).trans ((hb9.block _ (by omega)).trans hrul3)⟩
              case measure => simp [intOf]; omega
            · have hA' : rule3 high j (spC (gi xs t)) = false := by simpa using hA
              clear hA
              have Hna := Lib.hid (show NA low high i j (gi xs t) 3 from ⟨fun _ => hna.r1 (by omega), fun _ => hna.r2 (by omega), fun _ => hA'⟩)
              clear hna
              go_wp2_with (go_at_call 27; refine (prog_rule3 j N (w.heap.size + 1 + 1) _ _ _ _ high _ Hrh.out Hhn.out hjN ch Hhb.out).mono ?_; unfold r3val; rw [hA']; rintro e w9 ⟨rfl, hb9⟩; have x9 := ol_cell (OL.keepb Hown2.out hb9) (k := t) (by rw [len_set, Hm.out.len]; exact hlt))
              go_roundw
              case rel => exact ⟨3, by omega, by go_num, Hna.out, OL.keepb Hown2.out hb9, hloc3.next (grownBy_below hb9 none) (fun _ h => by cases h), (hb9.block _ (by omega)).trans hrul3⟩
              case measure => simp [intOf]
          · have Hval := Lib.hid (show gi xs t = widAt N low high xs t by rw [widAt_off Hi.out Hj.out Hij.out]; exact (wid_r4 (not1 Hv1.out (hna.r1 (by omega))) (hna.r2 (by omega)) (hna.r3 (by omega))).symm)
            clear hna
            go_wp2_with (go_at_call 28; refine (prog_rule4 _ _ _ _ _).mono ?_; rintro e w9 ⟨rfl, hb9⟩; have x9 := ol_cell (OL.keepb Hown2.out hb9) (k := t) (by rw [len_set, Hm.out.len]; exact hlt))
            · have hst := OL.stored (OL.keepb Hown2.out hb9) (by rw [len_set, Hm.out.len, Hx.out]) t (gi xs t)
              go_roundw
              case rel => exact ⟨t + 1, by omega, by go_num, _, Hm.out.step hlt Hval.out, hst.1, (hloc3.next (grownBy_below hb9 none) (fun _ h => by cases h)).anyrow hst.2 (fun k hk => by cases hk; simp; omega), (heap_setCell_other w9 ⟨w3.heap.size + 1, t, none⟩ w3.heap.size (.int .i64 (gi xs t)) (by simp)).trans ((hb9.block _ (by omega)).trans hrul3)⟩
              case measure => simp [intOf]; omega
    · have htt : decide ((t : Int) < (xs.length : Int)) = false := by simp; omega
      have hfin : m = widM N low high xs := Hm.out.finish (by omega)
      have c0 : wr.cell? ⟨w.heap.size, 0, none⟩ = some (.int .i64 N) := hloc.cell 0 rfl 0
      have Hown := Lib.hid (OL.rl hown)
      have Hres2 := Lib.hid (show widB N xs low high = closeF N m by rw [Hres.out, Int.toNat_natCast, ← hfin])
      have hsz5 : w.heap.size + 4 ≤ wr.heap.size := hloc.size
      clear hown hrul hfin
      go_wp2_with fail
      refine (prog_close N _ m wr Hown.out).mono ?_
      rintro e w5 ⟨⟨v5, rfl, hown5⟩, hb5⟩
      obtain ⟨ao5, cap5, rfl⟩ := owns_form hown5
      have hloc5 := hloc.next (grownBy_below hb5 none) (fun _ h => by cases h)
      have r0 : w5.cell? ⟨w.heap.size + 1 + 1 + 1, 0, none⟩ = some (.int .i64 0) := hloc5.cell 3 rfl 0
      have r1 : w5.cell? ⟨w.heap.size + 1 + 1 + 1, 1, none⟩ = some (.slice none 0 0) := hloc5.cell 3 rfl 1
      have f0 : w5.frozen? ⟨w.heap.size + 1 + 1 + 1, 0, none⟩ = false := hloc5.free 3 rfl 0
      have f1 : w5.frozen? ⟨w.heap.size + 1 + 1 + 1, 1, none⟩ = false := hloc5.free 3 rfl 1
      have Hown6 := Lib.hid hown5
      clear hown5 hb5 c0
      go_wp2_with fail
      refine bodyPost_ret (v := .tuple #[.agg #[.int .i64 (zdim (closeF N m) N), .slice ao5 (closeF N m).2.length cap5], .int .i64 (closeF N m).1]) (by simp [results, Try.results9, go_sem, r0, r1]) rfl ⟨⟨_, by rw [Hres2.out], ?_⟩, ?_⟩
      · rw [Hres2.out]
        exact OL.mono (base := w.heap.size + 4) (own_set2 (owns_mono Hown6.out hsz5) (by omega) _ _) (by omega)
      · exact ((below_grownBy hloc5.grown).setCell (by simp; omega) _).setCell (by simp; omega) _
theorem prog_bounds (n : Int) (v lv hgv : Value) (xs low high : List Int) (w : World) (hv : RL w.heap.size w v xs) (hl : RL w.heap.size w lv low) (hh : RL w.heap.size w hgv high) :
    Calls Try.prog 9 #[.agg #[.int .i64 n, v], lv, hgv] w fun e w' => ZPost 49 w.heap.size n (widB n xs low high) e w' ∧ Below w.heap.size w w' := by
  by_cases h : OkZ n xs ∧ cstF n low = true ∧ cstF n high = true
  · obtain ⟨N, rfl⟩ := Int.eq_ofNat_of_zero_le h.1.lo
    exact prog_bounds_yes N v lv hgv xs low high w hv hl hh h
  · exact prog_bounds_no n v lv hgv xs low high w hv hl hh h
end Go.Proofs.Ytmjpcakikflcfaa
