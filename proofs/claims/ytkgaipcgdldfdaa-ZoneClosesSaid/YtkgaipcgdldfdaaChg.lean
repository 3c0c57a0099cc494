/- The program's changed: a zone whose matrix a function value has changed. -/
import Derived.Test.YtkgaipcgdldfdaaPfil
import Derived.Shelf.Abstract
namespace Go.Proofs.Ytkgaipcgdldfdaa
open Go.RowKit
set_option linter.unusedVariables false

theorem Mat.alloc {base N : Nat} {w : World} {rv av : Value} {xs : List Int} (h : Mat base w N rv av xs) (o : Obj) : Mat base (w.alloc o) N rv av xs := by
  obtain ⟨ga, h1, h2, h3, h4⟩ := h
  exact ⟨ga, h1, World.ownsRow.alloc h2 o, World.ownsRow.alloc h3 o, h4⟩
open Classical in
/-- What changed returns. -/
noncomputable def chgF (n : Int) (xs : List Int) (fits : Bool) (ys : List Int) : Int × List Int := if OkZ n xs ∧ fits = true then closedF n.toNat ys else (2, [])
theorem chgF_no {n : Int} {xs ys : List Int} {fits : Bool} (h : ¬ (OkZ n xs ∧ fits = true)) : chgF n xs fits ys = (2, []) := by unfold chgF; rw [if_neg h]
theorem chgF_yes {N : Nat} {xs ys : List Int} {fits : Bool} (h : OkZ N xs) (h' : fits = true) : chgF N xs fits ys = closedF N ys := by unfold chgF; rw [if_pos ⟨h, h'⟩, Int.toNat_natCast]

set_option maxHeartbeats 1000000 in
theorem prog_changed_bad (n : Int) (zv fv : Value) (xs ys : List Int) (fits : Bool) (w : World) (hz : RL w.heap.size w zv xs) (hno : ¬ (OkZ n xs ∧ fits = true)) :
    Calls Try.prog 100 #[.agg #[.int .i64 n, zv], .bool fits, fv] w fun e w' => ZPost 60 w.heap.size n (chgF n xs fits ys) e w' ∧ Below w.heap.size w w' := by
  have hres := Lib.hid (chgF_no (ys := ys) hno)
  obtain ⟨aoz, capz, rfl, hlez, _⟩ := hz.open
  have hloc0 := Loc.two w (.cells #[.int .i64 n, .slice aoz xs.length capz] 24) (.cells #[.int .i64 0, .slice none 0 0] 24) none
  have Hz := Lib.hid (hz.keepb (below_grownBy hloc0.grown))
  clear hz
  by_cases hok : OkZ n xs
  · have hf : fits = false := by cases fits with
      | false => rfl
      | true => exact absurd ⟨hok, rfl⟩ hno
    subst hf
    have he := okErr_yes hok
    clear hno hok
    go_enter Try.func100, Try.ntmps100
    go_wp2_with fail
    refine (prog_check n _ xs _ Hz.out).mono ?_
    rw [he]
    rintro e w1 ⟨rfl, hb1⟩
    have hloca := hloc0.next (grownBy_below hb1 none) (fun _ h => by cases h)
    have r0 : w1.cell? ⟨w.heap.size + 1, 0, none⟩ = some (.int .i64 0) := hloca.cell 1 rfl 0
    have r1 : w1.cell? ⟨w.heap.size + 1, 1, none⟩ = some (.slice none 0 0) := hloca.cell 1 rfl 1
    have r2 : w1.frozen? ⟨w.heap.size + 1, 0, none⟩ = false := hloca.free 1 rfl 0
    have r3 : w1.frozen? ⟨w.heap.size + 1, 1, none⟩ = false := hloca.free 1 rfl 1
    clear hb1 hloc0
    go_wp2_with fail
    refine bodyPost_ret (v := .tuple #[.agg #[.int .i64 0, .slice none 0 0], .int .i64 2]) (by simp [results, Try.results100, go_sem, r0, r1]) rfl ⟨ZPost.err hres.out (by omega) _, ?_⟩
    exact ((below_grownBy hloca.grown).setCell (by simp) _).setCell (by simp) _
  · have he := okErr_no hok
    clear hno hok
    go_enter Try.func100, Try.ntmps100
    go_wp2_with fail
    refine (prog_check n _ xs _ Hz.out).mono ?_
    rw [he]
    rintro e w1 ⟨rfl, hb1⟩
    have hloca := hloc0.next (grownBy_below hb1 none) (fun _ h => by cases h)
    have r0 : w1.cell? ⟨w.heap.size + 1, 0, none⟩ = some (.int .i64 0) := hloca.cell 1 rfl 0
    have r1 : w1.cell? ⟨w.heap.size + 1, 1, none⟩ = some (.slice none 0 0) := hloca.cell 1 rfl 1
    have r2 : w1.frozen? ⟨w.heap.size + 1, 0, none⟩ = false := hloca.free 1 rfl 0
    have r3 : w1.frozen? ⟨w.heap.size + 1, 1, none⟩ = false := hloca.free 1 rfl 1
    clear hb1 hloc0
    go_wp2_with fail
    refine bodyPost_ret (v := .tuple #[.agg #[.int .i64 0, .slice none 0 0], .int .i64 2]) (by simp [results, Try.results100, go_sem, r0, r1]) rfl ⟨ZPost.err hres.out (by omega) _, ?_⟩
    exact ((below_grownBy hloca.grown).setCell (by simp) _).setCell (by simp) _

set_option maxRecDepth 100000 in
set_option maxHeartbeats 2000000 in
theorem prog_changed_ok (N : Nat) (zv : Value) (xs ys : List Int) (f : FuncId) (cap : Array Value) (w : World) (hz : RL w.heap.size w zv xs) (hok : OkZ N xs) (hent : Enters Try.prog f)
    (hF : ∀ base rv av w', Below w.heap.size w w' → w.heap.size + 2 ≤ base → base ≤ w'.heap.size → Mat base w' N rv av xs → Calls Try.prog f (#[rv] ++ cap) w' fun e w'' => e = .returned (.tuple #[]) ∧ Mat base w'' N rv av ys ∧ w'.grownBy w'' av.ownBlock)
    (hl : ys.length = xs.length) (hv : ys.all vld = true) :
    Calls Try.prog 100 #[.agg #[.int .i64 N, zv], .bool true, .func (.func f) #[] cap] w fun e w' => ZPost 60 w.heap.size N (chgF N xs true ys) e w' ∧ Below w.heap.size w w' := by
  have hN : N ≤ 10 := by have := hok.hi; omega
  have hlen : xs.length = (N + 1) * (N + 1) := by have := hok.len; rwa [Int.toNat_natCast] at this
  have hres := Lib.hid (show progZ N ys = chgF N xs true ys from (progZ_eq (hl.trans hlen) hv).trans (chgF_yes hok rfl).symm)
  have he := okErr_yes hok
  obtain ⟨aoz, capz, rfl, hlez, _⟩ := hz.open
  have hloc0 := Loc.two w (.cells #[.int .i64 N, .slice aoz xs.length capz] 24) (.cells #[.int .i64 0, .slice none 0 0] 24) none
  have Hz := Lib.hid hz
  have Hz0 := Lib.hid (hz.keepb (below_grownBy hloc0.grown))
  have Hx := Lib.hid hlen
  have Hy := Lib.hid (hl.trans hlen)
  have HF := Lib.hid hF
  have hent' : ∀ (args : Array Value) (w : World), (callFunc f args).run Try.prog w = .ok (.enter f args) w := hent
  clear hent
  clear hz hok hF hl hv hlen
  go_enter Try.func100, Try.ntmps100
  go_wp2_with fail
  refine (prog_check N _ xs _ Hz0.out).mono ?_
  rw [he]
  rintro e w1 ⟨rfl, hb1⟩
  have hloc1 := hloc0.next (grownBy_below hb1 none) (fun _ h => by cases h)
  have c0 : w1.cell? ⟨w.heap.size, 0, none⟩ = some (.int .i64 N) := hloc1.cell 0 rfl 0
  have c1 : w1.cell? ⟨w.heap.size, 1, none⟩ = some (.slice aoz xs.length capz) := hloc1.cell 0 rfl 1
  have Hz1 := Lib.hid (Hz.out.keepb (below_grownBy hloc1.grown))
  clear hb1 hloc0 he
  go_wp2_with fail
  refine (prog_of N _ xs _ Hz1.out hN Hx.out).mono ?_
  rintro e w2 ⟨rv, av, rfl, hm, hb2⟩
  have hloc2 := hloc1.next (grownBy_below hb2 none) (fun _ h => by cases h)
  have Hs1 := Lib.hid (show w.heap.size + 2 ≤ w1.heap.size from hloc1.size)
  have Hb2 := Lib.hid hb2.size
  obtain ⟨ga, gr, capr, capa, rfl, rfl, _, hgr, hga, hbg, _, _⟩ := hm.open Hx.out
  have Hm := Lib.hid hm
  clear hm hb2 hloc1 c0 c1
  go_wp2_with fail
  refine (HF.out w1.heap.size _ _ _ ?hb Hs1.out ?hs (Mat.alloc Hm.out _)).mono ?_
  case hb => exact (below_grownBy hloc2.grown).alloc (by have := hloc2.size; omega) _
  case hs => have := Hb2.out; simp; omega
  rintro e w3 ⟨rfl, hm3, hg3⟩
  have hg3' : (w2.alloc (.cells #[.int .i64 N, .slice (some ⟨gr, 0, none⟩) (N + 1) capr, .slice (some ⟨ga, 0, none⟩) xs.length capa] 83)).grownBy w3 (some ga) := hg3
  have hbox : w3.heap[w2.heap.size]? = some (.cells #[.int .i64 N, .slice (some ⟨gr, 0, none⟩) (N + 1) capr, .slice (some ⟨ga, 0, none⟩) xs.length capa] 83 (0, 0)) := (hg3'.block _ (by simp) (by simp; omega)).trans (heap_alloc_new w2 _)
  have b0 : w3.cell? ⟨w2.heap.size, 0, none⟩ = some (.int .i64 N) := cell_of_row w3 _ 0 _ _ _ hbox
  have b1 : w3.cell? ⟨w2.heap.size, 1, none⟩ = some (.slice (some ⟨gr, 0, none⟩) (N + 1) capr) := cell_of_row w3 _ 1 _ _ _ hbox
  have b2 : w3.cell? ⟨w2.heap.size, 2, none⟩ = some (.slice (some ⟨ga, 0, none⟩) xs.length capa) := cell_of_row w3 _ 2 _ _ _ hbox
  have hloc3 := (hloc2.next (World.grownBy_alloc w2 _ none) (fun _ h => by cases h)).anyrow hg3' (fun g h => by cases h; have := Hs1.out; show w.heap.size + 2 ≤ ga; omega)
  have Hm3 := Lib.hid hm3
  have Hs3 := Lib.hid (show w1.heap.size ≤ w3.heap.size by have := hg3'.size; have := Hb2.out; simp at *; omega)
  clear hg3 hg3' hbox hm3 hloc2
  go_wp2_with fail
  refine (prog_zone N _ _ ys _ w3 Hm3.out Hs3.out hN Hy.out).mono ?_
  rw [hres.out]
  generalize hR : chgF N xs true ys = R
  have HR := Lib.hid hR
  clear hR
  rintro e w5 ⟨⟨v5, rfl, ho5⟩, hb5⟩
  obtain ⟨ao5, cap5, rfl⟩ := owns_form ho5
  have hloc5 := hloc3.belowB hb5 Hs1.out
  have r0 : w5.cell? ⟨w.heap.size + 1, 0, none⟩ = some (.int .i64 0) := hloc5.cell 1 rfl 0
  have r1 : w5.cell? ⟨w.heap.size + 1, 1, none⟩ = some (.slice none 0 0) := hloc5.cell 1 rfl 1
  have r2 : w5.frozen? ⟨w.heap.size + 1, 0, none⟩ = false := hloc5.free 1 rfl 0
  have r3 : w5.frozen? ⟨w.heap.size + 1, 1, none⟩ = false := hloc5.free 1 rfl 1
  have Ho5 := Lib.hid (show OL 60 (w.heap.size + 2) w5 (.slice ao5 R.2.length cap5) R.2 from OL.mono ho5 Hs1.out)
  have HB5 := Lib.hid (below_grownBy hloc5.grown)
  clear ho5 hb5 hloc3 hloc5 b0 b1 b2
  go_wp2_with fail
  refine bodyPost_ret (v := .tuple #[.agg #[.int .i64 (zdim R N), .slice ao5 R.2.length cap5], .int .i64 R.1]) (by simp [results, Try.results100, go_sem, r0, r1]) rfl ⟨⟨_, by rw [HR.out], ?_⟩, ?_⟩
  · rw [HR.out]; exact OL.mono (base := w.heap.size + 2) (own_set2 Ho5.out (by omega) _ _) (by omega)
  · exact (HB5.out.setCell (by simp) _).setCell (by simp) _
end Go.Proofs.Ytkgaipcgdldfdaa
