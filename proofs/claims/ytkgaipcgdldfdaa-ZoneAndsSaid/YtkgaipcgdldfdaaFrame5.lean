/- A case (a zone, two clocks, a constant, constraints) that came in, opened. -/
import Derived.Test.YtkgaipcgdldfdaaFrame2
import Derived.Lib.SmallJoins
namespace Go.Proofs.Ytkgaipcgdldfdaa
open Go.ChangeShapes Go.WideShapes Go.ChangeAt Go.RowKit Go.Deep
set_option linter.unusedVariables false

set_option maxRecDepth 100000 in
theorem open_case {H : Type} {enc : TypeId × Value → H} {w : World} {base : Nat} {spare : Nat → Bool} {held : Bool} {r : Reach} {b0 : Nat} {v : Value} {d : DataW H} {p : List MemPlace}
    (hv : Value.okWide Try.prog w r b0 58 v) (h : DataW.Trod enc Try.prog w base spare held 58 v d p) :
    ∃ (n i j c : Int) (vM vL : Value) (m1 m2 : Nat) (y1 y2 : DataW H × List MemPlace), v = .agg #[.int .i64 n, vM, .int .i64 i, .int .i64 j, .int .i64 c, vL] ∧
      DataW.trod enc Try.prog w base spare held m1 22 [vM] = some y1 ∧ DataW.trod enc Try.prog w base spare held m2 26 [vL] = some y2 := by
  obtain ⟨cs, rfl, hsz⟩ := okWide_struct Try.underlying58 hv
  have hC : Try.prog.cellsOf 58 = 6 := by kernel_rfl
  have k1 : Try.prog.cellsOf 24 = 2 := by kernel_rfl
  have k2 : Try.prog.cellsOf 3 = 1 := by kernel_rfl
  have k3 : Try.prog.cellsOf 2 = 1 := by kernel_rfl
  have k4 : Try.prog.cellsOf 26 = 1 := by kernel_rfl
  have k5 : Try.prog.cellsOf 22 = 1 := by kernel_rfl
  obtain ⟨l⟩ := cs
  match l, hsz.trans hC with
  | [c0, c1, c2, c3, c4, c5], _ =>
    obtain ⟨fuel, hf⟩ := h
    obtain ⟨xs, n, _, hx, _, hlen, hg⟩ := DataW.trod_struct Try.underlying58 hf
    match xs, hlen with
    | [y0, y1, y2, y3, y4], _ =>
      have g0 := hg 0 _ rfl
      have g1 := hg 1 _ rfl
      have g2 := hg 2 _ rfl
      have g3 := hg 3 _ rfl
      have g4 := hg 4 _ rfl
      simp [Value.cells, k1, k2, k3, k4] at g0 g1 g2 g3 g4
      obtain ⟨zs, m, _, hz, _, hzl, hh⟩ := DataW.trod_struct Try.underlying24 g0
      match zs, hzl with
      | [u0, u1], _ =>
        have e0 := hh 0 _ rfl
        have e1 := hh 1 _ rfl
        simp [k2, k5] at e0 e1
        obtain ⟨nz, hnz, _, _⟩ := DataW.trod_int Try.underlying3 e0
        obtain ⟨ni, hni, _, _⟩ := DataW.trod_int Try.underlying3 g1
        obtain ⟨nj, hnj, _, _⟩ := DataW.trod_int Try.underlying3 g2
        obtain ⟨nc, hnc, _, _⟩ := DataW.trod_int Try.underlying2 g3
        obtain rfl : c0 = .int .i64 nz := by simpa using hnz
        obtain rfl : c2 = .int .i64 ni := by simpa using hni
        obtain rfl : c3 = .int .i64 nj := by simpa using hnj
        obtain rfl : c4 = .int .i64 nc := by simpa using hnc
        exact ⟨nz, ni, nj, nc, c1, c5, _, _, u1, y4, rfl, e1, g4⟩
end Go.Proofs.Ytkgaipcgdldfdaa
