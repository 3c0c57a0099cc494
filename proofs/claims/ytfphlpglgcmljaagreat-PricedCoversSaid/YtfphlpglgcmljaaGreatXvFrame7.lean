/- Part of the proof of priced_covers_proved: Frame7. -/
import Derived.ProofKit
import Derived.OpenShut
import Derived.ChangeOld
import Derived.Deep.Slices
import Derived.Deep.Fields
import Derived.Lib.SmallJoins
import Derived.Test.YtfphlpglgcmljaaGreatXvQ
import Derived.Test.YtfphlpglgcmljaaGreatXvFrame
import Derived.Test.YtfphlpglgcmljaaGreatXvHol
namespace Go.Proofs.YtfphlpglgcmljaaGreat
open Go.ChangeShapes Go.WideShapes Go.ChangeAt Go.RowKit Go.Deep
set_option linter.unusedVariables false
end Go.Proofs.YtfphlpglgcmljaaGreat
namespace Go.Proofs.YtfphlpglgcmljaaGreat
open Go.Deep Go.ChangeShapes Go.WideShapes Go.ChangeAt Go.RowKit
end Go.Proofs.YtfphlpglgcmljaaGreat
namespace Go.Proofs.YtfphlpglgcmljaaGreat
open Go.ChangeShapes Go.WideShapes Go.ChangeAt Go.RowKit Go.Deep
set_option linter.unusedVariables false
set_option maxRecDepth 100000 in
theorem open_priced {H : Type} {enc : TypeId × Value → H} {w : World} {base : Nat} {spare : Nat → Bool} {held : Bool} {r : Reach} {b0 : Nat} {v : Value} {d : DataW H} {p : List MemPlace}
  (hv : Value.okWide Tryz.prog w r b0 35 v) (h : DataW.Trod enc Tryz.prog w base spare held 35 v d p) :
  ∃ (n c : Int) (vM vR : Value) (m1 m2 : Nat) (y1 y2 : DataW H × List MemPlace), v = .agg #[.int .i64 n, vM, .int .i64 c, vR] ∧
   DataW.trod enc Tryz.prog w base spare held m1 30 [vM] = some y1 ∧ DataW.trod enc Tryz.prog w base spare held m2 33 [vR] = some y2 := by
 obtain ⟨cs, rfl, hsz⟩ := okWide_struct Tryz.underlying35 hv
 have hC : Tryz.prog.cellsOf 35 = 4 := by kernel_rfl
 have k1 : Tryz.prog.cellsOf 32 = 2 := by kernel_rfl
 have k2 : Tryz.prog.cellsOf 3 = 1 := by kernel_rfl
 have k3 : Tryz.prog.cellsOf 2 = 1 := by kernel_rfl
 have k4 : Tryz.prog.cellsOf 33 = 1 := by kernel_rfl
 have k5 : Tryz.prog.cellsOf 30 = 1 := by kernel_rfl
 obtain ⟨l⟩ := cs
 match l, hsz.trans hC with
 | [c0, c1, c2, c3], _ =>
  obtain ⟨fuel, hf⟩ := h
  obtain ⟨xs, n, _, hx, _, hlen, hg⟩ := DataW.trod_struct Tryz.underlying35 hf
  match xs, hlen with
  | [y0, y1, y2], _ =>
   have g0 := hg 0 _ rfl
   have g1 := hg 1 _ rfl
   have g2 := hg 2 _ rfl
   simp [Value.cells, k1, k3, k4] at g0 g1 g2
   obtain ⟨zs, m, _, hz, _, hzl, hh⟩ := DataW.trod_struct Tryz.underlying32 g0
   match zs, hzl with
   | [u0, u1], _ =>
    have e0 := hh 0 _ rfl
    have e1 := hh 1 _ rfl
    simp [k2, k5] at e0 e1
    obtain ⟨nz, hnz, _, _⟩ := DataW.trod_int Tryz.underlying3 e0
    obtain ⟨nc, hnc, _, _⟩ := DataW.trod_int Tryz.underlying2 g1
    obtain rfl : c0 = .int .i64 nz := by simpa using hnz
    obtain rfl : c2 = .int .i64 nc := by simpa using hnc
    exact ⟨nz, nc, c1, c3, _, _, u1, y2, rfl, e1, g2⟩
end Go.Proofs.YtfphlpglgcmljaaGreat
