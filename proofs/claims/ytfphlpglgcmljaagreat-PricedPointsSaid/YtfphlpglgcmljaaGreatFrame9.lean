/- From a row's reading to what the walks are told: a list of ratios. -/
import Derived.Test.YtfphlpglgcmljaaGreatFrame8
import Derived.Test.YtfphlpglgcmljaaGreatPrat
namespace Go.Proofs.YtfphlpglgcmljaaGreat
open Go.ChangeShapes Go.WideShapes Go.ChangeAt Go.RowKit Go.Deep
set_option linter.unusedVariables false

theorem i64_wf {n : Int} (h : (Lit.int .i64 n).wf = true) : I64 n := by
  have h2 := Bool.and_eq_true_iff.1 h
  exact ⟨of_decide_eq_true h2.1, of_decide_eq_true h2.2⟩
set_option maxRecDepth 100000 in
theorem rat_dec {H : Type} {enc : TypeId × Value → H} {w : World} {n : Nat} {cs : List Value} {y : DataW H × List MemPlace} (hl : cs.length = cdRes.sz) (h : DataW.trod enc Tryz.prog w 0 (fun _ => true) true n 56 cs = some y) : ∃ x : Int × Int, I64 x.1 ∧ cdRes.cells x = cs := by
  have k3 : Tryz.prog.cellsOf 2 = 1 := by kernel_rfl
  match cs, hl with
  | [c0, c1], _ =>
    obtain ⟨xs, n, _, hx, _, hlen, hg⟩ := DataW.trod_struct Tryz.underlying56 h
    match xs, hlen with
    | [y0, y1], _ =>
      have g0 := hg 0 _ rfl
      have g1 := hg 1 _ rfl
      simp [k3] at g0 g1
      obtain ⟨n0, e0, _, w0⟩ := DataW.trod_int Tryz.underlying2 g0
      obtain rfl : c0 = .int .i64 n0 := by simpa using e0
      obtain ⟨n1, e1, _, _⟩ := DataW.trod_int Tryz.underlying2 g1
      obtain rfl : c1 = .int .i64 n1 := by simpa using e1
      exact ⟨(n0, n1), i64_wf w0, rfl⟩
theorem rx_rat {H : Type} {enc : TypeId × Value → H} {w : World} {fuel : Nat} {v : Value} {x : DataW H × List MemPlace}
    (h : DataW.trod enc Tryz.prog w 0 (fun _ => true) true fuel 53 [v] = some x) : ∃ xs, RX cdRes w.heap.size w v xs ∧ ∀ x, x ∈ xs → I64 x.1 :=
  rxg_of_trod cdRes (fun x => I64 x.1) Tryz.underlying53 (by kernel_rfl) (by decide) (fun n cs y hl h => rat_dec hl h) h
end Go.Proofs.YtfphlpglgcmljaaGreat
