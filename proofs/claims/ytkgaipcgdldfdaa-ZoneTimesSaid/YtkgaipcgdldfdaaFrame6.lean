/- Slices of ratios in a row: their fields are integers of 64 bits. -/
import Derived.Test.YtkgaipcgdldfdaaFrame2
import Derived.Test.YtkgaipcgdldfdaaPrat
namespace Go.Proofs.Ytkgaipcgdldfdaa
open Go.RowKit
set_option linter.unusedVariables false
set_option maxRecDepth 100000 in
theorem ratio_ints : ∀ (j : Nat) (f : Field), (match Try.prog.underlying 48 with | some (.struct fs) => fs | _ => #[])[j]? = some f → Try.prog.underlying f.type = some (.int .i64) := by
  intro j f h
  rw [Try.underlying48] at h
  match j, h with
  | 0, h => cases h; exact Try.underlying2
  | 1, h => cases h; exact Try.underlying2
  | j + 2, h => simp at h
theorem i64_of_wf {n : Int} (h : (Lit.int .i64 n).wf = true) : I64 n := by
  have h2 := Bool.and_eq_true_iff.1 h
  exact ⟨of_decide_eq_true h2.1, of_decide_eq_true h2.2⟩
end Go.Proofs.Ytkgaipcgdldfdaa
