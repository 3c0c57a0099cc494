/- The contract of the reference's Same. -/
import Derived.Test.YtfphlpglgcmljaaGreatLim
import Derived.Test.YtfphlpglgcmljaaGreatWidP
namespace Go.Proofs.YtfphlpglgcmljaaGreat
open Go.RowKit

/-- Are two zones the same? -/
def sameB (n n2 : Int) (xs ys : List Int) : Bool := decide (n = n2 ∧ xs = ys)
def EqTo (xs ys : List Int) (q : Nat) : Prop := ∀ k, k < q → gi xs k = gi ys k
theorem EqTo.succ {xs ys : List Int} {q : Nat} (h : EqTo xs ys q) (h' : gi xs q = gi ys q) : EqTo xs ys (q + 1) := fun k hk => by
  by_cases e : k = q
  · subst e; exact h'
  · exact h k (by omega)
theorem sameB_refl (n : Int) (xs : List Int) : sameB n n xs xs = true := by simp [sameB]
end Go.Proofs.YtfphlpglgcmljaaGreat

