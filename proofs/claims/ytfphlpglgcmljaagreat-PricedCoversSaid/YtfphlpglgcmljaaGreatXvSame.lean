/- Part of the proof of priced_covers_proved: Same. -/
import Derived.Test.YtfphlpglgcmljaaGreatXvRat
namespace Go.Proofs.YtfphlpglgcmljaaGreat
open Go.RowKit
def EqTo (xs ys : List Int) (q : Nat) : Prop := ∀ k, k < q → gi xs k = gi ys k
theorem EqTo.succ {xs ys : List Int} {q : Nat} (h : EqTo xs ys q) (h' : gi xs q = gi ys q) : EqTo xs ys (q + 1) := fun k hk => by
 by_cases e : k = q
 ·subst e; exact h'
 ·exact h k (by omega)
end Go.Proofs.YtfphlpglgcmljaaGreat
