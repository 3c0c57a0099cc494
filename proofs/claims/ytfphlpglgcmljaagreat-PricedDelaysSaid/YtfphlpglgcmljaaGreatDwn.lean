/- The program's Down and Free. -/
import Derived.Test.YtfphlpglgcmljaaGreatRst
namespace Go.Proofs.YtfphlpglgcmljaaGreat
open Go.RowKit
set_option linter.unusedVariables false

/-- The first q elements of the first row become 1. -/
def downTo (N : Nat) (xs : List Int) : Nat → List Int
  | 0 => xs
  | q + 1 => (downTo N xs q).set q 1
theorem downTo_len (N : Nat) (xs : List Int) (q : Nat) : (downTo N xs q).length = xs.length := by
  induction q with
  | zero => rfl
  | succ q ih => rw [downTo, List.length_set, ih]
theorem downTo_vld {N : Nat} {xs : List Int} (h : xs.all vld = true) (q : Nat) : (downTo N xs q).all vld = true := by
  induction q with
  | zero => exact h
  | succ q ih => rw [downTo]; exact set_all_vld ih _ (by decide)

/-- What Down returns. -/
noncomputable def downF (n : Int) (xs : List Int) : Int × List Int := chgF n xs true (downTo n.toNat xs (n.toNat + 1))
/-- What Free returns. -/
noncomputable def freeF (n : Int) (xs : List Int) (i : Int) : Int × List Int := chgF n xs (clkB n i) (freeB n.toNat xs i.toNat)
end Go.Proofs.YtfphlpglgcmljaaGreat

