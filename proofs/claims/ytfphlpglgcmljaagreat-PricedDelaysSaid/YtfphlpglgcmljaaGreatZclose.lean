/- The contract of the program's Close: it returns what the reference's returns. -/
import Derived.Test.YtfphlpglgcmljaaGreatZzone
namespace Go.Proofs.YtfphlpglgcmljaaGreat
open Go.RowKit

theorem closeF_no {n : Int} {xs : List Int} (h : dimF n xs = false) : closeF n xs = (2, []) := by
  unfold closeF
  rw [if_pos]
  unfold dimF at h
  simp only [decide_eq_false_iff_not] at h
  by_cases a : n < 0 ∨ 10 < n
  · exact .inl a
  · by_cases b : xs.length = (n.toNat + 1) * (n.toNat + 1)
    · exact .inr (.inr (by rw [Bool.eq_false_iff]; exact fun c => h ⟨by omega, by omega, b, c⟩))
    · exact .inr (.inl b)
theorem closeF_yes {N : Nat} {xs : List Int} (h : dimF N xs = true) : closeF N xs = closedF N xs := by
  obtain ⟨h1, h2, h3⟩ := dimF_nat h
  unfold closeF
  rw [if_neg, Int.toNat_natCast]
  rintro (a | a | a)
  · omega
  · exact a (by rw [Int.toNat_natCast]; exact h2)
  · rw [h3] at a; cases a

end Go.Proofs.YtfphlpglgcmljaaGreat

