/- Part of the proof of priced_covers_proved: Rst, Upz. -/
import Derived.Deep.RegionHeld3
import Derived.Laws.EntriesVeiled
import Derived.Laws.CopyOwn
import Derived.Deep.OwnRows
import Derived.Shelf.Bits.Mul64
import Derived.Deep.RegionLaw
import Derived.Test.YtfphlpglgcmljaaGreatXvPand2
import Derived.Test.YtfphlpglgcmljaaGreatXvZref
import Derived.Test.YtfphlpglgcmljaaGreatXvZof
import Derived.Test.YtfphlpglgcmljaaGreatXvZzone
import Derived.Test.YtfphlpglgcmljaaGreatXvRand
import Derived.Test.YtfphlpglgcmljaaGreatXvClx
namespace Go.Proofs.YtfphlpglgcmljaaGreat
open Go.RowKit
set_option linter.unusedVariables false
theorem Mat.cap {base N gr capr : Nat} {w : World} {av : Value} {xs : List Int} (h : Mat base w N (.slice (some ⟨gr, 0, none⟩) (N + 1) capr) av xs) : N + 1 ≤ capr := by
 obtain ⟨ga, h1, h2, h3, h4⟩ := h
 rcases h3.2 with ⟨h5, h0⟩ | ⟨gr2, capr2, cur, h5, hb, hg, hnc, hcm, hcs, ht⟩
 ·omega
 ·injection h5 with _ _ h6
  subst h6
  exact hnc
set_option linter.unusedVariables false
end Go.Proofs.YtfphlpglgcmljaaGreat
namespace Go.Proofs.YtfphlpglgcmljaaGreat
open Go.RowKit
set_option linter.unusedVariables false
set_option linter.unusedVariables false
theorem lsum_val {a b : Int} (ha : vld a = true) (hb : vld b = true) (na : a ≠ 1099511627776) (nb : b ≠ 1099511627776) : lsum a b = a + b - (if a % 2 = 0 ∧ b % 2 = 0 then 0 else 1) := by
 rw [vld_iff] at ha hb
 unfold lsum
 rw [if_neg (by omega)]
 unfold wrap64
 split <;> omega
theorem ent_vld {N : Nat} {xs : List Int} (h : OkZ N xs) {i j : Nat} (hi : i ≤ N) (hj : j ≤ N) : vld (ent N xs i j) = true := (h.el hi hj).val
theorem ent_tri {N : Nat} {xs : List Int} (h : OkZ N xs) {i j k : Nat} (hi : i ≤ N) (hj : j ≤ N) (hk : k ≤ N) : ent N xs i j ≤ lsum (ent N xs i k) (ent N xs k j) := by
 have := h.tri i j k (by rw [Int.toNat_natCast]; exact hi) (by rw [Int.toNat_natCast]; exact hj) (by rw [Int.toNat_natCast]; exact hk)
 rw [Int.toNat_natCast] at this
 exact this
theorem ent_row {N : Nat} {xs : List Int} (h : OkZ N xs) {j : Nat} (hj : j ≤ N) : ent N xs 0 j ≤ 1 := by
 have := h.rowN hj
 unfold ent; rwa [Nat.zero_mul, Nat.zero_add]
-- Up
end Go.Proofs.YtfphlpglgcmljaaGreat
