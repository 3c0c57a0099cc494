/- Part of the proof of priced_clears_proved: Pcu. -/
import Derived.Test.YtfphlpglgcmljaaGreatXcPon
import Derived.Test.YtfphlpglgcmljaaGreatXcPct
import Derived.Test.YtfphlpglgcmljaaGreatXcClv
namespace Go.Proofs.YtfphlpglgcmljaaGreat
open Go.RowKit
set_option linter.unusedVariables false
theorem and_valid {N : Nat} {xs A : List Int} {cs : List K3} (h : andF N xs cs = (0, A)) : OkZ N A := by
 by_cases hc : OkZ N xs ∧ AllK N cs cs.length
 ·rw [andF_yes hc.1 hc.2] at h
  have hlen : xs.length = (N + 1) * (N + 1) := by have := hc.1.len; rwa [Int.toNat_natCast] at this
  have hv := andTo_vld (all_of_idx hlen (fun i j hi hj => by have := hc.1.val i j (by rw [Int.toNat_natCast]; exact hi) (by rw [Int.toNat_natCast]; exact hj); rw [Int.toNat_natCast] at this; exact this)) hlen cs.length hc.2
  refine closed_valid (by have := hc.1.hi; omega) (by rw [andTo_len]; exact hlen) (fun i j hi hj => ?_) h
  have hlt : i * (N + 1) + j < (andTo N xs cs cs.length).length := by
   rw [andTo_len, hlen]
   have := Nat.mul_le_mul_right (N + 1) (show i + 1 ≤ N + 1 by omega)
   rw [Nat.add_mul, Nat.one_mul] at this
   omega
  exact vld_gi hv hlt
 ·rw [andF_no (by rwa [Int.toNat_natCast])] at h
  simp at h
theorem onF_two (N : Nat) (xs : List Int) (c : Int) (rs zs : List Int) (more : Int) (i : Nat) (at' : Int) : (∃ C R, onF N xs c rs zs more i at' = (⟨N, zs, C, R⟩, 0)) ∨ onF N xs c rs zs more i at' = (pv0, 7) := by
 unfold onF resF
 split
 ·exact .inl ⟨_, _, rfl⟩
 ·exact .inr rfl
end Go.Proofs.YtfphlpglgcmljaaGreat
