/- Closing a matrix below which the greatest canonical one is known; closing a valid zone; plain Lean. -/
import Derived.Test.YtfphlpglgcmljaaGreatFwL
namespace Go.Proofs.YtfphlpglgcmljaaGreat
open Go.RowKit
set_option linter.unusedVariables false

theorem tm_ext {N : Nat} {m Z : List Int} (hm : m.length = (N + 1) * (N + 1)) (hz : Z.length = (N + 1) * (N + 1)) (h : ∀ i j, i ≤ N → j ≤ N → ent N m i j = ent N Z i j) : m = Z := by
  refine ext_gi (by rw [hm, hz]) (fun k hk => ?_)
  rw [hm] at hk
  have hj : k % (N + 1) ≤ N := by have := Nat.mod_lt k (show 0 < N + 1 by omega); omega
  have hi : k / (N + 1) ≤ N := by have := Nat.div_lt_of_lt_mul (show k < (N + 1) * (N + 1) from hk); omega
  have hidx : k = (k / (N + 1)) * (N + 1) + k % (N + 1) := by rw [Nat.mul_comm]; exact (Nat.div_add_mod k (N + 1)).symm
  rw [hidx]
  exact h _ _ hi hj
/-- Closing a matrix below which the greatest canonical one is known. -/
theorem closed_is {N : Nat} {m Z : List Int} (hZ : OkZ N Z) (hl : m.length = (N + 1) * (N + 1)) (hge : ∀ i j, i ≤ N → j ≤ N → ple (pl (ent N Z i j)) (pl (ent N m i j))) (hv : ∀ i j, i ≤ N → j ≤ N → vld (ent N m i j) = true)
    (hmax : ∀ D, Cn N D → (∀ i j, i ≤ N → j ≤ N → ple (D i j) (pl (ent N m i j))) → (∀ j, j ≤ N → ple (D 0 j) (some 1)) → ∀ i j, i ≤ N → j ≤ N → ple (D i j) (pl (ent N Z i j))) : closedF N m = (0, Z) := by
  have hN : N ≤ 10 := by have := hZ.hi; omega
  have hlen : Z.length = (N + 1) * (N + 1) := by have := hZ.len; rwa [Int.toNat_natCast] at this
  obtain ⟨D, cD, dm, dr, dz, dU, dE, dg, hneg, _⟩ := closed_exact hN hZ hl hge hv
  have eqD : ∀ i j, i ≤ N → j ≤ N → D i j = pl (ent N Z i j) := fun i j hi hj => ple_anti (hmax D cD dm dr i j hi hj) (dz i j hi hj)
  have efw : fw N m = Z := tm_ext (by rw [fw_len, hl]) hlen (fun i j hi hj => by
    have ed := eqD _ _ hi hj
    have eu := dU _ _ hi hj
    have lo := hZ.elo hi hj
    by_cases hn : ent N Z i j = 1099511627776
    · rw [ed, hn, pl_nl] at eu
      unfold pl at eu; split at eu
      · rename_i e2; rw [e2, hn]
      · exact absurd eu (by simp [ple])
    · have : D i j = some (ent N Z i j) := by rw [ed]; exact pl_fin hn
      exact dE _ _ _ hi hj this (by omega))
  unfold closedF
  rw [hneg, efw]
  have hall := (dimF_nat hZ.dim).2.2
  simp [hall]
theorem closed_ok1 {N : Nat} {xs : List Int} (h : OkZ N xs) : closedF N xs = (0, xs) := by
  have hlen : xs.length = (N + 1) * (N + 1) := by have := h.len; rwa [Int.toNat_natCast] at this
  exact closed_is h hlen (fun i j _ _ => ple_refl _) (fun i j hi hj => (h.el hi hj).val) (fun D _ dm _ => dm)
end Go.Proofs.YtfphlpglgcmljaaGreat
