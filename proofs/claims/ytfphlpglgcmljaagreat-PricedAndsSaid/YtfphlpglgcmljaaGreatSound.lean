/- What lies above a canonical matrix has no negative cycle: closing it does not say 'none'. Plain Lean. -/
import Derived.Test.YtfphlpglgcmljaaGreatPure
import Derived.Test.YtfphlpglgcmljaaGreatRand
namespace Go.Proofs.YtfphlpglgcmljaaGreat
open Go.RowKit
set_option linter.unusedVariables false

/-- And does not say 'none' where a canonical matrix lies below the zone and all constraints. -/
theorem and_sound {N : Nat} {xs : List Int} {cs : List (Int × Int × Int)} {Y : Nat → Nat → Lm} (hx : OkZ N xs) (hk : AllK N cs cs.length) (hy : Cn N Y) (hge : ∀ i j, i ≤ N → j ≤ N → ple (Y i j) (pl (ent N xs i j)))
    (hcs : ∀ q, q < cs.length → ple (Y (gk cs q).1.toNat (gk cs q).2.1.toNat) (pl (gk cs q).2.2)) : (andF N xs cs).1 = 0 ∨ (andF N xs cs).1 = 7 := by
  have hN : N ≤ 10 := by have := hx.hi; omega
  have hlen : xs.length = (N + 1) * (N + 1) := by have := hx.len; rwa [Int.toNat_natCast] at this
  rw [andF_yes hx hk]
  have main : ∀ q, q ≤ cs.length → ∀ i j, i ≤ N → j ≤ N → ple (Y i j) (pl (ent N (andTo N xs cs q) i j)) ∧ Rg 4398046511104 (ent N (andTo N xs cs q) i j) := by
    intro q
    induction q with
    | zero =>
      intro _ i j hi hj
      have := hx.elo hi hj
      exact ⟨hge i j hi hj, by show Rg _ (ent N xs i j); unfold Rg; omega⟩
    | succ q ih =>
      intro hq i j hi hj
      have ih := ih (by omega)
      obtain ⟨a, b⟩ := ih i j hi hj
      have kq := hk q (by omega)
      have cq := hcs q (by omega)
      have sq : andTo N xs cs (q + 1) = (andTo N xs cs q).set ((gk cs q).1.toNat * (N + 1) + (gk cs q).2.1.toNat) (imin (ent N (andTo N xs cs q) (gk cs q).1.toNat (gk cs q).2.1.toNat) (gk cs q).2.2) := rfl
      rw [sq]
      generalize gk cs q = c at *
      obtain ⟨I, J, L⟩ := c
      obtain ⟨k1, k2, k3, k4, k5⟩ := (kOk_iff N I J L).1 kq
      rw [vld_iff] at k5
      simp only at *
      rw [ent_set (by rw [andTo_len]; exact hlen) (i := I.toNat) (j := J.toNat) (by omega) (by omega) hj]
      split
      · rename_i e
        obtain ⟨rfl, rfl⟩ := e
        obtain ⟨a', b'⟩ := ih I.toNat J.toNat (by omega) (by omega)
        rcases imin_eq (ent N (andTo N xs cs q) I.toNat J.toNat) L with e | e <;> rw [e]
        · exact ⟨a', b'⟩
        · exact ⟨cq, by unfold Rg; omega⟩
      · exact ⟨a, b⟩
  refine sound hN hy (fun j hj => ?_) (by rw [andTo_len]; exact hlen) (fun i j hi hj => (main _ (Nat.le_refl _) i j hi hj).1) (fun i j hi hj => (main _ (Nat.le_refl _) i j hi hj).2)
  refine ple_trans (hge 0 j (Nat.zero_le _) hj) ?_
  have r : ent N xs 0 j ≤ 1 := by have := hx.rowN hj; unfold ent; rwa [Nat.zero_mul, Nat.zero_add]
  rw [pl_fin (by omega)]; exact r
end Go.Proofs.YtfphlpglgcmljaaGreat

