/- Part of the proof of priced_covers_proved: Fw2. -/
import Derived.Test.YtfphlpglgcmljaaGreatXvRat
namespace Go.Proofs.YtfphlpglgcmljaaGreat
open Go.RowKit
def InR (m : List Int) : Prop := ∀ k, -9223372036854775808 ≤ gi m k ∧ gi m k ≤ 1099511627776
theorem gi_set (m : List Int) (a b : Nat) (x : Int) : gi (m.set a x) b = if a = b ∧ a < m.length then x else gi m b := by
 unfold gi
 rw [List.getD_eq_getElem?_getD, List.getD_eq_getElem?_getD, List.getElem?_set]
 by_cases h : a = b
 ·subst h
  by_cases h' : a < m.length
  ·simp [h']
  ·simp [h']
 ·simp [h]
theorem InR.set {m : List Int} (h : InR m) {a : Nat} {x : Int} (hx : -9223372036854775808 ≤ x ∧ x ≤ 1099511627776) : InR (m.set a x) := fun k => by
 rw [gi_set]; split
 ·exact hx
 ·exact h k
def Le (m' m : List Int) : Prop := m'.length = m.length ∧ ∀ k, gi m' k ≤ gi m k
theorem Le.refl (m : List Int) : Le m m := ⟨rfl, fun _ => Int.le_refl _⟩
theorem Le.trans {a b c : List Int} (h : Le a b) (k : Le b c) : Le a c := ⟨h.1.trans k.1, fun i => Int.le_trans (h.2 i) (k.2 i)⟩
theorem Le.set {m : List Int} {a : Nat} {x : Int} (hx : x ≤ gi m a) : Le (m.set a x) m := ⟨len_set _ _ _, fun k => by
 rw [gi_set]; split
 ·rename_i h; rw [← h.1]; exact hx
 ·exact Int.le_refl _⟩
theorem idx_inj {N i j i' j' : Nat} (hj : j ≤ N) (hj' : j' ≤ N) (h : i * (N + 1) + j = i' * (N + 1) + j') : i = i' ∧ j = j' := by
 have h1 : (i * (N + 1) + j) / (N + 1) = i := by rw [Nat.mul_comm, Nat.mul_add_div (by omega), Nat.div_eq_of_lt (by omega)]; omega
 have h2 : (i' * (N + 1) + j') / (N + 1) = i' := by rw [Nat.mul_comm, Nat.mul_add_div (by omega), Nat.div_eq_of_lt (by omega)]; omega
 have e : i = i' := by rw [← h1, h, h2]
 subst e
 exact ⟨rfl, by omega⟩
end Go.Proofs.YtfphlpglgcmljaaGreat
