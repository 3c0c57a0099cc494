/- Words on priced zones and on boxes that the walks of layer 23 share. -/
import Derived.Test.YtfphlpglgcmljaaGreatPzc
namespace Go.Proofs.YtfphlpglgcmljaaGreat
open Go.RowKit
set_option linter.unusedVariables false

theorem hp_lt3 {w : World} {b : Nat} {o : Obj} (h : w.heap[b]? = some o) : b < w.heap.size := (Array.getElem?_eq_some_iff.1 h).1
theorem hp_keep4 {w w' : World} {b : Nat} {o : Obj} (h : w.heap[b]? = some o) (hb : Below w.heap.size w w') : w'.heap[b]? = some o := (hb.block b (hp_lt3 h)).trans h
theorem pzE_no {n c : Int} {xs rs : List Int} (h : pzB n xs c rs = false) : pzE n xs c rs = 2 := by unfold pzE; rw [h]; rfl
theorem pzE_yes {n c : Int} {xs rs : List Int} (h : pzB n xs c rs = true) : pzE n xs c rs = 0 := by unfold pzE; rw [h]; rfl
theorem pzB_inv {n c : Int} {xs rs : List Int} (h : pzB n xs c rs = true) : OkZ n xs ∧ (rs.length : Int) = n ∧ rngB xs c rs = true := by
  unfold pzB at h
  simp only [Bool.and_eq_true, decide_eq_true_eq] at h
  exact ⟨h.1.1, h.1.2, h.2⟩
theorem rngB_c {xs rs : List Int} {c : Int} (h : rngB xs c rs = true) : -9223372036854775808 ≤ c ∧ c ≤ 9223372036854775807 := by
  unfold rngB cstB btw at h
  simp only [Bool.and_eq_true, decide_eq_true_eq] at h
  omega
theorem pzB_nat {n c : Int} {xs rs : List Int} (h : pzB n xs c rs = true) : ∃ N : Nat, n = N ∧ OkZ N xs ∧ rs.length = N ∧ -9223372036854775808 ≤ c ∧ c ≤ 9223372036854775807 := by
  obtain ⟨h1, h2, h3⟩ := pzB_inv h
  exact ⟨rs.length, h2.symm, by rw [h2]; exact h1, rfl, rngB_c h3⟩
end Go.Proofs.YtfphlpglgcmljaaGreat
