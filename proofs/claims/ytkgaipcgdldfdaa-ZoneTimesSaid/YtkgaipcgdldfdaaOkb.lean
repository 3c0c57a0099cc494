/- A valid zone, by reckoning. -/
import Derived.Test.YtkgaipcgdldfdaaFw
namespace Go.Proofs.Ytkgaipcgdldfdaa
open Go.RowKit

/-- Is it a valid zone, by reckoning? -/
def okB (N : Nat) (xs : List Int) : Bool :=
  decide (N ≤ 10) && decide (xs.length = (N + 1) * (N + 1)) && xs.all vld &&
  ((List.range (N + 1)).all fun i => decide (gi xs (i * (N + 1) + i) = 1) && decide (gi xs i ≤ 1) &&
    (List.range (N + 1)).all fun k => (List.range (N + 1)).all fun j => decide (gi xs (i * (N + 1) + j) ≤ lsum (gi xs (i * (N + 1) + k)) (gi xs (k * (N + 1) + j))))
theorem OkZ.ofB {N : Nat} {xs : List Int} (h : okB N xs = true) : OkZ N xs := by
  unfold okB at h
  simp only [Bool.and_eq_true, List.all_eq_true, List.mem_range, decide_eq_true_eq] at h
  obtain ⟨⟨⟨h1, h2⟩, h3⟩, h4⟩ := h
  exact OkZ.of_prog h1 h2 (List.all_eq_true.2 h3) fun i hi => ⟨(h4 i hi).1.1, (h4 i hi).1.2, fun k j hk hj => (h4 i hi).2 k (by omega) j (by omega)⟩

end Go.Proofs.Ytkgaipcgdldfdaa
