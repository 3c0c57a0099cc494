/- The simplest number between two: as a function on integers, with its bounds. -/
import Derived.Test.YtkgaipcgdldfdaaRatP
namespace Go.Proofs.Ytkgaipcgdldfdaa
set_option linter.unusedVariables false

/-- The simplest number between n / d and m / e (where e is 0: without an upper end); the first argument bounds the steps. -/
def midF : Nat → Int → Int → Int → Int → Int × Int
  | 0, _, _, _, _ => (0, 0)
  | f + 1, n, d, m, e =>
    if e = 0 ∨ (n / d + 1) * e < m then (n / d + 1, 1)
    else (n / d * (midF f e (m - n / d * e) d (n - n / d * d)).1 + (midF f e (m - n / d * e) d (n - n / d * d)).2, (midF f e (m - n / d * e) d (n - n / d * d)).1)
theorem midF_yes {f : Nat} {n d m e : Int} (h : e = 0 ∨ (n / d + 1) * e < m) : midF (f + 1) n d m e = (n / d + 1, 1) := by unfold midF; rw [if_pos h]
theorem midF_no {f : Nat} {n d m e : Int} (h : ¬ (e = 0 ∨ (n / d + 1) * e < m)) : midF (f + 1) n d m e = (n / d * (midF f e (m - n / d * e) d (n - n / d * d)).1 + (midF f e (m - n / d * e) d (n - n / d * d)).2, (midF f e (m - n / d * e) d (n - n / d * d)).1) := by
  conv => lhs; unfold midF
  rw [if_neg h]
/-- What holds of the two ends in each step. -/
structure MidE (n d m e : Int) : Prop where
  n0 : 0 ≤ n
  d0 : 1 ≤ d
  e0 : 0 ≤ e
  lt : n * e < m * d
  bn : n ≤ 2147483647
  bd : d ≤ 2147483647
  bm : m ≤ 2147483647
  be : e ≤ 2147483647
theorem MidE.m0 {n d m e : Int} (h : MidE n d m e) : 1 ≤ m := by
  rcases (show m < 1 ∨ 1 ≤ m by omega) with c | c
  · have h1 : m * d ≤ 0 := by
      have := Int.mul_le_mul_of_nonneg_right (show m ≤ 0 by omega) (show (0 : Int) ≤ d by have := h.d0; omega)
      simpa using this
    have h2 : 0 ≤ n * e := Int.mul_nonneg h.n0 h.e0
    have := h.lt
    omega
  · exact c
theorem MidE.k {n d m e : Int} (h : MidE n d m e) : 0 ≤ n / d ∧ n / d ≤ 2147483647 ∧ 0 ≤ n - n / d * d ∧ n - n / d * d < d := by
  have hd := h.d0
  have hm := Int.emod_add_mul_ediv n d
  have h1 := Int.emod_nonneg n (show d ≠ 0 by omega)
  have h2 := Int.emod_lt_of_pos n (show 0 < d by omega)
  have h3 : 0 ≤ n / d := Int.ediv_nonneg h.n0 (by omega)
  have h4 : n / d ≤ n := Int.ediv_le_self _ h.n0
  have h5 := h.bn
  rw [Int.mul_comm] at hm
  exact ⟨h3, by omega, by omega, by omega⟩
/-- The next step, where no integer lies between the ends. -/
theorem MidE.next {n d m e : Int} (h : MidE n d m e) (hn : ¬ (e = 0 ∨ (n / d + 1) * e < m)) : MidE e (m - n / d * e) d (n - n / d * d) ∧ (m - n / d * e) + (n - n / d * d) < d + e ∧ m - n / d * e ≤ e := by
  obtain ⟨k0, k1, k2, k3⟩ := h.k
  have hd := h.d0
  have he := h.e0
  have h1 : e ≠ 0 := fun c => hn (.inl c)
  have h2 : m ≤ (n / d + 1) * e := by
    rcases (show (n / d + 1) * e < m ∨ m ≤ (n / d + 1) * e by omega) with c | c
    · exact absurd (.inr c) hn
    · exact c
  rw [Int.add_mul, Int.one_mul] at h2
  -- m e' > ...
  have h3 : n / d * e < m := by
    rcases (show n / d * e < m ∨ m ≤ n / d * e by omega) with c | c
    · exact c
    · have a1 : m * d ≤ n / d * e * d := Int.mul_le_mul_of_nonneg_right c (by omega)
      have a2 : n / d * d ≤ n := by omega
      have a3 : n / d * d * e ≤ n * e := Int.mul_le_mul_of_nonneg_right a2 (by omega)
      have a4 : n / d * e * d = n / d * d * e := by rw [Int.mul_assoc, Int.mul_assoc, Int.mul_comm e d]
      have := h.lt
      omega
  refine ⟨⟨he, by omega, by omega, ?_, h.be, by have := h.be; omega, h.bd, by have := h.bd; omega⟩, by omega, by omega⟩
  rw [Int.mul_sub, Int.mul_sub]
  have a1 : e * (n / d * d) = d * (n / d * e) := by
    rw [Int.mul_comm e, Int.mul_comm d, Int.mul_assoc, Int.mul_assoc, Int.mul_comm d e]
  have a2 := h.lt
  rw [Int.mul_comm n e, Int.mul_comm m d] at a2
  omega
theorem mid_bd : ∀ (f : Nat) (n d m e : Int), MidE n d m e → d + e ≤ f → 0 ≤ (midF f n d m e).1 ∧ 0 ≤ (midF f n d m e).2 ∧ (midF f n d m e).1 ≤ n + m ∧ (midF f n d m e).2 ≤ d + e := by
  intro f
  induction f with
  | zero => intro n d m e h hf; have := h.d0; have := h.e0; omega
  | succ f ih =>
    intro n d m e h hf
    obtain ⟨k0, k1, k2, k3⟩ := h.k
    have hm := h.m0
    have hd := h.d0
    have he := h.e0
    have h4 : n / d ≤ n := Int.ediv_le_self _ h.n0
    unfold midF
    split
    · exact ⟨by simp only; omega, by simp only; omega, by simp only; omega, by simp only; omega⟩
    · rename_i hn
      obtain ⟨h1, h2, _⟩ := h.next hn
      obtain ⟨i1, i2, i3, i4⟩ := ih _ _ _ _ h1 (by omega)
      generalize midF f e (m - n / d * e) d (n - n / d * d) = r at *
      have j1 : n / d * r.1 ≤ n / d * (e + d) := Int.mul_le_mul_of_nonneg_left i3 k0
      have j2 : 0 ≤ n / d * r.1 := Int.mul_nonneg k0 i1
      rw [Int.mul_add] at j1
      exact ⟨by simp only; omega, by simp only; omega, by simp only; omega, by simp only; omega⟩
/-- What is taken off, put together from behind. -/
def midB : List Int → Int × Int → Int × Int
  | [], r => r
  | k :: ks, r => (k * (midB ks r).1 + (midB ks r).2, (midB ks r).1)
/-- The whole parts that are taken off. -/
def midL : Nat → Int → Int → Int → Int → List Int
  | 0, _, _, _, _ => []
  | f + 1, n, d, m, e =>
    if e = 0 ∨ (n / d + 1) * e < m then [n / d + 1]
    else n / d :: midL f e (m - n / d * e) d (n - n / d * d)
theorem midF_L : ∀ (f : Nat) (n d m e : Int), MidE n d m e → d + e ≤ f → midF f n d m e = midB (midL f n d m e) (1, 0) := by
  intro f
  induction f with
  | zero => intro n d m e h hf; have := h.d0; have := h.e0; omega
  | succ f ih =>
    intro n d m e h hf
    unfold midF midL
    split
    · simp [midB]
    · rename_i hn
      obtain ⟨h1, h2, _⟩ := h.next hn
      rw [ih _ _ _ _ h1 (by omega)]
      rfl
/-- A number between 0 and 2^31. -/
def In31 (x : Int) : Prop := 0 ≤ x ∧ x ≤ 4294967294
theorem midL_bd : ∀ (f : Nat) (n d m e : Int), MidE n d m e → d + e ≤ f → ∀ i, In31 (midB ((midL f n d m e).drop i) (1, 0)).1 ∧ In31 (midB ((midL f n d m e).drop i) (1, 0)).2 := by
  intro f
  induction f with
  | zero => intro n d m e h hf; have := h.d0; have := h.e0; omega
  | succ f ih =>
    intro n d m e h hf i
    cases i with
    | zero =>
      rw [List.drop_zero, ← midF_L _ _ _ _ _ h hf]
      obtain ⟨b1, b2, b3, b4⟩ := mid_bd _ _ _ _ _ h hf
      have := h.bn; have := h.bd; have := h.bm; have := h.be
      exact ⟨⟨b1, by omega⟩, ⟨b2, by omega⟩⟩
    | succ i =>
      unfold midL
      split
      · simp [midB, In31]
      · rename_i hn
        obtain ⟨h1, h2, _⟩ := h.next hn
        rw [List.drop_succ_cons]
        exact ih _ _ _ _ h1 (by omega) i
theorem midL_at : ∀ (f : Nat) (n d m e : Int), MidE n d m e → d + e ≤ f → ∀ i, i < (midL f n d m e).length → 0 ≤ gi (midL f n d m e) i ∧ gi (midL f n d m e) i ≤ 2147483648 := by
  intro f
  induction f with
  | zero => intro n d m e h hf; have := h.d0; have := h.e0; omega
  | succ f ih =>
    intro n d m e h hf i
    obtain ⟨k0, k1, k2, k3⟩ := h.k
    unfold midL
    split
    · intro hi
      have : i = 0 := by simpa using hi
      subst this
      simp only [gi, List.getD_cons_zero]
      omega
    · rename_i hn
      obtain ⟨h1, h2, _⟩ := h.next hn
      intro hi
      cases i with
      | zero => simp only [gi, List.getD_cons_zero]; omega
      | succ i =>
        have := ih _ _ _ _ h1 (by omega) i (by simpa using hi)
        simpa [gi] using this
theorem midL_len : ∀ (f : Nat) (n d m e : Int), (midL f n d m e).length ≤ f := by
  intro f
  induction f with
  | zero => intro n d m e; simp [midL]
  | succ f ih =>
    intro n d m e
    unfold midL
    split
    · simp
    · have := ih e (m - n / d * e) d (n - n / d * d)
      simp; omega
theorem midB_step (ks : List Int) (i : Nat) (hi : i < ks.length) : midB (ks.drop i) (1, 0) = (gi ks i * (midB (ks.drop (i + 1)) (1, 0)).1 + (midB (ks.drop (i + 1)) (1, 0)).2, (midB (ks.drop (i + 1)) (1, 0)).1) := by
  rw [List.drop_eq_getElem_cons hi]
  simp only [midB, gi, List.getD_eq_getElem?_getD, List.getElem?_eq_getElem hi, Option.getD_some]
end Go.Proofs.Ytkgaipcgdldfdaa
