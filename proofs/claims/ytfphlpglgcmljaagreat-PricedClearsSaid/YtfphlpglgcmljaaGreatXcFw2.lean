/- Part of the proof of priced_clears_proved: Fw2. -/
import Derived.Test.YtfphlpglgcmljaaGreatXcWid1
namespace Go.Proofs.YtfphlpglgcmljaaGreat
open Go.RowKit
def pJ (N k i : Nat) (to : Int) (m : List Int) : Nat → List Int
 | 0 => m
 | j + 1 => if lsum to (gi (pJ N k i to m j) (k * (N + 1) + j)) < gi (pJ N k i to m j) (i * (N + 1) + j)
   then (pJ N k i to m j).set (i * (N + 1) + j) (lsum to (gi (pJ N k i to m j) (k * (N + 1) + j))) else pJ N k i to m j
def pRow (N k i : Nat) (m : List Int) : List Int := if gi m (i * (N + 1) + k) = 1099511627776 then m else pJ N k i (gi m (i * (N + 1) + k)) m (N + 1)
def pI (N k : Nat) (m : List Int) : Nat → Option (List Int)
 | 0 => some m
 | i + 1 => (pI N k m i).bind fun m1 => if gi m1 (i * (N + 1) + k) ≠ 1099511627776 ∧ gi (pRow N k i m1) (i * (N + 1) + i) < 1 then none else some (pRow N k i m1)
def pK (N : Nat) (m : List Int) : Nat → Option (List Int)
 | 0 => some m
 | k + 1 => (pK N m k).bind fun m1 => pI N k m1 (N + 1)
def progZ (N : Nat) (m : List Int) : Int × List Int :=
 match pK N (capTo N m (N + 1)) (N + 1) with
 | none => (4, [])
 | some r => if r.all vld then (0, r) else (7, [])
theorem pJ_len (N k i : Nat) (to : Int) (m : List Int) (n : Nat) : (pJ N k i to m n).length = m.length := by
 induction n with
 | zero => rfl
 | succ n ih => simp only [pJ]; split <;> simp [ih]
theorem pRow_len (N k i : Nat) (m : List Int) : (pRow N k i m).length = m.length := by
 unfold pRow; split
 ·rfl
 ·exact pJ_len ..
theorem pI_len {N k : Nat} {m r : List Int} {n : Nat} (h : pI N k m n = some r) : r.length = m.length := by
 induction n generalizing r with
 | zero => simp only [pI, Option.some.injEq] at h; rw [h]
 | succ n ih =>
  simp only [pI, Option.bind_eq_some_iff] at h
  obtain ⟨m1, h1, h2⟩ := h
  split at h2
  ·cases h2
  ·cases h2; rw [pRow_len, ih h1]
theorem pK_len {N : Nat} {m r : List Int} {n : Nat} (h : pK N m n = some r) : r.length = m.length := by
 induction n generalizing r with
 | zero => simp only [pK, Option.some.injEq] at h; rw [h]
 | succ n ih =>
  simp only [pK, Option.bind_eq_some_iff] at h
  obtain ⟨m1, h1, h2⟩ := h
  rw [pI_len h2, ih h1]
def InR (m : List Int) : Prop := ∀ k, -9223372036854775808 ≤ gi m k ∧ gi m k ≤ 1099511627776
theorem gi_set (m : List Int) (a b : Nat) (x : Int) : gi (m.set a x) b = if a = b ∧ a < m.length then x else gi m b := by
 unfold gi
 rw [List.getD_eq_getElem?_getD, List.getD_eq_getElem?_getD, List.getElem?_set]
 by_cases h : a = b
 ·subst h
  by_cases h' : a < m.length
  ·simp [h']
  ·simp [h']
 ·simp [h]
theorem set_same (m : List Int) (a : Nat) (x : Int) (h : x = gi m a) : m.set a x = m := by
 subst h
 by_cases h' : a < m.length
 ·have e : gi m a = m[a] := by simp [gi, h']
  rw [e]; exact List.set_getElem_self h'
 ·exact List.set_eq_of_length_le (by omega)
theorem lsum_one (x : Int) (h : -9223372036854775808 ≤ x ∧ x ≤ 1099511627776) : lsum x 1 = x := by
 unfold lsum
 by_cases e : x = 1099511627776
 ·rw [if_pos (.inl e), e]
 ·rw [if_neg (by omega), if_neg (by omega)]; unfold wrap64; omega
theorem lsum_lo (a b : Int) : -9223372036854775808 ≤ lsum a b := by
 unfold lsum; split
 ·omega
 ·unfold wrap64; omega
theorem InR.set {m : List Int} (h : InR m) {a : Nat} {x : Int} (hx : -9223372036854775808 ≤ x ∧ x ≤ 1099511627776) : InR (m.set a x) := fun k => by
 rw [gi_set]; split
 ·exact hx
 ·exact h k
theorem imin_le (x y : Int) : imin x y ≤ x ∧ imin x y ≤ y ∧ (imin x y = x ∨ imin x y = y) := by unfold imin; split <;> omega
def Le (m' m : List Int) : Prop := m'.length = m.length ∧ ∀ k, gi m' k ≤ gi m k
theorem Le.refl (m : List Int) : Le m m := ⟨rfl, fun _ => Int.le_refl _⟩
theorem Le.trans {a b c : List Int} (h : Le a b) (k : Le b c) : Le a c := ⟨h.1.trans k.1, fun i => Int.le_trans (h.2 i) (k.2 i)⟩
theorem Le.set {m : List Int} {a : Nat} {x : Int} (hx : x ≤ gi m a) : Le (m.set a x) m := ⟨len_set _ _ _, fun k => by
 rw [gi_set]; split
 ·rename_i h; rw [← h.1]; exact hx
 ·exact Int.le_refl _⟩
theorem fwJ_Le (N k i : Nat) (m : List Int) (n : Nat) : Le (fwJ N k i m n) m := by
 induction n with
 | zero => exact Le.refl _
 | succ n ih => exact Le.trans (Le.set (imin_le _ _).1) ih
theorem fwI_Le (N k : Nat) (m : List Int) (n : Nat) : Le (fwI N k m n) m := by
 induction n with
 | zero => exact Le.refl _
 | succ n ih => exact Le.trans (fwJ_Le ..) ih
theorem fwK_Le (N : Nat) (m : List Int) (n : Nat) : Le (fwK N m n) m := by
 induction n with
 | zero => exact Le.refl _
 | succ n ih => exact Le.trans (fwI_Le ..) ih
theorem fwJ_InR {N k i : Nat} {m : List Int} (h : InR m) (n : Nat) : InR (fwJ N k i m n) := by
 induction n with
 | zero => exact h
 | succ n ih =>
  refine ih.set ⟨?_, Int.le_trans (imin_le _ _).1 (ih _).2⟩
  rcases (imin_le (gi (fwJ N k i m n) (i * (N + 1) + n)) (lsum (gi (fwJ N k i m n) (i * (N + 1) + k)) (gi (fwJ N k i m n) (k * (N + 1) + n)))).2.2 with e | e
  ·rw [e]; exact (ih _).1
  ·rw [e]; exact lsum_lo _ _
theorem fwI_InR {N k : Nat} {m : List Int} (h : InR m) (n : Nat) : InR (fwI N k m n) := by
 induction n with
 | zero => exact h
 | succ n ih => exact fwJ_InR ih _
theorem fwK_InR {N : Nat} {m : List Int} (h : InR m) (n : Nat) : InR (fwK N m n) := by
 induction n with
 | zero => exact h
 | succ n ih => exact fwI_InR ih _
theorem capTo_InR {N : Nat} {m : List Int} (h : InR m) (n : Nat) : InR (capTo N m n) := by
 have one : ∀ (m : List Int), InR m → ∀ k, -9223372036854775808 ≤ imin (gi m k) 1 ∧ imin (gi m k) 1 ≤ 1099511627776 := fun m hm k => by
  have := imin_le (gi m k) 1; have := hm k; omega
 induction n with
 | zero => exact h
 | succ n ih =>
  have h1 : InR ((capTo N m n).set n (imin (gi (capTo N m n) n) 1)) := ih.set (one _ ih n)
  exact h1.set (one _ h1 _)
theorem InR.of_vld {m : List Int} (h : m.all vld = true) : InR m := fun k => by
 by_cases hk : k < m.length
 ·have := vld_gi h hk; rw [vld_iff] at this; omega
 ·have : gi m k = 0 := by simp [gi, List.getElem?_eq_none (by omega : m.length ≤ k)]
  omega
def D1 (N : Nat) (m : List Int) : Prop := ∀ i, i ≤ N → gi m (i * (N + 1) + i) = 1
theorem idx_inj {N i j i' j' : Nat} (hj : j ≤ N) (hj' : j' ≤ N) (h : i * (N + 1) + j = i' * (N + 1) + j') : i = i' ∧ j = j' := by
 have h1 : (i * (N + 1) + j) / (N + 1) = i := by rw [Nat.mul_comm, Nat.mul_add_div (by omega), Nat.div_eq_of_lt (by omega)]; omega
 have h2 : (i' * (N + 1) + j') / (N + 1) = i' := by rw [Nat.mul_comm, Nat.mul_add_div (by omega), Nat.div_eq_of_lt (by omega)]; omega
 have e : i = i' := by rw [← h1, h, h2]
 subst e
 exact ⟨rfl, by omega⟩
theorem fwJ_eq {N k i : Nat} {m : List Int} (hr : InR m) (hk : k ≤ N) (hd : gi m (k * (N + 1) + k) = 1) (n : Nat) (hn : n ≤ N + 1) :
  fwJ N k i m n = pJ N k i (gi m (i * (N + 1) + k)) m n ∧ gi (fwJ N k i m n) (i * (N + 1) + k) = gi m (i * (N + 1) + k) ∧ gi (fwJ N k i m n) (k * (N + 1) + k) = 1 := by
 induction n with
 | zero => exact ⟨rfl, rfl, hd⟩
 | succ n ih =>
  obtain ⟨h1, h2, h3⟩ := ih (by omega)
  have hR := fwJ_InR (N := N) (k := k) (i := i) hr n
  have heq : fwJ N k i m (n + 1) = pJ N k i (gi m (i * (N + 1) + k)) m (n + 1) := by
   simp only [fwJ, pJ]
   rw [← h1, h2]
   unfold imin
   split
   ·rfl
   ·exact set_same _ _ _ rfl
  refine ⟨heq, ?_, ?_⟩
  ·simp only [fwJ]
   rw [gi_set]
   split
   ·rename_i hh
    obtain ⟨-, rfl⟩ := idx_inj (by omega) hk hh.1
    rw [h3, h2]
    have hx := hR (i * (N + 1) + n)
    rw [h2] at hx
    rw [lsum_one _ hx]
    unfold imin; split <;> omega
   ·exact h2
  ·simp only [fwJ]
   rw [gi_set]
   split
   ·rename_i hh
    obtain ⟨rfl, rfl⟩ := idx_inj (by omega) hk hh.1
    rw [h3]
    have : lsum 1 1 = 1 := lsum_one 1 (by omega)
    rw [this]; rfl
   ·exact h3
theorem fwJ_nl {N k i : Nat} {m : List Int} (hr : InR m) (h : gi m (i * (N + 1) + k) = 1099511627776) (n : Nat) : fwJ N k i m n = m := by
 induction n with
 | zero => rfl
 | succ n ih =>
  simp only [fwJ]
  rw [ih]
  apply set_same
  rw [lsum_nl _ _ (.inl h)]
  have := (hr (i * (N + 1) + n)).2
  unfold imin; rw [if_neg (by omega)]
theorem fwRow_eq {N k i : Nat} {m : List Int} (hr : InR m) (hk : k ≤ N) (hd : gi m (k * (N + 1) + k) = 1) : fwJ N k i m (N + 1) = pRow N k i m := by
 unfold pRow
 split
 ·rename_i h; exact fwJ_nl hr h _
 ·exact (fwJ_eq hr hk hd (N + 1) (Nat.le_refl _)).1
theorem fwJ_other {N k i : Nat} {m : List Int} {a b : Nat} (hb : b ≤ N) (hne : a ≠ i) (n : Nat) (hn : n ≤ N + 1) : gi (fwJ N k i m n) (a * (N + 1) + b) = gi m (a * (N + 1) + b) := by
 induction n with
 | zero => rfl
 | succ n ih =>
  simp only [fwJ]
  rw [gi_set]
  split
  ·rename_i hh
   exact absurd (idx_inj (by omega) hb hh.1).1.symm hne
  ·exact ih (by omega)
theorem pI_eq {N k : Nat} {m : List Int} (hr : InR m) (hk : k ≤ N) (hd : D1 N m) (n : Nat) (hn : n ≤ N + 1) :
  (pI N k m n = some (fwI N k m n) ∧ D1 N (fwI N k m n)) ∨ (pI N k m n = none ∧ ∃ i, i ≤ N ∧ gi (fwI N k m n) (i * (N + 1) + i) < 1) := by
 induction n with
 | zero => exact .inl ⟨rfl, hd⟩
 | succ n ih =>
  rcases ih (by omega) with ⟨h1, h2⟩ | ⟨h1, i, hi, h2⟩
  ·have hR := fwI_InR (N := N) (k := k) hr n
   have he := fwRow_eq (i := n) hR hk (h2 k hk)
   simp only [pI, h1, Option.bind_some]
   have hdiag : gi (pRow N k n (fwI N k m n)) (n * (N + 1) + n) ≤ 1 := by
    rw [← he]
    exact Int.le_trans ((fwJ_Le N k n _ _).2 _) (Int.le_of_eq (h2 n (by omega)))
   by_cases hc : gi (fwI N k m n) (n * (N + 1) + k) ≠ 1099511627776 ∧ gi (pRow N k n (fwI N k m n)) (n * (N + 1) + n) < 1
   ·right
    rw [if_pos hc]
    refine ⟨rfl, n, by omega, ?_⟩
    show gi (fwJ N k n (fwI N k m n) (N + 1)) _ < 1
    rw [he]; exact hc.2
   ·left
    rw [if_neg hc]
    refine ⟨by rw [← he]; rfl, fun a ha => ?_⟩
    show gi (fwJ N k n (fwI N k m n) (N + 1)) _ = 1
    by_cases e : a = n
    ·subst e
     by_cases e2 : gi (fwI N k m a) (a * (N + 1) + k) = 1099511627776
     ·rw [fwJ_nl hR e2]; exact h2 a ha
     ·have : ¬ gi (pRow N k a (fwI N k m a)) (a * (N + 1) + a) < 1 := fun h => hc ⟨e2, h⟩
      rw [he]; omega
    ·rw [fwJ_other ha e (N + 1) (Nat.le_refl _)]; exact h2 a ha
  ·right
   simp only [pI, h1, Option.bind_none]
   exact ⟨trivial, i, hi, Int.lt_of_le_of_lt ((fwJ_Le N k n _ _).2 _) h2⟩
theorem pK_eq {N : Nat} {m : List Int} (hr : InR m) (hd : D1 N m) (n : Nat) (hn : n ≤ N + 1) :
  (pK N m n = some (fwK N m n) ∧ D1 N (fwK N m n)) ∨ (pK N m n = none ∧ ∃ i, i ≤ N ∧ gi (fwK N m n) (i * (N + 1) + i) < 1) := by
 induction n with
 | zero => exact .inl ⟨rfl, hd⟩
 | succ n ih =>
  rcases ih (by omega) with ⟨h1, h2⟩ | ⟨h1, i, hi, h2⟩
  ·have hR := fwK_InR (N := N) hr n
   simp only [pK, h1, Option.bind_some]
   exact pI_eq hR (by omega) h2 (N + 1) (Nat.le_refl _)
  ·right
   simp only [pK, h1, Option.bind_none]
   exact ⟨trivial, i, hi, Int.lt_of_le_of_lt ((fwI_Le N n _ _).2 _) h2⟩
theorem pJ_Le (N k i : Nat) (to : Int) (m : List Int) (n : Nat) : Le (pJ N k i to m n) m := by
 induction n with
 | zero => exact Le.refl _
 | succ n ih =>
  simp only [pJ]
  split
  ·exact Le.trans (Le.set (by omega)) ih
  ·exact ih
theorem pRow_Le (N k i : Nat) (m : List Int) : Le (pRow N k i m) m := by
 unfold pRow; split
 ·exact Le.refl _
 ·exact pJ_Le ..
theorem pI_Le {N k : Nat} {m r : List Int} {n : Nat} (h : pI N k m n = some r) : Le r m := by
 induction n generalizing r with
 | zero => simp only [pI, Option.some.injEq] at h; rw [h]; exact Le.refl _
 | succ n ih =>
  simp only [pI, Option.bind_eq_some_iff] at h
  obtain ⟨m1, h1, h2⟩ := h
  split at h2
  ·cases h2
  ·cases h2; exact Le.trans (pRow_Le ..) (ih h1)
theorem pK_Le {N : Nat} {m r : List Int} {n : Nat} (h : pK N m n = some r) : Le r m := by
 induction n generalizing r with
 | zero => simp only [pK, Option.some.injEq] at h; rw [h]; exact Le.refl _
 | succ n ih =>
  simp only [pK, Option.bind_eq_some_iff] at h
  obtain ⟨m1, h1, h2⟩ := h
  exact Le.trans (pI_Le h2) (ih h1)
theorem pI_neg {N i : Nat} {m : List Int} (hd : gi m (i * (N + 1) + i) < 1) (n : Nat) (hn : i < n) : pI N i m n = none := by
 induction n with
 | zero => omega
 | succ n ih =>
  by_cases e : i = n
  ·subst e
   simp only [pI]
   cases h : pI N i m i with
   | none => rfl
   | some m1 =>
    simp only [Option.bind_some]
    have h1 := (pI_Le h).2 (i * (N + 1) + i)
    rw [if_pos ⟨by omega, by have := (pRow_Le N i i m1).2 (i * (N + 1) + i); omega⟩]
  ·simp only [pI, ih (by omega), Option.bind_none]
theorem pK_neg {N i : Nat} {m : List Int} (hi : i ≤ N) (hd : gi m (i * (N + 1) + i) < 1) (n : Nat) (hn : i < n) : pK N m n = none := by
 induction n with
 | zero => omega
 | succ n ih =>
  by_cases e : i = n
  ·subst e
   simp only [pK]
   cases h : pK N m i with
   | none => rfl
   | some m1 =>
    simp only [Option.bind_some]
    have h1 := (pK_Le h).2 (i * (N + 1) + i)
    exact pI_neg (by omega) (N + 1) (by omega)
  ·simp only [pK, ih (by omega), Option.bind_none]
theorem capTo_diag {N : Nat} {m : List Int} (hlen : m.length = (N + 1) * (N + 1)) (n : Nat) (hn : n ≤ N + 1) : ∀ i, i < n → gi (capTo N m n) (i * (N + 1) + i) ≤ 1 := by
 induction n with
 | zero => intro i hi; omega
 | succ n ih =>
  intro i hi
  simp only [capTo]
  by_cases e : i = n
  ·subst e
   rw [gi_set, if_pos ⟨rfl, by rw [len_set, capTo_len, hlen]; exact idx_lt N i i (by omega) (by omega)⟩]
   exact (imin_le _ _).2.1
  ·exact Int.le_trans ((Le.set (imin_le _ _).1).2 _) (Int.le_trans ((Le.set (imin_le _ _).1).2 _) (ih (by omega) i (by omega)))
theorem negTo_iff (N : Nat) (m : List Int) (n : Nat) : negTo N m n = true ↔ ∃ i, i < n ∧ gi m (i * (N + 1) + i) < 1 := by
 simp [negTo]
theorem progZ_eq {N : Nat} {m : List Int} (hlen : m.length = (N + 1) * (N + 1)) (hv : m.all vld = true) : progZ N m = closedF N m := by
 have hr := capTo_InR (N := N) (InR.of_vld hv) (N + 1)
 unfold progZ closedF
 by_cases hd : D1 N (capTo N m (N + 1))
 ·rcases pK_eq hr hd (N + 1) (Nat.le_refl _) with ⟨h1, h2⟩ | ⟨h1, i, hi, h2⟩
  ·rw [h1]
   have : negTo N (fw N m) (N + 1) = false := by
    rw [Bool.eq_false_iff]
    intro h
    obtain ⟨i, hi, h⟩ := (negTo_iff ..).1 h
    have := h2 i (by omega)
    unfold fw at h
    omega
   rw [this]
   rfl
  ·have hn : negTo N (fw N m) (N + 1) = true := (negTo_iff ..).2 ⟨i, by omega, h2⟩
   rw [h1, if_pos hn]
 ·have : ∃ i, i ≤ N ∧ gi (capTo N m (N + 1)) (i * (N + 1) + i) < 1 := by
   apply Classical.byContradiction
   intro h
   apply hd
   intro i hi
   have h1 := capTo_diag hlen (N + 1) (Nat.le_refl _) i (by omega)
   apply Classical.byContradiction
   intro h2
   exact h ⟨i, hi, by omega⟩
  obtain ⟨i, hi, h⟩ := this
  have hn : negTo N (fw N m) (N + 1) = true := (negTo_iff ..).2 ⟨i, by omega, Int.lt_of_le_of_lt ((fwK_Le N _ _).2 _) h⟩
  rw [pK_neg hi h (N + 1) (by omega), if_pos hn]
end Go.Proofs.YtfphlpglgcmljaaGreat
