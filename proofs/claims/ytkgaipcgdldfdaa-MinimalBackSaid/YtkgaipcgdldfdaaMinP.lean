/- Reducing a zone to few constraints: the program's way and the reference's keep the same ones. Plain Lean. -/
import Derived.Test.YtkgaipcgdldfdaaPure
namespace Go.Proofs.Ytkgaipcgdldfdaa
open Go.RowKit
set_option linter.unusedVariables false

/-- Are two clocks bound? -/
def bdB (N : Nat) (xs : List Int) (i j : Nat) : Bool := decide (lsum (ent N xs i j) (ent N xs j i) = 1)
/-- The first clock of its class? -/
def fsB (N : Nat) (xs : List Int) (i : Nat) : Bool := (List.range i).all fun k => !bdB N xs k i
/-- Between i and j, going round in their class, lies no other one. -/
def nxB (N : Nat) (xs : List Int) (i j : Nat) : Bool :=
  (List.range (N + 1)).all fun k => decide (k = i) || decide (k = j) || !bdB N xs k i || !(decide (i < j ∧ i < k ∧ k < j) || decide (j < i ∧ (i < k ∨ k < j)))
/-- The reference's choice. -/
def kpB (N : Nat) (xs : List Int) (i j : Nat) : Bool :=
  if i = j ∨ ent N xs i j = 1099511627776 then false
  else if bdB N xs i j then nxB N xs i j && decide (i ≠ 0 ∨ ent N xs i j ≠ 1)
  else fsB N xs i && fsB N xs j && (List.range (N + 1)).all fun k =>
    !(decide (i = 0) && bdB N xs k j && decide (ent N xs 0 k = 1)) && !(fsB N xs k && decide (k ≠ i ∧ k ≠ j) && decide (ent N xs i j = lsum (ent N xs i k) (ent N xs k j)))
/-- The program's sum of two limits. -/
def adF (a b : Int) : Int := if a = 1099511627776 ∨ b = 1099511627776 then 1099511627776 else if -1073741824 ≤ a / 2 + b / 2 ∧ a / 2 + b / 2 ≤ 1073741824 then lsum a b else 1099511627776
/-- The program's first clock of the class: the first one found by going up. -/
def rpF (N : Nat) (xs : List Int) (i : Nat) : Nat :=
  ((List.range i).attach.find? fun k => decide (rpF N xs k.1 = k.1) && decide (adF (ent N xs i k.1) (ent N xs k.1 i) = 1)).elim i (·.1)
termination_by i
decreasing_by exact List.mem_range.1 k.2
/-- The program's next one. -/
def nfF (N : Nat) (xs : List Int) (i : Nat) : Nat := ((List.range (N + 1)).find? fun k => decide (i < k) && decide (rpF N xs k = rpF N xs i)).getD (rpF N xs i)
def insB (N : Nat) (xs : List Int) (i j : Nat) : Bool := decide (nfF N xs i = j) && decide (0 < i ∨ ent N xs i j ≠ 1)
def btwB (N : Nat) (xs : List Int) (i j : Nat) : Bool :=
  decide (rpF N xs i = i) && decide (rpF N xs j = j) && (List.range (N + 1)).all fun k =>
    !(decide (i = 0) && decide (rpF N xs k = j) && decide (ent N xs 0 k = 1)) && !(decide (rpF N xs k = k) && decide (k ≠ i) && decide (k ≠ j) && decide (adF (ent N xs i k) (ent N xs k j) = ent N xs i j))
def pkB (N : Nat) (xs : List Int) (i j : Nat) : Bool := decide (i ≠ j) && decide (ent N xs i j ≠ 1099511627776) && (if rpF N xs i = rpF N xs j then insB N xs i j else btwB N xs i j)

theorem ad_one {a b : Int} (ha : vld a = true) (hb : vld b = true) : adF a b = 1 ↔ lsum a b = 1 := by
  rw [vld_iff] at ha hb
  unfold adF
  by_cases e : a = 1099511627776 ∨ b = 1099511627776
  · rw [if_pos e, lsum_nl a b e]
  · rw [if_neg e, lsum_fin (fun h => e (.inl h)) (fun h => e (.inr h)) (by omega) (by omega) (by omega) (by omega)]
    split <;> split <;> omega
theorem ad_is {a b l : Int} (ha : vld a = true) (hb : vld b = true) (hl : vld l = true) (hn : l ≠ 1099511627776) : adF a b = l ↔ l = lsum a b := by
  rw [vld_iff] at ha hb hl
  unfold adF
  by_cases e : a = 1099511627776 ∨ b = 1099511627776
  · rw [if_pos e, lsum_nl a b e]; omega
  · rw [if_neg e, lsum_fin (fun h => e (.inl h)) (fun h => e (.inr h)) (by omega) (by omega) (by omega) (by omega)]
    split <;> split <;> omega
theorem bd_iff {N : Nat} {xs : List Int} {i j : Nat} : bdB N xs i j = true ↔ lsum (ent N xs i j) (ent N xs j i) = 1 := by unfold bdB; simp
theorem lsum_comm (a b : Int) : lsum a b = lsum b a := by
  by_cases e : a = 1099511627776 ∨ b = 1099511627776
  · rw [lsum_nl a b e, lsum_nl b a (e.symm)]
  · have h : (if a % 2 = 0 ∧ b % 2 = 0 then (0 : Int) else 1) = (if b % 2 = 0 ∧ a % 2 = 0 then 0 else 1) := by split <;> split <;> omega
    have e1 : lsum a b = wrap64 (a + b - (if a % 2 = 0 ∧ b % 2 = 0 then 0 else 1)) := by unfold lsum; rw [if_neg e]
    have e2 : lsum b a = wrap64 (b + a - (if b % 2 = 0 ∧ a % 2 = 0 then 0 else 1)) := by unfold lsum; rw [if_neg (fun h => e h.symm)]
    rw [e1, e2, h, Int.add_comm b a]
section
variable {N : Nat} {xs : List Int}
theorem bd_symm (i j : Nat) : bdB N xs i j = bdB N xs j i := by unfold bdB; rw [lsum_comm]
theorem bd_refl (h : OkZ N xs) {i : Nat} (hi : i ≤ N) : bdB N xs i i = true := by
  rw [bd_iff]
  have e : ent N xs i i = 1 := h.diagN hi
  rw [e]; exact lsum1r (by unfold Rg; omega)
theorem bd_pure (h : OkZ N xs) {i j : Nat} (hi : i ≤ N) (hj : j ≤ N) : bdB N xs i j = true ↔ psum (pl (ent N xs i j)) (pl (ent N xs j i)) = some 1 := by
  rw [bd_iff]
  have a := h.elo hi hj
  have b := h.elo hj hi
  by_cases e : ent N xs i j = 1099511627776 ∨ ent N xs j i = 1099511627776
  · have : psum (pl (ent N xs i j)) (pl (ent N xs j i)) = none := by
      rcases e with e | e
      · rw [e, pl_nl]; rfl
      · rw [e, pl_nl]; cases pl (ent N xs i j) <;> rfl
    rw [lsum_nl _ _ e, this]; simp
  · have ha : ent N xs i j ≠ 1099511627776 := fun h => e (.inl h)
    have hb : ent N xs j i ≠ 1099511627776 := fun h => e (.inr h)
    rw [lsum_fin' ha hb (by unfold Rg; omega) (by unfold Rg; omega), pl_fin ha, pl_fin hb]
    simp only [psum, Option.some.injEq]
theorem bd_trans (h : OkZ N xs) {i j k : Nat} (hi : i ≤ N) (hj : j ≤ N) (hk : k ≤ N) (h1 : bdB N xs i j = true) (h2 : bdB N xs j k = true) : bdB N xs i k = true := by
  rw [bd_pure h hi hj] at h1
  rw [bd_pure h hj hk] at h2
  rw [bd_pure h hi hk]
  have c := h.cn
  have t1 := c.tri i k j hi hk hj
  have t2 := c.tri k i j hk hi hj
  have t3 := c.tri i i k hi hi hk
  rw [c.diag i hi] at t3
  have t4 := psum_mono t1 t2
  rw [psum_mid, h2, psum_one_l, h1] at t4
  generalize psum (pl (ent N xs i k)) (pl (ent N xs k i)) = t at *
  cases t with
  | none => exact absurd t4 (by simp [ple])
  | some v =>
    have a : (1 : Int) ≤ v := t3
    have b : v ≤ (1 : Int) := t4
    rw [show v = 1 by omega]
theorem fs_iff (i : Nat) : fsB N xs i = true ↔ ∀ k, k < i → bdB N xs k i = false := by
  unfold fsB
  rw [List.all_eq_true]
  constructor
  · intro h k hk; have := h k (List.mem_range.2 hk); simpa using this
  · intro h k hk; rw [h k (List.mem_range.1 hk)]; rfl
/-- The program's class is named by its first clock. -/
theorem rp_spec (h : OkZ N xs) (i : Nat) (hi : i ≤ N) : rpF N xs i ≤ i ∧ bdB N xs (rpF N xs i) i = true ∧ ∀ k, k < rpF N xs i → bdB N xs k i = false := by
  induction i using Nat.strongRecOn with
  | ind i ih =>
    have V : ∀ a b, a ≤ N → b ≤ N → vld (ent N xs a b) = true := fun a b ha hb => (h.el ha hb).val
    have P : ∀ k, k < i → ((decide (rpF N xs k = k) && decide (adF (ent N xs i k) (ent N xs k i) = 1)) = true ↔ (rpF N xs k = k ∧ bdB N xs k i = true)) := fun k hk => by
      rw [Bool.and_eq_true, decide_eq_true_eq, decide_eq_true_eq, ad_one (V i k hi (by omega)) (V k i (by omega) hi), ← bd_iff, bd_symm]
    rw [rpF]
    cases hf : (List.range i).attach.find? fun k => decide (rpF N xs k.1 = k.1) && decide (adF (ent N xs i k.1) (ent N xs k.1 i) = 1) with
    | none =>
      rw [List.find?_eq_none] at hf
      refine ⟨Nat.le_refl _, bd_refl h hi, fun k hk => ?_⟩
      have hk : k < i := hk
      -- the first one of the class of k
      cases hb : bdB N xs k i with
      | false => rfl
      | true =>
        obtain ⟨r1, r2, r3⟩ := ih k hk (by omega)
        have hrb := bd_trans h (by omega) (by omega) hi r2 hb
        obtain ⟨s1, s2, s3⟩ := ih (rpF N xs k) (by omega) (by omega)
        have hrr : rpF N xs (rpF N xs k) = rpF N xs k := by
          rcases Nat.lt_or_ge (rpF N xs (rpF N xs k)) (rpF N xs k) with c | c
          · have := r3 _ c
            rw [bd_trans h (by omega) (by omega) (by omega) s2 r2] at this
            cases this
          · omega
        have := hf ⟨rpF N xs k, List.mem_range.2 (by omega)⟩ (List.mem_attach _ _)
        exact absurd ((P _ (by omega)).2 ⟨hrr, hrb⟩) this
    | some r =>
      obtain ⟨r, hr⟩ := r
      have hri := List.mem_range.1 hr
      have hs := List.find?_some hf
      obtain ⟨p1, p2⟩ := (P r hri).1 hs
      refine ⟨Nat.le_of_lt hri, p2, fun k hk => ?_⟩
      have hk : k < r := hk
      cases hb : bdB N xs k i with
      | false => rfl
      | true =>
        obtain ⟨r1, r2, r3⟩ := ih r hri (by omega)
        rw [p1] at r3
        have := r3 k hk
        rw [bd_symm r i] at p2
        rw [bd_trans h (by omega) hi (by omega) hb p2] at this
        cases this
theorem rp_eq (h : OkZ N xs) {i j : Nat} (hi : i ≤ N) (hj : j ≤ N) : rpF N xs i = rpF N xs j ↔ bdB N xs i j = true := by
  obtain ⟨a1, a2, a3⟩ := rp_spec h i hi
  obtain ⟨b1, b2, b3⟩ := rp_spec h j hj
  constructor
  · intro e
    rw [e] at a2
    rw [bd_symm] at a2
    exact bd_trans h hi (by omega) hj a2 b2
  · intro e
    have c1 := bd_trans h (by omega) hi hj a2 e
    rw [bd_symm] at e
    have c2 := bd_trans h (by omega) hj hi b2 e
    rcases Nat.lt_trichotomy (rpF N xs i) (rpF N xs j) with c | c | c
    · rw [b3 _ c] at c1; cases c1
    · exact c
    · rw [a3 _ c] at c2; cases c2
theorem rp_first (h : OkZ N xs) {i : Nat} (hi : i ≤ N) : rpF N xs i = i ↔ fsB N xs i = true := by
  obtain ⟨a1, a2, a3⟩ := rp_spec h i hi
  rw [fs_iff]
  constructor
  · intro e k hk; exact a3 k (by omega)
  · intro e
    rcases Nat.lt_or_ge (rpF N xs i) i with c | c
    · rw [e _ c] at a2; cases a2
    · omega
theorem nf_iff (h : OkZ N xs) {i j : Nat} (hi : i ≤ N) (hj : j ≤ N) (hij : i ≠ j) (hb : bdB N xs i j = true) : nfF N xs i = j ↔ nxB N xs i j = true := by
  have R : ∀ k, k ≤ N → (rpF N xs k = rpF N xs i ↔ bdB N xs k i = true) := fun k hk => rp_eq h hk hi
  have hbj : bdB N xs j i = true := by rw [bd_symm]; exact hb
  have hnx : nxB N xs i j = true ↔ ∀ k, k ≤ N → k ≠ i → k ≠ j → bdB N xs k i = true → ¬ ((i < j ∧ i < k ∧ k < j) ∨ (j < i ∧ (i < k ∨ k < j))) := by
    unfold nxB
    rw [List.all_eq_true]
    constructor
    · intro h k hk h1 h2 h3
      have := h k (List.mem_range.2 (by omega))
      simp only [Bool.or_eq_true, decide_eq_true_eq, Bool.not_eq_true', Bool.or_eq_false_iff, decide_eq_false_iff_not] at this
      rcases this with ((t | t) | t) | t
      · exact absurd t h1
      · exact absurd t h2
      · rw [h3] at t; cases t
      · omega
    · intro h k hk
      have hk := List.mem_range.1 hk
      simp only [Bool.or_eq_true, decide_eq_true_eq, Bool.not_eq_true', Bool.or_eq_false_iff, decide_eq_false_iff_not]
      by_cases h1 : k = i
      · exact .inl (.inl (.inl h1))
      by_cases h2 : k = j
      · exact .inl (.inl (.inr h2))
      cases h3 : bdB N xs k i with
      | false => exact .inl (.inr rfl)
      | true => have := h k (by omega) h1 h2 h3; right; omega
  rw [hnx]
  unfold nfF
  obtain ⟨r1, r2, r3⟩ := rp_spec h i hi
  cases hf : (List.range (N + 1)).find? fun k => decide (i < k) && decide (rpF N xs k = rpF N xs i) with
  | none =>
    rw [List.find?_eq_none] at hf
    have hno : ∀ k, k ≤ N → i < k → bdB N xs k i = false := fun k hk hik => by
      cases hb' : bdB N xs k i with
      | false => rfl
      | true => exact absurd (by simp [hik, (R k hk).2 hb']) (hf k (List.mem_range.2 (by omega)))
    have hji : j < i := by
      rcases Nat.lt_trichotomy i j with c | c | c
      · rw [hno j hj c] at hbj; cases hbj
      · exact absurd c hij
      · exact c
    show rpF N xs i = j ↔ _
    constructor
    · intro e k hk h1 h2 h3
      have : ¬ k < j := fun c => by rw [r3 k (by omega)] at h3; cases h3
      have : ¬ i < k := fun c => by rw [hno k hk c] at h3; cases h3
      omega
    · intro hh
      have c1 : ¬ rpF N xs i < j := fun c => hh _ (by omega) (by omega) (by omega) r2 (.inr ⟨hji, .inr c⟩)
      have c2 : ¬ j < rpF N xs i := fun c => by rw [r3 j c] at hbj; cases hbj
      omega
  | some r =>
    have hs := List.find?_some hf
    simp only [Bool.and_eq_true, decide_eq_true_eq] at hs
    have hrN : r ≤ N := by have := List.mem_range.1 (List.mem_of_find?_eq_some hf); omega
    have hrb := (R r hrN).1 hs.2
    have hmin : ∀ k, i < k → k < r → bdB N xs k i = false := fun k h1 h2 => by
      cases hb' : bdB N xs k i with
      | false => rfl
      | true =>
        exfalso
        have h3 := (R k (by omega)).2 hb'
        have := (List.find?_range_eq_some.1 hf).2.2 k h2
        simp [h1, h3] at this
    show r = j ↔ _
    constructor
    · rintro rfl k hk h1 h2 h3
      have : ¬ (i < k ∧ k < r) := fun c => by rw [hmin k c.1 c.2] at h3; cases h3
      omega
    · intro hh
      rcases Nat.lt_trichotomy r j with c | c | c
      · exact absurd (.inl ⟨by omega, hs.1, c⟩) (hh r hrN (by omega) (by omega) hrb)
      · exact c
      · rcases Nat.lt_or_ge i j with d | d
        · rw [hmin j d c] at hbj; cases hbj
        · exact absurd (.inr ⟨by omega, .inl hs.1⟩) (hh r hrN (by omega) (by omega) hrb)
/-- Both keep the same constraints. -/
theorem pk_eq (h : OkZ N xs) {i j : Nat} (hi : i ≤ N) (hj : j ≤ N) : pkB N xs i j = kpB N xs i j := by
  have V : ∀ a b, a ≤ N → b ≤ N → vld (ent N xs a b) = true := fun a b ha hb => (h.el ha hb).val
  unfold pkB kpB
  by_cases h0 : i = j ∨ ent N xs i j = 1099511627776
  · rw [if_pos h0]
    rcases h0 with e | e
    · simp [e]
    · simp [e]
  rw [if_neg h0]
  have h1 : i ≠ j := fun e => h0 (.inl e)
  have h2 : ent N xs i j ≠ 1099511627776 := fun e => h0 (.inr e)
  rw [decide_eq_true h1, decide_eq_true h2, Bool.and_true, Bool.true_and]
  cases hb : bdB N xs i j with
  | true =>
    rw [if_pos ((rp_eq h hi hj).2 hb), if_pos rfl]
    unfold insB
    rw [Bool.eq_iff_iff, Bool.and_eq_true, Bool.and_eq_true, decide_eq_true_eq, decide_eq_true_eq, decide_eq_true_eq, nf_iff h hi hj h1 hb]
    constructor
    · rintro ⟨a, b⟩; exact ⟨a, b.imp (fun h => by omega) id⟩
    · rintro ⟨a, b⟩; exact ⟨a, b.imp (fun h => by omega) id⟩
  | false =>
    rw [if_neg (fun e => by rw [(rp_eq h hi hj).1 e] at hb; cases hb), if_neg (by simp)]
    unfold btwB
    have f1 : decide (rpF N xs i = i) = fsB N xs i := by rw [Bool.eq_iff_iff, decide_eq_true_eq]; exact rp_first h hi
    have f2 : decide (rpF N xs j = j) = fsB N xs j := by rw [Bool.eq_iff_iff, decide_eq_true_eq]; exact rp_first h hj
    rw [f1, f2]
    cases g1 : fsB N xs i with
    | false => rfl
    | true =>
      cases g2 : fsB N xs j with
      | false => rfl
      | true =>
        simp only [Bool.and_self, Bool.true_and]
        have hall : ∀ k, k ∈ List.range (N + 1) → (!(decide (i = 0) && decide (rpF N xs k = j) && decide (ent N xs 0 k = 1)) && !(decide (rpF N xs k = k) && decide (k ≠ i) && decide (k ≠ j) && decide (adF (ent N xs i k) (ent N xs k j) = ent N xs i j))) =
            (!(decide (i = 0) && bdB N xs k j && decide (ent N xs 0 k = 1)) && !(fsB N xs k && decide (k ≠ i ∧ k ≠ j) && decide (ent N xs i j = lsum (ent N xs i k) (ent N xs k j)))) := fun k hk => by
          have hk : k ≤ N := by have := List.mem_range.1 hk; omega
          have e1 : decide (rpF N xs k = j) = bdB N xs k j := by
            rw [Bool.eq_iff_iff, decide_eq_true_eq, ← rp_eq h hk hj, (rp_first h hj).2 g2]
          have e2 : decide (rpF N xs k = k) = fsB N xs k := by rw [Bool.eq_iff_iff, decide_eq_true_eq]; exact rp_first h hk
          have e3 : decide (adF (ent N xs i k) (ent N xs k j) = ent N xs i j) = decide (ent N xs i j = lsum (ent N xs i k) (ent N xs k j)) := by
            rw [Bool.eq_iff_iff, decide_eq_true_eq, decide_eq_true_eq]
            exact ad_is (V i k hi hk) (V k j hk hj) (V i j hi hj) h2
          have e4 : decide (k ≠ i ∧ k ≠ j) = (decide (k ≠ i) && decide (k ≠ j)) := Bool.decide_and _ _
          rw [e1, e2, e3, e4, Bool.and_assoc (fsB N xs k)]
        rw [Bool.eq_iff_iff, List.all_eq_true, List.all_eq_true]
        exact ⟨fun H k hk => by rw [← hall k hk]; exact H k hk, fun H k hk => by rw [hall k hk]; exact H k hk⟩
/-- The constraints of one row, of the first rows. -/
def redRow (N : Nat) (xs : List Int) (kp : Nat → Nat → Bool) (i : Nat) : Nat → List (Int × Int × Int)
  | 0 => []
  | j + 1 => redRow N xs kp i j ++ (if kp i j then [((i : Int), (j : Int), ent N xs i j)] else [])
def redTo (N : Nat) (xs : List Int) (kp : Nat → Nat → Bool) : Nat → List (Int × Int × Int)
  | 0 => []
  | i + 1 => redTo N xs kp i ++ redRow N xs kp i (N + 1)
theorem red_eq (h : OkZ N xs) (q : Nat) (hq : q ≤ N + 1) : redTo N xs (pkB N xs) q = redTo N xs (kpB N xs) q := by
  have row : ∀ i, i ≤ N → ∀ j, j ≤ N + 1 → redRow N xs (pkB N xs) i j = redRow N xs (kpB N xs) i j := fun i hi j => by
    induction j with
    | zero => intro _; rfl
    | succ j ih => intro hj; rw [redRow, redRow, ih (by omega), pk_eq h hi (by omega)]
  induction q with
  | zero => rfl
  | succ q ih => rw [redTo, redTo, ih (by omega), row q (by omega) (N + 1) (Nat.le_refl _)]
end
end Go.Proofs.Ytkgaipcgdldfdaa
