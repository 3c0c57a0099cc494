/- The reduced constraints make the zone; without one of them they make a greater one. Plain Lean. -/
import Derived.Test.YtkgaipcgdldfdaaFwL
import Derived.Test.YtkgaipcgdldfdaaMinP
namespace Go.Proofs.Ytkgaipcgdldfdaa
open Go.RowKit
set_option linter.unusedVariables false

/-- The outcome of closing, where it is no error, is a valid zone. -/
theorem closed_ok {N : Nat} {zs m A : List Int} (hN : N ≤ 10) (hz : OkZ N zs) (hl : m.length = (N + 1) * (N + 1)) (hge : ∀ i j, i ≤ N → j ≤ N → ple (pl (ent N zs i j)) (pl (ent N m i j))) (hv : ∀ i j, i ≤ N → j ≤ N → vld (ent N m i j) = true)
    (h : closedF N m = (0, A)) : OkZ N A := by
  obtain ⟨D, cD, _, dr, _, dU, dE, dg, hneg, _⟩ := closed_exact hN hz hl hge hv
  unfold closedF at h
  rw [hneg] at h
  simp only [Bool.false_eq_true, if_false] at h
  split at h
  · rename_i hall
    obtain rfl : fw N m = A := (Prod.mk.inj h).2
    have hlen : (fw N m).length = (N + 1) * (N + 1) := by rw [fw_len]; exact hl
    have vv : ∀ i j, i ≤ N → j ≤ N → vld (ent N (fw N m) i j) = true := fun i j hi hj => vld_gi hall (by rw [hlen]; exact idx_lt N i j hi hj)
    have ex : ∀ i j, i ≤ N → j ≤ N → ent N (fw N m) i j ≠ 1099511627776 → D i j = some (ent N (fw N m) i j) := fun i j hi hj hne => by
      have u := dU i j hi hj
      rw [pl_fin hne] at u
      cases e : D i j with
      | none => rw [e] at u; exact absurd u (by simp [ple])
      | some y =>
        rw [e] at u
        have u : y ≤ ent N (fw N m) i j := u
        have := vv i j hi hj
        rw [vld_iff] at this
        rw [dE i j y hi hj e (by omega)]
    refine OkZ.mk' hN hlen (fun i j hi hj => ⟨vv i j (by omega) hj, fun e => by subst e; exact dg i (by omega), fun e => ?_⟩) (fun i j k hi hj hk => ?_)
    · subst e
      have r := dr j hj
      show ent N (fw N m) 0 j ≤ 1
      cases e : D 0 j with
      | none => rw [e] at r; exact absurd r (by simp [ple])
      | some y => rw [e] at r; have r : y ≤ 1 := r; rw [dE 0 j y (Nat.zero_le _) hj e (by omega)]; exact r
    · show ent N (fw N m) i j ≤ lsum (ent N (fw N m) i k) (ent N (fw N m) k j)
      have v1 := vv i k (by omega) hk
      have v2 := vv k j hk hj
      have v3 := vv i j (by omega) hj
      rw [vld_iff] at v1 v2 v3
      by_cases c : ent N (fw N m) i k = 1099511627776 ∨ ent N (fw N m) k j = 1099511627776
      · rw [lsum_nl _ _ c]; omega
      · have c1 : ent N (fw N m) i k ≠ 1099511627776 := fun h => c (.inl h)
        have c2 : ent N (fw N m) k j ≠ 1099511627776 := fun h => c (.inr h)
        have t := cD.tri i j k (by omega) hj hk
        rw [ex i k (by omega) hk c1, ex k j hk hj c2] at t
        rw [lsum_fin' c1 c2 (by unfold Rg; omega) (by unfold Rg; omega)]
        have s : psum (some (ent N (fw N m) i k)) (some (ent N (fw N m) k j)) = some (ent N (fw N m) i k + ent N (fw N m) k j - (if ent N (fw N m) i k % 2 = 0 ∧ ent N (fw N m) k j % 2 = 0 then 0 else 1)) := rfl
        rw [s] at t
        cases e : D i j with
        | none => rw [e] at t; exact absurd t (by simp [ple])
        | some y =>
          rw [e] at t
          have t : y ≤ _ := t
          have b : (if ent N (fw N m) i k % 2 = 0 ∧ ent N (fw N m) k j % 2 = 0 then (0 : Int) else 1) ≤ 1 ∧ 0 ≤ (if ent N (fw N m) i k % 2 = 0 ∧ ent N (fw N m) k j % 2 = 0 then (0 : Int) else 1) := by split <;> omega
          rw [dE i j y (by omega) hj e (by omega)]; exact t
  · exact absurd (Prod.mk.inj h).1 (by omega)

section
variable {N : Nat} {xs : List Int}
/-- The zone in unbounded limits. -/
def Zm (N : Nat) (xs : List Int) (i j : Nat) : Lm := pl (ent N xs i j)
theorem lsum_eq_psum {a b c : Int} (ha : a ≠ 1099511627776) (hc : c ≠ 1099511627776) (hr : Rg 1152921504606846976 a) (hb : Rg 1152921504606846976 b) (hcr : Rg 1152921504606846976 c) : a = lsum b c → b ≠ 1099511627776 := by
  intro h e; rw [lsum_nl b c (.inl e)] at h; exact ha h
theorem z_split (h : OkZ N xs) {i j k : Nat} (hi : i ≤ N) (hj : j ≤ N) (hk : k ≤ N) (hn : ent N xs i j ≠ 1099511627776) : ent N xs i j = lsum (ent N xs i k) (ent N xs k j) ↔ Zm N xs i j = psum (Zm N xs i k) (Zm N xs k j) := by
  have a := h.elo hi hk
  have b := h.elo hk hj
  unfold Zm
  by_cases e : ent N xs i k = 1099511627776 ∨ ent N xs k j = 1099511627776
  · have p : psum (pl (ent N xs i k)) (pl (ent N xs k j)) = none := by
      rcases e with e | e
      · rw [e, pl_nl]; rfl
      · rw [e, pl_nl]; cases pl (ent N xs i k) <;> rfl
    rw [lsum_nl _ _ e, p, pl_fin hn]
    exact ⟨fun h => absurd h hn, fun h => by cases h⟩
  · have ha : ent N xs i k ≠ 1099511627776 := fun h => e (.inl h)
    have hb : ent N xs k j ≠ 1099511627776 := fun h => e (.inr h)
    rw [lsum_fin' ha hb (by unfold Rg; omega) (by unfold Rg; omega), pl_fin ha, pl_fin hb, pl_fin hn]
    simp only [psum, Option.some.injEq]
theorem Zm.cn (h : OkZ N xs) : Cn N (Zm N xs) := h.cn
theorem bd_z (h : OkZ N xs) {i j : Nat} (hi : i ≤ N) (hj : j ≤ N) : bdB N xs i j = true ↔ psum (Zm N xs i j) (Zm N xs j i) = some 1 := bd_pure h hi hj
/-- What is bound can be stepped over. -/
theorem z_left (h : OkZ N xs) {i j k : Nat} (hi : i ≤ N) (hj : j ≤ N) (hk : k ≤ N) (hb : bdB N xs i k = true) : Zm N xs i j = psum (Zm N xs i k) (Zm N xs k j) := by
  rw [bd_z h hi hk] at hb
  refine ple_anti ((Zm.cn h).tri i j k hi hj hk) ?_
  have t := psum_mono (ple_refl (Zm N xs i k)) ((Zm.cn h).tri k j i hk hj hi)
  rwa [← psum_assoc, hb, psum_one_l] at t
theorem z_right (h : OkZ N xs) {i j k : Nat} (hi : i ≤ N) (hj : j ≤ N) (hk : k ≤ N) (hb : bdB N xs k j = true) : Zm N xs i j = psum (Zm N xs i k) (Zm N xs k j) := by
  rw [bd_z h hk hj, psum_comm] at hb
  refine ple_anti ((Zm.cn h).tri i j k hi hj hk) ?_
  have t := psum_mono ((Zm.cn h).tri i k j hi hk hj) (ple_refl (Zm N xs k j))
  rwa [psum_assoc, hb, psum_one_r] at t
theorem kp_ne {i j : Nat} (h : kpB N xs i j = true) : i ≠ j ∧ ent N xs i j ≠ 1099511627776 := by
  unfold kpB at h
  split at h
  · cases h
  · rename_i c; exact ⟨fun e => c (.inl e), fun e => c (.inr e)⟩
theorem kp_in {i j : Nat} (h0 : i ≠ j) (h1 : ent N xs i j ≠ 1099511627776) (hb : bdB N xs i j = true) : kpB N xs i j = true ↔ nxB N xs i j = true ∧ (i ≠ 0 ∨ ent N xs i j ≠ 1) := by
  unfold kpB
  rw [if_neg (by simp [h0, h1]), if_pos (by simpa using hb), Bool.and_eq_true, decide_eq_true_eq]
theorem kp_out {i j : Nat} (h0 : i ≠ j) (h1 : ent N xs i j ≠ 1099511627776) (hb : bdB N xs i j = false) : kpB N xs i j = true ↔ fsB N xs i = true ∧ fsB N xs j = true ∧ ∀ k, k ≤ N → ¬ (i = 0 ∧ bdB N xs k j = true ∧ ent N xs 0 k = 1) ∧ ¬ (fsB N xs k = true ∧ k ≠ i ∧ k ≠ j ∧ ent N xs i j = lsum (ent N xs i k) (ent N xs k j)) := by
  unfold kpB; rw [if_neg (by simp [h0, h1]), if_neg (by simp [hb])]
  simp only [Bool.and_eq_true, List.all_eq_true, List.mem_range, Bool.not_eq_true', Bool.and_eq_false_iff, decide_eq_false_iff_not]
  constructor
  · rintro ⟨⟨a, b⟩, c⟩
    refine ⟨a, b, fun k hk => ?_⟩
    obtain ⟨c1, c2⟩ := c k (by omega)
    refine ⟨fun ⟨e1, e2, e3⟩ => ?_, fun ⟨e1, e2, e3, e4⟩ => ?_⟩
    · rcases c1 with (t | t) | t
      · exact t e1
      · rw [e2] at t; cases t
      · exact t e3
    · rcases c2 with (t | t) | t
      · rw [e1] at t; cases t
      · exact t ⟨e2, e3⟩
      · exact t e4
  · rintro ⟨a, b, c⟩
    refine ⟨⟨a, b⟩, fun k hk => ?_⟩
    obtain ⟨c1, c2⟩ := c k (by omega)
    refine ⟨?_, ?_⟩
    · by_cases e1 : i = 0
      · cases e2 : bdB N xs k j with
        | false => exact .inl (.inr rfl)
        | true => exact .inr fun e3 => c1 ⟨e1, e2, e3⟩
      · exact .inl (.inl e1)
    · cases e1 : fsB N xs k with
      | false => exact .inl (.inl rfl)
      | true =>
        by_cases e2 : k ≠ i ∧ k ≠ j
        · exact .inr fun e4 => c2 ⟨e1, e2.1, e2.2, e4⟩
        · exact .inl (.inr e2)
theorem nx_iff {i j : Nat} : nxB N xs i j = true ↔ ∀ k, k ≤ N → k ≠ i → k ≠ j → bdB N xs k i = true → ¬ ((i < j ∧ i < k ∧ k < j) ∨ (j < i ∧ (i < k ∨ k < j))) := by
  unfold nxB
  rw [List.all_eq_true]
  constructor
  · intro h k hk h1 h2 h3
    have := h k (List.mem_range.2 (by omega))
    simp only [Bool.or_eq_true, decide_eq_true_eq, Bool.not_eq_true', Bool.or_eq_false_iff, decide_eq_false_iff_not] at this
    rcases this with ((t | t) | t) | t
    · exact absurd t h1
    · exact absurd t h2
    · rw [h3] at t; cases t
    · omega
  · intro h k hk
    have hk := List.mem_range.1 hk
    simp only [Bool.or_eq_true, decide_eq_true_eq, Bool.not_eq_true', Bool.or_eq_false_iff, decide_eq_false_iff_not]
    by_cases h1 : k = i
    · exact .inl (.inl (.inl h1))
    by_cases h2 : k = j
    · exact .inl (.inl (.inr h2))
    cases h3 : bdB N xs k i with
    | false => exact .inl (.inr rfl)
    | true => have := h k (by omega) h1 h2 h3; right; omega
theorem nx_no {i j : Nat} (h : nxB N xs i j = false) : ∃ k, k ≤ N ∧ k ≠ i ∧ k ≠ j ∧ bdB N xs k i = true ∧ ((i < j ∧ i < k ∧ k < j) ∨ (j < i ∧ (i < k ∨ k < j))) := by
  have h' : ¬ nxB N xs i j = true := by rw [h]; simp
  rw [nx_iff] at h'
  simp only [Classical.not_forall, Classical.not_not] at h'
  obtain ⟨k, a, b, c, d, e⟩ := h'
  exact ⟨k, a, b, c, d, e⟩
/-- The first one of a class. -/
theorem fs_ex (h : OkZ N xs) (i : Nat) (hi : i ≤ N) : ∃ f, f ≤ i ∧ bdB N xs f i = true ∧ fsB N xs f = true := by
  obtain ⟨a, b, c⟩ := rp_spec h i hi
  refine ⟨_, a, b, (fs_iff _).2 fun k hk => ?_⟩
  cases e : bdB N xs k (rpF N xs i) with
  | false => rfl
  | true =>
    have := bd_trans h (by omega) (by omega) hi e b
    rw [c k hk] at this; cases this
theorem fs_eq {i j : Nat} (h1 : fsB N xs i = true) (h2 : fsB N xs j = true) (hb : bdB N xs i j = true) : i = j := by
  rw [fs_iff] at h1 h2
  rcases Nat.lt_trichotomy i j with c | c | c
  · rw [h2 i c] at hb; cases hb
  · exact c
  · rw [bd_symm, h1 j c] at hb; cases hb
theorem fs_zero : fsB N xs 0 = true := (fs_iff _).2 fun k hk => by omega
/-- How many firsts lie on the way from i to j. -/
def cnt (p : Nat → Bool) : Nat → Nat
  | 0 => 0
  | n + 1 => cnt p n + (if p n then 1 else 0)
theorem cnt_le {p q : Nat → Bool} (n : Nat) (h : ∀ k, k < n → p k = true → q k = true) : cnt p n ≤ cnt q n := by
  induction n with
  | zero => exact Nat.le_refl _
  | succ n ih =>
    have := ih (fun k hk => h k (by omega))
    unfold cnt
    cases e : p n with
    | false => simp; omega
    | true => rw [h n (by omega) e]; simp; omega
theorem cnt_lt {p q : Nat → Bool} (n : Nat) (h : ∀ k, k < n → p k = true → q k = true) {m : Nat} (hm : m < n) (h1 : p m = false) (h2 : q m = true) : cnt p n < cnt q n := by
  induction n with
  | zero => omega
  | succ n ih =>
    unfold cnt
    by_cases e : m = n
    · subst e
      have := cnt_le m (fun k hk => h k (by omega))
      rw [h1, h2]; simp; omega
    · have := ih (fun k hk => h k (by omega)) (by omega)
      cases e : p n with
      | false => simp; omega
      | true => rw [h n (by omega) e]; simp; omega
open Classical in
noncomputable def onB (N : Nat) (xs : List Int) (i j k : Nat) : Bool := decide (fsB N xs k = true ∧ k ≠ i ∧ k ≠ j ∧ Zm N xs i j = psum (Zm N xs i k) (Zm N xs k j))
theorem onB_iff {i j k : Nat} : onB N xs i j k = true ↔ (fsB N xs k = true ∧ k ≠ i ∧ k ≠ j ∧ Zm N xs i j = psum (Zm N xs i k) (Zm N xs k j)) := by unfold onB; rw [decide_eq_true_eq]
end
end Go.Proofs.Ytkgaipcgdldfdaa
