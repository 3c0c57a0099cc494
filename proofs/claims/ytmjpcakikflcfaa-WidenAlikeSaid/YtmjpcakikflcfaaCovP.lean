/- A point of a widened zone is covered by one of the zone: the plain law. -/
import Derived.Test.YtmjpcakikflcfaaSound
import Derived.Test.YtmjpcakikflcfaaCov3
namespace Go.Proofs.Ytmjpcakikflcfaa
open Go.RowKit
set_option linter.unusedVariables false

theorem hasF_inv {n : Int} {xs : List Int} {ps : List (Int × Int)} {e : Int} (h : hasF n xs ps = (true, e)) : readyF n xs ps = 0 ∧ AllM ps.length xs ps (ps.length + 1) := by
  unfold hasF at h
  split at h
  · rename_i hr
    refine ⟨hr, ?_⟩
    simp only [Prod.mk.injEq, decide_eq_true_eq] at h
    exact h.1
  · simp at h
theorem meet_true {p q l : Int} (hv : vr p q = true) (hl : vld l = true) (h : (meetR p q l).1 = true) : l = 1099511627776 ∨ (l % 2 = 0 ∧ p < l / 2 * q) ∨ (l % 2 = 1 ∧ p ≤ l / 2 * q) := by
  unfold meetR at h
  rw [if_pos ⟨hv, hl⟩] at h
  split at h
  · left; assumption
  · split at h
    · right; left; exact ⟨by assumption, by simpa using h⟩
    · right; right; exact ⟨by omega, by simpa using h⟩
theorem ck_ok {ps : List (Int × Int)} (h : AllP ps ps.length) {i : Nat} (hi : i ≤ ps.length) : vr (ck ps i).1 (ck ps i).2 = true ∧ 0 ≤ (ck ps i).1 := by
  unfold ck; split
  · exact ⟨by decide, by omega⟩
  · have := h (i - 1) (by omega)
    unfold okP at this
    rw [Bool.and_eq_true, decide_eq_true_eq] at this
    exact this
/-- The value of a clock at the enlarged point. -/
def cX (c : Int) (ps : List (Int × Int)) (i : Nat) : Int := (ck ps i).1 * (c / (ck ps i).2)
theorem scale_dif {a b a' b' e e' p q c : Int} (hc : 0 < c) (h1 : c = b * e) (h2 : c = b' * e') (h : p * (b * b') = (a * b' - a' * b) * q) : (a * e - a' * e') * q = c * p := by
  have k1 : c * ((a * e - a' * e') * q) = c * (c * p) := by
    have l1 : c * (c * p) = p * (b * b') * (e * e') := by
      have : c * (c * p) = (b * e) * ((b' * e') * p) := by rw [← h1, ← h2]
      rw [this]; ac_rfl
    have l2 : (a * b' - a' * b) * q * (e * e') = (a * e * (b' * e') - a' * e' * (b * e)) * q := by
      rw [Int.sub_mul, Int.sub_mul, Int.sub_mul]
      congr 1 <;> ac_rfl
    rw [l1, h, l2, ← h1, ← h2, ← Int.sub_mul]; ac_rfl
  exact Int.eq_of_mul_eq_mul_left (by omega) k1
def sc (c l : Int) : Int := 2 * (l / 2 * c) + l % 2
theorem sc_mono {c a b : Int} (hc : 1 ≤ c) (h : a ≤ b) : sc c a ≤ sc c b := by
  unfold sc
  by_cases e : a / 2 = b / 2
  · rw [e]; omega
  · have h1 : (a / 2 + 1) * c ≤ b / 2 * c := Int.mul_le_mul_of_nonneg_right (by omega) (by omega)
    rw [Int.add_mul] at h1
    omega
theorem scl_fin {c l : Int} (h : l ≠ 1099511627776) : scl c l = sc c l := by unfold scl sc; rw [if_neg h, Int.mul_assoc]
theorem cov_dif {N : Nat} {W : List Int} {ps : List (Int × Int)} {c : Int} {e : Int} (hW : OkZ N W) (hN : ps.length = N) (hc : 1 ≤ c) (h : hasF N W ps = (true, e)) (hcom : Com ps ps.length c.toNat) {i j : Nat} (hi : i ≤ N) (hj : j ≤ N) (hn : ent N W i j ≠ 1099511627776) :
    2 * (cX c ps i - cX c ps j) + 1 ≤ sc c (ent N W i j) := by
  subst hN
  obtain ⟨hr, hM⟩ := hasF_inv h
  obtain ⟨hfit, hall, hdd⟩ := readyF_inv hr
  have hm := hM i j (by omega) hj
  have hd := hdd i j (by omega) hj
  unfold mt at hm
  obtain ⟨vi, pi⟩ := ck_ok hall hi
  obtain ⟨vj, pj⟩ := ck_ok hall hj
  have di : (ck ps i).2 ∣ c := by
    unfold ck; split
    · exact ⟨c, by omega⟩
    · have := (hcom (i - 1) (by omega)).2.1; rwa [Int.toNat_of_nonneg (by omega)] at this
  have dj : (ck ps j).2 ∣ c := by
    unfold ck; split
    · exact ⟨c, by omega⟩
    · have := (hcom (j - 1) (by omega)).2.1; rwa [Int.toNat_of_nonneg (by omega)] at this
  unfold cX dif at *
  generalize ck ps i = P at *
  generalize ck ps j = Q at *
  obtain ⟨a, b⟩ := P
  obtain ⟨a', b'⟩ := Q
  simp only at *
  obtain ⟨b1, b2, a1, a2, _⟩ := (vr_iff a b).1 vi
  obtain ⟨b1', b2', a1', a2', _⟩ := (vr_iff a' b').1 vj
  have hw : wrap64 (-a') = -a' := by unfold wrap64; omega
  unfold subR at hm hd
  rw [hw] at hm hd
  generalize hR : addR a b (-a') b' = R at *
  obtain ⟨⟨p, q⟩, x⟩ := R
  simp only at hm hd
  subst hd
  by_cases hv : vr a b = true ∧ vr (-a') b' = true
  · rw [addR_yes hv] at hR
    obtain ⟨m1, m2, m3⟩ := mkR_val (Int.mul_pos (by omega) (by omega)) hR rfl
    obtain ⟨e1, he1⟩ := di
    obtain ⟨e2, he2⟩ := dj
    have q1 : c / b = e1 := by rw [he1]; exact Int.mul_ediv_cancel_left _ (by omega)
    have q2 : c / b' = e2 := by rw [he2]; exact Int.mul_ediv_cancel_left _ (by omega)
    rw [q1, q2]
    have key := scale_dif (a := a) (a' := a') (p := p) (q := q) (by omega) he1 he2 (by rw [m1, Int.neg_mul, Int.sub_eq_add_neg])
    have hl := (hW.el hi hj).val
    have hmt := meet_true m3 hl hm
    have hen : gi W (i * (ps.length + 1) + j) = ent ps.length W i j := rfl
    rw [hen] at hmt
    unfold sc
    generalize ent ps.length W i j = l at *
    generalize a * e1 - a' * e2 = V at *
    generalize l / 2 = k at *
    rcases hmt with h0 | ⟨h1, h2⟩ | ⟨h1, h2⟩
    · exact absurd h0 hn
    · have h3 : c * p < c * (k * q) := Int.mul_lt_mul_of_pos_left h2 (by omega)
      rw [← key] at h3
      have h4 : V * q < (k * c) * q := by
        have : c * (k * q) = (k * c) * q := by ac_rfl
        omega
      have h5 := Int.lt_of_mul_lt_mul_right h4 (by omega)
      omega
    · have h3 : c * p ≤ c * (k * q) := Int.mul_le_mul_of_nonneg_left h2 (by omega)
      rw [← key] at h3
      have h4 : V * q ≤ (k * c) * q := by
        have : c * (k * q) = (k * c) * q := by ac_rfl
        omega
      have h5 := Int.le_of_mul_le_mul_right h4 (by omega)
      omega
  · rw [addR_no hv] at hR
    simp at hR
/-- What is known of the difference of two clocks, by the rule that widens their limit. -/
theorem wid_dif {N : Nat} {xs k0 k1 W : List Int} {ps : List (Int × Int)} {c e : Int} (hx : OkZ N xs) (hW : OkZ N W) (hN : ps.length = N) (hc : 1 ≤ c) (h : hasF N W ps = (true, e)) (hcom : Com ps ps.length c.toNat)
    (hle : ∀ i j, i ≤ N → j ≤ N → ent N W i j ≤ ent N (widM N k0 k1 xs) i j) {i j : Nat} (hi : i ≤ N) (hj : j ≤ N) (hij : i ≠ j) (hk1 : 1 ≤ j → -1 ≤ gi k1 (j - 1)) :
    ent N xs i j = 1099511627776 ∨ (1 ≤ i ∧ (gi k0 (i - 1) = -1 ∨ gi k0 (i - 1) < ent N xs i j / 2)) ∨ (1 ≤ j ∧ gi k1 (j - 1) = -1) ∨
      (1 ≤ j ∧ 2 * (cX c ps i - cX c ps j) + 1 ≤ -2 * (gi k1 (j - 1) * c)) ∨ 2 * (cX c ps i - cX c ps j) + 1 ≤ sc c (ent N xs i j) := by
  have hlen : xs.length = (N + 1) * (N + 1) := by have := hx.len; rwa [Int.toNat_natCast] at this
  have b := hle i j hi hj
  rw [ent_widM hlen hi hj, if_neg hij] at b
  have hv := hx.elo hi hj
  generalize ent N xs i j = l at *
  by_cases c0 : l = 1099511627776
  · exact .inl c0
  by_cases c1 : 1 ≤ i ∧ (gi k0 (i - 1) = -1 ∨ gi k0 (i - 1) < l / 2)
  · exact .inr (.inl c1)
  by_cases c2 : 1 ≤ j ∧ gi k1 (j - 1) = -1
  · exact .inr (.inr (.inl c2))
  unfold wid at b
  rw [if_neg c0, if_neg c1, if_neg c2] at b
  by_cases c3 : 1 ≤ j ∧ l / 2 < - gi k1 (j - 1)
  · rw [if_pos c3] at b
    have hk := hk1 c3.1
    have d := cov_dif hW hN hc h hcom hi hj (by omega)
    have m := sc_mono hc b
    refine .inr (.inr (.inr (.inl ⟨c3.1, ?_⟩)))
    have : sc c (-2 * gi k1 (j - 1)) = -2 * (gi k1 (j - 1) * c) := by
      unfold sc
      rw [show -2 * gi k1 (j - 1) / 2 = - gi k1 (j - 1) by omega, Int.neg_mul]; omega
    omega
  · rw [if_neg c3] at b
    have d := cov_dif hW hN hc h hcom hi hj (by omega)
    have m := sc_mono hc b
    exact .inr (.inr (.inr (.inr (by omega))))
theorem sok_of {xs : List Int} (h : xs.all sokB = true) {k : Nat} (hk : k < xs.length) : gi xs k = 1099511627776 ∨ (-1048576 ≤ gi xs k / 2 ∧ gi xs k / 2 ≤ 1048576) := by
  have := List.all_eq_true.1 h _ (gi_mem hk)
  unfold sokB at this
  simpa using this
theorem sc_rg {c l : Int} (hc1 : 1 ≤ c) (hc2 : c ≤ 500) (h1 : -1048576 ≤ l / 2) (h2 : l / 2 ≤ 1048576) : -1048576000 ≤ sc c l ∧ sc c l ≤ 1048576001 := by
  have : (l / 2 * c).natAbs ≤ 1048576 * 500 := by
    rw [Int.natAbs_mul]; exact Nat.mul_le_mul (by omega) (by omega)
  unfold sc
  generalize l / 2 * c = t at *
  omega
theorem ent_scl {N : Nat} {xs : List Int} {c : Int} (hl : xs.length = (N + 1) * (N + 1)) {i j : Nat} (hi : i ≤ N) (hj : j ≤ N) : ent N (xs.map (scl c)) i j = scl c (ent N xs i j) := by
  have hk := idx_lt N i j hi hj
  unfold ent
  rw [gi_of (by rw [List.length_map, hl]; exact hk), List.getElem_map, ← gi_of (by rw [hl]; exact hk)]
/-- The enlarged zone is valid. -/
theorem scl_ok {N : Nat} {xs : List Int} {c : Int} (hx : OkZ N xs) (hs : xs.all sokB = true) (hc1 : 1 ≤ c) (hc2 : c ≤ 500) : OkZ N (xs.map (scl c)) := by
  have hN : N ≤ 10 := by have := hx.hi; omega
  have hlen : xs.length = (N + 1) * (N + 1) := by have := hx.len; rwa [Int.toNat_natCast] at this
  have so : ∀ i j, i ≤ N → j ≤ N → ent N xs i j = 1099511627776 ∨ (-1048576 ≤ ent N xs i j / 2 ∧ ent N xs i j / 2 ≤ 1048576) := fun i j hi hj => sok_of hs (by rw [hlen]; exact idx_lt N i j hi hj)
  have E : ∀ i j, i ≤ N → j ≤ N → gi (xs.map (scl c)) (i * (N + 1) + j) = scl c (ent N xs i j) := fun i j hi hj => ent_scl hlen hi hj
  refine OkZ.mk' hN (by rw [List.length_map]; exact hlen) (fun i j hi hj => ⟨?_, fun e => ?_, fun e => ?_⟩) (fun i j k hi hj hk => ?_)
  · rw [E i j (by omega) hj, vld_iff]
    rcases so i j (by omega) hj with e | ⟨e1, e2⟩
    · left; rw [e]; unfold scl; rw [if_pos rfl]
    · right
      rw [scl_fin (by omega)]
      have := sc_rg hc1 hc2 e1 e2
      omega
  · subst e
    have d : ent N xs i i = 1 := hx.diagN (by omega)
    rw [E i i (by omega) hj, d, scl_fin (by omega)]; unfold sc; simp
  · subst e
    have r : ent N xs 0 j ≤ 1 := by have := hx.rowN hj; unfold ent; rwa [Nat.zero_mul, Nat.zero_add]
    rw [E 0 j (by omega) hj, scl_fin (by omega)]
    have := sc_mono hc1 r
    have h1 : sc c 1 = 1 := by unfold sc; simp
    omega
  · unfold Tr
    rw [E i j (by omega) (by omega), E i k (by omega) (by omega), E k j (by omega) (by omega)]
    have t : ent N xs i j ≤ lsum (ent N xs i k) (ent N xs k j) := El.gt hx (by omega) (by omega) (by omega)
    have o1 := so i k (by omega) (by omega)
    have o2 := so k j (by omega) (by omega)
    have o3 := so i j (by omega) (by omega)
    generalize ent N xs i j = z at *
    generalize ent N xs i k = a at *
    generalize ent N xs k j = b at *
    have zle : scl c z ≤ 1099511627776 := by
      rcases o3 with e | ⟨e1, e2⟩
      · rw [e]; unfold scl; rw [if_pos rfl]; exact Int.le_refl _
      · rw [scl_fin (by omega)]; have := sc_rg hc1 hc2 e1 e2; omega
    rcases o1 with e | ⟨e1, e2⟩
    · have : scl c a = 1099511627776 := by rw [e]; unfold scl; rw [if_pos rfl]
      rw [lsum_nl _ _ (.inl this)]; exact zle
    rcases o2 with e | ⟨e3, e4⟩
    · have : scl c b = 1099511627776 := by rw [e]; unfold scl; rw [if_pos rfl]
      rw [lsum_nl _ _ (.inr this)]; exact zle
    have ra := sc_rg hc1 hc2 e1 e2
    have rb := sc_rg hc1 hc2 e3 e4
    rw [scl_fin (l := a) (by omega), scl_fin (l := b) (by omega), lsum_fin' (by omega) (by omega) (by unfold Rg; omega) (by unfold Rg; omega)]
    rw [lsum_fin' (by omega) (by omega) (by unfold Rg; omega) (by unfold Rg; omega)] at t
    have zf : z ≠ 1099511627776 := by
      intro h; rw [h] at t; split at t <;> omega
    rw [scl_fin zf]
    refine Int.le_trans (sc_mono hc1 t) ?_
    have half : (a + b - (if a % 2 = 0 ∧ b % 2 = 0 then 0 else 1)) / 2 = a / 2 + b / 2 := by split <;> omega
    unfold sc at *
    rw [half, Int.add_mul]
    generalize a / 2 * c = s at *
    generalize b / 2 * c = u at *
    split <;> split <;> omega
theorem h3 {a b d : Int} (h : 1 ≤ a / 2 + b / 2 + d / 2 ∨ (a / 2 + b / 2 + d / 2 = 0 ∧ a % 2 = 1 ∧ b % 2 = 1 ∧ d % 2 = 1)) : ple (some 1) (psum (some a) (psum (some b) (some d))) := by
  simp only [psum, ple]
  split <;> split <;> omega
end Go.Proofs.Ytmjpcakikflcfaa
