/- A point is in what And makes exactly if it is in the zone and meets the constraints. Plain Lean. -/
import Derived.Test.YtkgaipcgdldfdaaSdc
import Derived.Test.YtkgaipcgdldfdaaClv
import Derived.Test.YtkgaipcgdldfdaaRat
namespace Go.Proofs.Ytkgaipcgdldfdaa
open Go.RowKit
set_option linter.unusedVariables false

/-- The difference of two clocks meets a limit exactly if it does in a scale. -/
theorem dif_sc {ps : List (Int × Int)} {c l : Int} {i j : Nat} (hall : AllP ps ps.length) (hd : (dif ps i j).2 = 0) (hc : 1 ≤ c) (hdv : ∀ i, i ≤ ps.length → (ck ps i).2 ∣ c) (hi : i ≤ ps.length) (hj : j ≤ ps.length) (hl : vld l = true) :
    (meetR (dif ps i j).1.1 (dif ps i j).1.2 l).1 = true ↔ ple (some (2 * (cX c ps i - cX c ps j) + 1)) (psc c l) := by
  obtain ⟨vi, pi⟩ := ck_ok hall hi
  obtain ⟨vj, pj⟩ := ck_ok hall hj
  have di := hdv i hi
  have dj := hdv j hj
  unfold cX dif at *
  generalize ck ps i = P at *
  generalize ck ps j = Q at *
  obtain ⟨a, b⟩ := P
  obtain ⟨a', b'⟩ := Q
  simp only at *
  obtain ⟨b1, b2, a1, a2, _⟩ := (vr_iff a b).1 vi
  obtain ⟨b1', b2', a1', a2', _⟩ := (vr_iff a' b').1 vj
  have hw : wrap64 (-a') = -a' := by unfold wrap64; omega
  unfold subR at hd ⊢
  rw [hw] at hd ⊢
  generalize hR : addR a b (-a') b' = R at *
  obtain ⟨⟨p, q⟩, x⟩ := R
  simp only at hd ⊢
  subst hd
  by_cases hv : vr a b = true ∧ vr (-a') b' = true
  · rw [addR_yes hv] at hR
    obtain ⟨m1, m2, m3⟩ := mkR_val (Int.mul_pos (by omega) (by omega)) hR rfl
    obtain ⟨e1, he1⟩ := di
    obtain ⟨e2, he2⟩ := dj
    have q1 : c / b = e1 := by rw [he1]; exact Int.mul_ediv_cancel_left _ (by omega)
    have q2 : c / b' = e2 := by rw [he2]; exact Int.mul_ediv_cancel_left _ (by omega)
    rw [q1, q2]
    have key := scale_dif (a := a) (a' := a') (p := p) (q := q) (by omega) he1 he2 (by rw [m1, Int.neg_mul, Int.sub_eq_add_neg])
    generalize a * e1 - a' * e2 = V at *
    by_cases hn : l = 1099511627776
    · rw [meetR_nl ⟨m3, hl⟩ hn, hn, psc_nl]
      exact ⟨fun _ => ple_none _, fun _ => rfl⟩
    · rw [psc_fin hn]
      show _ ↔ 2 * V + 1 ≤ sc c l
      unfold sc
      by_cases h2 : l % 2 = 0
      · rw [meetR_strict ⟨m3, hl⟩ hn h2, h2]
        generalize l / 2 = k at *
        have e1 : c * (k * q) = (k * c) * q := by ac_rfl
        simp only [decide_eq_true_eq]
        constructor
        · intro h3
          have h3 : c * p < c * (k * q) := Int.mul_lt_mul_of_pos_left h3 (by omega)
          rw [← key, e1] at h3
          have h5 := Int.lt_of_mul_lt_mul_right h3 (by omega)
          omega
        · intro h3
          have h4 : V * q < (k * c) * q := Int.mul_lt_mul_of_pos_right (by omega) (by omega)
          rw [key, ← e1] at h4
          exact Int.lt_of_mul_lt_mul_left h4 (by omega)
      · rw [meetR_weak ⟨m3, hl⟩ hn h2, show l % 2 = 1 by omega]
        generalize l / 2 = k at *
        have e1 : c * (k * q) = (k * c) * q := by ac_rfl
        simp only [decide_eq_true_eq]
        constructor
        · intro h3
          have h3 : c * p ≤ c * (k * q) := Int.mul_le_mul_of_nonneg_left h3 (by omega)
          rw [← key, e1] at h3
          have h5 := Int.le_of_mul_le_mul_right h3 (by omega)
          omega
        · intro h3
          have h4 : V * q ≤ (k * c) * q := Int.mul_le_mul_of_nonneg_right (by omega) (by omega)
          rw [key, ← e1] at h4
          exact Int.le_of_mul_le_mul_left h4 (by omega)
  · rw [addR_no hv] at hR
    simp at hR
theorem pt_cn (N : Nat) (X : Nat → Int) : Cn N (fun i j => some (2 * (X i - X j) + 1)) := by
  refine ⟨fun i hi => by show some _ = some _; congr 1; omega, fun i j k hi hj hk => ?_⟩
  show 2 * (X i - X j) + 1 ≤ 2 * (X i - X k) + 1 + (2 * (X k - X j) + 1) - (if (2 * (X i - X k) + 1) % 2 = 0 ∧ (2 * (X k - X j) + 1) % 2 = 0 then 0 else 1)
  rw [if_neg (by omega)]
  omega
/-- A scale for a point. -/
def den (ps : List (Int × Int)) : Nat → Int
  | 0 => 1
  | k + 1 => den ps k * (ck ps k).2
theorem den_pos {ps : List (Int × Int)} (h : AllP ps ps.length) (k : Nat) (hk : k ≤ ps.length + 1) : 1 ≤ den ps k := by
  induction k with
  | zero => exact Int.le_refl _
  | succ k ih =>
    have := (vr_iff _ _).1 (ck_ok h (show k ≤ ps.length by omega)).1
    have := Int.mul_pos (show 0 < den ps k by have := ih (by omega); omega) (show 0 < (ck ps k).2 by omega)
    show 1 ≤ den ps k * (ck ps k).2
    omega
theorem den_dvd {ps : List (Int × Int)} (k : Nat) : ∀ i, i < k → (ck ps i).2 ∣ den ps k := by
  induction k with
  | zero => intro i h; omega
  | succ k ih =>
    intro i h
    show _ ∣ den ps k * (ck ps k).2
    by_cases e : i = k
    · rw [e]; exact Int.dvd_mul_left _ _
    · exact Int.dvd_trans (ih i (by omega)) (Int.dvd_mul_right _ _)
/-- Does a point meet a constraint? -/
def kmet (ps : List (Int × Int)) (k : Int × Int × Int) : Bool := (meetR (dif ps k.1.toNat k.2.1.toNat).1.1 (dif ps k.1.toNat k.2.1.toNat).1.2 k.2.2).1
def KMet (ps : List (Int × Int)) (cs : List (Int × Int × Int)) (q : Nat) : Prop := ∀ k, k < q → kmet ps (gk cs k) = true
theorem KMet.succ {ps : List (Int × Int)} {cs : List (Int × Int × Int)} {q : Nat} (h : KMet ps cs q) (h' : kmet ps (gk cs q) = true) : KMet ps cs (q + 1) := fun k hk => by
  by_cases e : k = q
  · rw [e]; exact h'
  · exact h k (by omega)
theorem andTo_le (N : Nat) (m : List Int) (cs : List (Int × Int × Int)) (a n b : Nat) : gi (andTo N m cs (a + n)) b ≤ gi (andTo N m cs a) b := by
  induction n with
  | zero => exact Int.le_refl _
  | succ n ih => rw [← Nat.add_assoc, andTo]; exact Int.le_trans (gi_set_le (imin_le_l _ _) b) ih
theorem andTo_at {N : Nat} {m : List Int} {cs : List (Int × Int × Int)} (hl : m.length = (N + 1) * (N + 1)) (hk : AllK N cs cs.length) {q : Nat} (hq : q < cs.length) : ent N (andTo N m cs cs.length) (gk cs q).1.toNat (gk cs q).2.1.toNat ≤ (gk cs q).2.2 := by
  have h1 := andTo_le N m cs (q + 1) (cs.length - (q + 1)) ((gk cs q).1.toNat * (N + 1) + (gk cs q).2.1.toNat)
  rw [show q + 1 + (cs.length - (q + 1)) = cs.length by omega] at h1
  refine Int.le_trans h1 ?_
  have kq := hk q hq
  generalize hx : gk cs q = x at *
  obtain ⟨I, J, L⟩ := x
  obtain ⟨k1, k2, k3, k4, k5⟩ := (kOk_iff N I J L).1 kq
  rw [andTo, hx, gi_set_same (by rw [andTo_len, hl]; exact idx_lt N _ _ (by simp; omega) (by simp; omega))]
  exact imin_le_r _ _
theorem andTo_vldE {N : Nat} {m : List Int} {cs : List (Int × Int × Int)} (hl : m.length = (N + 1) * (N + 1)) (hm : ∀ i j, i ≤ N → j ≤ N → vld (ent N m i j) = true) (q : Nat) (hk : AllK N cs q) : ∀ i j, i ≤ N → j ≤ N → vld (ent N (andTo N m cs q) i j) = true := by
  induction q with
  | zero => exact hm
  | succ q ih =>
    intro i j hi hj
    have ih := ih (fun k h => hk k (by omega))
    have kq := hk q (by omega)
    rw [andTo]
    generalize gk cs q = x at *
    obtain ⟨I, J, L⟩ := x
    obtain ⟨k1, k2, k3, k4, k5⟩ := (kOk_iff N I J L).1 kq
    rw [ent_set (by rw [andTo_len]; exact hl) (i := I.toNat) (j := J.toNat) (by omega) (by omega) hj]
    split
    · show vld (imin (ent N (andTo N m cs q) I.toNat J.toNat) L) = true
      rcases imin_eq (ent N (andTo N m cs q) I.toNat J.toNat) L with e | e <;> rw [e]
      · exact ih _ _ (by omega) (by omega)
      · exact k5
    · exact ih i j hi hj
/-- Closing keeps a point. -/
theorem closed_pt {N : Nat} {m : List Int} {X : Nat → Int} {c : Int} (hN : N ≤ 10) (hc : 1 ≤ c) (h0 : ∀ j, j ≤ N → X 0 ≤ X j) (hl : m.length = (N + 1) * (N + 1)) (hv : ∀ i j, i ≤ N → j ≤ N → vld (ent N m i j) = true)
    (hge : ∀ i j, i ≤ N → j ≤ N → ple (some (2 * (X i - X j) + 1)) (psc c (ent N m i j))) : (closedF N m).1 ≠ 4 ∧ ∀ i j, i ≤ N → j ≤ N → ple (some (2 * (X i - X j) + 1)) (psc c (ent N (fw N m) i j)) := by
  have hrg : ∀ i j, i ≤ N → j ≤ N → Rg 4398046511104 (ent N m i j) := fun i j hi hj => by
    have := (vld_iff _).1 (hv i j hi hj); unfold Rg; omega
  have hrow : ∀ j, j ≤ N → ple (some (2 * (X 0 - X j) + 1)) (some 1) := fun j hj => by
    have := h0 j hj
    show 2 * (X 0 - X j) + 1 ≤ 1
    omega
  have S := soundc_s hc hN (pt_cn N X) hrow hl hge hrg
  refine ⟨?_, S.ge⟩
  rcases soundc hc hN (pt_cn N X) hrow hl hge hrg with h | h <;> omega
theorem cX_zero (c : Int) (ps : List (Int × Int)) : cX c ps 0 = 0 := by simp [cX, ck]
theorem cX_pos {c : Int} {ps : List (Int × Int)} (h : AllP ps ps.length) (hc : 1 ≤ c) {i : Nat} (hi : i ≤ ps.length) : 0 ≤ cX c ps i := by
  obtain ⟨v, p⟩ := ck_ok h hi
  have := (vr_iff _ _).1 v
  exact Int.mul_nonneg p (Int.ediv_nonneg (by omega) (by omega))
/-- Are all pairs met, in a scale? -/
theorem allM_iff {N : Nat} {W : List Int} {ps : List (Int × Int)} {c : Int} (hN : ps.length = N) (hall : AllP ps ps.length) (hD : AllD ps ps.length (ps.length + 1)) (hc : 1 ≤ c) (hdv : ∀ i, i ≤ ps.length → (ck ps i).2 ∣ c) (hv : ∀ i j, i ≤ N → j ≤ N → vld (ent N W i j) = true) :
    AllM N W ps (N + 1) ↔ ∀ i j, i ≤ N → j ≤ N → ple (some (2 * (cX c ps i - cX c ps j) + 1)) (psc c (ent N W i j)) := by
  subst hN
  constructor
  · intro h i j hi hj
    exact (dif_sc hall (hD i j (by omega) hj) hc hdv hi hj (hv i j hi hj)).1 (h i j (by omega) hj)
  · intro h i j hi hj
    exact (dif_sc hall (hD i j (by omega) hj) hc hdv (by omega) hj (hv i j (by omega) hj)).2 (h i j (by omega) hj)
theorem psc_mono {c a b : Int} (hc : 1 ≤ c) (h : a ≤ b) (hb : b ≤ 1099511627776) : ple (psc c a) (psc c b) := by
  by_cases e : b = 1099511627776
  · rw [e, psc_nl]; exact ple_none _
  · rw [psc_fin e, psc_fin (show a ≠ 1099511627776 by omega)]; exact sc_mono hc h
/-- And. -/
theorem and_mem {N : Nat} {xs : List Int} {cs : List (Int × Int × Int)} {ps : List (Int × Int)} (hx : OkZ N xs) (hk : AllK N cs cs.length) (hr : readyF N xs ps = 0) :
    ((andF N xs cs).1 = 4 → ¬ (AllM N xs ps (N + 1) ∧ KMet ps cs cs.length)) ∧ ∀ A, andF N xs cs = (0, A) → OkZ N A ∧ readyF N A ps = 0 ∧ (AllM N A ps (N + 1) ↔ (AllM N xs ps (N + 1) ∧ KMet ps cs cs.length)) := by
  obtain ⟨hfit, hall, hD⟩ := readyF_inv hr
  have hN : ps.length = N := by have := hfit.2; omega
  have hN10 : N ≤ 10 := by have := hx.hi; omega
  have hlen : xs.length = (N + 1) * (N + 1) := by have := hx.len; rwa [Int.toNat_natCast] at this
  have hvx : ∀ i j, i ≤ N → j ≤ N → vld (ent N xs i j) = true := fun i j hi hj => (hx.el hi hj).val
  have hc := den_pos hall (ps.length + 1) (Nat.le_refl _)
  have hdv : ∀ i, i ≤ ps.length → (ck ps i).2 ∣ den ps (ps.length + 1) := fun i hi => den_dvd _ i (by omega)
  generalize den ps (ps.length + 1) = c at *
  have hlm : (andTo N xs cs cs.length).length = (N + 1) * (N + 1) := by rw [andTo_len, hlen]
  have hvm := andTo_vldE hlen hvx cs.length hk
  have kk : ∀ q, q < cs.length → (kmet ps (gk cs q) = true ↔ ple (some (2 * (cX c ps (gk cs q).1.toNat - cX c ps (gk cs q).2.1.toNat) + 1)) (psc c (gk cs q).2.2)) := fun q hq => by
    have kq := hk q hq
    unfold kmet
    generalize gk cs q = x at *
    obtain ⟨I, J, L⟩ := x
    obtain ⟨k1, k2, k3, k4, k5⟩ := (kOk_iff N I J L).1 kq
    exact dif_sc hall (hD I.toNat J.toNat (by omega) (by omega)) hc hdv (show I.toNat ≤ ps.length by omega) (show J.toNat ≤ ps.length by omega) k5
  -- in the zone and meeting all: in the matrix
  have toM : AllM N xs ps (N + 1) ∧ KMet ps cs cs.length → ∀ i j, i ≤ N → j ≤ N → ple (some (2 * (cX c ps i - cX c ps j) + 1)) (psc c (ent N (andTo N xs cs cs.length) i j)) := by
    intro ⟨h1, h2⟩
    have h1 := (allM_iff hN hall hD hc hdv hvx).1 h1
    have : ∀ q, q ≤ cs.length → ∀ i j, i ≤ N → j ≤ N → ple (some (2 * (cX c ps i - cX c ps j) + 1)) (psc c (ent N (andTo N xs cs q) i j)) := by
      intro q
      induction q with
      | zero => intro _; exact h1
      | succ q ih =>
        intro hq i j hi hj
        have ih := ih (by omega)
        have kq := hk q (by omega)
        have cq := (kk q (by omega)).1 (h2 q (by omega))
        have sq : andTo N xs cs (q + 1) = (andTo N xs cs q).set ((gk cs q).1.toNat * (N + 1) + (gk cs q).2.1.toNat) (imin (ent N (andTo N xs cs q) (gk cs q).1.toNat (gk cs q).2.1.toNat) (gk cs q).2.2) := rfl
        rw [sq]
        generalize gk cs q = x at *
        obtain ⟨I, J, L⟩ := x
        obtain ⟨k1, k2, k3, k4, k5⟩ := (kOk_iff N I J L).1 kq
        simp only at *
        rw [ent_set (by rw [andTo_len]; exact hlen) (i := I.toNat) (j := J.toNat) (by omega) (by omega) hj]
        split
        · rename_i e
          obtain ⟨rfl, rfl⟩ := e
          rcases imin_eq (ent N (andTo N xs cs q) I.toNat J.toNat) L with e | e <;> rw [e]
          · exact ih _ _ (by omega) (by omega)
          · exact cq
        · exact ih i j hi hj
    exact this _ (Nat.le_refl _)
  have cp := fun h => closed_pt (c := c) (X := cX c ps) hN10 hc (fun j hj => by rw [cX_zero]; exact cX_pos hall hc (by omega)) hlm hvm (toM h)
  rw [andF_yes hx hk]
  refine ⟨fun h4 h => (cp h).1 h4, fun A hA => ?_⟩
  have hok := closed_valid hN10 hlm hvm hA
  obtain ⟨eA, _, _⟩ := closed_inv hA
  have hvA : ∀ i j, i ≤ N → j ≤ N → vld (ent N A i j) = true := fun i j hi hj => (hok.el hi hj).val
  refine ⟨hok, readyF_ok ⟨hok, by omega⟩ hall hD, fun h => ?_, fun h => ?_⟩
  · have h := (allM_iff hN hall hD hc hdv hvA).1 h
    have lem : ∀ i j, i ≤ N → j ≤ N → ent N A i j ≤ ent N (andTo N xs cs cs.length) i j := fun i j hi hj => by rw [eA]; exact fw_le N _ _
    refine ⟨(allM_iff hN hall hD hc hdv hvx).2 (fun i j hi hj => ?_), fun q hq => ?_⟩
    · have l1 := lem i j hi hj
      have l2 := andTo_le N xs cs 0 cs.length (i * (N + 1) + j)
      rw [Nat.zero_add] at l2
      exact ple_trans (h i j hi hj) (psc_mono hc (Int.le_trans l1 l2) (vld_le (hvx i j hi hj)))
    · refine (kk q hq).2 ?_
      have l2 := andTo_at hlen hk hq
      have kq := hk q hq
      generalize gk cs q = x at *
      obtain ⟨I, J, L⟩ := x
      obtain ⟨k1, k2, k3, k4, k5⟩ := (kOk_iff N I J L).1 kq
      simp only at *
      exact ple_trans (h I.toNat J.toNat (by omega) (by omega)) (psc_mono hc (Int.le_trans (lem _ _ (by omega) (by omega)) l2) (vld_le k5))
  · refine (allM_iff hN hall hD hc hdv hvA).2 ?_
    rw [eA]
    exact (cp h).2
/-- What the law ZoneAnds leans on. -/
theorem ands_plain (n : Int) (xs : List Int) (cs : List (Int × Int × Int)) (ps : List (Int × Int)) (ha : (andF n xs cs).1 = 0 ∨ (andF n xs cs).1 = 4) (hf : (hasF n xs ps).2 = 0) :
    OkZ n xs ∧ (ps.length : Int) = n ∧ AllK n.toNat cs cs.length ∧ (AllP ps ps.length ∧ AllD ps ps.length (ps.length + 1)) ∧
    ((hasF n xs ps).1 = true ↔ AllM ps.length xs ps (ps.length + 1)) ∧
    ((andF n xs cs).1 = 0 → ∃ b, hasF n (andF n xs cs).2 ps = (b, 0) ∧ (b = true ↔ ((hasF n xs ps).1 = true ∧ KMet ps cs cs.length))) ∧
    ((andF n xs cs).1 = 4 → ¬ ((hasF n xs ps).1 = true ∧ KMet ps cs cs.length)) := by
  have hok : OkZ n xs ∧ AllK n.toNat cs cs.length := by
    by_cases h : OkZ n xs ∧ AllK n.toNat cs cs.length
    · exact h
    · rw [andF_no h] at ha; simp at ha
  obtain ⟨hx, hk⟩ := hok
  have hr : readyF n xs ps = 0 := by
    by_cases h : readyF n xs ps = 0
    · exact h
    · rw [hasF_no rfl h] at hf; exact hf
  obtain ⟨hfit, hall, hD⟩ := readyF_inv hr
  obtain ⟨N, rfl⟩ := Int.eq_ofNat_of_zero_le hx.lo
  have hN : ps.length = N := by have := hfit.2; omega
  subst hN
  rw [Int.toNat_natCast] at hk
  obtain ⟨m4, m0⟩ := and_mem hx hk hr
  have hin : (hasF ps.length xs ps).1 = true ↔ AllM ps.length xs ps (ps.length + 1) := by
    by_cases h : AllM ps.length xs ps (ps.length + 1)
    · rw [hasF_in hr h]; simp [h]
    · rw [hasF_out hr h]; simp [h]
  refine ⟨hx, hfit.2, by rw [Int.toNat_natCast]; exact hk, ⟨hall, hD⟩, hin, fun h0 => ?_, fun h4 => ?_⟩
  · obtain ⟨hA, hrA, hm⟩ := m0 (andF ps.length xs cs).2 (by rw [← h0])
    rw [hin]
    by_cases h : AllM ps.length (andF ps.length xs cs).2 ps (ps.length + 1)
    · exact ⟨true, hasF_in hrA h, ⟨fun _ => hm.1 h, fun _ => rfl⟩⟩
    · exact ⟨false, hasF_out hrA h, ⟨fun e => (by cases e), fun e => absurd (hm.2 e) h⟩⟩
  · rw [hin]; exact m4 h4
end Go.Proofs.Ytkgaipcgdldfdaa
