/- Enlarged limits without bounds: closing over a certificate in another scale; the box of a point that is kept where it is small. Plain Lean. -/
import Derived.Test.YtmjpcakikflcfaaCovP2
namespace Go.Proofs.Ytmjpcakikflcfaa
open Go.RowKit
set_option linter.unusedVariables false

/-- A limit times c. -/
def psc (c l : Int) : Lm := if l = 1099511627776 then none else some (sc c l)
theorem psc_fin {c l : Int} (h : l ≠ 1099511627776) : psc c l = some (sc c l) := by unfold psc; rw [if_neg h]
theorem psc_nl (c : Int) : psc c 1099511627776 = none := by unfold psc; rw [if_pos rfl]
theorem sc_sum (c a b : Int) : sc c (a + b - (if a % 2 = 0 ∧ b % 2 = 0 then 0 else 1)) = sc c a + sc c b - (if sc c a % 2 = 0 ∧ sc c b % 2 = 0 then 0 else 1) := by
  have half : (a + b - (if a % 2 = 0 ∧ b % 2 = 0 then 0 else 1)) / 2 = a / 2 + b / 2 := by split <;> omega
  unfold sc
  rw [half, Int.add_mul]
  generalize a / 2 * c = s
  generalize b / 2 * c = u
  split <;> split <;> omega
theorem psc_lsum {c a b : Int} (h1 : Rg 1152921504606846976 a) (h2 : Rg 1152921504606846976 b) : ple (psum (psc c a) (psc c b)) (psc c (lsum a b)) := by
  by_cases e : a = 1099511627776 ∨ b = 1099511627776
  · rw [lsum_nl a b e, psc_nl]; exact ple_none _
  · have ha : a ≠ 1099511627776 := fun h => e (.inl h)
    have hb : b ≠ 1099511627776 := fun h => e (.inr h)
    rw [lsum_fin' ha hb h1 h2, psc_fin ha, psc_fin hb, show psum (some (sc c a)) (some (sc c b)) = some (sc c a + sc c b - (if sc c a % 2 = 0 ∧ sc c b % 2 = 0 then 0 else 1)) from rfl, ← sc_sum]
    generalize a + b - (if a % 2 = 0 ∧ b % 2 = 0 then 0 else 1) = t
    unfold psc; split
    · exact ple_none _
    · exact ple_refl _
theorem psc_one {c l : Int} (hc : 1 ≤ c) (h : ple (some 1) (psc c l)) : 1 ≤ l := by
  unfold psc at h; split at h
  · omega
  · have h : 1 ≤ sc c l := h
    rcases Int.lt_or_le l 1 with e | e
    · have := sc_mono hc (show l ≤ 0 by omega)
      unfold sc at *
      simp at this
      omega
    · exact e
structure Snc (c : Int) (N : Nat) (Y : Nat → Nat → Lm) (m : List Int) (R : Int) : Prop where
  len : m.length = (N + 1) * (N + 1)
  ge : ∀ i j, i ≤ N → j ≤ N → ple (Y i j) (psc c (ent N m i j))
  diag : ∀ i, i ≤ N → ent N m i i = 1
  rg : ∀ i j, i ≤ N → j ≤ N → Rg R (ent N m i j)
theorem Snc.next {c : Int} {N : Nat} {Y : Nat → Nat → Lm} {m : List Int} {R : Int} (hc : 1 ≤ c) (h : Snc c N Y m R) (hy : Cn N Y) {k : Nat} (hk : k ≤ N) (hR : 1099511627776 ≤ R) (hR' : R ≤ 1152921504606846976) : Snc c N Y (fwI N k m (N + 1)) (2 * R + 1) := by
  have w : ∀ i j, i ≤ N → j ≤ N → Rg 1152921504606846976 (ent N m i j) := fun i j hi hj => by
    have := h.rg i j hi hj; unfold Rg at *; omega
  have E : ∀ a b, a ≤ N → b ≤ N → ent N (fwI N k m (N + 1)) a b = imin (ent N m a b) (lsum (ent N m a k) (ent N m k b)) := fun a b ha hb => by
    rw [fwI_ent h.len hk (h.diag k hk) (fun i hi => lsum1r (w i k hi hk)) (fun j hj => lsum1l (w k j hk hj)) (N + 1) (Nat.le_refl _) a b ha hb, if_pos (by omega)]
  have s : ∀ a b, a ≤ N → b ≤ N → ple (Y a b) (psc c (lsum (ent N m a k) (ent N m k b))) := fun a b ha hb =>
    ple_trans (hy.tri a b k ha hb hk) (ple_trans (psum_mono (h.ge a k ha hk) (h.ge k b hk hb)) (psc_lsum (w a k ha hk) (w k b hk hb)))
  refine ⟨by rw [fwI_len]; exact h.len, fun i j hi hj => ?_, fun i hi => ?_, fun i j hi hj => ?_⟩
  · rw [E i j hi hj]
    rcases imin_eq (ent N m i j) (lsum (ent N m i k) (ent N m k j)) with e | e <;> rw [e]
    · exact h.ge i j hi hj
    · exact s i j hi hj
  · rw [E i i hi hi, h.diag i hi]
    refine imin_left ?_
    have t := s i i hi hi
    rw [hy.diag i hi] at t
    exact psc_one hc t
  · rw [E i j hi hj]
    rcases imin_eq (ent N m i j) (lsum (ent N m i k) (ent N m k j)) with e | e <;> rw [e]
    · have := h.rg i j hi hj; unfold Rg at *; omega
    · exact lsum_rg hR hR' (h.rg i k hi hk) (h.rg k j hk hj)
theorem Snc.all {c : Int} {N : Nat} {Y : Nat → Nat → Lm} {m : List Int} (hc : 1 ≤ c) (hN : N ≤ 10) (h : Snc c N Y m 4398046511104) (hy : Cn N Y) (k : Nat) (hk : k ≤ N + 1) : Snc c N Y (fwK N m k) (rgk k) := by
  induction k with
  | zero => exact h
  | succ k ih => exact (ih (by omega)).next hc hy (by omega) (rgk_le k (by omega)).1 (rgk_le k (by omega)).2
theorem sc_one (c : Int) : sc c 1 = 1 := by unfold sc; simp
theorem soundc {c : Int} {N : Nat} {Y : Nat → Nat → Lm} {m : List Int} (hc : 1 ≤ c) (hN : N ≤ 10) (hy : Cn N Y) (hrow : ∀ j, j ≤ N → ple (Y 0 j) (some 1)) (hl : m.length = (N + 1) * (N + 1)) (hge : ∀ i j, i ≤ N → j ≤ N → ple (Y i j) (psc c (ent N m i j)))
    (hrg : ∀ i j, i ≤ N → j ≤ N → Rg 4398046511104 (ent N m i j)) : (closedF N m).1 = 0 ∨ (closedF N m).1 = 7 := by
  have C := capTo_ent hl (N + 1) (Nat.le_refl _)
  have p1 : psc c 1 = some 1 := by rw [psc_fin (by omega), sc_one]
  have S0 : Snc c N Y (capTo N m (N + 1)) 4398046511104 := by
    refine ⟨by rw [capTo_len]; exact hl, fun i j hi hj => ?_, fun i hi => ?_, fun i j hi hj => ?_⟩
    · rw [C i j hi hj]; split
      · rename_i e
        rcases imin_eq (ent N m i j) 1 with e' | e' <;> rw [e']
        · exact hge i j hi hj
        · rw [p1]
          rcases e.1 with rfl | rfl
          · exact hrow j hj
          · rw [hy.diag i hi]; exact ple_refl _
      · exact hge i j hi hj
    · rw [C i i hi hi, if_pos (by omega)]
      have t := hge i i hi hi
      rw [hy.diag i hi] at t
      have := psc_one hc t
      unfold imin; split <;> omega
    · rw [C i j hi hj]; split
      · have := hrg i j hi hj
        rcases imin_eq (ent N m i j) 1 with e | e <;> rw [e]
        · exact this
        · unfold Rg; omega
      · exact hrg i j hi hj
  have S := S0.all hc hN hy (N + 1) (Nat.le_refl _)
  have hneg : negTo N (fw N m) (N + 1) = false := by
    unfold negTo
    rw [List.any_eq_false]
    intro i hi
    rw [List.mem_range] at hi
    have := S.diag i (by omega)
    have e : gi (fw N m) (i * (N + 1) + i) = 1 := this
    rw [e]; decide
  unfold closedF
  rw [hneg]
  simp only [Bool.false_eq_true, if_false]
  split <;> simp
theorem OkZ.cnc {c : Int} {N : Nat} {zs : List Int} (hc : 1 ≤ c) (h : OkZ N zs) : Cn N (fun i j => psc c (ent N zs i j)) := by
  refine ⟨fun i hi => ?_, fun i j k hi hj hk => ?_⟩
  · have : ent N zs i i = 1 := h.diagN hi
    show psc c (ent N zs i i) = _
    rw [this, psc_fin (by omega), sc_one]
  · have t : ent N zs i j ≤ lsum (ent N zs i k) (ent N zs k j) := El.gt h hi hj hk
    have a := h.elo hi hk
    have b := h.elo hk hj
    have d := h.elo hi hj
    by_cases e : ent N zs i k = 1099511627776 ∨ ent N zs k j = 1099511627776
    · have : psum (psc c (ent N zs i k)) (psc c (ent N zs k j)) = none := by
        rcases e with e | e
        · rw [e, psc_nl]; rfl
        · rw [e, psc_nl]; cases psc c (ent N zs i k) <;> rfl
      rw [this]; exact ple_none _
    · have ha : ent N zs i k ≠ 1099511627776 := fun h => e (.inl h)
      have hb : ent N zs k j ≠ 1099511627776 := fun h => e (.inr h)
      rw [lsum_fin' ha hb (by unfold Rg; omega) (by unfold Rg; omega)] at t
      rw [psc_fin ha, psc_fin hb]
      have hd : ent N zs i j ≠ 1099511627776 := by
        intro hd; rw [hd] at t; split at t <;> omega
      rw [psc_fin hd]
      have m := sc_mono hc t
      rw [sc_sum] at m
      exact m
/-- And does not say 'none' where a canonical matrix, in any scale, lies below the zone and all constraints. -/
theorem and_soundc {c : Int} {N : Nat} {xs : List Int} {cs : List (Int × Int × Int)} {Y : Nat → Nat → Lm} (hc : 1 ≤ c) (hx : OkZ N xs) (hk : AllK N cs cs.length) (hy : Cn N Y) (hge : ∀ i j, i ≤ N → j ≤ N → ple (Y i j) (psc c (ent N xs i j)))
    (hcs : ∀ q, q < cs.length → ple (Y (gk cs q).1.toNat (gk cs q).2.1.toNat) (psc c (gk cs q).2.2)) : (andF N xs cs).1 = 0 ∨ (andF N xs cs).1 = 7 := by
  have hN : N ≤ 10 := by have := hx.hi; omega
  have hlen : xs.length = (N + 1) * (N + 1) := by have := hx.len; rwa [Int.toNat_natCast] at this
  rw [andF_yes hx hk]
  have main : ∀ q, q ≤ cs.length → ∀ i j, i ≤ N → j ≤ N → ple (Y i j) (psc c (ent N (andTo N xs cs q) i j)) ∧ Rg 4398046511104 (ent N (andTo N xs cs q) i j) := by
    intro q
    induction q with
    | zero =>
      intro _ i j hi hj
      have := hx.elo hi hj
      exact ⟨hge i j hi hj, by show Rg _ (ent N xs i j); unfold Rg; omega⟩
    | succ q ih =>
      intro hq i j hi hj
      have ih := ih (by omega)
      obtain ⟨a, b⟩ := ih i j hi hj
      have kq := hk q (by omega)
      have cq := hcs q (by omega)
      have sq : andTo N xs cs (q + 1) = (andTo N xs cs q).set ((gk cs q).1.toNat * (N + 1) + (gk cs q).2.1.toNat) (imin (ent N (andTo N xs cs q) (gk cs q).1.toNat (gk cs q).2.1.toNat) (gk cs q).2.2) := rfl
      rw [sq]
      generalize gk cs q = x at *
      obtain ⟨I, J, L⟩ := x
      obtain ⟨k1, k2, k3, k4, k5⟩ := (kOk_iff N I J L).1 kq
      rw [vld_iff] at k5
      simp only at *
      rw [ent_set (by rw [andTo_len]; exact hlen) (i := I.toNat) (j := J.toNat) (by omega) (by omega) hj]
      split
      · rename_i e
        obtain ⟨rfl, rfl⟩ := e
        obtain ⟨a', b'⟩ := ih I.toNat J.toNat (by omega) (by omega)
        rcases imin_eq (ent N (andTo N xs cs q) I.toNat J.toNat) L with e | e <;> rw [e]
        · exact ⟨a', b'⟩
        · exact ⟨cq, by unfold Rg; omega⟩
      · exact ⟨a, b⟩
  refine soundc hc hN hy (fun j hj => ?_) (by rw [andTo_len]; exact hlen) (fun i j hi hj => (main _ (Nat.le_refl _) i j hi hj).1) (fun i j hi hj => (main _ (Nat.le_refl _) i j hi hj).2)
  refine ple_trans (hge 0 j (Nat.zero_le _) hj) ?_
  have r : ent N xs 0 j ≤ 1 := by have := hx.rowN hj; unfold ent; rwa [Nat.zero_mul, Nat.zero_add]
  have m := sc_mono hc r
  rw [sc_one] at m
  rw [psc_fin (by omega)]; exact m
theorem al_dif {N : Nat} {W : List Int} {ps : List (Int × Int)} {c : Int} {e : Int} (hW : OkZ N W) (hN : ps.length = N) (hc : 1 ≤ c) (h : hasF N W ps = (true, e)) (hdv : ∀ i, i ≤ ps.length → (ck ps i).2 ∣ c) {i j : Nat} (hi : i ≤ N) (hj : j ≤ N) (hn : ent N W i j ≠ 1099511627776) :
    2 * (cX c ps i - cX c ps j) + 1 ≤ sc c (ent N W i j) := by
  subst hN
  obtain ⟨hr, hM⟩ := hasF_inv h
  obtain ⟨hfit, hall, hdd⟩ := readyF_inv hr
  have hm := hM i j (by omega) hj
  have hd := hdd i j (by omega) hj
  unfold mt at hm
  obtain ⟨vi, pi⟩ := ck_ok hall hi
  obtain ⟨vj, pj⟩ := ck_ok hall hj
  have di := hdv i hi
  have dj := hdv j hj
  unfold cX dif at *
  generalize ck ps i = P at *
  generalize ck ps j = Q at *
  obtain ⟨a, b⟩ := P
  obtain ⟨a', b'⟩ := Q
  simp only at *
  obtain ⟨b1, b2, a1, a2, _⟩ := (vr_iff a b).1 vi
  obtain ⟨b1', b2', a1', a2', _⟩ := (vr_iff a' b').1 vj
  have hw : wrap64 (-a') = -a' := by unfold wrap64; omega
  unfold subR at hm hd
  rw [hw] at hm hd
  generalize hR : addR a b (-a') b' = R at *
  obtain ⟨⟨p, q⟩, x⟩ := R
  simp only at hm hd
  subst hd
  by_cases hv : vr a b = true ∧ vr (-a') b' = true
  · rw [addR_yes hv] at hR
    obtain ⟨m1, m2, m3⟩ := mkR_val (Int.mul_pos (by omega) (by omega)) hR rfl
    obtain ⟨e1, he1⟩ := di
    obtain ⟨e2, he2⟩ := dj
    have q1 : c / b = e1 := by rw [he1]; exact Int.mul_ediv_cancel_left _ (by omega)
    have q2 : c / b' = e2 := by rw [he2]; exact Int.mul_ediv_cancel_left _ (by omega)
    rw [q1, q2]
    have key := scale_dif (a := a) (a' := a') (p := p) (q := q) (by omega) he1 he2 (by rw [m1, Int.neg_mul, Int.sub_eq_add_neg])
    have hl := (hW.el hi hj).val
    have hmt := meet_true m3 hl hm
    have hen : gi W (i * (ps.length + 1) + j) = ent ps.length W i j := rfl
    rw [hen] at hmt
    unfold sc
    generalize ent ps.length W i j = l at *
    generalize a * e1 - a' * e2 = V at *
    generalize l / 2 = k at *
    rcases hmt with h0 | ⟨h1, h2⟩ | ⟨h1, h2⟩
    · exact absurd h0 hn
    · have h3 : c * p < c * (k * q) := Int.mul_lt_mul_of_pos_left h2 (by omega)
      rw [← key] at h3
      have h4 : V * q < (k * c) * q := by
        have : c * (k * q) = (k * c) * q := by ac_rfl
        omega
      have h5 := Int.lt_of_mul_lt_mul_right h4 (by omega)
      omega
    · have h3 : c * p ≤ c * (k * q) := Int.mul_le_mul_of_nonneg_left h2 (by omega)
      rw [← key] at h3
      have h4 : V * q ≤ (k * c) * q := by
        have : c * (k * q) = (k * c) * q := by ac_rfl
        omega
      have h5 := Int.le_of_mul_le_mul_right h4 (by omega)
      omega
  · rw [addR_no hv] at hR
    simp at hR
/-- What is known of the difference of two clocks, by the rule that widens their limit. -/
theorem al_wid {N : Nat} {xs k0 k1 W : List Int} {ps : List (Int × Int)} {c e : Int} (hx : OkZ N xs) (hW : OkZ N W) (hN : ps.length = N) (hc : 1 ≤ c) (h : hasF N W ps = (true, e)) (hdv : ∀ i, i ≤ ps.length → (ck ps i).2 ∣ c)
    (hle : ∀ i j, i ≤ N → j ≤ N → ent N W i j ≤ ent N (widM N k0 k1 xs) i j) {i j : Nat} (hi : i ≤ N) (hj : j ≤ N) (hij : i ≠ j) (hk1 : 1 ≤ j → -1 ≤ gi k1 (j - 1)) :
    ent N xs i j = 1099511627776 ∨ (1 ≤ i ∧ (gi k0 (i - 1) = -1 ∨ gi k0 (i - 1) < ent N xs i j / 2)) ∨ (1 ≤ j ∧ gi k1 (j - 1) = -1) ∨
      (1 ≤ j ∧ 2 * (cX c ps i - cX c ps j) + 1 ≤ -2 * (gi k1 (j - 1) * c)) ∨ 2 * (cX c ps i - cX c ps j) + 1 ≤ sc c (ent N xs i j) := by
  have hlen : xs.length = (N + 1) * (N + 1) := by have := hx.len; rwa [Int.toNat_natCast] at this
  have b := hle i j hi hj
  rw [ent_widM hlen hi hj, if_neg hij] at b
  have hv := hx.elo hi hj
  generalize ent N xs i j = l at *
  by_cases c0 : l = 1099511627776
  · exact .inl c0
  by_cases c1 : 1 ≤ i ∧ (gi k0 (i - 1) = -1 ∨ gi k0 (i - 1) < l / 2)
  · exact .inr (.inl c1)
  by_cases c2 : 1 ≤ j ∧ gi k1 (j - 1) = -1
  · exact .inr (.inr (.inl c2))
  unfold wid at b
  rw [if_neg c0, if_neg c1, if_neg c2] at b
  by_cases c3 : 1 ≤ j ∧ l / 2 < - gi k1 (j - 1)
  · rw [if_pos c3] at b
    have hk := hk1 c3.1
    have d := al_dif hW hN hc h hdv hi hj (by omega)
    have m := sc_mono hc b
    refine .inr (.inr (.inr (.inl ⟨c3.1, ?_⟩)))
    have : sc c (-2 * gi k1 (j - 1)) = -2 * (gi k1 (j - 1) * c) := by
      unfold sc
      rw [show -2 * gi k1 (j - 1) / 2 = - gi k1 (j - 1) by omega, Int.neg_mul]; omega
    omega
  · rw [if_neg c3] at b
    have d := al_dif hW hN hc h hdv hi hj (by omega)
    have m := sc_mono hc b
    exact .inr (.inr (.inr (.inr (by omega))))
/-- All that is given of a point that is alike. -/
structure Alk (N : Nat) (c : Int) (xs kk W : List Int) (ps : List (Int × Int)) : Prop where
  hx : OkZ N xs
  hW : OkZ N W
  hN : ps.length = N
  c1 : 1 ≤ c
  hin : ∃ e, hasF N W ps = (true, e)
  hdv : ∀ i, i ≤ ps.length → (ck ps i).2 ∣ c
  hle : ∀ i j, i ≤ N → j ≤ N → ent N W i j ≤ ent N (widM N kk kk xs) i j
  b0 : ∀ i, i < N → -1 ≤ gi kk i ∧ gi kk i ≤ 1048576
section
variable {N : Nat} {c : Int} {xs kk W : List Int} {ps : List (Int × Int)}
theorem Alk.pt (h : Alk N c xs kk W ps) : AllP ps ps.length := by
  obtain ⟨e, hin⟩ := h.hin
  exact (readyF_inv (hasF_inv hin).1).2.1
theorem Alk.xpos (h : Alk N c xs kk W ps) {i : Nat} (hi : i ≤ N) : 0 ≤ cX c ps i := by
  have hN := h.hN
  obtain ⟨v, p⟩ := ck_ok h.pt (i := i) (by omega)
  have d := (vr_iff _ _).1 v
  unfold cX
  exact Int.mul_nonneg p (Int.ediv_nonneg (by have := h.c1; omega) (by omega))
theorem Alk.lpos (h : Alk N c xs kk W ps) {i : Nat} (hi : i < N) : (gi kk i = -1 ∧ cvL c kk i = -1) ∨ (0 ≤ gi kk i ∧ cvL c kk i = gi kk i * c ∧ 0 ≤ cvL c kk i) := by
  have hb := h.b0 i hi
  unfold cvL
  split
  · left; exact ⟨by omega, rfl⟩
  · right
    exact ⟨by omega, rfl, Int.mul_nonneg (by omega) (by have := h.c1; omega)⟩
theorem Alk.upos (h : Alk N c xs kk W ps) {i : Nat} (hi : i < N) : (gi kk i = -1 ∧ cvL c kk i = -1) ∨ (0 ≤ gi kk i ∧ cvL c kk i = gi kk i * c) := by
  have hb := h.b0 i hi
  unfold cvL
  split
  · left; exact ⟨by omega, rfl⟩
  · right; exact ⟨by omega, rfl⟩
/-- The difference that the zone allows: from two clocks, the second one bounded from above. -/
theorem Alk.pair (h : Alk N c xs kk W ps) {k m : Nat} (hk : k ≤ N) (hm : m ≤ N) (hne : k ≠ m) (hu : 1 ≤ m → cX c ps m ≤ cvL c kk (m - 1)) :
    ent N xs k m = 1099511627776 ∨ 2 * (cX c ps k - cX c ps m) + 1 ≤ sc c (ent N xs k m) ∨
    (1 ≤ k ∧ gi kk (k - 1) = -1) ∨ (1 ≤ k ∧ 0 ≤ gi kk (k - 1) ∧ cvL c kk (k - 1) + c ≤ ent N xs k m / 2 * c) := by
  have hN := h.hN
  have hc := h.c1
  obtain ⟨e, hin⟩ := h.hin
  have pk := h.xpos hk
  have pm := h.xpos hm
  rcases al_wid h.hx h.hW h.hN hc hin h.hdv h.hle hk hm hne (fun h1 => (h.b0 _ (by omega)).1) with w | ⟨w1, w2⟩ | ⟨w1, w2⟩ | ⟨w1, w2⟩ | w
  · exact .inl w
  · rcases w2 with w2 | w2
    · exact .inr (.inr (.inl ⟨w1, w2⟩))
    · rcases h.lpos (i := k - 1) (by omega) with ⟨l1, l2⟩ | ⟨l1, l2, l3⟩
      · exact .inr (.inr (.inl ⟨w1, l1⟩))
      · refine .inr (.inr (.inr ⟨w1, l1, ?_⟩))
        have : (gi kk (k - 1) + 1) * c ≤ ent N xs k m / 2 * c := Int.mul_le_mul_of_nonneg_right (by omega) (by omega)
        rw [Int.add_mul] at this
        omega
  · have u := hu w1
    rcases h.upos (i := m - 1) (by omega) with ⟨l1, l2⟩ | ⟨l1, l2⟩ <;> omega
  · have u := hu w1
    rcases h.upos (i := m - 1) (by omega) with ⟨l1, l2⟩ | ⟨l1, l2⟩
    · omega
    · rw [l2] at u
      generalize gi kk (m - 1) * c = t at *
      omega
  · exact .inr (.inl w)
theorem Alk.row (h : Alk N c xs kk W ps) {m : Nat} (hm : m ≤ N) : ent N xs 0 m ≤ 1 := by
  have := h.hx.rowN hm; unfold ent; rwa [Nat.zero_mul, Nat.zero_add]
/-- A limit from a clock is not below that from the clock 0. -/
theorem Alk.from0 (h : Alk N c xs kk W ps) {k m : Nat} (hk : k ≤ N) (hm : m ≤ N) : ent N xs 0 m ≤ ent N xs k m := by
  have t : ent N xs 0 m ≤ lsum (ent N xs 0 k) (ent N xs k m) := El.gt h.hx (Nat.zero_le _) hm hk
  have r := h.row hk
  have a := h.hx.elo (Nat.zero_le N) hk
  have b := h.hx.elo hk hm
  by_cases e : ent N xs k m = 1099511627776
  · have := h.row hm; omega
  · rw [lsum_fin' (by omega) e (by unfold Rg; omega) (by unfold Rg; omega)] at t
    split at t <;> omega
theorem Alk.half (h : Alk N c xs kk W ps) (l : Int) : sc c l / 2 = l / 2 * c ∧ sc c l % 2 = l % 2 := by
  unfold sc; generalize l / 2 * c = t; omega
theorem Alk.boxed (h : Alk N c xs kk W ps) : ∃ Y, Cn N Y ∧ (∀ i j, i ≤ N → j ≤ N → ple (Y i j) (psc c (ent N xs i j))) ∧ (∀ i, i ≤ N → ple (Y i 0) (cUp c kk ps i)) ∧ ∀ i, i ≤ N → ple (Y 0 i) (cLo c kk ps i) := by
  have hN := h.hN
  have hc := h.c1
  have hlen : xs.length = (N + 1) * (N + 1) := by have := h.hx.len; rwa [Int.toNat_natCast] at this
  refine Cn.box (h.hx.cnc hc) (cLo c kk ps) (cUp c kk ps) rfl rfl (fun k m hk hm => ?_)
  have pk := h.xpos hk
  have pm := h.xpos hm
  by_cases hkm : k = m
  · subst hkm
    have d : ent N xs k k = 1 := h.hx.diagN hk
    rw [d, show psc c 1 = some 1 by rw [psc_fin (by omega), sc_one]]
    unfold cLo cUp
    by_cases k0' : k = 0
    · subst k0'; simp [psum, ple]
    · rw [if_neg k0', if_neg k0']
      by_cases u : cX c ps k ≤ cvL c kk (k - 1)
      · rw [if_pos u]
        split
        · exact h3 (by omega)
        · exact h3 (by omega)
      · rw [if_neg u]
        split <;> simp [psum, ple]
  by_cases hnl : ent N xs k m = 1099511627776
  · rw [hnl, psc_nl]
    have : psum (cLo c kk ps k) (psum none (cUp c kk ps m)) = none := by
      cases cLo c kk ps k <;> cases cUp c kk ps m <;> rfl
    rw [this]; exact ple_none _
  rw [psc_fin hnl]
  obtain ⟨hf1, hf2⟩ := h.half (ent N xs k m)
  have f0 := h.from0 hk hm
  have r0 := h.row hm
  have m0 := sc_mono hc f0
  by_cases hu : 1 ≤ m → cX c ps m ≤ cvL c kk (m - 1)
  · -- the upper bound of m as a number
    obtain ⟨u, hu1, hu2, hu3⟩ : ∃ u, cUp c kk ps m = some u ∧ u / 2 = cX c ps m ∧ u % 2 = 1 := by
      unfold cUp
      by_cases m0' : m = 0
      · subst m0'
        exact ⟨1, rfl, by unfold cX ck; simp, rfl⟩
      · rw [if_neg m0', if_pos (hu (by omega))]
        exact ⟨_, rfl, by omega, by omega⟩
    rw [hu1]
    -- from the clock 0
    have z0 : m ≠ 0 → 2 * (0 - cX c ps m) + 1 ≤ sc c (ent N xs 0 m) := fun m0' => by
      have p0 := h.pair (Nat.zero_le N) hm (fun e => m0' e.symm) hu
      have x0 : cX c ps 0 = 0 := by unfold cX ck; simp
      rw [x0] at p0
      rcases p0 with p | p | ⟨p, _⟩ | ⟨p, _⟩
      · omega
      · exact p
      · omega
      · omega
    by_cases hkk : k = 0
    · subst hkk
      have := z0 (fun e => hkm e.symm)
      have lo0 : cLo c kk ps 0 = some 1 := rfl
      rw [lo0]
      exact h3 (by omega)
    · have zz : m = 0 → cX c ps m = 0 ∧ 1 ≤ sc c (ent N xs k m) := fun e => by
        subst e
        refine ⟨by unfold cX ck; simp, ?_⟩
        have d : ent N xs 0 0 = 1 := h.hx.diagN (Nat.zero_le _)
        have : sc c 1 = 1 := by unfold sc; simp
        rw [d, this] at m0
        exact m0
      have p := h.pair hk hm hkm hu
      unfold cLo
      rw [if_neg hkk]
      by_cases hl : cvL c kk (k - 1) < cX c ps k
      · rw [if_pos hl]
        refine h3 (.inl ?_)
        rw [hf1, hu2]
        rcases p with p | p | ⟨_, p⟩ | ⟨_, p1, p2⟩
        · exact absurd p hnl
        · omega
        · rcases h.lpos (i := k - 1) (by omega) with ⟨l1, l2⟩ | ⟨l1, _⟩
          · by_cases hm0 : m = 0
            · have := zz hm0; omega
            · have := z0 hm0; omega
          · omega
        · omega
      · rw [if_neg hl]
        refine h3 ?_
        rw [hf1, hf2, hu2, hu3]
        rcases p with p | p | ⟨_, p⟩ | ⟨_, p1, p2⟩
        · exact absurd p hnl
        · omega
        · rcases h.lpos (i := k - 1) (by omega) with ⟨l1, l2⟩ | ⟨l1, _⟩ <;> omega
        · omega
  · have : cUp c kk ps m = none := by
      unfold cUp
      rw [if_neg (fun e => hu (fun _ => by omega)), if_neg (fun e => hu (fun _ => e))]
    rw [this]
    have : psum (cLo c kk ps k) (psum (some (sc c (ent N xs k m))) none) = none := by cases cLo c kk ps k <;> rfl
    rw [this]; exact ple_none _
end
end Go.Proofs.Ytmjpcakikflcfaa
