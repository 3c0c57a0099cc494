/- Limits in a scale; closing over a certificate in a scale. Plain Lean. -/
import Derived.Test.YtkgaipcgdldfdaaQ
import Derived.Test.YtkgaipcgdldfdaaRand
import Derived.Test.YtkgaipcgdldfdaaPure
namespace Go.Proofs.Ytkgaipcgdldfdaa
open Go.RowKit
set_option linter.unusedVariables false

theorem hasF_inv {n : Int} {xs : List Int} {ps : List (Int × Int)} {e : Int} (h : hasF n xs ps = (true, e)) : readyF n xs ps = 0 ∧ AllM ps.length xs ps (ps.length + 1) := by
  unfold hasF at h
  split at h
  · rename_i hr
    refine ⟨hr, ?_⟩
    simp only [Prod.mk.injEq, decide_eq_true_eq] at h
    exact h.1
  · simp at h
theorem meet_true {p q l : Int} (hv : vr p q = true) (hl : vld l = true) (h : (meetR p q l).1 = true) : l = 1099511627776 ∨ (l % 2 = 0 ∧ p < l / 2 * q) ∨ (l % 2 = 1 ∧ p ≤ l / 2 * q) := by
  unfold meetR at h
  rw [if_pos ⟨hv, hl⟩] at h
  split at h
  · left; assumption
  · split at h
    · right; left; exact ⟨by assumption, by simpa using h⟩
    · right; right; exact ⟨by omega, by simpa using h⟩
theorem ck_ok {ps : List (Int × Int)} (h : AllP ps ps.length) {i : Nat} (hi : i ≤ ps.length) : vr (ck ps i).1 (ck ps i).2 = true ∧ 0 ≤ (ck ps i).1 := by
  unfold ck; split
  · exact ⟨by decide, by omega⟩
  · have := h (i - 1) (by omega)
    unfold okP at this
    rw [Bool.and_eq_true, decide_eq_true_eq] at this
    exact this
/-- The value of a clock at the enlarged point. -/
def cX (c : Int) (ps : List (Int × Int)) (i : Nat) : Int := (ck ps i).1 * (c / (ck ps i).2)
theorem scale_dif {a b a' b' e e' p q c : Int} (hc : 0 < c) (h1 : c = b * e) (h2 : c = b' * e') (h : p * (b * b') = (a * b' - a' * b) * q) : (a * e - a' * e') * q = c * p := by
  have k1 : c * ((a * e - a' * e') * q) = c * (c * p) := by
    have l1 : c * (c * p) = p * (b * b') * (e * e') := by
      have : c * (c * p) = (b * e) * ((b' * e') * p) := by rw [← h1, ← h2]
      rw [this]; ac_rfl
    have l2 : (a * b' - a' * b) * q * (e * e') = (a * e * (b' * e') - a' * e' * (b * e)) * q := by
      rw [Int.sub_mul, Int.sub_mul, Int.sub_mul]
      congr 1 <;> ac_rfl
    rw [l1, h, l2, ← h1, ← h2, ← Int.sub_mul]; ac_rfl
  exact Int.eq_of_mul_eq_mul_left (by omega) k1
def sc (c l : Int) : Int := 2 * (l / 2 * c) + l % 2
theorem sc_mono {c a b : Int} (hc : 1 ≤ c) (h : a ≤ b) : sc c a ≤ sc c b := by
  unfold sc
  by_cases e : a / 2 = b / 2
  · rw [e]; omega
  · have h1 : (a / 2 + 1) * c ≤ b / 2 * c := Int.mul_le_mul_of_nonneg_right (by omega) (by omega)
    rw [Int.add_mul] at h1
    omega
/-- A limit times c. -/
def psc (c l : Int) : Lm := if l = 1099511627776 then none else some (sc c l)
theorem psc_fin {c l : Int} (h : l ≠ 1099511627776) : psc c l = some (sc c l) := by unfold psc; rw [if_neg h]
theorem psc_nl (c : Int) : psc c 1099511627776 = none := by unfold psc; rw [if_pos rfl]
theorem sc_sum (c a b : Int) : sc c (a + b - (if a % 2 = 0 ∧ b % 2 = 0 then 0 else 1)) = sc c a + sc c b - (if sc c a % 2 = 0 ∧ sc c b % 2 = 0 then 0 else 1) := by
  have half : (a + b - (if a % 2 = 0 ∧ b % 2 = 0 then 0 else 1)) / 2 = a / 2 + b / 2 := by split <;> omega
  unfold sc
  rw [half, Int.add_mul]
  generalize a / 2 * c = s
  generalize b / 2 * c = u
  split <;> split <;> omega
theorem psc_lsum {c a b : Int} (h1 : Rg 1152921504606846976 a) (h2 : Rg 1152921504606846976 b) : ple (psum (psc c a) (psc c b)) (psc c (lsum a b)) := by
  by_cases e : a = 1099511627776 ∨ b = 1099511627776
  · rw [lsum_nl a b e, psc_nl]; exact ple_none _
  · have ha : a ≠ 1099511627776 := fun h => e (.inl h)
    have hb : b ≠ 1099511627776 := fun h => e (.inr h)
    rw [lsum_fin' ha hb h1 h2, psc_fin ha, psc_fin hb, show psum (some (sc c a)) (some (sc c b)) = some (sc c a + sc c b - (if sc c a % 2 = 0 ∧ sc c b % 2 = 0 then 0 else 1)) from rfl, ← sc_sum]
    generalize a + b - (if a % 2 = 0 ∧ b % 2 = 0 then 0 else 1) = t
    unfold psc; split
    · exact ple_none _
    · exact ple_refl _
theorem psc_one {c l : Int} (hc : 1 ≤ c) (h : ple (some 1) (psc c l)) : 1 ≤ l := by
  unfold psc at h; split at h
  · omega
  · have h : 1 ≤ sc c l := h
    rcases Int.lt_or_le l 1 with e | e
    · have := sc_mono hc (show l ≤ 0 by omega)
      unfold sc at *
      simp at this
      omega
    · exact e
structure Snc (c : Int) (N : Nat) (Y : Nat → Nat → Lm) (m : List Int) (R : Int) : Prop where
  len : m.length = (N + 1) * (N + 1)
  ge : ∀ i j, i ≤ N → j ≤ N → ple (Y i j) (psc c (ent N m i j))
  diag : ∀ i, i ≤ N → ent N m i i = 1
  rg : ∀ i j, i ≤ N → j ≤ N → Rg R (ent N m i j)
theorem Snc.next {c : Int} {N : Nat} {Y : Nat → Nat → Lm} {m : List Int} {R : Int} (hc : 1 ≤ c) (h : Snc c N Y m R) (hy : Cn N Y) {k : Nat} (hk : k ≤ N) (hR : 1099511627776 ≤ R) (hR' : R ≤ 1152921504606846976) : Snc c N Y (fwI N k m (N + 1)) (2 * R + 1) := by
  have w : ∀ i j, i ≤ N → j ≤ N → Rg 1152921504606846976 (ent N m i j) := fun i j hi hj => by
    have := h.rg i j hi hj; unfold Rg at *; omega
  have E : ∀ a b, a ≤ N → b ≤ N → ent N (fwI N k m (N + 1)) a b = imin (ent N m a b) (lsum (ent N m a k) (ent N m k b)) := fun a b ha hb => by
    rw [fwI_ent h.len hk (h.diag k hk) (fun i hi => lsum1r (w i k hi hk)) (fun j hj => lsum1l (w k j hk hj)) (N + 1) (Nat.le_refl _) a b ha hb, if_pos (by omega)]
  have s : ∀ a b, a ≤ N → b ≤ N → ple (Y a b) (psc c (lsum (ent N m a k) (ent N m k b))) := fun a b ha hb =>
    ple_trans (hy.tri a b k ha hb hk) (ple_trans (psum_mono (h.ge a k ha hk) (h.ge k b hk hb)) (psc_lsum (w a k ha hk) (w k b hk hb)))
  refine ⟨by rw [fwI_len]; exact h.len, fun i j hi hj => ?_, fun i hi => ?_, fun i j hi hj => ?_⟩
  · rw [E i j hi hj]
    rcases imin_eq (ent N m i j) (lsum (ent N m i k) (ent N m k j)) with e | e <;> rw [e]
    · exact h.ge i j hi hj
    · exact s i j hi hj
  · rw [E i i hi hi, h.diag i hi]
    refine imin_left ?_
    have t := s i i hi hi
    rw [hy.diag i hi] at t
    exact psc_one hc t
  · rw [E i j hi hj]
    rcases imin_eq (ent N m i j) (lsum (ent N m i k) (ent N m k j)) with e | e <;> rw [e]
    · have := h.rg i j hi hj; unfold Rg at *; omega
    · exact lsum_rg hR hR' (h.rg i k hi hk) (h.rg k j hk hj)
theorem Snc.all {c : Int} {N : Nat} {Y : Nat → Nat → Lm} {m : List Int} (hc : 1 ≤ c) (hN : N ≤ 10) (h : Snc c N Y m 4398046511104) (hy : Cn N Y) (k : Nat) (hk : k ≤ N + 1) : Snc c N Y (fwK N m k) (rgk k) := by
  induction k with
  | zero => exact h
  | succ k ih => exact (ih (by omega)).next hc hy (by omega) (rgk_le k (by omega)).1 (rgk_le k (by omega)).2
theorem sc_one (c : Int) : sc c 1 = 1 := by unfold sc; simp
theorem soundc_s {c : Int} {N : Nat} {Y : Nat → Nat → Lm} {m : List Int} (hc : 1 ≤ c) (hN : N ≤ 10) (hy : Cn N Y) (hrow : ∀ j, j ≤ N → ple (Y 0 j) (some 1)) (hl : m.length = (N + 1) * (N + 1)) (hge : ∀ i j, i ≤ N → j ≤ N → ple (Y i j) (psc c (ent N m i j)))
    (hrg : ∀ i j, i ≤ N → j ≤ N → Rg 4398046511104 (ent N m i j)) : Snc c N Y (fw N m) (rgk (N + 1)) := by
  have C := capTo_ent hl (N + 1) (Nat.le_refl _)
  have p1 : psc c 1 = some 1 := by rw [psc_fin (by omega), sc_one]
  have S0 : Snc c N Y (capTo N m (N + 1)) 4398046511104 := by
    refine ⟨by rw [capTo_len]; exact hl, fun i j hi hj => ?_, fun i hi => ?_, fun i j hi hj => ?_⟩
    · rw [C i j hi hj]; split
      · rename_i e
        rcases imin_eq (ent N m i j) 1 with e' | e' <;> rw [e']
        · exact hge i j hi hj
        · rw [p1]
          rcases e.1 with rfl | rfl
          · exact hrow j hj
          · rw [hy.diag i hi]; exact ple_refl _
      · exact hge i j hi hj
    · rw [C i i hi hi, if_pos (by omega)]
      have t := hge i i hi hi
      rw [hy.diag i hi] at t
      have := psc_one hc t
      unfold imin; split <;> omega
    · rw [C i j hi hj]; split
      · have := hrg i j hi hj
        rcases imin_eq (ent N m i j) 1 with e | e <;> rw [e]
        · exact this
        · unfold Rg; omega
      · exact hrg i j hi hj
  exact S0.all hc hN hy (N + 1) (Nat.le_refl _)
theorem soundc {c : Int} {N : Nat} {Y : Nat → Nat → Lm} {m : List Int} (hc : 1 ≤ c) (hN : N ≤ 10) (hy : Cn N Y) (hrow : ∀ j, j ≤ N → ple (Y 0 j) (some 1)) (hl : m.length = (N + 1) * (N + 1)) (hge : ∀ i j, i ≤ N → j ≤ N → ple (Y i j) (psc c (ent N m i j)))
    (hrg : ∀ i j, i ≤ N → j ≤ N → Rg 4398046511104 (ent N m i j)) : (closedF N m).1 = 0 ∨ (closedF N m).1 = 7 := by
  have S := soundc_s hc hN hy hrow hl hge hrg
  have hneg : negTo N (fw N m) (N + 1) = false := by
    unfold negTo
    rw [List.any_eq_false]
    intro i hi
    rw [List.mem_range] at hi
    have := S.diag i (by omega)
    have e : gi (fw N m) (i * (N + 1) + i) = 1 := this
    rw [e]; decide
  unfold closedF
  rw [hneg]
  simp only [Bool.false_eq_true, if_false]
  split <;> simp
theorem OkZ.cnc {c : Int} {N : Nat} {zs : List Int} (hc : 1 ≤ c) (h : OkZ N zs) : Cn N (fun i j => psc c (ent N zs i j)) := by
  refine ⟨fun i hi => ?_, fun i j k hi hj hk => ?_⟩
  · have : ent N zs i i = 1 := h.diagN hi
    show psc c (ent N zs i i) = _
    rw [this, psc_fin (by omega), sc_one]
  · have t : ent N zs i j ≤ lsum (ent N zs i k) (ent N zs k j) := El.gt h hi hj hk
    have a := h.elo hi hk
    have b := h.elo hk hj
    have d := h.elo hi hj
    by_cases e : ent N zs i k = 1099511627776 ∨ ent N zs k j = 1099511627776
    · have : psum (psc c (ent N zs i k)) (psc c (ent N zs k j)) = none := by
        rcases e with e | e
        · rw [e, psc_nl]; rfl
        · rw [e, psc_nl]; cases psc c (ent N zs i k) <;> rfl
      rw [this]; exact ple_none _
    · have ha : ent N zs i k ≠ 1099511627776 := fun h => e (.inl h)
      have hb : ent N zs k j ≠ 1099511627776 := fun h => e (.inr h)
      rw [lsum_fin' ha hb (by unfold Rg; omega) (by unfold Rg; omega)] at t
      rw [psc_fin ha, psc_fin hb]
      have hd : ent N zs i j ≠ 1099511627776 := by
        intro hd; rw [hd] at t; split at t <;> omega
      rw [psc_fin hd]
      have m := sc_mono hc t
      rw [sc_sum] at m
      exact m
/-- And does not say 'none' where a canonical matrix, in any scale, lies below the zone and all constraints. -/
theorem and_soundc {c : Int} {N : Nat} {xs : List Int} {cs : List (Int × Int × Int)} {Y : Nat → Nat → Lm} (hc : 1 ≤ c) (hx : OkZ N xs) (hk : AllK N cs cs.length) (hy : Cn N Y) (hge : ∀ i j, i ≤ N → j ≤ N → ple (Y i j) (psc c (ent N xs i j)))
    (hcs : ∀ q, q < cs.length → ple (Y (gk cs q).1.toNat (gk cs q).2.1.toNat) (psc c (gk cs q).2.2)) : (andF N xs cs).1 = 0 ∨ (andF N xs cs).1 = 7 := by
  have hN : N ≤ 10 := by have := hx.hi; omega
  have hlen : xs.length = (N + 1) * (N + 1) := by have := hx.len; rwa [Int.toNat_natCast] at this
  rw [andF_yes hx hk]
  have main : ∀ q, q ≤ cs.length → ∀ i j, i ≤ N → j ≤ N → ple (Y i j) (psc c (ent N (andTo N xs cs q) i j)) ∧ Rg 4398046511104 (ent N (andTo N xs cs q) i j) := by
    intro q
    induction q with
    | zero =>
      intro _ i j hi hj
      have := hx.elo hi hj
      exact ⟨hge i j hi hj, by show Rg _ (ent N xs i j); unfold Rg; omega⟩
    | succ q ih =>
      intro hq i j hi hj
      have ih := ih (by omega)
      obtain ⟨a, b⟩ := ih i j hi hj
      have kq := hk q (by omega)
      have cq := hcs q (by omega)
      have sq : andTo N xs cs (q + 1) = (andTo N xs cs q).set ((gk cs q).1.toNat * (N + 1) + (gk cs q).2.1.toNat) (imin (ent N (andTo N xs cs q) (gk cs q).1.toNat (gk cs q).2.1.toNat) (gk cs q).2.2) := rfl
      rw [sq]
      generalize gk cs q = x at *
      obtain ⟨I, J, L⟩ := x
      obtain ⟨k1, k2, k3, k4, k5⟩ := (kOk_iff N I J L).1 kq
      rw [vld_iff] at k5
      simp only at *
      rw [ent_set (by rw [andTo_len]; exact hlen) (i := I.toNat) (j := J.toNat) (by omega) (by omega) hj]
      split
      · rename_i e
        obtain ⟨rfl, rfl⟩ := e
        obtain ⟨a', b'⟩ := ih I.toNat J.toNat (by omega) (by omega)
        rcases imin_eq (ent N (andTo N xs cs q) I.toNat J.toNat) L with e | e <;> rw [e]
        · exact ⟨a', b'⟩
        · exact ⟨cq, by unfold Rg; omega⟩
      · exact ⟨a, b⟩
  refine soundc hc hN hy (fun j hj => ?_) (by rw [andTo_len]; exact hlen) (fun i j hi hj => (main _ (Nat.le_refl _) i j hi hj).1) (fun i j hi hj => (main _ (Nat.le_refl _) i j hi hj).2)
  refine ple_trans (hge 0 j (Nat.zero_le _) hj) ?_
  have r : ent N xs 0 j ≤ 1 := by have := hx.rowN hj; unfold ent; rwa [Nat.zero_mul, Nat.zero_add]
  have m := sc_mono hc r
  rw [sc_one] at m
  rw [psc_fin (by omega)]; exact m
end Go.Proofs.Ytkgaipcgdldfdaa
