/- What lies above a canonical matrix has no negative cycle: closing it does not say 'none'. Plain Lean. -/
import Derived.Test.YtmjpcakikflcfaaPure
import Derived.Test.YtmjpcakikflcfaaRand
namespace Go.Proofs.Ytmjpcakikflcfaa
open Go.RowKit
set_option linter.unusedVariables false

def Rg (R l : Int) : Prop := -R ≤ l ∧ l ≤ R
theorem lsum_fin' {a b : Int} (ha : a ≠ 1099511627776) (hb : b ≠ 1099511627776) (h1 : Rg 1152921504606846976 a) (h2 : Rg 1152921504606846976 b) :
    lsum a b = a + b - (if a % 2 = 0 ∧ b % 2 = 0 then 0 else 1) := by
  unfold Rg at h1 h2
  unfold lsum wrap64
  rw [if_neg (by omega)]
  split <;> omega
theorem pl_fin {a : Int} (h : a ≠ 1099511627776) : pl a = some a := by unfold pl; rw [if_neg h]
theorem pl_nl : pl 1099511627776 = none := by unfold pl; rw [if_pos rfl]
theorem pl_lsum {a b : Int} (h1 : Rg 1152921504606846976 a) (h2 : Rg 1152921504606846976 b) : ple (psum (pl a) (pl b)) (pl (lsum a b)) := by
  by_cases e : a = 1099511627776 ∨ b = 1099511627776
  · rw [lsum_nl a b e, pl_nl]; exact ple_none _
  · have ha : a ≠ 1099511627776 := fun h => e (.inl h)
    have hb : b ≠ 1099511627776 := fun h => e (.inr h)
    rw [lsum_fin' ha hb h1 h2, pl_fin ha, pl_fin hb, show psum (some a) (some b) = some (a + b - (if a % 2 = 0 ∧ b % 2 = 0 then 0 else 1)) from rfl]
    generalize a + b - (if a % 2 = 0 ∧ b % 2 = 0 then 0 else 1) = t
    unfold pl; split
    · exact ple_none _
    · exact ple_refl _
theorem lsum_rg {R a b : Int} (hR : 1099511627776 ≤ R) (hR' : R ≤ 1152921504606846976) (h1 : Rg R a) (h2 : Rg R b) : Rg (2 * R + 1) (lsum a b) := by
  unfold Rg at *
  by_cases e : a = 1099511627776 ∨ b = 1099511627776
  · rw [lsum_nl a b e]; omega
  · rw [lsum_fin' (fun h => e (.inl h)) (fun h => e (.inr h)) (by unfold Rg; omega) (by unfold Rg; omega)]
    split <;> omega
theorem lsum1r {a : Int} (h : Rg 1152921504606846976 a) : lsum a 1 = a := by
  by_cases e : a = 1099511627776
  · rw [lsum_nl a 1 (.inl e), e]
  · rw [lsum_fin' e (by omega) h (by unfold Rg; omega), if_neg (by omega)]; omega
theorem lsum1l {a : Int} (h : Rg 1152921504606846976 a) : lsum 1 a = a := by
  by_cases e : a = 1099511627776
  · rw [lsum_nl 1 a (.inr e), e]
  · rw [lsum_fin' (by omega) e (by unfold Rg; omega) h, if_neg (by omega)]; omega
structure Sn (N : Nat) (Y : Nat → Nat → Lm) (m : List Int) (R : Int) : Prop where
  len : m.length = (N + 1) * (N + 1)
  ge : ∀ i j, i ≤ N → j ≤ N → ple (Y i j) (pl (ent N m i j))
  diag : ∀ i, i ≤ N → ent N m i i = 1
  rg : ∀ i j, i ≤ N → j ≤ N → Rg R (ent N m i j)
theorem Sn.next {N : Nat} {Y : Nat → Nat → Lm} {m : List Int} {R : Int} (h : Sn N Y m R) (hy : Cn N Y) {k : Nat} (hk : k ≤ N) (hR : 1099511627776 ≤ R) (hR' : R ≤ 1152921504606846976) : Sn N Y (fwI N k m (N + 1)) (2 * R + 1) := by
  have w : ∀ i j, i ≤ N → j ≤ N → Rg 1152921504606846976 (ent N m i j) := fun i j hi hj => by
    have := h.rg i j hi hj; unfold Rg at *; omega
  have E : ∀ a b, a ≤ N → b ≤ N → ent N (fwI N k m (N + 1)) a b = imin (ent N m a b) (lsum (ent N m a k) (ent N m k b)) := fun a b ha hb => by
    rw [fwI_ent h.len hk (h.diag k hk) (fun i hi => lsum1r (w i k hi hk)) (fun j hj => lsum1l (w k j hk hj)) (N + 1) (Nat.le_refl _) a b ha hb, if_pos (by omega)]
  have s : ∀ a b, a ≤ N → b ≤ N → ple (Y a b) (pl (lsum (ent N m a k) (ent N m k b))) := fun a b ha hb =>
    ple_trans (hy.tri a b k ha hb hk) (ple_trans (psum_mono (h.ge a k ha hk) (h.ge k b hk hb)) (pl_lsum (w a k ha hk) (w k b hk hb)))
  refine ⟨by rw [fwI_len]; exact h.len, fun i j hi hj => ?_, fun i hi => ?_, fun i j hi hj => ?_⟩
  · rw [E i j hi hj]
    rcases imin_eq (ent N m i j) (lsum (ent N m i k) (ent N m k j)) with e | e <;> rw [e]
    · exact h.ge i j hi hj
    · exact s i j hi hj
  · rw [E i i hi hi, h.diag i hi]
    refine imin_left ?_
    have t := s i i hi hi
    rw [hy.diag i hi] at t
    unfold pl at t; split at t
    · omega
    · exact t
  · rw [E i j hi hj]
    rcases imin_eq (ent N m i j) (lsum (ent N m i k) (ent N m k j)) with e | e <;> rw [e]
    · have := h.rg i j hi hj; unfold Rg at *; omega
    · exact lsum_rg hR hR' (h.rg i k hi hk) (h.rg k j hk hj)
def rgk : Nat → Int
  | 0 => 4398046511104
  | k + 1 => 2 * rgk k + 1
theorem rgk_le (k : Nat) (hk : k ≤ 11) : 1099511627776 ≤ rgk k ∧ rgk k ≤ 1152921504606846976 := by
  have : ∀ q : Fin 12, 1099511627776 ≤ rgk q.1 ∧ rgk q.1 ≤ 1152921504606846976 := by decide
  exact this ⟨k, by omega⟩
theorem Sn.all {N : Nat} {Y : Nat → Nat → Lm} {m : List Int} (hN : N ≤ 10) (h : Sn N Y m 4398046511104) (hy : Cn N Y) (k : Nat) (hk : k ≤ N + 1) : Sn N Y (fwK N m k) (rgk k) := by
  induction k with
  | zero => exact h
  | succ k ih => exact (ih (by omega)).next hy (by omega) (rgk_le k (by omega)).1 (rgk_le k (by omega)).2
theorem sound {N : Nat} {Y : Nat → Nat → Lm} {m : List Int} (hN : N ≤ 10) (hy : Cn N Y) (hrow : ∀ j, j ≤ N → ple (Y 0 j) (some 1)) (hl : m.length = (N + 1) * (N + 1)) (hge : ∀ i j, i ≤ N → j ≤ N → ple (Y i j) (pl (ent N m i j)))
    (hrg : ∀ i j, i ≤ N → j ≤ N → Rg 4398046511104 (ent N m i j)) : (closedF N m).1 = 0 ∨ (closedF N m).1 = 7 := by
  have C := capTo_ent hl (N + 1) (Nat.le_refl _)
  have S0 : Sn N Y (capTo N m (N + 1)) 4398046511104 := by
    refine ⟨by rw [capTo_len]; exact hl, fun i j hi hj => ?_, fun i hi => ?_, fun i j hi hj => ?_⟩
    · rw [C i j hi hj]; split
      · rename_i c
        rcases imin_eq (ent N m i j) 1 with e | e <;> rw [e]
        · exact hge i j hi hj
        · rcases c.1 with rfl | rfl
          · exact hrow j hj
          · rw [hy.diag i hi]; exact ple_refl _
      · exact hge i j hi hj
    · rw [C i i hi hi, if_pos (by omega)]
      have t := hge i i hi hi
      rw [hy.diag i hi] at t
      have : 1 ≤ ent N m i i := by
        unfold pl at t; split at t
        · omega
        · exact t
      unfold imin; split <;> omega
    · rw [C i j hi hj]; split
      · have := hrg i j hi hj
        rcases imin_eq (ent N m i j) 1 with e | e <;> rw [e]
        · exact this
        · unfold Rg; omega
      · exact hrg i j hi hj
  have S := S0.all hN hy (N + 1) (Nat.le_refl _)
  have hneg : negTo N (fw N m) (N + 1) = false := by
    unfold negTo
    rw [List.any_eq_false]
    intro i hi
    rw [List.mem_range] at hi
    have := S.diag i (by omega)
    have e : gi (fw N m) (i * (N + 1) + i) = 1 := this
    rw [e]; decide
  unfold closedF
  rw [hneg]
  simp only [Bool.false_eq_true, if_false]
  split <;> simp
/-- A valid zone's matrix is canonical. -/
theorem OkZ.cn {N : Nat} {zs : List Int} (h : OkZ N zs) : Cn N (fun i j => pl (ent N zs i j)) := by
  refine ⟨fun i hi => ?_, fun i j k hi hj hk => ?_⟩
  · have : ent N zs i i = 1 := h.diagN hi
    rw [this]; rfl
  · have t : ent N zs i j ≤ lsum (ent N zs i k) (ent N zs k j) := El.gt h hi hj hk
    have a := h.elo hi hk
    have b := h.elo hk hj
    have c := h.elo hi hj
    by_cases e : ent N zs i k = 1099511627776 ∨ ent N zs k j = 1099511627776
    · have : psum (pl (ent N zs i k)) (pl (ent N zs k j)) = none := by
        rcases e with e | e
        · rw [e, pl_nl]; rfl
        · rw [e, pl_nl]; cases pl (ent N zs i k) <;> rfl
      rw [this]; exact ple_none _
    · have ha : ent N zs i k ≠ 1099511627776 := fun h => e (.inl h)
      have hb : ent N zs k j ≠ 1099511627776 := fun h => e (.inr h)
      rw [lsum_fin' ha hb (by unfold Rg; omega) (by unfold Rg; omega)] at t
      rw [pl_fin ha, pl_fin hb]
      have hc : ent N zs i j ≠ 1099511627776 := by
        intro hc; rw [hc] at t; split at t <;> omega
      rw [pl_fin hc]
      exact t
/-- And does not say 'none' where a canonical matrix lies below the zone and all constraints. -/
theorem and_sound {N : Nat} {xs : List Int} {cs : List (Int × Int × Int)} {Y : Nat → Nat → Lm} (hx : OkZ N xs) (hk : AllK N cs cs.length) (hy : Cn N Y) (hge : ∀ i j, i ≤ N → j ≤ N → ple (Y i j) (pl (ent N xs i j)))
    (hcs : ∀ q, q < cs.length → ple (Y (gk cs q).1.toNat (gk cs q).2.1.toNat) (pl (gk cs q).2.2)) : (andF N xs cs).1 = 0 ∨ (andF N xs cs).1 = 7 := by
  have hN : N ≤ 10 := by have := hx.hi; omega
  have hlen : xs.length = (N + 1) * (N + 1) := by have := hx.len; rwa [Int.toNat_natCast] at this
  rw [andF_yes hx hk]
  have main : ∀ q, q ≤ cs.length → ∀ i j, i ≤ N → j ≤ N → ple (Y i j) (pl (ent N (andTo N xs cs q) i j)) ∧ Rg 4398046511104 (ent N (andTo N xs cs q) i j) := by
    intro q
    induction q with
    | zero =>
      intro _ i j hi hj
      have := hx.elo hi hj
      exact ⟨hge i j hi hj, by show Rg _ (ent N xs i j); unfold Rg; omega⟩
    | succ q ih =>
      intro hq i j hi hj
      have ih := ih (by omega)
      obtain ⟨a, b⟩ := ih i j hi hj
      have kq := hk q (by omega)
      have cq := hcs q (by omega)
      have sq : andTo N xs cs (q + 1) = (andTo N xs cs q).set ((gk cs q).1.toNat * (N + 1) + (gk cs q).2.1.toNat) (imin (ent N (andTo N xs cs q) (gk cs q).1.toNat (gk cs q).2.1.toNat) (gk cs q).2.2) := rfl
      rw [sq]
      generalize gk cs q = c at *
      obtain ⟨I, J, L⟩ := c
      obtain ⟨k1, k2, k3, k4, k5⟩ := (kOk_iff N I J L).1 kq
      rw [vld_iff] at k5
      simp only at *
      rw [ent_set (by rw [andTo_len]; exact hlen) (i := I.toNat) (j := J.toNat) (by omega) (by omega) hj]
      split
      · rename_i e
        obtain ⟨rfl, rfl⟩ := e
        obtain ⟨a', b'⟩ := ih I.toNat J.toNat (by omega) (by omega)
        rcases imin_eq (ent N (andTo N xs cs q) I.toNat J.toNat) L with e | e <;> rw [e]
        · exact ⟨a', b'⟩
        · exact ⟨cq, by unfold Rg; omega⟩
      · exact ⟨a, b⟩
  refine sound hN hy (fun j hj => ?_) (by rw [andTo_len]; exact hlen) (fun i j hi hj => (main _ (Nat.le_refl _) i j hi hj).1) (fun i j hi hj => (main _ (Nat.le_refl _) i j hi hj).2)
  refine ple_trans (hge 0 j (Nat.zero_le _) hj) ?_
  have r : ent N xs 0 j ≤ 1 := by have := hx.rowN hj; unfold ent; rwa [Nat.zero_mul, Nat.zero_add]
  rw [pl_fin (by omega)]; exact r
end Go.Proofs.Ytmjpcakikflcfaa
