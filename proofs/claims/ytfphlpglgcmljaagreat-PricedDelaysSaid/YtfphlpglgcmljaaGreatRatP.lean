/- Ratios, in plain Lean. -/
import Derived.Test.YtfphlpglgcmljaaGreatBase
namespace Go.Proofs.YtfphlpglgcmljaaGreat
open Go.RowKit
set_option linter.unusedVariables false

/-- Is n / d a ratio in lowest terms, with parts that fit? -/
def vr (n d : Int) : Bool := decide (1 ≤ d ∧ d ≤ 2147483647 ∧ -2147483647 ≤ n ∧ n ≤ 2147483647 ∧ Nat.gcd n.natAbs d.natAbs = 1)
/-- What Make returns: numerator, denominator, error. -/
def mkR (n d : Int) : (Int × Int) × Int :=
  if d = 0 then ((0, 0), 2)
  else if 2147483647 < n.natAbs / Nat.gcd n.natAbs d.natAbs ∨ 2147483647 < d.natAbs / Nat.gcd n.natAbs d.natAbs then ((0, 0), 7)
  else ((if (n < 0 ↔ d < 0) then ((n.natAbs / Nat.gcd n.natAbs d.natAbs : Nat) : Int) else -((n.natAbs / Nat.gcd n.natAbs d.natAbs : Nat) : Int), ((d.natAbs / Nat.gcd n.natAbs d.natAbs : Nat) : Int)), 0)
def addR (a b c d : Int) : (Int × Int) × Int := if vr a b = true ∧ vr c d = true then mkR (a * d + c * b) (b * d) else ((0, 0), 2)
def subR (a b c d : Int) : (Int × Int) × Int := addR a b (wrap64 (-c)) d
/-- What Meets returns of n / d and a limit. -/
def meetR (n d l : Int) : Bool × Int :=
  if vr n d = true ∧ vld l = true then
    if l = 1099511627776 then (true, 0) else if l % 2 = 0 then (decide (n < l / 2 * d), 0) else (decide (n ≤ l / 2 * d), 0)
  else (false, 2)
theorem vr_iff (n d : Int) : vr n d = true ↔ (1 ≤ d ∧ d ≤ 2147483647 ∧ -2147483647 ≤ n ∧ n ≤ 2147483647 ∧ Nat.gcd n.natAbs d.natAbs = 1) := by unfold vr; simp
theorem vr_no {n d : Int} (h : ¬ (1 ≤ d ∧ d ≤ 2147483647 ∧ -2147483647 ≤ n ∧ n ≤ 2147483647 ∧ Nat.gcd n.natAbs d.natAbs = 1)) : vr n d = false := by
  rw [← Bool.not_eq_true, vr_iff]; exact h
theorem mul_bd {a b : Int} (h1 : -2147483647 ≤ a) (h2 : a ≤ 2147483647) (h3 : -2147483647 ≤ b) (h4 : b ≤ 2147483647) : -4611686014132420609 ≤ a * b ∧ a * b ≤ 4611686014132420609 := by
  have h : (a * b).natAbs ≤ 2147483647 * 2147483647 := by
    rw [Int.natAbs_mul]; exact Nat.mul_le_mul (by omega) (by omega)
  omega
theorem mkR_zero (n : Int) : mkR n 0 = ((0, 0), 2) := by unfold mkR; rw [if_pos rfl]
theorem mkR_range {n d : Int} (hd : ¬ d = 0) (h : 2147483647 < n.natAbs / Nat.gcd n.natAbs d.natAbs ∨ 2147483647 < d.natAbs / Nat.gcd n.natAbs d.natAbs) : mkR n d = ((0, 0), 7) := by
  unfold mkR; rw [if_neg hd, if_pos h]
theorem mkR_ok {n d : Int} (hd : ¬ d = 0) (h : ¬ (2147483647 < n.natAbs / Nat.gcd n.natAbs d.natAbs ∨ 2147483647 < d.natAbs / Nat.gcd n.natAbs d.natAbs)) :
    mkR n d = ((if (n < 0 ↔ d < 0) then ((n.natAbs / Nat.gcd n.natAbs d.natAbs : Nat) : Int) else -((n.natAbs / Nat.gcd n.natAbs d.natAbs : Nat) : Int), ((d.natAbs / Nat.gcd n.natAbs d.natAbs : Nat) : Int)), 0) := by
  unfold mkR; rw [if_neg hd, if_neg h]
theorem addR_no {a b c d : Int} (h : ¬ (vr a b = true ∧ vr c d = true)) : addR a b c d = ((0, 0), 2) := by unfold addR; rw [if_neg h]
theorem addR_yes {a b c d : Int} (h : vr a b = true ∧ vr c d = true) : addR a b c d = mkR (a * d + c * b) (b * d) := by unfold addR; rw [if_pos h]
/-- What Make makes has the same value. -/
theorem mkR_val {n d p q e : Int} (hd : 0 < d) (h : mkR n d = ((p, q), e)) (he : e = 0) : p * d = n * q ∧ 1 ≤ q ∧ vr p q = true := by
  subst he
  unfold mkR at h
  rw [if_neg (by omega)] at h
  split at h
  · simp at h
  rename_i hb
  obtain ⟨hp, hq⟩ : (if (n < 0 ↔ d < 0) then ((n.natAbs / Nat.gcd n.natAbs d.natAbs : Nat) : Int) else -((n.natAbs / Nat.gcd n.natAbs d.natAbs : Nat) : Int)) = p ∧ ((d.natAbs / Nat.gcd n.natAbs d.natAbs : Nat) : Int) = q := by
    simp only [Prod.mk.injEq, and_true] at h; exact h
  have hg : 0 < Nat.gcd n.natAbs d.natAbs := Nat.gcd_pos_of_pos_right _ (by omega)
  have hdn := Nat.gcd_dvd_left n.natAbs d.natAbs
  have hdd := Nat.gcd_dvd_right n.natAbs d.natAbs
  generalize hG : Nat.gcd n.natAbs d.natAbs = g at *
  obtain ⟨x, hx⟩ := hdn
  obtain ⟨y, hy⟩ := hdd
  have ex : n.natAbs / g = x := by rw [hx]; exact Nat.mul_div_cancel_left _ hg
  have ey : d.natAbs / g = y := by rw [hy]; exact Nat.mul_div_cancel_left _ hg
  rw [ex, ey] at hb
  have hco : Nat.gcd x y = 1 := by
    rw [hx, hy, Nat.gcd_mul_left] at hG
    exact Nat.eq_of_mul_eq_mul_left hg (by rw [hG, Nat.mul_one])
  rw [ex] at hp
  rw [ey] at hq
  have hyp : 0 < y := by
    rcases Nat.eq_zero_or_pos y with h0 | h0
    · subst h0; simp at hy; omega
    · exact h0
  have edd : (d : Int) = (g : Int) * (y : Int) := by have := congrArg (Int.ofNat) hy; simp at this; omega
  have hmain : p * d = n * q := by
    by_cases hn : n < 0
    · rw [if_neg (by omega)] at hp
      have enn : n = -((g : Int) * (x : Int)) := by have := congrArg (Int.ofNat) hx; simp at this; omega
      rw [← hp, ← hq, edd, enn, Int.neg_mul, Int.neg_mul, Int.mul_left_comm, Int.mul_assoc]
    · rw [if_pos (by omega)] at hp
      have enn : n = (g : Int) * (x : Int) := by have := congrArg (Int.ofNat) hx; simp at this; omega
      rw [← hp, ← hq, edd, enn, Int.mul_left_comm, Int.mul_assoc]
  refine ⟨hmain, by omega, ?_⟩
  rw [vr_iff]
  have hpa : p.natAbs = x := by
    rw [← hp]; split <;> simp
  have hqa : q.natAbs = y := by rw [← hq]; simp
  refine ⟨by omega, by omega, by omega, by omega, by rw [hpa, hqa]; exact hco⟩
end Go.Proofs.YtfphlpglgcmljaaGreat

