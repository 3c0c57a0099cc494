/- What Up makes of a valid zone; plain Lean. -/
import Derived.Test.YtfphlpglgcmljaaGreatClx
import Derived.Test.YtfphlpglgcmljaaGreatRst
namespace Go.Proofs.YtfphlpglgcmljaaGreat
open Go.RowKit
set_option linter.unusedVariables false
theorem lsum_val {a b : Int} (ha : vld a = true) (hb : vld b = true) (na : a ≠ 1099511627776) (nb : b ≠ 1099511627776) : lsum a b = a + b - (if a % 2 = 0 ∧ b % 2 = 0 then 0 else 1) := by
  rw [vld_iff] at ha hb
  unfold lsum
  rw [if_neg (by omega)]
  unfold wrap64
  split <;> omega
theorem ent_vld {N : Nat} {xs : List Int} (h : OkZ N xs) {i j : Nat} (hi : i ≤ N) (hj : j ≤ N) : vld (ent N xs i j) = true := (h.el hi hj).val
theorem ent_tri {N : Nat} {xs : List Int} (h : OkZ N xs) {i j k : Nat} (hi : i ≤ N) (hj : j ≤ N) (hk : k ≤ N) : ent N xs i j ≤ lsum (ent N xs i k) (ent N xs k j) := by
  have := h.tri i j k (by rw [Int.toNat_natCast]; exact hi) (by rw [Int.toNat_natCast]; exact hj) (by rw [Int.toNat_natCast]; exact hk)
  rw [Int.toNat_natCast] at this
  exact this
theorem ent_row {N : Nat} {xs : List Int} (h : OkZ N xs) {j : Nat} (hj : j ≤ N) : ent N xs 0 j ≤ 1 := by
  have := h.rowN hj
  unfold ent; rwa [Nat.zero_mul, Nat.zero_add]
theorem lsum_le {a b : Int} (ha : vld a = true) (hb : vld b = true) : lsum a b ≤ 1099511627776 := by
  by_cases na : a = 1099511627776
  · rw [lsum_nl _ _ (.inl na)]; omega
  by_cases nb : b = 1099511627776
  · rw [lsum_nl _ _ (.inr nb)]; omega
  rw [lsum_val ha hb na nb]
  rw [vld_iff] at ha hb
  split <;> omega
theorem okz_of {N : Nat} {Z : List Int} (hN : N ≤ 10) (hl : Z.length = (N + 1) * (N + 1)) (hv : ∀ i j, i ≤ N → j ≤ N → vld (ent N Z i j) = true) (hd : ∀ i, i ≤ N → ent N Z i i = 1) (hr : ∀ j, j ≤ N → ent N Z 0 j ≤ 1)
    (ht : ∀ i j k, i ≤ N → j ≤ N → k ≤ N → ent N Z i j ≤ lsum (ent N Z i k) (ent N Z k j)) : OkZ N Z :=
  OkZ.mk' hN hl (fun i j hi hj => ⟨hv i j (by omega) hj, fun e => by subst e; exact hd i (by omega), fun e => by subst e; exact hr j hj⟩) (fun i j k hi hj hk => ht i j k (by omega) hj hk)
theorem vld_wd {l : Int} (h : vld l = true) : Wd 274877906944 l := by rw [vld_iff] at h; unfold Wd; omega
theorem lsum_up {a b a' b' : Int} (ha : vld a = true) (hb : vld b = true) (ha' : vld a' = true) (hb' : vld b' = true) (h1 : a' ≤ a) (h2 : b' ≤ b) : lsum a' b' ≤ lsum a b := lsum_mono (vld_wd ha) (vld_wd hb) (vld_wd ha') (vld_wd hb') h1 h2
theorem lsum_1r {a : Int} (h : vld a = true) : lsum a 1 = a := by
  by_cases na : a = 1099511627776
  · rw [lsum_nl _ _ (.inl na), na]
  · rw [lsum_val h (by decide) na (by decide), if_neg (by omega)]; omega
theorem lsum_1l {a : Int} (h : vld a = true) : lsum 1 a = a := by
  by_cases na : a = 1099511627776
  · rw [lsum_nl _ _ (.inr na), na]
  · rw [lsum_val (by decide) h (by decide) na, if_neg (by omega)]; omega
-- Up
theorem upTo_ent {N : Nat} {xs : List Int} (hl : xs.length = (N + 1) * (N + 1)) : ∀ q, q ≤ N → ∀ i j, i ≤ N → j ≤ N → ent N (upTo N xs q) i j = if j = 0 ∧ 1 ≤ i ∧ i ≤ q then 1099511627776 else ent N xs i j := by
  intro q
  induction q with
  | zero => intro _ i j _ _; rw [if_neg (by omega)]; rfl
  | succ q ih =>
    intro hq i j hi hj
    have e : upTo N xs (q + 1) = (upTo N xs q).set ((q + 1) * (N + 1) + 0) 1099511627776 := rfl
    rw [e, ent_set (by rw [upTo_len]; exact hl) (by omega) (Nat.zero_le _) hj, ih (by omega) i j hi hj]
    by_cases c : i = q + 1 ∧ j = 0
    · rw [if_pos c, if_pos (by omega)]
    · rw [if_neg c]
      by_cases c2 : j = 0 ∧ 1 ≤ i ∧ i ≤ q
      · rw [if_pos c2, if_pos (by omega)]
      · rw [if_neg c2, if_neg (by omega)]
theorem up_ent {N : Nat} {xs : List Int} (h : OkZ N xs) {i j : Nat} (hi : i ≤ N) (hj : j ≤ N) : ent N (upTo N xs N) i j = if j = 0 ∧ 1 ≤ i then 1099511627776 else ent N xs i j := by
  have hlen : xs.length = (N + 1) * (N + 1) := by have := h.len; rwa [Int.toNat_natCast] at this
  rw [upTo_ent hlen N (Nat.le_refl _) i j hi hj]
  by_cases c : j = 0 ∧ 1 ≤ i
  · rw [if_pos c, if_pos (by omega)]
  · rw [if_neg c, if_neg (by omega)]
theorem okz_up {N : Nat} {xs : List Int} (h : OkZ N xs) : OkZ N (upTo N xs N) := by
  have hlen : xs.length = (N + 1) * (N + 1) := by have := h.len; rwa [Int.toNat_natCast] at this
  refine okz_of (by have := h.hi; omega) (by rw [upTo_len, hlen]) (fun i j hi hj => ?_) (fun i hi => ?_) (fun j hj => ?_) (fun i j k hi hj hk => ?_)
  · rw [up_ent h hi hj]; split
    · decide
    · exact ent_vld h hi hj
  · rw [up_ent h hi hi, if_neg (by omega)]; exact h.diagN hi
  · rw [up_ent h (Nat.zero_le _) hj, if_neg (by omega)]; exact ent_row h hj
  · rw [up_ent h hi hj, up_ent h hi hk, up_ent h hk hj]
    by_cases c1 : k = 0 ∧ 1 ≤ i
    · rw [if_pos c1, lsum_nl _ _ (.inl rfl)]
      split
      · exact Int.le_refl _
      · exact vld_le (ent_vld h hi hj)
    · rw [if_neg c1]
      by_cases c2 : j = 0 ∧ 1 ≤ k
      · rw [if_pos c2, lsum_nl _ _ (.inr rfl)]
        split
        · exact Int.le_refl _
        · exact vld_le (ent_vld h hi hj)
      · rw [if_neg c2]
        rw [if_neg (by omega)]
        exact ent_tri h hi hj hk
theorem up_val {N : Nat} {xs : List Int} (h : OkZ N xs) : upF N xs = (0, upTo N xs N) := by
  unfold upF
  rw [chgF_yes h rfl, Int.toNat_natCast]
  exact closed_ok1 (okz_up h)
end Go.Proofs.YtfphlpglgcmljaaGreat

