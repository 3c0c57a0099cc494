/- Part of the proof of priced_clears_proved: Sh3, Rsq, Wct, Wcu. -/
import Derived.Laws.StructEq
import Derived.BigQuiet
import Derived.Deep.RegionLaw
import Derived.Deep.RegionHeld3
import Derived.Deep.DeepCutAuto
import Derived.Test.YtfphlpglgcmljaaGreatXcWid1
import Derived.Test.YtfphlpglgcmljaaGreatXcSta
import Derived.Test.YtfphlpglgcmljaaGreatXcUpz
import Derived.Test.YtfphlpglgcmljaaGreatXcSame
import Derived.Test.YtfphlpglgcmljaaGreatXcQ
import Derived.Test.YtfphlpglgcmljaaGreatXcZref
import Derived.Test.YtfphlpglgcmljaaGreatXcZof
import Derived.Test.YtfphlpglgcmljaaGreatXcBox
import Derived.Test.YtfphlpglgcmljaaGreatXcK3
import Derived.Test.YtfphlpglgcmljaaGreatXcClx
import Derived.Test.YtfphlpglgcmljaaGreatXcRand
import Derived.Test.YtfphlpglgcmljaaGreatXcPrp
namespace Go.Proofs.YtfphlpglgcmljaaGreat
open Go.RowKit
set_option linter.unusedVariables false
instance (n : Int) : Decidable (I64 n) := by unfold I64; exact inferInstance
set_option linter.unusedVariables false
end Go.Proofs.YtfphlpglgcmljaaGreat
namespace Go.Proofs.YtfphlpglgcmljaaGreat
open Go.RowKit
set_option linter.unusedVariables false
theorem free1_ent {N i : Nat} {xs : List Int} (hl : xs.length = (N + 1) * (N + 1)) (hi : i ≤ N) (q : Nat) (hq : q ≤ N + 1) : ∀ a b, a ≤ N → b ≤ N →
  ent N (free1 N xs i q) a b = if (a = i ∧ b < q) ∨ (b = i ∧ a < q) then 1099511627776 else ent N xs a b := by
 induction q with
 | zero => intro a b _ _; rw [if_neg (by omega)]; rfl
 | succ q ih =>
  intro a b ha hb
  rw [free1, ent_set (by rw [List.length_set, free1_len, hl]) (by omega) hi hb, ent_set (by rw [free1_len, hl]) hi (by omega) hb, ih (by omega) a b ha hb]
  by_cases c1 : a = q ∧ b = i
  ·rw [if_pos c1, if_pos (by omega)]
  ·rw [if_neg c1]
   by_cases c2 : a = i ∧ b = q
   ·rw [if_pos c2, if_pos (by omega)]
   ·rw [if_neg c2]
    by_cases c3 : (a = i ∧ b < q) ∨ (b = i ∧ a < q)
    ·rw [if_pos c3, if_pos (by omega)]
    ·rw [if_neg c3, if_neg (by omega)]
theorem free2_ent {N i : Nat} {xs : List Int} (hl : xs.length = (N + 1) * (N + 1)) (hi : i ≤ N) (hi1 : 1 ≤ i) (q : Nat) (hq : q ≤ N + 1) : ∀ a b, a ≤ N → b ≤ N →
  ent N (free2 N xs i q) a b = if b = i ∧ a < q ∧ a ≠ i then ent N xs a 0 else ent N xs a b := by
 induction q with
 | zero => intro a b _ _; rw [if_neg (by omega)]; rfl
 | succ q ih =>
  intro a b ha hb
  rw [free2]
  by_cases e : q = i
  ·rw [if_pos e, ih (by omega) a b ha hb]
   by_cases c : b = i ∧ a < q ∧ a ≠ i
   ·rw [if_pos c, if_pos (by omega)]
   ·rw [if_neg c, if_neg (by omega)]
  ·have e0 : gi (free2 N xs i q) (q * (N + 1)) = ent N xs q 0 := by
    have := ih (by omega) q 0 (by omega) (by omega)
    rw [if_neg (by omega)] at this
    exact this
   rw [if_neg e, ent_set (by rw [free2_len, hl]) (by omega) hi hb, ih (by omega) a b ha hb, e0]
   by_cases c1 : a = q ∧ b = i
   ·rw [if_pos c1, if_pos (by omega), c1.1]
   ·rw [if_neg c1]
    by_cases c : b = i ∧ a < q ∧ a ≠ i
    ·rw [if_pos c, if_pos (by omega)]
    ·rw [if_neg c, if_neg (by omega)]
theorem freeB_ent {N i : Nat} {xs : List Int} (hl : xs.length = (N + 1) * (N + 1)) (hi : i ≤ N) (hi1 : 1 ≤ i) (a b : Nat) (ha : a ≤ N) (hb : b ≤ N) :
  ent N (freeB N xs i) a b = if a = i then (if b = i then 1 else 1099511627776) else if b = i then ent N xs a 0 else ent N xs a b := by
 have l1 : ((free1 N xs i (N + 1)).set (i * (N + 1) + i) 1).length = (N + 1) * (N + 1) := by rw [List.length_set, free1_len, hl]
 have l0 : (free1 N xs i (N + 1)).length = (N + 1) * (N + 1) := by rw [free1_len, hl]
 unfold freeB
 rw [free2_ent l1 hi hi1 _ (Nat.le_refl _) a b ha hb]
 by_cases c1 : a = i
 ·rw [if_neg (by omega), if_pos c1, ent_set l0 hi hi hb, free1_ent hl hi _ (Nat.le_refl _) a b ha hb]
  by_cases c2 : b = i
  ·rw [if_pos ⟨c1, c2⟩, if_pos c2]
  ·rw [if_neg (by omega), if_neg c2, if_pos (by omega)]
 ·rw [if_neg c1]
  by_cases c2 : b = i
  ·rw [if_pos (by omega), if_pos c2, ent_set l0 hi hi (by omega), if_neg (by omega), free1_ent hl hi _ (Nat.le_refl _) a 0 ha (by omega), if_neg (by omega)]
  ·rw [if_neg (by omega), if_neg c2, ent_set l0 hi hi hb, if_neg (by omega), free1_ent hl hi _ (Nat.le_refl _) a b ha hb, if_neg (by omega)]
theorem OkZ.rg {N : Nat} {xs : List Int} (h : OkZ N xs) {i j : Nat} (hi : i ≤ N) (hj : j ≤ N) : Rg 1152921504606846976 (ent N xs i j) := by
 have := h.elo hi hj; unfold Rg; omega
theorem OkZ.top {N : Nat} {xs : List Int} (h : OkZ N xs) {i j : Nat} (hi : i ≤ N) (hj : j ≤ N) : ent N xs i j ≤ 1099511627776 := by
 have := h.elo hi hj; omega
theorem freeB_ok {N i : Nat} {xs : List Int} (h : OkZ N xs) (hi : i ≤ N) (hi1 : 1 ≤ i) : OkZ N (freeB N xs i) := by
 have hN : N ≤ 10 := by have := h.hi; omega
 have hl : xs.length = (N + 1) * (N + 1) := by have := h.len; rwa [Int.toNat_natCast] at this
 have E := fun a b ha hb => freeB_ent hl hi hi1 a b ha hb
 refine OkZ.mk' hN (by rw [freeB_len, hl]) (fun a b ha hb => ?_) (fun a b k ha hb hk => ?_)
 ·have ha' : a ≤ N := by omega
  have e := E a b ha' hb
  refine ⟨?_, fun hab => ?_, fun h0 => ?_⟩
  ·show vld (ent N (freeB N xs i) a b) = true
   rw [e]
   split
   ·split <;> decide
   ·split
    ·exact (h.el ha' (Nat.zero_le _)).val
    ·exact (h.el ha' hb).val
  ·show ent N (freeB N xs i) a b = 1
   rw [e]
   split
   ·rw [if_pos (by omega)]
   ·rw [if_neg (by omega)]; exact (h.el ha' hb).diag hab
  ·show ent N (freeB N xs i) a b ≤ 1
   rw [e, if_neg (by omega)]
   split
   ·exact (h.el ha' (Nat.zero_le _)).row h0
   ·exact (h.el ha' hb).row h0
 ·have ha' : a ≤ N := by omega
  show ent N (freeB N xs i) a b ≤ lsum (ent N (freeB N xs i) a k) (ent N (freeB N xs i) k b)
  rw [E a b ha' hb, E a k ha' hk, E k b hk hb]
  by_cases ca : a = i
  ·rw [if_pos ca, if_pos ca]
   by_cases ck : k = i
   ·rw [if_pos ck, if_pos ck]
    by_cases cb : b = i
    ·rw [if_pos cb, lsum1r (by unfold Rg; omega)]; omega
    ·rw [if_neg cb, lsum_nl _ _ (.inr rfl)]; omega
   ·rw [if_neg ck, if_neg ck, lsum_nl _ _ (.inl rfl)]; split <;> omega
  ·rw [if_neg ca, if_neg ca]
   by_cases cb : b = i
   ·rw [if_pos cb, if_pos cb]
    by_cases ck : k = i
    ·rw [if_pos ck, if_pos ck, lsum1r (h.rg ha' (Nat.zero_le _))]; exact Int.le_refl _
    ·rw [if_neg ck, if_neg ck, if_pos cb]; exact (El.gt h ha' (Nat.zero_le _) hk : Tr N xs a 0 k)
   ·rw [if_neg cb]
    by_cases ck : k = i
    ·rw [if_pos ck, if_pos ck, if_neg cb, lsum_nl _ _ (.inr rfl)]; exact h.top ha' hb
    ·rw [if_neg ck, if_neg ck, if_neg cb]; exact (El.gt h ha' hb hk : Tr N xs a b k)
def mkZ (N : Nat) (f : Nat → Nat → Int) : List Int := (List.range ((N + 1) * (N + 1))).map fun p => f (p / (N + 1)) (p % (N + 1))
theorem mkZ_len (N : Nat) (f : Nat → Nat → Int) : (mkZ N f).length = (N + 1) * (N + 1) := by simp [mkZ]
theorem mkZ_ent {N : Nat} {f : Nat → Nat → Int} {i j : Nat} (hi : i ≤ N) (hj : j ≤ N) : ent N (mkZ N f) i j = f i j := by
 have hlt := idx_lt N i j hi hj
 unfold ent
 rw [gi_of (by rw [mkZ_len]; exact hlt)]
 simp only [mkZ, List.getElem_map, List.getElem_range]
 have h1 : (i * (N + 1) + j) / (N + 1) = i := by rw [Nat.mul_comm, Nat.mul_add_div (by omega), Nat.div_eq_of_lt (by omega)]; omega
 have h2 : (i * (N + 1) + j) % (N + 1) = j := by rw [Nat.mul_comm, Nat.mul_add_mod, Nat.mod_eq_of_lt (by omega)]
 rw [h1, h2]
def rsE (N : Nat) (xs : List Int) (x : Nat) (c : Int) (a b : Nat) : Int :=
 if a = x then (if b = x then 1 else 2 * c + ent N xs 0 b) else if b = x then (if ent N xs a 0 = 1099511627776 then 1099511627776 else ent N xs a 0 - 2 * c) else ent N xs a b
theorem ent_c0 {N : Nat} {xs : List Int} (h : OkZ N xs) {k : Nat} (hk : k ≤ N) : 1 ≤ ent N xs k 0 := by
 have h1 := ent_tri h (Nat.zero_le N) (Nat.zero_le N) hk (i := 0) (j := 0)
 have h2 : ent N xs 0 0 = 1 := h.diagN (Nat.zero_le _)
 have h3 := ent_row h hk
 by_cases n : ent N xs k 0 = 1099511627776
 ·omega
 ·rw [h2, lsum_val (ent_vld h (Nat.zero_le _) hk) (ent_vld h hk (Nat.zero_le _)) (by omega) n] at h1
  split at h1 <;> omega
section
variable {N x : Nat} {xs : List Int} {c : Int}
theorem rsE_vld (h : OkZ N xs) (h0 : 0 ≤ c) (h1 : c ≤ 1048576) {a b : Nat} (ha : a ≤ N) (hb : b ≤ N) : vld (rsE N xs x c a b) = true := by
 have v0 := ent_vld h (Nat.zero_le _) hb (i := 0)
 have v1 := ent_vld h ha (Nat.zero_le _) (j := 0)
 have r0 := ent_row h hb
 have c0 := ent_c0 h ha
 unfold rsE
 rw [vld_iff] at v0 v1
 split
 ·split
  ·decide
  ·rw [vld_iff]; omega
 ·split
  ·split
   ·decide
   ·rw [vld_iff]; omega
  ·exact ent_vld h ha hb
theorem rsE_tri (h : OkZ N xs) (hx1 : 1 ≤ x) (h0 : 0 ≤ c) (h1 : c ≤ 1048576) {a b k : Nat} (ha : a ≤ N) (hb : b ≤ N) (hk : k ≤ N) : rsE N xs x c a b ≤ lsum (rsE N xs x c a k) (rsE N xs x c k b) := by
 have va := rsE_vld h h0 h1 ha hk (x := x)
 have vb := rsE_vld h h0 h1 hk hb (x := x)
 have vt := rsE_vld h h0 h1 ha hb (x := x)
 by_cases na : rsE N xs x c a k = 1099511627776
 ·rw [lsum_nl _ _ (.inl na)]; exact vld_le vt
 by_cases nb : rsE N xs x c k b = 1099511627776
 ·rw [lsum_nl _ _ (.inr nb)]; exact vld_le vt
 rw [lsum_val va vb na nb]
 have d0 : ent N xs 0 0 = 1 := h.diagN (Nat.zero_le _)
 have tri : ∀ i j l, i ≤ N → j ≤ N → l ≤ N → ent N xs i l ≠ 1099511627776 → ent N xs l j ≠ 1099511627776 → ent N xs i j ≤ ent N xs i l + ent N xs l j - (if ent N xs i l % 2 = 0 ∧ ent N xs l j % 2 = 0 then 0 else 1) := fun i j l hi hj hl n1 n2 => by
  have t := ent_tri h hi hj hl
  rwa [lsum_val (ent_vld h hi hl) (ent_vld h hl hj) n1 n2] at t
 have r0 : ∀ j, j ≤ N → ent N xs 0 j ≤ 1 := fun j hj => ent_row h hj
 unfold rsE at *
 by_cases ea : a = x
 ·rw [if_pos ea] at na ⊢
  rw [if_pos ea]
  by_cases eb : b = x
  ·rw [if_pos eb]
   by_cases ek : k = x
   ·rw [if_pos ek]; rw [if_pos ek]; omega
   ·rw [if_neg ek] at na ⊢
    rw [if_neg ek, if_pos eb] at nb ⊢
    by_cases n : ent N xs k 0 = 1099511627776
    ·rw [if_pos n] at nb; exact absurd rfl nb
    ·rw [if_neg n]
     have t := tri 0 0 k (Nat.zero_le _) (Nat.zero_le _) hk (by have := r0 k hk; omega) n
     split at t <;> split <;> omega
  ·rw [if_neg eb]
   by_cases ek : k = x
   ·rw [if_pos ek]; rw [if_pos ek]; split <;> omega
   ·rw [if_neg ek] at na ⊢
    rw [if_neg ek, if_neg eb] at nb ⊢
    have t := tri 0 b k (Nat.zero_le _) hb hk (by have := r0 k hk; omega) nb
    split at t <;> split <;> omega
 ·rw [if_neg ea] at na ⊢
  rw [if_neg ea]
  by_cases eb : b = x
  ·rw [if_pos eb]
   by_cases ek : k = x
   ·rw [if_pos ek] at na ⊢
    rw [if_pos ek, if_pos eb]
    by_cases n : ent N xs a 0 = 1099511627776
    ·rw [if_pos n] at na; exact absurd rfl na
    ·rw [if_neg n]; split <;> omega
   ·rw [if_neg ek] at na ⊢
    rw [if_neg ek, if_pos eb] at nb ⊢
    by_cases n : ent N xs k 0 = 1099511627776
    ·rw [if_pos n] at nb; exact absurd rfl nb
    ·rw [if_neg n]
     have t := tri a 0 k ha (Nat.zero_le _) hk na n
     have c1 := ent_vld h ha (Nat.zero_le _) (j := 0)
     have c2 := ent_vld h ha hk
     have c3 := ent_vld h hk (Nat.zero_le _) (j := 0)
     rw [vld_iff] at c1 c2 c3
     have n2 : ent N xs a 0 ≠ 1099511627776 := by intro e; rw [e] at t; split at t <;> omega
     rw [if_neg n2]
     split at t <;> split <;> omega
  ·rw [if_neg eb]
   by_cases ek : k = x
   ·rw [if_pos ek] at na ⊢
    rw [if_pos ek, if_neg eb] at nb ⊢
    by_cases n : ent N xs a 0 = 1099511627776
    ·rw [if_pos n] at na; exact absurd rfl na
    ·rw [if_neg n]
     have t := tri a b 0 ha hb (Nat.zero_le _) n (by have := r0 b hb; omega)
     split at t <;> split <;> omega
   ·rw [if_neg ek] at na ⊢
    rw [if_neg ek, if_neg eb] at nb ⊢
    exact tri a b k ha hb hk na nb
theorem rsE_ok (h : OkZ N xs) (hx1 : 1 ≤ x) (hx : x ≤ N) (h0 : 0 ≤ c) (h1 : c ≤ 1048576) : OkZ N (mkZ N (rsE N xs x c)) := by
 refine okz_of (by have := h.hi; omega) (mkZ_len _ _) (fun i j hi hj => ?_) (fun i hi => ?_) (fun j hj => ?_) (fun i j k hi hj hk => ?_)
 ·rw [mkZ_ent hi hj]; exact rsE_vld h h0 h1 hi hj
 ·rw [mkZ_ent hi hi]; unfold rsE
  by_cases e : i = x
  ·rw [if_pos e, if_pos e]
  ·rw [if_neg e, if_neg e]; exact h.diagN hi
 ·rw [mkZ_ent (Nat.zero_le _) hj]; unfold rsE
  rw [if_neg (show ¬ (0 : Nat) = x by omega)]
  by_cases e : j = x
  ·have d0 : ent N xs 0 0 = 1 := h.diagN (Nat.zero_le _)
   rw [if_pos e, d0, if_neg (by omega)]; omega
  ·rw [if_neg e]; exact ent_row h hj
 ·rw [mkZ_ent hi hj, mkZ_ent hi hk, mkZ_ent hk hj]; exact rsE_tri h hx1 h0 h1 hi hj hk
theorem setB_ent {ys : List Int} (hl : ys.length = (N + 1) * (N + 1)) (hx1 : 1 ≤ x) (hx : x ≤ N) (c : Int) {a b : Nat} (ha : a ≤ N) (hb : b ≤ N) :
  ent N (setB N ys x c) a b = if a = 0 ∧ b = x then imin (ent N ys 0 x) (-2 * c + 1) else if a = x ∧ b = 0 then imin (ent N ys x 0) (2 * c + 1) else ent N ys a b := by
 have l1 : (ys.set (x * (N + 1) + 0) (imin (ent N ys x 0) (2 * c + 1))).length = (N + 1) * (N + 1) := by rw [List.length_set, hl]
 have e : setB N ys x c = (ys.set (x * (N + 1) + 0) (imin (ent N ys x 0) (2 * c + 1))).set (0 * (N + 1) + x) (imin (ent N (ys.set (x * (N + 1) + 0) (imin (ent N ys x 0) (2 * c + 1))) 0 x) (1 - 2 * c)) := by
  unfold setB ent
  simp only [Nat.zero_mul, Nat.zero_add, Nat.add_zero]
 rw [e, ent_set l1 (Nat.zero_le _) hx hb, ent_set hl hx (Nat.zero_le _) hb, ent_set hl hx (Nat.zero_le _) hx, if_neg (show ¬ ((0 : Nat) = x ∧ x = 0) by omega), show (1 : Int) - 2 * c = -2 * c + 1 by omega]
theorem reset_val (h : OkZ N xs) (hx1 : 1 ≤ x) (hx : x ≤ N) (h0 : 0 ≤ c) (h1 : c ≤ 1048576) : resetF N xs x c = (0, mkZ N (rsE N xs x c)) := by
 have hlen : xs.length = (N + 1) * (N + 1) := by have := h.len; rwa [Int.toNat_natCast] at this
 have hf := freeB_ok h hx hx1
 have hfl : (freeB N xs x).length = (N + 1) * (N + 1) := by have := hf.len; rwa [Int.toNat_natCast] at this
 have B := fun a b ha hb => freeB_ent hlen hx hx1 a b ha hb
 have d0 : ent N xs 0 0 = 1 := h.diagN (Nat.zero_le _)
 have E : ∀ a b, a ≤ N → b ≤ N → ent N (setB N (freeB N xs x) x c) a b = if a = 0 ∧ b = x then 1 - 2 * c else if a = x ∧ b = 0 then 2 * c + 1 else ent N (freeB N xs x) a b := fun a b ha hb => by
  rw [setB_ent hfl hx1 hx c ha hb, B 0 x (Nat.zero_le _) hx, B x 0 hx (Nat.zero_le _), if_neg (show ¬ (0 : Nat) = x by omega), if_pos rfl, if_pos rfl, if_neg (show ¬ (0 : Nat) = x by omega), d0]
  unfold imin
  by_cases c1 : a = 0 ∧ b = x
  ·rw [if_pos c1, if_pos c1]; split <;> omega
  ·rw [if_neg c1, if_neg c1]
   by_cases c2 : a = x ∧ b = 0
   ·rw [if_pos c2, if_pos c2]; split <;> omega
   ·rw [if_neg c2, if_neg c2]
 have hr : resetF N xs x c = closedF N (setB N (freeB N xs x) x c) := by
  unfold resetF
  rw [chgF_yes h (by simp [clkB, conB]; omega), Int.toNat_natCast, Int.toNat_natCast]
 rw [hr]
 have nl : pl (1099511627776 : Int) = none := pl_nl
 have V := fun a b ha hb => rsE_vld h h0 h1 ha hb (x := x) (a := a) (b := b)
 refine closed_is (rsE_ok h hx1 hx h0 h1) (by rw [setB_len, hfl]) (fun a b ha hb => ?_) (fun a b ha hb => ?_) (fun D cD dm dr a b ha hb => ?_)
 ·rw [E a b ha hb, mkZ_ent ha hb]
  by_cases c1 : a = 0 ∧ b = x
  ·rw [if_pos c1]
   obtain ⟨rfl, rfl⟩ := c1
   unfold rsE
   rw [if_neg (by omega), if_pos rfl, d0, if_neg (by omega)]
   exact ple_refl _
  ·rw [if_neg c1]
   by_cases c2 : a = x ∧ b = 0
   ·rw [if_pos c2]
    obtain ⟨rfl, rfl⟩ := c2
    unfold rsE
    rw [if_pos rfl, if_neg (by omega), d0]
    exact ple_refl _
   ·rw [if_neg c2, B a b ha hb]
    unfold rsE
    by_cases ea : a = x
    ·rw [if_pos ea, if_pos ea]
     by_cases eb : b = x
     ·rw [if_pos eb, if_pos eb]; exact ple_refl _
     ·rw [if_neg eb, if_neg eb, nl]; exact ple_none _
    ·rw [if_neg ea, if_neg ea]
     by_cases eb : b = x
     ·rw [if_pos eb, if_pos eb]
      by_cases n : ent N xs a 0 = 1099511627776
      ·rw [if_pos n, n]; exact ple_refl _
      ·rw [if_neg n, pl_fin n, pl_fin (by have := (vld_iff _).1 (ent_vld h ha (Nat.zero_le _) (j := 0)); omega)]
       show _ ≤ _
       omega
     ·rw [if_neg eb, if_neg eb]; exact ple_refl _
 ·rw [E a b ha hb]
  split
  ·rw [vld_iff]; omega
  ·split
   ·rw [vld_iff]; omega
   ·exact ent_vld hf ha hb
 ·rw [mkZ_ent ha hb]
  have m0 := dm a b ha hb
  rw [E a b ha hb] at m0
  by_cases c1 : a = 0 ∧ b = x
  ·rw [if_pos c1] at m0
   obtain ⟨rfl, rfl⟩ := c1
   unfold rsE
   rw [if_neg (by omega), if_pos rfl, d0, if_neg (by omega)]
   exact m0
  ·rw [if_neg c1] at m0
   have dx := dm 0 x (Nat.zero_le _) hx
   rw [E 0 x (Nat.zero_le _) hx, if_pos ⟨rfl, rfl⟩, pl_fin (show (1 : Int) - 2 * c ≠ 1099511627776 by omega)] at dx
   have dy := dm x 0 hx (Nat.zero_le _)
   rw [E x 0 hx (Nat.zero_le _), if_neg (by omega), if_pos ⟨rfl, rfl⟩, pl_fin (show (2 : Int) * c + 1 ≠ 1099511627776 by omega)] at dy
   by_cases ea : a = x
   ·by_cases eb : b = x
    ·subst ea
     unfold rsE
     rw [eb, if_pos rfl, if_pos rfl, cD.diag a hx, pl_fin (by decide)]
     exact ple_refl _
    ·unfold rsE
     rw [if_pos ea, if_neg eb]
     by_cases b0 : b = 0
     ·rw [if_pos ⟨ea, b0⟩] at m0
      rw [b0, d0]; rw [b0] at m0; exact m0
     ·have v := (vld_iff _).1 (ent_vld h (Nat.zero_le _) hb (i := 0))
      have r := ent_row h hb
      have d1 := dm 0 b (Nat.zero_le _) hb
      rw [E 0 b (Nat.zero_le _) hb, if_neg (by omega), if_neg (by omega), B 0 b (Nat.zero_le _) hb, if_neg (by omega), if_neg eb, pl_fin (show ent N xs 0 b ≠ 1099511627776 by omega)] at d1
      have t := ple_trans (cD.tri x b 0 hx hb (Nat.zero_le _)) (psum_mono dy d1)
      rw [ea, pl_fin (by omega)]
      refine ple_trans t ?_
      unfold psum
      show _ ≤ _
      split <;> omega
   ·by_cases eb : b = x
    ·unfold rsE
     rw [if_neg ea, if_pos eb]
     by_cases n : ent N xs a 0 = 1099511627776
     ·rw [if_pos n, nl]; exact ple_none _
     ·rw [if_neg n]
      have v := (vld_iff _).1 (ent_vld h ha (Nat.zero_le _) (j := 0))
      have c0 := ent_c0 h ha
      have d1 := dm a 0 ha (Nat.zero_le _)
      rw [E a 0 ha (Nat.zero_le _), if_neg (by omega), if_neg (by omega), B a 0 ha (Nat.zero_le _), if_neg ea, if_neg (by omega), pl_fin n] at d1
      have t := ple_trans (cD.tri a x 0 ha hx (Nat.zero_le _)) (psum_mono d1 dx)
      rw [eb, pl_fin (by omega)]
      refine ple_trans t ?_
      unfold psum
      show _ ≤ _
      split <;> omega
    ·unfold rsE
     rw [if_neg ea, if_neg eb]
     rw [if_neg (by omega), B a b ha hb, if_neg ea, if_neg eb] at m0
     exact m0
end
set_option linter.unusedVariables false
def sv (p : Nat → Int) (x : Nat) (n : Int) : Nat → Int := fun k => if k = x then n else p k
theorem sv_x (p : Nat → Int) (x : Nat) (n : Int) : sv p x n x = n := by unfold sv; rw [if_pos rfl]
theorem sv_ne {p : Nat → Int} {x : Nat} {n : Int} {k : Nat} (h : k ≠ x) : sv p x n k = p k := by unfold sv; rw [if_neg h]
theorem dS_upd (rs : List Int) {p p' q q' : Nat → Int} {x : Nat} (h : ∀ k, k ≠ x → q k - q' k = p k - p' k) (hx : 1 ≤ x) : ∀ k, dS rs q q' k = dS rs p p' k + (if x ≤ k then gi rs (x - 1) * ((q x - q' x) - (p x - p' x)) else 0)
 | 0 => by rw [if_neg (by omega)]; rfl
 | k + 1 => by
  show dS rs q q' k + gi rs k * (q (k + 1) - q' (k + 1)) = (dS rs p p' k + gi rs k * (p (k + 1) - p' (k + 1))) + _
  rw [dS_upd rs h hx k]
  by_cases e : x = k + 1
  ·subst e
   rw [if_neg (by omega), if_pos (by omega), show k + 1 - 1 = k by omega, Int.mul_sub (gi rs k) (q (k + 1) - q' (k + 1))]; omega
  ·rw [h (k + 1) (fun c => e c.symm)]
   by_cases e2 : x ≤ k
   ·rw [if_pos e2, if_pos (by omega)]; omega
   ·rw [if_neg e2, if_neg (by omega)]; omega
theorem SmZ.tri {N : Nat} {xs : List Int} {c : Int} {rs : List Int} (h : SmZ N xs c rs) {i j k : Nat} (hi : i ≤ N) (hj : j ≤ N) (hk : k ≤ N) (h1 : ent N xs i k ≠ 1099511627776) (h2 : ent N xs k j ≠ 1099511627776) : ent N xs i j ≤ ent N xs i k + ent N xs k j - 1 := by
 have t := ent_tri h.ok hi hj hk
 have e1 := h.eb i k hi hk
 have e2 := h.eb k j hk hj
 rw [lsum_val (ent_vld h.ok hi hk) (ent_vld h.ok hk hj) h1 h2, if_neg (by omega)] at t
 exact t
def Oth (N : Nat) (xs : List Int) (x : Nat) (p : Nat → Int) : Prop := ∀ i j, i ≤ N → j ≤ N → i ≠ x → j ≠ x → 2 * (p i - p j) + 1 ≤ ent N xs i j
theorem sv_in {N : Nat} {xs : List Int} {c : Int} {rs : List Int} (hz : SmZ N xs c rs) {x : Nat} (hx : x ≤ N) {p : Nat → Int} {n : Int} : Ip N xs (sv p x n) ↔ Oth N xs x p ∧ ∀ j, j ≤ N → j ≠ x → 2 * (n - p j) + 1 ≤ ent N xs x j ∧ 2 * (p j - n) + 1 ≤ ent N xs j x := by
 constructor
 ·intro h
  refine ⟨fun i j hi hj h1 h2 => ?_, fun j hj hn => ⟨?_, ?_⟩⟩
  ·have := h i j hi hj; rw [sv_ne h1, sv_ne h2] at this; exact this
  ·have := h x j hx hj; rw [sv_x, sv_ne hn] at this; exact this
  ·have := h j x hj hx; rw [sv_x, sv_ne hn] at this; exact this
 ·intro ⟨h, k⟩ i j hi hj
  by_cases e1 : i = x
  ·subst e1
   rw [sv_x]
   by_cases e2 : j = i
   ·subst e2
    rw [sv_x]
    have e : ent N xs j j = 1 := hz.ok.diagN hj
    omega
   ·rw [sv_ne e2]; exact (k j hj e2).1
  ·rw [sv_ne e1]
   by_cases e2 : j = x
   ·subst e2; rw [sv_x]; exact (k i hi e1).2
   ·rw [sv_ne e2]; exact h i j hi hj e1 e2
theorem reset_in {N : Nat} {xs : List Int} {c : Int} {rs : List Int} (hz : SmZ N xs c rs) {x : Nat} (h1 : 1 ≤ x) (hx : x ≤ N) {p : Nat → Int} (p0 : p 0 = 0) (hp : ∀ k, 1 ≤ k → k ≤ N → 0 ≤ p k ∧ p k ≤ 60) : Ip N (mkZ N (rsE N xs x (p x))) p ↔ Oth N xs x p := by
 constructor
 ·intro h i j hi hj e1 e2
  have := h i j hi hj
  rw [mkZ_ent hi hj] at this
  unfold rsE at this
  rw [if_neg e1, if_neg e2] at this
  exact this
 ·intro h i j hi hj
  rw [mkZ_ent hi hj]
  unfold rsE
  have px := hp x h1 hx
  by_cases e1 : i = x
  ·subst e1
   rw [if_pos rfl]
   by_cases e2 : j = i
   ·subst e2; rw [if_pos rfl]; omega
   ·rw [if_neg e2]
    have := h 0 j (Nat.zero_le _) hj (by omega) e2
    omega
  ·rw [if_neg e1]
   by_cases e2 : j = x
   ·subst e2
    rw [if_pos rfl]
    have a := h i 0 hi (Nat.zero_le _) e1 (by omega)
    split
    ·by_cases ei : i = 0
     ·subst ei; omega
     ·have := hp i (by omega) hi; omega
    ·omega
   ·rw [if_neg e2]; exact h i j hi hj e1 e2
theorem rsE_fn {N : Nat} {xs : List Int} {c : Int} {rs : List Int} (hz : SmZ N xs c rs) {x : Nat} (hx : x ≤ N) {tv : Int} (h0 : 0 ≤ tv) (h1 : tv ≤ 60) : ∀ i j, i ≤ N → j ≤ N → Fn 200 (ent N (mkZ N (rsE N xs x tv)) i j) := fun i j hi hj => by
 rw [mkZ_ent hi hj]
 unfold rsE Fn
 have e1 := hz.eb 0 j (Nat.zero_le _) hj
 have e2 := hz.eb i 0 hi (Nat.zero_le _)
 have e3 := hz.eb i j hi hj
 have r := ent_row hz.ok hj
 split
 ·split <;> omega
 ·split
  ·split <;> omega
  ·omega
theorem isF_inv {N : Nat} {xs : List Int} {c : Int} {rs : List Int} (hz : SmZ N xs c rs) {x : Nat} (hx : x ≤ N) {s : Int} {j : Nat} (hj : j ≤ N) (h : isF N xs x s j = true) : j ≠ x ∧ -20 ≤ atF N xs x s j ∧ atF N xs x s j ≤ 20 ∧ (s < 0 → ent N xs x j ≠ 1099511627776 ∧ ent N xs x j = 2 * atF N xs x s j + 1) ∧ (¬ s < 0 → ent N xs j x ≠ 1099511627776 ∧ ent N xs j x = -2 * atF N xs x s j + 1) := by
 unfold isF noF at h
 unfold atF
 have e1 := hz.eb x j hx hj
 have e2 := hz.eb j x hj hx
 by_cases c : s < 0
 ·rw [if_pos c] at h ⊢
  simp at h
  exact ⟨h.2, by omega, by omega, fun _ => ⟨h.1, by omega⟩, fun k => absurd c k⟩
 ·rw [if_neg c] at h ⊢
  simp at h
  exact ⟨h.2, by omega, by omega, fun k => absurd k c, fun _ => ⟨h.1, by omega⟩⟩
theorem isF_of {N : Nat} {xs : List Int} {x : Nat} {s : Int} {j : Nat} (hj : j ≠ x) (h1 : s < 0 → ent N xs x j ≠ 1099511627776) (h2 : ¬ s < 0 → ent N xs j x ≠ 1099511627776) : isF N xs x s j = true := by
 unfold isF noF
 by_cases c : s < 0
 ·rw [if_pos c]; simp [h1 c, hj]
 ·rw [if_neg c]; simp [h2 c, hj]
theorem rk_ok {N : Nat} {xs : List Int} {c : Int} {rs : List Int} (hz : SmZ N xs c rs) {x : Nat} (hx : x ≤ N) {s : Int} {j : Nat} (hj : j ≤ N) (hi : isF N xs x s j = true) : ∀ q, q ≤ N + 1 → Sk N 81 (rkTo N xs x s j q) ∧ ∀ p, Mk p (rkTo N xs x s j q) ↔ ∀ k, k < q → k ≠ j → isF N xs x s k = true → (s < 0 → p j - p k ≤ atF N xs x s k - atF N xs x s j) ∧ (¬ s < 0 → p k - p j ≤ atF N xs x s j - atF N xs x s k)
  | 0, _ => ⟨Sk.nil _ _, fun p => ⟨fun _ k a => by omega, fun _ => Mk.nil p⟩⟩
  | q + 1, hq => by
    obtain ⟨a, b⟩ := rk_ok hz hx hj hi q (by omega)
    unfold rkTo
    split
    · rename_i e
      refine ⟨a, fun p => (b p).trans ⟨fun m k h2 h3 h4 => m k (by
        by_cases e2 : k = q
        · subst e2
          rcases e with e | e
          · exact absurd e h3
          · rw [e] at h4; cases h4
        · omega) h3 h4, fun m k h2 h3 h4 => m k (by omega) h3 h4⟩⟩
    · rename_i e
      have e1 : q ≠ j := fun h => e (.inl h)
      have e2 : isF N xs x s q = true := by
        cases h : isF N xs x s q with
        | true => rfl
        | false => exact absurd (.inr h) e
      obtain ⟨_, l1, l2, _⟩ := isF_inv hz hx hj hi
      obtain ⟨_, l3, l4, _⟩ := isF_inv hz hx (by omega) e2
      by_cases hs : s < 0
      · rw [if_pos hs]
        refine ⟨a.app (wk_ok hj (by omega) (by omega) (by omega)), fun p => ?_⟩
        rw [Mk.app, b p, wk_mk]
        constructor
        · intro ⟨m, k⟩ k' h2 h3 h4
          by_cases e3 : k' = q
          · subst e3; exact ⟨fun _ => k, fun h => absurd hs h⟩
          · exact m k' (by omega) h3 h4
        · intro m
          exact ⟨fun k h2 h3 h4 => m k (by omega) h3 h4, (m q (by omega) e1 e2).1 hs⟩
      · rw [if_neg hs]
        refine ⟨a.app (wk_ok (by omega) hj (by omega) (by omega)), fun p => ?_⟩
        rw [Mk.app, b p, wk_mk]
        constructor
        · intro ⟨m, k⟩ k' h2 h3 h4
          by_cases e3 : k' = q
          · subst e3; exact ⟨fun h => absurd h hs, fun _ => k⟩
          · exact m k' (by omega) h3 h4
        · intro m
          exact ⟨fun k h2 h3 h4 => m k (by omega) h3 h4, (m q (by omega) e1 e2).2 hs⟩
set_option linter.unusedVariables false
theorem set_zero {N : Nat} {rs : List Int} {x : Nat} (h1 : 1 ≤ x) : rs.set (x - 1) 0 = rs.set (x - 1) (gi rs (x - 1) + -gi rs (x - 1)) := by rw [Int.add_right_neg]
theorem rg_int {N : Nat} {xs : List Int} {c : Int} {rs : List Int} (hz : SmZ N xs c rs) {x : Nat} (h1 : 1 ≤ x) (hx : x ≤ N) {s tv : Int} (hs : s = gi rs (x - 1)) (h0 : 0 ≤ tv) (h60 : tv ≤ 60) {j : Nat} (hj : j ≤ N) (hi : isF N xs x s j = true) :
  ((rG N xs c rs (mkZ N (rsE N xs x tv)) x s j).2 = 0 ∨ (rG N xs c rs (mkZ N (rsE N xs x tv)) x s j).2 = 4) ∧
  (∀ P, rG N xs c rs (mkZ N (rsE N xs x tv)) x s j = (P, 0) → P.n = N ∧ pzB N P.xs P.c P.rs = true ∧ (∀ p, Ip N P.xs p → Ip N (mkZ N (rsE N xs x tv)) p ∧ Mk p (rkTo N xs x s j (N + 1))) ∧ ∀ p, Sp9 N p → patF N P.xs P.c P.rs (ipts p N) = ((cS N xs c rs (sv p x (p j + atF N xs x s j)) N, 1), 0)) ∧
  ∀ p, Sp9 N p → Ip N (mkZ N (rsE N xs x tv)) p → Mk p (rkTo N xs x s j (N + 1)) → ∃ P, rG N xs c rs (mkZ N (rsE N xs x tv)) x s j = (P, 0) ∧ Ip N P.xs p := by
 have n3 := hz.n3
 have hw := rsE_ok hz.ok h1 hx h0 (by omega) (c := tv)
 have hf := rsE_fn hz hx h0 h60
 have hk := (rk_ok hz hx hj hi (N + 1) (Nat.le_refl _)).1
 have hk2 : Sk N 200 (rkTo N xs x s j (N + 1)) := fun q hq => by have := hk q hq; exact ⟨this.1, by omega, by omega⟩
 obtain ⟨hjx, a1, a2, _⟩ := isF_inv hz hx hj hi
 obtain ⟨A, hA⟩ : ∃ A, atF N xs x s j = A := ⟨_, rfl⟩
 rw [hA] at a1 a2
 have yes : ∀ R, andF N (mkZ N (rsE N xs x tv)) (rkTo N xs x s j (N + 1)) = (0, R) → ∃ c' rs', rG N xs c rs (mkZ N (rsE N xs x tv)) x s j = (⟨N, R, c', rs'⟩, 0) ∧ pzB N R c' rs' = true ∧ (∀ p, Ip N R p → Ip N (mkZ N (rsE N xs x tv)) p ∧ Mk p (rkTo N xs x s j (N + 1))) ∧ ∀ p, Sp9 N p → patF N R c' rs' (ipts p N) = ((cS N xs c rs (sv p x (p j + A)) N, 1), 0) := fun R h => by
  obtain ⟨ok, f, m⟩ := and_inv n3 hw (by decide) (by decide) hf hk2 h
  have lj : 0 ≤ lowZ N R j ∧ lowZ N R j ≤ 1650 := by
   unfold lowZ; split
   ·exact low_small ok f hj
   ·omega
  obtain ⟨q', hq'⟩ : ∃ q' : Nat → Int, q' = fun k => if k = x then lowZ N R j + A else lowF N R k := ⟨_, rfl⟩
  have qx : q' x = lowZ N R j + A := by rw [hq']; exact if_pos rfl
  have qn : ∀ k, k ≠ x → q' k = lowF N R k := fun k hk => by rw [hq']; exact if_neg hk
  have qb : ∀ k, 1 ≤ k → k ≤ N → -1700 ≤ q' k - lowF N xs k ∧ q' k - lowF N xs k ≤ 1700 := fun k k1 k2 => by
   have l1 := low_small ok f k2
   have l2 := hz.low k2
   by_cases e : k = x
   ·subst e; rw [qx]; omega
   ·rw [qn k e]; omega
  have eC : rC N xs c rs R x j s = cS N xs c rs q' N := by
   unfold rC
   rw [hA, wr_id (x := lowZ N R j + A) (by omega) (by omega), ← hq']
   exact cst_cS (C := 1000000) (R := 1000) (D := 1700) (by decide) (by decide) (by decide) n3 hz.cb hz.rb qb N (Nat.le_refl _)
  have b0 := cS_bd (c := c) hz.rb qb N (Nat.le_refl _)
  have cb := hz.cb
  have hNc : (N : Int) ≤ 3 := by omega
  have cB : -100000000 ≤ rC N xs c rs R x j s ∧ rC N xs c rs R x j s ≤ 100000000 := by rw [eC]; omega
  have g0 : ∀ k, k < N → -1000 ≤ gi (rs.set (x - 1) 0) k ∧ gi (rs.set (x - 1) 0) k ≤ 1000 := fun k hk => by
   by_cases e : k = x - 1
   ·subst e; rw [gi_set_same (by rw [hz.len]; exact hk)]; omega
   ·rw [gi_set_ne (fun h => e h.symm)]; exact hz.rb k hk
  have sb := hz.rb (x - 1) (by omega)
  rw [← hs] at sb
  have eR : rR rs x j s = if 0 < j then (rs.set (x - 1) 0).set (j - 1) (gi (rs.set (x - 1) 0) (j - 1) + s) else rs.set (x - 1) 0 := by
   unfold rR
   split
   ·have := g0 (j - 1) (by omega)
    rw [wr_id (by omega) (by omega)]
   ·rfl
  have rlen : (rR rs x j s).length = N := by rw [eR]; split <;> simp [hz.len]
  have rb : ∀ k, k < N → -10000 ≤ gi (rR rs x j s) k ∧ gi (rR rs x j s) k ≤ 10000 := fun k hk => by
   have r := g0 k hk
   rw [eR]
   split
   ·by_cases e : k = j - 1
    ·subst e; rw [gi_set_same (by rw [List.length_set, hz.len]; exact hk)]; omega
    ·rw [gi_set_ne (fun h => e h.symm)]; omega
   ·omega
  obtain ⟨g1, g2⟩ := pz_small ok f rlen cB rb
  refine ⟨rC N xs c rs R x j s, rR rs x j s, by rw [rG_yes hi h, resF_ok g1], g2, m, fun p hp => ?_⟩
  rw [at_int n3 g2 hp cB rb (fun k h1 h2 => by have := low_small ok f h2; omega)]
  refine Prod.ext (Prod.ext ?_ rfl) rfl
  show cS N R (rC N xs c rs R x j s) (rR rs x j s) p N = cS N xs c rs (sv p x (p j + A)) N
  rw [cS_dS, cS_dS, eC, cS_dS, dS_via rs (sv p x (p j + A)) q' (lowF N xs) N, dS_upd rs (p := p) (p' := lowF N R) (q := sv p x (p j + A)) (q' := q') (x := x) (fun k hk => by rw [sv_ne hk, qn k hk]) h1 N, if_pos hx, sv_x, qx, ← hs]
  have key : dS (rR rs x j s) p (lowF N R) N = dS rs p (lowF N R) N + s * ((p j + A - (lowZ N R j + A)) - (p x - lowF N R x)) := by
   have e0 : dS (rs.set (x - 1) 0) p (lowF N R) N = dS rs p (lowF N R) N + -s * (p x - lowF N R x) := by
    rw [set_zero (N := N) h1, dS_set rs x (-gi rs (x - 1)) p (lowF N R) h1 (by rw [hz.len]; exact hx) N, if_pos hx, ← hs]
   rw [eR]
   by_cases hj0 : 0 < j
   ·rw [if_pos hj0, dS_set (rs.set (x - 1) 0) j s p (lowF N R) (by omega) (by rw [List.length_set, hz.len]; exact hj) N, if_pos hj, e0]
    have : lowZ N R j = lowF N R j := by unfold lowZ; rw [if_pos (by omega)]
    rw [this, show p j + A - (lowF N R j + A) - (p x - lowF N R x) = (p j - lowF N R j) - (p x - lowF N R x) by omega, Int.mul_sub s (p j - lowF N R j), Int.neg_mul]; omega
   ·rw [if_neg hj0, e0]
    have e : j = 0 := by omega
    subst e
    have : lowZ N R 0 = 0 := by unfold lowZ; rw [if_neg (by omega)]
    rw [this, hp.z, show (0 : Int) + A - (0 + A) - (p x - lowF N R x) = -(p x - lowF N R x) by omega, Int.mul_neg, Int.neg_mul]
  rw [key]; omega
 rw [hA]
 obtain ⟨e, R, hR⟩ : ∃ e R, andF N (mkZ N (rsE N xs x tv)) (rkTo N xs x s j (N + 1)) = (e, R) := ⟨_, _, rfl⟩
 refine ⟨?_, fun P hP => ?_, fun p hp h2 h3 => ?_⟩
 ·by_cases he : e = 0
  ·subst he
   obtain ⟨c', rs', e1, _⟩ := yes R hR
   rw [e1]; exact .inl rfl
  ·rw [rG_none hi hR he]; exact .inr rfl
 ·by_cases he : e = 0
  ·subst he
   obtain ⟨c', rs', e1, e2, e3, e4⟩ := yes R hR
   rw [e1] at hP
   cases hP
   exact ⟨rfl, e2, e3, e4⟩
  ·rw [rG_none hi hR he] at hP; cases hP
 ·obtain ⟨R', h, g⟩ := and_int n3 hw (by decide) (by decide) hf hk2 h2 h3
  obtain ⟨c', rs', e1, _⟩ := yes R' h
  exact ⟨_, e1, g hp⟩
theorem best_at {N : Nat} {xs : List Int} {c : Int} {rs : List Int} (hz : SmZ N xs c rs) {x : Nat} (h1 : 1 ≤ x) (hx : x ≤ N) (hfin : ent N xs x 0 ≠ 1099511627776) (s : Int) (p : Nat → Int) : ∃ j, j ≤ N ∧ isF N xs x s j = true ∧ Mk p (rkTo N xs x s j (N + 1)) := by
 have i0 : isF N xs x s 0 = true := isF_of (by omega) (fun _ => hfin) (fun _ => by have := ent_row hz.ok hx; omega)
 obtain ⟨i, i1, i2, i3, i4⟩ := argmax (fun k => isF N xs x s (k - 1) = true) (fun k => if s < 0 then -(p (k - 1) + atF N xs x s (k - 1)) else p (k - 1) + atF N xs x s (k - 1)) (N + 1) ⟨1, Nat.le_refl _, by omega, i0⟩
 refine ⟨i - 1, by omega, i3, ((rk_ok hz hx (by omega) i3 (N + 1) (Nat.le_refl _)).2 p).2 (fun k hk h2 h3 => ?_)⟩
 have := i4 (k + 1) (by omega) (by omega) (by rw [show k + 1 - 1 = k by omega]; exact h3)
 simp only [show k + 1 - 1 = k by omega] at this
 constructor
 ·intro hs; rw [if_pos hs, if_pos hs] at this; omega
 ·intro hs; rw [if_neg hs, if_neg hs] at this; omega
theorem at_in {N : Nat} {xs : List Int} {c : Int} {rs : List Int} (hz : SmZ N xs c rs) {x : Nat} (h1 : 1 ≤ x) (hx : x ≤ N) {s : Int} {p : Nat → Int} (pb : ∀ k, k ≤ N → 0 ≤ p k ∧ p k ≤ 60) (ho : Oth N xs x p) {j : Nat} (hj : j ≤ N) (hi : isF N xs x s j = true) (hm : Mk p (rkTo N xs x s j (N + 1))) :
  Ip N xs (sv p x (p j + atF N xs x s j)) ∧ ∀ n, Ip N xs (sv p x n) → (s < 0 → n ≤ p j + atF N xs x s j) ∧ (¬ s < 0 → p j + atF N xs x s j ≤ n) := by
 have M := ((rk_ok hz hx hj hi (N + 1) (Nat.le_refl _)).2 p).1 hm
 obtain ⟨hjx, a1, a2, v1, v2⟩ := isF_inv hz hx hj hi
 have bj := pb j hj
 refine ⟨(sv_in hz hx).2 ⟨ho, fun k hk hn => ?_⟩, fun n hn => ?_⟩
 ·have bk := pb k hk
  by_cases hs : s < 0
  ·obtain ⟨w1, w2⟩ := v1 hs
   constructor
   ·by_cases e : k = j
    ·subst e; omega
    ·by_cases hf : ent N xs x k = 1099511627776
     ·rw [hf]; omega
     ·have ik : isF N xs x s k = true := isF_of hn (fun _ => hf) (fun h => absurd hs h)
      have m := (M k (by omega) e ik).1 hs
      obtain ⟨_, _, _, u1, _⟩ := isF_inv hz hx hk ik
      obtain ⟨_, u2⟩ := u1 hs
      omega
   ·by_cases hf : ent N xs k x = 1099511627776
    ·rw [hf]; omega
    ·have t := hz.tri hk hj hx hf w1
     have o := ho k j hk hj hn hjx
     omega
  ·obtain ⟨w1, w2⟩ := v2 hs
   constructor
   ·by_cases hf : ent N xs x k = 1099511627776
    ·rw [hf]; omega
    ·have t := hz.tri hj hk hx w1 hf
     have o := ho j k hj hk hjx hn
     omega
   ·by_cases e : k = j
    ·subst e; omega
    ·by_cases hf : ent N xs k x = 1099511627776
     ·rw [hf]; omega
     ·have ik : isF N xs x s k = true := isF_of hn (fun h => absurd h hs) (fun _ => hf)
      have m := (M k (by omega) e ik).2 hs
      obtain ⟨_, _, _, _, u1⟩ := isF_inv hz hx hk ik
      obtain ⟨_, u2⟩ := u1 hs
      omega
 ·have k := ((sv_in hz hx).1 hn).2 j hj hjx
  constructor
  ·intro hs; obtain ⟨w1, w2⟩ := v1 hs; omega
  ·intro hs; obtain ⟨w1, w2⟩ := v2 hs; omega
theorem sv_cost {N : Nat} {xs : List Int} {c : Int} {rs : List Int} {x : Nat} (h1 : 1 ≤ x) (hx : x ≤ N) (p : Nat → Int) (n m : Int) : cS N xs c rs (sv p x n) N = cS N xs c rs (sv p x m) N + gi rs (x - 1) * (n - m) := by
 rw [cS_dS, cS_dS, dS_upd rs (p := sv p x m) (p' := lowF N xs) (q := sv p x n) (q' := lowF N xs) (x := x) (fun k hk => by rw [sv_ne hk, sv_ne hk]) h1 N, if_pos hx, sv_x, sv_x, show n - lowF N xs x - (m - lowF N xs x) = n - m by omega]; omega
theorem sv_self (p : Nat → Int) (x : Nat) : sv p x (p x) = p := by
 funext k; unfold sv; split
 ·rename_i e; rw [e]
 ·rfl
theorem sv_range {N : Nat} {xs : List Int} {c : Int} {rs : List Int} (hz : SmZ N xs c rs) {x : Nat} (h1 : 1 ≤ x) (hx : x ≤ N) (hfin : ent N xs x 0 ≠ 1099511627776) {p : Nat → Int} (p0 : p 0 = 0) {n : Int} (h : Ip N xs (sv p x n)) : 0 ≤ n ∧ n ≤ 20 := by
 have k := ((sv_in hz hx).1 h).2 0 (Nat.zero_le _) (by omega)
 have e := hz.high hx hfin
 have r := ent_row hz.ok hx
 rw [p0] at k
 omega
noncomputable def clrS (N : Nat) (xs : List Int) (c : Int) (rs : List Int) (x : Nat) (vs : List Int) (acc : Int × Bool) (n : Int) : Int × Bool :=
 if (hasF N xs (ipts (sv (pv vs 0) x n) N)).1 = true ∧ (patF N xs c rs (ipts (sv (pv vs 0) x n) N)).2 = 0 then
  (if acc.2 = false ∨ (patF N xs c rs (ipts (sv (pv vs 0) x n) N)).1.1 < acc.1 then ((patF N xs c rs (ipts (sv (pv vs 0) x n) N)).1.1, true) else acc)
 else acc
noncomputable def clrTo (N : Nat) (xs : List Int) (c : Int) (rs : List Int) (x : Nat) (vs : List Int) : Nat → Int × Bool
 | 0 => (0, false)
 | n + 1 => clrS N xs c rs x vs (clrTo N xs c rs x vs n) n
theorem sv_sp {N : Nat} {vs : List Int} (hv : Vs N vs) {x : Nat} (h1 : 1 ≤ x) {n : Int} (h0 : 0 ≤ n) (h2 : n ≤ 60) : Sp9 N (sv (pv vs 0) x n) :=
 ⟨by rw [sv_ne (by omega)]; exact pv_z vs 0, fun k hk => by
  by_cases e : k = x
  ·subst e; rw [sv_x]; omega
  ·rw [sv_ne e]; exact (hv.sp (by decide) (by decide)).b k hk⟩
theorem clr_mn {N : Nat} {xs : List Int} {c : Int} {rs : List Int} {vs : List Int} (hz : SmZ N xs c rs) (hv : Vs N vs) {x : Nat} (h1 : 1 ≤ x) : ∀ n : Nat, n ≤ 21 →
    Mn (fun y => ∃ d : Nat, d < n ∧ Ip N xs (sv (pv vs 0) x d) ∧ y = cS N xs c rs (sv (pv vs 0) x d) N) (clrTo N xs c rs x vs n)
  | 0, _ => Mn.none.congr (fun x => ⟨fun h => h.elim, fun ⟨d, h, _⟩ => by omega⟩)
  | n + 1, hn => by
    have ih := clr_mn (xs := xs) (c := c) (rs := rs) hz hv h1 n (by omega)
    have sp := sv_sp hv h1 (n := (n : Int)) (by omega) (by omega)
    obtain ⟨a1, _, _⟩ := hz.at sp
    have hi := has_int hz.ok sp
    show Mn _ (clrS N xs c rs x vs (clrTo N xs c rs x vs n) n)
    by_cases h : Ip N xs (sv (pv vs 0) x n)
    · have e : clrS N xs c rs x vs (clrTo N xs c rs x vs n) n = if (clrTo N xs c rs x vs n).2 = false ∨ cS N xs c rs (sv (pv vs 0) x n) N < (clrTo N xs c rs x vs n).1 then (cS N xs c rs (sv (pv vs 0) x n) N, true) else clrTo N xs c rs x vs n := by
        unfold clrS
        rw [if_pos ⟨hi.2 h, by rw [a1]⟩, a1]
      rw [e]
      refine (ih.step _).congr (fun x => ⟨?_, ?_⟩)
      · rintro (⟨d, a, b, c⟩ | e)
        · exact ⟨d, by omega, b, c⟩
        · exact ⟨n, by omega, h, e⟩
      · intro ⟨d, a, b, c⟩
        by_cases e : d = n
        · subst e; exact .inr c
        · exact .inl ⟨d, by omega, b, c⟩
    · have e : clrS N xs c rs x vs (clrTo N xs c rs x vs n) n = clrTo N xs c rs x vs n := by
        unfold clrS
        rw [if_neg (fun k => h (hi.1 k.1))]
      rw [e]
      refine ih.congr (fun x => ⟨fun ⟨d, a, b, c⟩ => ⟨d, by omega, b, c⟩, fun ⟨d, a, b, c⟩ => ?_⟩)
      by_cases e : d = n
      · subst e; exact absurd b h
      · exact ⟨d, by omega, b, c⟩
theorem clr_eq {N : Nat} {xs : List Int} {c : Int} {rs : List Int} {vs : List Int} (hz : SmZ N xs c rs) (hv : Vs N vs) {x : Nat} (h1 : 1 ≤ x) (hx : x ≤ N) (hfin : ent N xs x 0 ≠ 1099511627776) (L : List Pv)
  (hL : ∀ P, P ∈ L → P.n = N ∧ pzB N P.xs P.c P.rs = true ∧ (Ip N P.xs (pv vs 0) → ∃ n, Ip N xs (sv (pv vs 0) x n) ∧ patF N P.xs P.c P.rs (ipts (pv vs 0) N) = ((cS N xs c rs (sv (pv vs 0) x n) N, 1), 0) ∧ ∀ n', Ip N xs (sv (pv vs 0) x n') → cS N xs c rs (sv (pv vs 0) x n) N ≤ cS N xs c rs (sv (pv vs 0) x n') N))
  (hE : ∀ n, Ip N xs (sv (pv vs 0) x n) → ∃ P, P ∈ L ∧ Ip N P.xs (pv vs 0)) : toldF L (ipts (pv vs 0) N) = clrTo N xs c rs x vs 21 := by
 have sp := hv.sp (d := 0) (by decide) (by decide)
 refine Mn.eq (told_mn (ps := ipts (pv vs 0) N) (V := fun P => (patF P.n P.xs P.c P.rs (ipts (pv vs 0) N)).1.1) (I := fun P => Ip N P.xs (pv vs 0)) L (0, false) _ Mn.none (fun P hP => ?_)) (clr_mn hz hv h1 21 (Nat.le_refl _)) ?_ ?_
 ·obtain ⟨q1, q2, q3⟩ := hL P hP
  rw [q1]
  have ok : OkZ N P.xs := by
   obtain ⟨M, eM, ok, _⟩ := pzB_nat q2
   rw [eM]; exact ok
  refine ⟨q2, has_int ok sp, fun hi => ?_⟩
  obtain ⟨n, _, a, _⟩ := q3 hi
  rw [a]
 ·rintro y (hy | ⟨P, hP, hi, rfl⟩)
  ·exact hy.elim
  ·obtain ⟨q1, q2, q3⟩ := hL P hP
   obtain ⟨n, d2, a, _⟩ := q3 hi
   have r := sv_range hz h1 hx hfin (pv_z vs 0) d2
   refine ⟨n.toNat, by omega, by rw [Int.toNat_of_nonneg r.1]; exact d2, ?_⟩
   show (patF P.n P.xs P.c P.rs _).1.1 = _
   rw [q1, a, Int.toNat_of_nonneg r.1]
 ·rintro y ⟨d, hd, hi, rfl⟩
  obtain ⟨P, hP, hp⟩ := hE d hi
  obtain ⟨q1, q2, q3⟩ := hL P hP
  obtain ⟨n, _, a, m⟩ := q3 hp
  refine ⟨_, .inr ⟨P, hP, hp, rfl⟩, ?_⟩
  show (patF P.n P.xs P.c P.rs _).1.1 ≤ _
  rw [q1, a]
  exact m d hi
set_option maxHeartbeats 1000000 in
theorem clears_plain {N : Nat} {xs : List Int} {c : Int} {rs : List Int} {vs : List Int} (hz : SmZ N xs c rs) (hv : Vs N vs) {x : Nat} (h1 : 1 ≤ x) (hx : x ≤ N) (hfin : ent N xs x 0 ≠ 1099511627776) :
  ∃ L, presetF N xs c rs x (gi vs (x - 1)) = (L, 0) ∧ toldF L (ipts (pv vs 0) N) = clrTo N xs c rs x vs 21 := by
 have n3 := hz.n3
 have tv := hv.2 (x - 1) (by omega)
 have px : pv vs 0 x = gi vs (x - 1) := by rw [pv_s h1]; omega
 obtain ⟨T, hT⟩ : ∃ T, gi vs (x - 1) = T := ⟨_, rfl⟩
 rw [hT] at tv px ⊢
 have sp := hv.sp (d := 0) (by decide) (by decide)
 have pb : ∀ k, k ≤ N → 0 ≤ pv vs 0 k ∧ pv vs 0 k ≤ 60 := fun k hk => by
  by_cases e : k = 0
  ·subst e; rw [pv_z]; omega
  ·exact hv.at (by omega) hk
 have hc : pzB (N : Int) xs c rs = true ∧ rsB N ((x : Int), T) = true := ⟨hz.pz, by unfold rsB btw; simp; omega⟩
 have hw : resetF N xs x T = (0, mkZ N (rsE N xs x T)) := reset_val hz.ok h1 hx (by omega) (by omega)
 have hok := rsE_ok hz.ok h1 hx (c := T) (by omega) (by omega)
 have rin : Ip N (mkZ N (rsE N xs x T)) (pv vs 0) ↔ Oth N xs x (pv vs 0) := by
  have := reset_in hz h1 hx (p := pv vs 0) (pv_z vs 0) (fun k a b => pb k b)
  rw [px] at this
  exact this
 obtain ⟨s, hs⟩ : ∃ s, gi rs (x - 1) = s := ⟨_, rfl⟩
 by_cases h0 : s = 0
 ·have hf : ∀ i j, i ≤ N → j ≤ N → Fn 3300 (ent N (mkZ N (rsE N xs x T)) i j) := fun i j hi hj => (rsE_fn hz hx tv.1 tv.2 i j hi hj).mono (by decide)
  obtain ⟨c0, rs0, e0, z0, a0⟩ := on_int (more := 0) (at' := 0) (i := 0) hz hok hf ⟨by decide, by decide⟩ (Nat.zero_le _) (fun _ => rfl) ⟨by decide, by decide⟩
  refine ⟨_, preset_one hc (hs.trans h0) hw e0, clr_eq hz hv h1 hx hfin _ (fun P hP => ?_) (fun n hn => ⟨_, List.mem_singleton.2 rfl, rin.2 ((sv_in hz hx).1 hn).1⟩)⟩
  rw [List.mem_singleton] at hP
  subst hP
  refine ⟨rfl, z0, fun hp => ?_⟩
  obtain ⟨j, j1, j2, j3⟩ := best_at hz h1 hx hfin s (pv vs 0)
  obtain ⟨b1, _⟩ := at_in hz h1 hx pb (rin.1 hp) j1 j2 j3
  have flat : ∀ n m, cS N xs c rs (sv (pv vs 0) x n) N = cS N xs c rs (sv (pv vs 0) x m) N := fun n m => by
   rw [sv_cost h1 hx (pv vs 0) n m, hs, h0, Int.zero_mul, Int.add_zero]
  refine ⟨_, b1, ?_, fun n' _ => Int.le_of_eq (flat _ _)⟩
  rw [a0 _ sp, flat _ (pv vs 0 x), sv_self]
  simp
 ·have ha : anyF N xs x s = true := by
   unfold anyF
   rw [List.any_eq_true]
   exact ⟨0, List.mem_range.2 (by omega), isF_of (by omega) (fun _ => hfin) (fun _ => by have := ent_row hz.ok hx; omega)⟩
  have G := fun j (hj : j ≤ N) (hi : isF N xs x s j = true) => rg_int hz h1 hx (s := s) hs.symm tv.1 tv.2 hj hi
  obtain ⟨g1, g2⟩ := ga_mem (G := rG N xs c rs (mkZ N (rsE N xs x T)) x s) (first := 0) (N + 1) (fun k _ h2 => by
   cases hi : isF N xs x s k with
   | true => exact (G k (by omega) hi).1
   | false => rw [rG_no hi]; exact .inr rfl)
  refine ⟨(gaTo (rG N xs c rs (mkZ N (rsE N xs x T)) x s) 0 (N + 1)).1, by rw [preset_ga hc hs h0 ha hw]; unfold gaF; rw [if_pos g1]; rfl, clr_eq hz hv h1 hx hfin _ (fun P hP => ?_) (fun n hn => ?_)⟩
  ·obtain ⟨j, _, j2, j3⟩ := (g2 P).1 hP
   have hi : isF N xs x s j = true := by
    cases hi : isF N xs x s j with
    | true => rfl
    | false => rw [rG_no hi] at j3; cases j3
   obtain ⟨q1, q2, q3, q4⟩ := (G j (by omega) hi).2.1 P j3
   refine ⟨q1, q2, fun hp => ?_⟩
   obtain ⟨u, m⟩ := q3 _ hp
   obtain ⟨b1, b2⟩ := at_in hz h1 hx pb (rin.1 u) (by omega) hi m
   refine ⟨_, b1, q4 _ sp, fun n' hn => ?_⟩
   obtain ⟨b3, b4⟩ := b2 n' hn
   rw [sv_cost h1 hx (pv vs 0) (pv vs 0 j + atF N xs x s j) n', hs]
   have : s * (pv vs 0 j + atF N xs x s j - n') ≤ 0 := by
    by_cases c : s < 0
    ·have := Int.mul_nonneg (a := -s) (b := pv vs 0 j + atF N xs x s j - n') (by omega) (by have := b3 c; omega)
     rw [Int.neg_mul] at this; omega
    ·have := Int.mul_nonneg (a := s) (b := n' - (pv vs 0 j + atF N xs x s j)) (by omega) (by have := b4 c; omega)
     rw [show n' - (pv vs 0 j + atF N xs x s j) = -(pv vs 0 j + atF N xs x s j - n') by omega, Int.mul_neg] at this; omega
   omega
  ·have o := ((sv_in hz hx).1 hn).1
   obtain ⟨j, j1, j2, j3⟩ := best_at hz h1 hx hfin s (pv vs 0)
   obtain ⟨P, p1, p2⟩ := (G j j1 j2).2.2 _ sp (rin.2 o) j3
   exact ⟨P, (g2 P).2 ⟨j, Nat.zero_le _, by omega, p1⟩, p2⟩
end Go.Proofs.YtfphlpglgcmljaaGreat
