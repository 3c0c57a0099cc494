/- What Free, Reset, Copy and Before of both sides return is the same. Plain Lean. -/
import Derived.Test.YtkgaipcgdldfdaaFwL
import Derived.Test.YtkgaipcgdldfdaaBef
import Derived.Test.YtkgaipcgdldfdaaRbc
namespace Go.Proofs.Ytkgaipcgdldfdaa
open Go.RowKit
set_option linter.unusedVariables false

theorem fw_eq' {N : Nat} {xs m : List Int} {D : Nat → Nat → Lm} (h : OkZ N xs) (hl : m.length = (N + 1) * (N + 1)) (eqD : ∀ i j, i ≤ N → j ≤ N → D i j = pl (ent N xs i j)) (dU : ∀ i j, i ≤ N → j ≤ N → ple (D i j) (pl (ent N (fw N m) i j)))
    (dE : ∀ i j y, i ≤ N → j ≤ N → D i j = some y → y ≤ 17179869184 → ent N (fw N m) i j = y) : fw N m = xs := by
  have hlen : xs.length = (N + 1) * (N + 1) := by have := h.len; rwa [Int.toNat_natCast] at this
  refine ext_gi (by rw [fw_len, hl, hlen]) (fun k hk => ?_)
  rw [fw_len, hl] at hk
  have hj : k % (N + 1) ≤ N := by have := Nat.mod_lt k (show 0 < N + 1 by omega); omega
  have hi : k / (N + 1) ≤ N := by have := Nat.div_lt_of_lt_mul (show k < (N + 1) * (N + 1) from hk); omega
  have hidx : k = (k / (N + 1)) * (N + 1) + k % (N + 1) := by rw [Nat.mul_comm]; exact (Nat.div_add_mod k (N + 1)).symm
  rw [hidx]
  show ent N _ _ _ = ent N xs _ _
  have ed := eqD _ _ hi hj
  have eu := dU _ _ hi hj
  have lo := h.elo hi hj
  by_cases hn : ent N xs (k / (N + 1)) (k % (N + 1)) = 1099511627776
  · rw [ed, hn, pl_nl] at eu
    unfold pl at eu; split at eu
    · rename_i e2; rw [e2, hn]
    · exact absurd eu (by simp [ple])
  · have : D (k / (N + 1)) (k % (N + 1)) = some (ent N xs (k / (N + 1)) (k % (N + 1))) := by rw [ed]; exact pl_fin hn
    exact dE _ _ _ hi hj this (by omega)
/-- A matrix above a valid zone, whose canonical matrices lie below that zone, closes to it. -/
theorem closed_to {N : Nat} {xs m : List Int} (h : OkZ N xs) (hl : m.length = (N + 1) * (N + 1)) (hge : ∀ i j, i ≤ N → j ≤ N → ple (pl (ent N xs i j)) (pl (ent N m i j))) (hv : ∀ i j, i ≤ N → j ≤ N → vld (ent N m i j) = true)
    (hle : ∀ D, Cn N D → (∀ i j, i ≤ N → j ≤ N → ple (D i j) (pl (ent N m i j))) → (∀ j, j ≤ N → ple (D 0 j) (some 1)) → ∀ i j, i ≤ N → j ≤ N → ple (D i j) (pl (ent N xs i j))) : closedF N m = (0, xs) := by
  have hN : N ≤ 10 := by have := h.hi; omega
  obtain ⟨D, cD, dm, dr, dz, dU, dE, dg, hneg, _⟩ := closed_exact hN h hl hge hv
  have efw := fw_eq' h hl (fun i j hi hj => ple_anti (hle D cD dm dr i j hi hj) (dz i j hi hj)) dU dE
  unfold closedF
  rw [hneg, efw]
  have hall := (dimF_nat h.dim).2.2
  simp [hall]
theorem closed_self' {N : Nat} {xs : List Int} (h : OkZ N xs) : closedF N xs = (0, xs) :=
  closed_to h (by have := h.len; rwa [Int.toNat_natCast] at this) (fun i j hi hj => ple_refl _) (fun i j hi hj => (h.el hi hj).val) (fun D _ dm _ => dm)

theorem free1_ent {N i : Nat} {xs : List Int} (hl : xs.length = (N + 1) * (N + 1)) (hi : i ≤ N) (q : Nat) (hq : q ≤ N + 1) : ∀ a b, a ≤ N → b ≤ N →
    ent N (free1 N xs i q) a b = if (a = i ∧ b < q) ∨ (b = i ∧ a < q) then 1099511627776 else ent N xs a b := by
  induction q with
  | zero => intro a b _ _; rw [if_neg (by omega)]; rfl
  | succ q ih =>
    intro a b ha hb
    rw [free1, ent_set (by rw [List.length_set, free1_len, hl]) (by omega) hi hb, ent_set (by rw [free1_len, hl]) hi (by omega) hb, ih (by omega) a b ha hb]
    by_cases c1 : a = q ∧ b = i
    · rw [if_pos c1, if_pos (by omega)]
    · rw [if_neg c1]
      by_cases c2 : a = i ∧ b = q
      · rw [if_pos c2, if_pos (by omega)]
      · rw [if_neg c2]
        by_cases c3 : (a = i ∧ b < q) ∨ (b = i ∧ a < q)
        · rw [if_pos c3, if_pos (by omega)]
        · rw [if_neg c3, if_neg (by omega)]
theorem free2_ent {N i : Nat} {xs : List Int} (hl : xs.length = (N + 1) * (N + 1)) (hi : i ≤ N) (hi1 : 1 ≤ i) (q : Nat) (hq : q ≤ N + 1) : ∀ a b, a ≤ N → b ≤ N →
    ent N (free2 N xs i q) a b = if b = i ∧ a < q ∧ a ≠ i then ent N xs a 0 else ent N xs a b := by
  induction q with
  | zero => intro a b _ _; rw [if_neg (by omega)]; rfl
  | succ q ih =>
    intro a b ha hb
    rw [free2]
    by_cases e : q = i
    · rw [if_pos e, ih (by omega) a b ha hb]
      by_cases c : b = i ∧ a < q ∧ a ≠ i
      · rw [if_pos c, if_pos (by omega)]
      · rw [if_neg c, if_neg (by omega)]
    · have e0 : gi (free2 N xs i q) (q * (N + 1)) = ent N xs q 0 := by
        have := ih (by omega) q 0 (by omega) (by omega)
        rw [if_neg (by omega)] at this
        exact this
      rw [if_neg e, ent_set (by rw [free2_len, hl]) (by omega) hi hb, ih (by omega) a b ha hb, e0]
      by_cases c1 : a = q ∧ b = i
      · rw [if_pos c1, if_pos (by omega), c1.1]
      · rw [if_neg c1]
        by_cases c : b = i ∧ a < q ∧ a ≠ i
        · rw [if_pos c, if_pos (by omega)]
        · rw [if_neg c, if_neg (by omega)]
theorem freeB_ent {N i : Nat} {xs : List Int} (hl : xs.length = (N + 1) * (N + 1)) (hi : i ≤ N) (hi1 : 1 ≤ i) (a b : Nat) (ha : a ≤ N) (hb : b ≤ N) :
    ent N (freeB N xs i) a b = if a = i then (if b = i then 1 else 1099511627776) else if b = i then ent N xs a 0 else ent N xs a b := by
  have l1 : ((free1 N xs i (N + 1)).set (i * (N + 1) + i) 1).length = (N + 1) * (N + 1) := by rw [List.length_set, free1_len, hl]
  have l0 : (free1 N xs i (N + 1)).length = (N + 1) * (N + 1) := by rw [free1_len, hl]
  unfold freeB
  rw [free2_ent l1 hi hi1 _ (Nat.le_refl _) a b ha hb]
  by_cases c1 : a = i
  · rw [if_neg (by omega), if_pos c1, ent_set l0 hi hi hb, free1_ent hl hi _ (Nat.le_refl _) a b ha hb]
    by_cases c2 : b = i
    · rw [if_pos ⟨c1, c2⟩, if_pos c2]
    · rw [if_neg (by omega), if_neg c2, if_pos (by omega)]
  · rw [if_neg c1]
    by_cases c2 : b = i
    · rw [if_pos (by omega), if_pos c2, ent_set l0 hi hi (by omega), if_neg (by omega), free1_ent hl hi _ (Nat.le_refl _) a 0 ha (by omega), if_neg (by omega)]
    · rw [if_neg (by omega), if_neg c2, ent_set l0 hi hi hb, if_neg (by omega), free1_ent hl hi _ (Nat.le_refl _) a b ha hb, if_neg (by omega)]
theorem freeR_ent {N i : Nat} {xs : List Int} (hl : xs.length = (N + 1) * (N + 1)) (hi : i ≤ N) (q : Nat) (hq : q ≤ N + 1) : ∀ a b, a ≤ N → b ≤ N →
    ent N (freeR N xs i q) a b = if (a = i ∧ b < q ∧ b ≠ i) ∨ (b = i ∧ a < q ∧ a ≠ i) then 1099511627776 else ent N xs a b := by
  induction q with
  | zero => intro a b _ _; rw [if_neg (by omega)]; rfl
  | succ q ih =>
    intro a b ha hb
    rw [freeR]
    by_cases e : q = i
    · rw [if_pos e, ih (by omega) a b ha hb]
      by_cases c : (a = i ∧ b < q ∧ b ≠ i) ∨ (b = i ∧ a < q ∧ a ≠ i)
      · rw [if_pos c, if_pos (by omega)]
      · rw [if_neg c, if_neg (by omega)]
    · rw [if_neg e, ent_set (by rw [List.length_set, freeR_len, hl]) (by omega) hi hb, ent_set (by rw [freeR_len, hl]) hi (by omega) hb, ih (by omega) a b ha hb]
      by_cases c1 : a = q ∧ b = i
      · rw [if_pos c1, if_pos (by omega)]
      · rw [if_neg c1]
        by_cases c2 : a = i ∧ b = q
        · rw [if_pos c2, if_pos (by omega)]
        · rw [if_neg c2]
          by_cases c3 : (a = i ∧ b < q ∧ b ≠ i) ∨ (b = i ∧ a < q ∧ a ≠ i)
          · rw [if_pos c3, if_pos (by omega)]
          · rw [if_neg c3, if_neg (by omega)]
theorem OkZ.rg {N : Nat} {xs : List Int} (h : OkZ N xs) {i j : Nat} (hi : i ≤ N) (hj : j ≤ N) : Rg 1152921504606846976 (ent N xs i j) := by
  have := h.elo hi hj; unfold Rg; omega
theorem OkZ.top {N : Nat} {xs : List Int} (h : OkZ N xs) {i j : Nat} (hi : i ≤ N) (hj : j ≤ N) : ent N xs i j ≤ 1099511627776 := by
  have := h.elo hi hj; omega
/-- A valid zone whose clock i has been freed is valid. -/
theorem freeB_ok {N i : Nat} {xs : List Int} (h : OkZ N xs) (hi : i ≤ N) (hi1 : 1 ≤ i) : OkZ N (freeB N xs i) := by
  have hN : N ≤ 10 := by have := h.hi; omega
  have hl : xs.length = (N + 1) * (N + 1) := by have := h.len; rwa [Int.toNat_natCast] at this
  have E := fun a b ha hb => freeB_ent hl hi hi1 a b ha hb
  refine OkZ.mk' hN (by rw [freeB_len, hl]) (fun a b ha hb => ?_) (fun a b k ha hb hk => ?_)
  · have ha' : a ≤ N := by omega
    have e := E a b ha' hb
    refine ⟨?_, fun hab => ?_, fun h0 => ?_⟩
    · show vld (ent N (freeB N xs i) a b) = true
      rw [e]
      split
      · split <;> decide
      · split
        · exact (h.el ha' (Nat.zero_le _)).val
        · exact (h.el ha' hb).val
    · show ent N (freeB N xs i) a b = 1
      rw [e]
      split
      · rw [if_pos (by omega)]
      · rw [if_neg (by omega)]; exact (h.el ha' hb).diag hab
    · show ent N (freeB N xs i) a b ≤ 1
      rw [e, if_neg (by omega)]
      split
      · exact (h.el ha' (Nat.zero_le _)).row h0
      · exact (h.el ha' hb).row h0
  · have ha' : a ≤ N := by omega
    show ent N (freeB N xs i) a b ≤ lsum (ent N (freeB N xs i) a k) (ent N (freeB N xs i) k b)
    rw [E a b ha' hb, E a k ha' hk, E k b hk hb]
    by_cases ca : a = i
    · rw [if_pos ca, if_pos ca]
      by_cases ck : k = i
      · rw [if_pos ck, if_pos ck]
        by_cases cb : b = i
        · rw [if_pos cb, lsum1r (by unfold Rg; omega)]; omega
        · rw [if_neg cb, lsum_nl _ _ (.inr rfl)]; omega
      · rw [if_neg ck, if_neg ck, lsum_nl _ _ (.inl rfl)]; split <;> omega
    · rw [if_neg ca, if_neg ca]
      by_cases cb : b = i
      · rw [if_pos cb, if_pos cb]
        by_cases ck : k = i
        · rw [if_pos ck, if_pos ck, lsum1r (h.rg ha' (Nat.zero_le _))]; exact Int.le_refl _
        · rw [if_neg ck, if_neg ck, if_pos cb]; exact (El.gt h ha' (Nat.zero_le _) hk : Tr N xs a 0 k)
      · rw [if_neg cb]
        by_cases ck : k = i
        · rw [if_pos ck, if_pos ck, if_neg cb, lsum_nl _ _ (.inr rfl)]; exact h.top ha' hb
        · rw [if_neg ck, if_neg ck, if_neg cb]; exact (El.gt h ha' hb hk : Tr N xs a b k)
theorem freeR_closed {N i : Nat} {xs : List Int} (h : OkZ N xs) (hi : i ≤ N) (hi1 : 1 ≤ i) : closedF N (freeR N xs i (N + 1)) = (0, freeB N xs i) := by
  have hl : xs.length = (N + 1) * (N + 1) := by have := h.len; rwa [Int.toNat_natCast] at this
  have E := fun a b ha hb => freeB_ent hl hi hi1 a b ha hb
  have R := freeR_ent hl hi (N + 1) (Nat.le_refl _)
  have nl : pl (1099511627776 : Int) = none := pl_nl
  have p1 : pl (1 : Int) = some 1 := pl_fin (by omega)
  refine closed_to (freeB_ok h hi hi1) (by rw [freeR_len, hl]) (fun a b ha hb => ?_) (fun a b ha hb => ?_) (fun D cD dm dr a b ha hb => ?_)
  · rw [E a b ha hb, R a b ha hb]
    by_cases c : (a = i ∧ b < N + 1 ∧ b ≠ i) ∨ (b = i ∧ a < N + 1 ∧ a ≠ i)
    · rw [if_pos c, nl]; exact ple_none _
    · rw [if_neg c]
      by_cases ca : a = i
      · have cb : b = i := by omega
        rw [if_pos ca, if_pos cb, ca, cb]
        have := (h.el hi hi).diag rfl
        rw [show ent N xs i i = 1 from this]; exact ple_refl _
      · rw [if_neg ca, if_neg (by omega)]; exact ple_refl _
  · rw [R a b ha hb]
    split
    · decide
    · exact (h.el ha hb).val
  · rw [E a b ha hb]
    have m0 := dm a b ha hb
    rw [R a b ha hb] at m0
    by_cases ca : a = i
    · rw [if_pos ca]
      by_cases cb : b = i
      · rw [if_pos cb, ca, cb, cD.diag i hi, p1]; exact ple_refl _
      · rw [if_neg cb, nl]; exact ple_none _
    · rw [if_neg ca]
      by_cases cb : b = i
      · rw [if_pos cb]
        have m1 := dm a 0 ha (Nat.zero_le _)
        rw [R a 0 ha (Nat.zero_le _), if_neg (by omega)] at m1
        have t := cD.tri a b 0 ha hb (Nat.zero_le _)
        have s := psum_mono m1 (dr b hb)
        rw [psum_one_r] at s
        exact ple_trans t s
      · rw [if_neg cb]
        rw [if_neg (by omega)] at m0
        exact m0
/-- Free of both sides. -/
theorem free_eq (n : Int) (xs : List Int) (i : Int) : freeF n xs i = freeRF n xs i := by
  unfold freeF freeRF
  by_cases hok : OkZ n xs ∧ clkB n i = true
  · obtain ⟨h, hc⟩ := hok
    obtain ⟨N, rfl⟩ := Int.eq_ofNat_of_zero_le h.lo
    have h3 : 1 ≤ i ∧ i ≤ N := by simpa [clkB] using hc
    obtain ⟨k, rfl⟩ := Int.eq_ofNat_of_zero_le (show 0 ≤ i by omega)
    rw [chgF_yes h hc, chgF_yes h hc, Int.toNat_natCast, Int.toNat_natCast, freeR_closed h (by omega) (by omega), closed_self' (freeB_ok h (by omega) (by omega))]
  · rw [chgF_no hok, chgF_no hok]
theorem freeRF_in {N k : Nat} {xs : List Int} (h : OkZ N xs) (h1 : 1 ≤ k) (h2 : k ≤ N) : freeRF N xs k = (0, freeB N xs k) := by
  unfold freeRF
  rw [chgF_yes h (by simp [clkB]; omega), Int.toNat_natCast, Int.toNat_natCast, freeR_closed h h2 h1]
theorem andTo_is {N k j : Nat} {ys : List Int} (c : Int) : andTo N ys (isL k j c) 2 = (ys.set (k * (N + 1) + j) (imin (gi ys (k * (N + 1) + j)) (2 * c + 1))).set (j * (N + 1) + k) (imin (gi (ys.set (k * (N + 1) + j) (imin (gi ys (k * (N + 1) + j)) (2 * c + 1))) (j * (N + 1) + k)) (-2 * c + 1)) := by
  simp [andTo, isL, gk]
theorem isL_ok {N k j : Nat} {c : Int} (hk : k ≤ N) (hj : j ≤ N) (h0 : 0 ≤ c) (h1 : c ≤ 1048576) : AllK N (isL k j c) (isL k j c).length := by
  intro q hq
  have hq2 : q < 2 := hq
  have v1 : vld (2 * c + 1) = true := by rw [vld_iff]; omega
  have v2 : vld (-2 * c + 1) = true := by rw [vld_iff]; omega
  match q, hq2 with
  | 0, _ => exact (kOk_iff N k j (2 * c + 1)).2 ⟨by omega, by omega, by omega, by omega, v1⟩
  | 1, _ => exact (kOk_iff N j k (-2 * c + 1)).2 ⟨by omega, by omega, by omega, by omega, v2⟩
theorem andF_set {N k : Nat} {ys : List Int} {c : Int} (h : OkZ N ys) (hk : k ≤ N) (h0 : 0 ≤ c) (h1 : c ≤ 1048576) : andF N ys (isL k 0 c) = closedF N (setB N ys k c) := by
  have e0 : isL (k : Int) 0 c = isL (k : Int) ((0 : Nat) : Int) c := rfl
  rw [e0, andF_yes h (isL_ok hk (Nat.zero_le _) h0 h1)]
  have e : andTo N ys (isL k ((0 : Nat) : Int) c) (isL (k : Int) ((0 : Nat) : Int) c).length = setB N ys k c := by
    show andTo N ys (isL k ((0 : Nat) : Int) c) 2 = _
    rw [andTo_is]
    unfold setB
    rw [Nat.add_zero, Nat.zero_mul, Nat.zero_add, show -2 * c + 1 = 1 - 2 * c by omega]
  rw [e]
/-- Reset of both sides. -/
theorem reset_eq (n : Int) (xs : List Int) (i c : Int) : resetF n xs i c = resetRG n xs i c := by
  unfold resetF resetRG
  by_cases hok : OkZ n xs ∧ clkB n i = true ∧ conB c = true
  · rw [if_pos hok]
    obtain ⟨h, hc, h4⟩ := hok
    obtain ⟨N, rfl⟩ := Int.eq_ofNat_of_zero_le h.lo
    have h3 : 1 ≤ i ∧ i ≤ N := by simpa [clkB] using hc
    have h5 : 0 ≤ c ∧ c ≤ 1048576 := by simpa [conB] using h4
    obtain ⟨k, rfl⟩ := Int.eq_ofNat_of_zero_le (show 0 ≤ i by omega)
    rw [chgF_yes h (by rw [hc, h4]; rfl), Int.toNat_natCast, Int.toNat_natCast]
    unfold resetRF
    rw [freeRF_in h (by omega) (by omega), if_pos rfl]
    show _ = andF N (freeB N xs k) (isL k 0 c)
    rw [andF_set (freeB_ok h (by omega) (by omega)) (by omega) h5.1 h5.2]
  · rw [if_neg hok, chgF_no (fun e => hok ⟨e.1, by have := e.2; rw [Bool.and_eq_true] at this; exact this⟩)]
/-- Before of both sides. -/
theorem before_eq (n : Int) (xs : List Int) (i c : Int) : befF n xs i c = befRG n xs i c := by
  unfold befF befRG
  by_cases hok : OkZ n xs ∧ clkB n i = true ∧ conB c = true
  · rw [if_pos hok]
    obtain ⟨h, hc, h4⟩ := hok
    have e : befC n xs i c = andF n xs (isL i 0 c) := by
      obtain ⟨N, rfl⟩ := Int.eq_ofNat_of_zero_le h.lo
      have h3 : 1 ≤ i ∧ i ≤ N := by simpa [clkB] using hc
      have h5 : 0 ≤ c ∧ c ≤ 1048576 := by simpa [conB] using h4
      obtain ⟨k, rfl⟩ := Int.eq_ofNat_of_zero_le (show 0 ≤ i by omega)
      unfold befC
      rw [chgF_yes h (by rw [hc, h4]; rfl), Int.toNat_natCast, Int.toNat_natCast, andF_set h (by omega) h5.1 h5.2]
    unfold befRF
    rw [e, free_eq]
  · have e : befC n xs i c = (2, []) := chgF_no (fun e => hok ⟨e.1, by have := e.2; rw [Bool.and_eq_true] at this; exact this⟩)
    rw [if_neg hok, e]; rfl
/-- Copy of both sides. -/
theorem copy_eq (n : Int) (xs : List Int) (i j : Int) : copyF n xs i j = cpyRG n xs i j := by
  unfold copyF cpyRG
  by_cases hok : OkZ n xs ∧ clkB n i = true ∧ (0 ≤ j ∧ j ≤ n)
  · rw [if_pos hok]
    obtain ⟨h, hc, h4⟩ := hok
    obtain ⟨N, rfl⟩ := Int.eq_ofNat_of_zero_le h.lo
    have h3 : 1 ≤ i ∧ i ≤ N := by simpa [clkB] using hc
    obtain ⟨k, rfl⟩ := Int.eq_ofNat_of_zero_le (show 0 ≤ i by omega)
    obtain ⟨m, rfl⟩ := Int.eq_ofNat_of_zero_le h4.1
    rw [chgF_yes h (by rw [hc, decide_eq_true h4.1, decide_eq_true h4.2]; rfl), Int.toNat_natCast, Int.toNat_natCast, Int.toNat_natCast]
    unfold copyB cpyRF
    have hl : xs.length = (N + 1) * (N + 1) := by have := h.len; rwa [Int.toNat_natCast] at this
    by_cases e : k = m
    · rw [if_pos e, if_pos (by omega), closed_self' h]
    · rw [if_neg e, if_neg (by omega), freeRF_in h (by omega) (by omega), if_pos rfl]
      have hF := freeB_ok h (show k ≤ N by omega) (by omega)
      have hlF : (freeB N xs k).length = (N + 1) * (N + 1) := by rw [freeB_len, hl]
      have hm : m ≤ N := by omega
      have hk : k ≤ N := by omega
      show _ = andF N (freeB N xs k) (isL k m 0)
      rw [andF_yes hF (isL_ok hk hm (by omega) (by omega))]
      congr 1
      show _ = andTo N (freeB N xs k) (isL k m 0) 2
      rw [andTo_is]
      have g1 : gi (freeB N xs k) (k * (N + 1) + m) = 1099511627776 := by
        have := freeB_ent hl hk (by omega) k m hk hm
        rw [if_pos rfl, if_neg (by omega)] at this
        exact this
      have g2 : gi ((freeB N xs k).set (k * (N + 1) + m) (imin 1099511627776 (2 * 0 + 1))) (m * (N + 1) + k) = ent N xs m 0 := by
        have := ent_set hlF hk hm hk (a := m) (imin 1099511627776 (2 * 0 + 1))
        rw [if_neg (by omega), freeB_ent hl hk (by omega) m k hm hk, if_neg (by omega), if_pos rfl] at this
        exact this
      have g3 : 1 ≤ ent N xs m 0 := by
        have t : Tr N xs m m 0 := El.gt h hm hm (Nat.zero_le _)
        have d := (h.el hm hm).diag rfl
        have r := (h.el (Nat.zero_le _) hm).row rfl
        have w1 : Wd 274877906944 (ent N xs m 0) := by have := h.elo hm (Nat.zero_le N); unfold Wd; omega
        have w2 : Wd 274877906944 (ent N xs 0 m) := by have := h.elo (Nat.zero_le N) hm; unfold Wd; omega
        have mo := lsum_mono w1 (by unfold Wd; omega : Wd 274877906944 1) w1 w2 (Int.le_refl _) r
        rw [lsum_one_r w1] at mo
        unfold Tr at t
        rw [d] at t
        exact Int.le_trans t mo
      rw [g1, g2]
      have i1 : imin 1099511627776 (2 * 0 + 1) = 1 := by decide
      have i2 : imin (ent N xs m 0) (-2 * 0 + 1) = 1 := by
        have := imin_eq (ent N xs m 0) (-2 * 0 + 1)
        have := imin_le_r (ent N xs m 0) (-2 * 0 + 1)
        omega
      rw [i1, i2]
  · rw [if_neg hok, chgF_no (fun e => hok ⟨e.1, by have := e.2; rw [Bool.and_eq_true, Bool.and_eq_true, decide_eq_true_eq, decide_eq_true_eq] at this; exact this⟩)]
end Go.Proofs.Ytkgaipcgdldfdaa
