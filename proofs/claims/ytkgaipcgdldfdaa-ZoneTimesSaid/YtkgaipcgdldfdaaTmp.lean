/- What Up and Down make of a valid zone; plain Lean. What the law ZoneTimes leans on; plain Lean. -/
import Derived.Test.YtkgaipcgdldfdaaFwL
import Derived.Test.YtkgaipcgdldfdaaDwn
import Derived.Test.YtkgaipcgdldfdaaInc
import Derived.Test.YtkgaipcgdldfdaaSpq
namespace Go.Proofs.Ytkgaipcgdldfdaa
open Go.RowKit
set_option linter.unusedVariables false

theorem tm_ext {N : Nat} {m Z : List Int} (hm : m.length = (N + 1) * (N + 1)) (hz : Z.length = (N + 1) * (N + 1)) (h : ∀ i j, i ≤ N → j ≤ N → ent N m i j = ent N Z i j) : m = Z := by
  refine ext_gi (by rw [hm, hz]) (fun k hk => ?_)
  rw [hm] at hk
  have hj : k % (N + 1) ≤ N := by have := Nat.mod_lt k (show 0 < N + 1 by omega); omega
  have hi : k / (N + 1) ≤ N := by have := Nat.div_lt_of_lt_mul (show k < (N + 1) * (N + 1) from hk); omega
  have hidx : k = (k / (N + 1)) * (N + 1) + k % (N + 1) := by rw [Nat.mul_comm]; exact (Nat.div_add_mod k (N + 1)).symm
  rw [hidx]
  exact h _ _ hi hj
/-- Closing a matrix below which the greatest canonical one is known. -/
theorem closed_is {N : Nat} {m Z : List Int} (hZ : OkZ N Z) (hl : m.length = (N + 1) * (N + 1)) (hge : ∀ i j, i ≤ N → j ≤ N → ple (pl (ent N Z i j)) (pl (ent N m i j))) (hv : ∀ i j, i ≤ N → j ≤ N → vld (ent N m i j) = true)
    (hmax : ∀ D, Cn N D → (∀ i j, i ≤ N → j ≤ N → ple (D i j) (pl (ent N m i j))) → (∀ j, j ≤ N → ple (D 0 j) (some 1)) → ∀ i j, i ≤ N → j ≤ N → ple (D i j) (pl (ent N Z i j))) : closedF N m = (0, Z) := by
  have hN : N ≤ 10 := by have := hZ.hi; omega
  have hlen : Z.length = (N + 1) * (N + 1) := by have := hZ.len; rwa [Int.toNat_natCast] at this
  obtain ⟨D, cD, dm, dr, dz, dU, dE, dg, hneg, _⟩ := closed_exact hN hZ hl hge hv
  have eqD : ∀ i j, i ≤ N → j ≤ N → D i j = pl (ent N Z i j) := fun i j hi hj => ple_anti (hmax D cD dm dr i j hi hj) (dz i j hi hj)
  have efw : fw N m = Z := tm_ext (by rw [fw_len, hl]) hlen (fun i j hi hj => by
    have ed := eqD _ _ hi hj
    have eu := dU _ _ hi hj
    have lo := hZ.elo hi hj
    by_cases hn : ent N Z i j = 1099511627776
    · rw [ed, hn, pl_nl] at eu
      unfold pl at eu; split at eu
      · rename_i e2; rw [e2, hn]
      · exact absurd eu (by simp [ple])
    · have : D i j = some (ent N Z i j) := by rw [ed]; exact pl_fin hn
      exact dE _ _ _ hi hj this (by omega))
  unfold closedF
  rw [hneg, efw]
  have hall := (dimF_nat hZ.dim).2.2
  simp [hall]
theorem okz_of {N : Nat} {Z : List Int} (hN : N ≤ 10) (hl : Z.length = (N + 1) * (N + 1)) (hv : ∀ i j, i ≤ N → j ≤ N → vld (ent N Z i j) = true) (hd : ∀ i, i ≤ N → ent N Z i i = 1) (hr : ∀ j, j ≤ N → ent N Z 0 j ≤ 1)
    (ht : ∀ i j k, i ≤ N → j ≤ N → k ≤ N → ent N Z i j ≤ lsum (ent N Z i k) (ent N Z k j)) : OkZ N Z :=
  OkZ.mk' hN hl (fun i j hi hj => ⟨hv i j (by omega) hj, fun e => by subst e; exact hd i (by omega), fun e => by subst e; exact hr j hj⟩) (fun i j k hi hj hk => ht i j k (by omega) hj hk)
theorem vld_wd {l : Int} (h : vld l = true) : Wd 274877906944 l := by rw [vld_iff] at h; unfold Wd; omega
theorem lsum_up {a b a' b' : Int} (ha : vld a = true) (hb : vld b = true) (ha' : vld a' = true) (hb' : vld b' = true) (h1 : a' ≤ a) (h2 : b' ≤ b) : lsum a' b' ≤ lsum a b := lsum_mono (vld_wd ha) (vld_wd hb) (vld_wd ha') (vld_wd hb') h1 h2
theorem lsum_1r {a : Int} (h : vld a = true) : lsum a 1 = a := by
  by_cases na : a = 1099511627776
  · rw [lsum_nl _ _ (.inl na), na]
  · rw [lsum_val h (by decide) na (by decide), if_neg (by omega)]; omega
theorem lsum_1l {a : Int} (h : vld a = true) : lsum 1 a = a := by
  by_cases na : a = 1099511627776
  · rw [lsum_nl _ _ (.inr na), na]
  · rw [lsum_val (by decide) h (by decide) na, if_neg (by omega)]; omega
-- Up
theorem upTo_ent {N : Nat} {xs : List Int} (hl : xs.length = (N + 1) * (N + 1)) : ∀ q, q ≤ N → ∀ i j, i ≤ N → j ≤ N → ent N (upTo N xs q) i j = if j = 0 ∧ 1 ≤ i ∧ i ≤ q then 1099511627776 else ent N xs i j := by
  intro q
  induction q with
  | zero => intro _ i j _ _; rw [if_neg (by omega)]; rfl
  | succ q ih =>
    intro hq i j hi hj
    have e : upTo N xs (q + 1) = (upTo N xs q).set ((q + 1) * (N + 1) + 0) 1099511627776 := rfl
    rw [e, ent_set (by rw [upTo_len]; exact hl) (by omega) (Nat.zero_le _) hj, ih (by omega) i j hi hj]
    by_cases c : i = q + 1 ∧ j = 0
    · rw [if_pos c, if_pos (by omega)]
    · rw [if_neg c]
      by_cases c2 : j = 0 ∧ 1 ≤ i ∧ i ≤ q
      · rw [if_pos c2, if_pos (by omega)]
      · rw [if_neg c2, if_neg (by omega)]
theorem up_ent {N : Nat} {xs : List Int} (h : OkZ N xs) {i j : Nat} (hi : i ≤ N) (hj : j ≤ N) : ent N (upTo N xs N) i j = if j = 0 ∧ 1 ≤ i then 1099511627776 else ent N xs i j := by
  have hlen : xs.length = (N + 1) * (N + 1) := by have := h.len; rwa [Int.toNat_natCast] at this
  rw [upTo_ent hlen N (Nat.le_refl _) i j hi hj]
  by_cases c : j = 0 ∧ 1 ≤ i
  · rw [if_pos c, if_pos (by omega)]
  · rw [if_neg c, if_neg (by omega)]
theorem okz_up {N : Nat} {xs : List Int} (h : OkZ N xs) : OkZ N (upTo N xs N) := by
  have hlen : xs.length = (N + 1) * (N + 1) := by have := h.len; rwa [Int.toNat_natCast] at this
  refine okz_of (by have := h.hi; omega) (by rw [upTo_len, hlen]) (fun i j hi hj => ?_) (fun i hi => ?_) (fun j hj => ?_) (fun i j k hi hj hk => ?_)
  · rw [up_ent h hi hj]; split
    · decide
    · exact ent_vld h hi hj
  · rw [up_ent h hi hi, if_neg (by omega)]; exact h.diagN hi
  · rw [up_ent h (Nat.zero_le _) hj, if_neg (by omega)]; exact ent_row h hj
  · rw [up_ent h hi hj, up_ent h hi hk, up_ent h hk hj]
    by_cases c1 : k = 0 ∧ 1 ≤ i
    · rw [if_pos c1, lsum_nl _ _ (.inl rfl)]
      split
      · exact Int.le_refl _
      · exact vld_le (ent_vld h hi hj)
    · rw [if_neg c1]
      by_cases c2 : j = 0 ∧ 1 ≤ k
      · rw [if_pos c2, lsum_nl _ _ (.inr rfl)]
        split
        · exact Int.le_refl _
        · exact vld_le (ent_vld h hi hj)
      · rw [if_neg c2]
        rw [if_neg (by omega)]
        exact ent_tri h hi hj hk
theorem closed_ok1 {N : Nat} {xs : List Int} (h : OkZ N xs) : closedF N xs = (0, xs) := by
  have hlen : xs.length = (N + 1) * (N + 1) := by have := h.len; rwa [Int.toNat_natCast] at this
  exact closed_is h hlen (fun i j _ _ => ple_refl _) (fun i j hi hj => ent_vld h hi hj) (fun D _ dm _ => dm)
theorem up_val {N : Nat} {xs : List Int} (h : OkZ N xs) : upF N xs = (0, upTo N xs N) := by
  unfold upF
  rw [chgF_yes h rfl, Int.toNat_natCast]
  exact closed_ok1 (okz_up h)
theorem le_all {N : Nat} {A xs : List Int} (hA : OkZ N A) (h : ∀ i j, i ≤ N → j ≤ N → ent N xs i j ≤ ent N A i j) : leAll A xs := by
  have hlen : A.length = (N + 1) * (N + 1) := by have := hA.len; rwa [Int.toNat_natCast] at this
  intro k hk
  rw [hlen] at hk
  have hj : k % (N + 1) ≤ N := by have := Nat.mod_lt k (show 0 < N + 1 by omega); omega
  have hi : k / (N + 1) ≤ N := by have := Nat.div_lt_of_lt_mul (show k < (N + 1) * (N + 1) from hk); omega
  have hidx : k = (k / (N + 1)) * (N + 1) + k % (N + 1) := by rw [Nat.mul_comm]; exact (Nat.div_add_mod k (N + 1)).symm
  rw [hidx]
  exact h _ _ hi hj
theorem up_inc {N : Nat} {xs : List Int} (h : OkZ N xs) : incF N N (upTo N xs N) xs = (true, 0) :=
  incF_yes ⟨okz_up h, h, rfl⟩ (le_all (okz_up h) (fun i j hi hj => by
    rw [up_ent h hi hj]; split
    · exact vld_le (ent_vld h hi hj)
    · exact Int.le_refl _))
theorem up_up {N : Nat} {xs : List Int} (h : OkZ N xs) : upF N (upTo N xs N) = (0, upTo N xs N) := by
  have h2 := okz_up h
  have hlen : xs.length = (N + 1) * (N + 1) := by have := h.len; rwa [Int.toNat_natCast] at this
  rw [up_val h2]
  congr 1
  refine tm_ext (by rw [upTo_len, upTo_len, hlen]) (by rw [upTo_len, hlen]) (fun i j hi hj => ?_)
  rw [up_ent h2 hi hj, up_ent h hi hj]
  split <;> rfl
-- Down
theorem downTo_ent {N : Nat} {xs : List Int} (hl : xs.length = (N + 1) * (N + 1)) : ∀ q, q ≤ N + 1 → ∀ i j, i ≤ N → j ≤ N → ent N (downTo N xs q) i j = if i = 0 ∧ j < q then 1 else ent N xs i j := by
  intro q
  induction q with
  | zero => intro _ i j _ _; rw [if_neg (by omega)]; rfl
  | succ q ih =>
    intro hq i j hi hj
    have e : downTo N xs (q + 1) = (downTo N xs q).set (0 * (N + 1) + q) 1 := by rw [Nat.zero_mul, Nat.zero_add]; rfl
    rw [e, ent_set (by rw [downTo_len]; exact hl) (Nat.zero_le _) (by omega) hj, ih (by omega) i j hi hj]
    by_cases c : i = 0 ∧ j = q
    · rw [if_pos c, if_pos (by omega)]
    · rw [if_neg c]
      by_cases c2 : i = 0 ∧ j < q
      · rw [if_pos c2, if_pos (by omega)]
      · rw [if_neg c2, if_neg (by omega)]
/-- The limit that time leaves below. -/
def dmnTo (N : Nat) (xs : List Int) (j : Nat) : Nat → Int
  | 0 => 1
  | k + 1 => imin (dmnTo N xs j k) (ent N xs (k + 1) j)
theorem dmnTo_le (N : Nat) (xs : List Int) (j : Nat) : ∀ q, dmnTo N xs j q ≤ 1 ∧ ∀ k, 1 ≤ k → k ≤ q → dmnTo N xs j q ≤ ent N xs k j := by
  intro q
  induction q with
  | zero => exact ⟨Int.le_refl _, fun k h1 h2 => by omega⟩
  | succ q ih =>
    have e : dmnTo N xs j (q + 1) ≤ dmnTo N xs j q ∧ dmnTo N xs j (q + 1) ≤ ent N xs (q + 1) j := by
      show imin _ _ ≤ _ ∧ imin _ _ ≤ _
      unfold imin; split <;> omega
    refine ⟨Int.le_trans e.1 ih.1, fun k h1 h2 => ?_⟩
    by_cases c : k = q + 1
    · rw [c]; exact e.2
    · exact Int.le_trans e.1 (ih.2 k h1 (by omega))
theorem dmnTo_or (N : Nat) (xs : List Int) (j : Nat) : ∀ q, dmnTo N xs j q = 1 ∨ ∃ k, 1 ≤ k ∧ k ≤ q ∧ dmnTo N xs j q = ent N xs k j := by
  intro q
  induction q with
  | zero => exact .inl rfl
  | succ q ih =>
    rcases imin_eq (dmnTo N xs j q) (ent N xs (q + 1) j) with e | e
    · rcases ih with h | ⟨k, h1, h2, h3⟩
      · exact .inl (e.trans h)
      · exact .inr ⟨k, h1, by omega, e.trans h3⟩
    · exact .inr ⟨q + 1, by omega, Nat.le_refl _, e⟩
def dwn (N : Nat) (xs : List Int) : List Int := (List.range ((N + 1) * (N + 1))).map fun p => if p < N + 1 then dmnTo N xs p N else gi xs p
theorem dwn_len (N : Nat) (xs : List Int) : (dwn N xs).length = (N + 1) * (N + 1) := by simp [dwn]
theorem dwn_ent {N : Nat} {xs : List Int} {i j : Nat} (hi : i ≤ N) (hj : j ≤ N) : ent N (dwn N xs) i j = if i = 0 then dmnTo N xs j N else ent N xs i j := by
  have hl := idx_lt N i j hi hj
  have e : ent N (dwn N xs) i j = if i * (N + 1) + j < N + 1 then dmnTo N xs (i * (N + 1) + j) N else gi xs (i * (N + 1) + j) := by
    unfold ent gi dwn
    rw [List.getD_eq_getElem?_getD, List.getElem?_map, List.getElem?_range hl]
    rfl
  rw [e]
  by_cases c : i = 0
  · subst c
    rw [if_pos (by omega), if_pos rfl, Nat.zero_mul, Nat.zero_add]
  · have := Nat.mul_le_mul_right (N + 1) (show 1 ≤ i by omega)
    rw [if_neg (by omega), if_neg c]
    rfl
theorem ent_col0 {N : Nat} {xs : List Int} (h : OkZ N xs) {k : Nat} (hk : k ≤ N) : 1 ≤ ent N xs k 0 := by
  have t := ent_tri h (Nat.zero_le N) (Nat.zero_le N) hk
  have d : ent N xs 0 0 = 1 := h.diagN (Nat.zero_le _)
  rw [d] at t
  have := lsum_le1 (ent_vld h (Nat.zero_le _) hk) (ent_vld h hk (Nat.zero_le _)) (ent_row h hk)
  omega
theorem ent_back {N : Nat} {xs : List Int} (h : OkZ N xs) {i k : Nat} (hi : i ≤ N) (hk : k ≤ N) : ent N xs i k ≤ ent N xs i 0 := by
  have t := ent_tri h hi hk (Nat.zero_le N)
  have := lsum_up (ent_vld h hi (Nat.zero_le _)) (show vld 1 = true by decide) (ent_vld h hi (Nat.zero_le _)) (ent_vld h (Nat.zero_le _) hk) (Int.le_refl _) (ent_row h hk)
  rw [lsum_1r (ent_vld h hi (Nat.zero_le _))] at this
  omega
theorem okz_dwn {N : Nat} {xs : List Int} (h : OkZ N xs) : OkZ N (dwn N xs) := by
  have hd0 := fun j => dmnTo_le N xs j N
  have hdv : ∀ j, j ≤ N → vld (dmnTo N xs j N) = true := fun j hj => by
    rcases dmnTo_or N xs j N with e | ⟨k, _, k2, e⟩ <;> rw [e]
    · decide
    · exact ent_vld h k2 hj
  refine okz_of (by have := h.hi; omega) (dwn_len N xs) (fun i j hi hj => ?_) (fun i hi => ?_) (fun j hj => ?_) (fun i j k hi hj hk => ?_)
  · rw [dwn_ent hi hj]; split
    · exact hdv j hj
    · exact ent_vld h hi hj
  · rw [dwn_ent hi hi]; split
    · rename_i e
      subst e
      rcases dmnTo_or N xs 0 N with e | ⟨k, _, k2, e⟩
      · exact e
      · have := ent_col0 h k2; have := (hd0 0).1; omega
    · exact h.diagN hi
  · rw [dwn_ent (Nat.zero_le _) hj, if_pos rfl]; exact (hd0 j).1
  · rw [dwn_ent hi hj, dwn_ent hi hk, dwn_ent hk hj]
    by_cases ci : i = 0
    · rw [if_pos ci, if_pos ci]
      by_cases ck : k = 0
      · rw [if_pos ck]
        have e0 : dmnTo N xs k N = 1 := by
          subst ck
          rcases dmnTo_or N xs 0 N with e | ⟨k, _, k2, e⟩
          · exact e
          · have := ent_col0 h k2; have := (hd0 0).1; omega
        rw [e0, lsum_1l (hdv j hj)]; exact Int.le_refl _
      · rw [if_neg ck]
        rcases dmnTo_or N xs k N with e | ⟨m, m1, m2, e⟩
        · rw [e, lsum_1l (ent_vld h hk hj)]; exact (hd0 j).2 k (by omega) hk
        · rw [e]; exact Int.le_trans ((hd0 j).2 m m1 m2) (ent_tri h m2 hj hk)
    · rw [if_neg ci, if_neg ci]
      by_cases ck : k = 0
      · rw [if_pos ck]
        subst ck
        rcases dmnTo_or N xs j N with e | ⟨m, m1, m2, e⟩
        · rw [e, lsum_1r (ent_vld h hi hk)]; exact ent_back h hi hj
        · rw [e]
          exact Int.le_trans (ent_tri h hi hj m2) (lsum_up (ent_vld h hi hk) (ent_vld h m2 hj) (ent_vld h hi m2) (ent_vld h m2 hj) (ent_back h hi m2) (Int.le_refl _))
      · rw [if_neg ck]; exact ent_tri h hi hj hk
theorem pl_le {a b : Int} (h : a ≤ b) (hb : b ≤ 1099511627776) : ple (pl a) (pl b) := by
  unfold pl
  by_cases e : b = 1099511627776
  · rw [if_pos e]; exact ple_none _
  · rw [if_neg e, if_neg (by omega)]; exact h
theorem down_val {N : Nat} {xs : List Int} (h : OkZ N xs) : downF N xs = (0, dwn N xs) := by
  have hlen : xs.length = (N + 1) * (N + 1) := by have := h.len; rwa [Int.toNat_natCast] at this
  unfold downF
  rw [chgF_yes h rfl, Int.toNat_natCast]
  have E : ∀ i j, i ≤ N → j ≤ N → ent N (downTo N xs (N + 1)) i j = if i = 0 then 1 else ent N xs i j := fun i j hi hj => by
    rw [downTo_ent hlen (N + 1) (Nat.le_refl _) i j hi hj]
    by_cases c : i = 0
    · rw [if_pos c, if_pos (by omega)]
    · rw [if_neg c, if_neg (by omega)]
  refine closed_is (okz_dwn h) (by rw [downTo_len, hlen]) (fun i j hi hj => ?_) (fun i j hi hj => ?_) (fun D cD dm dr i j hi hj => ?_)
  · rw [E i j hi hj, dwn_ent hi hj]
    by_cases c : i = 0
    · rw [if_pos c, if_pos c]; exact pl_le (dmnTo_le N xs j N).1 (by decide)
    · rw [if_neg c, if_neg c]; exact ple_refl _
  · rw [E i j hi hj]; split
    · decide
    · exact ent_vld h hi hj
  · rw [dwn_ent hi hj]
    by_cases c : i = 0
    · rw [if_pos c]
      subst c
      rcases dmnTo_or N xs j N with e | ⟨m, m1, m2, e⟩ <;> rw [e]
      · exact dr j hj
      · have d1 := dr m m2
        have d2 := dm m j m2 hj
        rw [E m j m2 hj, if_neg (by omega)] at d2
        have := ple_trans (cD.tri 0 j m (Nat.zero_le _) hj m2) (psum_mono d1 d2)
        rwa [psum_one_l] at this
    · rw [if_neg c]
      have := dm i j hi hj
      rwa [E i j hi hj, if_neg c] at this
theorem down_inc {N : Nat} {xs : List Int} (h : OkZ N xs) : incF N N (dwn N xs) xs = (true, 0) :=
  incF_yes ⟨okz_dwn h, h, rfl⟩ (le_all (okz_dwn h) (fun i j hi hj => by
    rw [dwn_ent hi hj]; split
    · rename_i e
      subst e
      rcases dmnTo_or N xs j N with e | ⟨m, m1, m2, e⟩ <;> rw [e]
      · exact ent_row h hj
      · exact ent_up h m2 hj
    · exact Int.le_refl _))
theorem down_down {N : Nat} {xs : List Int} (h : OkZ N xs) : downF N (dwn N xs) = (0, dwn N xs) := by
  rw [down_val (okz_dwn h)]
  congr 1
  have same : ∀ j, j ≤ N → ∀ q, q ≤ N → dmnTo N (dwn N xs) j q = dmnTo N xs j q := fun j hj q => by
    induction q with
    | zero => intro _; rfl
    | succ q ih =>
      intro hq
      show imin _ _ = imin _ _
      rw [ih (by omega), dwn_ent hq hj, if_neg (by omega)]
  refine tm_ext (dwn_len _ _) (dwn_len _ _) (fun i j hi hj => ?_)
  rw [dwn_ent hi hj, dwn_ent hi hj]
  split
  · exact same j hj N (Nat.le_refl _)
  · rfl
end Go.Proofs.Ytkgaipcgdldfdaa
namespace Go.Proofs.Ytkgaipcgdldfdaa
open Go.RowKit
set_option linter.unusedVariables false

theorem lsum_comm2 (a b : Int) : lsum a b = lsum b a := by
  unfold lsum
  by_cases h : a = 1099511627776 ∨ b = 1099511627776
  · rw [if_pos h, if_pos (Or.symm h)]
  · rw [if_neg h, if_neg (fun k => h (Or.symm k)), Int.add_comm a b]
    by_cases c : a % 2 = 0 ∧ b % 2 = 0
    · rw [if_pos c, if_pos (And.symm c)]
    · rw [if_neg c, if_neg (fun k => c (And.symm k))]
theorem qv_nonneg {ps : List (Int × Int)} (h : AllP ps ps.length) {k : Nat} (hk : k ≤ ps.length) : 0 ≤ qv ps k := by
  obtain ⟨v, p⟩ := okP_vr (ck_all h hk)
  exact (rv_nonneg (vr_pos v)).2 p
theorem qv_gq (ps : List (Int × Int)) (k : Nat) : rv (-(gq ((0, 1) :: ps) (k + 1)).1, (gq ((0, 1) :: ps) (k + 1)).2) = - qv ps (k + 1) := by
  rw [gq_ck, neg_rv]; rfl
theorem allM_mt {N : Nat} {W : List Int} {ps : List (Int × Int)} (hN : ps.length = N) (hall : AllP ps ps.length) (hD : AllD ps ps.length (ps.length + 1)) (hv : ∀ i j, i ≤ N → j ≤ N → vld (ent N W i j) = true) :
    AllM N W ps (N + 1) ↔ ∀ i j, i ≤ N → j ≤ N → Mt (qv ps i - qv ps j) (ent N W i j) := by
  subst hN
  constructor
  · intro h i j hi hj
    exact (mt_iff hall hi hj (hD i j (by omega) hj) (hv i j hi hj)).1 (h i j (by omega) hj)
  · intro h i j hi hj
    exact (mt_iff hall (by omega) hj (hD i j (by omega) hj) (hv i j (by omega) hj)).2 (h i j (by omega) hj)
theorem suTo_mt {N : Nat} {xs : List Int} {ps : List (Int × Int)} (hN : ps.length = N) (hall : AllP ps ps.length) (hD : AllD ps ps.length (ps.length + 1)) (hv : ∀ i j, i ≤ N → j ≤ N → vld (ent N xs i j) = true) :
    SuTo N xs ((0, 1) :: ps) 1 (N + 1) ↔ ∀ i j, 1 ≤ i → i ≤ N → 1 ≤ j → j ≤ N → Mt (qv ps i - qv ps j) (ent N xs i j) := by
  subst hN
  have e : ∀ i j, i ≤ ps.length → j ≤ ps.length → (pm ps.length xs ((0, 1) :: ps) i j = true ↔ Mt (qv ps i - qv ps j) (ent ps.length xs i j)) := fun i j hi hj => by
    rw [← mt_iff hall hi hj (hD i j (by omega) hj) (hv i j hi hj)]
    unfold pm mt
    rw [df_dif (ck_all hall hi) (ck_all hall hj)]
  constructor
  · intro h i j h1 hi h2 hj
    exact (e i j hi hj).1 (h i h1 (by omega) j h2 (by omega))
  · intro h i h1 hi j h2 hj
    exact (e i j (by omega) (by omega)).2 (h i j h1 (by omega) h2 (by omega))
theorem stay_cuts {N : Nat} {xs : List Int} {ps : List (Int × Int)} (h : OkZ N xs) (hN : ps.length = N) (hall : AllP ps ps.length) (hw : (stayS N xs ps).wd = false) :
    CutsI (fun k => ((-(gq ((0, 1) :: ps) (k + 1)).1, (gq ((0, 1) :: ps) (k + 1)).2), ent N xs (k + 1) 0, ent N xs 0 (k + 1))) N (stayS N xs ps) := by
  unfold stayS at hw ⊢
  rw [stayTo_cuts] at hw ⊢
  refine cuts_in _ N (fun k hk => ⟨?_, ent_vld h (by omega) (Nat.zero_le _), ent_vld h (Nat.zero_le _) (by omega)⟩) hw
  show vr (-(gq ((0, 1) :: ps) (k + 1)).1) (gq ((0, 1) :: ps) (k + 1)).2 = true
  rw [gq_ck]
  exact vr_neg (okP_vr (ck_all hall (by omega))).1
/-- The delays of a point. -/
theorem stay_mem {N : Nat} {xs : List Int} {ps : List (Int × Int)} (h : OkZ N xs) (hN : ps.length = N) (hall : AllP ps ps.length) (hw : (stayS N xs ps).wd = false) (t : Rat) :
    InS (stayS N xs ps) t ↔ (0 ≤ t ∧ ∀ k, 1 ≤ k → k ≤ N → Mt (qv ps k + t) (ent N xs k 0) ∧ Mt (- (qv ps k + t)) (ent N xs 0 k)) := by
  rw [(stay_cuts h hN hall hw).mem]
  have a1 : ∀ k, t - - qv ps (k + 1) = qv ps (k + 1) + t := fun k => by grind
  have a2 : ∀ k, - qv ps (k + 1) - t = -(qv ps (k + 1) + t) := fun k => by grind
  constructor
  · intro ⟨h0, h1⟩
    refine ⟨h0, fun k k1 k2 => ?_⟩
    obtain ⟨m, rfl⟩ : ∃ m, k = m + 1 := ⟨k - 1, by omega⟩
    have := h1 m (by omega)
    simp only at this
    rw [qv_gq, a1, a2] at this
    exact this
  · intro ⟨h0, h1⟩
    refine ⟨h0, fun k hk => ?_⟩
    simp only
    rw [qv_gq, a1, a2]
    exact h1 (k + 1) (by omega) (by omega)
theorem mt_diag {N : Nat} {xs : List Int} {x : Rat} (h : OkZ N xs) {i : Nat} (hi : i ≤ N) : Mt (x - x) (ent N xs i i) := by
  have : ent N xs i i = 1 := h.diagN hi
  rw [this]
  exact .inr (.inr ⟨by decide, by show _ ≤ ((0 : Int) : Rat); rw [Rat.intCast_zero]; grind⟩)
/-- A point is below a zone exactly if it has delays. -/
theorem past_iff {N : Nat} {xs : List Int} {ps : List (Int × Int)} (h : OkZ N xs) (hN : ps.length = N) (hall : AllP ps ps.length) (hD : AllD ps ps.length (ps.length + 1)) (hw : (stayS N xs ps).wd = false) :
    AllM N (dwn N xs) ps (N + 1) ↔ (SuTo N xs ((0, 1) :: ps) 1 (N + 1) ∧ empS (stayS N xs ps) = false) := by
  have I := stay_cuts h hN hall hw
  rw [allM_mt hN hall hD (fun i j hi hj => ent_vld (okz_dwn h) hi hj), suTo_mt hN hall hD (fun i j hi hj => ent_vld h hi hj), emp_iff I.v]
  constructor
  · intro hm
    have up : ∀ i j, 1 ≤ i → i ≤ N → j ≤ N → Mt (qv ps i - qv ps j) (ent N xs i j) := fun i j h1 hi hj => by
      have := hm i j hi hj
      rwa [dwn_ent hi hj, if_neg (by omega)] at this
    refine ⟨fun i j h1 hi h2 hj => up i j h1 hi hj, cuts_cs I (fun k hk => ⟨ent_vld h (by omega) (Nat.zero_le _), ent_vld h (Nat.zero_le _) (by omega)⟩) (fun k hk => ?_) (fun k m hk hm2 => ?_)⟩
    · show Mt (-rv (-(gq ((0, 1) :: ps) (k + 1)).1, (gq ((0, 1) :: ps) (k + 1)).2)) (ent N xs (k + 1) 0)
      rw [qv_gq]
      have := up (k + 1) 0 (by omega) (by omega) (Nat.zero_le _)
      rw [qv_zero] at this
      rwa [show - - qv ps (k + 1) = qv ps (k + 1) - 0 by grind]
    · show Mt (rv (-(gq ((0, 1) :: ps) (k + 1)).1, (gq ((0, 1) :: ps) (k + 1)).2) - rv (-(gq ((0, 1) :: ps) (m + 1)).1, (gq ((0, 1) :: ps) (m + 1)).2)) (lsum (ent N xs 0 (k + 1)) (ent N xs (m + 1) 0))
      rw [qv_gq, qv_gq, show - qv ps (k + 1) - - qv ps (m + 1) = qv ps (m + 1) - qv ps (k + 1) by grind, lsum_comm2]
      exact (up (m + 1) (k + 1) (by omega) (by omega) (by omega)).mono (lsum_le (ent_vld h (by omega) (Nat.zero_le _)) (ent_vld h (Nat.zero_le _) (by omega))) (ent_tri h (by omega) (by omega) (Nat.zero_le _))
  · rintro ⟨hs, hr⟩
    obtain ⟨t, ht⟩ := room_ex hr
    obtain ⟨t0, t1⟩ := (stay_mem h hN hall hw t).1 ht
    intro i j hi hj
    rw [dwn_ent hi hj]
    by_cases ci : i = 0
    · rw [if_pos ci]
      subst ci
      have qj := qv_nonneg hall (k := j) (by omega)
      rw [qv_zero]
      rcases dmnTo_or N xs j N with e | ⟨m, m1, m2, e⟩ <;> rw [e]
      · exact .inr (.inr ⟨by decide, by show _ ≤ ((0 : Int) : Rat); rw [Rat.intCast_zero]; grind⟩)
      · have qm := qv_nonneg hall (k := m) (by omega)
        by_cases cj : j = 0
        · subst cj
          rw [qv_zero] at *
          have := (t1 m m1 m2).1
          exact this.le (by grind)
        · exact (hs m j m1 m2 (by omega) hj).le (by grind)
    · rw [if_neg ci]
      by_cases cj : j = 0
      · subst cj
        rw [qv_zero]
        exact ((t1 i (by omega) hi).1).le (by grind)
      · exact hs i j (by omega) hi (by omega) hj
/-- A point after a delay. -/
def addTo (ps : List (Int × Int)) (d : Int × Int) : Nat → List (Int × Int)
  | 0 => []
  | k + 1 => addTo ps d k ++ [(addR (gq ps k).1 (gq ps k).2 d.1 d.2).1]
theorem addTo_len (ps : List (Int × Int)) (d : Int × Int) : ∀ k, (addTo ps d k).length = k
  | 0 => rfl
  | k + 1 => by show (addTo ps d k ++ _).length = _; rw [List.length_append, addTo_len ps d k]; rfl
theorem addTo_at (ps : List (Int × Int)) (d : Int × Int) : ∀ n k, k < n → gq (addTo ps d n) k = (addR (gq ps k).1 (gq ps k).2 d.1 d.2).1
  | 0, k, h => by omega
  | n + 1, k, h => by
    show gq (addTo ps d n ++ _) k = _
    unfold gq
    rw [List.getD_eq_getElem?_getD, List.getElem?_append, addTo_len]
    by_cases c : k < n
    · rw [if_pos c, ← List.getD_eq_getElem?_getD]; exact addTo_at ps d n k c
    · obtain rfl : k = n := by omega
      rw [if_neg c]; simp
theorem add_qv {ps : List (Int × Int)} {d : Int × Int} (hall : AllP ps ps.length) (hd : vr d.1 d.2 = true) (hd0 : 0 ≤ d.1) (hadd : ∀ k, k < ps.length → (addR (gq ps k).1 (gq ps k).2 d.1 d.2).2 = 0) :
    AllP (addTo ps d ps.length) (addTo ps d ps.length).length ∧ ∀ k, 1 ≤ k → k ≤ ps.length → qv (addTo ps d ps.length) k = qv ps k + rv d := by
  have rd : 0 ≤ rv d := (rv_nonneg (vr_pos hd)).2 hd0
  have val : ∀ k, k < ps.length → rv (addR (gq ps k).1 (gq ps k).2 d.1 d.2).1 = qv ps (k + 1) + rv d := fun k hk => by
    obtain ⟨_, _, _, h4⟩ := add_rv (hadd k hk)
    rw [h4]; rfl
  rw [addTo_len]
  refine ⟨fun k hk => ?_, fun k k1 k2 => ?_⟩
  · rw [addTo_at ps d _ k hk]
    obtain ⟨_, _, h3, _⟩ := add_rv (hadd k hk)
    refine okP_of h3 ((rv_nonneg (vr_pos h3)).1 ?_)
    show 0 ≤ rv (addR (gq ps k).1 (gq ps k).2 d.1 d.2).1
    rw [val k hk]
    have := qv_nonneg hall (k := k + 1) (by omega)
    grind
  · obtain ⟨m, rfl⟩ : ∃ m, k = m + 1 := ⟨k - 1, by omega⟩
    show rv (ck _ _) = _
    unfold ck
    rw [if_neg (by omega), Nat.add_sub_cancel, addTo_at ps d _ m (by omega)]
    exact val m (by omega)
/-- A point after a delay is in the zone exactly if the delay is one of its delays. -/
theorem later_iff {N : Nat} {xs : List Int} {ps : List (Int × Int)} {d : Int × Int} (h : OkZ N xs) (hN : ps.length = N) (hall : AllP ps ps.length) (hD : AllD ps ps.length (ps.length + 1)) (hw : (stayS N xs ps).wd = false)
    (hd : vr d.1 d.2 = true) (hd0 : 0 ≤ d.1) (hadd : ∀ k, k < ps.length → (addR (gq ps k).1 (gq ps k).2 d.1 d.2).2 = 0)
    (hDq : AllD (addTo ps d ps.length) (addTo ps d ps.length).length ((addTo ps d ps.length).length + 1)) :
    AllM N xs (addTo ps d ps.length) (N + 1) ↔ (SuTo N xs ((0, 1) :: ps) 1 (N + 1) ∧ InS (stayS N xs ps) (rv d)) := by
  obtain ⟨hq, hval⟩ := add_qv hall hd hd0 hadd
  have rd : 0 ≤ rv d := (rv_nonneg (vr_pos hd)).2 hd0
  have hx := fun i j hi hj => ent_vld h (i := i) (j := j) hi hj
  rw [allM_mt (by rw [addTo_len, hN]) hq hDq hx, suTo_mt hN hall hD hx, stay_mem h hN hall hw]
  constructor
  · intro hm
    refine ⟨fun i j h1 hi h2 hj => ?_, rd, fun k k1 k2 => ⟨?_, ?_⟩⟩
    · have := hm i j hi hj
      rw [hval i h1 (by omega), hval j h2 (by omega)] at this
      rwa [show qv ps i + rv d - (qv ps j + rv d) = qv ps i - qv ps j by grind] at this
    · have := hm k 0 k2 (Nat.zero_le _)
      rw [hval k k1 (by omega), qv_zero] at this
      rwa [show qv ps k + rv d - 0 = qv ps k + rv d by grind] at this
    · have := hm 0 k (Nat.zero_le _) k2
      rw [hval k k1 (by omega), qv_zero] at this
      rwa [show 0 - (qv ps k + rv d) = -(qv ps k + rv d) by grind] at this
  · rintro ⟨hs, _, h2⟩ i j hi hj
    by_cases ci : i = 0
    · by_cases cj : j = 0
      · subst ci cj; exact mt_diag h hi
      · subst ci
        rw [hval j (by omega) (by omega), qv_zero, show 0 - (qv ps j + rv d) = -(qv ps j + rv d) by grind]
        exact (h2 j (by omega) hj).2
    · by_cases cj : j = 0
      · subst cj
        rw [hval i (by omega) (by omega), qv_zero, show qv ps i + rv d - 0 = qv ps i + rv d by grind]
        exact (h2 i (by omega) hi).1
      · rw [hval i (by omega) (by omega), hval j (by omega) (by omega), show qv ps i + rv d - (qv ps j + rv d) = qv ps i - qv ps j by grind]
        exact hs i j (by omega) hi (by omega) hj
/-- Is a delay in an interval, as the law asks? -/
def insB (s : Sp) (d : Int × Int) : Bool :=
  (decide ((cmpR s.ln s.ld d.1 d.2).1 < 0) || (decide ((cmpR s.ln s.ld d.1 d.2).1 = 0) && !s.lo)) &&
    (s.nh || (decide ((cmpR d.1 d.2 s.hn s.hd).1 < 0) || (decide ((cmpR d.1 d.2 s.hn s.hd).1 = 0) && !s.ho)))
theorem ins_iff {s : Sp} {d : Int × Int} (hs : SpV s) (hd : vr d.1 d.2 = true) : insB s d = true ↔ InS s (rv d) := by
  obtain ⟨_, a1, _, a3⟩ := cmp_rv hs.lv hd
  have b := fun hn => cmp_rv hd (hs.hv hn)
  unfold insB InS Cs
  rw [Bool.and_eq_true, Bool.or_eq_true, Bool.or_eq_true, Bool.or_eq_true, Bool.and_eq_true, Bool.and_eq_true, decide_eq_true_eq, decide_eq_true_eq, decide_eq_true_eq, decide_eq_true_eq, a1, a3]
  cases hn : s.nh with
  | true => simp; unfold loR; exact Iff.rfl
  | false =>
    obtain ⟨_, b1, _, b3⟩ := b hn
    rw [b1, b3]
    simp
    unfold loR hiR
    exact Iff.rfl
/-- What is asked of Stay's answer, and of a later point. -/
theorem stay_told {n : Int} {xs : List Int} {ps : List (Int × Int)} (hok : OkZ n xs) (hr : readyF n xs ps = 0) (hg : (stayF n xs ps).2 = 0 ∨ (stayF n xs ps).2 = 4) :
    (stayS ps.length xs ps).wd = false ∧ ((stayF n xs ps).2 = 0 ↔ (SuTo ps.length xs ((0, 1) :: ps) 1 (ps.length + 1) ∧ empS (stayS ps.length xs ps) = false)) ∧ ((stayF n xs ps).2 = 0 → (stayF n xs ps).1 = stayS ps.length xs ps) := by
  cases hw : (stayS ps.length xs ps).wd with
  | true => rw [stayF_wide hr hw] at hg; simp at hg
  | false =>
    refine ⟨rfl, ?_⟩
    by_cases hs : SuTo ps.length xs ((0, 1) :: ps) 1 (ps.length + 1)
    · rw [stayF_told hr hw hs]
      unfold toldF
      cases he : empS (stayS ps.length xs ps) with
      | true => simp
      | false => simp [hs]
    · rw [stayF_none hr hw hs]; simp [hs]
theorem ready_dwn {N : Nat} {xs : List Int} {ps : List (Int × Int)} (h : OkZ N xs) : readyF N (dwn N xs) ps = readyF N xs ps := by
  by_cases hf : Fit N xs ps
  · have hf2 : Fit N (dwn N xs) ps := ⟨okz_dwn h, hf.2⟩
    unfold readyF
    rw [if_pos hf, if_pos hf2]
  · rw [readyF_fit hf, readyF_fit (fun k => hf ⟨h, k.2⟩)]
theorem times_past {N : Nat} {xs : List Int} {ps : List (Int × Int)} (h : OkZ N xs) (hh : (hasF N (dwn N xs) ps).2 = 0) (hg : (stayF N xs ps).2 = 0 ∨ (stayF N xs ps).2 = 4) :
    readyF N xs ps = 0 ∧ ((hasF N (dwn N xs) ps).1 = true ↔ (stayF N xs ps).2 = 0) := by
  have hr : readyF N (dwn N xs) ps = 0 := by
    by_cases hr : readyF N (dwn N xs) ps = 0
    · exact hr
    · rw [hasF_no rfl hr] at hh; exact hh
  have hr2 := hr
  rw [ready_dwn h] at hr2
  refine ⟨hr2, ?_⟩
  obtain ⟨hfit, hall, hD⟩ := readyF_inv hr2
  have hN : ps.length = N := by have := hfit.2; omega
  obtain ⟨t1, t2, _⟩ := stay_told h hr2 hg
  rw [t2]
  rw [hN] at t1 ⊢
  rw [← past_iff h hN hall hD t1]
  constructor
  · intro hb
    by_cases hm : AllM N (dwn N xs) ps (N + 1)
    · exact hm
    · rw [← hN] at hm
      rw [hN] at hm
      have := hasF_out (ps := ps) hr (by rw [hN]; exact hm)
      rw [this] at hb; simp at hb
  · intro hm
    rw [hasF_in hr (by rw [hN]; exact hm)]
theorem times_later {N : Nat} {xs : List Int} {ps : List (Int × Int)} {d : Int × Int} (h : OkZ N xs) (hr : readyF N xs ps = 0) (hg : (stayF N xs ps).2 = 0 ∨ (stayF N xs ps).2 = 4)
    (hd : vr d.1 d.2 = true) (hd0 : 0 ≤ d.1) (hadd : ∀ k, k < ps.length → (addR (gq ps k).1 (gq ps k).2 d.1 d.2).2 = 0) :
    ((hasF N xs (addTo ps d ps.length)).2 = 0 ∨ (hasF N xs (addTo ps d ps.length)).2 = 7) ∧
    ((hasF N xs (addTo ps d ps.length)).2 = 0 → (stayF N xs ps).2 = 4 → (hasF N xs (addTo ps d ps.length)).1 = false) ∧
    ((stayF N xs ps).2 = 0 → SpV (stayF N xs ps).1) ∧
    ((hasF N xs (addTo ps d ps.length)).2 = 0 → (stayF N xs ps).2 = 0 → (hasF N xs (addTo ps d ps.length)).1 = insB (stayF N xs ps).1 d) := by
  obtain ⟨hfit, hall, hD⟩ := readyF_inv hr
  have hN : ps.length = N := by have := hfit.2; omega
  obtain ⟨t1, t2, t3⟩ := stay_told h hr hg
  obtain ⟨hq, hval⟩ := add_qv hall hd hd0 hadd
  have hlen := addTo_len ps d ps.length
  have hfq : Fit N xs (addTo ps d ps.length) := ⟨h, by rw [hlen]; omega⟩
  rw [hN] at t1 t2 t3
  have I := stay_cuts h hN hall t1
  by_cases hDq : AllD (addTo ps d ps.length) (addTo ps d ps.length).length ((addTo ps d ps.length).length + 1)
  · have hrq := readyF_ok hfq hq hDq
    have L := later_iff h hN hall hD t1 hd hd0 hadd hDq
    have B : (hasF N xs (addTo ps d ps.length)).2 = 0 ∧ ((hasF N xs (addTo ps d ps.length)).1 = true ↔ AllM N xs (addTo ps d ps.length) (N + 1)) := by
      by_cases hm : AllM N xs (addTo ps d ps.length) (N + 1)
      · rw [hasF_in hrq (by rw [hlen, hN]; rw [hN] at hm; exact hm)]; simp [hm]
      · rw [hasF_out hrq (by rw [hlen, hN]; rw [hN] at hm; exact hm)]; simp [hm]
    refine ⟨.inl B.1, fun _ h4 => ?_, fun h0 => by rw [t3 h0]; exact I.v, fun _ h0 => ?_⟩
    · cases hb : (hasF N xs (addTo ps d ps.length)).1 with
      | false => rfl
      | true =>
        obtain ⟨s1, s2⟩ := L.1 (B.2.1 hb)
        have := t2.2 ⟨s1, (emp_iff I.v).2 (in_room s2)⟩
        omega
    · rw [t3 h0]
      have s1 := (t2.1 h0).1
      have e : (hasF N xs (addTo ps d ps.length)).1 = true ↔ insB (stayS N xs ps) d = true := by
        rw [B.2, L, ins_iff I.v hd]
        exact ⟨fun h => h.2, fun h => ⟨s1, h⟩⟩
      cases ha : (hasF N xs (addTo ps d ps.length)).1 <;> cases hb : insB (stayS N xs ps) d <;> simp_all
  · have e := hasF_no (readyF_range hfq hq hDq) (by decide)
    rw [e]
    exact ⟨.inr rfl, fun h => by simp at h, fun h0 => by rw [t3 h0]; exact I.v, fun h => by simp at h⟩
end Go.Proofs.Ytkgaipcgdldfdaa
