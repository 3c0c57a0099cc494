/- Part of the proof of priced_covers_proved: Clx. -/
import Derived.Test.YtfphlpglgcmljaaGreatXvPure
import Derived.Test.YtfphlpglgcmljaaGreatXvRand
namespace Go.Proofs.YtfphlpglgcmljaaGreat
open Go.RowKit
set_option linter.unusedVariables false
set_option linter.unusedVariables false
theorem ple_anti {a b : Lm} (h : ple a b) (k : ple b a) : a = b := by
 cases a with
 | none => cases b with
  | none => rfl
  | some y => exact absurd h (by simp [ple])
 | some x => cases b with
  | none => exact absurd k (by simp [ple])
  | some y => rw [Int.le_antisymm h k]
def dK (m : Nat → Nat → Lm) : Nat → Nat → Nat → Lm
 | 0 => m
 | k + 1 => fun i j => pmin (dK m k i j) (psum (dK m k i k) (dK m k k j))
structure Dn (N : Nat) (Y m D : Nat → Nat → Lm) (k : Nat) : Prop where
 ge : ∀ i j, i ≤ N → j ≤ N → ple (Y i j) (D i j)
 le : ∀ i j, i ≤ N → j ≤ N → ple (D i j) (m i j)
 diag : ∀ i, i ≤ N → D i i = some 1
 tri : ∀ q i j, q < k → i ≤ N → j ≤ N → ple (D i j) (psum (D i q) (D q j))
theorem Dn.next {N : Nat} {Y m : Nat → Nat → Lm} {k : Nat} (hy : Cn N Y) (hk : k ≤ N) (h : Dn N Y m (dK m k) k) : Dn N Y m (dK m (k + 1)) (k + 1) := by
 have e : ∀ i j, dK m (k + 1) i j = pmin (dK m k i j) (psum (dK m k i k) (dK m k k j)) := fun _ _ => rfl
 have g : ∀ i j, i ≤ N → j ≤ N → ple (Y i j) (dK m (k + 1) i j) := fun i j hi hj => by
  rw [e]
  exact le_pmin (h.ge i j hi hj) (ple_trans (hy.tri i j k hi hj hk) (psum_mono (h.ge i k hi hk) (h.ge k j hk hj)))
 have le1 : ∀ i j, ple (dK m (k + 1) i j) (dK m k i j) := fun i j => by rw [e]; exact pmin_l _ _
 have le2 : ∀ i j, ple (dK m (k + 1) i j) (psum (dK m k i k) (dK m k k j)) := fun i j => by rw [e]; exact pmin_r _ _
 have col : ∀ i, i ≤ N → dK m (k + 1) i k = dK m k i k := fun i hi => by
  rw [e, h.diag k hk, psum_one_r]; rcases pmin_or (dK m k i k) (dK m k i k) with c | c <;> exact c
 have row : ∀ j, j ≤ N → dK m (k + 1) k j = dK m k k j := fun j hj => by
  rw [e, h.diag k hk, psum_one_l]; rcases pmin_or (dK m k k j) (dK m k k j) with c | c <;> exact c
 refine ⟨g, fun i j hi hj => ple_trans (le1 i j) (h.le i j hi hj), fun i hi => ?_, fun q i j hq hi hj => ?_⟩
 ·refine ple_anti (ple_trans (le1 i i) (by rw [h.diag i hi]; exact ple_refl _)) ?_
  have := g i i hi hi
  rwa [hy.diag i hi] at this
 ·by_cases hqk : q = k
  ·subst hqk
   rw [col i hi, row j hj]; exact le2 i j
  have hq : q < k := by omega
  have hqN : q ≤ N := by omega
  rw [e i q, e q j]
  rcases pmin_or (dK m k i q) (psum (dK m k i k) (dK m k k q)) with e1 | e1 <;> rcases pmin_or (dK m k q j) (psum (dK m k q k) (dK m k k j)) with e2 | e2 <;> rw [e1, e2]
  ·exact ple_trans (le1 i j) (h.tri q i j hq hi hj)
  ·rw [← psum_assoc]
   exact ple_trans (le2 i j) (psum_mono (h.tri q i k hq hi hk) (ple_refl _))
  ·rw [psum_assoc]
   exact ple_trans (le2 i j) (psum_mono (ple_refl _) (h.tri q k j hq hk hj))
  ·rw [psum_mid]
   refine ple_trans (le2 i j) (psum_mono (ple_refl _) ?_)
   have t := psum_mono (h.tri q k k hq hk hk) (ple_refl (dK m k k j))
   rwa [h.diag k hk, psum_one_l] at t
theorem Dn.all {N : Nat} {Y m : Nat → Nat → Lm} (hy : Cn N Y) (h : Dn N Y m m 0) (k : Nat) (hk : k ≤ N + 1) : Dn N Y m (dK m k) k := by
 induction k with
 | zero => exact h
 | succ k ih => exact (ih (by omega)).next hy (by omega)
def tB (k : Nat) : Int := 68719476736 - 4294967296 * k
structure Ex (N : Nat) (D : Nat → Nat → Lm) (m : List Int) (T : Int) : Prop where
 up : ∀ i j, i ≤ N → j ≤ N → ple (D i j) (pl (ent N m i j))
 eq : ∀ i j y, i ≤ N → j ≤ N → D i j = some y → y ≤ T → ent N m i j = y
theorem ple_pl {y x : Int} (h : ple (some y) (pl x)) (hx : x ≤ 1099511627776) (hy : y ≤ 1099511627776) : y ≤ x := by
 unfold pl at h; split at h
 ·omega
 ·exact h
theorem Ex.next {N : Nat} {Y : Nat → Nat → Lm} {c : Nat → Nat → Lm} {m : List Int} {k : Nat} {R : Int} (hy : Cn N Y) (hYlo : ∀ i j y, i ≤ N → j ≤ N → Y i j = some y → -2147483648 ≤ y) (hk : k ≤ N) (hk11 : k ≤ 10)
  (hd : Dn N Y c (dK c k) k) (hs : Sn N Y m R) (hR : 1099511627776 ≤ R) (hR' : R ≤ 1152921504606846976) (h : Ex N (dK c k) m (tB k)) :
  Ex N (dK c (k + 1)) (fwI N k m (N + 1)) (tB (k + 1)) := by
 have w : ∀ i j, i ≤ N → j ≤ N → Rg 1152921504606846976 (ent N m i j) := fun i j hi hj => by
  have := hs.rg i j hi hj; unfold Rg at *; omega
 have E : ∀ a b, a ≤ N → b ≤ N → ent N (fwI N k m (N + 1)) a b = imin (ent N m a b) (lsum (ent N m a k) (ent N m k b)) := fun a b ha hb => by
  rw [fwI_ent hs.len hk (hs.diag k hk) (fun i hi => lsum1r (w i k hi hk)) (fun j hj => lsum1l (w k j hk hj)) (N + 1) (Nat.le_refl _) a b ha hb, if_pos (by omega)]
 have up : ∀ i j, i ≤ N → j ≤ N → ple (dK c (k + 1) i j) (pl (ent N (fwI N k m (N + 1)) i j)) := fun i j hi hj => by
  rw [E i j hi hj]
  rcases imin_eq (ent N m i j) (lsum (ent N m i k) (ent N m k j)) with e | e <;> rw [e]
  ·exact ple_trans (pmin_l _ _) (h.up i j hi hj)
  ·exact ple_trans (pmin_r _ _) (ple_trans (psum_mono (h.up i k hi hk) (h.up k j hk hj)) (pl_lsum (w i k hi hk) (w k j hk hj)))
 have lo : ∀ i j y, i ≤ N → j ≤ N → dK c k i j = some y → -2147483648 ≤ y := fun i j y hi hj e => by
  have g := hd.ge i j hi hj
  rw [e] at g
  cases hY : Y i j with
  | none => rw [hY] at g; exact absurd g (by simp [ple])
  | some v => rw [hY] at g; have := hYlo i j v hi hj hY; have g : v ≤ y := g; omega
 refine ⟨up, fun i j y hi hj hy' hyT => ?_⟩
 have tb : tB (k + 1) = tB k - 4294967296 := by unfold tB; push_cast; omega
 have tb2 : tB k ≤ 68719476736 := by unfold tB; omega
 have hup := up i j hi hj
 rw [hy'] at hup
 have le : ent N (fwI N k m (N + 1)) i j ≤ y := by
  rw [E i j hi hj]
  rcases pmin_or (dK c k i j) (psum (dK c k i k) (dK c k k j)) with e | e
  ·have e1 : dK c k i j = some y := e.symm.trans hy'
   have := h.eq i j y hi hj e1 (by omega)
   rw [this]; exact imin_le_l _ _
  ·have e1 : psum (dK c k i k) (dK c k k j) = some y := e.symm.trans hy'
   cases eu : dK c k i k with
   | none => rw [eu] at e1; cases e1
   | some u =>
    cases ev : dK c k k j with
    | none => rw [eu, ev] at e1; cases e1
    | some v =>
     rw [eu, ev] at e1
     have lu := lo i k u hi hk eu
     have lv := lo k j v hk hj ev
     have e2 : u + v - (if u % 2 = 0 ∧ v % 2 = 0 then 0 else 1) = y := Option.some.inj e1
     have e3 : (if u % 2 = 0 ∧ v % 2 = 0 then (0 : Int) else 1) ≤ 1 ∧ 0 ≤ (if u % 2 = 0 ∧ v % 2 = 0 then (0 : Int) else 1) := by split <;> omega
     have mu := h.eq i k u hi hk eu (by omega)
     have mv := h.eq k j v hk hj ev (by omega)
     rw [mu, mv, lsum_fin' (by omega) (by omega) (by unfold Rg; omega) (by unfold Rg; omega), e2]
     exact imin_le_r _ _
 have ge := ple_pl hup (by omega) (by omega)
 omega
theorem Ex.all {N : Nat} {Y : Nat → Nat → Lm} {m : List Int} (hN : N ≤ 10) (hy : Cn N Y) (hYlo : ∀ i j y, i ≤ N → j ≤ N → Y i j = some y → -2147483648 ≤ y) (hs : Sn N Y m 4398046511104)
  (hd : Dn N Y (fun i j => pl (ent N m i j)) (fun i j => pl (ent N m i j)) 0) (k : Nat) (hk : k ≤ N + 1) : Ex N (dK (fun i j => pl (ent N m i j)) k) (fwK N m k) (tB k) := by
 induction k with
 | zero =>
  refine ⟨fun i j _ _ => ple_refl _, fun i j y hi hj e hT => ?_⟩
  have e : pl (ent N m i j) = some y := e
  show ent N m i j = y
  unfold pl at e; split at e
  ·cases e
  ·exact Option.some.inj e
 | succ k ih => exact (ih (by omega)).next hy hYlo (by omega) (by omega) (hd.all hy k (by omega)) (hs.all hN hy k (by omega)) (rgk_le k (by omega)).1 (rgk_le k (by omega)).2
set_option linter.unusedVariables false
end Go.Proofs.YtfphlpglgcmljaaGreat
