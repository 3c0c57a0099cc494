/- Part of the proof of priced_covers_proved: Pure. -/
import Derived.Test.YtfphlpglgcmljaaGreatXvQ
namespace Go.Proofs.YtfphlpglgcmljaaGreat
open Go.RowKit
set_option linter.unusedVariables false
abbrev Lm := Option Int
def psum : Lm → Lm → Lm
 | some x, some y => some (x + y - (if x % 2 = 0 ∧ y % 2 = 0 then 0 else 1))
 | _, _ => none
def ple : Lm → Lm → Prop
 | _, none => True
 | none, some _ => False
 | some x, some y => x ≤ y
def pl (l : Int) : Lm := if l = 1099511627776 then none else some l
theorem ple_refl (a : Lm) : ple a a := by cases a <;> simp [ple]
theorem ple_none (a : Lm) : ple a none := by cases a <;> simp [ple]
theorem ple_trans {a b c : Lm} (h : ple a b) (k : ple b c) : ple a c := by
 cases a <;> cases b <;> cases c <;> simp [ple] at * <;> omega
theorem ple_total (a b : Lm) : ple a b ∨ ple b a := by
 cases a <;> cases b <;> simp [ple] <;> omega
theorem psum_assoc (a b c : Lm) : psum (psum a b) c = psum a (psum b c) := by
 cases a <;> cases b <;> cases c <;> simp only [psum, Option.some.injEq]
 rename_i x y z
 by_cases hx : x % 2 = 0 <;> by_cases hy : y % 2 = 0 <;> by_cases hz : z % 2 = 0 <;> simp only [hx, hy, hz, and_self, and_true, true_and, and_false, false_and, if_true, if_false] <;> (repeat' split) <;> omega
theorem psum_mono {a b a' b' : Lm} (h : ple a' a) (k : ple b' b) : ple (psum a' b') (psum a b) := by
 cases a <;> cases b <;> cases a' <;> cases b' <;> simp only [psum, ple] at * 
 split <;> split <;> omega
theorem psum_one_l (a : Lm) : psum (some 1) a = a := by
 cases a <;> simp only [psum, Option.some.injEq]
 rw [if_neg (by omega)]; omega
theorem psum_one_r (a : Lm) : psum a (some 1) = a := by
 cases a <;> simp only [psum, Option.some.injEq]
 rw [if_neg (by omega)]; omega
theorem psum_comm (a b : Lm) : psum a b = psum b a := by
 cases a <;> cases b <;> simp only [psum, Option.some.injEq]
 split <;> split <;> omega
def pmin (a b : Lm) : Lm := match a, b with
 | none, y => y
 | x, none => x
 | some x, some y => some (if y < x then y else x)
theorem pmin_l (a b : Lm) : ple (pmin a b) a := by cases a <;> cases b <;> simp only [pmin, ple] <;> (try split) <;> omega
theorem pmin_r (a b : Lm) : ple (pmin a b) b := by cases a <;> cases b <;> simp only [pmin, ple] <;> (try split) <;> omega
theorem pmin_or (a b : Lm) : pmin a b = a ∨ pmin a b = b := by cases a <;> cases b <;> simp only [pmin, true_or, or_true]; split <;> simp
theorem le_pmin {a b c : Lm} (h : ple c a) (k : ple c b) : ple c (pmin a b) := by rcases pmin_or a b with e | e <;> rw [e] <;> assumption
structure Cn (N : Nat) (Y : Nat → Nat → Lm) : Prop where
 diag : ∀ i, i ≤ N → Y i i = some 1
 tri : ∀ i j k, i ≤ N → j ≤ N → k ≤ N → ple (Y i j) (psum (Y i k) (Y k j))
theorem psum_mid {a b c d : Lm} : psum (psum a b) (psum c d) = psum a (psum (psum b c) d) := by rw [psum_assoc, psum_assoc b c d]
theorem Cn.box {N : Nat} {S : Nat → Nat → Lm} (h : Cn N S) (lo up : Nat → Lm) (h0 : lo 0 = some 1) (h1 : up 0 = some 1)
  (hc : ∀ k m, k ≤ N → m ≤ N → ple (some 1) (psum (lo k) (psum (S k m) (up m)))) :
  ∃ Y, Cn N Y ∧ (∀ i j, i ≤ N → j ≤ N → ple (Y i j) (S i j)) ∧ (∀ i, i ≤ N → ple (Y i 0) (up i)) ∧ ∀ i, i ≤ N → ple (Y 0 i) (lo i) := by
 have amin : ∀ (f : Nat → Lm) (n : Nat), ∃ k, k ≤ n ∧ ∀ m, m ≤ n → ple (f k) (f m) := by
  intro f n
  induction n with
  | zero =>
   refine ⟨0, Nat.le_refl _, fun m hm => ?_⟩
   obtain rfl : m = 0 := by omega
   exact ple_refl _
  | succ n ih =>
   obtain ⟨k, hk, hm⟩ := ih
   rcases ple_total (f k) (f (n + 1)) with e | e
   ·refine ⟨k, by omega, fun m hmn => ?_⟩
    by_cases c : m = n + 1
    ·subst c; exact e
    ·exact hm m (by omega)
   ·refine ⟨n + 1, Nat.le_refl _, fun m hmn => ?_⟩
    by_cases c : m = n + 1
    ·subst c; exact ple_refl _
    ·exact ple_trans e (hm m (by omega))
 have hA := fun a => amin (fun k => psum (S a k) (up k)) N
 have hB := fun b => amin (fun k => psum (lo k) (S k b)) N
 obtain ⟨A, Aex, Amin⟩ : ∃ A : Nat → Lm, (∀ a, ∃ k, k ≤ N ∧ A a = psum (S a k) (up k)) ∧ ∀ a m, m ≤ N → ple (A a) (psum (S a m) (up m)) :=
  ⟨fun a => psum (S a (hA a).choose) (up (hA a).choose), fun a => ⟨_, (hA a).choose_spec.1, rfl⟩, fun a m hm => (hA a).choose_spec.2 m hm⟩
 obtain ⟨B, Bex, Bmin⟩ : ∃ B : Nat → Lm, (∀ b, ∃ k, k ≤ N ∧ B b = psum (lo k) (S k b)) ∧ ∀ b m, m ≤ N → ple (B b) (psum (lo m) (S m b)) :=
  ⟨fun b => psum (lo (hB b).choose) (S (hB b).choose b), fun b => ⟨_, (hB b).choose_spec.1, rfl⟩, fun b m hm => (hB b).choose_spec.2 m hm⟩
 clear hA hB amin
 have Atri : ∀ a c, a ≤ N → c ≤ N → ple (A a) (psum (S a c) (A c)) := fun a c ha hc' => by
  obtain ⟨k, hk, e⟩ := Aex c
  refine ple_trans (Amin a k hk) ?_
  rw [e, ← psum_assoc]
  exact psum_mono (h.tri a k c ha hk hc') (ple_refl _)
 have Btri : ∀ b c, b ≤ N → c ≤ N → ple (B b) (psum (B c) (S c b)) := fun b c hb hc' => by
  obtain ⟨k, hk, e⟩ := Bex c
  refine ple_trans (Bmin b k hk) ?_
  rw [e, psum_assoc]
  exact psum_mono (ple_refl _) (h.tri k b c hk hb hc')
 have AB : ∀ a, a ≤ N → ple (some 1) (psum (B a) (A a)) := fun a ha => by
  obtain ⟨k, hk, e⟩ := Aex a
  obtain ⟨m, hm, e'⟩ := Bex a
  refine ple_trans (hc m k hm hk) ?_
  rw [e, e', psum_mid]
  exact psum_mono (ple_refl _) (psum_mono (h.tri m k a hm hk ha) (ple_refl _))
 refine ⟨fun a b => pmin (S a b) (psum (A a) (B b)), ⟨fun a ha => ?_, fun a b c ha hb hc' => ?_⟩, fun i j _ _ => pmin_l _ _, fun i hi => ?_, fun i hi => ?_⟩
 ·have k := AB a ha
  rw [psum_comm] at k
  show pmin (S a a) (psum (A a) (B a)) = _
  rw [h.diag a ha]
  generalize psum (A a) (B a) = t at k
  cases t <;> simp only [pmin, ple] at *
  rw [if_neg (by omega)]
 ·show ple (pmin (S a b) (psum (A a) (B b))) (psum (pmin (S a c) (psum (A a) (B c))) (pmin (S c b) (psum (A c) (B b))))
  rcases pmin_or (S a c) (psum (A a) (B c)) with e1 | e1 <;> rcases pmin_or (S c b) (psum (A c) (B b)) with e2 | e2 <;> rw [e1, e2]
  ·exact ple_trans (pmin_l _ _) (h.tri a b c ha hb hc')
  ·rw [← psum_assoc]; exact ple_trans (pmin_r _ _) (psum_mono (Atri a c ha hc') (ple_refl _))
  ·rw [psum_assoc]; exact ple_trans (pmin_r _ _) (psum_mono (ple_refl _) (Btri b c hb hc'))
  ·rw [psum_mid]
   refine ple_trans (pmin_r _ _) ?_
   refine psum_mono (ple_refl _) ?_
   have := psum_mono (AB c hc') (ple_refl (B b))
   rwa [psum_one_l] at this
 ·refine ple_trans (pmin_r _ _) ?_
  have a1 := Amin i i hi
  have b1 := Bmin 0 0 (Nat.zero_le _)
  rw [h.diag i hi, psum_one_l] at a1
  rw [h0, psum_one_l, h.diag 0 (Nat.zero_le _)] at b1
  have := psum_mono a1 b1
  rwa [psum_one_r] at this
 ·refine ple_trans (pmin_r _ _) ?_
  have a1 := Amin 0 0 (Nat.zero_le _)
  have b1 := Bmin i i hi
  rw [h1, psum_one_r, h.diag 0 (Nat.zero_le _)] at a1
  rw [h.diag i hi, psum_one_r] at b1
  have := psum_mono a1 b1
  rwa [psum_one_l] at this
def Rg (R l : Int) : Prop := -R ≤ l ∧ l ≤ R
theorem lsum_fin' {a b : Int} (ha : a ≠ 1099511627776) (hb : b ≠ 1099511627776) (h1 : Rg 1152921504606846976 a) (h2 : Rg 1152921504606846976 b) :
  lsum a b = a + b - (if a % 2 = 0 ∧ b % 2 = 0 then 0 else 1) := by
 unfold Rg at h1 h2
 unfold lsum wrap64
 rw [if_neg (by omega)]
 split <;> omega
theorem pl_fin {a : Int} (h : a ≠ 1099511627776) : pl a = some a := by unfold pl; rw [if_neg h]
theorem pl_nl : pl 1099511627776 = none := by unfold pl; rw [if_pos rfl]
theorem pl_lsum {a b : Int} (h1 : Rg 1152921504606846976 a) (h2 : Rg 1152921504606846976 b) : ple (psum (pl a) (pl b)) (pl (lsum a b)) := by
 by_cases e : a = 1099511627776 ∨ b = 1099511627776
 ·rw [lsum_nl a b e, pl_nl]; exact ple_none _
 ·have ha : a ≠ 1099511627776 := fun h => e (.inl h)
  have hb : b ≠ 1099511627776 := fun h => e (.inr h)
  rw [lsum_fin' ha hb h1 h2, pl_fin ha, pl_fin hb, show psum (some a) (some b) = some (a + b - (if a % 2 = 0 ∧ b % 2 = 0 then 0 else 1)) from rfl]
  generalize a + b - (if a % 2 = 0 ∧ b % 2 = 0 then 0 else 1) = t
  unfold pl; split
  ·exact ple_none _
  ·exact ple_refl _
theorem lsum_rg {R a b : Int} (hR : 1099511627776 ≤ R) (hR' : R ≤ 1152921504606846976) (h1 : Rg R a) (h2 : Rg R b) : Rg (2 * R + 1) (lsum a b) := by
 unfold Rg at *
 by_cases e : a = 1099511627776 ∨ b = 1099511627776
 ·rw [lsum_nl a b e]; omega
 ·rw [lsum_fin' (fun h => e (.inl h)) (fun h => e (.inr h)) (by unfold Rg; omega) (by unfold Rg; omega)]
  split <;> omega
theorem lsum1r {a : Int} (h : Rg 1152921504606846976 a) : lsum a 1 = a := by
 by_cases e : a = 1099511627776
 ·rw [lsum_nl a 1 (.inl e), e]
 ·rw [lsum_fin' e (by omega) h (by unfold Rg; omega), if_neg (by omega)]; omega
theorem lsum1l {a : Int} (h : Rg 1152921504606846976 a) : lsum 1 a = a := by
 by_cases e : a = 1099511627776
 ·rw [lsum_nl 1 a (.inr e), e]
 ·rw [lsum_fin' (by omega) e (by unfold Rg; omega) h, if_neg (by omega)]; omega
structure Sn (N : Nat) (Y : Nat → Nat → Lm) (m : List Int) (R : Int) : Prop where
 len : m.length = (N + 1) * (N + 1)
 ge : ∀ i j, i ≤ N → j ≤ N → ple (Y i j) (pl (ent N m i j))
 diag : ∀ i, i ≤ N → ent N m i i = 1
 rg : ∀ i j, i ≤ N → j ≤ N → Rg R (ent N m i j)
theorem Sn.next {N : Nat} {Y : Nat → Nat → Lm} {m : List Int} {R : Int} (h : Sn N Y m R) (hy : Cn N Y) {k : Nat} (hk : k ≤ N) (hR : 1099511627776 ≤ R) (hR' : R ≤ 1152921504606846976) : Sn N Y (fwI N k m (N + 1)) (2 * R + 1) := by
 have w : ∀ i j, i ≤ N → j ≤ N → Rg 1152921504606846976 (ent N m i j) := fun i j hi hj => by
  have := h.rg i j hi hj; unfold Rg at *; omega
 have E : ∀ a b, a ≤ N → b ≤ N → ent N (fwI N k m (N + 1)) a b = imin (ent N m a b) (lsum (ent N m a k) (ent N m k b)) := fun a b ha hb => by
  rw [fwI_ent h.len hk (h.diag k hk) (fun i hi => lsum1r (w i k hi hk)) (fun j hj => lsum1l (w k j hk hj)) (N + 1) (Nat.le_refl _) a b ha hb, if_pos (by omega)]
 have s : ∀ a b, a ≤ N → b ≤ N → ple (Y a b) (pl (lsum (ent N m a k) (ent N m k b))) := fun a b ha hb =>
  ple_trans (hy.tri a b k ha hb hk) (ple_trans (psum_mono (h.ge a k ha hk) (h.ge k b hk hb)) (pl_lsum (w a k ha hk) (w k b hk hb)))
 refine ⟨by rw [fwI_len]; exact h.len, fun i j hi hj => ?_, fun i hi => ?_, fun i j hi hj => ?_⟩
 ·rw [E i j hi hj]
  rcases imin_eq (ent N m i j) (lsum (ent N m i k) (ent N m k j)) with e | e <;> rw [e]
  ·exact h.ge i j hi hj
  ·exact s i j hi hj
 ·rw [E i i hi hi, h.diag i hi]
  refine imin_left ?_
  have t := s i i hi hi
  rw [hy.diag i hi] at t
  unfold pl at t; split at t
  ·omega
  ·exact t
 ·rw [E i j hi hj]
  rcases imin_eq (ent N m i j) (lsum (ent N m i k) (ent N m k j)) with e | e <;> rw [e]
  ·have := h.rg i j hi hj; unfold Rg at *; omega
  ·exact lsum_rg hR hR' (h.rg i k hi hk) (h.rg k j hk hj)
def rgk : Nat → Int
 | 0 => 4398046511104
 | k + 1 => 2 * rgk k + 1
theorem rgk_le (k : Nat) (hk : k ≤ 11) : 1099511627776 ≤ rgk k ∧ rgk k ≤ 1152921504606846976 := by
 have : ∀ q : Fin 12, 1099511627776 ≤ rgk q.1 ∧ rgk q.1 ≤ 1152921504606846976 := by decide
 exact this ⟨k, by omega⟩
theorem Sn.all {N : Nat} {Y : Nat → Nat → Lm} {m : List Int} (hN : N ≤ 10) (h : Sn N Y m 4398046511104) (hy : Cn N Y) (k : Nat) (hk : k ≤ N + 1) : Sn N Y (fwK N m k) (rgk k) := by
 induction k with
 | zero => exact h
 | succ k ih => exact (ih (by omega)).next hy (by omega) (rgk_le k (by omega)).1 (rgk_le k (by omega)).2
end Go.Proofs.YtfphlpglgcmljaaGreat
