/- Part of the proof of priced_clears_proved: Pure, Clv. -/
import Derived.Test.YtfphlpglgcmljaaGreatXcQ
namespace Go.Proofs.YtfphlpglgcmljaaGreat
open Go.RowKit
set_option linter.unusedVariables false
abbrev Lm := Option Int
def psum : Lm → Lm → Lm
 | some x, some y => some (x + y - (if x % 2 = 0 ∧ y % 2 = 0 then 0 else 1))
 | _, _ => none
def ple : Lm → Lm → Prop
 | _, none => True
 | none, some _ => False
 | some x, some y => x ≤ y
def pl (l : Int) : Lm := if l = 1099511627776 then none else some l
theorem ple_refl (a : Lm) : ple a a := by cases a <;> simp [ple]
theorem ple_none (a : Lm) : ple a none := by cases a <;> simp [ple]
theorem ple_trans {a b c : Lm} (h : ple a b) (k : ple b c) : ple a c := by
 cases a <;> cases b <;> cases c <;> simp [ple] at * <;> omega
theorem ple_total (a b : Lm) : ple a b ∨ ple b a := by
 cases a <;> cases b <;> simp [ple] <;> omega
theorem psum_assoc (a b c : Lm) : psum (psum a b) c = psum a (psum b c) := by
 cases a <;> cases b <;> cases c <;> simp only [psum, Option.some.injEq]
 rename_i x y z
 by_cases hx : x % 2 = 0 <;> by_cases hy : y % 2 = 0 <;> by_cases hz : z % 2 = 0 <;> simp only [hx, hy, hz, and_self, and_true, true_and, and_false, false_and, if_true, if_false] <;> (repeat' split) <;> omega
theorem psum_mono {a b a' b' : Lm} (h : ple a' a) (k : ple b' b) : ple (psum a' b') (psum a b) := by
 cases a <;> cases b <;> cases a' <;> cases b' <;> simp only [psum, ple] at * 
 split <;> split <;> omega
theorem psum_one_l (a : Lm) : psum (some 1) a = a := by
 cases a <;> simp only [psum, Option.some.injEq]
 rw [if_neg (by omega)]; omega
theorem psum_one_r (a : Lm) : psum a (some 1) = a := by
 cases a <;> simp only [psum, Option.some.injEq]
 rw [if_neg (by omega)]; omega
theorem psum_comm (a b : Lm) : psum a b = psum b a := by
 cases a <;> cases b <;> simp only [psum, Option.some.injEq]
 split <;> split <;> omega
def pmin (a b : Lm) : Lm := match a, b with
 | none, y => y
 | x, none => x
 | some x, some y => some (if y < x then y else x)
theorem pmin_l (a b : Lm) : ple (pmin a b) a := by cases a <;> cases b <;> simp only [pmin, ple] <;> (try split) <;> omega
theorem pmin_r (a b : Lm) : ple (pmin a b) b := by cases a <;> cases b <;> simp only [pmin, ple] <;> (try split) <;> omega
theorem pmin_or (a b : Lm) : pmin a b = a ∨ pmin a b = b := by cases a <;> cases b <;> simp only [pmin, true_or, or_true]; split <;> simp
theorem le_pmin {a b c : Lm} (h : ple c a) (k : ple c b) : ple c (pmin a b) := by rcases pmin_or a b with e | e <;> rw [e] <;> assumption
structure Cn (N : Nat) (Y : Nat → Nat → Lm) : Prop where
 diag : ∀ i, i ≤ N → Y i i = some 1
 tri : ∀ i j k, i ≤ N → j ≤ N → k ≤ N → ple (Y i j) (psum (Y i k) (Y k j))
theorem psum_mid {a b c d : Lm} : psum (psum a b) (psum c d) = psum a (psum (psum b c) d) := by rw [psum_assoc, psum_assoc b c d]
theorem Cn.box {N : Nat} {S : Nat → Nat → Lm} (h : Cn N S) (lo up : Nat → Lm) (h0 : lo 0 = some 1) (h1 : up 0 = some 1)
  (hc : ∀ k m, k ≤ N → m ≤ N → ple (some 1) (psum (lo k) (psum (S k m) (up m)))) :
  ∃ Y, Cn N Y ∧ (∀ i j, i ≤ N → j ≤ N → ple (Y i j) (S i j)) ∧ (∀ i, i ≤ N → ple (Y i 0) (up i)) ∧ ∀ i, i ≤ N → ple (Y 0 i) (lo i) := by
 have amin : ∀ (f : Nat → Lm) (n : Nat), ∃ k, k ≤ n ∧ ∀ m, m ≤ n → ple (f k) (f m) := by
  intro f n
  induction n with
  | zero =>
   refine ⟨0, Nat.le_refl _, fun m hm => ?_⟩
   obtain rfl : m = 0 := by omega
   exact ple_refl _
  | succ n ih =>
   obtain ⟨k, hk, hm⟩ := ih
   rcases ple_total (f k) (f (n + 1)) with e | e
   ·refine ⟨k, by omega, fun m hmn => ?_⟩
    by_cases c : m = n + 1
    ·subst c; exact e
    ·exact hm m (by omega)
   ·refine ⟨n + 1, Nat.le_refl _, fun m hmn => ?_⟩
    by_cases c : m = n + 1
    ·subst c; exact ple_refl _
    ·exact ple_trans e (hm m (by omega))
 have hA := fun a => amin (fun k => psum (S a k) (up k)) N
 have hB := fun b => amin (fun k => psum (lo k) (S k b)) N
 obtain ⟨A, Aex, Amin⟩ : ∃ A : Nat → Lm, (∀ a, ∃ k, k ≤ N ∧ A a = psum (S a k) (up k)) ∧ ∀ a m, m ≤ N → ple (A a) (psum (S a m) (up m)) :=
  ⟨fun a => psum (S a (hA a).choose) (up (hA a).choose), fun a => ⟨_, (hA a).choose_spec.1, rfl⟩, fun a m hm => (hA a).choose_spec.2 m hm⟩
 obtain ⟨B, Bex, Bmin⟩ : ∃ B : Nat → Lm, (∀ b, ∃ k, k ≤ N ∧ B b = psum (lo k) (S k b)) ∧ ∀ b m, m ≤ N → ple (B b) (psum (lo m) (S m b)) :=
  ⟨fun b => psum (lo (hB b).choose) (S (hB b).choose b), fun b => ⟨_, (hB b).choose_spec.1, rfl⟩, fun b m hm => (hB b).choose_spec.2 m hm⟩
 clear hA hB amin
 have Atri : ∀ a c, a ≤ N → c ≤ N → ple (A a) (psum (S a c) (A c)) := fun a c ha hc' => by
  obtain ⟨k, hk, e⟩ := Aex c
  refine ple_trans (Amin a k hk) ?_
  rw [e, ← psum_assoc]
  exact psum_mono (h.tri a k c ha hk hc') (ple_refl _)
 have Btri : ∀ b c, b ≤ N → c ≤ N → ple (B b) (psum (B c) (S c b)) := fun b c hb hc' => by
  obtain ⟨k, hk, e⟩ := Bex c
  refine ple_trans (Bmin b k hk) ?_
  rw [e, psum_assoc]
  exact psum_mono (ple_refl _) (h.tri k b c hk hb hc')
 have AB : ∀ a, a ≤ N → ple (some 1) (psum (B a) (A a)) := fun a ha => by
  obtain ⟨k, hk, e⟩ := Aex a
  obtain ⟨m, hm, e'⟩ := Bex a
  refine ple_trans (hc m k hm hk) ?_
  rw [e, e', psum_mid]
  exact psum_mono (ple_refl _) (psum_mono (h.tri m k a hm hk ha) (ple_refl _))
 refine ⟨fun a b => pmin (S a b) (psum (A a) (B b)), ⟨fun a ha => ?_, fun a b c ha hb hc' => ?_⟩, fun i j _ _ => pmin_l _ _, fun i hi => ?_, fun i hi => ?_⟩
 ·have k := AB a ha
  rw [psum_comm] at k
  show pmin (S a a) (psum (A a) (B a)) = _
  rw [h.diag a ha]
  generalize psum (A a) (B a) = t at k
  cases t <;> simp only [pmin, ple] at *
  rw [if_neg (by omega)]
 ·show ple (pmin (S a b) (psum (A a) (B b))) (psum (pmin (S a c) (psum (A a) (B c))) (pmin (S c b) (psum (A c) (B b))))
  rcases pmin_or (S a c) (psum (A a) (B c)) with e1 | e1 <;> rcases pmin_or (S c b) (psum (A c) (B b)) with e2 | e2 <;> rw [e1, e2]
  ·exact ple_trans (pmin_l _ _) (h.tri a b c ha hb hc')
  ·rw [← psum_assoc]; exact ple_trans (pmin_r _ _) (psum_mono (Atri a c ha hc') (ple_refl _))
  ·rw [psum_assoc]; exact ple_trans (pmin_r _ _) (psum_mono (ple_refl _) (Btri b c hb hc'))
  ·rw [psum_mid]
   refine ple_trans (pmin_r _ _) ?_
   refine psum_mono (ple_refl _) ?_
   have := psum_mono (AB c hc') (ple_refl (B b))
   rwa [psum_one_l] at this
 ·refine ple_trans (pmin_r _ _) ?_
  have a1 := Amin i i hi
  have b1 := Bmin 0 0 (Nat.zero_le _)
  rw [h.diag i hi, psum_one_l] at a1
  rw [h0, psum_one_l, h.diag 0 (Nat.zero_le _)] at b1
  have := psum_mono a1 b1
  rwa [psum_one_r] at this
 ·refine ple_trans (pmin_r _ _) ?_
  have a1 := Amin 0 0 (Nat.zero_le _)
  have b1 := Bmin i i hi
  rw [h1, psum_one_r, h.diag 0 (Nat.zero_le _)] at a1
  rw [h.diag i hi, psum_one_r] at b1
  have := psum_mono a1 b1
  rwa [psum_one_l] at this
def Rg (R l : Int) : Prop := -R ≤ l ∧ l ≤ R
theorem lsum_fin' {a b : Int} (ha : a ≠ 1099511627776) (hb : b ≠ 1099511627776) (h1 : Rg 1152921504606846976 a) (h2 : Rg 1152921504606846976 b) :
  lsum a b = a + b - (if a % 2 = 0 ∧ b % 2 = 0 then 0 else 1) := by
 unfold Rg at h1 h2
 unfold lsum wrap64
 rw [if_neg (by omega)]
 split <;> omega
theorem pl_fin {a : Int} (h : a ≠ 1099511627776) : pl a = some a := by unfold pl; rw [if_neg h]
theorem pl_nl : pl 1099511627776 = none := by unfold pl; rw [if_pos rfl]
theorem pl_lsum {a b : Int} (h1 : Rg 1152921504606846976 a) (h2 : Rg 1152921504606846976 b) : ple (psum (pl a) (pl b)) (pl (lsum a b)) := by
 by_cases e : a = 1099511627776 ∨ b = 1099511627776
 ·rw [lsum_nl a b e, pl_nl]; exact ple_none _
 ·have ha : a ≠ 1099511627776 := fun h => e (.inl h)
  have hb : b ≠ 1099511627776 := fun h => e (.inr h)
  rw [lsum_fin' ha hb h1 h2, pl_fin ha, pl_fin hb, show psum (some a) (some b) = some (a + b - (if a % 2 = 0 ∧ b % 2 = 0 then 0 else 1)) from rfl]
  generalize a + b - (if a % 2 = 0 ∧ b % 2 = 0 then 0 else 1) = t
  unfold pl; split
  ·exact ple_none _
  ·exact ple_refl _
theorem lsum_rg {R a b : Int} (hR : 1099511627776 ≤ R) (hR' : R ≤ 1152921504606846976) (h1 : Rg R a) (h2 : Rg R b) : Rg (2 * R + 1) (lsum a b) := by
 unfold Rg at *
 by_cases e : a = 1099511627776 ∨ b = 1099511627776
 ·rw [lsum_nl a b e]; omega
 ·rw [lsum_fin' (fun h => e (.inl h)) (fun h => e (.inr h)) (by unfold Rg; omega) (by unfold Rg; omega)]
  split <;> omega
theorem lsum1r {a : Int} (h : Rg 1152921504606846976 a) : lsum a 1 = a := by
 by_cases e : a = 1099511627776
 ·rw [lsum_nl a 1 (.inl e), e]
 ·rw [lsum_fin' e (by omega) h (by unfold Rg; omega), if_neg (by omega)]; omega
theorem lsum1l {a : Int} (h : Rg 1152921504606846976 a) : lsum 1 a = a := by
 by_cases e : a = 1099511627776
 ·rw [lsum_nl 1 a (.inr e), e]
 ·rw [lsum_fin' (by omega) e (by unfold Rg; omega) h, if_neg (by omega)]; omega
structure Sn (N : Nat) (Y : Nat → Nat → Lm) (m : List Int) (R : Int) : Prop where
 len : m.length = (N + 1) * (N + 1)
 ge : ∀ i j, i ≤ N → j ≤ N → ple (Y i j) (pl (ent N m i j))
 diag : ∀ i, i ≤ N → ent N m i i = 1
 rg : ∀ i j, i ≤ N → j ≤ N → Rg R (ent N m i j)
theorem Sn.next {N : Nat} {Y : Nat → Nat → Lm} {m : List Int} {R : Int} (h : Sn N Y m R) (hy : Cn N Y) {k : Nat} (hk : k ≤ N) (hR : 1099511627776 ≤ R) (hR' : R ≤ 1152921504606846976) : Sn N Y (fwI N k m (N + 1)) (2 * R + 1) := by
 have w : ∀ i j, i ≤ N → j ≤ N → Rg 1152921504606846976 (ent N m i j) := fun i j hi hj => by
  have := h.rg i j hi hj; unfold Rg at *; omega
 have E : ∀ a b, a ≤ N → b ≤ N → ent N (fwI N k m (N + 1)) a b = imin (ent N m a b) (lsum (ent N m a k) (ent N m k b)) := fun a b ha hb => by
  rw [fwI_ent h.len hk (h.diag k hk) (fun i hi => lsum1r (w i k hi hk)) (fun j hj => lsum1l (w k j hk hj)) (N + 1) (Nat.le_refl _) a b ha hb, if_pos (by omega)]
 have s : ∀ a b, a ≤ N → b ≤ N → ple (Y a b) (pl (lsum (ent N m a k) (ent N m k b))) := fun a b ha hb =>
  ple_trans (hy.tri a b k ha hb hk) (ple_trans (psum_mono (h.ge a k ha hk) (h.ge k b hk hb)) (pl_lsum (w a k ha hk) (w k b hk hb)))
 refine ⟨by rw [fwI_len]; exact h.len, fun i j hi hj => ?_, fun i hi => ?_, fun i j hi hj => ?_⟩
 ·rw [E i j hi hj]
  rcases imin_eq (ent N m i j) (lsum (ent N m i k) (ent N m k j)) with e | e <;> rw [e]
  ·exact h.ge i j hi hj
  ·exact s i j hi hj
 ·rw [E i i hi hi, h.diag i hi]
  refine imin_left ?_
  have t := s i i hi hi
  rw [hy.diag i hi] at t
  unfold pl at t; split at t
  ·omega
  ·exact t
 ·rw [E i j hi hj]
  rcases imin_eq (ent N m i j) (lsum (ent N m i k) (ent N m k j)) with e | e <;> rw [e]
  ·have := h.rg i j hi hj; unfold Rg at *; omega
  ·exact lsum_rg hR hR' (h.rg i k hi hk) (h.rg k j hk hj)
def rgk : Nat → Int
 | 0 => 4398046511104
 | k + 1 => 2 * rgk k + 1
theorem rgk_le (k : Nat) (hk : k ≤ 11) : 1099511627776 ≤ rgk k ∧ rgk k ≤ 1152921504606846976 := by
 have : ∀ q : Fin 12, 1099511627776 ≤ rgk q.1 ∧ rgk q.1 ≤ 1152921504606846976 := by decide
 exact this ⟨k, by omega⟩
theorem Sn.all {N : Nat} {Y : Nat → Nat → Lm} {m : List Int} (hN : N ≤ 10) (h : Sn N Y m 4398046511104) (hy : Cn N Y) (k : Nat) (hk : k ≤ N + 1) : Sn N Y (fwK N m k) (rgk k) := by
 induction k with
 | zero => exact h
 | succ k ih => exact (ih (by omega)).next hy (by omega) (rgk_le k (by omega)).1 (rgk_le k (by omega)).2
theorem OkZ.cn {N : Nat} {zs : List Int} (h : OkZ N zs) : Cn N (fun i j => pl (ent N zs i j)) := by
 refine ⟨fun i hi => ?_, fun i j k hi hj hk => ?_⟩
 ·have : ent N zs i i = 1 := h.diagN hi
  rw [this]; rfl
 ·have t : ent N zs i j ≤ lsum (ent N zs i k) (ent N zs k j) := El.gt h hi hj hk
  have a := h.elo hi hk
  have b := h.elo hk hj
  have c := h.elo hi hj
  by_cases e : ent N zs i k = 1099511627776 ∨ ent N zs k j = 1099511627776
  ·have : psum (pl (ent N zs i k)) (pl (ent N zs k j)) = none := by
    rcases e with e | e
    ·rw [e, pl_nl]; rfl
    ·rw [e, pl_nl]; cases pl (ent N zs i k) <;> rfl
   rw [this]; exact ple_none _
  ·have ha : ent N zs i k ≠ 1099511627776 := fun h => e (.inl h)
   have hb : ent N zs k j ≠ 1099511627776 := fun h => e (.inr h)
   rw [lsum_fin' ha hb (by unfold Rg; omega) (by unfold Rg; omega)] at t
   rw [pl_fin ha, pl_fin hb]
   have hc : ent N zs i j ≠ 1099511627776 := by
    intro hc; rw [hc] at t; split at t <;> omega
   rw [pl_fin hc]
   exact t
set_option linter.unusedVariables false
def Md (a : Int) : Prop := -2147483648 ≤ a ∧ a ≤ 1099511627776
theorem md_sum {a b : Int} (ha : a ≠ 1099511627776) (hb : b ≠ 1099511627776) (h1 : Md a) (h2 : Md b) : lsum a b = a + b - (if a % 2 = 0 ∧ b % 2 = 0 then 0 else 1) := by
 unfold Md at *; exact lsum_fin' ha hb (by unfold Rg; omega) (by unfold Rg; omega)
theorem lsum_fin2 {a b : Int} (ha : a ≠ 1099511627776) (hb : b ≠ 1099511627776) (h1 : -1099511627776 ≤ a ∧ a ≤ 4398046511104) (h2 : -1099511627776 ≤ b ∧ b ≤ 4398046511104) : lsum a b = a + b - (if a % 2 = 0 ∧ b % 2 = 0 then 0 else 1) :=
 lsum_fin' ha hb (by unfold Rg; omega) (by unfold Rg; omega)
theorem step_front {b p q t B : Int} (mb : Md b) (mp : Md p) (mq : Md q) (mt : Md t) (hB : B ≤ 1099511627776) (hp : p ≠ 1099511627776) (hq : q ≠ 1099511627776)
  (h2 : lsum q b < B → t ≤ lsum q b) (hs : lsum (lsum p q) b < B - 8589934592) : lsum p t ≤ lsum (lsum p q) b := by
 have e1 := md_sum hp hq mp mq
 unfold Md at *
 by_cases hb : b = 1099511627776
 ·rw [lsum_nl _ _ (.inr hb)] at hs; omega
 have x1 : lsum p q ≠ 1099511627776 := by
  intro h; rw [lsum_nl _ _ (.inl h)] at hs; omega
 have e2 := md_sum hq hb mq mb
 have e3 := lsum_fin2 x1 hb (by rw [e1]; split <;> omega) (by omega)
 have hu : lsum q b < B := by
  rw [e3, e1] at hs; rw [e2]
  split at hs <;> split at hs <;> split <;> omega
 have ht := h2 hu
 have t1 : t ≠ 1099511627776 := by omega
 rw [md_sum hp t1 mp mt, e3, e1]
 rw [e2] at ht
 split at ht <;> split <;> split <;> split <;> omega
theorem lsum_comm (a b : Int) : lsum a b = lsum b a := by
 unfold lsum
 by_cases h : a = 1099511627776 ∨ b = 1099511627776
 ·rw [if_pos h, if_pos (Or.comm.1 h)]
 ·rw [if_neg h, if_neg (fun e => h (Or.comm.1 e)), Int.add_comm b a]
  congr 2
  split <;> split <;> omega
theorem step_back {a p r t B : Int} (ma : Md a) (mp : Md p) (mr : Md r) (mt : Md t) (hB : B ≤ 1099511627776) (ht : t ≠ 1099511627776) (hr : r ≠ 1099511627776)
  (h2 : lsum a r < B → p ≤ lsum a r) (hs : lsum a (lsum r t) < B - 8589934592) : lsum p t ≤ lsum a (lsum r t) := by
 rw [lsum_comm p t, lsum_comm a (lsum r t), lsum_comm r t]
 rw [lsum_comm a (lsum r t), lsum_comm r t] at hs
 exact step_front ma mt mr mp hB ht hr (by rw [lsum_comm r a]; exact h2) hs
theorem step_both {p q r t B : Int} (mp : Md p) (mq : Md q) (mr : Md r) (mt : Md t) (hB : B ≤ 1099511627776) (hB1 : 1 ≤ B) (hp : p ≠ 1099511627776) (hq : q ≠ 1099511627776) (hr : r ≠ 1099511627776) (ht : t ≠ 1099511627776)
  (h2 : lsum q r < B → 1 ≤ lsum q r) (hs : lsum (lsum p q) (lsum r t) < B - 8589934592) : lsum p t ≤ lsum (lsum p q) (lsum r t) := by
 have e1 := md_sum hp hq mp mq
 have e2 := md_sum hr ht mr mt
 have e3 := md_sum hq hr mq mr
 have hu : 1 ≤ lsum q r := by
  by_cases h : lsum q r < B
  ·exact h2 h
  ·omega
 have x1 : lsum p q ≠ 1099511627776 := by
  intro h; rw [lsum_nl _ _ (.inl h)] at hs; omega
 have x2 : lsum r t ≠ 1099511627776 := by
  intro h; rw [lsum_nl _ _ (.inr h)] at hs; omega
 unfold Md at *
 have e4 := lsum_fin2 x1 x2 (by rw [e1]; split <;> omega) (by rw [e2]; split <;> omega)
 rw [md_sum hp ht (by unfold Md; omega) (by unfold Md; omega), e4, e1, e2]
 rw [e3] at hu
 split at hu <;> split <;> split <;> split <;> split <;> omega
theorem tri_step {a b p q r t d B : Int} (ma : Md a) (mb : Md b) (mp : Md p) (mq : Md q) (mr : Md r) (mt : Md t) (md : Md d) (hB : B ≤ 1099511627776) (hB1 : 1 ≤ B)
  (h1 : lsum a b < B → d ≤ lsum a b) (h2 : lsum q b < B → t ≤ lsum q b) (h3 : lsum a r < B → p ≤ lsum a r) (h4 : lsum q r < B → 1 ≤ lsum q r)
  (hs : lsum (imin a (lsum p q)) (imin b (lsum r t)) < B - 8589934592) : imin d (lsum p t) ≤ lsum (imin a (lsum p q)) (imin b (lsum r t)) := by
 have new : ∀ {x y z : Int}, Md x → ¬ x ≤ lsum y z → y ≠ 1099511627776 ∧ z ≠ 1099511627776 := fun {x y z} hx h => by
  unfold Md at hx
  constructor
  ·intro e; rw [lsum_nl _ _ (.inl e)] at h; omega
  ·intro e; rw [lsum_nl _ _ (.inr e)] at h; omega
 have im : ∀ {x y : Int}, ¬ x ≤ y → imin x y = y := fun {x y} h => by unfold imin; rw [if_pos (by omega)]
 by_cases c1 : a ≤ lsum p q
 ·rw [imin_left c1] at hs ⊢
  by_cases c2 : b ≤ lsum r t
  ·rw [imin_left c2] at hs ⊢
   exact Int.le_trans (imin_le_l _ _) (h1 (by omega))
  ·rw [im c2] at hs ⊢
   obtain ⟨n1, n2⟩ := new mb c2
   exact Int.le_trans (imin_le_r _ _) (step_back ma mp mr mt hB n2 n1 h3 hs)
 ·rw [im c1] at hs ⊢
  obtain ⟨n1, n2⟩ := new ma c1
  by_cases c2 : b ≤ lsum r t
  ·rw [imin_left c2] at hs ⊢
   exact Int.le_trans (imin_le_r _ _) (step_front mb mp mq mt hB n1 n2 h2 hs)
  ·rw [im c2] at hs ⊢
   obtain ⟨n3, n4⟩ := new mb c2
   exact Int.le_trans (imin_le_r _ _) (step_both mp mq mr mt hB hB1 n1 n2 n3 n4 h4 hs)
theorem gi_set_le {m : List Int} {a : Nat} {x : Int} (h : x ≤ gi m a) (b : Nat) : gi (m.set a x) b ≤ gi m b := by
 by_cases e : a = b
 ·subst e
  by_cases hl : a < m.length
  ·rw [gi_set_same hl]; exact h
  ·rw [List.set_eq_of_length_le (by omega)]; exact Int.le_refl _
 ·rw [gi_set_ne e]; exact Int.le_refl _
theorem capTo_le (N : Nat) (m : List Int) (n b : Nat) : gi (capTo N m n) b ≤ gi m b := by
 induction n with
 | zero => exact Int.le_refl _
 | succ n ih => rw [capTo]; exact Int.le_trans (gi_set_le (imin_le_l _ _) b) (Int.le_trans (gi_set_le (imin_le_l _ _) b) ih)
theorem fwJ_le (N k i : Nat) (m : List Int) (n b : Nat) : gi (fwJ N k i m n) b ≤ gi m b := by
 induction n with
 | zero => exact Int.le_refl _
 | succ n ih => rw [fwJ]; exact Int.le_trans (gi_set_le (imin_le_l _ _) b) ih
theorem fwI_le' (N k : Nat) (m : List Int) (n b : Nat) : gi (fwI N k m n) b ≤ gi m b := by
 induction n with
 | zero => exact Int.le_refl _
 | succ n ih => rw [fwI]; exact Int.le_trans (fwJ_le N k n _ _ b) ih
theorem fwK_le (N : Nat) (m : List Int) (a n b : Nat) : gi (fwK N m (a + n)) b ≤ gi (fwK N m a) b := by
 induction n with
 | zero => exact Int.le_refl _
 | succ n ih => rw [← Nat.add_assoc, fwK]; exact Int.le_trans (fwI_le' N (a + n) _ _ b) ih
theorem fw_le (N : Nat) (m : List Int) (b : Nat) : gi (fw N m) b ≤ gi m b := by
 unfold fw
 have := fwK_le N (capTo N m (N + 1)) 0 (N + 1) b
 rw [Nat.zero_add] at this
 exact Int.le_trans this (capTo_le N m _ b)
theorem closed_inv {N : Nat} {m A : List Int} (h : closedF N m = (0, A)) : A = fw N m ∧ (fw N m).all vld = true ∧ ∀ i, i ≤ N → 1 ≤ ent N (fw N m) i i := by
 unfold closedF at h
 split at h
 ·simp at h
 ·rename_i hn
  split at h
  ·rename_i hv
   simp only [Prod.mk.injEq, true_and] at h
   refine ⟨h.symm, hv, fun i hi => ?_⟩
   have hn2 : negTo N (fw N m) (N + 1) = false := by simpa using hn
   unfold negTo at hn2
   rw [List.any_eq_false] at hn2
   have := hn2 i (List.mem_range.2 (by omega))
   have e : ¬ gi (fw N m) (i * (N + 1) + i) < 1 := by simpa using this
   unfold ent; omega
  ·simp at h
theorem closed_valid {N : Nat} {m A : List Int} (hN : N ≤ 10) (hl : m.length = (N + 1) * (N + 1)) (hv : ∀ i j, i ≤ N → j ≤ N → vld (ent N m i j) = true) (h : closedF N m = (0, A)) : OkZ N A := by
 obtain ⟨hA, hall, hdg⟩ := closed_inv h
 have hfl : (fw N m).length = (N + 1) * (N + 1) := by rw [fw_len, hl]
 have C := capTo_ent hl (N + 1) (Nat.le_refl _)
 have fin : ∀ i j, i ≤ N → j ≤ N → vld (ent N (fw N m) i j) = true := fun i j hi hj => vld_gi hall (by rw [hfl]; exact idx_lt N i j hi hj)
 generalize hD : (fun k => fwK N (capTo N m (N + 1)) k) = D
 have hDk : ∀ k, D k = fwK N (capTo N m (N + 1)) k := fun k => by rw [← hD]
 have hDl : ∀ k, (D k).length = (N + 1) * (N + 1) := fun k => by rw [hDk, fwK_len, capTo_len, hl]
 have hDe : D (N + 1) = fw N m := by rw [hDk]; rfl
 have down : ∀ k i j, k ≤ N + 1 → ent N (fw N m) i j ≤ ent N (D k) i j := fun k i j hk => by
  rw [← hDe, hDk, hDk]
  have := fwK_le N (capTo N m (N + 1)) k (N + 1 - k) (i * (N + 1) + j)
  rwa [show k + (N + 1 - k) = N + 1 by omega] at this
 have up0 : ∀ k i j, ent N (D k) i j ≤ ent N (capTo N m (N + 1)) i j := fun k i j => by
  rw [hDk]
  have := fwK_le N (capTo N m (N + 1)) 0 k (i * (N + 1) + j)
  rwa [Nat.zero_add] at this
 have md : ∀ k i j, k ≤ N + 1 → i ≤ N → j ≤ N → Md (ent N (D k) i j) := fun k i j hk hi hj => by
  have h1 := down k i j hk
  have h2 := (vld_iff _).1 (fin i j hi hj)
  have h3 := Int.le_trans (up0 k i j) (capTo_le N m (N + 1) (i * (N + 1) + j))
  have h4 := vld_le (hv i j hi hj)
  unfold ent at *
  unfold Md; omega
 have dg : ∀ k i, k ≤ N + 1 → i ≤ N → ent N (D k) i i = 1 := fun k i hk hi => by
  have h1 := down k i i hk
  have h2 := hdg i hi
  have h3 := up0 k i i
  rw [C i i hi hi, if_pos (by omega)] at h3
  have h4 := imin_le_r (ent N m i i) 1
  omega
 have rg : ∀ k i j, k ≤ N + 1 → i ≤ N → j ≤ N → Rg 1152921504606846976 (ent N (D k) i j) := fun k i j hk hi hj => by
  have := md k i j hk hi hj; unfold Md at this; unfold Rg; omega
 have E : ∀ k, k ≤ N → ∀ a b, a ≤ N → b ≤ N → ent N (D (k + 1)) a b = imin (ent N (D k) a b) (lsum (ent N (D k) a k) (ent N (D k) k b)) := fun k hk a b ha hb => by
  rw [hDk (k + 1), fwK, ← hDk k, fwI_ent (hDl k) hk (dg k k (by omega) hk) (fun i hi => lsum1r (rg k i k (by omega) hi hk)) (fun j hj => lsum1l (rg k k j (by omega) hk hj)) (N + 1) (Nat.le_refl _) a b ha hb, if_pos (by omega)]
 have T : ∀ k, k ≤ N + 1 → ∀ i j l, i ≤ N → j ≤ N → l ≤ N → l < k → lsum (ent N (D k) i l) (ent N (D k) l j) < 1099511627776 - 8589934592 * (k : Int) → ent N (D k) i j ≤ lsum (ent N (D k) i l) (ent N (D k) l j) := by
  intro k
  induction k with
  | zero => intro _ i j l _ _ _ h; omega
  | succ k ih =>
   intro hk i j l hi hj hlN hlk hs
   have ih := ih (by omega)
   have hkN : k ≤ N := by omega
   rw [E k hkN i j hi hj]
   rw [E k hkN i l hi hlN, E k hkN l j hlN hj] at hs ⊢
   have hkb : (k : Int) ≤ 10 := by omega
   have e8 : 8589934592 * ((k + 1 : Nat) : Int) = 8589934592 * (k : Int) + 8589934592 := by push_cast; omega
   rw [e8] at hs
   by_cases hlk' : l = k
   ·subst hlk'
    have m1 := md l i l (by omega) hi hlN
    have m2 := md l l j (by omega) hlN hj
    have d1 := dg l l (by omega) hlN
    have r1 : lsum (ent N (D l) i l) (ent N (D l) l l) = ent N (D l) i l := by rw [d1]; exact lsum1r (rg l i l (by omega) hi hlN)
    have r2 : lsum (ent N (D l) l l) (ent N (D l) l j) = ent N (D l) l j := by rw [d1]; exact lsum1l (rg l l j (by omega) hlN hj)
    rw [r1, r2, imin_left (Int.le_refl _), imin_left (Int.le_refl _)]
    exact imin_le_r _ _
   ·have hlk2 : l < k := by omega
    exact tri_step (md k i l (by omega) hi hlN) (md k l j (by omega) hlN hj) (md k i k (by omega) hi hkN) (md k k l (by omega) hkN hlN) (md k l k (by omega) hlN hkN) (md k k j (by omega) hkN hj) (md k i j (by omega) hi hj)
     (B := 1099511627776 - 8589934592 * (k : Int)) (by omega) (by omega) (fun h => ih i j l hi hj hlN hlk2 h) (fun h => ih k j l hkN hj hlN hlk2 h) (fun h => ih i k l hi hkN hlN hlk2 h)
     (fun h => by have := ih k k l hkN hkN hlN hlk2 h; rwa [dg k k (by omega) hkN] at this) (by omega)
 rw [hA]
 refine OkZ.mk' hN hfl (fun i j hi hj => ⟨fin i j (by omega) hj, fun e => ?_, fun e => ?_⟩) (fun i j l hi hj hlN => ?_)
 ·subst e
  have := dg (N + 1) i (Nat.le_refl _) hj
  rw [hDe] at this
  exact this
 ·subst e
  show ent N (fw N m) 0 j ≤ 1
  have h3 := up0 (N + 1) 0 j
  rw [hDe, C 0 j (Nat.zero_le _) hj, if_pos (by omega)] at h3
  exact Int.le_trans h3 (imin_le_r _ _)
 ·have hi' : i ≤ N := by omega
  show ent N (fw N m) i j ≤ lsum (ent N (fw N m) i l) (ent N (fw N m) l j)
  have v1 := (vld_iff _).1 (fin i l hi' hlN)
  have v2 := (vld_iff _).1 (fin l j hlN hj)
  have v3 := (vld_iff _).1 (fin i j hi' hj)
  by_cases hn : ent N (fw N m) i l = 1099511627776 ∨ ent N (fw N m) l j = 1099511627776
  ·rw [lsum_nl _ _ hn]; omega
  ·have t := T (N + 1) (Nat.le_refl _) i j l hi' hj hlN (by omega)
   rw [hDe] at t
   refine t ?_
   rw [md_sum (fun e => hn (.inl e)) (fun e => hn (.inr e)) (by unfold Md; omega) (by unfold Md; omega)]
   have hkb : ((N + 1 : Nat) : Int) ≤ 11 := by omega
   split <;> omega
end Go.Proofs.YtfphlpglgcmljaaGreat
