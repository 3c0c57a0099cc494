/- Part of the proof of priced_covers_proved: Can, Q. -/
import Derived.Test.YtfphlpglgcmljaaGreatXvRat
namespace Go.Proofs.YtfphlpglgcmljaaGreat
open Go.RowKit
set_option linter.unusedVariables false
def ent (N : Nat) (m : List Int) (i j : Nat) : Int := gi m (i * (N + 1) + j)
def Wd (R l : Int) : Prop := l = 1099511627776 ∨ (-R ≤ l ∧ l ≤ R)
theorem Wd.mono {R R' l : Int} (h : Wd R l) (hR : R ≤ R') : Wd R' l := by
 rcases h with h | h
 ·exact .inl h
 ·exact .inr ⟨by omega, by omega⟩
theorem lsum_fin {a b : Int} (ha : a ≠ 1099511627776) (hb : b ≠ 1099511627776) (h1 : -274877906944 ≤ a) (h2 : a ≤ 274877906944) (h3 : -274877906944 ≤ b) (h4 : b ≤ 274877906944) :
  lsum a b = a + b - (if a % 2 = 0 ∧ b % 2 = 0 then 0 else 1) := by
 unfold lsum wrap64
 rw [if_neg (by omega)]
 split <;> omega
theorem lsum_mono {a b a' b' : Int} (ha : Wd 274877906944 a) (hb : Wd 274877906944 b) (ha' : Wd 274877906944 a') (hb' : Wd 274877906944 b') (h1 : a' ≤ a) (h2 : b' ≤ b) : lsum a' b' ≤ lsum a b := by
 by_cases e1 : a = 1099511627776 ∨ b = 1099511627776
 ·rw [lsum_nl a b e1]
  by_cases e2 : a' = 1099511627776 ∨ b' = 1099511627776
  ·rw [lsum_nl _ _ e2]; exact Int.le_refl _
  ·unfold Wd at ha' hb'
   rw [lsum_fin (by omega) (by omega) (by omega) (by omega) (by omega) (by omega)]
   split <;> omega
 ·unfold Wd at ha hb ha' hb'
  rw [lsum_fin (a := a) (by omega) (by omega) (by omega) (by omega) (by omega) (by omega), lsum_fin (by omega) (by omega) (by omega) (by omega) (by omega) (by omega)]
  split <;> split <;> omega
theorem lsum_assoc {a b c : Int} (ha : Wd 68719476736 a) (hb : Wd 68719476736 b) (hc : Wd 68719476736 c) : lsum (lsum a b) c = lsum a (lsum b c) := by
 by_cases e1 : a = 1099511627776
 ·rw [lsum_nl a b (.inl e1), lsum_nl _ c (.inl rfl), lsum_nl a _ (.inl e1)]
 by_cases e2 : b = 1099511627776
 ·rw [lsum_nl a b (.inr e2), lsum_nl _ c (.inl rfl), lsum_nl b c (.inl e2), lsum_nl a _ (.inr rfl)]
 by_cases e3 : c = 1099511627776
 ·rw [lsum_nl b c (.inr e3), lsum_nl _ c (.inr e3), lsum_nl a _ (.inr rfl)]
 unfold Wd at ha hb hc
 have h1 := lsum_fin (a := a) (b := b) (by omega) (by omega) (by omega) (by omega) (by omega) (by omega)
 have h2 := lsum_fin (a := b) (b := c) (by omega) (by omega) (by omega) (by omega) (by omega) (by omega)
 have p1 : (if a % 2 = 0 ∧ b % 2 = 0 then (0 : Int) else 1) = 0 ∨ (if a % 2 = 0 ∧ b % 2 = 0 then (0 : Int) else 1) = 1 := by split <;> simp
 have p2 : (if b % 2 = 0 ∧ c % 2 = 0 then (0 : Int) else 1) = 0 ∨ (if b % 2 = 0 ∧ c % 2 = 0 then (0 : Int) else 1) = 1 := by split <;> simp
 rw [lsum_fin (a := lsum a b) (b := c) (by omega) (by omega) (by omega) (by omega) (by omega) (by omega), lsum_fin (a := a) (b := lsum b c) (by omega) (by omega) (by omega) (by omega) (by omega) (by omega), h1, h2]
 clear h1 h2 p1 p2
 (repeat' split) <;> omega
theorem lsum_one_r {a : Int} (ha : Wd 274877906944 a) : lsum a 1 = a := by
 rcases ha with rfl | h
 ·exact lsum_nl _ _ (.inl rfl)
 ·rw [lsum_fin (by omega) (by omega) (by omega) (by omega) (by omega) (by omega), if_neg (by omega)]; omega
theorem lsum_one_l {a : Int} (ha : Wd 274877906944 a) : lsum 1 a = a := by
 rcases ha with rfl | h
 ·exact lsum_nl _ _ (.inr rfl)
 ·rw [lsum_fin (by omega) (by omega) (by omega) (by omega) (by omega) (by omega), if_neg (by omega)]; omega
theorem lsum_wd {R a b : Int} (hR : R ≤ 137438953472) (ha : Wd R a) (hb : Wd R b) (h0 : 0 ≤ R) : Wd (2 * R + 1) (lsum a b) := by
 by_cases e1 : a = 1099511627776 ∨ b = 1099511627776
 ·exact .inl (lsum_nl a b e1)
 ·unfold Wd at ha hb
  rw [lsum_fin (by omega) (by omega) (by omega) (by omega) (by omega) (by omega)]
  refine .inr ?_
  split <;> omega
theorem imin_le_l (x y : Int) : imin x y ≤ x := by unfold imin; split <;> omega
theorem imin_le_r (x y : Int) : imin x y ≤ y := by unfold imin; split <;> omega
theorem le_imin {x y z : Int} (h1 : z ≤ x) (h2 : z ≤ y) : z ≤ imin x y := by unfold imin; split <;> omega
theorem imin_eq (x y : Int) : imin x y = x ∨ imin x y = y := by unfold imin; split <;> simp
theorem imin_left {x y : Int} (h : x ≤ y) : imin x y = x := by unfold imin; rw [if_neg (by omega)]
theorem idx_inj {N i j a b : Nat} (hj : j ≤ N) (hb : b ≤ N) (h : i * (N + 1) + j = a * (N + 1) + b) : i = a ∧ j = b := by
 have h1 := div_idx (N := N) (i := i) hj
 have h2 := div_idx (N := N) (i := a) hb
 rw [h] at h1
 exact ⟨h1.1.symm.trans h2.1, h1.2.symm.trans h2.2⟩
theorem ent_set {N : Nat} {m : List Int} (hl : m.length = (N + 1) * (N + 1)) {i j a b : Nat} (hi : i ≤ N) (hj : j ≤ N) (hb : b ≤ N) (x : Int) :
  ent N (m.set (i * (N + 1) + j) x) a b = if a = i ∧ b = j then x else ent N m a b := by
 unfold ent
 by_cases e : a = i ∧ b = j
 ·obtain ⟨rfl, rfl⟩ := e
  rw [if_pos ⟨rfl, rfl⟩, gi_set_same (by rw [hl]; exact idx_lt N a b hi hj)]
 ·rw [if_neg e, gi_set_ne]
  intro h
  obtain ⟨h1, h2⟩ := idx_inj hj hb h
  exact e ⟨h1.symm, h2.symm⟩
theorem fwJ_ent {N k i : Nat} {m : List Int} (hl : m.length = (N + 1) * (N + 1)) (hk : k ≤ N) (hi : i ≤ N) (hkk : ent N m k k = 1) (hcol : lsum (ent N m i k) 1 = ent N m i k) (hrow : ∀ j, j ≤ N → lsum 1 (ent N m k j) = ent N m k j)
  (n : Nat) (hn : n ≤ N + 1) : ∀ a b, a ≤ N → b ≤ N → ent N (fwJ N k i m n) a b = if a = i ∧ b < n then imin (ent N m a b) (lsum (ent N m i k) (ent N m k b)) else ent N m a b := by
 induction n with
 | zero => intro a b _ _; rw [if_neg (by omega)]; rfl
 | succ n ih =>
  intro a b ha hb
  have ih := ih (by omega)
  have hlc : (fwJ N k i m n).length = (N + 1) * (N + 1) := by rw [fwJ_len]; exact hl
  show ent N ((fwJ N k i m n).set (i * (N + 1) + n) (imin (ent N (fwJ N k i m n) i n) (lsum (ent N (fwJ N k i m n) i k) (ent N (fwJ N k i m n) k n)))) a b = _
  have e1 : ent N (fwJ N k i m n) i n = ent N m i n := by rw [ih i n hi (by omega), if_neg (by omega)]
  have e2 : ent N (fwJ N k i m n) i k = ent N m i k := by
   rw [ih i k hi hk]
   split
   ·rw [hkk, hcol]; exact imin_left (Int.le_refl _)
   ·rfl
  have e3 : ent N (fwJ N k i m n) k n = ent N m k n := by rw [ih k n hk (by omega), if_neg (by omega)]
  rw [e1, e2, e3, ent_set hlc hi (by omega) hb, ih a b ha hb]
  by_cases c1 : a = i ∧ b = n
  ·obtain ⟨rfl, rfl⟩ := c1
   rw [if_pos ⟨rfl, rfl⟩, if_pos ⟨rfl, by omega⟩]
  ·rw [if_neg c1]
   by_cases c2 : a = i ∧ b < n
   ·rw [if_pos c2, if_pos ⟨c2.1, by omega⟩]
   ·rw [if_neg c2, if_neg (by omega)]
theorem fwI_ent {N k : Nat} {m : List Int} (hl : m.length = (N + 1) * (N + 1)) (hk : k ≤ N) (hkk : ent N m k k = 1) (hcol : ∀ i, i ≤ N → lsum (ent N m i k) 1 = ent N m i k) (hrow : ∀ j, j ≤ N → lsum 1 (ent N m k j) = ent N m k j)
  (n : Nat) (hn : n ≤ N + 1) : ∀ a b, a ≤ N → b ≤ N → ent N (fwI N k m n) a b = if a < n then imin (ent N m a b) (lsum (ent N m a k) (ent N m k b)) else ent N m a b := by
 induction n with
 | zero => intro a b _ _; rw [if_neg (by omega)]; rfl
 | succ n ih =>
  intro a b ha hb
  have ih := ih (by omega)
  have hlc : (fwI N k m n).length = (N + 1) * (N + 1) := by rw [fwI_len]; exact hl
  have r : ∀ j, j ≤ N → ent N (fwI N k m n) k j = ent N m k j := fun j hj => by
   rw [ih k j hk hj]; split
   ·rw [hkk, hrow j hj]; exact imin_left (Int.le_refl _)
   ·rfl
  have c : ∀ i, i ≤ N → ent N (fwI N k m n) i k = ent N m i k := fun i hi => by
   rw [ih i k hi hk]; split
   ·rw [hkk, hcol i hi]; exact imin_left (Int.le_refl _)
   ·rfl
  show ent N (fwJ N k n (fwI N k m n) (N + 1)) a b = _
  rw [fwJ_ent hlc hk (by omega) (by rw [r k hk, hkk]) (by rw [c n (by omega)]; exact hcol n (by omega)) (fun j hj => by rw [r j hj]; exact hrow j hj) (N + 1) (Nat.le_refl _) a b ha hb, c n (by omega), r b hb, ih a b ha hb]
  by_cases c1 : a = n
  ·subst c1
   rw [if_pos ⟨rfl, by omega⟩, if_neg (by omega), if_pos (by omega)]
  ·rw [if_neg (by omega)]
   by_cases c2 : a < n
   ·rw [if_pos c2, if_pos (by omega)]
   ·rw [if_neg c2, if_neg (by omega)]
structure Stg (N : Nat) (xs m : List Int) (k : Nat) (B : Int) : Prop where
 len : m.length = (N + 1) * (N + 1)
 ge : ∀ i j, i ≤ N → j ≤ N → ent N xs i j ≤ ent N m i j
 diag : ∀ i, i ≤ N → ent N m i i = 1
 row : ∀ j, j ≤ N → ent N m 0 j ≤ 1
 ub : ∀ i j, i ≤ N → j ≤ N → ent N m i j = 1099511627776 ∨ ent N m i j ≤ 2 * B + 1
 tri : ∀ q i j, q < k → i ≤ N → j ≤ N → ent N m i j ≤ lsum (ent N m i q) (ent N m q j)
theorem OkZ.elo {N : Nat} {xs : List Int} (h : OkZ N xs) {i j : Nat} (hi : i ≤ N) (hj : j ≤ N) : ent N xs i j = 1099511627776 ∨ (-2147483648 ≤ ent N xs i j ∧ ent N xs i j ≤ 2147483649) := by
 have := (h.el hi hj).val
 rwa [vld_iff] at this
theorem Stg.wd {N : Nat} {xs m : List Int} {k : Nat} {B : Int} (h : Stg N xs m k B) (hx : OkZ N xs) (hB : B ≤ 1073741824) (h0 : 0 ≤ B) {i j : Nat} (hi : i ≤ N) (hj : j ≤ N) : Wd 2147483649 (ent N m i j) := by
 have h1 := h.ub i j hi hj
 have h2 := h.ge i j hi hj
 have h3 := hx.elo hi hj
 unfold Wd; omega
theorem Stg.next {N : Nat} {xs m : List Int} {k : Nat} {B : Int} (h : Stg N xs m k B) (hx : OkZ N xs) (hk : k ≤ N) (hB : B ≤ 1073741824) (h0 : 0 ≤ B) {B' : Int} (hB' : (k = 0 ∧ B' = B) ∨ B' = 2 * B) : Stg N xs (fwI N k m (N + 1)) (k + 1) B' := by
 have w : ∀ i j, i ≤ N → j ≤ N → Wd 2147483649 (ent N m i j) := fun i j hi hj => h.wd hx hB h0 hi hj
 have w1 : ∀ i j, i ≤ N → j ≤ N → Wd 274877906944 (ent N m i j) := fun i j hi hj => (w i j hi hj).mono (by omega)
 have w2 : ∀ i j, i ≤ N → j ≤ N → Wd 68719476736 (ent N m i j) := fun i j hi hj => (w i j hi hj).mono (by omega)
 have wx : ∀ i j, i ≤ N → j ≤ N → Wd 274877906944 (ent N xs i j) := fun i j hi hj => by
  have := hx.elo hi hj; unfold Wd; omega
 have E : ∀ a b, a ≤ N → b ≤ N → ent N (fwI N k m (N + 1)) a b = imin (ent N m a b) (lsum (ent N m a k) (ent N m k b)) := fun a b ha hb => by
  rw [fwI_ent h.len hk (h.diag k hk) (fun i hi => lsum_one_r (w1 i k hi hk)) (fun j hj => lsum_one_l (w1 k j hk hj)) (N + 1) (Nat.le_refl _) a b ha hb, if_pos (by omega)]
 have s : ∀ a b, a ≤ N → b ≤ N → ent N xs a b ≤ lsum (ent N m a k) (ent N m k b) := fun a b ha hb =>
  Int.le_trans (El.gt hx ha hb hk) (lsum_mono (w1 a k ha hk) (w1 k b hk hb) (wx a k ha hk) (wx k b hk hb) (h.ge a k ha hk) (h.ge k b hk hb))
 refine ⟨by rw [fwI_len]; exact h.len, fun i j hi hj => ?_, fun i hi => ?_, fun j hj => ?_, fun i j hi hj => ?_, fun q i j hq hi hj => ?_⟩
 ·rw [E i j hi hj]; exact le_imin (h.ge i j hi hj) (s i j hi hj)
 ·rw [E i i hi hi, h.diag i hi]
  exact imin_left (by have := s i i hi hi; have e : ent N xs i i = 1 := hx.diagN hi; omega)
 ·rw [E 0 j (by omega) hj]
  exact Int.le_trans (imin_le_l _ _) (h.row j hj)
 ·rw [E i j hi hj]
  have u := h.ub i j hi hj
  rcases imin_eq (ent N m i j) (lsum (ent N m i k) (ent N m k j)) with e | e
  ·rw [e]; omega
  ·rw [e]
   have u1 := h.ub i k hi hk
   have u2 := h.ub k j hk hj
   have v1 := w i k hi hk
   have v2 := w k j hk hj
   by_cases c : ent N m i k = 1099511627776 ∨ ent N m k j = 1099511627776
   ·left; exact lsum_nl _ _ c
   ·right
    unfold Wd at v1 v2
    rw [lsum_fin (by omega) (by omega) (by omega) (by omega) (by omega) (by omega)]
    rcases hB' with ⟨rfl, rfl⟩ | rfl
    ·have u3 := h.row j hj
     split <;> omega
    ·split <;> omega
 ·have d1 : ∀ a b, a ≤ N → b ≤ N → ent N (fwI N k m (N + 1)) a b ≤ lsum (ent N m a k) (ent N m k b) := fun a b ha hb => by rw [E a b ha hb]; exact imin_le_r _ _
  have d2 : ∀ a b, a ≤ N → b ≤ N → ent N (fwI N k m (N + 1)) a b ≤ ent N m a b := fun a b ha hb => by rw [E a b ha hb]; exact imin_le_l _ _
  have ls : ∀ a b c d, a ≤ N → b ≤ N → c ≤ N → d ≤ N → Wd 68719476736 (lsum (ent N m a b) (ent N m c d)) := fun a b c d ha hb hc hd =>
   (lsum_wd (R := 2147483649) (by omega) (w a b ha hb) (w c d hc hd) (by omega)).mono (by omega)
  by_cases c : q = k
  ·subst c
   have e1 : ent N (fwI N q m (N + 1)) i q = ent N m i q := by
    rw [E i q hi hk, h.diag q hk, lsum_one_r (w1 i q hi hk)]; exact imin_left (Int.le_refl _)
   have e2 : ent N (fwI N q m (N + 1)) q j = ent N m q j := by
    rw [E q j hk hj, h.diag q hk, lsum_one_l (w1 q j hk hj)]; exact imin_left (Int.le_refl _)
   rw [e1, e2]; exact d1 i j hi hj
  ·have hqk : q < k := by omega
   have hqN : q ≤ N := by omega
   rw [E i q hi hqN, E q j hqN hj]
   rcases imin_eq (ent N m i q) (lsum (ent N m i k) (ent N m k q)) with e1 | e1 <;> rcases imin_eq (ent N m q j) (lsum (ent N m q k) (ent N m k j)) with e2 | e2 <;> rw [e1, e2]
   ·exact Int.le_trans (d2 i j hi hj) (h.tri q i j hqk hi hj)
   ·rw [← lsum_assoc (w2 i q hi hqN) (w2 q k hqN hk) (w2 k j hk hj)]
    exact Int.le_trans (d1 i j hi hj) (lsum_mono ((ls i q q k hi hqN hqN hk).mono (by omega)) (w1 k j hk hj) (w1 i k hi hk) (w1 k j hk hj) (h.tri q i k hqk hi hk) (Int.le_refl _))
   ·rw [lsum_assoc (w2 i k hi hk) (w2 k q hk hqN) (w2 q j hqN hj)]
    exact Int.le_trans (d1 i j hi hj) (lsum_mono (w1 i k hi hk) ((ls k q q j hk hqN hqN hj).mono (by omega)) (w1 i k hi hk) (w1 k j hk hj) (Int.le_refl _) (h.tri q k j hqk hk hj))
   ·have t1 : ent N m k k ≤ lsum (ent N m k q) (ent N m q k) := h.tri q k k hqk hk hk
    rw [lsum_assoc (w2 i k hi hk) (w2 k q hk hqN) (ls q k k j hqN hk hk hj), ← lsum_assoc (w2 k q hk hqN) (w2 q k hqN hk) (w2 k j hk hj)]
    have lw : Wd 274877906944 (lsum (lsum (ent N m k q) (ent N m q k)) (ent N m k j)) :=
     (lsum_wd (R := 4294967299) (by omega) ((lsum_wd (R := 2147483649) (by omega) (w k q hk hqN) (w q k hqN hk) (by omega)).mono (by omega)) ((w k j hk hj).mono (by omega)) (by omega)).mono (by omega)
    refine Int.le_trans (d1 i j hi hj) (lsum_mono (w1 i k hi hk) lw (w1 i k hi hk) (w1 k j hk hj) (Int.le_refl _) ?_)
    have t2 := lsum_mono ((ls k q q k hk hqN hqN hk).mono (by omega)) (w1 k j hk hj) (w1 k k hk hk) (w1 k j hk hj) t1 (Int.le_refl _)
    rw [h.diag k hk, lsum_one_l (w1 k j hk hj)] at t2
    exact t2
def bnd (B : Int) (k : Nat) : Int := B * 2 ^ (k - 1)
theorem bnd_step (B : Int) (k : Nat) : (k = 0 ∧ bnd B (k + 1) = bnd B k) ∨ bnd B (k + 1) = 2 * bnd B k := by
 unfold bnd
 rcases k with _ | k
 ·left; simp
 ·right
  have : k + 1 + 1 - 1 = (k + 1 - 1) + 1 := by omega
  rw [this, Int.pow_succ, ← Int.mul_assoc]; omega
theorem bnd_le (k : Nat) (hk : k ≤ 11) : 0 ≤ bnd 1048576 k ∧ bnd 1048576 k ≤ 1073741824 := by
 have : ∀ q : Fin 12, 0 ≤ bnd 1048576 q.1 ∧ bnd 1048576 q.1 ≤ 1073741824 := by decide
 exact this ⟨k, by omega⟩
theorem Stg.all {N : Nat} {xs m : List Int} (hN : N ≤ 10) (h : Stg N xs m 0 1048576) (hx : OkZ N xs) (k : Nat) (hk : k ≤ N + 1) : Stg N xs (fwK N m k) k (bnd 1048576 k) := by
 induction k with
 | zero => exact h
 | succ k ih => exact (ih (by omega)).next hx (by omega) (bnd_le k (by omega)).2 (bnd_le k (by omega)).1 (bnd_step _ k)
set_option linter.unusedVariables false
def cells2 (p : Int × Int) : List Value := [.int .i64 p.1, .int .i64 p.2]
def cells3 (c : Int × Int × Int) : List Value := [.int .i64 c.1, .int .i64 c.2.1, .int .i64 c.2.2]
def RQ (B : Nat) (w : World) (v : Value) (ps : List (Int × Int)) : Prop := RS B w v ps.length (ps.flatMap cells2)
def RK (B : Nat) (w : World) (v : Value) (cs : List (Int × Int × Int)) : Prop := RS B w v cs.length (cs.flatMap cells3)
theorem RQ.keepb {w w' : World} {v : Value} {ps : List (Int × Int)} (h : RQ w.heap.size w v ps) (hb : Below w.heap.size w w') : RQ w'.heap.size w' v ps := (RS.keep h hb).mono hb.size
theorem RK.keepb {w w' : World} {v : Value} {cs : List (Int × Int × Int)} (h : RK w.heap.size w v cs) (hb : Below w.heap.size w w') : RK w'.heap.size w' v cs := (RS.keep h hb).mono hb.size
def gq (ps : List (Int × Int)) (k : Nat) : Int × Int := ps.getD k (0, 0)
def gk (cs : List (Int × Int × Int)) (k : Nat) : Int × Int × Int := cs.getD k (0, 0, 0)
theorem flat2 (ps : List (Int × Int)) (k : Nat) (hk : k < ps.length) : (ps.flatMap cells2)[k * 2]? = some (.int .i64 (gq ps k).1) ∧ (ps.flatMap cells2)[k * 2 + 1]? = some (.int .i64 (gq ps k).2) := by
 induction ps generalizing k with
 | nil => simp at hk
 | cons p ps ih =>
  rcases k with _ | k
  ·exact ⟨rfl, rfl⟩
  ·have := ih k (by simpa using hk)
   have e : (k + 1) * 2 = k * 2 + 2 := by omega
   rw [List.flatMap_cons, e]
   exact this
theorem flat2_len (ps : List (Int × Int)) : (ps.flatMap cells2).length = ps.length * 2 := by
 induction ps with
 | nil => rfl
 | cons p ps ih => rw [List.flatMap_cons, List.length_append, ih, List.length_cons]; show 2 + _ = _; omega
theorem flat3 (cs : List (Int × Int × Int)) (k : Nat) (hk : k < cs.length) : (cs.flatMap cells3)[k * 3]? = some (.int .i64 (gk cs k).1) ∧ (cs.flatMap cells3)[k * 3 + 1]? = some (.int .i64 (gk cs k).2.1) ∧ (cs.flatMap cells3)[k * 3 + 2]? = some (.int .i64 (gk cs k).2.2) := by
 induction cs generalizing k with
 | nil => simp at hk
 | cons p ps ih =>
  rcases k with _ | k
  ·exact ⟨rfl, rfl, rfl⟩
  ·have := ih k (by simpa using hk)
   have e : (k + 1) * 3 = k * 3 + 3 := by omega
   rw [List.flatMap_cons, e]
   exact this
theorem flat3_len (cs : List (Int × Int × Int)) : (cs.flatMap cells3).length = cs.length * 3 := by
 induction cs with
 | nil => rfl
 | cons p ps ih => rw [List.flatMap_cons, List.length_append, ih, List.length_cons]; show 3 + _ = _; omega
theorem RQ.open {B : Nat} {w : World} {v : Value} {ps : List (Int × Int)} (h : RQ B w v ps) :
  ∃ ao cap, v = .slice ao ps.length cap ∧ ps.length ≤ 9223372036854775807 ∧ (0 < ps.length → ∃ b off, ao = some ⟨b, off, none⟩ ∧ b < B ∧
   ∀ k, k < ps.length → w.cell? ⟨b, off + k * 2, none⟩ = some (.int .i64 (gq ps k).1) ∧ w.cell? ⟨b, off + k * 2 + 1, none⟩ = some (.int .i64 (gq ps k).2)) := by
 have hl := RS.le h
 rcases h with ⟨rfl, h1, h2⟩ | ⟨b, off, sp, cap, rfl, h1, h2, h3, h4⟩
 ·exact ⟨none, 0, by rw [h1], hl, fun h => by omega⟩
 ·refine ⟨_, cap, rfl, hl, fun hn => ?_⟩
  obtain ⟨rfl, q, r⟩ := h4 hn
  refine ⟨b, off, rfl, q, fun k hk => ?_⟩
  obtain ⟨f1, f2⟩ := flat2 ps k hk
  rw [r (k * 2) (by rw [flat2_len]; omega), f1, Nat.add_assoc, r (k * 2 + 1) (by rw [flat2_len]; omega), f2]
  exact ⟨rfl, rfl⟩
theorem RK.open {B : Nat} {w : World} {v : Value} {cs : List (Int × Int × Int)} (h : RK B w v cs) :
  ∃ ao cap, v = .slice ao cs.length cap ∧ cs.length ≤ 9223372036854775807 ∧ (0 < cs.length → ∃ b off, ao = some ⟨b, off, none⟩ ∧ b < B ∧
   ∀ k, k < cs.length → w.cell? ⟨b, off + k * 3, none⟩ = some (.int .i64 (gk cs k).1) ∧ w.cell? ⟨b, off + k * 3 + 1, none⟩ = some (.int .i64 (gk cs k).2.1) ∧ w.cell? ⟨b, off + k * 3 + 2, none⟩ = some (.int .i64 (gk cs k).2.2)) := by
 have hl := RS.le h
 rcases h with ⟨rfl, h1, h2⟩ | ⟨b, off, sp, cap, rfl, h1, h2, h3, h4⟩
 ·exact ⟨none, 0, by rw [h1], hl, fun h => by omega⟩
 ·refine ⟨_, cap, rfl, hl, fun hn => ?_⟩
  obtain ⟨rfl, q, r⟩ := h4 hn
  refine ⟨b, off, rfl, q, fun k hk => ?_⟩
  obtain ⟨f1, f2, f3⟩ := flat3 cs k hk
  rw [r (k * 3) (by rw [flat3_len]; omega), f1, Nat.add_assoc, r (k * 3 + 1) (by rw [flat3_len]; omega), f2, Nat.add_assoc, r (k * 3 + 2) (by rw [flat3_len]; omega), f3]
  exact ⟨rfl, rfl, rfl⟩
def ck (ps : List (Int × Int)) (i : Nat) : Int × Int := if i = 0 then (0, 1) else gq ps (i - 1)
def okP (p : Int × Int) : Bool := vr p.1 p.2 && decide (0 ≤ p.1)
def dif (ps : List (Int × Int)) (i j : Nat) : (Int × Int) × Int := subR (ck ps i).1 (ck ps i).2 (ck ps j).1 (ck ps j).2
def AllP (ps : List (Int × Int)) (q : Nat) : Prop := ∀ k, k < q → okP (gq ps k) = true
def AllD (ps : List (Int × Int)) (N q : Nat) : Prop := ∀ i j, i < q → j ≤ N → (dif ps i j).2 = 0
def RowD (ps : List (Int × Int)) (i q : Nat) : Prop := ∀ j, j < q → (dif ps i j).2 = 0
theorem AllP.succ {ps : List (Int × Int)} {q : Nat} (h : AllP ps q) (h' : okP (gq ps q) = true) : AllP ps (q + 1) := fun k hk => by
 by_cases e : k = q
 ·subst e; exact h'
 ·exact h k (by omega)
theorem AllD.succ {ps : List (Int × Int)} {N q : Nat} (h : AllD ps N q) (h' : RowD ps q (N + 1)) : AllD ps N (q + 1) := fun i j hi hj => by
 by_cases e : i = q
 ·subst e; exact h' j (by omega)
 ·exact h i j (by omega) hj
theorem RowD.succ {ps : List (Int × Int)} {i q : Nat} (h : RowD ps i q) (h' : (dif ps i q).2 = 0) : RowD ps i (q + 1) := fun j hj => by
 by_cases e : j = q
 ·subst e; exact h'
 ·exact h j (by omega)
def mt (N : Nat) (xs : List Int) (ps : List (Int × Int)) (i j : Nat) : Bool := (meetR (dif ps i j).1.1 (dif ps i j).1.2 (gi xs (i * (N + 1) + j))).1
def AllM (N : Nat) (xs : List Int) (ps : List (Int × Int)) (q : Nat) : Prop := ∀ i j, i < q → j ≤ N → mt N xs ps i j = true
def RowM (N : Nat) (xs : List Int) (ps : List (Int × Int)) (i q : Nat) : Prop := ∀ j, j < q → mt N xs ps i j = true
theorem AllM.succ {N : Nat} {xs : List Int} {ps : List (Int × Int)} {q : Nat} (h : AllM N xs ps q) (h' : RowM N xs ps q (N + 1)) : AllM N xs ps (q + 1) := fun i j hi hj => by
 by_cases e : i = q
 ·subst e; exact h' j (by omega)
 ·exact h i j (by omega) hj
theorem RowM.succ {N : Nat} {xs : List Int} {ps : List (Int × Int)} {i q : Nat} (h : RowM N xs ps i q) (h' : mt N xs ps i q = true) : RowM N xs ps i (q + 1) := fun j hj => by
 by_cases e : j = q
 ·subst e; exact h'
 ·exact h j (by omega)
end Go.Proofs.YtfphlpglgcmljaaGreat
