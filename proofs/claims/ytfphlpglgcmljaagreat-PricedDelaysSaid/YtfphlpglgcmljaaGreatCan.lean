/- Closing a matrix that lies above a canonical one: the outcome is canonical, and the greatest below it. Plain Lean, no program in sight. -/
import Derived.Test.YtfphlpglgcmljaaGreatWidP
namespace Go.Proofs.YtfphlpglgcmljaaGreat
open Go.RowKit
set_option linter.unusedVariables false

/-- An element of a matrix of dimension N. -/
def ent (N : Nat) (m : List Int) (i j : Nat) : Int := gi m (i * (N + 1) + j)
/-- A limit within a range. -/
def Wd (R l : Int) : Prop := l = 1099511627776 ∨ (-R ≤ l ∧ l ≤ R)
theorem Wd.mono {R R' l : Int} (h : Wd R l) (hR : R ≤ R') : Wd R' l := by
  rcases h with h | h
  · exact .inl h
  · exact .inr ⟨by omega, by omega⟩
theorem lsum_fin {a b : Int} (ha : a ≠ 1099511627776) (hb : b ≠ 1099511627776) (h1 : -274877906944 ≤ a) (h2 : a ≤ 274877906944) (h3 : -274877906944 ≤ b) (h4 : b ≤ 274877906944) :
    lsum a b = a + b - (if a % 2 = 0 ∧ b % 2 = 0 then 0 else 1) := by
  unfold lsum wrap64
  rw [if_neg (by omega)]
  split <;> omega
theorem lsum_mono {a b a' b' : Int} (ha : Wd 274877906944 a) (hb : Wd 274877906944 b) (ha' : Wd 274877906944 a') (hb' : Wd 274877906944 b') (h1 : a' ≤ a) (h2 : b' ≤ b) : lsum a' b' ≤ lsum a b := by
  by_cases e1 : a = 1099511627776 ∨ b = 1099511627776
  · rw [lsum_nl a b e1]
    by_cases e2 : a' = 1099511627776 ∨ b' = 1099511627776
    · rw [lsum_nl _ _ e2]; exact Int.le_refl _
    · unfold Wd at ha' hb'
      rw [lsum_fin (by omega) (by omega) (by omega) (by omega) (by omega) (by omega)]
      split <;> omega
  · unfold Wd at ha hb ha' hb'
    rw [lsum_fin (a := a) (by omega) (by omega) (by omega) (by omega) (by omega) (by omega), lsum_fin (by omega) (by omega) (by omega) (by omega) (by omega) (by omega)]
    split <;> split <;> omega
theorem lsum_assoc {a b c : Int} (ha : Wd 68719476736 a) (hb : Wd 68719476736 b) (hc : Wd 68719476736 c) : lsum (lsum a b) c = lsum a (lsum b c) := by
  by_cases e1 : a = 1099511627776
  · rw [lsum_nl a b (.inl e1), lsum_nl _ c (.inl rfl), lsum_nl a _ (.inl e1)]
  by_cases e2 : b = 1099511627776
  · rw [lsum_nl a b (.inr e2), lsum_nl _ c (.inl rfl), lsum_nl b c (.inl e2), lsum_nl a _ (.inr rfl)]
  by_cases e3 : c = 1099511627776
  · rw [lsum_nl b c (.inr e3), lsum_nl _ c (.inr e3), lsum_nl a _ (.inr rfl)]
  unfold Wd at ha hb hc
  have h1 := lsum_fin (a := a) (b := b) (by omega) (by omega) (by omega) (by omega) (by omega) (by omega)
  have h2 := lsum_fin (a := b) (b := c) (by omega) (by omega) (by omega) (by omega) (by omega) (by omega)
  have p1 : (if a % 2 = 0 ∧ b % 2 = 0 then (0 : Int) else 1) = 0 ∨ (if a % 2 = 0 ∧ b % 2 = 0 then (0 : Int) else 1) = 1 := by split <;> simp
  have p2 : (if b % 2 = 0 ∧ c % 2 = 0 then (0 : Int) else 1) = 0 ∨ (if b % 2 = 0 ∧ c % 2 = 0 then (0 : Int) else 1) = 1 := by split <;> simp
  rw [lsum_fin (a := lsum a b) (b := c) (by omega) (by omega) (by omega) (by omega) (by omega) (by omega), lsum_fin (a := a) (b := lsum b c) (by omega) (by omega) (by omega) (by omega) (by omega) (by omega), h1, h2]
  clear h1 h2 p1 p2
  (repeat' split) <;> omega
theorem lsum_one_r {a : Int} (ha : Wd 274877906944 a) : lsum a 1 = a := by
  rcases ha with rfl | h
  · exact lsum_nl _ _ (.inl rfl)
  · rw [lsum_fin (by omega) (by omega) (by omega) (by omega) (by omega) (by omega), if_neg (by omega)]; omega
theorem lsum_one_l {a : Int} (ha : Wd 274877906944 a) : lsum 1 a = a := by
  rcases ha with rfl | h
  · exact lsum_nl _ _ (.inr rfl)
  · rw [lsum_fin (by omega) (by omega) (by omega) (by omega) (by omega) (by omega), if_neg (by omega)]; omega
theorem lsum_wd {R a b : Int} (hR : R ≤ 137438953472) (ha : Wd R a) (hb : Wd R b) (h0 : 0 ≤ R) : Wd (2 * R + 1) (lsum a b) := by
  by_cases e1 : a = 1099511627776 ∨ b = 1099511627776
  · exact .inl (lsum_nl a b e1)
  · unfold Wd at ha hb
    rw [lsum_fin (by omega) (by omega) (by omega) (by omega) (by omega) (by omega)]
    refine .inr ?_
    split <;> omega
theorem imin_le_l (x y : Int) : imin x y ≤ x := by unfold imin; split <;> omega
theorem imin_le_r (x y : Int) : imin x y ≤ y := by unfold imin; split <;> omega
theorem le_imin {x y z : Int} (h1 : z ≤ x) (h2 : z ≤ y) : z ≤ imin x y := by unfold imin; split <;> omega
theorem imin_eq (x y : Int) : imin x y = x ∨ imin x y = y := by unfold imin; split <;> simp
theorem imin_left {x y : Int} (h : x ≤ y) : imin x y = x := by unfold imin; rw [if_neg (by omega)]

theorem idx_inj {N i j a b : Nat} (hj : j ≤ N) (hb : b ≤ N) (h : i * (N + 1) + j = a * (N + 1) + b) : i = a ∧ j = b := by
  have h1 := div_idx (N := N) (i := i) hj
  have h2 := div_idx (N := N) (i := a) hb
  rw [h] at h1
  exact ⟨h1.1.symm.trans h2.1, h1.2.symm.trans h2.2⟩
theorem ent_set {N : Nat} {m : List Int} (hl : m.length = (N + 1) * (N + 1)) {i j a b : Nat} (hi : i ≤ N) (hj : j ≤ N) (hb : b ≤ N) (x : Int) :
    ent N (m.set (i * (N + 1) + j) x) a b = if a = i ∧ b = j then x else ent N m a b := by
  unfold ent
  by_cases e : a = i ∧ b = j
  · obtain ⟨rfl, rfl⟩ := e
    rw [if_pos ⟨rfl, rfl⟩, gi_set_same (by rw [hl]; exact idx_lt N a b hi hj)]
  · rw [if_neg e, gi_set_ne]
    intro h
    obtain ⟨h1, h2⟩ := idx_inj hj hb h
    exact e ⟨h1.symm, h2.symm⟩
/-- Row 0 and the diagonal are capped. -/
theorem capTo_ent {N : Nat} {m : List Int} (hl : m.length = (N + 1) * (N + 1)) (n : Nat) (hn : n ≤ N + 1) : ∀ a b, a ≤ N → b ≤ N →
    ent N (capTo N m n) a b = if (a = 0 ∨ a = b) ∧ b < n then imin (ent N m a b) 1 else ent N m a b := by
  induction n with
  | zero => intro a b _ _; rw [if_neg (by omega)]; rfl
  | succ n ih =>
    intro a b ha hb
    have ih := ih (by omega)
    have hlc : (capTo N m n).length = (N + 1) * (N + 1) := by rw [capTo_len]; exact hl
    have e0 : ent N (capTo N m n) 0 n = ent N m 0 n := by rw [ih 0 n (by omega) (by omega), if_neg (by omega)]
    have e0' : gi (capTo N m n) n = ent N m 0 n := by rw [← e0]; unfold ent; simp
    have e1 : ((capTo N m n).set n (imin (gi (capTo N m n) n) 1)) = ((capTo N m n).set (0 * (N + 1) + n) (imin (ent N m 0 n) 1)) := by rw [e0']; simp
    show ent N (((capTo N m n).set n (imin (gi (capTo N m n) n) 1)).set (n * (N + 1) + n) (imin (gi ((capTo N m n).set n (imin (gi (capTo N m n) n) 1)) (n * (N + 1) + n)) 1)) a b = _
    rw [e1, ent_set (by rw [List.length_set]; exact hlc) (by omega) (by omega) hb, ent_set hlc (by omega) (by omega) hb]
    have e2 : gi ((capTo N m n).set (0 * (N + 1) + n) (imin (ent N m 0 n) 1)) (n * (N + 1) + n) = ent N ((capTo N m n).set (0 * (N + 1) + n) (imin (ent N m 0 n) 1)) n n := rfl
    rw [e2, ent_set hlc (by omega) (by omega) (by omega)]
    rw [ih a b ha hb, ih n n (by omega) (by omega)]
    by_cases c1 : b = n
    · subst c1
      by_cases c2 : a = b
      · subst c2
        rw [if_pos (show a = a ∧ a = a from ⟨rfl, rfl⟩), if_pos (show (a = 0 ∨ a = a) ∧ a < a + 1 from ⟨.inr rfl, by omega⟩), if_neg (show ¬ ((a = 0 ∨ a = a) ∧ a < a) by omega)]
        by_cases c3 : a = 0
        · subst c3
          rw [if_pos (show 0 = 0 ∧ 0 = 0 from ⟨rfl, rfl⟩)]
          exact imin_left (imin_le_r _ _)
        · rw [if_neg (show ¬ (a = 0 ∧ a = a) by omega)]
      · rw [if_neg (show ¬ (a = b ∧ b = b) by omega)]
        by_cases c3 : a = 0
        · subst c3
          rw [if_pos (show 0 = 0 ∧ b = b from ⟨rfl, rfl⟩), if_pos (show (0 = 0 ∨ 0 = b) ∧ b < b + 1 from ⟨.inl rfl, by omega⟩)]
        · rw [if_neg (show ¬ (a = 0 ∧ b = b) by omega), if_neg (show ¬ ((a = 0 ∨ a = b) ∧ b < b) by omega), if_neg (show ¬ ((a = 0 ∨ a = b) ∧ b < b + 1) by omega)]
    · rw [if_neg (by omega), if_neg (by omega)]
      by_cases c2 : (a = 0 ∨ a = b) ∧ b < n
      · rw [if_pos c2, if_pos ⟨c2.1, by omega⟩]
      · rw [if_neg c2, if_neg (by omega)]
theorem fwJ_ent {N k i : Nat} {m : List Int} (hl : m.length = (N + 1) * (N + 1)) (hk : k ≤ N) (hi : i ≤ N) (hkk : ent N m k k = 1) (hcol : lsum (ent N m i k) 1 = ent N m i k) (hrow : ∀ j, j ≤ N → lsum 1 (ent N m k j) = ent N m k j)
    (n : Nat) (hn : n ≤ N + 1) : ∀ a b, a ≤ N → b ≤ N → ent N (fwJ N k i m n) a b = if a = i ∧ b < n then imin (ent N m a b) (lsum (ent N m i k) (ent N m k b)) else ent N m a b := by
  induction n with
  | zero => intro a b _ _; rw [if_neg (by omega)]; rfl
  | succ n ih =>
    intro a b ha hb
    have ih := ih (by omega)
    have hlc : (fwJ N k i m n).length = (N + 1) * (N + 1) := by rw [fwJ_len]; exact hl
    show ent N ((fwJ N k i m n).set (i * (N + 1) + n) (imin (ent N (fwJ N k i m n) i n) (lsum (ent N (fwJ N k i m n) i k) (ent N (fwJ N k i m n) k n)))) a b = _
    have e1 : ent N (fwJ N k i m n) i n = ent N m i n := by rw [ih i n hi (by omega), if_neg (by omega)]
    have e2 : ent N (fwJ N k i m n) i k = ent N m i k := by
      rw [ih i k hi hk]
      split
      · rw [hkk, hcol]; exact imin_left (Int.le_refl _)
      · rfl
    have e3 : ent N (fwJ N k i m n) k n = ent N m k n := by rw [ih k n hk (by omega), if_neg (by omega)]
    rw [e1, e2, e3, ent_set hlc hi (by omega) hb, ih a b ha hb]
    by_cases c1 : a = i ∧ b = n
    · obtain ⟨rfl, rfl⟩ := c1
      rw [if_pos ⟨rfl, rfl⟩, if_pos ⟨rfl, by omega⟩]
    · rw [if_neg c1]
      by_cases c2 : a = i ∧ b < n
      · rw [if_pos c2, if_pos ⟨c2.1, by omega⟩]
      · rw [if_neg c2, if_neg (by omega)]
theorem fwI_ent {N k : Nat} {m : List Int} (hl : m.length = (N + 1) * (N + 1)) (hk : k ≤ N) (hkk : ent N m k k = 1) (hcol : ∀ i, i ≤ N → lsum (ent N m i k) 1 = ent N m i k) (hrow : ∀ j, j ≤ N → lsum 1 (ent N m k j) = ent N m k j)
    (n : Nat) (hn : n ≤ N + 1) : ∀ a b, a ≤ N → b ≤ N → ent N (fwI N k m n) a b = if a < n then imin (ent N m a b) (lsum (ent N m a k) (ent N m k b)) else ent N m a b := by
  induction n with
  | zero => intro a b _ _; rw [if_neg (by omega)]; rfl
  | succ n ih =>
    intro a b ha hb
    have ih := ih (by omega)
    have hlc : (fwI N k m n).length = (N + 1) * (N + 1) := by rw [fwI_len]; exact hl
    have r : ∀ j, j ≤ N → ent N (fwI N k m n) k j = ent N m k j := fun j hj => by
      rw [ih k j hk hj]; split
      · rw [hkk, hrow j hj]; exact imin_left (Int.le_refl _)
      · rfl
    have c : ∀ i, i ≤ N → ent N (fwI N k m n) i k = ent N m i k := fun i hi => by
      rw [ih i k hi hk]; split
      · rw [hkk, hcol i hi]; exact imin_left (Int.le_refl _)
      · rfl
    show ent N (fwJ N k n (fwI N k m n) (N + 1)) a b = _
    rw [fwJ_ent hlc hk (by omega) (by rw [r k hk, hkk]) (by rw [c n (by omega)]; exact hcol n (by omega)) (fun j hj => by rw [r j hj]; exact hrow j hj) (N + 1) (Nat.le_refl _) a b ha hb, c n (by omega), r b hb, ih a b ha hb]
    by_cases c1 : a = n
    · subst c1
      rw [if_pos ⟨rfl, by omega⟩, if_neg (by omega), if_pos (by omega)]
    · rw [if_neg (by omega)]
      by_cases c2 : a < n
      · rw [if_pos c2, if_pos (by omega)]
      · rw [if_neg c2, if_neg (by omega)]

/-- What holds on the way, behind the first k clocks: m lies above the canonical xs, and its finite limits have constants up to B. -/
structure Stg (N : Nat) (xs m : List Int) (k : Nat) (B : Int) : Prop where
  len : m.length = (N + 1) * (N + 1)
  ge : ∀ i j, i ≤ N → j ≤ N → ent N xs i j ≤ ent N m i j
  diag : ∀ i, i ≤ N → ent N m i i = 1
  row : ∀ j, j ≤ N → ent N m 0 j ≤ 1
  ub : ∀ i j, i ≤ N → j ≤ N → ent N m i j = 1099511627776 ∨ ent N m i j ≤ 2 * B + 1
  tri : ∀ q i j, q < k → i ≤ N → j ≤ N → ent N m i j ≤ lsum (ent N m i q) (ent N m q j)
theorem OkZ.elo {N : Nat} {xs : List Int} (h : OkZ N xs) {i j : Nat} (hi : i ≤ N) (hj : j ≤ N) : ent N xs i j = 1099511627776 ∨ (-2147483648 ≤ ent N xs i j ∧ ent N xs i j ≤ 2147483649) := by
  have := (h.el hi hj).val
  rwa [vld_iff] at this
theorem Stg.wd {N : Nat} {xs m : List Int} {k : Nat} {B : Int} (h : Stg N xs m k B) (hx : OkZ N xs) (hB : B ≤ 1073741824) (h0 : 0 ≤ B) {i j : Nat} (hi : i ≤ N) (hj : j ≤ N) : Wd 2147483649 (ent N m i j) := by
  have h1 := h.ub i j hi hj
  have h2 := h.ge i j hi hj
  have h3 := hx.elo hi hj
  unfold Wd; omega
theorem Stg.next {N : Nat} {xs m : List Int} {k : Nat} {B : Int} (h : Stg N xs m k B) (hx : OkZ N xs) (hk : k ≤ N) (hB : B ≤ 1073741824) (h0 : 0 ≤ B) {B' : Int} (hB' : (k = 0 ∧ B' = B) ∨ B' = 2 * B) : Stg N xs (fwI N k m (N + 1)) (k + 1) B' := by
  have w : ∀ i j, i ≤ N → j ≤ N → Wd 2147483649 (ent N m i j) := fun i j hi hj => h.wd hx hB h0 hi hj
  have w1 : ∀ i j, i ≤ N → j ≤ N → Wd 274877906944 (ent N m i j) := fun i j hi hj => (w i j hi hj).mono (by omega)
  have w2 : ∀ i j, i ≤ N → j ≤ N → Wd 68719476736 (ent N m i j) := fun i j hi hj => (w i j hi hj).mono (by omega)
  have wx : ∀ i j, i ≤ N → j ≤ N → Wd 274877906944 (ent N xs i j) := fun i j hi hj => by
    have := hx.elo hi hj; unfold Wd; omega
  have E : ∀ a b, a ≤ N → b ≤ N → ent N (fwI N k m (N + 1)) a b = imin (ent N m a b) (lsum (ent N m a k) (ent N m k b)) := fun a b ha hb => by
    rw [fwI_ent h.len hk (h.diag k hk) (fun i hi => lsum_one_r (w1 i k hi hk)) (fun j hj => lsum_one_l (w1 k j hk hj)) (N + 1) (Nat.le_refl _) a b ha hb, if_pos (by omega)]
  have s : ∀ a b, a ≤ N → b ≤ N → ent N xs a b ≤ lsum (ent N m a k) (ent N m k b) := fun a b ha hb =>
    Int.le_trans (El.gt hx ha hb hk) (lsum_mono (w1 a k ha hk) (w1 k b hk hb) (wx a k ha hk) (wx k b hk hb) (h.ge a k ha hk) (h.ge k b hk hb))
  refine ⟨by rw [fwI_len]; exact h.len, fun i j hi hj => ?_, fun i hi => ?_, fun j hj => ?_, fun i j hi hj => ?_, fun q i j hq hi hj => ?_⟩
  · rw [E i j hi hj]; exact le_imin (h.ge i j hi hj) (s i j hi hj)
  · rw [E i i hi hi, h.diag i hi]
    exact imin_left (by have := s i i hi hi; have e : ent N xs i i = 1 := hx.diagN hi; omega)
  · rw [E 0 j (by omega) hj]
    exact Int.le_trans (imin_le_l _ _) (h.row j hj)
  · rw [E i j hi hj]
    have u := h.ub i j hi hj
    rcases imin_eq (ent N m i j) (lsum (ent N m i k) (ent N m k j)) with e | e
    · rw [e]; omega
    · rw [e]
      have u1 := h.ub i k hi hk
      have u2 := h.ub k j hk hj
      have v1 := w i k hi hk
      have v2 := w k j hk hj
      by_cases c : ent N m i k = 1099511627776 ∨ ent N m k j = 1099511627776
      · left; exact lsum_nl _ _ c
      · right
        unfold Wd at v1 v2
        rw [lsum_fin (by omega) (by omega) (by omega) (by omega) (by omega) (by omega)]
        rcases hB' with ⟨rfl, rfl⟩ | rfl
        · have u3 := h.row j hj
          split <;> omega
        · split <;> omega
  · have d1 : ∀ a b, a ≤ N → b ≤ N → ent N (fwI N k m (N + 1)) a b ≤ lsum (ent N m a k) (ent N m k b) := fun a b ha hb => by rw [E a b ha hb]; exact imin_le_r _ _
    have d2 : ∀ a b, a ≤ N → b ≤ N → ent N (fwI N k m (N + 1)) a b ≤ ent N m a b := fun a b ha hb => by rw [E a b ha hb]; exact imin_le_l _ _
    have ls : ∀ a b c d, a ≤ N → b ≤ N → c ≤ N → d ≤ N → Wd 68719476736 (lsum (ent N m a b) (ent N m c d)) := fun a b c d ha hb hc hd =>
      (lsum_wd (R := 2147483649) (by omega) (w a b ha hb) (w c d hc hd) (by omega)).mono (by omega)
    by_cases c : q = k
    · subst c
      have e1 : ent N (fwI N q m (N + 1)) i q = ent N m i q := by
        rw [E i q hi hk, h.diag q hk, lsum_one_r (w1 i q hi hk)]; exact imin_left (Int.le_refl _)
      have e2 : ent N (fwI N q m (N + 1)) q j = ent N m q j := by
        rw [E q j hk hj, h.diag q hk, lsum_one_l (w1 q j hk hj)]; exact imin_left (Int.le_refl _)
      rw [e1, e2]; exact d1 i j hi hj
    · have hqk : q < k := by omega
      have hqN : q ≤ N := by omega
      rw [E i q hi hqN, E q j hqN hj]
      rcases imin_eq (ent N m i q) (lsum (ent N m i k) (ent N m k q)) with e1 | e1 <;> rcases imin_eq (ent N m q j) (lsum (ent N m q k) (ent N m k j)) with e2 | e2 <;> rw [e1, e2]
      · exact Int.le_trans (d2 i j hi hj) (h.tri q i j hqk hi hj)
      · rw [← lsum_assoc (w2 i q hi hqN) (w2 q k hqN hk) (w2 k j hk hj)]
        exact Int.le_trans (d1 i j hi hj) (lsum_mono ((ls i q q k hi hqN hqN hk).mono (by omega)) (w1 k j hk hj) (w1 i k hi hk) (w1 k j hk hj) (h.tri q i k hqk hi hk) (Int.le_refl _))
      · rw [lsum_assoc (w2 i k hi hk) (w2 k q hk hqN) (w2 q j hqN hj)]
        exact Int.le_trans (d1 i j hi hj) (lsum_mono (w1 i k hi hk) ((ls k q q j hk hqN hqN hj).mono (by omega)) (w1 i k hi hk) (w1 k j hk hj) (Int.le_refl _) (h.tri q k j hqk hk hj))
      · have t1 : ent N m k k ≤ lsum (ent N m k q) (ent N m q k) := h.tri q k k hqk hk hk
        rw [lsum_assoc (w2 i k hi hk) (w2 k q hk hqN) (ls q k k j hqN hk hk hj), ← lsum_assoc (w2 k q hk hqN) (w2 q k hqN hk) (w2 k j hk hj)]
        have lw : Wd 274877906944 (lsum (lsum (ent N m k q) (ent N m q k)) (ent N m k j)) :=
          (lsum_wd (R := 4294967299) (by omega) ((lsum_wd (R := 2147483649) (by omega) (w k q hk hqN) (w q k hqN hk) (by omega)).mono (by omega)) ((w k j hk hj).mono (by omega)) (by omega)).mono (by omega)
        refine Int.le_trans (d1 i j hi hj) (lsum_mono (w1 i k hi hk) lw (w1 i k hi hk) (w1 k j hk hj) (Int.le_refl _) ?_)
        have t2 := lsum_mono ((ls k q q k hk hqN hqN hk).mono (by omega)) (w1 k j hk hj) (w1 k k hk hk) (w1 k j hk hj) t1 (Int.le_refl _)
        rw [h.diag k hk, lsum_one_l (w1 k j hk hj)] at t2
        exact t2
/-- The bound behind the first k clocks. -/
def bnd (B : Int) (k : Nat) : Int := B * 2 ^ (k - 1)
theorem bnd_step (B : Int) (k : Nat) : (k = 0 ∧ bnd B (k + 1) = bnd B k) ∨ bnd B (k + 1) = 2 * bnd B k := by
  unfold bnd
  rcases k with _ | k
  · left; simp
  · right
    have : k + 1 + 1 - 1 = (k + 1 - 1) + 1 := by omega
    rw [this, Int.pow_succ, ← Int.mul_assoc]; omega
theorem bnd_le (k : Nat) (hk : k ≤ 11) : 0 ≤ bnd 1048576 k ∧ bnd 1048576 k ≤ 1073741824 := by
  have : ∀ q : Fin 12, 0 ≤ bnd 1048576 q.1 ∧ bnd 1048576 q.1 ≤ 1073741824 := by decide
  exact this ⟨k, by omega⟩
theorem Stg.all {N : Nat} {xs m : List Int} (hN : N ≤ 10) (h : Stg N xs m 0 1048576) (hx : OkZ N xs) (k : Nat) (hk : k ≤ N + 1) : Stg N xs (fwK N m k) k (bnd 1048576 k) := by
  induction k with
  | zero => exact h
  | succ k ih => exact (ih (by omega)).next hx (by omega) (bnd_le k (by omega)).2 (bnd_le k (by omega)).1 (bnd_step _ k)
theorem fwI_le {N k : Nat} {m : List Int} {ys : List Int} (hl : m.length = (N + 1) * (N + 1)) (hk : k ≤ N) (hkk : ent N m k k = 1) (w : ∀ i j, i ≤ N → j ≤ N → Wd 274877906944 (ent N m i j)) (hy : OkZ N ys) (hge : ∀ i j, i ≤ N → j ≤ N → ent N ys i j ≤ ent N m i j) :
    (∀ i j, i ≤ N → j ≤ N → ent N ys i j ≤ ent N (fwI N k m (N + 1)) i j) ∧ ∀ i j, i ≤ N → j ≤ N → ent N (fwI N k m (N + 1)) i j ≤ ent N m i j := by
  have wx : ∀ i j, i ≤ N → j ≤ N → Wd 274877906944 (ent N ys i j) := fun i j hi hj => by
    have := hy.elo hi hj; unfold Wd; omega
  have E : ∀ a b, a ≤ N → b ≤ N → ent N (fwI N k m (N + 1)) a b = imin (ent N m a b) (lsum (ent N m a k) (ent N m k b)) := fun a b ha hb => by
    rw [fwI_ent hl hk hkk (fun i hi => lsum_one_r (w i k hi hk)) (fun j hj => lsum_one_l (w k j hk hj)) (N + 1) (Nat.le_refl _) a b ha hb, if_pos (by omega)]
  refine ⟨fun i j hi hj => ?_, fun i j hi hj => ?_⟩
  · rw [E i j hi hj]
    exact le_imin (hge i j hi hj) (Int.le_trans (El.gt hy hi hj hk) (lsum_mono (w i k hi hk) (w k j hk hj) (wx i k hi hk) (wx k j hk hj) (hge i k hi hk) (hge k j hk hj)))
  · rw [E i j hi hj]; exact imin_le_l _ _
theorem Stg.between {N : Nat} {xs m ys : List Int} (hN : N ≤ 10) (h : Stg N xs m 0 1048576) (hx : OkZ N xs) (hy : OkZ N ys) (hge : ∀ i j, i ≤ N → j ≤ N → ent N ys i j ≤ ent N m i j) (k : Nat) (hk : k ≤ N + 1) :
    (∀ i j, i ≤ N → j ≤ N → ent N ys i j ≤ ent N (fwK N m k) i j) ∧ ∀ i j, i ≤ N → j ≤ N → ent N (fwK N m k) i j ≤ ent N m i j := by
  induction k with
  | zero => exact ⟨hge, fun _ _ _ _ => Int.le_refl _⟩
  | succ k ih =>
    have ih := ih (by omega)
    have s := h.all hN hx k (by omega)
    have t := fwI_le (k := k) s.len (by omega) (s.diag k (by omega)) (fun i j hi hj => (s.wd hx (bnd_le k (by omega)).2 (bnd_le k (by omega)).1 hi hj).mono (by omega)) hy ih.1
    exact ⟨t.1, fun i j hi hj => Int.le_trans (t.2 i j hi hj) (ih.2 i j hi hj)⟩
/-- Closing: what comes out. -/
theorem closed_above {N : Nat} {xs m : List Int} (hN : N ≤ 10) (hx : OkZ N xs) (hl : m.length = (N + 1) * (N + 1)) (hge : ∀ i j, i ≤ N → j ≤ N → ent N xs i j ≤ ent N m i j)
    (hub : ∀ i j, i ≤ N → j ≤ N → i ≠ j → i ≠ 0 → ent N m i j = 1099511627776 ∨ ent N m i j ≤ 2097153) :
    ∃ A, closedF N m = (0, A) ∧ OkZ N A ∧ A.length = (N + 1) * (N + 1) ∧ (∀ ys, OkZ N ys → (∀ i j, i ≤ N → j ≤ N → ent N ys i j ≤ ent N m i j) → ∀ i j, i ≤ N → j ≤ N → ent N ys i j ≤ ent N A i j) ∧ ∀ i j, i ≤ N → j ≤ N → ent N A i j ≤ ent N m i j := by
  have C := capTo_ent hl (N + 1) (Nat.le_refl _)
  have above : ∀ ys, OkZ N ys → (∀ i j, i ≤ N → j ≤ N → ent N ys i j ≤ ent N m i j) → ∀ i j, i ≤ N → j ≤ N → ent N ys i j ≤ ent N (capTo N m (N + 1)) i j := fun ys hy h i j hi hj => by
    rw [C i j hi hj]
    split
    · rename_i c
      refine le_imin (h i j hi hj) ?_
      rcases c.1 with rfl | rfl
      · have := hy.rowN hj; unfold ent; rwa [Nat.zero_mul, Nat.zero_add]
      · have := hy.diagN hi; unfold ent; omega
    · exact h i j hi hj
  have S0 : Stg N xs (capTo N m (N + 1)) 0 1048576 := by
    refine ⟨by rw [capTo_len]; exact hl, above xs hx hge, fun i hi => ?_, fun j hj => ?_, fun i j hi hj => ?_, fun q _ _ hq => by omega⟩
    · have h1 := above xs hx hge i i hi hi
      have h2 : ent N xs i i = 1 := hx.diagN hi
      rw [C i i hi hi, if_pos (by omega)] at h1 ⊢
      have := imin_le_r (ent N m i i) 1
      omega
    · rw [C 0 j (by omega) hj, if_pos (by omega)]; exact imin_le_r _ _
    · rw [C i j hi hj]
      by_cases c : i = 0 ∨ i = j
      · rw [if_pos ⟨c, by omega⟩]; have := imin_le_r (ent N m i j) 1; omega
      · rw [if_neg (by omega)]
        have := hub i j hi hj (by omega) (by omega)
        omega
  have S := S0.all hN hx (N + 1) (Nat.le_refl _)
  have hb := bnd_le (N + 1) (by omega)
  have hv : ∀ i j, i ≤ N → j ≤ N → vld (ent N (fw N m) i j) = true := fun i j hi hj => by
    rw [vld_iff]
    have h1 := S.ub i j hi hj
    have h2 := S.ge i j hi hj
    have h3 := hx.elo hi hj
    show ent N (fwK N (capTo N m (N + 1)) (N + 1)) i j = _ ∨ _
    unfold fw
    omega
  have hlen : (fw N m).length = (N + 1) * (N + 1) := by rw [fw_len]; exact hl
  have hneg : negTo N (fw N m) (N + 1) = false := by
    unfold negTo
    rw [List.any_eq_false]
    intro i hi
    rw [List.mem_range] at hi
    have := S.diag i (by omega)
    have e : gi (fw N m) (i * (N + 1) + i) = 1 := this
    rw [e]; decide
  have hall : (fw N m).all vld = true := all_of_idx hlen hv
  refine ⟨fw N m, ?_, ?_, hlen, fun ys hy h => (S0.between hN hx hy (above ys hy h) (N + 1) (Nat.le_refl _)).1, fun i j hi hj => ?_⟩
  · unfold closedF; rw [hneg, hall]; simp
  · refine OkZ.mk' hN hlen (fun i j hi hj => ⟨hv i j (by omega) hj, fun e => by subst e; exact S.diag i (by omega), fun e => by subst e; exact S.row j hj⟩) (fun i j k hi hj hk => S.tri k i j (by omega) (by omega) hj)
  · refine Int.le_trans ((S0.between hN hx hx (above xs hx hge) (N + 1) (Nat.le_refl _)).2 i j hi hj) ?_
    rw [C i j hi hj]; split
    · exact imin_le_l _ _
    · exact Int.le_refl _

/-- Widening a valid zone. -/
theorem ent_widM {N : Nat} {low high xs : List Int} (hl : xs.length = (N + 1) * (N + 1)) {i j : Nat} (hi : i ≤ N) (hj : j ≤ N) : ent N (widM N low high xs) i j = if i = j then ent N xs i j else wid low high i j (ent N xs i j) := by
  unfold ent
  rw [widM_gi (by rw [hl]; exact idx_lt N i j hi hj)]
  obtain ⟨h1, h2⟩ := div_idx (N := N) (i := i) hj
  unfold widAt; rw [h1, h2]
theorem wid_ge {low high : List Int} {i j : Nat} {l : Int} (hv : vld l = true) (hr : i = 0 → l ≤ 1) : l ≤ wid low high i j l := by
  rw [vld_iff] at hv
  unfold wid
  split
  · omega
  split
  · omega
  split
  · split
    · rename_i h; exact hr h
    · omega
  split
  · omega
  · omega
theorem wid_ub {low high : List Int} {i j : Nat} {l : Int} (hi : i ≠ 0) (hc : gi low (i - 1) ≤ 1048576) (hh : 1 ≤ j → -1 ≤ gi high (j - 1)) : wid low high i j l = 1099511627776 ∨ wid low high i j l ≤ 2097153 := by
  unfold wid
  split
  · exact .inl rfl
  split
  · exact .inl rfl
  split
  · exact .inl rfl
  split
  · rename_i h; have := hh h.1; omega
  · right; omega
theorem wid_mono {low high low' high' : List Int} {i j : Nat} {l : Int} (hv : vld l = true) (hr : i = 0 → l ≤ 1) (h1 : 1 ≤ i → gi low' (i - 1) ≤ gi low (i - 1) ∧ -1 ≤ gi low' (i - 1)) (h2 : 1 ≤ j → gi high' (j - 1) ≤ gi high (j - 1) ∧ -1 ≤ gi high' (j - 1)) :
    wid low high i j l ≤ wid low' high' i j l := by
  rw [vld_iff] at hv
  unfold wid
  by_cases c0 : l = 1099511627776
  · rw [if_pos c0, if_pos c0]; exact Int.le_refl _
  rw [if_neg c0, if_neg c0]
  by_cases c1 : 1 ≤ i ∧ (gi low' (i - 1) = -1 ∨ gi low' (i - 1) < l / 2)
  · rw [if_pos c1]; repeat' split
    all_goals omega
  have d1 : ¬ (1 ≤ i ∧ (gi low (i - 1) = -1 ∨ gi low (i - 1) < l / 2)) := fun h => by have := h1 h.1; omega
  rw [if_neg c1, if_neg d1]
  by_cases c2 : 1 ≤ j ∧ gi high' (j - 1) = -1
  · rw [if_pos c2]
    by_cases hi : i = 0
    · rw [if_pos hi]
      have := hr hi
      have := h2 c2.1
      repeat' split
      all_goals omega
    · rw [if_neg hi]
      have := h2 c2.1
      repeat' split
      all_goals omega
  have d2 : ¬ (1 ≤ j ∧ gi high (j - 1) = -1) := fun h => by have := h2 h.1; omega
  rw [if_neg c2, if_neg d2]
  by_cases c3 : 1 ≤ j ∧ l / 2 < - gi high' (j - 1)
  · rw [if_pos c3]
    have := h2 c3.1
    split <;> omega
  · rw [if_neg c3]
    split
    · rename_i h; have := h2 h.1; omega
    · exact Int.le_refl _
theorem widB_ok {N : Nat} {xs low high : List Int} (h : OkZ N xs ∧ cstF N low = true ∧ cstF N high = true) :
    ∃ A, widB N xs low high = (0, A) ∧ OkZ N A ∧ A.length = xs.length ∧ (∀ ys, OkZ N ys → (∀ i j, i ≤ N → j ≤ N → ent N ys i j ≤ ent N (widM N low high xs) i j) → ∀ i j, i ≤ N → j ≤ N → ent N ys i j ≤ ent N A i j) ∧
      (∀ i j, i ≤ N → j ≤ N → ent N A i j ≤ ent N (widM N low high xs) i j) ∧ ∀ i j, i ≤ N → j ≤ N → ent N xs i j ≤ ent N A i j := by
  obtain ⟨hx, hlo, hhi⟩ := h
  have hN : N ≤ 10 := by have := hx.hi; omega
  have hlen : xs.length = (N + 1) * (N + 1) := by have := hx.len; rwa [Int.toNat_natCast] at this
  have hll := cst_len hlo
  have hlh := cst_len hhi
  have hge : ∀ i j, i ≤ N → j ≤ N → ent N xs i j ≤ ent N (widM N low high xs) i j := fun i j hi hj => by
    rw [ent_widM hlen hi hj]; split
    · exact Int.le_refl _
    · exact wid_ge (hx.el hi hj).val (hx.el hi hj).row
  have hub : ∀ i j, i ≤ N → j ≤ N → i ≠ j → i ≠ 0 → ent N (widM N low high xs) i j = 1099511627776 ∨ ent N (widM N low high xs) i j ≤ 2097153 := fun i j hi hj hne h0 => by
    rw [ent_widM hlen hi hj, if_neg hne]
    exact wid_ub h0 (cst_gi hlo (by omega)).2 (fun hj1 => (cst_gi hhi (by omega)).1)
  obtain ⟨A, h1, h2, h3, h4, h5⟩ := closed_above hN hx (m := widM N low high xs) (by rw [widM_len]; exact hlen) hge hub
  have hv : (widM N low high xs).all vld = true := by
    refine all_of_idx (N := N) (by rw [widM_len]; exact hlen) (fun i j hi hj => ?_)
    have e : gi (widM N low high xs) (i * (N + 1) + j) = ent N (widM N low high xs) i j := rfl
    rw [e, vld_iff]
    have g := hge i j hi hj
    have o := hx.elo hi hj
    by_cases c : i = j
    · subst c
      rw [ent_widM hlen hi hj, if_pos rfl]; exact o
    · by_cases c0 : i = 0
      · subst c0
        have r : ent N xs 0 j ≤ 1 := by have := hx.rowN hj; unfold ent; rwa [Nat.zero_mul, Nat.zero_add]
        have := hj
        rw [ent_widM hlen hi hj, if_neg c] at g ⊢
        unfold wid at g ⊢
        rw [if_neg (by omega), if_neg (by omega)] at g ⊢
        split
        · simp
        · split
          · rename_i h; have := (cst_gi hhi (i := j - 1) (by omega)); omega
          · omega
      · have := hub i j hi hj c c0
        omega
  refine ⟨A, ?_, h2, by rw [h3, hlen], h4, h5, h4 xs hx hge⟩
  rw [widB_yes ⟨hx, hlo, hhi⟩, ← h1, Int.toNat_natCast]
  unfold closeF
  rw [if_neg, Int.toNat_natCast]
  rw [Int.toNat_natCast, widM_len]
  intro hh
  rcases hh with hh | hh | hh
  · omega
  · exact hh hlen
  · rw [hv] at hh; cases hh
end Go.Proofs.YtfphlpglgcmljaaGreat

