/- Part of the proof of priced_covers_proved: Cpd. -/
import Derived.Test.YtfphlpglgcmljaaGreatXvCpc
namespace Go.Proofs.YtfphlpglgcmljaaGreat
open Go.RowKit
set_option linter.unusedVariables false
set_option linter.unusedSimpArgs false
def ndF (N : Nat) (rs : List Int) (j : Nat) : Int := if j = 0 then -sR rs N else gi rs (j - 1)
theorem ndF_zero (N : Nat) (rs : List Int) : ndF N rs 0 = -sR rs N := rfl
theorem ndF_succ (N : Nat) (rs : List Int) (j : Nat) : ndF N rs (j + 1) = gi rs j := by unfold ndF; rw [if_neg (by omega)]; rfl
def c0T (N : Nat) (xs : List Int) (c : Int) (rs : List Int) : Nat → Int
 | 0 => c
 | k + 1 => c0T N xs c rs k - gi rs k * lowF N xs (k + 1)
theorem cS_c0 (N : Nat) (xs : List Int) (c : Int) (rs : List Int) (u : Nat → Int) : ∀ k, cS N xs c rs u k = c0T N xs c rs k + sm (fun j => gi rs j * u (j + 1)) k
 | 0 => by show c = c + 0; omega
 | k + 1 => by
  show cS N xs c rs u k + gi rs k * (u (k + 1) - lowF N xs (k + 1)) = (c0T N xs c rs k - gi rs k * lowF N xs (k + 1)) + (sm (fun j => gi rs j * u (j + 1)) k + gi rs k * u (k + 1))
  rw [cS_c0 N xs c rs u k, Int.mul_sub]; omega
theorem cS_nd {N : Nat} {xs : List Int} {c : Int} {rs : List Int} {u : Nat → Int} (h : u 0 = 0) : cS N xs c rs u N = c0T N xs c rs N + sm (fun i => ndF N rs i * u i) (N + 1) := by
 rw [cS_c0, sm_shift]
 simp only [ndF_succ, h, Int.mul_zero, Int.zero_add]
theorem sR_sm (rs : List Int) : ∀ k, sR rs k = sm (fun j => gi rs j) k
 | 0 => rfl
 | k + 1 => by show sR rs k + _ = sm _ k + _; rw [sR_sm rs k]
theorem nd_sum (N : Nat) (rs : List Int) : sm (ndF N rs) (N + 1) = 0 := by
 rw [sm_shift, ndF_zero]
 simp only [ndF_succ]
 rw [sR_sm]
 have : (fun i => gi rs i) = gi rs := rfl
 omega
theorem sR_bd {rs : List Int} {N : Nat} (h : ∀ k, k < N → -33554432 ≤ gi rs k ∧ gi rs k ≤ 33554432) : ∀ k, k ≤ N → -(k * 33554432 : Int) ≤ sR rs k ∧ sR rs k ≤ k * 33554432
 | 0, _ => by show _ ≤ (0 : Int) ∧ (0 : Int) ≤ _; omega
 | k + 1, hk => by have := sR_bd h k (by omega); have := h k (by omega); show _ ≤ sR rs k + gi rs k ∧ sR rs k + gi rs k ≤ _; omega
theorem sm_bd {f : Nat → Int} {B : Int} : ∀ n, (∀ i, i < n → f i ≤ B) → sm f n ≤ n * B
  | 0, _ => by show (0 : Int) ≤ (0 : Nat) * B; simp
  | n + 1, h => by
    have a := sm_bd n (fun i hi => h i (by omega))
    have b := h n (by omega)
    show sm f n + f n ≤ ((n + 1 : Nat) : Int) * B
    rw [Int.natCast_add, Int.add_mul]; simp; omega
theorem ps_nn (x : Int) : 0 ≤ ps x ∧ x ≤ ps x := by unfold ps; split <;> omega
theorem pos_nn (N : Nat) (need : Nat → Int) : 0 ≤ posS N need := by
 have := sm_le (f := fun _ => 0) (g := fun j => ps (need j)) (N + 1) (fun i _ => (ps_nn _).1)
 rw [sm_zero] at this; exact this
theorem Inv.start {N : Nat} {xs rs : List Int} (c0 : Int) (hN : N ≤ 3) (hn : Near N xs) (hr : ∀ k, k < N → -33554432 ≤ gi rs k ∧ gi rs k ≤ 33554432) : Inv N xs (ndF N rs) c0 (ndF N rs) (fun _ _ => 0) c0 := by
 refine ⟨fun v => ?_, fun _ _ _ _ => Int.le_refl _, fun k i _ _ h => ?_, ?_, ⟨fun j => if j % 2 = 0 then 0 else -67108864, aok_of (fun k i hk hi _ hf => ⟨?_, fun h => ?_⟩)⟩, fun k _ => ⟨fun h => by omega, fun h => by omega, fun h => h⟩, fun k i _ _ => ?_⟩
 ·rw [sm2_zero]; omega
 ·exact absurd h (by omega)
 ·rw [sm2_zero]; omega
 ·show (if (2 * i + 1) % 2 = 0 then (0 : Int) else -67108864) ≤ (if (2 * k) % 2 = 0 then (0 : Int) else -67108864) + _
  rw [if_neg (by omega), if_pos (by omega)]
  have := hn k i hk hi hf; omega
 ·exact absurd h (by omega)
 ·have hs := sR_bd hr N (Nat.le_refl _)
  have hb : posS N (ndF N rs) ≤ ((N + 1 : Nat) : Int) * 67108864 := by
   unfold posS
   rw [sm_shift]
   have a := sm_bd (f := fun i => ps (ndF N rs (i + 1))) (B := 33554432) N (fun i hi => by
    show ps (ndF N rs (i + 1)) ≤ _
    rw [ndF_succ]; have := hr i hi; unfold ps; split <;> omega)
   have b : ps (ndF N rs 0) ≤ N * 33554432 := by rw [ndF_zero]; unfold ps; split <;> omega
   push_cast
   omega
  show (0 : Int) + _ ≤ _
  have : ((N + 1 : Nat) : Int) ≤ 4 := by omega
  omega
def ndT (need : Nat → Int) (a b : Nat) (amt : Int) : Nat → Int := upI (upI need a (need a + amt)) b (upI need a (need a + amt) b - amt)
theorem ndT_val {need : Nat → Int} {a b : Nat} {amt : Int} (h : a ≠ b) (i : Nat) : ndT need a b amt i = if i = b then need b - amt else if i = a then need a + amt else need i := by
 unfold ndT
 by_cases e : i = b
 ·subst e; rw [upI_same, upI_ne (fun c => h c.symm), if_pos rfl]
 ·rw [upI_ne e, if_neg e]
  by_cases e2 : i = a
  ·subst e2; rw [upI_same, if_pos rfl]
  ·rw [upI_ne e2, if_neg e2]
theorem sm_two {f g : Nat → Int} {a b n : Nat} (ha : a < n) (hb : b < n) (hab : a ≠ b) (h : ∀ i, i < n → i ≠ a → i ≠ b → g i = f i) : sm g n = sm f n + (g a - f a) + (g b - f b) := by
 rw [sm_one (f := fun i => if i = b then g b else f i) (g := g) n ha (fun i hi hne => by
  by_cases e : i = b
  ·subst e; rw [if_pos rfl]
  ·rw [if_neg e]; exact h i hi hne e)]
 rw [sm_one (f := f) (g := fun i => if i = b then g b else f i) n hb (fun i hi hne => by rw [if_neg hne])]
 rw [if_pos rfl, if_neg hab]; omega
theorem Inv.step {N : Nat} {xs : List Int} {need0 need : Nat → Int} {mo : Nat → Nat → Int} {c0 c : Int} {h : Nat → Int} {d rk : Nat → Nat} (hn : Near N xs) (I : Inv N xs need0 c0 need mo c) (F : Fnd N xs need mo h d rk) {e len : Nat} {wy : Nat → Nat} (W : Wy N xs need mo (pthS N xs need mo).1 e len wy) {amt : Int} (h1 : 1 ≤ amt) (h2 : amt ≤ -need (wy 0)) (h3 : amt ≤ need (wy (len - 1))) (h4 : ∀ t, t + 1 < len → t % 2 = 1 → amt ≤ mo (wy (t + 1)) (wy t)) :
  Inv N xs need0 c0 (ndT need (wy 0) (wy (len - 1)) amt) (movT wy amt mo (len - 1)) (c - (pthS N xs need mo).1 e * amt) ∧ posS N (ndT need (wy 0) (wy (len - 1)) amt) + amt ≤ posS N need := by
 obtain ⟨t1, t2⟩ := W.two
 have hle : ∀ t, t < len → wy t < N + 1 := fun t ht => by have := W.le t ht; omega
 have hab : wy 0 ≠ wy (len - 1) := fun q => by have a := W.fst.1; have b := W.lst.1; rw [q] at a; omega
 have l0 := hle 0 (by omega)
 have l1 := hle (len - 1) (by omega)
 obtain ⟨m1, m2, m3, m4⟩ := mov_bd (by omega) hle I.nn W.dis h4 (len - 1) (by omega)
 have pv : ∀ i, ndT need (wy 0) (wy (len - 1)) amt i = _ := ndT_val hab
 have va : ndT need (wy 0) (wy (len - 1)) amt (wy 0) = need (wy 0) + amt := by rw [pv, if_neg hab, if_pos rfl]
 have vb : ndT need (wy 0) (wy (len - 1)) amt (wy (len - 1)) = need (wy (len - 1)) - amt := by rw [pv, if_pos rfl]
 have vo : ∀ i, i ≠ wy 0 → i ≠ wy (len - 1) → ndT need (wy 0) (wy (len - 1)) amt i = need i := fun i c1 c2 => by rw [pv, if_neg c2, if_neg c1]
 have hpos : posS N (ndT need (wy 0) (wy (len - 1)) amt) + amt = posS N need := by
  unfold posS
  rw [sm_two (f := fun j => ps (need j)) l0 l1 hab (fun i _ c1 c2 => by show ps (ndT _ _ _ _ i) = _; rw [vo i c1 c2])]
  show _ + (ps (ndT _ _ _ _ (wy 0)) - _) + (ps (ndT _ _ _ _ (wy (len - 1))) - _) + amt = _
  rw [va, vb]
  have a := W.fst.1
  unfold ps
  rw [if_neg (show ¬ 0 < need (wy 0) + amt by omega), if_neg (show ¬ 0 < need (wy 0) by omega), if_pos W.lst.1]
  split <;> omega
 have pe : (pthS N xs need mo).1 e = (pthS N xs need mo).1 (2 * wy (len - 1) + (len - 1) % 2) := by
  rw [W.lst.2, show (len - 1) % 2 = 1 by omega]
 have p0 : (pthS N xs need mo).1 (2 * wy 0 + 0 % 2) = 0 := W.fst.2
 have hsm : sm2 (N + 1) (movT wy amt mo (len - 1)) (bF N xs) = sm2 (N + 1) mo (bF N xs) + amt * ((pthS N xs need mo).1 e - 0) := by
  rw [mov_sm (f := fun t => (pthS N xs need mo).1 (2 * wy t + t % 2)) hle (fun t ht h0 => ?_) (fun t ht h0 => ?_) (len - 1) (by omega)]
  ·show _ + amt * ((pthS N xs need mo).1 (2 * wy (len - 1) + (len - 1) % 2) - (pthS N xs need mo).1 (2 * wy 0 + 0 % 2)) = _
   rw [← pe, p0]
  ·have := (W.ev t ht h0).2.2
   show _ = (pthS N xs need mo).1 (2 * wy (t + 1) + (t + 1) % 2) - (pthS N xs need mo).1 (2 * wy t + t % 2)
   rw [h0, show (t + 1) % 2 = 1 by omega]; simp only [Nat.add_zero]; omega
  ·have := (W.od t ht h0).2
   show _ = (pthS N xs need mo).1 (2 * wy t + t % 2) - (pthS N xs need mo).1 (2 * wy (t + 1) + (t + 1) % 2)
   rw [h0, show (t + 1) % 2 = 0 by omega]; simp only [Nat.add_zero]; omega
 have newp : ∀ k i, 0 < movT wy amt mo (len - 1) k i → 0 < mo k i ∨ (k ≠ i ∧ fnF N xs k i ∧ (pthS N xs need mo).1 (2 * k) < farI ∧ (pthS N xs need mo).1 (2 * i + 1) < farI ∧ (pthS N xs need mo).1 (2 * i + 1) = (pthS N xs need mo).1 (2 * k) + bF N xs k i ∧ 0 < need0 i) := fun k i hk => by
  rcases m4 k i hk with q | ⟨t, ht, h0, rfl, rfl⟩
  ·exact Or.inl q
  ·right
   obtain ⟨e1, e2, e3⟩ := W.ev t (by omega) h0
   have g1 := W.gt t (by omega)
   have g2 := W.gt (t + 1) (by omega)
   rw [h0] at g1
   rw [show (t + 1) % 2 = 1 by omega] at g2
   refine ⟨e1, e2, g1, g2, e3, ?_⟩
   by_cases q : t + 1 = len - 1
   ·rw [q]
    have a := W.lst.1
    have b := I.sgn (wy (len - 1)) l1
    refine Classical.byContradiction fun z => ?_
    by_cases y : need0 (wy (len - 1)) = 0
    ·have := b.2.2 y; omega
    ·have := b.1 (by omega); omega
   ·have o := W.od (t + 1) (by omega) (by omega)
    exact (I.sup _ _ (hle _ (by omega)) (hle _ (by omega)) o.1).2.2.2
 refine ⟨⟨fun v => ?_, m1, fun k i hk hi hp => ?_, ?_, ?_, fun k hk => ?_, fun k i hk hi => ?_⟩, by omega⟩
 ·have q := I.flow v
  rw [mov_sm (f := fun t => v (wy t)) hle (fun t _ _ => rfl) (fun t _ _ => rfl) (len - 1) (by omega)]
  rw [sm_two (f := fun i => need i * v i) l0 l1 hab (fun i _ c1 c2 => by show ndT _ _ _ _ i * v i = _; rw [vo i c1 c2])]
  show _ + (ndT _ _ _ _ (wy 0) * v (wy 0) - _) + (ndT _ _ _ _ (wy (len - 1)) * v (wy (len - 1)) - _) + _ = _
  rw [va, vb, Int.add_mul, Int.sub_mul, Int.mul_sub]; omega
 ·rcases newp k i hp with q | ⟨q1, q2, q3, _, _, q6⟩
  ·exact I.sup k i hk hi q
  ·exact ⟨q2, q1, F.giver I (by omega) q3, q6⟩
 ·rw [I.cost, hsm, Int.sub_zero, Int.mul_comm amt]; omega
 ·obtain ⟨C, hC, hc⟩ := bound_all h (2 * (N + 1))
  refine ⟨fun v => if (pthS N xs need mo).1 v < farI then (pthS N xs need mo).1 v else h v + (2 * C + 20000000000), aok_of (fun k i hk hi hki hf => ?_)⟩
  have nb := hn k i hk hi hf
  have c1 := hc (2 * k) (by omega)
  have c2 := hc (2 * i + 1) (by omega)
  have b1 := F.bd (2 * k)
  have b2 := F.bd (2 * i + 1)
  have f1 : (pthS N xs need mo).1 (2 * k) < farI → (pthS N xs need mo).1 (2 * i + 1) ≤ (pthS N xs need mo).1 (2 * k) + bF N xs k i := F.fx _ (fwd_mem hk hi hki hf)
  have o1 : h (2 * i + 1) ≤ h (2 * k) + bF N xs k i := (F.ok _ (fwd_mem hk hi hki hf)).2.2.2
  have key : 0 < movT wy amt mo (len - 1) k i → ((pthS N xs need mo).1 (2 * i + 1) < farI → (pthS N xs need mo).1 (2 * k) ≤ (pthS N xs need mo).1 (2 * i + 1) - bF N xs k i) ∧ ((pthS N xs need mo).1 (2 * i + 1) < farI ∨ h (2 * k) ≤ h (2 * i + 1) - bF N xs k i) := fun hp => by
   rcases newp k i hp with q | ⟨_, _, q3, q4, q5, _⟩
   ·have f2 : (pthS N xs need mo).1 (2 * i + 1) < farI → (pthS N xs need mo).1 (2 * k) ≤ (pthS N xs need mo).1 (2 * i + 1) + -bF N xs k i := F.fx _ (bwd_mem hk hi hki hf q)
    have o2 : h (2 * k) ≤ h (2 * i + 1) + -bF N xs k i := (F.ok _ (bwd_mem hk hi hki hf q)).2.2.2
    exact ⟨fun z => by have := f2 z; omega, Or.inr (by omega)⟩
   ·exact ⟨fun _ => by omega, Or.inl q4⟩
  rw [far_val] at *
  refine ⟨?_, fun hp => ?_⟩
  ·show (if (pthS N xs need mo).1 (2 * i + 1) < 1152921504606846976 then _ else _) ≤ (if (pthS N xs need mo).1 (2 * k) < 1152921504606846976 then _ else _) + _
   by_cases g1 : (pthS N xs need mo).1 (2 * k) < 1152921504606846976
   ·have := f1 g1
    rw [if_pos g1, if_pos (by omega)]; omega
   ·rw [if_neg g1]
    by_cases g2 : (pthS N xs need mo).1 (2 * i + 1) < 1152921504606846976
    ·rw [if_pos g2]; omega
    ·rw [if_neg g2]; omega
  ·obtain ⟨k1, k2⟩ := key hp
   show (if (pthS N xs need mo).1 (2 * k) < 1152921504606846976 then _ else _) ≤ (if (pthS N xs need mo).1 (2 * i + 1) < 1152921504606846976 then _ else _) - _
   by_cases g1 : (pthS N xs need mo).1 (2 * i + 1) < 1152921504606846976
   ·have := k1 g1
    rw [if_pos g1, if_pos (by omega)]; omega
   ·rw [if_neg g1]
    have k3 := k2.resolve_left g1
    by_cases g2 : (pthS N xs need mo).1 (2 * k) < 1152921504606846976
    ·rw [if_pos g2]; omega
    ·rw [if_neg g2]; omega
 ·have a := I.sgn k hk
  rw [pv k]
  have w1 := W.fst.1
  have w2 := W.lst.1
  by_cases e1 : k = wy (len - 1)
  ·subst e1
   rw [if_pos rfl]
   refine ⟨fun z => ?_, fun z => ?_, fun z => ?_⟩
   ·have := a.1 z; omega
   ·omega
   ·have := a.2.2 z; omega
  ·rw [if_neg e1]
   by_cases e2 : k = wy 0
   ·subst e2
    rw [if_pos rfl]
    refine ⟨fun z => by omega, fun z => ?_, fun z => ?_⟩
    ·have := a.2.1 z; omega
    ·have := a.2.2 z; omega
   ·rw [if_neg e2]; exact a
 ·have a := (m3 k i).1
  have b := I.bd k i hk hi
  omega
theorem dual_y {N : Nat} {xs : List Int} (hz : OkZ N xs) (hn : Near N xs) (K : Nat → Prop) (U : Nat → Int) : ∃ y : Nat → Int, (∀ k j, k ≤ N → j ≤ N → K k → fnF N xs k j → y j ≤ U k + bF N xs k j) ∧ (∀ i j, i ≤ N → j ≤ N → fnF N xs i j → y j ≤ y i + bF N xs i j) ∧ ∀ j, j ≤ N → (∀ k, k ≤ N → K k → ¬ fnF N xs k j) ∨ ∃ k, k ≤ N ∧ K k ∧ fnF N xs k j ∧ y j = U k + bF N xs k j := by
 obtain ⟨C, hC, hc⟩ := bound_all U (N + 1)
 have ex : ∀ j, ∃ x : Int, j ≤ N → (∃ t, t < N + 2 ∧ (t = N + 1 ∨ (t ≤ N ∧ K t ∧ fnF N xs t j)) ∧ x = if t = N + 1 then C + 268435456 + bF N xs 0 j else U t + bF N xs t j) ∧ x ≤ C + 268435456 + bF N xs 0 j ∧ ∀ t, t ≤ N → K t → fnF N xs t j → x ≤ U t + bF N xs t j := fun j => by
  obtain ⟨i, hi, qi, hm⟩ := arg1 (fun t => t = N + 1 ∨ (t ≤ N ∧ K t ∧ fnF N xs t j)) (fun t => if t = N + 1 then C + 268435456 + bF N xs 0 j else U t + bF N xs t j) (N + 2) ⟨N + 1, by omega, Or.inl rfl⟩
  refine ⟨_, fun _ => ⟨⟨i, hi, qi, rfl⟩, ?_, fun t ht kt ft => ?_⟩⟩
  ·have := hm (N + 1) (by omega) (Or.inl rfl)
   simpa using this
  ·have := hm t (by omega) (Or.inr ⟨ht, kt, ft⟩)
   simpa [show t ≠ N + 1 by omega] using this
 obtain ⟨y, hy⟩ := Classical.axiomOfChoice ex
 refine ⟨y, fun k j hk hj kk kf => (hy j hj).2.2 k hk kk kf, fun i j hi hj hf => ?_, fun j hj => ?_⟩
 ·obtain ⟨⟨t, ht, q, e⟩, _, _⟩ := hy i hi
  obtain ⟨_, g2, g3⟩ := hy j hj
  by_cases c : t = N + 1
  ·rw [if_pos c] at e
   have := (b_tri hz (Nat.zero_le _) hj hi (b_low hz hi).1 hf).2
   omega
  ·rw [if_neg c] at e
   obtain ⟨q1, q2, q3⟩ := q.resolve_left c
   obtain ⟨r1, r2⟩ := b_tri hz q1 hj hi q3 hf
   have := g3 t q1 q2 r1
   omega
 ·by_cases ex : ∃ k, k ≤ N ∧ K k ∧ fnF N xs k j
  ·right
   obtain ⟨k, hk, kk, kf⟩ := ex
   obtain ⟨⟨t, ht, q, e⟩, g2, g3⟩ := hy j hj
   by_cases c : t = N + 1
   ·rw [if_pos c] at e
    have a1 := g3 k hk kk kf
    have a2 := hc k (by omega)
    have a3 := hn k j hk hj kf
    have a4 := hn 0 j (Nat.zero_le _) hj (b_low hz hj).1
    exact ⟨k, hk, kk, kf, by omega⟩
   ·rw [if_neg c] at e
    obtain ⟨q1, q2, q3⟩ := q.resolve_left c
    exact ⟨t, q1, q2, q3, e⟩
  ·left
   exact fun k hk kk kf => ex ⟨k, hk, kk, kf⟩
theorem Inv.least {N : Nat} {xs : List Int} {need0 need : Nat → Int} {mo : Nat → Nat → Int} {c0 c : Int} (hz : OkZ N xs) (hn : Near N xs) (I : Inv N xs need0 c0 need mo c) (h0 : ∀ i, i ≤ N → need i = 0) : (0 ≤ c ↔ ∀ u, PI N xs u → 0 ≤ c0 + sm (fun i => need0 i * u i) (N + 1)) := by
 have fl : ∀ u : Nat → Int, sm (fun i => need0 i * u i) (N + 1) = sm2 (N + 1) mo (fun k i => u i - u k) := fun u => by
  have := I.flow u
  rw [sm_congr (g := fun _ => 0) (N + 1) (fun i hi => by show need i * u i = 0; rw [h0 i (by omega), Int.zero_mul]), sm_zero] at this
  omega
 constructor
 ·intro hc u hu
  rw [fl u]
  have : sm2 (N + 1) mo (fun k i => -bF N xs k i) ≤ sm2 (N + 1) mo (fun k i => u i - u k) := sm2_le (fun k i hk hi => by
   have nn := I.nn k i hk hi
   by_cases p : 0 < mo k i
   ·have s := (I.sup k i hk hi p).1
    have := hu.2 k i (by omega) (by omega) s
    exact Int.mul_le_mul_of_nonneg_left (by omega) nn
   ·have e : mo k i = 0 := by omega
    rw [e, Int.zero_mul, Int.zero_mul]; exact Int.le_refl _)
  rw [sm2_neg] at this
  have := I.cost
  omega
 ·intro ha
  obtain ⟨h, hA⟩ := I.pot
  obtain ⟨y, y1, y2, y3⟩ := dual_y hz hn (fun k => need0 k < 0) (fun k => h (2 * k))
  have hv : PI N xs (fun j => y 0 - y j) := by
   refine ⟨by show y 0 - y 0 = 0; omega, fun i j hi hj hf => ?_⟩
   have := y2 i j hi hj hf
   show y 0 - y i - (y 0 - y j) ≤ _; omega
  have := ha _ hv
  rw [fl] at this
  rw [sm2_congr (w' := fun k i => -bF N xs k i) (mo' := mo) (fun k i hk hi => ?_), sm2_neg] at this
  ·have := I.cost; omega
  ·have nn := I.nn k i hk hi
   by_cases p : 0 < mo k i
   ·obtain ⟨s1, s2, s3, s4⟩ := I.sup k i hk hi p
    have e1 := y1 k i (by omega) (by omega) s3 s1
    have o1 : h (2 * i + 1) ≤ h (2 * k) + bF N xs k i := (hA _ (fwd_mem (by omega) (by omega) s2 s1)).2.2.2
    have o2 : h (2 * k) ≤ h (2 * i + 1) + -bF N xs k i := (hA _ (bwd_mem (by omega) (by omega) s2 s1 p)).2.2.2
    have e2 : h (2 * k) + bF N xs k i ≤ y i := by
     rcases y3 i (by omega) with q | ⟨k', q1, q2, q3, q4⟩
     ·exact absurd s1 (q k (by omega) s3)
     ·have ne : k' ≠ i := fun z => by subst z; omega
      have o3 : h (2 * i + 1) ≤ h (2 * k') + bF N xs k' i := (hA _ (fwd_mem q1 (by omega) ne q3)).2.2.2
      rw [q4]
      show _ ≤ h (2 * k') + _
      omega
    have e3 := y1 k k (by omega) (by omega) s3 (b_diag hz (by omega)).1
    rw [(b_diag hz (show k ≤ N by omega)).2] at e3
    have e4 := y2 k i (by omega) (by omega) s1
    show mo k i * (y 0 - y i - (y 0 - y k)) = _
    congr 1
    omega
   ·have e : mo k i = 0 := by omega
    rw [e, Int.zero_mul, Int.zero_mul]
theorem wU_sm {N : Nat} {rs : List Int} {a : Nat → Bool} {v : Nat → Int} (h0 : v 0 = 0) (hv : ∀ j, v j = if a j = true then 0 else 1) : ∀ k, wU rs a k = sm (fun i => ndF N rs i * v i) (k + 1)
  | 0 => by show (0 : Int) = 0 + ndF N rs 0 * v 0; rw [h0]; omega
  | k + 1 => by
    show wU rs a k + _ = sm (fun i => ndF N rs i * v i) (k + 1) + ndF N rs (k + 1) * v (k + 1)
    rw [wU_sm (N := N) h0 hv k, ndF_succ, hv (k + 1)]
    split <;> simp
open Classical in
/-- No way, but something is left: there is no least value. -/
theorem Inv.falls {N : Nat} {xs rs : List Int} {need : Nat → Int} {mo : Nat → Nat → Int} {c0 c : Int} {h : Nat → Int} {d rk : Nat → Nat} (hz : OkZ N xs) (hn : Near N xs) (I : Inv N xs (ndF N rs) c0 need mo c) (F : Fnd N xs need mo h d rk) (hE : endT need (pthS N xs need mo).1 (N + 1) < 0) (hne : ¬ ∀ i, i ≤ N → need i = 0) : Fall N xs rs := by
 have none : ∀ i, i < N + 1 → 0 < need i → ¬ (pthS N xs need mo).1 (2 * i + 1) < farI := by
  rcases endT_is need (pthS N xs need mo).1 (N + 1) with ⟨_, q⟩ | ⟨i, _, e, _⟩
  ·exact q
  ·omega
 have tot : sm need (N + 1) = 0 := by
  have q := I.flow (fun _ => 1)
  rw [sm2_congr (mo' := fun _ _ => 0) (w' := fun _ _ => 0) (fun k i _ _ => by show mo k i * (1 - 1) = 0 * 0; simp), sm2_zero] at q
  rw [sm_congr (f := fun i => need i * 1) (g := need) (N + 1) (fun i _ => by show need i * 1 = _; omega), sm_congr (f := fun i => ndF N rs i * 1) (g := ndF N rs) (N + 1) (fun i _ => by show ndF N rs i * 1 = _; omega), nd_sum] at q
  omega
 have exneg : ∃ k, k ≤ N ∧ need k < 0 := Classical.byContradiction fun q => hne (fun i hi => Classical.byContradiction fun z => by
  have hp : ∀ k, k < N + 1 → (0 : Int) ≤ need k := fun k hk => Int.not_lt.1 (fun y => q ⟨k, by omega, y⟩)
  have := sm_lt (f := fun _ => 0) (g := need) (j := i) (N + 1) (by omega) hp (by have := hp i (by omega); omega)
  rw [sm_zero] at this; omega)
 have expos : ∃ k, k ≤ N ∧ 0 < need k := Classical.byContradiction fun q => by
  obtain ⟨k, hk, kn⟩ := exneg
  have hp : ∀ k, k < N + 1 → need k ≤ 0 := fun k hk => Int.not_lt.1 (fun y => q ⟨k, by omega, y⟩)
  have := sm_lt (f := need) (g := fun _ => 0) (j := k) (N + 1) (by omega) hp kn
  rw [sm_zero] at this; omega
 -- a reached giver reaches no needy taker
 have noT : ∀ k i, k ≤ N → i ≤ N → (pthS N xs need mo).1 (2 * k) < farI → fnF N xs k i → need i ≤ 0 := fun k i hk hi hp hf => Classical.byContradiction fun z => by
  have g := F.giver I hk hp
  have si := I.sgn i (by omega)
  have ne : k ≠ i := fun e => by
   subst e
   have := si.1 g; omega
  have f1 : (pthS N xs need mo).1 (2 * i + 1) ≤ (pthS N xs need mo).1 (2 * k) + bF N xs k i := F.fx _ (fwd_mem hk hi ne hf) hp
  have nb := hn k i hk hi hf
  refine none i (by omega) (by omega) ?_
  have fb := F.bd (2 * k)
  rw [far_val] at *
  rcases fb with q | q <;> omega
 obtain ⟨S, hS⟩ : ∃ S : Nat → Prop, S = fun j => ∃ k, k ≤ N ∧ (pthS N xs need mo).1 (2 * k) < farI ∧ fnF N xs k j := ⟨_, rfl⟩
 have s0 : ¬ S 0 := fun q => by
  rw [hS] at q
  obtain ⟨k, hk, kp, kf⟩ := q
  obtain ⟨i, hi, ip⟩ := expos
  have := noT k i hk hi kp (b_tri hz hk hi (Nat.zero_le _) kf (b_low hz hi).1).1
  omega
 obtain ⟨v, hv⟩ : ∃ v : Nat → Int, v = fun j => if S j then 1 else 0 := ⟨_, rfl⟩
 have v01 : ∀ j, (S j ∧ v j = 1) ∨ (¬ S j ∧ v j = 0) := fun j => by
  rw [hv]
  by_cases q : S j
  ·left; exact ⟨q, if_pos q⟩
  ·right; exact ⟨q, if_neg q⟩
 refine ⟨fun j => decide (¬ S j), by simp [s0], fun i j hi hj ai aj hf => ?_, ?_⟩
 ·simp only [decide_eq_true_eq, decide_eq_false_iff_not, Classical.not_not] at ai aj
  rw [hS] at ai aj
  obtain ⟨k, hk, kp, kf⟩ := ai
  exact aj ⟨k, hk, kp, (b_tri hz hk hj hi kf hf).1⟩
 ·rw [wU_sm (N := N) (v := v) (by rcases v01 0 with q | q; exact absurd q.1 s0; exact q.2) (fun j => by
   rcases v01 j with q | q
   ·rw [q.2, if_neg (by simp [q.1])]
   ·rw [q.2, if_pos (by simp [q.1])])]
  rw [← I.flow v]
  have m : sm2 (N + 1) mo (fun k i => v i - v k) ≤ sm2 (N + 1) (fun _ _ => 0) (fun _ _ => 0) := sm2_le (fun k i hk hi => by
   show mo k i * (v i - v k) ≤ 0 * 0
   have nn := I.nn k i hk hi
   have key : mo k i = 0 ∨ v i - v k ≤ 0 := by
    by_cases p : 0 < mo k i
    ·right
     obtain ⟨q1, q2, q3, q4⟩ := I.sup k i hk hi p
     rcases v01 i with z | z
     ·have z1 := z.1
      rw [hS] at z1
      obtain ⟨k', hk', kp, kf⟩ := z1
      have g := F.giver I hk' kp
      have ne : k' ≠ i := fun e => by subst e; omega
      have f1 : (pthS N xs need mo).1 (2 * i + 1) ≤ (pthS N xs need mo).1 (2 * k') + bF N xs k' i := F.fx _ (fwd_mem hk' (by omega) ne kf) kp
      have nb := hn k' i hk' (by omega) kf
      have nb2 := hn k i (by omega) (by omega) q1
      have l1 : (pthS N xs need mo).1 (2 * i + 1) < farI := by
       have fb := F.bd (2 * k')
       rw [far_val] at *
       rcases fb with q | q <;> omega
      have f2 : (pthS N xs need mo).1 (2 * k) ≤ (pthS N xs need mo).1 (2 * i + 1) + -bF N xs k i := F.fx _ (bwd_mem (by omega) (by omega) q2 q1 p) l1
      have l2 : (pthS N xs need mo).1 (2 * k) < farI := by
       have fb := F.bd (2 * i + 1)
       rw [far_val] at *
       rcases fb with q | q <;> omega
      have sk : S k := by rw [hS]; exact ⟨k, by omega, l2, (b_diag hz (by omega)).1⟩
      rcases v01 k with y | y
      ·rw [z.2, y.2]; omega
      ·exact absurd sk y.1
     ·rcases v01 k with y | y <;> rw [z.2, y.2] <;> omega
    ·left; omega
   rcases key with e | e
   ·rw [e]; simp
   ·have := Int.mul_le_mul_of_nonneg_left e nn
    simpa using this)
  rw [sm2_zero] at m
  obtain ⟨k, hk, kn⟩ := exneg
  have pk : (pthS N xs need mo).1 (2 * k) < farI := by
   have a : (pthS N xs need mo).1 (2 * k) ≤ (p0F need).1 (2 * k) := rnds_le _ _ _ _
   have b : (p0F need).1 (2 * k) = 0 := by
    show (if (2 * k) % 2 = 0 ∧ need (2 * k / 2) < 0 then (0 : Int) else farI) = 0
    rw [if_pos ⟨by omega, by rw [show 2 * k / 2 = k by omega]; exact kn⟩]
   rw [far_val]; omega
  have sk : S k := by rw [hS]; exact ⟨k, hk, pk, (b_diag hz hk).1⟩
  have n := sm_lt (f := fun i => need i * v i) (g := fun _ => 0) (j := k) (N + 1) (by omega) (fun i hi => by
   show need i * v i ≤ 0
   rcases v01 i with q | q
   ·have q1 := q.1
    rw [hS] at q1
    obtain ⟨k', hk', kp, kf⟩ := q1
    have := noT k' i hk' (by omega) kp kf
    rw [q.2]; omega
   ·rw [q.2]; omega) (by
   show need k * v k < 0
   rcases v01 k with q | q
   ·rw [q.2]; omega
   ·exact absurd sk q.1)
  rw [sm_zero] at n
  omega
end Go.Proofs.YtfphlpglgcmljaaGreat
