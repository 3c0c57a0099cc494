/- A point of a widened zone is alike to one of the zone: the plain law, end. -/
import Derived.Test.YtmjpcakikflcfaaAlP
import Derived.Test.YtmjpcakikflcfaaAlW2
namespace Go.Proofs.Ytmjpcakikflcfaa
open Go.RowKit
set_option linter.unusedVariables false

/-- The constraints hold of an enlarged canonical matrix. -/
def HoldsC (c : Int) (N : Nat) (Y : Nat → Nat → Lm) (cs : List K3) : Prop := ∀ x, x ∈ cs → kOk N x = true ∧ ple (Y x.1.toNat x.2.1.toNat) (psc c x.2.2)
theorem HoldsC.append {c : Int} {N : Nat} {Y : Nat → Nat → Lm} {cs ds : List K3} (h : HoldsC c N Y cs) (k : HoldsC c N Y ds) : HoldsC c N Y (cs ++ ds) := fun x hx => by
  rcases List.mem_append.1 hx with e | e
  · exact h x e
  · exact k x e
theorem HoldsC.two {c : Int} {N : Nat} {Y : Nat → Nat → Lm} {x y : K3} (h1 : kOk N x = true ∧ ple (Y x.1.toNat x.2.1.toNat) (psc c x.2.2)) (h2 : kOk N y = true ∧ ple (Y y.1.toNat y.2.1.toNat) (psc c y.2.2)) : HoldsC c N Y [x, y] := fun z hz => by
  simp only [List.mem_cons, List.not_mem_nil, or_false] at hz
  rcases hz with rfl | rfl
  · exact h1
  · exact h2
theorem HoldsC.one {c : Int} {N : Nat} {Y : Nat → Nat → Lm} {x : K3} (h1 : kOk N x = true ∧ ple (Y x.1.toNat x.2.1.toNat) (psc c x.2.2)) : HoldsC c N Y [x] := fun z hz => by
  simp only [List.mem_cons, List.not_mem_nil, or_false] at hz
  subst hz; exact h1
theorem fl_facts {n d : Int} (hd : 1 ≤ d) : n / d * d ≤ n ∧ n < (n / d + 1) * d := ⟨Int.ediv_mul_le _ (by omega), Int.lt_ediv_add_one_mul_self _ (by omega)⟩
theorem not_mult {n d m : Int} (hv : vr n d = true) (h1 : d ≠ 1) : n ≠ m * d := by
  intro h
  obtain ⟨p1, _, _, _, p5⟩ := (vr_iff n d).1 hv
  rw [h, Int.natAbs_mul, Nat.gcd_mul_left_left] at p5
  omega
section
variable {N : Nat} {c : Int} {xs kk W : List Int} {ps : List (Int × Int)} {Y : Nat → Nat → Lm}
/-- What is known of a clock. -/
structure Clk (N : Nat) (c : Int) (kk : List Int) (ps : List (Int × Int)) (q : Nat) (n d e : Int) : Prop where
  eq : gq ps q = (n, d)
  v : vr n d = true
  n0 : 0 ≤ n
  d1 : 1 ≤ d
  cm : c = d * e
  e1 : 1 ≤ e
  x : cX c ps (q + 1) = n * e
  k0 : -1 ≤ gi kk q
  k1 : gi kk q ≤ 1048576
theorem Alk.clk (h : Alk N c xs kk W ps) {q : Nat} (hq : q < N) : ∃ e, Clk N c kk ps q (gq ps q).1 (gq ps q).2 e := by
  have hN := h.hN
  have hc := h.c1
  obtain ⟨v, p⟩ := ck_ok h.pt (i := q + 1) (by omega)
  have eck : ck ps (q + 1) = gq ps q := rfl
  rw [eck] at v p
  have dd := (vr_iff _ _).1 v
  obtain ⟨e, he⟩ := h.hdv (q + 1) (by omega)
  rw [eck] at he
  have he1 : 1 ≤ e := by
    rcases Int.lt_or_le e 1 with h1 | h1
    · exfalso
      have : (gq ps q).2 * e ≤ 0 := Int.mul_nonpos_of_nonneg_of_nonpos (by omega) (by omega)
      omega
    · exact h1
  have hb := h.b0 q hq
  refine ⟨e, rfl, v, p, by omega, he, he1, ?_, hb.1, hb.2⟩
  unfold cX
  rw [eck]
  congr 1
  rw [he]; exact Int.mul_ediv_cancel_left _ (by omega)
theorem kept_clk {q : Nat} {n d e : Int} (hq : q < N) (k : Clk N c kk ps q n d e) (hup : ple (Y (q + 1) 0) (cUp c kk ps (q + 1))) (hlo : ple (Y 0 (q + 1)) (cLo c kk ps (q + 1))) (ha : ¬ abv n d (gi kk q)) :
    0 ≤ n / d ∧ n / d ≤ 1048576 ∧ ple (Y (q + 1) 0) (some (2 * (n * e) + 1)) ∧ ple (Y 0 (q + 1)) (some (-2 * (n * e) + 1)) := by
  obtain ⟨f1, f2⟩ := fl_facts (n := n) k.d1
  have m0 : 0 ≤ n / d := Int.ediv_nonneg k.n0 (by have := k.d1; omega)
  have hk := k.k1
  unfold abv at ha
  have hle : n ≤ gi kk q * d := by
    by_cases e1 : n / d = gi kk q
    · have hd : d = 1 := Classical.not_not.1 fun h => ha (.inr ⟨e1, h⟩)
      rw [← e1, hd]; simp
    · have h1 : n / d + 1 ≤ gi kk q := by omega
      have h2 : (n / d + 1) * d ≤ gi kk q * d := Int.mul_le_mul_of_nonneg_right h1 (by have := k.d1; omega)
      omega
  have hx : n * e ≤ gi kk q * c := by
    have h2 : n * e ≤ gi kk q * d * e := Int.mul_le_mul_of_nonneg_right hle (by have := k.e1; omega)
    rw [k.cm, ← Int.mul_assoc]; exact h2
  have hL : cvL c kk q = gi kk q * c := by unfold cvL; rw [if_neg (by omega)]
  refine ⟨m0, by omega, ?_, ?_⟩
  · unfold cUp at hup
    rw [if_neg (by omega), Nat.add_sub_cancel, k.x, hL, if_pos hx] at hup
    exact hup
  · unfold cLo at hlo
    rw [if_neg (by omega), Nat.add_sub_cancel, k.x, hL, if_neg (by omega)] at hlo
    exact hlo
theorem above_clk {q : Nat} {n d e : Int} (hq : q < N) (k : Clk N c kk ps q n d e) (hlo : ple (Y 0 (q + 1)) (cLo c kk ps (q + 1))) (ha : abv n d (gi kk q)) (h0 : 0 ≤ gi kk q) :
    HoldsC c N Y [(0, (q : Int) + 1, -2 * gi kk q)] := by
  obtain ⟨f1, f2⟩ := fl_facts (n := n) k.d1
  have hk := k.k1
  have hlt : gi kk q * d < n := by
    rcases ha with h1 | ⟨h1, h2⟩
    · have h3 : (gi kk q + 1) * d ≤ n / d * d := Int.mul_le_mul_of_nonneg_right (by omega) (by have := k.d1; omega)
      rw [Int.add_mul] at h3
      have := k.d1
      omega
    · rw [h1] at f1
      have := not_mult (m := gi kk q) k.v h2
      omega
  have hx : gi kk q * c < n * e := by
    have h2 : gi kk q * d * e < n * e := Int.mul_lt_mul_of_pos_right hlt (by have := k.e1; omega)
    rw [k.cm, ← Int.mul_assoc]; exact h2
  have hL : cvL c kk q = gi kk q * c := by unfold cvL; rw [if_neg (by omega)]
  unfold cLo at hlo
  rw [if_neg (by omega), Nat.add_sub_cancel, k.x, hL, if_pos hx] at hlo
  refine HoldsC.one ⟨kok1 hq (by omega) (by omega), ?_⟩
  show ple (Y (0 : Int).toNat ((q : Int) + 1).toNat) (psc c (-2 * gi kk q))
  rw [show ((q : Int) + 1).toNat = q + 1 by omega, psc_fin (by omega)]
  have : sc c (-2 * gi kk q) = -2 * (gi kk q * c) := by
    unfold sc
    rw [show -2 * gi kk q / 2 = - gi kk q by omega, Int.neg_mul]; omega
  rw [this]; exact hlo
theorem sc_odd (c m : Int) : sc c (2 * m + 1) = 2 * (m * c) + 1 := by
  unfold sc; rw [show (2 * m + 1) / 2 = m by omega]; omega
theorem sc_even (c m : Int) : sc c (2 * m) = 2 * (m * c) := by
  unfold sc; rw [show (2 * m) / 2 = m by omega]; omega
theorem whole_clk {q : Nat} {n d e : Int} (hq : q < N) (k : Clk N c kk ps q n d e) (hup : ple (Y (q + 1) 0) (cUp c kk ps (q + 1))) (hlo : ple (Y 0 (q + 1)) (cLo c kk ps (q + 1))) (ha : ¬ abv n d (gi kk q)) (hd : d = 1) :
    HoldsC c N Y [((q : Int) + 1, 0, 2 * (n / d) + 1), (0, (q : Int) + 1, -2 * (n / d) + 1)] := by
  obtain ⟨m0, m1, u, l⟩ := kept_clk hq k hup hlo ha
  have hc := k.cm
  subst hd
  have en : n / 1 = n := Int.ediv_one n
  rw [en] at m0 m1 ⊢
  have ec : c = e := by rw [hc, Int.one_mul]
  have tn : ((q : Int) + 1).toNat = q + 1 := by omega
  refine HoldsC.two ⟨kok0 hq (by omega) (by omega), ?_⟩ ⟨kok1 hq (by omega) (by omega), ?_⟩
  · show ple (Y ((q : Int) + 1).toNat (0 : Int).toNat) (psc c (2 * n + 1))
    rw [tn, psc_fin (by omega), sc_odd, ec]; exact u
  · show ple (Y (0 : Int).toNat ((q : Int) + 1).toNat) (psc c (-2 * n + 1))
    rw [tn, psc_fin (by omega), show -2 * n + 1 = 2 * (-n) + 1 by omega, sc_odd, ec, Int.neg_mul, show 2 * -(n * e) + 1 = -2 * (n * e) + 1 by omega]; exact l
theorem part_bd {q : Nat} {n d e : Int} (k : Clk N c kk ps q n d e) : n / d * c ≤ n * e ∧ n * e < (n / d + 1) * c ∧ (n - n / d * d) * e = n * e - n / d * c ∧ (d ≠ 1 → n / d * c < n * e) := by
  obtain ⟨f1, f2⟩ := fl_facts (n := n) k.d1
  have he := k.e1
  have h1 : n / d * d * e ≤ n * e := Int.mul_le_mul_of_nonneg_right f1 (by omega)
  have h2 : n * e < (n / d + 1) * d * e := Int.mul_lt_mul_of_pos_right f2 (by omega)
  refine ⟨by rw [k.cm, ← Int.mul_assoc]; exact h1, by rw [k.cm, ← Int.mul_assoc]; exact h2, by rw [Int.sub_mul, k.cm, Int.mul_assoc], fun hd => ?_⟩
  have h3 : n / d * d < n := by have := not_mult (m := n / d) k.v hd; omega
  have h4 : n / d * d * e < n * e := Int.mul_lt_mul_of_pos_right h3 (by omega)
  rw [k.cm, ← Int.mul_assoc]; exact h4
theorem frac_clk {q : Nat} {n d e : Int} (hq : q < N) (k : Clk N c kk ps q n d e) (hup : ple (Y (q + 1) 0) (cUp c kk ps (q + 1))) (hlo : ple (Y 0 (q + 1)) (cLo c kk ps (q + 1))) (ha : ¬ abv n d (gi kk q)) (hd : d ≠ 1) :
    HoldsC c N Y [((q : Int) + 1, 0, 2 * (n / d) + 2), (0, (q : Int) + 1, -2 * (n / d))] := by
  obtain ⟨m0, m1, u, l⟩ := kept_clk hq k hup hlo ha
  obtain ⟨b1, b2, _, b4⟩ := part_bd k
  have b4 := b4 hd
  have tn : ((q : Int) + 1).toNat = q + 1 := by omega
  refine HoldsC.two ⟨kok0 hq (by omega) (by omega), ?_⟩ ⟨kok1 hq (by omega) (by omega), ?_⟩
  · show ple (Y ((q : Int) + 1).toNat (0 : Int).toNat) (psc c (2 * (n / d) + 2))
    rw [tn, psc_fin (by omega), show 2 * (n / d) + 2 = 2 * (n / d + 1) by omega, sc_even]
    exact ple_trans u (show 2 * (n * e) + 1 ≤ 2 * ((n / d + 1) * c) by omega)
  · show ple (Y (0 : Int).toNat ((q : Int) + 1).toNat) (psc c (-2 * (n / d)))
    rw [tn, psc_fin (by omega), show -2 * (n / d) = 2 * (-(n / d)) by omega, sc_even, Int.neg_mul]
    exact ple_trans l (show -2 * (n * e) + 1 ≤ 2 * -(n / d * c) by omega)
theorem kok2 {q r : Nat} {L : Int} (hq : q < N) (hr : r < N) (h1 : -2147483648 ≤ L) (h2 : L ≤ 2147483649) : kOk N ((q : Int) + 1, (r : Int) + 1, L) = true := (kOk_iff N _ _ _).2 ⟨by omega, by omega, by omega, by omega, (vld_iff L).2 (.inr ⟨h1, h2⟩)⟩
theorem ord_clk {q r : Nat} {n d e n' d' e' : Int} {l : List K3} (hy : Cn N Y) (hq : q < N) (hr : r < N) (k : Clk N c kk ps q n d e) (k' : Clk N c kk ps r n' d' e') (hup : ∀ i, i ≤ N → ple (Y i 0) (cUp c kk ps i)) (hlo : ∀ i, i ≤ N → ple (Y 0 i) (cLo c kk ps i))
    (ha : ¬ abv n d (gi kk q)) (ho : OrdK q r n d n' d' (gi kk r) l) : HoldsC c N Y l := by
  obtain ⟨m0, m1, u, lw⟩ := kept_clk hq k (hup _ hq) (hlo _ hq) ha
  obtain ⟨m0', m1', u', lw'⟩ := kept_clk hr k' (hup _ hr) (hlo _ hr) ho.1
  obtain ⟨b1, b2, b3, _⟩ := part_bd k
  obtain ⟨b1', b2', b3', _⟩ := part_bd k'
  have he := k.e1
  have he' := k'.e1
  obtain ⟨_, ho2⟩ := ho
  have hc := k.cm
  have hc' := k'.cm
  have tn : ((q : Int) + 1).toNat = q + 1 := by omega
  have tr : ((r : Int) + 1).toNat = r + 1 := by omega
  have hcp : 0 < c := by rw [hc]; exact Int.mul_pos (by have := k.d1; omega) (by omega)
  have y1 : ple (Y (q + 1) (r + 1)) (some (2 * (n * e - n' * e') + 1)) := by
    refine ple_trans (hy.tri (q + 1) (r + 1) 0 hq hr (Nat.zero_le _)) (ple_trans (psum_mono u lw') ?_)
    simp only [psum, ple]; split <;> omega
  have y2 : ple (Y (r + 1) (q + 1)) (some (2 * (n' * e' - n * e) + 1)) := by
    refine ple_trans (hy.tri (r + 1) (q + 1) 0 hr hq (Nat.zero_le _)) (ple_trans (psum_mono u' lw) ?_)
    simp only [psum, ple]; split <;> omega
  have k1 : (n - n / d * d) * d' * (e * e') = (n * e - n / d * c) * c := by
    have : (n - n / d * d) * d' * (e * e') = ((n - n / d * d) * e) * (d' * e') := by ac_rfl
    rw [this, b3, ← hc']
  have k2 : (n' - n' / d' * d') * d * (e * e') = (n' * e' - n' / d' * c) * c := by
    have : (n' - n' / d' * d') * d * (e * e') = ((n' - n' / d' * d') * e') * (d * e) := by ac_rfl
    rw [this, b3', ← hc]
  have hee : 0 < e * e' := Int.mul_pos (by omega) (by omega)
  have hD : (n / d - n' / d') * c = n / d * c - n' / d' * c := Int.sub_mul _ _ _
  have hD1 : (n / d - n' / d' + 1) * c = n / d * c - n' / d' * c + c := by rw [Int.add_mul, hD, Int.one_mul]
  have hD2 : (-(n / d - n' / d')) * c = -(n / d * c - n' / d' * c) := by rw [Int.neg_mul, hD]
  have hD3 : (-(n / d - n' / d') + 1) * c = -(n / d * c - n' / d' * c) + c := by rw [Int.add_mul, hD2, Int.one_mul]
  rw [Int.add_mul, Int.one_mul] at b2 b2'
  generalize (n - n / d * d) * d' = U at *
  generalize (n' - n' / d' * d') * d = V at *
  generalize hFa : n * e = X at *
  generalize hFb : n' * e' = X' at *
  generalize n / d * c = P at *
  generalize n' / d' * c = P' at *
  generalize n / d = m at *
  generalize n' / d' = m' at *
  rcases ho2 with ⟨o, rfl⟩ | ⟨o, rfl⟩ | ⟨o, rfl⟩
  · have hF : X - P = X' - P' := by
      rw [o, k2] at k1
      exact (Int.eq_of_mul_eq_mul_right (by omega) k1).symm
    refine HoldsC.two ⟨kok2 hq hr (by omega) (by omega), ?_⟩ ⟨kok2 hr hq (by omega) (by omega), ?_⟩
    · show ple (Y ((q : Int) + 1).toNat ((r : Int) + 1).toNat) (psc c (2 * (m - m') + 1))
      rw [tn, tr, psc_fin (by omega), sc_odd, hD]
      exact ple_trans y1 (show 2 * (X - X') + 1 ≤ 2 * (P - P') + 1 by omega)
    · show ple (Y ((r : Int) + 1).toNat ((q : Int) + 1).toNat) (psc c (-2 * (m - m') + 1))
      rw [tn, tr, psc_fin (by omega), show -2 * (m - m') + 1 = 2 * (-(m - m')) + 1 by omega, sc_odd, hD2]
      exact ple_trans y2 (show 2 * (X' - X) + 1 ≤ 2 * -(P - P') + 1 by omega)
  · have hF : X - P < X' - P' := by
      have h1 := Int.mul_lt_mul_of_pos_right o hee
      rw [k1, k2] at h1
      exact Int.lt_of_mul_lt_mul_right h1 (by omega)
    refine HoldsC.two ⟨kok2 hq hr (by omega) (by omega), ?_⟩ ⟨kok2 hr hq (by omega) (by omega), ?_⟩
    · show ple (Y ((q : Int) + 1).toNat ((r : Int) + 1).toNat) (psc c (2 * (m - m')))
      rw [tn, tr, psc_fin (by omega), sc_even, hD]
      exact ple_trans y1 (show 2 * (X - X') + 1 ≤ 2 * (P - P') by omega)
    · show ple (Y ((r : Int) + 1).toNat ((q : Int) + 1).toNat) (psc c (-2 * (m - m') + 2))
      rw [tn, tr, psc_fin (by omega), show -2 * (m - m') + 2 = 2 * (-(m - m') + 1) by omega, sc_even, hD3]
      exact ple_trans y2 (show 2 * (X' - X) + 1 ≤ 2 * (-(P - P') + c) by omega)
  · have hF : X' - P' < X - P := by
      have h1 := Int.mul_lt_mul_of_pos_right o hee
      rw [k1, k2] at h1
      exact Int.lt_of_mul_lt_mul_right h1 (by omega)
    refine HoldsC.two ⟨kok2 hq hr (by omega) (by omega), ?_⟩ ⟨kok2 hr hq (by omega) (by omega), ?_⟩
    · show ple (Y ((q : Int) + 1).toNat ((r : Int) + 1).toNat) (psc c (2 * (m - m') + 2))
      rw [tn, tr, psc_fin (by omega), show 2 * (m - m') + 2 = 2 * (m - m' + 1) by omega, sc_even, hD1]
      exact ple_trans y1 (show 2 * (X - X') + 1 ≤ 2 * (P - P' + c) by omega)
    · show ple (Y ((r : Int) + 1).toNat ((q : Int) + 1).toNat) (psc c (-2 * (m - m')))
      rw [tn, tr, psc_fin (by omega), show -2 * (m - m') = 2 * (-(m - m')) by omega, sc_even, hD2]
      exact ple_trans y2 (show 2 * (X' - X) + 1 ≤ 2 * -(P - P') by omega)
end
/-- The product of the denominators. -/
def dprod (ps : List (Int × Int)) : Int := ps.foldr (fun p a => p.2 * a) 1
theorem dprod_ok {ps : List (Int × Int)} (h : ∀ k, k < ps.length → 1 ≤ (gq ps k).2) : 1 ≤ dprod ps ∧ ∀ k, k < ps.length → (gq ps k).2 ∣ dprod ps := by
  induction ps with
  | nil => exact ⟨by simp [dprod], fun k hk => by simp at hk⟩
  | cons p ps ih =>
    obtain ⟨i1, i2⟩ := ih (fun k hk => h (k + 1) (by simpa using hk))
    have p1 : 1 ≤ p.2 := h 0 (by simp)
    have e : dprod (p :: ps) = p.2 * dprod ps := rfl
    have hp : 0 < p.2 * dprod ps := Int.mul_pos (by omega) (by omega)
    refine ⟨by omega, fun k hk => ?_⟩
    rw [e]
    rcases k with _ | k
    · exact ⟨dprod ps, rfl⟩
    · have := i2 k (by simpa using hk)
      exact Int.dvd_trans this ⟨p.2, Int.mul_comm _ _⟩
/-- All that the walk must know. -/
theorem alike_plain {N : Nat} {xs kk A : List Int} {ps : List (Int × Int)} {e : Int} (hok : OkZ N xs ∧ cstF N kk = true ∧ cstF N kk = true) (hA : widB N xs kk kk = (0, A)) (hN : ps.length = N) (hin : hasF N A ps = (true, e)) :
    ∃ c Y, Alk N c xs kk A ps ∧ Cn N Y ∧ (∀ i, i ≤ N → ple (Y i 0) (cUp c kk ps i)) ∧ (∀ i, i ≤ N → ple (Y 0 i) (cLo c kk ps i)) ∧
      ∀ cs, HoldsC c N Y cs → (andF N xs cs).1 = 0 ∨ (andF N xs cs).1 = 7 := by
  obtain ⟨A', a1, a2, a3, _, a5, _⟩ := widB_ok hok
  obtain rfl : A' = A := by rw [a1] at hA; simpa using hA
  have hall : AllP ps ps.length := (readyF_inv (hasF_inv hin).1).2.1
  have hd1 : ∀ k, k < ps.length → 1 ≤ (gq ps k).2 := fun k hk => by
    have := hall k hk
    unfold okP at this
    rw [Bool.and_eq_true] at this
    exact ((vr_iff _ _).1 this.1).1
  obtain ⟨c1, c2⟩ := dprod_ok hd1
  have hkl := cst_len hok.2.1
  have H : Alk N (dprod ps) xs kk A' ps := ⟨hok.1, a2, hN, c1, ⟨e, hin⟩, fun i hi => by
    unfold ck; split
    · exact ⟨dprod ps, by omega⟩
    · exact c2 (i - 1) (by omega), a5, fun i hi => cst_gi hok.2.1 (by omega)⟩
  obtain ⟨Y, y1, y2, y3, y4⟩ := H.boxed
  refine ⟨dprod ps, Y, H, y1, y3, y4, fun cs hcs => ?_⟩
  have hm : ∀ q, q < cs.length → gk cs q ∈ cs := fun q hq => by rw [gk_of hq]; exact List.getElem_mem hq
  exact and_soundc c1 hok.1 (fun q hq => (hcs _ (hm q hq)).1) y1 y2 (fun q hq => (hcs _ (hm q hq)).2)
end Go.Proofs.Ytmjpcakikflcfaa
