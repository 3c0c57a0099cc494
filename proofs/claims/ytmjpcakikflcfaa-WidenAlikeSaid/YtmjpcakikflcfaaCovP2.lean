/- A point of a widened zone is covered by one of the zone: the plain law, end. -/
import Derived.Test.YtmjpcakikflcfaaCovP
namespace Go.Proofs.Ytmjpcakikflcfaa
open Go.RowKit
set_option linter.unusedVariables false

/-- The bounds of what covers the point. -/
def cUp (c : Int) (k1 : List Int) (ps : List (Int × Int)) (i : Nat) : Lm := if i = 0 then some 1 else if cX c ps i ≤ cvL c k1 (i - 1) then some (2 * cX c ps i + 1) else none
def cLo (c : Int) (k0 : List Int) (ps : List (Int × Int)) (i : Nat) : Lm := if i = 0 then some 1 else if cvL c k0 (i - 1) < cX c ps i then some (-2 * cvL c k0 (i - 1)) else some (-2 * cX c ps i + 1)
/-- All that is given. -/
structure Cov (N : Nat) (c : Int) (xs k0 k1 W : List Int) (ps : List (Int × Int)) : Prop where
  hx : OkZ N xs
  hW : OkZ N W
  hN : ps.length = N
  c1 : 1 ≤ c
  c2 : c ≤ 500
  hs : xs.all sokB = true
  hin : ∃ e, hasF N W ps = (true, e)
  hcom : Com ps ps.length c.toNat
  hle : ∀ i j, i ≤ N → j ≤ N → ent N W i j ≤ ent N (widM N k0 k1 xs) i j
  b0 : ∀ i, i < N → -1 ≤ gi k0 i ∧ gi k0 i ≤ 1048576
  b1 : ∀ i, i < N → -1 ≤ gi k1 i ∧ gi k1 i ≤ 1048576
section
variable {N : Nat} {c : Int} {xs k0 k1 W : List Int} {ps : List (Int × Int)}
theorem Cov.xpos (h : Cov N c xs k0 k1 W ps) {i : Nat} (hi : i ≤ N) : 0 ≤ cX c ps i ∧ cX c ps i ≤ 524288000 := by
  have hN := h.hN
  unfold cX ck
  split
  · simp
  · obtain ⟨a1, a2, a3, a4⟩ := h.hcom (i - 1) (by omega)
    have h1 : 0 ≤ c / (gq ps (i - 1)).2 ∧ c / (gq ps (i - 1)).2 ≤ 500 := ⟨Int.ediv_nonneg (by have := h.c1; omega) (by omega), Int.le_trans (Int.ediv_le_self _ (by have := h.c1; omega)) h.c2⟩
    refine ⟨Int.mul_nonneg a3 h1.1, ?_⟩
    have h2 : (gq ps (i - 1)).1 * (c / (gq ps (i - 1)).2) ≤ 1048576 * (c / (gq ps (i - 1)).2) := Int.mul_le_mul_of_nonneg_right a4 h1.1
    omega
theorem Cov.lpos (h : Cov N c xs k0 k1 W ps) {i : Nat} (hi : i < N) : (gi k0 i = -1 ∧ cvL c k0 i = -1) ∨ (0 ≤ gi k0 i ∧ cvL c k0 i = gi k0 i * c ∧ 0 ≤ cvL c k0 i ∧ cvL c k0 i ≤ 524288000) := by
  have hb := h.b0 i hi
  unfold cvL
  split
  · left; exact ⟨by omega, rfl⟩
  · right
    have h1 : gi k0 i * c ≤ 1048576 * c := Int.mul_le_mul_of_nonneg_right hb.2 (by have := h.c1; omega)
    have := h.c2
    exact ⟨by omega, rfl, Int.mul_nonneg (by omega) (by have := h.c1; omega), by omega⟩
theorem Cov.upos (h : Cov N c xs k0 k1 W ps) {i : Nat} (hi : i < N) : (gi k1 i = -1 ∧ cvL c k1 i = -1) ∨ (0 ≤ gi k1 i ∧ cvL c k1 i = gi k1 i * c) := by
  have hb := h.b1 i hi
  unfold cvL
  split
  · left; exact ⟨by omega, rfl⟩
  · right; exact ⟨by omega, rfl⟩
/-- The difference that the zone allows: from two clocks, the second one bounded from above. -/
theorem Cov.pair (h : Cov N c xs k0 k1 W ps) {k m : Nat} (hk : k ≤ N) (hm : m ≤ N) (hne : k ≠ m) (hu : 1 ≤ m → cX c ps m ≤ cvL c k1 (m - 1)) :
    ent N xs k m = 1099511627776 ∨ 2 * (cX c ps k - cX c ps m) + 1 ≤ sc c (ent N xs k m) ∨
    (1 ≤ k ∧ gi k0 (k - 1) = -1) ∨ (1 ≤ k ∧ 0 ≤ gi k0 (k - 1) ∧ cvL c k0 (k - 1) + c ≤ ent N xs k m / 2 * c) := by
  have hN := h.hN
  have hc := h.c1
  obtain ⟨e, hin⟩ := h.hin
  have pk := h.xpos hk
  have pm := h.xpos hm
  rcases wid_dif h.hx h.hW h.hN hc hin h.hcom h.hle hk hm hne (fun h1 => (h.b1 _ (by omega)).1) with w | ⟨w1, w2⟩ | ⟨w1, w2⟩ | ⟨w1, w2⟩ | w
  · exact .inl w
  · rcases w2 with w2 | w2
    · exact .inr (.inr (.inl ⟨w1, w2⟩))
    · rcases h.lpos (i := k - 1) (by omega) with ⟨l1, l2⟩ | ⟨l1, l2, l3, l4⟩
      · exact .inr (.inr (.inl ⟨w1, l1⟩))
      · refine .inr (.inr (.inr ⟨w1, l1, ?_⟩))
        have : (gi k0 (k - 1) + 1) * c ≤ ent N xs k m / 2 * c := Int.mul_le_mul_of_nonneg_right (by omega) (by omega)
        rw [Int.add_mul] at this
        omega
  · have u := hu w1
    rcases h.upos (i := m - 1) (by omega) with ⟨l1, l2⟩ | ⟨l1, l2⟩ <;> omega
  · have u := hu w1
    rcases h.upos (i := m - 1) (by omega) with ⟨l1, l2⟩ | ⟨l1, l2⟩
    · omega
    · rw [l2] at u
      generalize gi k1 (m - 1) * c = t at *
      omega
  · exact .inr (.inl w)
theorem Cov.row (h : Cov N c xs k0 k1 W ps) {m : Nat} (hm : m ≤ N) : ent N xs 0 m ≤ 1 := by
  have := h.hx.rowN hm; unfold ent; rwa [Nat.zero_mul, Nat.zero_add]
/-- A limit from a clock is not below that from the clock 0. -/
theorem Cov.from0 (h : Cov N c xs k0 k1 W ps) {k m : Nat} (hk : k ≤ N) (hm : m ≤ N) : ent N xs 0 m ≤ ent N xs k m := by
  have t : ent N xs 0 m ≤ lsum (ent N xs 0 k) (ent N xs k m) := El.gt h.hx (Nat.zero_le _) hm hk
  have r := h.row hk
  have a := h.hx.elo (Nat.zero_le N) hk
  have b := h.hx.elo hk hm
  by_cases e : ent N xs k m = 1099511627776
  · have := h.row hm; omega
  · rw [lsum_fin' (by omega) e (by unfold Rg; omega) (by unfold Rg; omega)] at t
    split at t <;> omega
theorem Cov.half (h : Cov N c xs k0 k1 W ps) (l : Int) : sc c l / 2 = l / 2 * c ∧ sc c l % 2 = l % 2 := by
  unfold sc; generalize l / 2 * c = t; omega
theorem Cov.boxed (h : Cov N c xs k0 k1 W ps) : ∃ Y, Cn N Y ∧ (∀ i j, i ≤ N → j ≤ N → ple (Y i j) (pl (ent N (xs.map (scl c)) i j))) ∧ (∀ i, i ≤ N → ple (Y i 0) (cUp c k1 ps i)) ∧ ∀ i, i ≤ N → ple (Y 0 i) (cLo c k0 ps i) := by
  have hN := h.hN
  have hc := h.c1
  have hlen : xs.length = (N + 1) * (N + 1) := by have := h.hx.len; rwa [Int.toNat_natCast] at this
  refine Cn.box (scl_ok h.hx h.hs h.c1 h.c2).cn (cLo c k0 ps) (cUp c k1 ps) rfl rfl (fun k m hk hm => ?_)
  have pk := h.xpos hk
  have pm := h.xpos hm
  by_cases hkm : k = m
  · subst hkm
    have d : ent N (xs.map (scl c)) k k = 1 := (scl_ok h.hx h.hs h.c1 h.c2).diagN hk
    rw [d, show pl 1 = some 1 from rfl]
    unfold cLo cUp
    by_cases k0' : k = 0
    · subst k0'; simp [psum, ple]
    · rw [if_neg k0', if_neg k0']
      by_cases u : cX c ps k ≤ cvL c k1 (k - 1)
      · rw [if_pos u]
        split
        · exact h3 (by omega)
        · exact h3 (by omega)
      · rw [if_neg u]
        split <;> simp [psum, ple]
  rw [ent_scl hlen hk hm]
  by_cases hnl : ent N xs k m = 1099511627776
  · have : scl c (ent N xs k m) = 1099511627776 := by rw [hnl]; unfold scl; rw [if_pos rfl]
    rw [this, pl_nl]
    have : psum (cLo c k0 ps k) (psum none (cUp c k1 ps m)) = none := by
      cases cLo c k0 ps k <;> cases cUp c k1 ps m <;> rfl
    rw [this]; exact ple_none _
  have so := (sok_of h.hs (k := k * (N + 1) + m) (by rw [hlen]; exact idx_lt N k m hk hm)).resolve_left hnl
  have rg := sc_rg h.c1 h.c2 so.1 so.2
  rw [scl_fin hnl, pl_fin (by unfold ent at *; omega)]
  obtain ⟨hf1, hf2⟩ := h.half (ent N xs k m)
  have f0 := h.from0 hk hm
  have r0 := h.row hm
  have m0 := sc_mono hc f0
  by_cases hu : 1 ≤ m → cX c ps m ≤ cvL c k1 (m - 1)
  · -- the upper bound of m as a number
    obtain ⟨u, hu1, hu2, hu3⟩ : ∃ u, cUp c k1 ps m = some u ∧ u / 2 = cX c ps m ∧ u % 2 = 1 := by
      unfold cUp
      by_cases m0' : m = 0
      · subst m0'
        exact ⟨1, rfl, by unfold cX ck; simp, rfl⟩
      · rw [if_neg m0', if_pos (hu (by omega))]
        exact ⟨_, rfl, by omega, by omega⟩
    rw [hu1]
    -- from the clock 0
    have z0 : m ≠ 0 → 2 * (0 - cX c ps m) + 1 ≤ sc c (ent N xs 0 m) := fun m0' => by
      have p0 := h.pair (Nat.zero_le N) hm (fun e => m0' e.symm) hu
      have x0 : cX c ps 0 = 0 := by unfold cX ck; simp
      rw [x0] at p0
      rcases p0 with p | p | ⟨p, _⟩ | ⟨p, _⟩
      · omega
      · exact p
      · omega
      · omega
    by_cases hk0 : k = 0
    · subst hk0
      have := z0 (fun e => hkm e.symm)
      have lo0 : cLo c k0 ps 0 = some 1 := rfl
      rw [lo0]
      exact h3 (by omega)
    · have zz : m = 0 → cX c ps m = 0 ∧ 1 ≤ sc c (ent N xs k m) := fun e => by
        subst e
        refine ⟨by unfold cX ck; simp, ?_⟩
        have d : ent N xs 0 0 = 1 := h.hx.diagN (Nat.zero_le _)
        have : sc c 1 = 1 := by unfold sc; simp
        rw [d, this] at m0
        exact m0
      have p := h.pair hk hm hkm hu
      unfold cLo
      rw [if_neg hk0]
      by_cases hl : cvL c k0 (k - 1) < cX c ps k
      · rw [if_pos hl]
        refine h3 (.inl ?_)
        rw [hf1, hu2]
        rcases p with p | p | ⟨_, p⟩ | ⟨_, p1, p2⟩
        · exact absurd p hnl
        · omega
        · rcases h.lpos (i := k - 1) (by omega) with ⟨l1, l2⟩ | ⟨l1, _⟩
          · by_cases hm0 : m = 0
            · have := zz hm0; omega
            · have := z0 hm0; omega
          · omega
        · omega
      · rw [if_neg hl]
        refine h3 ?_
        rw [hf1, hf2, hu2, hu3]
        rcases p with p | p | ⟨_, p⟩ | ⟨_, p1, p2⟩
        · exact absurd p hnl
        · omega
        · rcases h.lpos (i := k - 1) (by omega) with ⟨l1, l2⟩ | ⟨l1, _⟩ <;> omega
        · omega
  · have : cUp c k1 ps m = none := by
      unfold cUp
      rw [if_neg (fun e => hu (fun _ => by omega)), if_neg (fun e => hu (fun _ => e))]
    rw [this]
    have : psum (cLo c k0 ps k) (psum (some (sc c (ent N xs k m))) none) = none := by cases cLo c k0 ps k <;> rfl
    rw [this]; exact ple_none _
theorem covTo_congr {n n' q : Nat} (h : ∀ i, i < q → n / 3 ^ i % 3 = n' / 3 ^ i % 3) : covTo c k0 k1 ps n q = covTo c k0 k1 ps n' q := by
  induction q with
  | zero => rfl
  | succ q ih => rw [covTo, covTo, ih (fun i hi => h i (by omega)), h q (by omega)]
theorem dig_low (n d q i : Nat) (hi : i < q) : (n + d * 3 ^ q) / 3 ^ i % 3 = n / 3 ^ i % 3 := by
  obtain ⟨r, rfl⟩ : ∃ r, q = i + 1 + r := ⟨q - i - 1, by omega⟩
  have e : n + d * 3 ^ (i + 1 + r) = n + 3 ^ i * (3 * (d * 3 ^ r)) := by
    rw [Nat.pow_add, Nat.pow_succ]; congr 1; ac_rfl
  rw [e, Nat.add_mul_div_left _ _ (Nat.pow_pos (by omega))]
  omega
theorem dig_top (n d q : Nat) (hn : n < 3 ^ q) (hd : d < 3) : (n + d * 3 ^ q) / 3 ^ q % 3 = d ∧ n + d * 3 ^ q < 3 ^ (q + 1) := by
  rw [Nat.add_mul_div_right _ _ (Nat.pow_pos (by omega)), Nat.div_eq_of_lt hn]
  refine ⟨by omega, ?_⟩
  have : d * 3 ^ q ≤ 2 * 3 ^ q := Nat.mul_le_mul_right _ (by omega)
  rw [Nat.pow_succ]; omega
/-- The constraints hold of a canonical matrix. -/
def Holds (N : Nat) (Y : Nat → Nat → Lm) (cs : List K3) : Prop := ∀ x, x ∈ cs → kOk N x = true ∧ ple (Y x.1.toNat x.2.1.toNat) (pl x.2.2)
theorem Holds.le {Y Y' : Nat → Nat → Lm} {cs : List K3} (h : Holds N Y cs) (hle : ∀ i j, ple (Y' i j) (Y i j)) : Holds N Y' cs := fun x hx => ⟨(h x hx).1, ple_trans (hle _ _) (h x hx).2⟩
theorem Holds.append {Y : Nat → Nat → Lm} {cs ds : List K3} (h : Holds N Y cs) (k : Holds N Y ds) : Holds N Y (cs ++ ds) := fun x hx => by
  rcases List.mem_append.1 hx with e | e
  · exact h x e
  · exact k x e
structure St (N : Nat) (c : Int) (xs k0 k1 : List Int) (ps : List (Int × Int)) (q : Nat) (Y : Nat → Nat → Lm) (n : Nat) (cs : List K3) : Prop where
  cn : Cn N Y
  ge : ∀ i j, i ≤ N → j ≤ N → ple (Y i j) (pl (ent N (xs.map (scl c)) i j))
  up : ∀ i, i ≤ N → ple (Y i 0) (cUp c k1 ps i)
  lo : ∀ i, i ≤ N → ple (Y 0 i) (cLo c k0 ps i)
  lt : n < 3 ^ q
  cov : covTo c k0 k1 ps n q = some cs
  holds : Holds N Y cs
theorem St.step {q n d : Nat} {Y Y' : Nat → Nat → Lm} {cs l : List K3} (s : St N c xs k0 k1 ps q Y n cs) (cn : Cn N Y') (hle : ∀ i j, ple (Y' i j) (Y i j)) (hd : d < 3)
    (hk : cvK (cvX c ps q) (cvL c k0 q) (cvL c k1 q) q d = some l) (hl : Holds N Y' l) : St N c xs k0 k1 ps (q + 1) Y' (n + d * 3 ^ q) (cs ++ l) where
  cn := cn
  ge := fun i j hi hj => ple_trans (hle i j) (s.ge i j hi hj)
  up := fun i hi => ple_trans (hle _ _) (s.up i hi)
  lo := fun i hi => ple_trans (hle _ _) (s.lo i hi)
  lt := (dig_top n d q s.lt hd).2
  cov := covTo_succ (by rw [covTo_congr (n' := n) (fun i hi => dig_low n d q i hi)]; exact s.cov) (by rw [(dig_top n d q s.lt hd).1]; exact hk)
  holds := (s.holds.le hle).append hl
theorem kok0 {q : Nat} {L : Int} (hq : q < N) (h1 : -2147483648 ≤ L) (h2 : L ≤ 2147483649) : kOk N ((q : Int) + 1, 0, L) = true := (kOk_iff N _ _ _).2 ⟨by omega, by omega, by omega, by omega, (vld_iff L).2 (.inr ⟨h1, h2⟩)⟩
theorem kok1 {q : Nat} {L : Int} (hq : q < N) (h1 : -2147483648 ≤ L) (h2 : L ≤ 2147483649) : kOk N (0, (q : Int) + 1, L) = true := (kOk_iff N _ _ _).2 ⟨by omega, by omega, by omega, by omega, (vld_iff L).2 (.inr ⟨h1, h2⟩)⟩
theorem Cov.pick (h : Cov N c xs k0 k1 W ps) (q : Nat) (hq : q ≤ N) : ∃ Y n cs, St N c xs k0 k1 ps q Y n cs := by
  induction q with
  | zero =>
    obtain ⟨Y, y1, y2, y3, y4⟩ := h.boxed
    exact ⟨Y, 0, [], y1, y2, y3, y4, by simp, rfl, fun x hx => by simp at hx⟩
  | succ q ih =>
    obtain ⟨Y, n, cs, s⟩ := ih (by omega)
    have hX : cvX c ps q = cX c ps (q + 1) := rfl
    have px := h.xpos (i := q + 1) hq
    have up := s.up (q + 1) hq
    have lo := s.lo (q + 1) hq
    unfold cUp at up
    unfold cLo at lo
    rw [if_neg (by omega), Nat.add_sub_cancel] at up lo
    have ln := h.lpos (i := q) (by omega)
    rw [← hX] at px up lo
    have tn : ((q : Int) + 1).toNat = q + 1 := by omega
    generalize hx : cvX c ps q = x at *
    generalize hL : cvL c k0 q = L at *
    generalize hU : cvL c k1 q = U at *
    by_cases t1 : ple (some 1) (psum (some (2 * x)) (Y 0 (q + 1)))
    · have hxl : L < x := by
        by_cases hl : L < x
        · exact hl
        · exfalso
          rw [if_neg hl] at lo
          have := ple_trans t1 (psum_mono (ple_refl _) lo)
          simp only [psum, ple] at this
          split at this <;> omega
      rw [if_pos hxl] at lo
      refine ⟨_, _, _, s.step (d := 1) (Y' := tight Y (q + 1) 0 (some (2 * x))) (l := [((q : Int) + 1, 0, 2 * x), (0, (q : Int) + 1, -2 * L)]) (s.cn.tighten hq (Nat.zero_le _) t1) (fun i j => tight_le _ _ _ _ _ _) (by omega) (by rw [hx, hL, hU]; rfl) (fun y hy => ?_)⟩
      simp only [List.mem_cons, List.not_mem_nil, or_false] at hy
      rcases hy with rfl | rfl
      · refine ⟨kok0 (by omega) (by omega) (by omega), ?_⟩
        show ple (tight Y (q + 1) 0 (some (2 * x)) ((q : Int) + 1).toNat (0 : Int).toNat) (pl (2 * x))
        rw [tn, pl_fin (by omega)]
        exact tight_at s.cn hq (Nat.zero_le _) _
      · refine ⟨kok1 (by omega) (by omega) (by omega), ?_⟩
        show ple (tight Y (q + 1) 0 (some (2 * x)) (0 : Int).toNat ((q : Int) + 1).toNat) (pl (-2 * L))
        rw [tn, pl_fin (by omega)]
        exact ple_trans (tight_le _ _ _ _ _ _) lo
    · by_cases t2 : ple (some 1) (psum (some (-2 * x)) (Y (q + 1) 0))
      · have hux : ¬ x ≤ U := by
          intro hu
          rw [if_pos hu] at up
          have := ple_trans t2 (psum_mono (ple_refl _) up)
          simp only [psum, ple] at this
          split at this <;> omega
        refine ⟨_, _, _, s.step (d := 2) (Y' := tight Y 0 (q + 1) (some (-2 * x))) (l := [(0, (q : Int) + 1, -2 * x)]) (s.cn.tighten (Nat.zero_le _) hq t2) (fun i j => tight_le _ _ _ _ _ _) (by omega) (by rw [hx, hL, hU]; unfold cvK; rw [if_neg (by omega), if_neg (by omega), if_neg hux]) (fun y hy => ?_)⟩
        simp only [List.mem_cons, List.not_mem_nil, or_false] at hy
        subst hy
        refine ⟨kok1 (by omega) (by omega) (by omega), ?_⟩
        show ple (tight Y 0 (q + 1) (some (-2 * x)) (0 : Int).toNat ((q : Int) + 1).toNat) (pl (-2 * x))
        rw [tn, pl_fin (by omega)]
        exact tight_at s.cn (Nat.zero_le _) hq _
      · refine ⟨_, _, _, s.step (d := 0) (Y' := Y) (l := [((q : Int) + 1, 0, 2 * x + 1), (0, (q : Int) + 1, -2 * x + 1)]) s.cn (fun i j => ple_refl _) (by omega) (by rw [hx, hL, hU]; rfl) (fun y hy => ?_)⟩
        simp only [List.mem_cons, List.not_mem_nil, or_false] at hy
        rcases hy with rfl | rfl
        · refine ⟨kok0 (by omega) (by omega) (by omega), ?_⟩
          show ple (Y ((q : Int) + 1).toNat (0 : Int).toNat) (pl (2 * x + 1))
          rw [tn, pl_fin (by omega)]
          show ple (Y (q + 1) 0) (some (2 * x + 1))
          cases hv : Y (q + 1) 0 with
          | none => rw [hv] at t2; exact absurd (ple_none _) t2
          | some v =>
            rw [hv] at t2
            simp only [psum, ple] at t2 ⊢
            split at t2 <;> omega
        · refine ⟨kok1 (by omega) (by omega) (by omega), ?_⟩
          show ple (Y (0 : Int).toNat ((q : Int) + 1).toNat) (pl (-2 * x + 1))
          rw [tn, pl_fin (by omega)]
          show ple (Y 0 (q + 1)) (some (-2 * x + 1))
          cases hv : Y 0 (q + 1) with
          | none => rw [hv] at t1; exact absurd (ple_none _) t1
          | some v =>
            rw [hv] at t1
            simp only [psum, ple] at t1 ⊢
            split at t1 <;> omega
/-- Some case says yes. -/
theorem Cov.yes (h : Cov N c xs k0 k1 W ps) : ∃ n, n < 3 ^ N ∧ covB c N (xs.map (scl c)) k0 k1 ps n = true := by
  obtain ⟨Y, n, cs, s⟩ := h.pick N (Nat.le_refl _)
  refine ⟨n, s.lt, ?_⟩
  unfold covB
  rw [h.hN, s.cov]
  simp only [decide_eq_true_eq]
  have hm : ∀ q, q < cs.length → gk cs q ∈ cs := fun q hq => by rw [gk_of hq]; exact List.getElem_mem hq
  exact and_sound (scl_ok h.hx h.hs h.c1 h.c2) (fun q hq => (s.holds _ (hm q hq)).1) s.cn s.ge (fun q hq => (s.holds _ (hm q hq)).2)
end
end Go.Proofs.Ytmjpcakikflcfaa
