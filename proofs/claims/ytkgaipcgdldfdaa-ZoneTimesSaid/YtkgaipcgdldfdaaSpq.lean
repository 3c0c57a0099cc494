/- Ratios, limits and intervals as rational numbers; plain Lean. The intervals of Point and Stay, as sets of rational numbers; plain Lean. Point lies in the zone; what Stay's interval says; plain Lean. -/
import Derived.Test.YtkgaipcgdldfdaaChs
import Derived.Test.YtkgaipcgdldfdaaSyp
namespace Go.Proofs.Ytkgaipcgdldfdaa
open Go.RowKit
set_option linter.unusedVariables false

/-- The value of a ratio. -/
def rv (p : Int × Int) : Rat := (p.1 : Rat) / (p.2 : Rat)
theorem rpos {d : Int} (h : 1 ≤ d) : (0 : Rat) < (d : Rat) := Rat.intCast_pos.2 (by omega)
theorem rne {d : Int} (h : 1 ≤ d) : (d : Rat) ≠ 0 := fun e => by have := Rat.intCast_eq_zero_iff.1 e; omega
theorem rv_mul {n d : Int} (h : 1 ≤ d) : rv (n, d) * (d : Rat) = (n : Rat) := Rat.div_mul_cancel (rne h)
theorem rv_lt {a b c d : Int} (hb : 1 ≤ b) (hd : 1 ≤ d) : rv (a, b) < rv (c, d) ↔ a * d < c * b := by
  have e1 : rv (a, b) * ((b : Rat) * (d : Rat)) = ((a * d : Int) : Rat) := by rw [Rat.intCast_mul, ← rv_mul (n := a) hb, Rat.mul_assoc]
  have e2 : rv (c, d) * ((b : Rat) * (d : Rat)) = ((c * b : Int) : Rat) := by rw [Rat.intCast_mul, ← rv_mul (n := c) hd, Rat.mul_comm (b : Rat), Rat.mul_assoc]
  rw [← Rat.mul_lt_mul_right (Rat.mul_pos (rpos hb) (rpos hd)), e1, e2]
  exact Rat.intCast_lt_intCast
theorem rv_eq {a b c d : Int} (hb : 1 ≤ b) (hd : 1 ≤ d) : rv (a, b) = rv (c, d) ↔ a * d = c * b := by
  have h1 := rv_lt (a := a) (c := c) hb hd
  have h2 := rv_lt (a := c) (c := a) hd hb
  constructor
  · intro h
    rw [h] at h1 h2
    have n1 := (not_congr h1).1 Rat.lt_irrefl
    have n2 := (not_congr h2).1 Rat.lt_irrefl
    omega
  · intro h
    have n1 := (not_congr h1).2 (by omega)
    have n2 := (not_congr h2).2 (by omega)
    grind
theorem rv_one (n : Int) : rv (n, 1) = (n : Rat) := by
  have := rv_mul (n := n) (d := 1) (by omega)
  rw [Rat.intCast_one, Rat.mul_one] at this
  exact this
theorem rv_eq_of {n d : Int} {x : Rat} (h : 1 ≤ d) (e : x * (d : Rat) = (n : Rat)) : rv (n, d) = x := by
  have := rv_mul (n := n) h
  rw [← e] at this
  have hp := rpos h
  rcases (show rv (n, d) < x ∨ rv (n, d) = x ∨ x < rv (n, d) by grind) with h1 | h1 | h1
  · have := Rat.mul_lt_mul_of_pos_right h1 hp; grind
  · exact h1
  · have := Rat.mul_lt_mul_of_pos_right h1 hp; grind
theorem mk_rv {n d p q e : Int} (hd : 0 < d) (h : mkR n d = ((p, q), e)) (he : e = 0) : vr p q = true ∧ rv (p, q) = rv (n, d) := by
  obtain ⟨h1, h2, h3⟩ := mkR_val hd h he
  exact ⟨h3, (rv_eq h2 (by omega)).2 h1⟩
theorem add_rv {a b c d : Int} (h : (addR a b c d).2 = 0) : vr a b = true ∧ vr c d = true ∧ vr (addR a b c d).1.1 (addR a b c d).1.2 = true ∧ rv (addR a b c d).1 = rv (a, b) + rv (c, d) := by
  by_cases hv : vr a b = true ∧ vr c d = true
  · refine ⟨hv.1, hv.2, ?_⟩
    rw [addR_yes hv] at h ⊢
    have b1 := ((vr_iff _ _).1 hv.1).1
    have d1 := ((vr_iff _ _).1 hv.2).1
    have bd : 0 < b * d := Int.mul_pos (by omega) (by omega)
    generalize hm : mkR (a * d + c * b) (b * d) = M at *
    obtain ⟨⟨p, q⟩, e⟩ := M
    obtain ⟨h1, h2⟩ := mk_rv bd hm h
    refine ⟨h1, ?_⟩
    show rv (p, q) = _
    rw [h2]
    refine rv_eq_of (by omega) ?_
    rw [Rat.intCast_mul, Rat.intCast_add, Rat.intCast_mul, Rat.intCast_mul, ← rv_mul (n := a) b1, ← rv_mul (n := c) d1]
    grind
  · rw [addR_no hv] at h; simp at h
theorem vr_pos {a b : Int} (h : vr a b = true) : 1 ≤ b := ((vr_iff _ _).1 h).1
theorem neg_rv (a b : Int) : rv (-a, b) = - rv (a, b) := by unfold rv; simp only [Rat.intCast_neg]; rw [Rat.div_def, Rat.div_def]; grind
theorem sub_rv {a b c d : Int} (h1 : vr a b = true) (h2 : vr c d = true) (h : (subR a b c d).2 = 0) : vr (subR a b c d).1.1 (subR a b c d).1.2 = true ∧ rv (subR a b c d).1 = rv (a, b) - rv (c, d) := by
  have hw : wrap64 (-c) = -c := by have := (vr_iff _ _).1 h2; unfold wrap64; omega
  unfold subR at h ⊢
  rw [hw] at h ⊢
  obtain ⟨_, _, h3, h4⟩ := add_rv h
  refine ⟨h3, ?_⟩
  rw [h4, neg_rv]
  grind
theorem cmp_rv {a b c d : Int} (h1 : vr a b = true) (h2 : vr c d = true) : (cmpR a b c d).2 = 0 ∧ ((cmpR a b c d).1 < 0 ↔ rv (a, b) < rv (c, d)) ∧ (0 < (cmpR a b c d).1 ↔ rv (c, d) < rv (a, b)) ∧ ((cmpR a b c d).1 = 0 ↔ rv (a, b) = rv (c, d)) := by
  rw [cmpR_yes ⟨h1, h2⟩, rv_lt (vr_pos h1) (vr_pos h2), rv_lt (vr_pos h2) (vr_pos h1), rv_eq (vr_pos h1) (vr_pos h2)]
  refine ⟨rfl, ?_, ?_, ?_⟩
  all_goals
    simp only
    split
    · omega
    · split <;> omega
/-- A number meets a limit. -/
def Mt (x : Rat) (l : Int) : Prop := l = 1099511627776 ∨ (l % 2 = 0 ∧ x < ((l / 2 : Int) : Rat)) ∨ (l % 2 = 1 ∧ x ≤ ((l / 2 : Int) : Rat))
theorem meet_rv {n d l : Int} (h : vr n d = true) (hl : vld l = true) : (meetR n d l).1 = true ↔ Mt (rv (n, d)) l := by
  have hd := vr_pos h
  have e1 : ∀ c : Int, rv (n, d) < (c : Rat) ↔ n < c * d := fun c => by
    rw [← rv_one c, rv_lt hd (by omega), Int.mul_one]
  have e2 : ∀ c : Int, rv (n, d) ≤ (c : Rat) ↔ n ≤ c * d := fun c => by
    have := rv_lt (a := c) (b := 1) (c := n) (d := d) (by omega) hd
    rw [rv_one, Int.mul_one] at this
    rw [← Rat.not_lt, this]; omega
  unfold meetR Mt
  rw [if_pos ⟨h, hl⟩, e1, e2]
  by_cases c1 : l = 1099511627776
  · rw [if_pos c1]; simp [c1]
  · rw [if_neg c1]
    by_cases c2 : l % 2 = 0
    · rw [if_pos c2]; simp only [decide_eq_true_eq]; omega
    · rw [if_neg c2]; simp only [decide_eq_true_eq]; omega
theorem icast_le {a b : Int} (h : a ≤ b) : (a : Rat) ≤ (b : Rat) := Rat.intCast_le_intCast.2 h
theorem icast_succ {a b : Int} (h : a < b) : (a : Rat) + 1 ≤ (b : Rat) := by
  have := icast_le (show a + 1 ≤ b by omega)
  rwa [Rat.intCast_add] at this
theorem Mt.mono {x : Rat} {l l' : Int} (hl' : l' ≤ 1099511627776) (h : l ≤ l') (m : Mt x l) : Mt x l' := by
  by_cases e : l' = 1099511627776
  · exact .inl e
  have e1 : l ≠ 1099511627776 := by omega
  rcases m with m | ⟨m1, m2⟩ | ⟨m1, m2⟩
  · exact absurd m e1
  · rcases (show l' % 2 = 0 ∨ l' % 2 = 1 by omega) with c | c
    · exact .inr (.inl ⟨c, by have := icast_le (show l / 2 ≤ l' / 2 by omega); grind⟩)
    · exact .inr (.inr ⟨c, by have := icast_le (show l / 2 ≤ l' / 2 by omega); grind⟩)
  · rcases (show l' % 2 = 0 ∨ l' % 2 = 1 by omega) with c | c
    · exact .inr (.inl ⟨c, by have := icast_succ (show l / 2 < l' / 2 by omega); grind⟩)
    · exact .inr (.inr ⟨c, by have := icast_le (show l / 2 ≤ l' / 2 by omega); grind⟩)
theorem Mt.le {x y : Rat} {l : Int} (h : x ≤ y) (m : Mt y l) : Mt x l := by
  rcases m with m | ⟨m1, m2⟩ | ⟨m1, m2⟩
  · exact .inl m
  · exact .inr (.inl ⟨m1, by grind⟩)
  · exact .inr (.inr ⟨m1, by grind⟩)
theorem lsum_val {a b : Int} (ha : vld a = true) (hb : vld b = true) (na : a ≠ 1099511627776) (nb : b ≠ 1099511627776) : lsum a b = a + b - (if a % 2 = 0 ∧ b % 2 = 0 then 0 else 1) := by
  rw [vld_iff] at ha hb
  unfold lsum
  rw [if_neg (by omega)]
  unfold wrap64
  split <;> omega
theorem Mt.sum {x y : Rat} {a b : Int} (ha : vld a = true) (hb : vld b = true) (m : Mt x a) (k : Mt y b) : Mt (x + y) (lsum a b) := by
  by_cases na : a = 1099511627776
  · exact .inl (lsum_nl _ _ (.inl na))
  by_cases nb : b = 1099511627776
  · exact .inl (lsum_nl _ _ (.inr nb))
  rw [lsum_val ha hb na nb]
  have add : ∀ c : Int, c = a / 2 + b / 2 → (c : Rat) = ((a / 2 : Int) : Rat) + ((b / 2 : Int) : Rat) := fun c e => by rw [e, Rat.intCast_add]
  rcases m with m | ⟨m1, m2⟩ | ⟨m1, m2⟩
  · exact absurd m na
  · rcases k with k | ⟨k1, k2⟩ | ⟨k1, k2⟩
    · exact absurd k nb
    · rw [if_pos ⟨m1, k1⟩]
      exact .inr (.inl ⟨by omega, by rw [add _ (by omega)]; grind⟩)
    · rw [if_neg (by omega)]
      exact .inr (.inl ⟨by omega, by rw [add _ (by omega)]; grind⟩)
  · rcases k with k | ⟨k1, k2⟩ | ⟨k1, k2⟩
    · exact absurd k nb
    · rw [if_neg (by omega)]
      exact .inr (.inl ⟨by omega, by rw [add _ (by omega)]; grind⟩)
    · rw [if_neg (by omega)]
      exact .inr (.inr ⟨by omega, by rw [add _ (by omega)]; grind⟩)
/-- Between two ends, each of which may be left out, lies a number. -/
def Cs (u : Rat) (su : Bool) (v : Rat) (sv : Bool) : Prop := u < v ∨ (u = v ∧ su = false ∧ sv = false)
/-- A sum of two limits leaves room for both. -/
theorem Cs.sum {p q : Rat} {a b : Int} (ha : vld a = true) (hb : vld b = true) (na : a ≠ 1099511627776) (nb : b ≠ 1099511627776) (m : Mt (p - q) (lsum a b)) :
    Cs (p - ((a / 2 : Int) : Rat)) (decide (a % 2 = 0)) (q + ((b / 2 : Int) : Rat)) (decide (b % 2 = 0)) := by
  have va := ha
  have vb := hb
  rw [vld_iff] at va vb
  rw [lsum_val ha hb na nb] at m
  have add : ∀ c : Int, c = a / 2 + b / 2 → (c : Rat) = ((a / 2 : Int) : Rat) + ((b / 2 : Int) : Rat) := fun c e => by rw [e, Rat.intCast_add]
  unfold Cs
  by_cases c1 : a % 2 = 0
  · by_cases c2 : b % 2 = 0
    · rw [if_pos ⟨c1, c2⟩] at m
      rcases m with m | ⟨m1, m2⟩ | ⟨m1, m2⟩
      · omega
      · rw [add _ (by omega)] at m2; left; grind
      · omega
    · rw [if_neg (by omega)] at m
      rcases m with m | ⟨m1, m2⟩ | ⟨m1, m2⟩
      · omega
      · rw [add _ (by omega)] at m2; left; grind
      · omega
  · by_cases c2 : b % 2 = 0
    · rw [if_neg (by omega)] at m
      rcases m with m | ⟨m1, m2⟩ | ⟨m1, m2⟩
      · omega
      · rw [add _ (by omega)] at m2; left; grind
      · omega
    · rw [if_neg (by omega)] at m
      rcases m with m | ⟨m1, m2⟩ | ⟨m1, m2⟩
      · omega
      · omega
      · rw [add _ (by omega)] at m2
        have d1 : decide (a % 2 = 0) = false := by simp; omega
        have d2 : decide (b % 2 = 0) = false := by simp; omega
        rw [d1, d2]
        grind
theorem Cs.one {q : Rat} {b : Int} (hb : vld b = true) (nb : b ≠ 1099511627776) (m : Mt (-q) b) : Cs 0 false (q + ((b / 2 : Int) : Rat)) (decide (b % 2 = 0)) := by
  unfold Cs
  rcases m with m | ⟨m1, m2⟩ | ⟨m1, m2⟩
  · exact absurd m nb
  · left; grind
  · have d : decide (b % 2 = 0) = false := by simp; omega
    rw [d]
    grind
end Go.Proofs.Ytkgaipcgdldfdaa
namespace Go.Proofs.Ytkgaipcgdldfdaa
open Go.RowKit
set_option linter.unusedVariables false

/-- The ends can be read. -/
structure SpV (s : Sp) : Prop where
  lv : vr s.ln s.ld = true
  l0 : 0 ≤ s.ln
  hv : s.nh = false → vr s.hn s.hd = true
def loR (s : Sp) : Rat := rv (s.ln, s.ld)
def hiR (s : Sp) : Rat := rv (s.hn, s.hd)
def InS (s : Sp) (t : Rat) : Prop := Cs (loR s) s.lo t false ∧ (s.nh = true ∨ Cs t false (hiR s) s.ho)
theorem cs_mt_hi {t x : Rat} {l : Int} (h : l ≠ 1099511627776) : Cs t false (x + ((l / 2 : Int) : Rat)) (decide (l % 2 = 0)) ↔ Mt (t - x) l := by
  unfold Cs Mt
  by_cases c : l % 2 = 0
  · have d : decide (l % 2 = 0) = true := by simpa using c
    rw [d]; simp only [h, c]; grind
  · have d : decide (l % 2 = 0) = false := by simpa using c
    have c2 : l % 2 = 1 := by omega
    rw [d]; simp only [h, c2]; grind
theorem cs_mt_lo {t x : Rat} {l : Int} (h : l ≠ 1099511627776) : Cs (x - ((l / 2 : Int) : Rat)) (decide (l % 2 = 0)) t false ↔ Mt (x - t) l := by
  unfold Cs Mt
  by_cases c : l % 2 = 0
  · have d : decide (l % 2 = 0) = true := by simpa using c
    rw [d]; simp only [h, c]; grind
  · have d : decide (l % 2 = 0) = false := by simpa using c
    have c2 : l % 2 = 1 := by omega
    rw [d]; simp only [h, c2]; grind
theorem cs_hi_lt {t y h : Rat} {sy sh : Bool} (c : y < h) : Cs t false y sy ↔ (Cs t false h sh ∧ Cs t false y sy) := by unfold Cs; grind
theorem cs_hi_eq {t h : Rat} {sy sh : Bool} : Cs t false h (sh || sy) ↔ (Cs t false h sh ∧ Cs t false h sy) := by unfold Cs; grind
theorem cs_hi_gt {t y h : Rat} {sy sh : Bool} (c : h < y) : Cs t false h sh ↔ (Cs t false h sh ∧ Cs t false y sy) := by unfold Cs; grind
theorem cs_lo_lt {t y h : Rat} {sy sh : Bool} (c : h < y) : Cs y sy t false ↔ (Cs h sh t false ∧ Cs y sy t false) := by unfold Cs; grind
theorem cs_lo_eq {t h : Rat} {sy sh : Bool} : Cs h (sh || sy) t false ↔ (Cs h sh t false ∧ Cs h sy t false) := by unfold Cs; grind
theorem cs_lo_gt {t y h : Rat} {sy sh : Bool} (c : y < h) : Cs h sh t false ↔ (Cs h sh t false ∧ Cs y sy t false) := by unfold Cs; grind
theorem sp_parts {l : Int} (hl : vld l = true) (h : l ≠ 1099511627776) : spE l = 0 ∧ spC l = l / 2 ∧ spS l = decide (l % 2 = 0) := by
  have e := spE_ok hl h
  refine ⟨e, ?_, ?_⟩
  · unfold spC; rw [if_pos e]
  · unfold spS; rw [if_pos e]
theorem cutF_wd {s : Sp} {xn xd l : Int} {ab : Bool} (hw : (cutF s xn xd l ab).wd = false) : s.wd = false ∧ (spE l = 0 → (cutY xn xd l ab).2 = 0) := by
  by_cases h1 : spE l = 0
  · by_cases h2 : (cutY xn xd l ab).2 = 0
    · refine ⟨?_, fun _ => h2⟩
      cases ab
      · rw [cutF_below h1 h2] at hw; unfold mostF at hw
        split at hw
        · exact hw
        · split at hw
          · exact hw
          · split at hw <;> exact hw
      · rw [cutF_above h1 h2] at hw; unfold leastF at hw
        split at hw
        · exact hw
        · split at hw <;> exact hw
    · rw [cutF_bad h1 h2] at hw; cases hw
  · rw [cutF_none h1] at hw; exact ⟨hw, fun h => absurd h h1⟩
/-- A cut from above. -/
theorem below_in {s : Sp} {xn xd l : Int} (hs : SpV s) (hx : vr xn xd = true) (hl : vld l = true) (hw : (cutF s xn xd l false).wd = false) :
    SpV (cutF s xn xd l false) ∧ (∀ t, InS (cutF s xn xd l false) t ↔ (InS s t ∧ Mt (t - rv (xn, xd)) l)) ∧
    (loR (cutF s xn xd l false) = loR s ∧ (cutF s xn xd l false).lo = s.lo) ∧
    (((cutF s xn xd l false).nh = s.nh ∧ hiR (cutF s xn xd l false) = hiR s ∧ (cutF s xn xd l false).ho = s.ho) ∨
      (l ≠ 1099511627776 ∧ hiR (cutF s xn xd l false) = rv (xn, xd) + ((l / 2 : Int) : Rat) ∧ (cutF s xn xd l false).ho = decide (l % 2 = 0))) := by
  by_cases hn : l = 1099511627776
  · rw [cutF_none (by rw [spE_nl hn]; decide)]
    exact ⟨hs, fun t => ⟨fun h => ⟨h, .inl hn⟩, fun h => h.1⟩, ⟨rfl, rfl⟩, .inl ⟨rfl, rfl, rfl⟩⟩
  obtain ⟨e1, e2, e3⟩ := sp_parts hl hn
  have h2 := (cutF_wd hw).2 e1
  rw [cutF_below e1 h2]
  have hy : cutY xn xd l false = addR xn xd (l / 2) 1 := by unfold cutY; rw [e2]; simp
  rw [hy] at h2 ⊢
  obtain ⟨_, _, v3, v4⟩ := add_rv h2
  rw [rv_one] at v4
  generalize addR xn xd (l / 2) 1 = Y at *
  obtain ⟨⟨yn, yd⟩, ye⟩ := Y
  simp only at v3 v4
  rw [e3]
  have M := fun t => cs_mt_hi (t := t) (x := rv (xn, xd)) hn
  rw [← v4] at M ⊢
  unfold mostF
  by_cases c0 : s.nh = true
  · rw [if_pos c0]
    refine ⟨⟨hs.lv, hs.l0, fun _ => v3⟩, fun t => ?_, ⟨rfl, rfl⟩, .inr ⟨hn, rfl, rfl⟩⟩
    rw [← M t]
    unfold InS
    simp only [c0, true_or, and_true]
    exact ⟨fun h => ⟨h.1, h.2.resolve_left (by decide)⟩, fun h => ⟨h.1, .inr h.2⟩⟩
  · rw [if_neg c0]
    have c0' : s.nh = false := by simpa using c0
    obtain ⟨_, k1, k2, k3⟩ := cmp_rv v3 (hs.hv c0')
    have ins : ∀ t, InS s t ↔ (Cs (loR s) s.lo t false ∧ Cs t false (hiR s) s.ho) := fun t => by
      unfold InS; simp [c0']
    by_cases c1 : (cmpR yn yd s.hn s.hd).1 < 0
    · rw [if_pos c1]
      refine ⟨⟨hs.lv, hs.l0, fun _ => v3⟩, fun t => ?_, ⟨rfl, rfl⟩, .inr ⟨hn, rfl, rfl⟩⟩
      rw [← M t, ins t]
      have := cs_hi_lt (t := t) (sy := decide (l % 2 = 0)) (sh := s.ho) (k1.1 c1)
      unfold InS
      show (Cs (loR s) s.lo t false ∧ (false = true ∨ Cs t false (rv (yn, yd)) (decide (l % 2 = 0)))) ↔ _
      simp only [Bool.false_eq_true, false_or]
      exact ⟨fun h => ⟨⟨h.1, (this.1 h.2).1⟩, (this.1 h.2).2⟩, fun h => ⟨h.1.1, this.2 ⟨h.1.2, h.2⟩⟩⟩
    · rw [if_neg c1]
      by_cases c2 : (cmpR yn yd s.hn s.hd).1 = 0
      · rw [if_pos c2]
        have ey := k3.1 c2
        refine ⟨⟨hs.lv, hs.l0, fun h => hs.hv h⟩, fun t => ?_, ⟨rfl, rfl⟩, ?_⟩
        · rw [← M t, ins t]
          unfold InS
          show (Cs (loR s) s.lo t false ∧ (s.nh = true ∨ Cs t false (hiR s) (s.ho || decide (l % 2 = 0)))) ↔ _
          rw [cs_hi_eq, ey]
          simp only [c0', Bool.false_eq_true, false_or]
          unfold hiR; exact and_assoc.symm
        · cases hd : decide (l % 2 = 0)
          · exact .inl ⟨rfl, rfl, by show (s.ho || false) = s.ho; simp⟩
          · exact .inr ⟨hn, ey.symm, by show (s.ho || true) = true; simp⟩
      · rw [if_neg c2]
        refine ⟨hs, fun t => ?_, ⟨rfl, rfl⟩, .inl ⟨rfl, rfl, rfl⟩⟩
        have c3 : 0 < (cmpR yn yd s.hn s.hd).1 := by omega
        rw [← M t, ins t]
        have := cs_hi_gt (t := t) (sy := decide (l % 2 = 0)) (sh := s.ho) (k2.1 c3)
        constructor
        · intro h; exact ⟨h, (this.1 h.2).2⟩
        · intro h; exact h.1
/-- A cut from below. -/
theorem above_in {s : Sp} {xn xd l : Int} (hs : SpV s) (hx : vr xn xd = true) (hl : vld l = true) (hw : (cutF s xn xd l true).wd = false) :
    SpV (cutF s xn xd l true) ∧ (∀ t, InS (cutF s xn xd l true) t ↔ (InS s t ∧ Mt (rv (xn, xd) - t) l)) ∧
    ((cutF s xn xd l true).nh = s.nh ∧ hiR (cutF s xn xd l true) = hiR s ∧ (cutF s xn xd l true).ho = s.ho) ∧
    ((loR (cutF s xn xd l true) = loR s ∧ (cutF s xn xd l true).lo = s.lo) ∨
      (l ≠ 1099511627776 ∧ loR (cutF s xn xd l true) = rv (xn, xd) - ((l / 2 : Int) : Rat) ∧ (cutF s xn xd l true).lo = decide (l % 2 = 0))) := by
  have ge0 := cutF_ln0 xn xd l true hs.l0
  by_cases hn : l = 1099511627776
  · rw [cutF_none (by rw [spE_nl hn]; decide)]
    exact ⟨hs, fun t => ⟨fun h => ⟨h, .inl hn⟩, fun h => h.1⟩, ⟨rfl, rfl, rfl⟩, .inl ⟨rfl, rfl⟩⟩
  obtain ⟨e1, e2, e3⟩ := sp_parts hl hn
  have h2 := (cutF_wd hw).2 e1
  rw [cutF_above e1 h2] at ge0 ⊢
  have hy : cutY xn xd l true = addR xn xd (-(l / 2)) 1 := by unfold cutY; rw [e2]; simp
  rw [hy] at h2 ge0 ⊢
  obtain ⟨_, _, v3, v4⟩ := add_rv h2
  rw [rv_one, Rat.intCast_neg] at v4
  generalize addR xn xd (-(l / 2)) 1 = Y at *
  obtain ⟨⟨yn, yd⟩, ye⟩ := Y
  simp only at v3 v4 ge0
  rw [e3] at ge0 ⊢
  have v5 : rv (yn, yd) = rv (xn, xd) - ((l / 2 : Int) : Rat) := by rw [v4]; grind
  have M := fun t => cs_mt_lo (t := t) (x := rv (xn, xd)) hn
  rw [← v5] at M ⊢
  obtain ⟨_, k1, k2, k3⟩ := cmp_rv v3 hs.lv
  unfold leastF at ge0 ⊢
  by_cases c1 : 0 < (cmpR yn yd s.ln s.ld).1
  · rw [if_pos c1] at ge0 ⊢
    refine ⟨⟨v3, ge0, hs.hv⟩, fun t => ?_, ⟨rfl, rfl, rfl⟩, .inr ⟨hn, rfl, rfl⟩⟩
    rw [← M t]
    have := cs_lo_lt (t := t) (sy := decide (l % 2 = 0)) (sh := s.lo) (k2.1 c1)
    unfold InS
    show (Cs (rv (yn, yd)) (decide (l % 2 = 0)) t false ∧ _) ↔ _
    exact ⟨fun h => ⟨⟨(this.1 h.1).1, h.2⟩, (this.1 h.1).2⟩, fun h => ⟨this.2 ⟨h.1.1, h.2⟩, h.1.2⟩⟩
  · rw [if_neg c1] at ge0 ⊢
    by_cases c2 : (cmpR yn yd s.ln s.ld).1 = 0
    · rw [if_pos c2] at ge0 ⊢
      have ey := k3.1 c2
      refine ⟨⟨hs.lv, hs.l0, hs.hv⟩, fun t => ?_, ⟨rfl, rfl, rfl⟩, ?_⟩
      · rw [← M t]
        unfold InS
        show (Cs (loR s) (s.lo || decide (l % 2 = 0)) t false ∧ _) ↔ _
        rw [cs_lo_eq, ey]
        unfold loR
        constructor
        · intro h; exact ⟨⟨h.1.1, h.2⟩, h.1.2⟩
        · intro h; exact ⟨⟨h.1.1, h.2⟩, h.1.2⟩
      · cases hd : decide (l % 2 = 0)
        · exact .inl ⟨rfl, by show (s.lo || false) = s.lo; simp⟩
        · exact .inr ⟨hn, ey.symm, by show (s.lo || true) = true; simp⟩
    · rw [if_neg c2] at ge0 ⊢
      refine ⟨hs, fun t => ?_, ⟨rfl, rfl, rfl⟩, .inl ⟨rfl, rfl⟩⟩
      have c3 : (cmpR yn yd s.ln s.ld).1 < 0 := by omega
      rw [← M t]
      have := cs_lo_gt (t := t) (sy := decide (l % 2 = 0)) (sh := s.lo) (k1.1 c3)
      constructor
      · intro h; exact ⟨h, (this.1 h.1).2⟩
      · intro h; exact h.1
/-- Pairs of cuts, from above and from below. -/
def cutsTo (f : Nat → (Int × Int) × Int × Int) : Nat → Sp
  | 0 => sp0
  | j + 1 => cutF (cutF (cutsTo f j) (f j).1.1 (f j).1.2 (f j).2.1 false) (f j).1.1 (f j).1.2 (f j).2.2 true
theorem sp0_v : SpV sp0 := ⟨by decide, by decide, fun h => by cases h⟩
theorem sp0_lo : loR sp0 = 0 := rv_one 0
theorem sp0_in (t : Rat) : InS sp0 t ↔ 0 ≤ t := by
  unfold InS
  rw [sp0_lo]
  show (Cs 0 false t false ∧ (true = true ∨ _)) ↔ _
  unfold Cs
  grind
structure CutsI (f : Nat → (Int × Int) × Int × Int) (j : Nat) (s : Sp) : Prop where
  v : SpV s
  mem : ∀ t, InS s t ↔ (0 ≤ t ∧ ∀ k, k < j → Mt (t - rv (f k).1) (f k).2.1 ∧ Mt (rv (f k).1 - t) (f k).2.2)
  low : (loR s = 0 ∧ s.lo = false) ∨ ∃ k, k < j ∧ (f k).2.2 ≠ 1099511627776 ∧ loR s = rv (f k).1 - (((f k).2.2 / 2 : Int) : Rat) ∧ s.lo = decide ((f k).2.2 % 2 = 0)
  hig : s.nh = true ∨ ∃ k, k < j ∧ (f k).2.1 ≠ 1099511627776 ∧ hiR s = rv (f k).1 + (((f k).2.1 / 2 : Int) : Rat) ∧ s.ho = decide ((f k).2.1 % 2 = 0)
theorem cuts_in (f : Nat → (Int × Int) × Int × Int) : ∀ j, (∀ k, k < j → vr (f k).1.1 (f k).1.2 = true ∧ vld (f k).2.1 = true ∧ vld (f k).2.2 = true) → (cutsTo f j).wd = false → CutsI f j (cutsTo f j) := by
  intro j
  induction j with
  | zero => exact fun _ _ => ⟨sp0_v, fun t => by show InS sp0 t ↔ _; rw [sp0_in]; exact ⟨fun h => ⟨h, fun k hk => by omega⟩, fun h => h.1⟩, .inl ⟨sp0_lo, rfl⟩, .inl rfl⟩
  | succ j ih =>
    intro hv hw
    obtain ⟨q1, q2, q3⟩ := hv j (by omega)
    have w1 := (cutF_wd (show (cutF (cutF (cutsTo f j) (f j).1.1 (f j).1.2 (f j).2.1 false) (f j).1.1 (f j).1.2 (f j).2.2 true).wd = false from hw)).1
    have w0 := (cutF_wd w1).1
    have I := ih (fun k hk => hv k (by omega)) w0
    obtain ⟨a1, a2, ⟨a3, a4⟩, a5⟩ := below_in I.v q1 q2 w1
    obtain ⟨b1, b2, ⟨b3, b4, b5⟩, b6⟩ := above_in a1 q1 q3 hw
    show CutsI f (j + 1) (cutF (cutF (cutsTo f j) (f j).1.1 (f j).1.2 (f j).2.1 false) (f j).1.1 (f j).1.2 (f j).2.2 true)
    refine ⟨b1, fun t => ?_, ?_, ?_⟩
    · rw [b2, a2, I.mem]
      constructor
      · rintro ⟨⟨⟨h1, h2⟩, h3⟩, h4⟩
        refine ⟨h1, fun k hk => ?_⟩
        by_cases e : k = j
        · subst e; exact ⟨h3, h4⟩
        · exact h2 k (by omega)
      · rintro ⟨h1, h2⟩
        exact ⟨⟨⟨h1, fun k hk => h2 k (by omega)⟩, (h2 j (by omega)).1⟩, (h2 j (by omega)).2⟩
    · rcases b6 with ⟨c1, c2⟩ | ⟨c0, c1, c2⟩
      · rcases I.low with ⟨d1, d2⟩ | ⟨k, hk, d1, d2, d3⟩
        · exact .inl ⟨by rw [c1, a3, d1], by rw [c2, a4, d2]⟩
        · exact .inr ⟨k, by omega, d1, by rw [c1, a3, d2], by rw [c2, a4, d3]⟩
      · exact .inr ⟨j, by omega, c0, c1, c2⟩
    · rcases a5 with ⟨c1, c2, c3⟩ | ⟨c0, c1, c2⟩
      · rcases I.hig with d | ⟨k, hk, d1, d2, d3⟩
        · exact .inl (by rw [b3, c1, d])
        · exact .inr ⟨k, by omega, d1, by rw [b4, c2, d2], by rw [b5, c3, d3]⟩
      · exact .inr ⟨j, by omega, c0, by rw [b4, c1], by rw [b5, c2]⟩
/-- Cuts that leave room two by two leave room together. -/
theorem cuts_cs {f : Nat → (Int × Int) × Int × Int} {j : Nat} {s : Sp} (I : CutsI f j s) (hv : ∀ k, k < j → vld (f k).2.1 = true ∧ vld (f k).2.2 = true)
    (h0 : ∀ k, k < j → Mt (-rv (f k).1) (f k).2.1) (h2 : ∀ k m, k < j → m < j → Mt (rv (f k).1 - rv (f m).1) (lsum (f k).2.2 (f m).2.1)) :
    s.nh = true ∨ Cs (loR s) s.lo (hiR s) s.ho := by
  rcases I.hig with h | ⟨m, hm, m1, m2, m3⟩
  · exact .inl h
  · right
    rw [m2, m3]
    rcases I.low with ⟨l1, l2⟩ | ⟨k, hk, k1, k2, k3⟩
    · rw [l1, l2]; exact Cs.one (hv m hm).1 m1 (h0 m hm)
    · rw [k2, k3]; exact Cs.sum (hv k hk).2 (hv m hm).1 k1 m1 (h2 k m hk hm)
theorem emp_iff {s : Sp} (hs : SpV s) : empS s = false ↔ (s.nh = true ∨ Cs (loR s) s.lo (hiR s) s.ho) := by
  unfold empS
  cases hn : s.nh with
  | true => simp
  | false =>
    obtain ⟨_, k1, k2, k3⟩ := cmp_rv hs.lv (hs.hv hn)
    rcases cmpR_val s.ln s.ld s.hn s.hd with h | h | h
    · have := k1.1 (by omega)
      rw [h]; simp; exact .inl this
    · have e := k3.1 h
      rw [h]
      unfold Cs loR hiR
      rw [e]
      simp [Rat.lt_irrefl]
    · have e := k2.1 (by omega)
      rw [h]
      unfold Cs loR hiR
      simp
      grind
theorem room_ex {s : Sp} (h : s.nh = true ∨ Cs (loR s) s.lo (hiR s) s.ho) : ∃ t, InS s t := by
  unfold InS
  rcases h with h | h
  · exact ⟨loR s + 1, by unfold Cs; grind, .inl h⟩
  · unfold Cs at *
    rcases h with h | ⟨h1, h2, h3⟩
    · exact ⟨(loR s + hiR s) / 2, by grind, .inr (by grind)⟩
    · exact ⟨loR s, by grind, .inr (by grind)⟩
theorem in_room {s : Sp} {t : Rat} (h : InS s t) : s.nh = true ∨ Cs (loR s) s.lo (hiR s) s.ho := by
  unfold InS Cs at *
  grind
end Go.Proofs.Ytkgaipcgdldfdaa
namespace Go.Proofs.Ytkgaipcgdldfdaa
open Go.RowKit
set_option linter.unusedVariables false

theorem spanTo_cuts (N : Nat) (xs : List Int) (q : List (Int × Int)) (i : Nat) : ∀ j, spanTo N xs q i j = cutsTo (fun k => (gq q k, ent N xs i k, ent N xs k i)) j
  | 0 => rfl
  | j + 1 => by show cutF (cutF (spanTo N xs q i j) _ _ _ _) _ _ _ _ = _; rw [spanTo_cuts N xs q i j]; rfl
theorem stayTo_cuts (N : Nat) (xs : List Int) (Q : List (Int × Int)) : ∀ i, stayTo N xs Q i = cutsTo (fun k => ((-(gq Q (k + 1)).1, (gq Q (k + 1)).2), ent N xs (k + 1) 0, ent N xs 0 (k + 1))) i
  | 0 => rfl
  | j + 1 => by show cutF (cutF (stayTo N xs Q j) _ _ _ _) _ _ _ _ = _; rw [stayTo_cuts N xs Q j]; rfl
/-- The simplest number between two lies between them. -/
theorem mid_between : ∀ (f : Nat) (n d m e : Int), MidE n d m e → d + e ≤ f → 0 < (midF f n d m e).2 ∧ n * (midF f n d m e).2 < (midF f n d m e).1 * d ∧ (midF f n d m e).1 * e < m * (midF f n d m e).2 := by
  intro f
  induction f with
  | zero => intro n d m e h hf; have := h.d0; have := h.e0; omega
  | succ f ih =>
    intro n d m e h hf
    by_cases hn : e = 0 ∨ (n / d + 1) * e < m
    · rw [midF_yes hn]
      obtain ⟨k0, k1, k2, k3⟩ := h.k
      have m0 := h.m0
      refine ⟨(show (0 : Int) < 1 by decide), ?_, ?_⟩
      · show n * 1 < (n / d + 1) * d
        rw [Int.add_mul]; omega
      · show (n / d + 1) * e < m * 1
        rcases hn with c | c
        · rw [c]; omega
        · omega
    · rw [midF_no hn]
      obtain ⟨g, g2, _⟩ := h.next hn
      obtain ⟨i1, i2, i3⟩ := ih _ _ _ _ g (by omega)
      have g0 := g.d0
      have e0 := h.e0
      generalize (midF f e (m - n / d * e) d (n - n / d * d)).1 = P at *
      generalize (midF f e (m - n / d * e) d (n - n / d * d)).2 = Q at *
      generalize n / d = k at *
      have hP : 0 < P := by
        rcases (show P ≤ 0 ∨ 0 < P by omega) with c | c
        · have h1 : P * (m - k * e) ≤ 0 := Int.mul_nonpos_of_nonpos_of_nonneg c (by omega)
          have h2 : 0 ≤ e * Q := Int.mul_nonneg e0 (by omega)
          omega
        · exact c
      refine ⟨hP, ?_, ?_⟩
      · show n * P < (k * P + Q) * d
        grind
      · show (k * P + Q) * e < m * P
        grind
theorem rv_nonneg {n d : Int} (h : 1 ≤ d) : 0 ≤ rv (n, d) ↔ 0 ≤ n := by
  have := rv_lt (a := n) (b := d) (c := 0) (d := 1) h (by omega)
  rw [rv_one, Rat.intCast_zero] at this
  rw [← Rat.not_lt, this]; omega
theorem mid_rv {a b c d : Int} (ha : 0 ≤ a) (h : (midR a b c d).2 = 0) :
    vr (midR a b c d).1.1 (midR a b c d).1.2 = true ∧ rv (a, b) < rv (midR a b c d).1 ∧ rv (midR a b c d).1 < rv (c, d) := by
  by_cases hc : (cmpR a b c d).2 ≠ 0 ∨ 0 ≤ (cmpR a b c d).1
  · rw [midR_no hc] at h; simp at h
  have hE := midE_of ha hc
  have hv : vr a b = true ∧ vr c d = true := by
    by_cases hv : vr a b = true ∧ vr c d = true
    · exact hv
    · rw [cmpR_no hv] at hc; simp at hc
  have b1 := vr_pos hv.1
  have d1 := vr_pos hv.2
  rw [midR_yes hc] at h ⊢
  obtain ⟨k1, k2, k3⟩ := mid_between (b + d).toNat a b c d hE (by omega)
  generalize midF (b + d).toNat a b c d = F at *
  obtain ⟨P, Q⟩ := F
  simp only at *
  generalize hm : mkR P Q = M at *
  obtain ⟨⟨p, q⟩, e⟩ := M
  obtain ⟨h1, h2⟩ := mk_rv k1 hm h
  refine ⟨h1, ?_, ?_⟩
  · show rv (a, b) < rv (p, q)
    rw [h2, rv_lt b1 (by omega)]; exact k2
  · show rv (p, q) < rv (c, d)
    rw [h2, rv_lt (by omega) d1]; exact k3
/-- What is taken out of an interval with room lies in it. -/
theorem raw_in {s : Sp} (hs : SpV s) (hr : s.nh = true ∨ Cs (loR s) s.lo (hiR s) s.ho) (h : (rawS s).2 = 0) :
    InS s (rv (rawS s).1) ∧ vr (rawS s).1.1 (rawS s).1.2 = true := by
  unfold rawS at h ⊢
  cases hl : s.lo with
  | false =>
    rw [if_neg (by simp)]
    refine ⟨?_, hs.lv⟩
    unfold InS
    rw [hl] at hr ⊢
    refine ⟨.inr ⟨rfl, rfl, rfl⟩, ?_⟩
    rcases hr with c | c
    · exact .inl c
    · exact .inr c
  | true =>
    rw [if_pos hl] at h
    rw [if_pos rfl]
    cases hn : s.nh with
    | true =>
      rw [if_pos hn] at h
      rw [if_pos rfl]
      obtain ⟨_, _, v3, v4⟩ := add_rv h
      refine ⟨?_, v3⟩
      unfold InS
      refine ⟨.inl ?_, .inl hn⟩
      rw [v4, rv_one]
      unfold loR
      have : ((1 : Int) : Rat) = 1 := rfl
      grind
    | false =>
      rw [if_neg (by rw [hn]; simp)] at h
      rw [if_neg (by simp)]
      obtain ⟨v1, v2, v3⟩ := mid_rv hs.l0 h
      refine ⟨?_, v1⟩
      unfold InS
      exact ⟨.inl v2, .inr (.inl v3)⟩
theorem ent_vld {N : Nat} {xs : List Int} (h : OkZ N xs) {i j : Nat} (hi : i ≤ N) (hj : j ≤ N) : vld (ent N xs i j) = true := (h.el hi hj).val
theorem ent_tri {N : Nat} {xs : List Int} (h : OkZ N xs) {i j k : Nat} (hi : i ≤ N) (hj : j ≤ N) (hk : k ≤ N) : ent N xs i j ≤ lsum (ent N xs i k) (ent N xs k j) := by
  have := h.tri i j k (by rw [Int.toNat_natCast]; exact hi) (by rw [Int.toNat_natCast]; exact hj) (by rw [Int.toNat_natCast]; exact hk)
  rw [Int.toNat_natCast] at this
  exact this
theorem ent_row {N : Nat} {xs : List Int} (h : OkZ N xs) {j : Nat} (hj : j ≤ N) : ent N xs 0 j ≤ 1 := by
  have := h.rowN hj
  unfold ent; rwa [Nat.zero_mul, Nat.zero_add]
theorem lsum_le {a b : Int} (ha : vld a = true) (hb : vld b = true) : lsum a b ≤ 1099511627776 := by
  by_cases na : a = 1099511627776
  · rw [lsum_nl _ _ (.inl na)]; omega
  by_cases nb : b = 1099511627776
  · rw [lsum_nl _ _ (.inr nb)]; omega
  rw [lsum_val ha hb na nb]
  rw [vld_iff] at ha hb
  split <;> omega
theorem lsum_le1 {a b : Int} (ha : vld a = true) (hb : vld b = true) (h : a ≤ 1) : lsum a b ≤ b := by
  by_cases nb : b = 1099511627776
  · rw [lsum_nl _ _ (.inr nb)]; omega
  have va := ha
  have vb := hb
  rw [vld_iff] at va vb
  rw [lsum_val ha hb (by omega) nb]
  split <;> omega
/-- An upper limit of a clock's difference is no smaller than the clock 0's. -/
theorem ent_up {N : Nat} {xs : List Int} (h : OkZ N xs) {i k : Nat} (hi : i ≤ N) (hk : k ≤ N) : ent N xs 0 k ≤ ent N xs i k :=
  Int.le_trans (ent_tri h (Nat.zero_le _) hk hi) (lsum_le1 (ent_vld h (Nat.zero_le _) hi) (ent_vld h hi hk) (ent_row h hi))
/-- The value of a clock. -/
def qv (p : List (Int × Int)) (k : Nat) : Rat := rv (ck p k)
theorem qv_zero (p : List (Int × Int)) : qv p 0 = 0 := rv_one 0
theorem okP_of {n d : Int} (h : vr n d = true) (h0 : 0 ≤ n) : okP (n, d) = true := by unfold okP; simp [h, h0]
theorem ck_app {p : List (Int × Int)} {x : Int × Int} {k : Nat} (h : k ≤ p.length) : ck (p ++ [x]) k = ck p k := by
  unfold ck; split
  · rfl
  · unfold gq; rw [List.getD_eq_getElem?_getD, List.getD_eq_getElem?_getD, List.getElem?_append_left (by omega)]
theorem ck_last {p : List (Int × Int)} {x : Int × Int} : ck (p ++ [x]) (p.length + 1) = x := by
  unfold ck gq; rw [if_neg (by omega)]; simp
theorem pts_in {N : Nat} {xs : List Int} (h : OkZ N xs) : ∀ i, i ≤ N → ∀ p, ptsF N xs i = some p → p.length = i ∧ (∀ k, k ≤ i → okP (ck p k) = true) ∧ ∀ a b, a ≤ i → b ≤ i → Mt (qv p a - qv p b) (ent N xs a b) := by
  intro i
  induction i with
  | zero =>
    intro _ p hp
    obtain rfl : [] = p := Option.some.inj hp
    refine ⟨rfl, fun k hk => ?_, fun a b ha hb => ?_⟩
    · obtain rfl : k = 0 := by omega
      exact okP0
    · obtain rfl : a = 0 := by omega
      obtain rfl : b = 0 := by omega
      have : ent N xs 0 0 = 1 := h.diagN (Nat.zero_le _)
      rw [this]
      exact .inr (.inr ⟨by decide, by rw [qv_zero]; show (0 : Rat) - 0 ≤ ((0 : Int) : Rat); rw [Rat.intCast_zero]; grind⟩)
  | succ i ih =>
    intro hi p' hp'
    cases hp : ptsF N xs i with
    | none => have := ptsF_none hp 1; rw [hp'] at this; cases this
    | some p =>
      obtain ⟨hl, hk, hm⟩ := ih (by omega) p hp
      by_cases he : (pkS (spanTo N xs ((0, 1) :: p) (i + 1) (i + 1))).2 = 0
      · rw [ptsF_succ hp he] at hp'
        obtain rfl := Option.some.inj hp'
        have hw : (spanTo N xs ((0, 1) :: p) (i + 1) (i + 1)).wd = false := by
          cases hw : (spanTo N xs ((0, 1) :: p) (i + 1) (i + 1)).wd with
          | false => rfl
          | true => unfold pkS at he; rw [if_pos hw] at he; simp at he
        have hpk : pkS (spanTo N xs ((0, 1) :: p) (i + 1) (i + 1)) = rawS (spanTo N xs ((0, 1) :: p) (i + 1) (i + 1)) := by
          unfold pkS; rw [if_neg (by rw [hw]; simp)]
        rw [hpk] at he ⊢
        have hck : ∀ k, k < i + 1 → okP (gq ((0, 1) :: p) k) = true := fun k hkk => by rw [gq_ck]; exact hk k (by omega)
        have I := cuts_in (fun k => (gq ((0, 1) :: p) k, ent N xs (i + 1) k, ent N xs k (i + 1))) (i + 1)
          (fun k hkk => ⟨(okP_vr (hck k hkk)).1, ent_vld h hi (by omega), ent_vld h (by omega) hi⟩) (by rw [← spanTo_cuts]; exact hw)
        rw [← spanTo_cuts] at I
        have eq : ∀ k, rv (gq ((0, 1) :: p) k) = qv p k := fun k => by unfold qv; rw [gq_ck]
        have room := cuts_cs I (fun k hkk => ⟨ent_vld h hi (by omega), ent_vld h (by omega) hi⟩)
          (fun k hkk => by
            show Mt (-rv (gq ((0, 1) :: p) k)) (ent N xs (i + 1) k)
            rw [eq]
            have m := hm 0 k (by omega) (by omega)
            rw [qv_zero, show (0 : Rat) - qv p k = -qv p k by grind] at m
            exact m.mono (vld_le (ent_vld h hi (by omega))) (ent_up h hi (by omega)))
          (fun k m hkk hmm => by
            show Mt (rv (gq ((0, 1) :: p) k) - rv (gq ((0, 1) :: p) m)) (lsum (ent N xs k (i + 1)) (ent N xs (i + 1) m))
            rw [eq, eq]
            exact (hm k m (by omega) (by omega)).mono (lsum_le (ent_vld h (by omega) hi) (ent_vld h hi (by omega))) (ent_tri h (by omega) (by omega) hi))
        obtain ⟨r1, r2⟩ := raw_in I.v room he
        obtain ⟨r3, r4⟩ := (I.mem _).1 r1
        generalize rawS (spanTo N xs ((0, 1) :: p) (i + 1) (i + 1)) = R at *
        obtain ⟨⟨xn, xd⟩, xe⟩ := R
        simp only at r1 r2 r3 r4 ⊢
        have xn0 : 0 ≤ xn := (rv_nonneg (vr_pos r2)).1 r3
        have lo : ∀ k, k ≤ i → qv (p ++ [(xn, xd)]) k = qv p k := fun k hkk => by unfold qv; rw [ck_app (by omega)]
        have la : qv (p ++ [(xn, xd)]) (i + 1) = rv (xn, xd) := by unfold qv; rw [← hl, ck_last]
        refine ⟨by rw [List.length_append, hl]; rfl, fun k hkk => ?_, fun a b ha hb => ?_⟩
        · by_cases e : k = i + 1
          · rw [e, ← hl, ck_last]; exact okP_of r2 xn0
          · rw [ck_app (by omega)]; exact hk k (by omega)
        · by_cases ea : a = i + 1
          · by_cases eb : b = i + 1
            · subst ea eb
              have : ent N xs (i + 1) (i + 1) = 1 := h.diagN hi
              rw [this]
              exact .inr (.inr ⟨by decide, by show _ ≤ ((0 : Int) : Rat); rw [Rat.intCast_zero]; grind⟩)
            · subst ea
              rw [la, lo b (by omega), ← eq]
              exact (r4 b (by omega)).1
          · by_cases eb : b = i + 1
            · subst eb
              rw [la, lo a (by omega), ← eq]
              exact (r4 a (by omega)).2
            · rw [lo a (by omega), lo b (by omega)]
              exact hm a b (by omega) (by omega)
      · rw [ptsF_bad hp he] at hp'; cases hp'
/-- A difference meets a limit. -/
theorem mt_iff {N : Nat} {W : List Int} {ps : List (Int × Int)} {i j : Nat} (hA : AllP ps ps.length) (hi : i ≤ ps.length) (hj : j ≤ ps.length) (hD : (dif ps i j).2 = 0) (hv : vld (ent N W i j) = true) :
    mt N W ps i j = true ↔ Mt (qv ps i - qv ps j) (ent N W i j) := by
  have vi := (okP_vr (ck_all hA hi)).1
  have vj := (okP_vr (ck_all hA hj)).1
  obtain ⟨d1, d2⟩ := sub_rv vi vj hD
  unfold mt
  have := meet_rv d1 hv
  show (meetR (dif ps i j).1.1 (dif ps i j).1.2 (ent N W i j)).1 = true ↔ _
  unfold dif
  rw [this]
  show Mt (rv (subR (ck ps i).1 (ck ps i).2 (ck ps j).1 (ck ps j).2).1) _ ↔ _
  rw [d2]
  exact Iff.rfl
/-- A point of Point is in the zone, unless a difference is out of range. -/
theorem point_has {n : Int} {xs : List Int} {q : List (Int × Int)} (h : pointF n xs = (q, 0)) : (hasF n xs q).2 = 7 ∨ hasF n xs q = (true, 0) := by
  by_cases hok : OkZ n xs
  rotate_left
  · rw [pointF_no hok] at h; simp at h
  obtain ⟨N, rfl⟩ := Int.eq_ofNat_of_zero_le hok.lo
  unfold pointF at h
  rw [if_pos (okErr_yes hok), Int.toNat_natCast] at h
  cases hp : ptsF N xs N with
  | none => rw [hp] at h; simp at h
  | some p =>
    rw [hp] at h
    obtain rfl : p = q := (Prod.mk.inj h).1
    obtain ⟨hl, hk, hm⟩ := pts_in hok N (Nat.le_refl _) p hp
    have hfit : Fit N xs p := ⟨hok, by omega⟩
    have hall : AllP p p.length := fun k hkk => by have := hk (k + 1) (by omega); unfold ck at this; rw [if_neg (by omega)] at this; exact this
    by_cases hD : AllD p p.length (p.length + 1)
    · right
      refine hasF_in (readyF_ok hfit hall hD) (fun i j hi hj => ?_)
      refine (mt_iff hall (by omega) hj (hD i j (by omega) hj) (by rw [hl]; exact ent_vld hok (by omega) (by omega))).2 ?_
      rw [hl]
      exact hm i j (by omega) (by omega)
    · left
      have e := readyF_range hfit hall hD
      rw [hasF_no e (by decide)]
end Go.Proofs.Ytkgaipcgdldfdaa
