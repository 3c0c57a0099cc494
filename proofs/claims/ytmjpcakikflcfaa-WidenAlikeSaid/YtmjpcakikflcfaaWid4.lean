/- Contracts of the four rules of the program's Bounds. -/
import Derived.Test.YtmjpcakikflcfaaWid1
namespace Go.Proofs.Ytmjpcakikflcfaa
open Go.RowKit

def rule1 (low : List Int) (i : Nat) (l c : Int) : Bool := decide (l = 1099511627776 ∨ (1 ≤ i ∧ (gi low (i - 1) < 0 ∨ gi low (i - 1) < c)))
def rule2 (high : List Int) (j : Nat) : Bool := decide (1 ≤ j ∧ gi high (j - 1) < 0)
def rule3 (high : List Int) (j : Nat) (c : Int) : Bool := decide (1 ≤ j ∧ c < - gi high (j - 1))
theorem ret_tup2 {a b a' b' : Value} (h : a = a') (k : b = b') : Ending.returned (.tuple #[a, b]) = .returned (.tuple #[a', b']) := by rw [h, k]
theorem below_drewN (w : World) (n : Nat) : Below w.heap.size w (w.drewN n) := ⟨rfl, rfl, rfl, Nat.le_refl _, fun _ _ => rfl⟩

set_option maxHeartbeats 1000000 in
theorem prog_rule1 (i N bx : Nat) (j l c : Int) (lv : Value) (low : List Int) (w : World) (hl : RL w.heap.size w lv low) (hln : low.length = N) (hi : i ≤ N) (hc : w.cell? ⟨bx, 0, none⟩ = some lv) :
    Calls Try.prog 25 #[.int .i64 i, .int .i64 j, .int .i64 l, .int .i64 c, .pointer (some ⟨bx, 0, none⟩)] w fun e w' => e = .returned (.tuple #[.int .i64 1099511627776, .bool (rule1 low i l c)]) ∧ Below w.heap.size w w' := by
  obtain ⟨aol, capl, rfl, hlel, h0l⟩ := hl.open
  clear hl
  by_cases hn : l = 1099511627776
  · have hn' : (l == 1099511627776) = true := by simpa using hn
    have Hres := Lib.hid (show rule1 low i l c = true by unfold rule1; simp [hn])
    clear hn h0l
    go_enter Try.func25, Try.ntmps25
    go_wp2_with fail
    go_quiet (fail)
    go_wp2_with fail
    go_ret2
    exact ⟨ret_tup2 rfl (congrArg Value.bool Hres.out.symm), below_drewN _ _⟩
  · have hn' : (l == 1099511627776) = false := by simpa using hn
    by_cases hi1 : 1 ≤ i
    · obtain ⟨bl, offl, rfl, _, hcl⟩ := h0l (by omega)
      have xl := hcl (i - 1) (by omega)
      have w0 : IntKind.i64.wrap ((i : Int) - 1) = (i : Int) - 1 := IntWalk.i64_in _ (by omega)
      have w1 : ((i : Int) - 1).toNat = i - 1 := by omega
      have w2 : (0 : Int) ≤ (i : Int) - 1 := by omega
      have w3 : (i : Int) - 1 < low.length := by omega
      have d1 : (0 : Int) < (i : Int) := by omega
      have d1' : 0 < i := hi1
      have Hln := Lib.hid hln
      have Hn := Lib.hid hn
      clear hcl h0l hln hn
      by_cases hneg : gi low (i - 1) < 0
      · have Hres := Lib.hid (show rule1 low i l c = true by unfold rule1; simp only [decide_eq_true_eq]; exact .inr ⟨hi1, .inl hneg⟩)
        go_enter Try.func25, Try.ntmps25
        go_wp2_with fail
        go_quiet (fail)
        go_wp2_with fail
        go_ret2
        exact ⟨ret_tup2 rfl (congrArg Value.bool Hres.out.symm), below_drewN _ _⟩
      · have d2 : decide (gi low (i - 1) < 0) = false := by simp; omega
        have Hres := Lib.hid (show rule1 low i l c = decide (gi low (i - 1) < c) by
          unfold rule1; rw [Bool.eq_iff_iff]; simp only [decide_eq_true_eq]
          have := Hn.out; omega)
        go_enter Try.func25, Try.ntmps25
        go_wp2_with fail
        go_quiet (fail)
        go_wp2_with fail
        go_ret2
        exact ⟨ret_tup2 rfl (congrArg Value.bool Hres.out.symm), below_drewN _ _⟩
    · have d1 : decide ((0 : Int) < (i : Int)) = false := by simp; omega
      have d1' : decide (0 < i) = false := by simp; omega
      have Hres := Lib.hid (show rule1 low i l c = false by unfold rule1; simp only [decide_eq_false_iff_not]; omega)
      clear h0l hn
      go_enter Try.func25, Try.ntmps25
      go_wp2_with fail
      go_quiet (fail)
      go_wp2_with fail
      go_ret2
      exact ⟨ret_tup2 rfl (congrArg Value.bool Hres.out.symm), below_drewN _ _⟩

/-- What rule 2 returns. -/
def r2val (high : List Int) (i j : Nat) : Value := .tuple #[.int .i64 (if i = 0 then 1 else 1099511627776), .bool (rule2 high j)]
theorem r2_zero {high : List Int} {i j : Nat} {b : Bool} (hi : i = 0) (h : rule2 high j = b) : Ending.returned (.tuple #[.int .i64 1, .bool b]) = .returned (r2val high i j) := by unfold r2val; rw [h, if_pos hi]
theorem r2_more {high : List Int} {i j : Nat} {b : Bool} (hi : ¬ i = 0) (h : rule2 high j = b) : Ending.returned (.tuple #[.int .i64 1099511627776, .bool b]) = .returned (r2val high i j) := by unfold r2val; rw [h, if_neg hi]
set_option maxHeartbeats 1000000 in
theorem prog_rule2 (i j N bx : Nat) (l c : Int) (hgv : Value) (high : List Int) (w : World) (hh : RL w.heap.size w hgv high) (hhn : high.length = N) (hj : j ≤ N) (hc : w.cell? ⟨bx, 0, none⟩ = some hgv) :
    Calls Try.prog 26 #[.int .i64 i, .int .i64 j, .int .i64 l, .int .i64 c, .pointer (some ⟨bx, 0, none⟩)] w fun e w' => e = .returned (r2val high i j) ∧ Below w.heap.size w w' := by
  obtain ⟨aoh, caph, rfl, hleh, h0h⟩ := hh.open
  clear hh
  by_cases hj1 : 1 ≤ j
  · obtain ⟨bh, offh, rfl, _, hch⟩ := h0h (by omega)
    have xh := hch (j - 1) (by omega)
    have w0 : IntKind.i64.wrap ((j : Int) - 1) = (j : Int) - 1 := IntWalk.i64_in _ (by omega)
    have w1 : ((j : Int) - 1).toNat = j - 1 := by omega
    have w2 : (0 : Int) ≤ (j : Int) - 1 := by omega
    have w3 : (j : Int) - 1 < high.length := by omega
    have d1 : (0 : Int) < (j : Int) := by omega
    have d1' : 0 < j := hj1
    have Hres := Lib.hid (show rule2 high j = decide (gi high (j - 1) < 0) by unfold rule2; rw [Bool.eq_iff_iff]; simp only [decide_eq_true_eq]; omega)
    have Hhn := Lib.hid hhn
    clear hch h0h hhn
    by_cases hi : i = 0
    · have di : ((i : Int) == 0) = true := by simp; omega
      have Hi := Lib.hid hi
      clear hi
      go_enter Try.func26, Try.ntmps26
      go_wp2_with fail
      go_quiet (fail)
      go_wp2_with fail
      go_ret2
      exact ⟨r2_zero Hi.out Hres.out, below_drewN _ _⟩
    · have di : ((i : Int) == 0) = false := by simp; omega
      have Hi := Lib.hid hi
      clear hi
      go_enter Try.func26, Try.ntmps26
      go_wp2_with fail
      go_quiet (fail)
      go_wp2_with fail
      go_ret2
      exact ⟨r2_more Hi.out Hres.out, below_drewN _ _⟩
  · have d1 : decide ((0 : Int) < (j : Int)) = false := by simp; omega
    have d1' : decide (0 < j) = false := by simp; omega
    have Hres := Lib.hid (show rule2 high j = false by unfold rule2; simp only [decide_eq_false_iff_not]; omega)
    clear h0h
    by_cases hi : i = 0
    · have di : ((i : Int) == 0) = true := by simp; omega
      have Hi := Lib.hid hi
      clear hi
      go_enter Try.func26, Try.ntmps26
      go_wp2_with fail
      go_quiet (fail)
      go_wp2_with fail
      go_ret2
      exact ⟨r2_zero Hi.out Hres.out, below_drewN _ _⟩
    · have di : ((i : Int) == 0) = false := by simp; omega
      have Hi := Lib.hid hi
      clear hi
      go_enter Try.func26, Try.ntmps26
      go_wp2_with fail
      go_quiet (fail)
      go_wp2_with fail
      go_ret2
      exact ⟨r2_more Hi.out Hres.out, below_drewN _ _⟩

/-- What rule 3 returns. -/
def r3val (high : List Int) (j : Nat) (c : Int) : Value := .tuple #[.int .i64 (if rule3 high j c then -2 * gi high (j - 1) else 0), .bool (rule3 high j c)]
theorem r3_yes {high : List Int} {j : Nat} {c : Int} (h : rule3 high j c = true) : Ending.returned (.tuple #[.int .i64 (-2 * gi high (j - 1)), .bool true]) = .returned (r3val high j c) := by unfold r3val; rw [h]; rfl
theorem r3_no {high : List Int} {j : Nat} {c : Int} (h : rule3 high j c = false) : Ending.returned (.tuple #[.int .i64 0, .bool false]) = .returned (r3val high j c) := by unfold r3val; rw [h]; rfl
set_option maxHeartbeats 1000000 in
theorem prog_rule3 (j N bx : Nat) (i l c : Int) (hgv : Value) (high : List Int) (w : World) (hh : RL w.heap.size w hgv high) (hhn : high.length = N) (hj : j ≤ N) (hc : w.cell? ⟨bx, 0, none⟩ = some hgv) (hb : ∀ k, k < N → -1 ≤ gi high k ∧ gi high k ≤ 1048576) :
    Calls Try.prog 27 #[.int .i64 i, .int .i64 j, .int .i64 l, .int .i64 c, .pointer (some ⟨bx, 0, none⟩)] w fun e w' => e = .returned (r3val high j c) ∧ Below w.heap.size w w' := by
  obtain ⟨aoh, caph, rfl, hleh, h0h⟩ := hh.open
  clear hh
  by_cases hj1 : 1 ≤ j
  · obtain ⟨bh, offh, rfl, _, hch⟩ := h0h (by omega)
    have xh := hch (j - 1) (by omega)
    have w3 : (j : Int) - 1 < high.length := by omega
    obtain ⟨b1, b2⟩ := hb (j - 1) (by omega)
    have d1 : ((j : Int) == 0) = false := by simp; omega
    have Hhn := Lib.hid hhn
    clear hch h0h hhn hb
    by_cases hcc : c < - gi high (j - 1)
    · have Hres := Lib.hid (show rule3 high j c = true by unfold rule3; simp only [decide_eq_true_eq]; exact ⟨hj1, hcc⟩)
      go_enter Try.func27, Try.ntmps27
      go_wp2_with fail
      go_ret2
      exact ⟨r3_yes Hres.out, Below.refl _ _⟩
    · have hcc' : - gi high (j - 1) ≤ c := by omega
      have Hres := Lib.hid (show rule3 high j c = false by unfold rule3; simp only [decide_eq_false_iff_not]; omega)
      clear hcc
      go_enter Try.func27, Try.ntmps27
      go_wp2_with fail
      go_ret2
      exact ⟨r3_no Hres.out, Below.refl _ _⟩
  · have d1 : ((j : Int) == 0) = true := by simp; omega
    have Hres := Lib.hid (show rule3 high j c = false by unfold rule3; simp only [decide_eq_false_iff_not]; omega)
    clear h0h hb
    go_enter Try.func27, Try.ntmps27
    go_wp2_with fail
    go_ret2
    exact ⟨r3_no Hres.out, Below.refl _ _⟩

theorem prog_rule4 (i j l c : Int) (w : World) :
    Calls Try.prog 28 #[.int .i64 i, .int .i64 j, .int .i64 l, .int .i64 c] w fun e w' => e = .returned (.tuple #[.int .i64 l, .bool true]) ∧ Below w.heap.size w w' := by
  go_enter Try.func28, Try.ntmps28
  go_wp2_with fail
  go_ret2
  exact ⟨rfl, Below.refl _ _⟩
theorem spC_eq {l : Int} (hv : vld l = true) (hn : ¬ l = 1099511627776) : spC l = l / 2 := by unfold spC; rw [spE_ok hv hn]; rfl
theorem wid_r1 {low high : List Int} {i j : Nat} {l : Int} (hv : vld l = true) (hlo : 1 ≤ i → -1 ≤ gi low (i - 1)) (h : rule1 low i l (spC l) = true) : wid low high i j l = 1099511627776 := by
  unfold rule1 at h
  simp only [decide_eq_true_eq] at h
  unfold wid
  by_cases hn : l = 1099511627776
  · rw [if_pos hn]
  · rw [spC_eq hv hn] at h
    rw [if_neg hn, if_pos]
    have : 1 ≤ i ∧ (gi low (i - 1) < 0 ∨ gi low (i - 1) < l / 2) := by omega
    have := hlo this.1
    omega
/-- Where rule 1 does not apply. -/
structure Not1 (low : List Int) (i : Nat) (l : Int) : Prop where
  nl : ¬ l = 1099511627776
  c : spC l = l / 2
  lo : 1 ≤ i → 0 ≤ gi low (i - 1) ∧ l / 2 ≤ gi low (i - 1)
theorem not1 {low : List Int} {i : Nat} {l : Int} (hv : vld l = true) (h : rule1 low i l (spC l) = false) : Not1 low i l := by
  unfold rule1 at h
  simp only [decide_eq_false_iff_not] at h
  have hn : ¬ l = 1099511627776 := fun e => h (.inl e)
  refine ⟨hn, spC_eq hv hn, fun hi => ?_⟩
  rw [spC_eq hv hn] at h
  omega
theorem wid_r2 {low high : List Int} {i j : Nat} {l : Int} (hhi : 1 ≤ j → -1 ≤ gi high (j - 1)) (h1 : Not1 low i l) (h : rule2 high j = true) : wid low high i j l = if i = 0 then 1 else 1099511627776 := by
  unfold rule2 at h
  simp only [decide_eq_true_eq] at h
  unfold wid
  have := h1.lo
  have := hhi h.1
  rw [if_neg h1.nl, if_neg (by omega), if_pos (by omega)]
theorem wid_r3 {low high : List Int} {i j : Nat} {l : Int} (h1 : Not1 low i l) (h2 : rule2 high j = false) (h : rule3 high j (spC l) = true) : wid low high i j l = -2 * gi high (j - 1) := by
  unfold rule2 at h2
  unfold rule3 at h
  simp only [decide_eq_true_eq, decide_eq_false_iff_not] at h h2
  rw [h1.c] at h
  unfold wid
  have := h1.lo
  rw [if_neg h1.nl, if_neg (by omega), if_neg (by omega), if_pos h]
theorem wid_r4 {low high : List Int} {i j : Nat} {l : Int} (h1 : Not1 low i l) (h2 : rule2 high j = false) (h : rule3 high j (spC l) = false) : wid low high i j l = l := by
  unfold rule2 at h2
  unfold rule3 at h
  simp only [decide_eq_false_iff_not] at h h2
  rw [h1.c] at h
  unfold wid
  have := h1.lo
  rw [if_neg h1.nl, if_neg (by omega), if_neg (by omega), if_neg h]
/-- The first q rules do not apply. -/
structure NA (low high : List Int) (i j : Nat) (l : Int) (q : Nat) : Prop where
  r1 : 1 ≤ q → rule1 low i l (spC l) = false
  r2 : 2 ≤ q → rule2 high j = false
  r3 : 3 ≤ q → rule3 high j (spC l) = false
end Go.Proofs.Ytmjpcakikflcfaa
