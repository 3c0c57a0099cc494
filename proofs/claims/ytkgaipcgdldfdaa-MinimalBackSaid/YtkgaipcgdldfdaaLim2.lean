/- The program's sum of two limits, and the elements of a zone. -/
import Derived.Test.YtkgaipcgdldfdaaLim
import Derived.Test.YtkgaipcgdldfdaaMinP
import Derived.Test.YtkgaipcgdldfdaaWid1
namespace Go.Proofs.Ytkgaipcgdldfdaa
open Go.RowKit
set_option linter.unusedVariables false

theorem prog_both_c (a b : Int) (w : World) :
    Calls Try.prog 150 #[.int .i64 a, .int .i64 b, .func (.func 140) #[] #[]] w fun e w' => e = .returned (.tuple #[.int .i64 (a / 2), .int .i64 (b / 2)]) ∧ w = w' := by
  go_enter Try.func150, Try.ntmps150
  go_wp2_with (go_at_call 140; refine (prog_constant _ _).mono ?_; rintro e w' ⟨rfl, rfl⟩)
  go_ret2
  exact ⟨rfl, rfl⟩
theorem prog_both_s (a b : Int) (w : World) :
    Calls Try.prog 151 #[.int .i64 a, .int .i64 b, .func (.func 148) #[] #[]] w fun e w' => e = .returned (.tuple #[.bool (decide (a % 2 = 0)), .bool (decide (b % 2 = 0))]) ∧ w = w' := by
  go_enter Try.func151, Try.ntmps151
  go_wp2_with (go_at_call 148; refine (prog_strict _ _).mono ?_; rintro e w' ⟨rfl, rfl⟩)
  go_ret2
  exact ⟨rfl, rfl⟩
/-- The limit of a constant. -/
def ofF (c : Int) (s : Bool) : Int × Int := if c < -1073741824 ∨ 1073741824 < c then (0, 7) else (2 * c + (if s then 0 else 1), 0)
theorem or_one_i64 (a : Int) (h : a % 2 = 0) (h1 : -4294967296 ≤ a) (h2 : a ≤ 4294967296) : bits .or .i64 a 1 = a + 1 := by
  show IntKind.i64.wrap ((BitVec.ofInt 64 a ||| BitVec.ofInt 64 1).toNat : Int) = _
  rw [BitVec.toNat_or]
  have e1 : (BitVec.ofInt 64 1).toNat = 1 := by decide
  rw [e1]
  have ha := ofInt_toNat64 a
  generalize (BitVec.ofInt 64 a).toNat = x at *
  have hx : x % 2 = 0 := by omega
  have e : x ||| 1 = x + 1 := by
    obtain ⟨y, rfl⟩ : ∃ y, x = 2 * y := ⟨x / 2, by omega⟩
    have := Nat.two_pow_add_eq_or_of_lt (i := 1) (b := 1) (by decide) y
    rw [show 2 ^ 1 * y = 2 * y by rfl] at this
    omega
  rw [e, IntKind.wrap_i64]
  omega
theorem prog_of_lim (c : Int) (s : Bool) (w : World) :
    Calls Try.prog 152 #[.int .i64 c, .bool s] w fun e w' => e = .returned (.tuple #[.int .i64 (ofF c s).1, .int .i64 (ofF c s).2]) ∧ w = w' := by
  by_cases hc : c < -1073741824 ∨ 1073741824 < c
  · have hf : ofF c s = (0, 7) := by unfold ofF; rw [if_pos hc]
    rw [hf]
    by_cases h1 : c < -1073741824
    · go_enter Try.func152, Try.ntmps152
      go_wp2
      go_ret2
      exact ⟨rfl, rfl⟩
    · have h2 : 1073741824 < c := by omega
      go_enter Try.func152, Try.ntmps152
      go_wp2
      go_ret2
      exact ⟨rfl, rfl⟩
  · have h1 : ¬ c < -1073741824 := fun h => hc (.inl h)
    have h2 : ¬ 1073741824 < c := fun h => hc (.inr h)
    cases s with
    | true =>
      have hf : ofF c true = (c * 2, 0) := by unfold ofF; rw [if_neg hc]; simp; omega
      rw [hf]
      clear hf hc
      go_enter Try.func152, Try.ntmps152
      go_wp2
      go_ret2
      exact ⟨rfl, rfl⟩
    | false =>
      have hf : ofF c false = (c * 2 + 1, 0) := by unfold ofF; rw [if_neg hc]; simp; omega
      rw [hf]
      have ho := or_one_i64 (c * 2) (by omega) (by omega) (by omega)
      rw [← ho]
      clear hf hc ho
      go_enter Try.func152, Try.ntmps152
      go_wp2
      go_ret2
      exact ⟨rfl, rfl⟩
/-- The sum of two valid limits, with the error. -/
def addF (a b : Int) : Int × Int := if a = 1099511627776 ∨ b = 1099511627776 then (1099511627776, 0) else ofF (a / 2 + b / 2) (decide (a % 2 = 0) || decide (b % 2 = 0))
set_option maxHeartbeats 400000 in
theorem prog_add_lim (a b : Int) (w : World) (ha : vld a = true) (hb : vld b = true) :
    Calls Try.prog 144 #[.int .i64 a, .int .i64 b] w fun e w' => e = .returned (.tuple #[.int .i64 (addF a b).1, .int .i64 (addF a b).2]) ∧ w = w' := by
  have hr : ∀ l, vld l = true → -2147483648 ≤ l ∧ l ≤ 1099511627776 := fun l h => by rw [vld_iff] at h; omega
  have hra := hr a ha
  have hrb := hr b hb
  clear hr
  by_cases e1 : a = 1099511627776
  · have hf : addF a b = (1099511627776, 0) := by unfold addF; rw [if_pos (.inl e1)]
    rw [hf]
    have e1' : (a == 1099511627776) = true := by simpa using e1
    clear hf e1
    go_enter Try.func144, Try.ntmps144
    go_wp2_with (go_at_call 99; refine (prog_valid _ _).mono ?_; rintro e w1 ⟨rfl, rfl⟩)
    go_ret2
    exact ⟨rfl, rfl⟩
  have e1' : (a == 1099511627776) = false := by simpa using e1
  by_cases e2 : b = 1099511627776
  · have hf : addF a b = (1099511627776, 0) := by unfold addF; rw [if_pos (.inr e2)]
    rw [hf]
    have e2' : (b == 1099511627776) = true := by simpa using e2
    clear hf e2 e1
    go_enter Try.func144, Try.ntmps144
    go_wp2_with (go_at_call 99; refine (prog_valid _ _).mono ?_; rintro e w1 ⟨rfl, rfl⟩)
    go_ret2
    exact ⟨rfl, rfl⟩
  have e2' : (b == 1099511627776) = false := by simpa using e2
  have hf : addF a b = ofF (a / 2 + b / 2) (decide (a % 2 = 0) || decide (b % 2 = 0)) := by unfold addF; rw [if_neg (by omega)]
  rw [hf]
  clear hf e1 e2
  have hw : wrap64 (a / 2 + b / 2) = a / 2 + b / 2 := by unfold wrap64; omega
  go_enter Try.func144, Try.ntmps144
  go_wp2_with (first | (go_at_call 99; refine (prog_valid _ _).mono ?_; rintro e w1 ⟨rfl, rfl⟩) | (go_at_call 150; refine (prog_both_c _ _ _).mono ?_; rintro e w1 ⟨rfl, rfl⟩) | (go_at_call 151; refine (prog_both_s _ _ _).mono ?_; rintro e w1 ⟨rfl, rfl⟩) | (go_at_call 152; refine (prog_of_lim _ _ _).mono ?_; rintro e w1 ⟨rfl, rfl⟩))
  all_goals go_ret2
  · have h : a % 2 = 0 := by assumption
    rw [decide_eq_true h]
    exact ⟨rfl, rfl⟩
  · have h : ¬ a % 2 = 0 := by assumption
    rw [decide_eq_false h]
    exact ⟨rfl, rfl⟩

theorem adF_eq (a b : Int) : adF a b = if (addF a b).2 = 0 then (addF a b).1 else 1099511627776 := by
  unfold adF addF
  by_cases e : a = 1099511627776 ∨ b = 1099511627776
  · rw [if_pos e, if_pos e]; rfl
  rw [if_neg e, if_neg e]
  unfold ofF
  by_cases h : a / 2 + b / 2 < -1073741824 ∨ 1073741824 < a / 2 + b / 2
  · rw [if_pos h, if_neg (by omega)]; rfl
  · rw [if_neg h, if_pos (by omega)]
    show lsum a b = 2 * (a / 2 + b / 2) + _
    have hl : lsum a b = a + b - if a % 2 = 0 ∧ b % 2 = 0 then 0 else 1 := by
      unfold lsum; rw [if_neg e]; unfold wrap64; split <;> omega
    rw [hl]
    by_cases h1 : a % 2 = 0 <;> by_cases h2 : b % 2 = 0 <;> simp [h1, h2] <;> omega
set_option maxHeartbeats 400000 in
theorem prog_add (a b : Int) (w : World) (ha : vld a = true) (hb : vld b = true) :
    Calls Try.prog 121 #[.int .i64 a, .int .i64 b] w fun e w' => e = .returned (.int .i64 (adF a b)) ∧ w = w' := by
  rw [adF_eq]
  by_cases h : (addF a b).2 = 0
  · rw [if_pos h]
    go_enter Try.func121, Try.ntmps121
    go_wp2_with (go_at_call 144; refine (prog_add_lim _ _ _ ha hb).mono ?_; rintro e w1 ⟨rfl, rfl⟩)
    go_ret
    exact ⟨rfl, rfl⟩
  · rw [if_neg h]
    have h' : ((addF a b).2 != 0) = true := by simpa using h
    clear h
    go_enter Try.func121, Try.ntmps121
    go_wp2_with (go_at_call 144; refine (prog_add_lim _ _ _ ha hb).mono ?_; rintro e w1 ⟨rfl, rfl⟩)
    go_ret
    exact ⟨rfl, rfl⟩
set_option maxHeartbeats 400000 in
theorem prog_at (N : Nat) (vi vj : Int) (v : Value) (xs : List Int) (w : World) (hv : RL w.heap.size w v xs) (hN : N ≤ 10) (i0 : 0 ≤ vi) (i1 : vi ≤ N) (j0 : 0 ≤ vj) (j1 : vj ≤ N) (hx : xs.length = (N + 1) * (N + 1)) :
    Calls Try.prog 64 #[.agg #[.int .i64 N, v], .int .i64 vi, .int .i64 vj] w fun e w' => e = .returned (.int .i64 (gi xs (vi.toNat * (N + 1) + vj.toNat))) ∧ Below w.heap.size w w' := by
  obtain ⟨i, rfl⟩ := Int.eq_ofNat_of_zero_le i0
  obtain ⟨j, rfl⟩ := Int.eq_ofNat_of_zero_le j0
  have hi : i ≤ N := by omega
  have hj : j ≤ N := by omega
  rw [Int.toNat_natCast, Int.toNat_natCast]
  have hlt := idx_lt N i j hi hj
  rw [← hx] at hlt
  obtain ⟨ao, cap, rfl, hle, h0⟩ := hv.open
  obtain ⟨b, off, rfl, hb, hc⟩ := h0 (by omega)
  have hc' := hc _ hlt
  have h1 := idx_bd N i hN hi
  have hn := idx_nat N i j
  have hll : (i : Int) * ((N : Int) + 1) + (j : Int) < xs.length := by
    have e : ((i * (N + 1) + j : Nat) : Int) = (i : Int) * ((N : Int) + 1) + j := by push_cast; rfl
    omega
  have Hx := Lib.hid hx
  clear hx hc h0
  go_enter Try.func64, Try.ntmps64
  go_wp2
  go_ret
  exact ⟨rfl, (Below.refl _ _).alloc (Nat.le_refl _) _⟩

set_option maxHeartbeats 400000 in
theorem ref4_at (N : Nat) (vi vj : Int) (v : Value) (xs : List Int) (w : World) (hv : RL w.heap.size w v xs) (hN : N ≤ 10) (i0 : 0 ≤ vi) (i1 : vi ≤ N) (j0 : 0 ≤ vj) (j1 : vj ≤ N) (hx : xs.length = (N + 1) * (N + 1)) :
    Calls Try.prog 66 #[.agg #[.int .i64 N, v], .int .i64 vi, .int .i64 vj] w fun e w' => e = .returned (.int .i64 (gi xs (vi.toNat * (N + 1) + vj.toNat))) ∧ Below w.heap.size w w' := by
  obtain ⟨i, rfl⟩ := Int.eq_ofNat_of_zero_le i0
  obtain ⟨j, rfl⟩ := Int.eq_ofNat_of_zero_le j0
  have hi : i ≤ N := by omega
  have hj : j ≤ N := by omega
  rw [Int.toNat_natCast, Int.toNat_natCast]
  have hlt := idx_lt N i j hi hj
  rw [← hx] at hlt
  obtain ⟨ao, cap, rfl, hle, h0⟩ := hv.open
  obtain ⟨b, off, rfl, hb, hc⟩ := h0 (by omega)
  have hc' := hc _ hlt
  have h1 := idx_bd N i hN hi
  have hn := idx_nat N i j
  have hll : (i : Int) * ((N : Int) + 1) + (j : Int) < xs.length := by
    have e : ((i * (N + 1) + j : Nat) : Int) = (i : Int) * ((N : Int) + 1) + j := by push_cast; rfl
    omega
  have Hx := Lib.hid hx
  clear hx hc h0
  go_enter Try.func66, Try.ntmps66
  go_wp2
  go_ret
  exact ⟨rfl, (Below.refl _ _).alloc (Nat.le_refl _) _⟩

end Go.Proofs.Ytkgaipcgdldfdaa
