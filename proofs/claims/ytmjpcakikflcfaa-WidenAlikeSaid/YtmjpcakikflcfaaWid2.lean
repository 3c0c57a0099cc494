/- Contracts of the reference's widened, and of the constants' tests. -/
import Derived.Test.YtmjpcakikflcfaaWid1
namespace Go.Proofs.Ytmjpcakikflcfaa
open Go.RowKit

theorem all_take_of {xs : List Int} {p : Int → Bool} (h : ∀ k, k < xs.length → p (gi xs k) = true) : xs.all p = true := by
  rw [List.all_eq_true]; intro x hx
  obtain ⟨k, hk, rfl⟩ := List.getElem_of_mem hx
  rw [← gi_of hk]; exact h k hk
def cOk (c : Int) : Bool := decide (-1 ≤ c ∧ c ≤ 1048576)
theorem cstF_eq (n : Int) (k : List Int) : cstF n k = (k.all cOk && decide ((k.length : Int) = n)) := rfl

set_option maxHeartbeats 400000 in
theorem ref_constants (n : Int) (zv v : Value) (k : List Int) (w : World) (hz : ∃ ao l c, zv = .slice ao l c) (hv : RL w.heap.size w v k) :
    Calls Try.prog 32 #[.agg #[.int .i64 n, zv], v] w fun e w' => e = .returned (.bool (cstF n k)) ∧ Below w.heap.size w w' := by
  obtain ⟨aoz, lz, cz, rfl⟩ := hz
  obtain ⟨ao, cap, rfl, hle, h0⟩ := hv.open
  clear hv
  go_enter Try.func32, Try.ntmps32
  go_wp2_with fail
  go_loop [5] (fun i => ∃ q : Nat, q ≤ k.length ∧ i = .int .i64 q ∧ (k.take q).all cOk = true) (fun i => k.length - (intOf i).toNat)
  case atStart => exact ⟨0, by omega, rfl, rfl⟩
  case round =>
    obtain ⟨j, hj, rfl, hval⟩ := hrel
    have Hval := Lib.hid hval
    clear hval
    by_cases hlt : j < k.length
    · obtain ⟨b, off, rfl, hb, hc⟩ := h0 (by omega)
      have hcj := hc j hlt
      clear hc h0
      by_cases h1 : gi k j < -1
      · have hres := Lib.hid (show cstF n k = false by rw [cstF_eq, Bool.and_eq_false_iff]; left; rw [Bool.eq_false_iff]; exact not_all_of hlt (by unfold cOk; simp; omega))
        go_wp2_with fail
        go_ret
        exact ⟨ret_bool hres.out.symm, (Below.refl _ _).alloc (Nat.le_refl _) _⟩
      · by_cases h2 : 1048576 < gi k j
        · have hres := Lib.hid (show cstF n k = false by rw [cstF_eq, Bool.and_eq_false_iff]; left; rw [Bool.eq_false_iff]; exact not_all_of hlt (by unfold cOk; simp; omega))
          go_wp2_with fail
          go_ret
          exact ⟨ret_bool hres.out.symm, (Below.refl _ _).alloc (Nat.le_refl _) _⟩
        · have Hok := Lib.hid (show cOk (gi k j) = true by unfold cOk; simp; omega)
          go_wp2_with fail
          go_round
          case rel => exact ⟨j + 1, by omega, by go_num, all_take_succ Hval.out hlt Hok.out⟩
          case measure => simp [intOf]; omega
    · have hdj : decide ((j : Int) < (k.length : Int)) = false := by simp; omega
      have hres := Lib.hid (show cstF n k = ((k.length : Int) == n) by
        rw [cstF_eq]
        have := Hval.out
        rw [List.take_of_length_le (by omega)] at this
        rw [this, Bool.true_and, Bool.eq_iff_iff]; simp)
      go_wp2_with fail
      go_ret
      exact ⟨ret_bool hres.out.symm, (Below.refl _ _).alloc (Nat.le_refl _) _⟩

set_option maxHeartbeats 400000 in
theorem prog_constants (n : Int) (zv v : Value) (k : List Int) (w : World) (hz : ∃ ao l c, zv = .slice ao l c) (hv : RL w.heap.size w v k) :
    Calls Try.prog 24 #[.agg #[.int .i64 n, zv], v] w fun e w' => e = .returned (.bool (cstF n k)) ∧ Below w.heap.size w w' := by
  obtain ⟨aoz, lz, cz, rfl⟩ := hz
  obtain ⟨ao, cap, rfl, hle, h0⟩ := hv.open
  clear hv
  go_enter Try.func24, Try.ntmps24
  go_wp2_with fail
  go_loop [9] (fun i => ∃ q : Nat, q ≤ k.length ∧ i = .int .i64 q ∧ (k.take q).all cOk = true) (fun i => k.length - (intOf i).toNat)
  case atStart => exact ⟨0, by omega, rfl, rfl⟩
  case round =>
    obtain ⟨j, hj, rfl, hval⟩ := hrel
    have Hval := Lib.hid hval
    clear hval
    by_cases hlt : j < k.length
    · obtain ⟨b, off, rfl, hb, hc⟩ := h0 (by omega)
      have hcj := hc j hlt
      clear hc h0
      by_cases h1 : gi k j < -1
      · have hres := Lib.hid (show cstF n k = false by rw [cstF_eq, Bool.and_eq_false_iff]; left; rw [Bool.eq_false_iff]; exact not_all_of hlt (by unfold cOk; simp; omega))
        go_wp2_with fail
        go_ret
        exact ⟨ret_bool hres.out.symm, (Below.refl _ _).alloc (Nat.le_refl _) _⟩
      · by_cases h2 : 1048576 < gi k j
        · have hres := Lib.hid (show cstF n k = false by rw [cstF_eq, Bool.and_eq_false_iff]; left; rw [Bool.eq_false_iff]; exact not_all_of hlt (by unfold cOk; simp; omega))
          go_wp2_with fail
          go_ret
          exact ⟨ret_bool hres.out.symm, (Below.refl _ _).alloc (Nat.le_refl _) _⟩
        · have Hok := Lib.hid (show cOk (gi k j) = true by unfold cOk; simp; omega)
          go_wp2_with fail
          go_round
          case rel => exact ⟨j + 1, by omega, by go_num, all_take_succ Hval.out hlt Hok.out⟩
          case measure => simp [intOf]; omega
    · have hdj : decide ((j : Int) < (k.length : Int)) = false := by simp; omega
      have hres := Lib.hid (show cstF n k = ((k.length : Int) == n) by
        rw [cstF_eq]
        have := Hval.out
        rw [List.take_of_length_le (by omega)] at this
        rw [this, Bool.true_and, Bool.eq_iff_iff]; simp)
      go_wp2_with fail
      go_ret
      exact ⟨ret_bool hres.out.symm, (Below.refl _ _).alloc (Nat.le_refl _) _⟩

set_option maxHeartbeats 1000000 in
theorem ref_widened (l : Int) (i j N : Nat) (lv hgv : Value) (low high : List Int) (w : World) (hl : RL w.heap.size w lv low) (hh : RL w.heap.size w hgv high) (hln : low.length = N) (hhn : high.length = N)
    (hi : i ≤ N) (hj : j ≤ N) (hv : vld l = true) (hb : ∀ k, k < N → -1 ≤ gi high k ∧ gi high k ≤ 1048576) :
    Calls Try.prog 33 #[.int .i64 l, .int .i64 i, .int .i64 j, lv, hgv] w fun e w' => e = .returned (.int .i64 (wid low high i j l)) ∧ w = w' := by
  obtain ⟨aol, capl, rfl, hlel, h0l⟩ := hl.open
  obtain ⟨aoh, caph, rfl, hleh, h0h⟩ := hh.open
  clear hl hh
  by_cases hn : l = 1099511627776
  · have he := spE_nl hn
    have Hres := Lib.hid (show wid low high i j l = 1099511627776 by unfold wid; rw [if_pos hn])
    clear hn hv hb h0l h0h
    go_enter Try.func33, Try.ntmps33
    go_wp2_with (go_at_call 57; refine (ref_split _ _).mono ?_; rintro e w1 ⟨rfl, rfl⟩)
    go_ret
    exact ⟨ret_int Hres.out.symm, rfl⟩
  · have he := spE_ok hv hn
    have hc : spC l = l / 2 := by unfold spC; rw [he]; rfl
    have Hn := Lib.hid hn
    clear hn hv
    by_cases hi1 : 1 ≤ i
    · obtain ⟨bl, offl, rfl, _, hcl⟩ := h0l (by omega)
      have xl := hcl (i - 1) (by omega)
      have xll : (i : Int) - 1 < low.length := by omega
      have ei : (i : Int) - 1 = ((i - 1 : Nat) : Int) := by omega
      have Hln := Lib.hid hln
      have Hhn := Lib.hid hhn
      have Hei := Lib.hid ei
      clear hln hhn hcl h0l ei
      by_cases hj1 : 1 ≤ j
      · obtain ⟨bh, offh, rfl, _, hch⟩ := h0h (by have := Hhn.out; omega)
        have xh := hch (j - 1) (by have := Hhn.out; omega)
        have xhl : (j : Int) - 1 < high.length := by have := Hhn.out; omega
        obtain ⟨hb1, hb2⟩ := hb (j - 1) (by omega)
        clear hch h0h hb
        go_enter Try.func33, Try.ntmps33
        go_wp2_with (go_at_call 57; refine (ref_split _ _).mono ?_; rw [hc]; rintro e w1 ⟨rfl, rfl⟩)
        all_goals
          go_ret
          refine ⟨ret_int ?_, rfl⟩
          have hn := Hn.out
          try simp only [beq_iff_eq, beq_eq_false_iff_ne, ne_eq] at *
          unfold wid
          (repeat' split) <;> omega
      · clear h0h hb
        go_enter Try.func33, Try.ntmps33
        go_wp2_with (go_at_call 57; refine (ref_split _ _).mono ?_; rw [hc]; rintro e w1 ⟨rfl, rfl⟩)
        all_goals
          go_ret
          refine ⟨ret_int ?_, rfl⟩
          have hn := Hn.out
          try simp only [beq_iff_eq, beq_eq_false_iff_ne, ne_eq] at *
          unfold wid
          (repeat' split) <;> omega
    · clear h0l
      by_cases hj1 : 1 ≤ j
      · obtain ⟨bh, offh, rfl, _, hch⟩ := h0h (by omega)
        have xh := hch (j - 1) (by omega)
        have xhl : (j : Int) - 1 < high.length := by omega
        obtain ⟨hb1, hb2⟩ := hb (j - 1) (by omega)
        have Hln := Lib.hid hln
        have Hhn := Lib.hid hhn
        clear hch h0h hb hln hhn
        go_enter Try.func33, Try.ntmps33
        go_wp2_with (go_at_call 57; refine (ref_split _ _).mono ?_; rw [hc]; rintro e w1 ⟨rfl, rfl⟩)
        all_goals
          go_ret
          refine ⟨ret_int ?_, rfl⟩
          have hn := Hn.out
          try simp only [beq_iff_eq, beq_eq_false_iff_ne, ne_eq] at *
          unfold wid
          (repeat' split) <;> omega
      · clear h0h hb hln hhn
        go_enter Try.func33, Try.ntmps33
        go_wp2_with (go_at_call 57; refine (ref_split _ _).mono ?_; rw [hc]; rintro e w1 ⟨rfl, rfl⟩)
        all_goals
          go_ret
          refine ⟨ret_int ?_, rfl⟩
          have hn := Hn.out
          try simp only [beq_iff_eq, beq_eq_false_iff_ne, ne_eq] at *
          unfold wid
          (repeat' split) <;> omega
end Go.Proofs.Ytmjpcakikflcfaa
