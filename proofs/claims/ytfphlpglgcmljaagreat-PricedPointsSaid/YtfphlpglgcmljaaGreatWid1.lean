/- Contracts of the small functions of widening. -/
import Derived.Test.YtfphlpglgcmljaaGreatLim
import Derived.Test.YtfphlpglgcmljaaGreatWidP
namespace Go.Proofs.YtfphlpglgcmljaaGreat
open Go.RowKit

theorem and_one_i64 (a : Int) : bits .and .i64 a 1 = a % 2 := by
  show IntKind.i64.wrap ((BitVec.ofInt 64 a &&& BitVec.ofInt 64 1).toNat : Int) = _
  rw [BitVec.toNat_and]
  have h1 : (BitVec.ofInt 64 1).toNat = 1 := by decide
  rw [h1, Nat.and_one_is_mod]
  have ha := ofInt_toNat64 a
  generalize (BitVec.ofInt 64 a).toNat = x at *
  rw [IntKind.wrap_i64]
  omega
theorem tdiv_even (l : Int) (h : l % 2 = 0) : l.tdiv 2 = l / 2 := Int.tdiv_eq_ediv_of_dvd (Int.dvd_of_emod_eq_zero h)
theorem tdiv_odd (l : Int) (h : ¬ l % 2 = 0) : (l - 1).tdiv 2 = l / 2 := by
  rw [Int.tdiv_eq_ediv_of_dvd (Int.dvd_of_emod_eq_zero (by omega))]; omega
set_option maxHeartbeats 400000 in
theorem ref_split (l : Int) (w : World) :
    Calls Tryz.prog 141 #[.int .i64 l] w fun e w' => e = .returned (.tuple #[.int .i64 (spC l), .bool (spS l), .int .i64 (spE l)]) ∧ w = w' := by
  by_cases hv : vld l = true
  · by_cases hn : l = 1099511627776
    · have he := spE_nl hn
      have hc : spC l = 0 := by unfold spC; rw [he]; rfl
      have hs : spS l = false := by unfold spS; rw [he]; rfl
      have hn' : (l == 1099511627776) = true := by simpa using hn
      have Hf := Lib.hid (And.intro he (And.intro hc hs))
      clear hn he hc hs
      go_enter Tryz.func141, Tryz.ntmps141
      go_wp2_with (go_at_call 125; refine (ref_valid _ _).mono ?_; rintro e w1 ⟨rfl, rfl⟩)
      go_ret3
      exact ⟨by rw [Hf.out.1, Hf.out.2.1, Hf.out.2.2]; rfl, rfl⟩
    · have he := spE_ok hv hn
      have hc : spC l = l / 2 := by unfold spC; rw [he]; rfl
      have hs : spS l = decide (l % 2 = 0) := by unfold spS; rw [he]; rfl
      have hn' : (l == 1099511627776) = false := by simpa using hn
      have hb : -2147483648 ≤ l ∧ l ≤ 2147483649 := by rw [vld_iff] at hv; omega
      obtain ⟨hb1, hb2⟩ := hb
      have Hf := Lib.hid (And.intro he (And.intro hc hs))
      clear hn he hc hs
      by_cases hev : l % 2 = 0
      · have ht : (l.tmod 2 == 0) = true := by rw [beq_iff_eq, tmod2_zero]; exact hev
        have Hev := Lib.hid hev
        clear hev
        go_enter Tryz.func141, Tryz.ntmps141
        go_wp2_with (go_at_call 125; refine (ref_valid _ _).mono ?_; rintro e w1 ⟨rfl, rfl⟩)
        go_ret3
        exact ⟨by rw [Hf.out.1, Hf.out.2.1, Hf.out.2.2, decide_eq_true Hev.out, ← tdiv_even l Hev.out]; rfl, rfl⟩
      · have ht : (l.tmod 2 == 0) = false := by rw [beq_eq_false_iff_ne]; intro h; exact hev ((tmod2_zero l).1 h)
        have Hev := Lib.hid hev
        clear hev
        go_enter Tryz.func141, Tryz.ntmps141
        go_wp2_with (go_at_call 125; refine (ref_valid _ _).mono ?_; rintro e w1 ⟨rfl, rfl⟩)
        go_ret3
        exact ⟨by rw [Hf.out.1, Hf.out.2.1, Hf.out.2.2, decide_eq_false Hev.out, ← tdiv_odd l Hev.out]; rfl, rfl⟩
  · have hv' : vld l = false := by simpa using hv
    have he := spE_bad hv'
    have hc : spC l = 0 := by unfold spC; rw [he]; rfl
    have hs : spS l = false := by unfold spS; rw [he]; rfl
    have Hf := Lib.hid (And.intro he (And.intro hc hs))
    clear hv he hc hs
    go_enter Tryz.func141, Tryz.ntmps141
    go_wp2_with (go_at_call 125; refine (ref_valid _ _).mono ?_; rintro e w1 ⟨rfl, rfl⟩)
    go_ret3
    exact ⟨by rw [Hf.out.1, Hf.out.2.1, Hf.out.2.2]; rfl, rfl⟩
end Go.Proofs.YtfphlpglgcmljaaGreat

