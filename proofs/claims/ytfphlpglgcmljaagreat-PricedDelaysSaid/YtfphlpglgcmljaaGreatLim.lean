/- The contracts of the limits' functions: what each returns, the world left as it was. -/
import Derived.Test.YtfphlpglgcmljaaGreatBase
namespace Go.Proofs.YtfphlpglgcmljaaGreat
open Go.RowKit

set_option maxHeartbeats 400000 in
theorem ref_valid (l : Int) (w : World) :
    Calls Tryz.prog 125 #[.int .i64 l] w fun e w' => e = .returned (.bool (vld l)) ∧ w = w' := by
  go_enter Tryz.func125, Tryz.ntmps125
  go_wp2
  all_goals go_ret
  all_goals exact ⟨ret_bool (by rw [Bool.eq_iff_iff, vld_iff]; simp <;> omega), rfl⟩

theorem prog_constant (l : Int) (w : World) :
    Calls Tryz.prog 169 #[.int .i64 l] w fun e w' => e = .returned (.int .i64 (l / 2)) ∧ w = w' := by
  go_enter Tryz.func169, Tryz.ntmps169
  go_wp2
  go_ret
  exact ⟨rfl, rfl⟩
set_option maxHeartbeats 400000 in
theorem prog_valid (l : Int) (w : World) :
    Calls Tryz.prog 132 #[.int .i64 l] w fun e w' => e = .returned (.bool (vld l)) ∧ w = w' := by
  go_enter Tryz.func132, Tryz.ntmps132
  go_wp2_with (go_at_call 169; refine (prog_constant _ _).mono ?_; rintro e w' ⟨rfl, rfl⟩)
  all_goals go_ret
  all_goals exact ⟨ret_bool (by rw [Bool.eq_iff_iff, vld_iff]; simp <;> omega), rfl⟩
set_option maxHeartbeats 400000 in
theorem prog_sum (a b : Int) (w : World) :
    Calls Tryz.prog 157 #[.int .i64 a, .int .i64 b] w fun e w' => e = .returned (.int .i64 (lsum a b)) ∧ w = w' := by
  go_enter Tryz.func157, Tryz.ntmps157
  go_wp2
  all_goals go_ret
  · exact ⟨ret_int (lsum_nl _ _ (.inl ‹_›)).symm, rfl⟩
  · exact ⟨ret_int (lsum_nl _ _ (by have h : (a == 1099511627776) = true ∨ (b == 1099511627776) = true := by assumption
                                    simpa using h)).symm, rfl⟩
  · have h : (a == 1099511627776) = false ∧ (b == 1099511627776) = false := by assumption
    simp at h
    exact ⟨ret_int (lsum_bits _ _ h.1 h.2), rfl⟩
set_option maxHeartbeats 400000 in
theorem ref_sum (a b : Int) (w : World) :
    Calls Tryz.prog 159 #[.int .i64 a, .int .i64 b] w fun e w' => e = .returned (.int .i64 (lsum a b)) ∧ w = w' := by
  go_enter Tryz.func159, Tryz.ntmps159
  go_wp2
  all_goals go_ret
  · exact ⟨ret_int (lsum_nl _ _ (.inl ‹_›)).symm, rfl⟩
  · exact ⟨ret_int (lsum_nl _ _ (by have h : (a == 1099511627776) = true ∨ (b == 1099511627776) = true := by assumption
                                    simpa using h)).symm, rfl⟩
  all_goals
    have h : (a == 1099511627776) = false ∧ (b == 1099511627776) = false := by assumption
    simp at h
    refine ⟨ret_int ?_, rfl⟩
  · have k : (b.tmod 2 != 0) = true := by assumption
    exact lsum_odd _ _ h.1 h.2 (.inr (by simpa using k))
  · have k : (b.tmod 2 != 0) = false := by assumption
    exact lsum_even _ _ h.1 h.2 (by assumption) (by simpa using k)
  · exact lsum_odd _ _ h.1 h.2 (.inl (by assumption))
end Go.Proofs.YtfphlpglgcmljaaGreat

