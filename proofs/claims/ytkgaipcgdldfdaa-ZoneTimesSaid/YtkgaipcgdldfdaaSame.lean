/- The contract of the reference's Same. -/
import Derived.Test.YtkgaipcgdldfdaaLim
import Derived.Test.YtkgaipcgdldfdaaWidP
namespace Go.Proofs.Ytkgaipcgdldfdaa
open Go.RowKit

/-- Are two zones the same? -/
def sameB (n n2 : Int) (xs ys : List Int) : Bool := decide (n = n2 ∧ xs = ys)
def EqTo (xs ys : List Int) (q : Nat) : Prop := ∀ k, k < q → gi xs k = gi ys k
theorem EqTo.succ {xs ys : List Int} {q : Nat} (h : EqTo xs ys q) (h' : gi xs q = gi ys q) : EqTo xs ys (q + 1) := fun k hk => by
  by_cases e : k = q
  · subst e; exact h'
  · exact h k (by omega)
set_option maxHeartbeats 1000000 in
theorem ref_same (n n2 : Int) (v v2 : Value) (xs ys : List Int) (w : World) (hv : RL w.heap.size w v xs) (hv2 : RL w.heap.size w v2 ys) :
    Calls Try.prog 16 #[.agg #[.int .i64 n, v], .agg #[.int .i64 n2, v2]] w fun e w' => e = .returned (.bool (sameB n n2 xs ys)) ∧ Below w.heap.size w w' := by
  obtain ⟨ao, cap, rfl, hle, h0⟩ := hv.open
  obtain ⟨ao2, cap2, rfl, hle2, h02⟩ := hv2.open
  have hloc0 := Loc.two w (.cells #[.int .i64 n, (.slice ao xs.length cap)] 24) (.cells #[.int .i64 n2, (.slice ao2 ys.length cap2)] 24) none
  have Hv := Lib.hid hv
  have Hv2 := Lib.hid hv2
  clear hv hv2
  by_cases hn : n = n2
  · have hn' : (n != n2) = false := by simpa using hn
    by_cases hl : xs.length = ys.length
    · have hl' : ((xs.length : Int) != (ys.length : Int)) = false := by simp; omega
      have Hn := Lib.hid hn
      have Hl := Lib.hid hl
      clear hn hl
      go_enter Try.func16, Try.ntmps16
      go_wp2_with fail
      go_loopw [5] (fun i wr => ∃ q : Nat, q ≤ xs.length ∧ i = .int .i64 q ∧ EqTo xs ys q ∧ Loc w wr none [.cells #[.int .i64 n, (.slice ao xs.length cap)] 24, .cells #[.int .i64 n2, (.slice ao2 ys.length cap2)] 24]) (fun i _ => xs.length - (intOf i).toNat)
      case atStart => exact ⟨0, by omega, rfl, fun _ h => by omega, hloc0⟩
      case round =>
        clear hloc0
        obtain ⟨j, hj, rfl, heq, hloc⟩ := hrel
        have Heq := Lib.hid heq
        clear heq
        have c1 : wr.cell? ⟨w.heap.size, 1, none⟩ = some (.slice ao xs.length cap) := hloc.cell 0 rfl 1
        have c2 : wr.cell? ⟨w.heap.size + 1, 1, none⟩ = some (.slice ao2 ys.length cap2) := hloc.cell 1 rfl 1
        by_cases hlt : j < xs.length
        · obtain ⟨b, off, rfl, hb, hc⟩ := h0 (by omega)
          obtain ⟨b2, off2, rfl, hb2, hc2⟩ := h02 (by have := Hl.out; omega)
          have x1 : wr.cell? ⟨b, off + j, none⟩ = some (.int .i64 (gi xs j)) := ((bcell (below_grownBy hloc.grown)).1 _ _ hb).trans (hc j hlt)
          have x2 : wr.cell? ⟨b2, off2 + j, none⟩ = some (.int .i64 (gi ys j)) := ((bcell (below_grownBy hloc.grown)).1 _ _ hb2).trans (hc2 j (by have := Hl.out; omega))
          have y1 : (j : Int) < xs.length := by omega
          have y2 : (j : Int) < ys.length := by have := Hl.out; omega
          clear hc hc2 h0 h02
          by_cases he : gi xs j = gi ys j
          · have he' : (gi xs j != gi ys j) = false := by simpa using he
            have He := Lib.hid he
            clear he
            go_wp2_with fail
            go_quiet (fail)
            go_wp2_with fail
            go_roundw
            case rel => exact ⟨j + 1, by omega, by go_num, Heq.out.succ He.out, hloc.next (grownBy_below (below_drewN _ _) none) (fun _ h => by cases h)⟩
            case measure => simp [intOf]; omega
          · have he' : (gi xs j != gi ys j) = true := by simpa using he
            have hres := Lib.hid (show sameB n n2 xs ys = false by unfold sameB; simp only [decide_eq_false_iff_not]; exact fun h => he (by rw [h.2]))
            clear he
            go_wp2_with fail
            go_quiet (fail)
            go_wp2_with fail
            go_ret
            exact ⟨ret_bool hres.out.symm, (below_grownBy hloc.grown).trans ((below_drewN _ _).mono hloc.grown.size)⟩
        · have hdj : decide ((j : Int) < (xs.length : Int)) = false := by simp; omega
          have hres := Lib.hid (show sameB n n2 xs ys = true by unfold sameB; simp only [decide_eq_true_eq]; exact ⟨Hn.out, ext_gi Hl.out (fun k hk => Heq.out k (by omega))⟩)
          go_wp2_with fail
          go_ret
          exact ⟨ret_bool hres.out.symm, below_grownBy hloc.grown⟩
    · have hl' : ((xs.length : Int) != (ys.length : Int)) = true := by simp; omega
      have hres := Lib.hid (show sameB n n2 xs ys = false by unfold sameB; simp only [decide_eq_false_iff_not]; exact fun h => hl (by rw [h.2]))
      clear hn hl h0 h02
      go_enter Try.func16, Try.ntmps16
      go_wp2_with fail
      go_ret
      exact ⟨ret_bool hres.out.symm, below_grownBy hloc0.grown⟩
  · have hn' : (n != n2) = true := by simpa using hn
    have hres := Lib.hid (show sameB n n2 xs ys = false by unfold sameB; simp only [decide_eq_false_iff_not]; exact fun h => hn h.1)
    clear hn h0 h02
    go_enter Try.func16, Try.ntmps16
    go_wp2_with fail
    go_ret
    exact ⟨ret_bool hres.out.symm, below_grownBy hloc0.grown⟩
theorem sameB_refl (n : Int) (xs : List Int) : sameB n n xs xs = true := by simp [sameB]
end Go.Proofs.Ytkgaipcgdldfdaa
