/- The law's own limits: a matrix of numbers. -/
import Derived.Test.YtkgaipcgdldfdaaRst
import Derived.Test.YtkgaipcgdldfdaaEql
import Derived.Test.YtkgaipcgdldfdaaFil
namespace Go.Proofs.Ytkgaipcgdldfdaa
open Go.RowKit
set_option linter.unusedVariables false

/-- A literal list of numbers that has just been laid. -/
theorem rl_lit {w : World} {arr : Array Value} {e : Nat} {xs : List Int} {m : Nat} (h : arr.toList = xs.map (Value.int .i64)) (hm : m = xs.length) (hl : xs.length ≤ 1000) :
    RL (w.heap.size + 1) (w.alloc (.cells arr e)) (.slice (some ⟨w.heap.size, 0, none⟩) m m) xs := by
  subst hm
  refine .inr ⟨_, 0, none, _, rfl, Nat.le_refl _, by unfold maxLen; omega, fun h => by rw [List.eq_nil_of_length_eq_zero h]; rfl, fun _ => ⟨rfl, by simp, fun k hk => ?_⟩⟩
  rw [Nat.zero_add]
  refine (cell_of_row (w.alloc (.cells arr e)) _ k arr e (0, 0) (heap_alloc_new w _)).trans ?_
  rw [← h, Array.getElem?_toList]

set_option maxRecDepth 100000 in
set_option maxHeartbeats 2000000 in
theorem prog_limits (v : Value) (xs : List Int) (w : World) (hv : RL w.heap.size w v xs) (hl : xs.length ≤ 1000) :
    Calls Try.prog 68 #[v] w fun e w' => ∃ v', e = .returned v' ∧ OL 60 w.heap.size w' v' xs ∧ Below w.heap.size w w' := by
  obtain ⟨ao, cap, rfl, hle, h0⟩ := hv.open
  have H0 := Lib.hid h0
  obtain ⟨i0, hi, hz0, hz1, hz2⟩ := info_parts Try.infoLimit
  have Hi := Lib.hid hi
  have Hz0 := Lib.hid hz0
  have Hz1 := Lib.hid hz1
  have Hz2 := Lib.hid hz2
  have Hl := Lib.hid hl
  clear h0 hv hi hz0 hz1 hz2 hl
  go_enter Try.func68, Try.ntmps68
  go_wp2_with fail
  go_loopw [3, 4] (fun u3 i wr => ∃ q : Nat, q ≤ xs.length ∧ i = .int .i64 q ∧ OL 60 w.heap.size wr u3 (xs.take q) ∧ Below w.heap.size w wr) (fun _ i _ => xs.length - (intOf i).toNat)
  case atStart => exact ⟨0, by omega, rfl, OL.nil _ _ _, Below.refl _ _⟩
  case round =>
    obtain ⟨j, hj, rfl, hown, hb0⟩ := hrel
    by_cases hlt : j < xs.length
    · obtain ⟨b, off, rfl, hb, hc⟩ := H0.out (by omega)
      have x1 : wr.cell? ⟨b, off + j, none⟩ = some (.int .i64 (gi xs j)) := ((bcell hb0).1 _ _ hb).trans (hc j hlt)
      have y1 : (j : Int) < xs.length := by omega
      have HB := Lib.hid hb0
      have Hown := Lib.hid hown
      have Htk := Lib.hid (show xs.take (j + 1) = xs.take j ++ [gi xs j] by rw [List.take_succ_eq_append_getElem hlt, gi_of hlt])
      have htl := Lib.hid (show (xs.take j).length = j by rw [List.length_take]; omega)
      clear hc hb0 hown
      have Hsz := Lib.hid HB.out.size
      go_wp2_with (at_builtin; (refine wpList_append_rs rfl (.tmp 11) (.tmp 16) 22 rfl w.heap.size 60 i0 (.int .i64 0) 1 8 Try.undLimits Hi.out Hz0.out Hz1.out Hz2.out rfl (by decide) u3 (xs.take j).length ((xs.take j).map (Value.int .i64)) rfl ?_ (wr.heap.size + 1) (.slice (some ⟨wr.heap.size, 0, none⟩) 1 1) rfl 1 [.int .i64 (gi xs j)] ?_ rfl ?_ ?_ ?_ ?_ ?_; (exact World.ownsRow.alloc Hown.out _); (exact rl_lit (xs := [gi xs j]) rfl rfl (by simp)); (exact ints_oneCell' [gi xs j]); (rw [htl.out]; have := Hl.out; unfold maxLen; omega); (rw [htl.out]; have := Hl.out; omega); (simp; have := Hsz.out; omega); intro v' w' ho' hg'))
      have hb' : Below w.heap.size w w' := (HB.out.alloc Hsz.out _).grown hg' (by simp; have := Hsz.out; omega) (fun g e => (World.ownsRow.lt Hown.out g e).1)
      go_roundw
      case rel => exact ⟨j + 1, by omega, by go_num, by rw [Htk.out]; unfold OL; rw [List.length_append, List.map_append]; exact ho', hb'⟩
      case measure => simp [intOf]; omega
    · have hdj : decide ((j : Int) < (xs.length : Int)) = false := by simp; omega
      obtain rfl : j = xs.length := by omega
      rw [List.take_length] at hown
      go_wp2_with fail
      go_ret
      exact ⟨_, rfl, hown, hb0⟩
end Go.Proofs.Ytkgaipcgdldfdaa
