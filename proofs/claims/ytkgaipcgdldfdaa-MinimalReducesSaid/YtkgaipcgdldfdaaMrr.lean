/- The reference's reduced constraints. -/
import Derived.Test.YtkgaipcgdldfdaaMrk
import Derived.Test.YtkgaipcgdldfdaaMrd
import Derived.Test.YtkgaipcgdldfdaaZref3
namespace Go.Proofs.Ytkgaipcgdldfdaa
open Go.RowKit
set_option linter.unusedVariables false

theorem ref4_reduce_bad (n : Int) (v : Value) (xs : List Int) (w : World) (hv : RL w.heap.size w v xs) (hok : ¬ OkZ n xs) :
    Calls Try.prog 14 #[.agg #[.int .i64 n, v]] w fun e w' => e = .returned (.tuple #[.slice none 0 0, .int .i64 2]) ∧ Below w.heap.size w w' := by
  have he := okErr_no hok
  obtain ⟨aoz, capz, rfl, hlez, _⟩ := hv.open
  have hloc0 := Loc.one w (.cells #[.int .i64 n, .slice aoz xs.length capz] 24) none
  have Hv0 := Lib.hid (hv.keepb (below_grownBy hloc0.grown))
  clear hv hok
  go_enter Try.func14, Try.ntmps14
  go_wp2_with (go_at_call 26; refine (ref_check n _ xs _ Hv0.out).mono ?_; rw [he]; rintro e w1 ⟨rfl, hb1⟩)
  go_ret2
  exact ⟨rfl, below_grownBy (hloc0.next (grownBy_below hb1 none) (fun _ h => by cases h)).grown⟩

set_option maxRecDepth 100000 in
set_option maxHeartbeats 8000000 in
theorem ref4_reduce (N : Nat) (v : Value) (xs : List Int) (w : World) (hv : RL w.heap.size w v xs) (hok : OkZ N xs) :
    Calls Try.prog 14 #[.agg #[.int .i64 N, v]] w fun e w' => (∃ v', e = .returned (.tuple #[v', .int .i64 0]) ∧ OK3 62 w.heap.size w' v' (redTo N xs (kpB N xs) (N + 1))) ∧ Below w.heap.size w w' := by
  have he := okErr_yes hok
  have hN : N ≤ 10 := by have := hok.hi; omega
  have Hx := Lib.hid (show xs.length = (N + 1) * (N + 1) by have := hok.len; rwa [Int.toNat_natCast] at this)
  obtain ⟨aoz, capz, rfl, hlez, _⟩ := hv.open
  have hloc0 := Loc.one w (.cells #[.int .i64 N, .slice aoz xs.length capz] 24) none
  have Hv := Lib.hid hv
  have Hv0 := Lib.hid (hv.keepb (below_grownBy hloc0.grown))
  clear hv hok
  go_enter Try.func14, Try.ntmps14
  go_wp2_with fail
  refine (ref_check N _ xs _ Hv0.out).mono ?_
  rw [he]
  rintro e w1 ⟨rfl, hb1⟩
  have hloc1 := hloc0.next (grownBy_below hb1 none) (fun _ h => by cases h)
  clear hb1 hloc0 he
  go_wp2_with fail
  go_loopw [4, 5] (fun o i wr => ∃ q : Nat, q ≤ N + 1 ∧ i = .int .i64 q ∧ OK3 62 (w.heap.size + 1) wr o (redTo N xs (kpB N xs) q) ∧ Loc w wr none [.cells #[.int .i64 N, .slice aoz xs.length capz] 24]) (fun _ i _ => N + 1 - (intOf i).toNat)
  case atStart => exact ⟨0, by omega, rfl, ⟨rfl, .inl ⟨rfl, rfl⟩⟩, hloc1⟩
  case round =>
    clear hloc1
    obtain ⟨i, hi, rfl, hown, hloc⟩ := hrel
    have Hown := Lib.hid hown
    clear hown
    have c0 : wr.cell? ⟨w.heap.size, 0, none⟩ = some (.int .i64 N) := hloc.cell 0 rfl 0
    by_cases hlt : i ≤ N
    rotate_left
    · have hti : decide ((i : Int) ≤ (N : Int)) = false := by simp; omega
      obtain rfl : i = N + 1 := by omega
      go_wp2_with fail
      go_ret2
      exact ⟨⟨_, rfl, owns_mono Hown.out (by omega)⟩, below_grownBy hloc.grown⟩
    have hti : decide ((i : Int) ≤ (N : Int)) = true := by simp; omega
    go_wp2_with fail
    go_loopw [4, 6] (fun o j wr => ∃ q : Nat, q ≤ N + 1 ∧ j = .int .i64 q ∧ OK3 62 (w.heap.size + 1) wr o (redTo N xs (kpB N xs) i ++ redRow N xs (kpB N xs) i q) ∧ Loc w wr none [.cells #[.int .i64 N, .slice aoz xs.length capz] 24]) (fun _ j _ => N + 1 - (intOf j).toNat)
    case atStart => exact ⟨0, by omega, rfl, by rw [redRow, List.append_nil]; exact Hown.out, hloc⟩
    case round =>
      clear hloc c0 Hown
      obtain ⟨j, hj, rfl, hown, hloc⟩ := hrel
      have Hown := Lib.hid hown
      clear hown
      have c0 : wr.cell? ⟨w.heap.size, 0, none⟩ = some (.int .i64 N) := hloc.cell 0 rfl 0
      by_cases hlt2 : j ≤ N
      rotate_left
      · have htj : decide ((j : Int) ≤ (N : Int)) = false := by simp; omega
        have HQ := Lib.hid (show j = N + 1 by omega)
        go_wp2_with fail
        go_roundw
        case rel => exact ⟨i + 1, by omega, by go_num, by rw [redTo, ← HQ.out]; exact Hown.out, hloc⟩
        case measure => simp [intOf]; omega
      have htj : decide ((j : Int) ≤ (N : Int)) = true := by simp; omega
      have c1 : wr.cell? ⟨w.heap.size, 1, none⟩ = some (.slice aoz xs.length capz) := hloc.cell 0 rfl 1
      have HvD := Lib.hid (Hv.out.keepb (below_grownBy hloc.grown))
      go_wp2_with fail
      refine (ref_kept N i j _ xs _ HvD.out hN hlt hlt2 Hx.out).mono ?_
      cases hK : kpB N xs i j
      · have HP := Lib.hid hK
        clear hK
        rintro e w5 ⟨rfl, hb5⟩
        have hloc5 := hloc.next (grownBy_below hb5 none) (fun _ h => by cases h)
        have Hown5 := Lib.hid (Hown.out.keepb hb5)
        clear hb5 hloc Hown c0 c1
        go_wp2_with fail
        go_roundw
        case rel => exact ⟨j + 1, by omega, by go_num, by rw [redRow_skip HP.out]; exact Hown5.out, hloc5⟩
        case measure => simp [intOf]; omega
      have HP := Lib.hid hK
      clear hK
      rintro e w5 ⟨rfl, hb5⟩
      have hloc5 := hloc.next (grownBy_below hb5 none) (fun _ h => by cases h)
      have Hown5 := Lib.hid (Hown.out.keepb hb5)
      have c50 : w5.cell? ⟨w.heap.size, 0, none⟩ = some (.int .i64 N) := hloc5.cell 0 rfl 0
      have c51 : w5.cell? ⟨w.heap.size, 1, none⟩ = some (.slice aoz xs.length capz) := hloc5.cell 0 rfl 1
      have Hv5 := Lib.hid (Hv.out.keepb (below_grownBy hloc5.grown))
      clear hb5 hloc Hown c0 c1 HvD
      go_wp2_with fail
      refine (ref4_atN N i j _ xs _ Hv5.out hN hlt hlt2 Hx.out).mono ?_
      rintro e w6 ⟨rfl, hb6⟩
      have hloc6 := hloc5.next (grownBy_below hb6 none) (fun _ h => by cases h)
      have Hown6 := Lib.hid (Hown5.out.keepb hb6)
      have hC6 : w.heap.size + 1 ≤ w6.heap.size := hloc6.size
      have Hsm := Lib.hid (red_small (xs := xs) (kp := kpB N xs) (q := i) (i := i) (j := j) hN (by omega) (by omega))
      clear hb6 hloc5 c50 c51
      go_wp2_with (at_builtin; (refine wpList_append_k rfl (.tmp 26) (.tmp 34) 26 rfl 62 Try.undKs Try.infoK (w.heap.size + 1) u4 rfl (redTo N xs (kpB N xs) i ++ redRow N xs (kpB N xs) i j) ?_ ?_ (.slice (some ⟨w6.heap.size, 0, none⟩) 1 1) rfl [((i : Int), (j : Int), ent N xs i j)] (w6.heap.size + 1) ?_ ?_ ?_; (exact World.ownsRow.alloc Hown6.out _); (simp; omega); (exact rs_lit3 (w := w6) rfl rfl (by simp)); (have := Hsm.out; simp only [List.length_cons, List.length_nil]; omega); intro v' w' ho' hg'))
      have hloc7 := (hloc6.next (World.grownBy_alloc w6 _ none) (fun _ h => by cases h)).anyrow hg' (fun g h => by have := Hown6.out.lt g h; show w.heap.size + 1 ≤ g; omega)
      clear hg' hloc6
      go_roundw
      case rel => exact ⟨j + 1, by omega, by go_num, by rw [redRow_add HP.out, ← List.append_assoc]; exact ho', hloc7⟩
      case measure => simp [intOf]; omega
end Go.Proofs.Ytkgaipcgdldfdaa
