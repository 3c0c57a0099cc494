/- Next clock of a class, and which constraints are kept: the program's three methods. -/
import Derived.Test.YtkgaipcgdldfdaaMof
namespace Go.Proofs.Ytkgaipcgdldfdaa
open Go.RowKit
set_option linter.unusedVariables false

theorem cl_get {N : Nat} {xs : List Int} {k : Nat} (hN : N ≤ 10) (hk : k ≤ N) : ((clTo N xs (N + 1)).map (Value.int .i64)).toArray[k]? = some (.int .i64 (rpF N xs k)) := by
  rw [List.getElem?_toArray, List.getElem?_map]
  unfold clTo
  rw [List.getElem?_map, List.getElem?_range (by omega)]
  simp [show k < N + 1 by omega]
theorem nf_no {N : Nat} {xs : List Int} {i : Nat} (h : ∀ k, i < k → k ≤ N → rpF N xs k ≠ rpF N xs i) : nfF N xs i = rpF N xs i := by
  unfold nfF
  have : ((List.range (N + 1)).find? fun k => decide (i < k) && decide (rpF N xs k = rpF N xs i)) = none := by
    rw [List.find?_eq_none]
    intro k hk
    have := List.mem_range.1 hk
    simp only [Bool.and_eq_true, decide_eq_true_eq]
    rintro ⟨a, b⟩; exact h k a (by omega) b
  rw [this]; rfl
theorem nf_yes {N : Nat} {xs : List Int} {i q : Nat} (h : ∀ k, i < k → k < q → rpF N xs k ≠ rpF N xs i) (h1 : i < q) (h2 : q ≤ N) (h3 : rpF N xs q = rpF N xs i) : nfF N xs i = q := by
  unfold nfF
  have : ((List.range (N + 1)).find? fun k => decide (i < k) && decide (rpF N xs k = rpF N xs i)) = some q := by
    rw [List.find?_range_eq_some]
    refine ⟨by simp [h1, h3], List.mem_range.2 (by omega), fun k hk => ?_⟩
    simp only [Bool.not_eq_true', Bool.and_eq_false_iff, decide_eq_false_iff_not]
    by_cases e : i < k
    · exact .inr (h k e hk)
    · exact .inl e
  rw [this]; rfl
set_option maxRecDepth 100000 in
set_option maxHeartbeats 4000000 in
theorem prog_next (N i : Nat) (xs : List Int) (w : World) (hN : N ≤ 10) (hi : i ≤ N) :
    Calls Try.prog 122 #[.agg ((clTo N xs (N + 1)).map (Value.int .i64)).toArray, .int .i64 i, .int .i64 N] w fun e w' => e = .returned (.int .i64 (nfF N xs i)) ∧ Below w.heap.size w w' := by
  have HG := Lib.hid (show ∀ k, k ≤ N → ((clTo N xs (N + 1)).map (Value.int .i64)).toArray[k]? = some (.int .i64 (rpF N xs k)) from fun k hk => cl_get hN hk)
  generalize ((clTo N xs (N + 1)).map (Value.int .i64)).toArray = cs at *
  have hloc0 := Loc.one w (.cells cs 76) none
  have hi0 : (0 : Int) ≤ (i : Int) := by omega
  have hi11 : (i : Int) < 11 := by omega
  go_enter Try.func122, Try.ntmps122
  go_wp2_with fail
  go_loopw [7] (fun j wr => ∃ q : Nat, i < q ∧ q ≤ N + 1 ∧ j = .int .i64 q ∧ (∀ k, i < k → k < q → rpF N xs k ≠ rpF N xs i) ∧ Loc w wr none [.cells cs 76]) (fun j _ => N + 1 - (intOf j).toNat)
  case atStart => exact ⟨i + 1, by omega, by omega, by go_num, fun _ _ h => by omega, hloc0⟩
  case round =>
    clear hloc0
    obtain ⟨k, hik, hk, rfl, hno, hloc⟩ := hrel
    have Hno := Lib.hid hno
    clear hno
    have ci : wr.cell? ⟨w.heap.size, i, none⟩ = some (.int .i64 (rpF N xs i)) := (hloc.cell 0 rfl i).trans (HG.out i hi)
    by_cases hlt : k ≤ N
    · have hti : decide ((k : Int) ≤ (N : Int)) = true := by simp; omega
      have ck : wr.cell? ⟨w.heap.size, k, none⟩ = some (.int .i64 (rpF N xs k)) := (hloc.cell 0 rfl k).trans (HG.out k hlt)
      have hk0 : (0 : Int) ≤ (k : Int) := by omega
      have hk11 : (k : Int) < 11 := by omega
      by_cases hr : rpF N xs k = rpF N xs i
      · have Hres := Lib.hid (nf_yes Hno.out hik hlt hr)
        have hrb : ((rpF N xs k : Int) == (rpF N xs i : Int)) = true := by simp; omega
        clear hr
        generalize rpF N xs k = R at ck hrb
        generalize rpF N xs i = S at ci hrb
        go_wp2_with fail
        go_quiet (fail)
        go_wp2_with fail
        go_ret
        exact ⟨ret_int (by rw [Hres.out]), below_grownBy (hloc.next (grownBy_below (below_drewN _ _) none) (fun _ h => by cases h)).grown⟩
      · have Hst := Lib.hid (show ∀ j, i < j → j < k + 1 → rpF N xs j ≠ rpF N xs i from fun j h1 h2 => by
          rcases Nat.lt_or_ge j k with c | c
          · exact Hno.out j h1 c
          · rw [show j = k by omega]; exact hr)
        have hrb : ((rpF N xs k : Int) == (rpF N xs i : Int)) = false := by simp; omega
        clear hr
        generalize rpF N xs k = R at ck hrb
        generalize hS : rpF N xs i = S at ci hrb
        have HS := Lib.hid hS
        clear hS
        go_wp2_with fail
        go_quiet (fail)
        go_wp2_with fail
        go_roundw
        case rel => exact ⟨k + 1, by omega, by omega, by go_num, (fun j h1 h2 => HS.out ▸ Hst.out j h1 h2), hloc.next (grownBy_below (below_drewN _ _) none) (fun _ h => by cases h)⟩
        case measure => simp [intOf]; omega
    · have hti : decide ((k : Int) ≤ (N : Int)) = false := by simp; omega
      have Hres := Lib.hid (nf_no (N := N) (xs := xs) (i := i) fun j h1 h2 => Hno.out j h1 (by omega))
      generalize rpF N xs i = S at ci Hres
      go_wp2_with fail
      go_ret
      exact ⟨ret_int (by rw [Hres.out]), below_grownBy hloc.grown⟩
set_option maxRecDepth 100000 in
set_option maxHeartbeats 4000000 in
theorem prog_inside (N i j : Nat) (v : Value) (xs : List Int) (w : World) (hv : RL w.heap.size w v xs) (hok : OkZ N xs) (hi : i ≤ N) (hj : j ≤ N) :
    Calls Try.prog 63 #[.agg ((clTo N xs (N + 1)).map (Value.int .i64)).toArray, .agg #[.int .i64 N, v], .int .i64 i, .int .i64 j] w fun e w' => e = .returned (.bool (insB N xs i j)) ∧ Below w.heap.size w w' := by
  have hN : N ≤ 10 := by have := hok.hi; omega
  have Hx := Lib.hid (show xs.length = (N + 1) * (N + 1) by have := hok.len; rwa [Int.toNat_natCast] at this)
  obtain ⟨aoz, capz, rfl, hlez, _⟩ := hv.open
  have HC := Lib.hid (show ∀ w, Calls Try.prog 122 #[.agg ((clTo N xs (N + 1)).map (Value.int .i64)).toArray, .int .i64 i, .int .i64 N] w fun e w' => e = .returned (.int .i64 (nfF N xs i)) ∧ Below w.heap.size w w' from fun w => prog_next N i xs w hN hi)
  have hall : (((clTo N xs (N + 1)).map (Value.int .i64)).toArray).all (·.oneCell') = true := by simp; intros; rfl
  have hsz : (((clTo N xs (N + 1)).map (Value.int .i64)).toArray).size = 11 := by simp [clTo_len]
  generalize ((clTo N xs (N + 1)).map (Value.int .i64)).toArray = cs at *
  have hloc0 := Loc.two w (.cells cs 76) (.cells #[.int .i64 N, .slice aoz xs.length capz] 24) none
  have hrow := hloc0.objs 0 (by simp)
  have Hv := Lib.hid hv
  clear hv hok
  have Hres := Lib.hid (show insB N xs i j = (decide (nfF N xs i = j) && decide (0 < i ∨ ent N xs i j ≠ 1)) from rfl)
  go_enter Try.func63, Try.ntmps63
  go_wp2_with (first
    | (refine wpList_load_row rfl 76 _ rfl w.heap.size rfl 76 cs (0, 0) _ hrow Try.underlying76 rfl (by rw [hsz]; kernel_rfl) ?_))
  refine (HC.out _).mono ?_
  rintro e w1 ⟨rfl, hb1⟩
  have hloc1 := hloc0.next (grownBy_below hb1 none) (fun _ h => by cases h)
  have c0 : w1.cell? ⟨w.heap.size + 1, 0, none⟩ = some (.int .i64 N) := hloc1.cell 1 rfl 0
  have c1 : w1.cell? ⟨w.heap.size + 1, 1, none⟩ = some (.slice aoz xs.length capz) := hloc1.cell 1 rfl 1
  have Hv1 := Lib.hid (Hv.out.keepb (below_grownBy hloc1.grown))
  clear hloc0 hb1 hrow
  by_cases hA : nfF N xs i = j
  · have hAb : ((nfF N xs i : Int) == (j : Int)) = true := by simp; omega
    rw [decide_eq_true hA, Bool.true_and] at Hres
    clear hA
    generalize nfF N xs i = R at *
    by_cases hB : 0 < i
    · have hBb : decide ((0 : Int) < (i : Int)) = true := by simp; omega
      rw [decide_eq_true (.inl hB)] at Hres
      go_wp2_with fail
      go_ret
      exact ⟨ret_bool Hres.out.symm, below_grownBy hloc1.grown⟩
    · have hBb : decide ((0 : Int) < (i : Int)) = false := by simp; omega
      go_wp2_with (go_at_call 64; refine (prog_atN N i j _ xs _ Hv1.out hN hi hj Hx.out).mono ?_; rintro e w2 ⟨rfl, hb2⟩)
      go_ret
      refine ⟨ret_bool ?_, below_grownBy (hloc1.next (grownBy_below hb2 none) (fun _ h => by cases h)).grown⟩
      rw [Hres.out]
      by_cases h : ent N xs i j = 1 <;> simp [h, show ¬ 0 < i from hB]
  · have hAb : ((nfF N xs i : Int) == (j : Int)) = false := by simp; omega
    rw [decide_eq_false hA, Bool.false_and] at Hres
    clear hA
    generalize nfF N xs i = R at *
    go_wp2_with fail
    go_ret
    exact ⟨ret_bool Hres.out.symm, below_grownBy hloc1.grown⟩
end Go.Proofs.Ytkgaipcgdldfdaa
