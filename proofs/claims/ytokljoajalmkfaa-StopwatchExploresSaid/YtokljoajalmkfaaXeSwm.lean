/- Part of the proof of stopwatch_explores_proved: Swm. -/
import Derived.Test.YtokljoajalmkfaaXeSwz
import Derived.Test.YtokljoajalmkfaaXeSww
import Derived.Test.YtokljoajalmkfaaXeSwh
namespace Go.Proofs.Ytokljoajalmkfaa
open Go Go.RowKit
set_option linter.unusedVariables false
set_option linter.unusedSimpArgs false
set_option linter.unnecessarySimpa false
def xsA : List Q4 := [⟨2, 2, 1, 1⟩]
def xsB : List Q4 := [⟨2, 2, 1, 2⟩, ⟨4, 4, 2, 1⟩]
def xsC : List Q4 := [⟨2, 2, 1, 2⟩, ⟨4, 3, 2, 1⟩]
theorem res_a : resX (worstX (plX xsA 1)) = some ([1], 2) := by decide +kernel
theorem res_b : (resX (worstX (plX xsB 2))).map (·.1) = some [1, 4] := by decide +kernel
theorem res_c : noX (worstX (plX xsC 2)) = true := by decide +kernel
theorem plX_no (xs : List Q4) (k : Nat) : hasS (plX xs k) = false := by
 unfold hasS; rw [List.any_eq_false]
 intro x hx
 obtain ⟨j, _, rfl⟩ := List.mem_map.1 hx
 simp [plN]
theorem plX_short {xs : List Q4} {k : Nat} (hk : k ≤ 8) : ¬ longB (plX xs k) := by
 rintro (h | ⟨j, hj, h⟩)
 ·rw [plX_len] at h; omega
 ·have := hasS_no.1 (plX_no xs k) j hj; omega
theorem val_a : valK (plX xsA 1) 1 := by unfold valK okT; decide +kernel
theorem val_b : valK (plX xsB 2) 2 := by unfold valK okT; decide +kernel
theorem val_c : valK (plX xsC 2) 2 := by unfold valK okT; decide +kernel
theorem worE_pl {xs : List Q4} {k : Nat} (hk : k ≤ 8) (h0 : 0 < k) (hv : valK (plX xs k) k) {w w' : World} {e : Ending} (h : WorE (plX xs k) w e w') : Below w.heap.size w w' ∧ PlnE w.heap.size (worstX (plX xs k)) e w' := by
 refine ⟨h.1, ?_⟩
 rcases h.2 with ⟨q, _⟩ | ⟨_, q, _⟩ | ⟨_, _, _, _, q⟩
 ·exact absurd q (plX_short hk)
 ·rcases q with q | q
  ·rw [plX_no] at q; cases q
  ·exact absurd ⟨by rw [plX_len]; exact h0, by rw [plX_len]; exact hv⟩ q
 ·exact q
theorem go_of {r : Rx} {x : List Int} {n : Nat} (h : resX r = some (x, n)) {base : Nat} {e : Ending} {w : World} (hp : PlnE base r e w) : ∃ v, e = .returned (.tuple #[v, .int .i64 (n : Int), .bool true, .int .i64 0]) ∧ OE cdI 2 base w v x := by
 cases r with
 | go q =>
  injection h with h; injection h with h1 h2
  subst h1; subst h2; exact hp
 | no => cases h
 | long => cases h
theorem pl_pr (xs : List Q4) (k : Nat) (h : ∀ j, j < k → (ge cd4 xs j).pr ≤ 9223372036854775807) : ∀ j, j < (plX xs k).length → (tk (plX xs k) j).pr ≤ 9223372036854775807 := fun j hj => by
 have hj' : j < k := by rwa [plX_len] at hj
 have e : tk (plX xs k) j = plN xs j := by
  unfold tk; rw [ge_of cdTk hj]; simp [plX]
 rw [e]; exact h j hj'
theorem own_rl {w : World} {v : Value} {xs : List Int} {t : Nat} (h : (Rs.own cdI t v xs).ok w) : RL w.heap.size w v xs := by
 have h1 := own_rx (c := cdI) (by decide) h
 have hcv : xs.flatMap cdI.cells = xs.map (Value.int .i64) := by
  clear h h1
  induction xs with
  | nil => rfl
  | cons v vs ih => rw [List.map_cons, List.flatMap_cons, ih]; rfl
 unfold RX at h1
 rw [hcv] at h1
 exact h1
theorem row_rl {w : World} {b t : Nat} (xs : List Int) {cells : List Value} (hc : cells = xs.flatMap cdI.cells) (hl : xs.length ≤ maxLen) (h : (Rs.row b cells t).ok w) : RL w.heap.size w (.slice (some ⟨b, 0, none⟩) xs.length xs.length) xs := own_rl (row_own cdI xs hc hl w h)
set_option maxRecDepth 20000 in
set_option maxHeartbeats 4000000 in
theorem law_shown (w : World) : Calls Try.prog 5 #[] w fun e w' => e = .returned (.bool true) ∧ Below w.heap.size w w' := by
 obtain ⟨nb, hb⟩ : ∃ n, resX (worstX (plX xsB 2)) = some ([1, 4], n) := by
  have h := res_b
  cases q : resX (worstX (plX xsB 2)) with
  | none => rw [q] at h; cases h
  | some p =>
   rw [q] at h
   injection h with h
   obtain ⟨p1, p2⟩ := p
   dsimp only at h
   subst h
   exact ⟨p2, rfl⟩
 have hcw : worstX (plX xsC 2) = .no := by
  have h := res_c
  cases q : worstX (plX xsC 2) with
  | no => rfl
  | go q' => rw [q] at h; cases h
  | long => rw [q] at h; cases h
 have hpl : ∀ (xs : List Q4) (b : Nat) (cells : List Value) (w2 : World), xs.length ≤ 8 → cells = xs.flatMap cd4.cells → (Rs.row b cells 34).ok w2 → Calls Try.prog 14 #[.slice (some ⟨b, 0, none⟩) xs.length xs.length] w2 fun e w' => ∃ v', e = .returned v' ∧ OE cdTk 37 w2.heap.size w' v' (plX xs xs.length) ∧ Below w2.heap.size w2 w' := fun xs b cells w2 h8 hc h => law_plain _ xs w2 (own_rx (by decide) (row_own cd4 xs hc (by simp only [maxLen]; omega) w2 h)) h8
 have hwa : ∀ v w2, (Rs.own cdTk 37 v (plX xsA 1)).ok w2 → Calls Try.prog 8 #[v] w2 fun e w' => ∃ u, e = .returned (.tuple #[u, .int .i64 2, .bool true, .int .i64 0]) ∧ OE cdI 2 w2.heap.size w' u [1] ∧ Below w2.heap.size w2 w' := fun v w2 h => (prog_worst v (plX xsA 1) w2 (plX_ts h) (pl_pr xsA 1 (by decide))).mono fun e w' h => by
  obtain ⟨h1, h2⟩ := worE_pl (by decide) (by decide) val_a h
  obtain ⟨u, h3, h4⟩ := go_of res_a h2
  exact ⟨u, h3, h4, h1⟩
 have hwb : ∀ v w2, (Rs.own cdTk 37 v (plX xsB 2)).ok w2 → Calls Try.prog 8 #[v] w2 fun e w' => ∃ u, e = .returned (.tuple #[u, .int .i64 (nb : Int), .bool true, .int .i64 0]) ∧ OE cdI 2 w2.heap.size w' u [1, 4] ∧ Below w2.heap.size w2 w' := fun v w2 h => (prog_worst v (plX xsB 2) w2 (plX_ts h) (pl_pr xsB 2 (by decide))).mono fun e w' h => by
  obtain ⟨h1, h2⟩ := worE_pl (by decide) (by decide) val_b h
  obtain ⟨u, h3, h4⟩ := go_of hb h2
  exact ⟨u, h3, h4, h1⟩
 have hwc : ∀ v w2, (Rs.own cdTk 37 v (plX xsC 2)).ok w2 → Calls Try.prog 8 #[v] w2 fun e w' => e = .returned (.tuple #[.slice none 0 0, .int .i64 0, .bool false, .int .i64 0]) ∧ Below w2.heap.size w2 w' := fun v w2 h => (prog_worst v (plX xsC 2) w2 (plX_ts h) (pl_pr xsC 2 (by decide))).mono fun e w' h => by
  obtain ⟨h1, h2⟩ := worE_pl (by decide) (by decide) val_c h
  rw [hcw] at h2
  exact ⟨h2, h1⟩
 refine calls_open Try.func5 rfl Try.ntmps5 rfl ?_
 dsimp only [argK]
 repeat (refine CW.seq ?_)
 refine CW.region ?_
 refine SL.val rfl rfl (Gd.g0 rfl) (Yd.assign rfl) ?_
 first | refine SL.nil_then ?_ | refine SL.nil ?_
 repeat (refine CW.seq ?_)
 refine CW.region ?_
 refine SL.val rfl rfl (Gd.g0 rfl) (Yd.build rfl (by rfl)) ?_
 refine SL.efD rfl rfl (Gd.g0 rfl) (Ef.buildSlice rfl se_68 rfl rfl rfl rfl) (fun b15 => ?_)
 try dsimp only [Value.cells, List.flatMap_cons, List.flatMap_nil]
 refine SL.callO (V := fun v => v) rfl rfl (Gd.g0 rfl) (Cll.func rfl cf_14) (fun w2 hw => hpl xsA _ _ w2 (by decide) rfl (hw.ok 0 _ rfl)) (fun v16 => ?_)
 refine SL.callO (V := fun u => .tuple #[u, .int .i64 2, .bool true, .int .i64 0]) rfl rfl (Gd.g0 rfl) (Cll.func rfl cf_8) (fun w2 hw => hwa _ w2 (hw.ok 0 _ rfl)) (fun v17 => ?_)
 refine SL.val rfl rfl (Gd.g0 rfl) (Yd.move rfl) ?_
 refine SL.val rfl rfl (Gd.g0 rfl) (Yd.extract rfl rfl) ?_
 refine SL.val rfl rfl (Gd.g0 rfl) (Yd.extract rfl rfl) ?_
 refine SL.val rfl rfl (Gd.g0 rfl) (Yd.extract rfl rfl) ?_
 refine SL.val rfl rfl (Gd.g0 rfl) (Yd.extract rfl rfl) ?_
 refine SL.val rfl rfl (Gd.g0 rfl) (Yd.assign rfl) ?_
 refine SL.val rfl rfl (Gd.g0 rfl) (Yd.assign rfl) ?_
 refine SL.val rfl rfl (Gd.g0 rfl) (Yd.assign rfl) ?_
 refine SL.val rfl rfl (Gd.g0 rfl) (Yd.assign rfl) ?_
 first | refine SL.nil_then ?_ | refine SL.nil ?_
 repeat (refine CW.seq ?_)
 refine CW.region ?_
 refine SL.val rfl rfl (Gd.g0 rfl) (Yd.build rfl (by rfl)) ?_
 refine SL.val rfl rfl (Gd.g0 rfl) (Yd.build rfl (by rfl)) ?_
 refine SL.efD rfl rfl (Gd.g0 rfl) (Ef.buildSlice rfl se_68 rfl rfl rfl rfl) (fun b25 => ?_)
 try dsimp only [Value.cells, List.flatMap_cons, List.flatMap_nil]
 refine SL.callO (V := fun v => v) rfl rfl (Gd.g0 rfl) (Cll.func rfl cf_14) (fun w2 hw => hpl xsB _ _ w2 (by decide) rfl (hw.ok 0 _ rfl)) (fun v26 => ?_)
 refine SL.callO (V := fun u => .tuple #[u, .int .i64 (nb : Int), .bool true, .int .i64 0]) rfl rfl (Gd.g0 rfl) (Cll.func rfl cf_8) (fun w2 hw => hwb _ w2 (hw.ok 0 _ rfl)) (fun v27 => ?_)
 refine SL.val rfl rfl (Gd.g0 rfl) (Yd.move rfl) ?_
 refine SL.val rfl rfl (Gd.g0 rfl) (Yd.extract rfl rfl) ?_
 refine SL.val rfl rfl (Gd.g0 rfl) (Yd.extract rfl rfl) ?_
 refine SL.val rfl rfl (Gd.g0 rfl) (Yd.extract rfl rfl) ?_
 refine SL.val rfl rfl (Gd.g0 rfl) (Yd.extract rfl rfl) ?_
 refine SL.val rfl rfl (Gd.g0 rfl) (Yd.assign rfl) ?_
 refine SL.val rfl rfl (Gd.g0 rfl) (Yd.assign rfl) ?_
 refine SL.val rfl rfl (Gd.g0 rfl) (Yd.assign rfl) ?_
 refine SL.val rfl rfl (Gd.g0 rfl) (Yd.assign rfl) ?_
 first | refine SL.nil_then ?_ | refine SL.nil ?_
 repeat (refine CW.seq ?_)
 refine CW.region ?_
 refine SL.val rfl rfl (Gd.g0 rfl) (Yd.build rfl (by rfl)) ?_
 refine SL.val rfl rfl (Gd.g0 rfl) (Yd.build rfl (by rfl)) ?_
 refine SL.efD rfl rfl (Gd.g0 rfl) (Ef.buildSlice rfl se_68 rfl rfl rfl rfl) (fun b35 => ?_)
 try dsimp only [Value.cells, List.flatMap_cons, List.flatMap_nil]
 refine SL.callO (V := fun v => v) rfl rfl (Gd.g0 rfl) (Cll.func rfl cf_14) (fun w2 hw => hpl xsC _ _ w2 (by decide) rfl (hw.ok 0 _ rfl)) (fun v36 => ?_)
 refine SL.callB rfl rfl (Gd.g0 rfl) (Cll.func rfl cf_8) (fun w hw => hwc _ w (hw.ok 0 _ rfl)) ?_
 refine SL.val rfl rfl (Gd.g0 rfl) (Yd.move rfl) ?_
 refine SL.val rfl rfl (Gd.g0 rfl) (Yd.extract rfl rfl) ?_
 refine SL.val rfl rfl (Gd.g0 rfl) (Yd.extract rfl rfl) ?_
 refine SL.val rfl rfl (Gd.g0 rfl) (Yd.extract rfl rfl) ?_
 refine SL.val rfl rfl (Gd.g0 rfl) (Yd.extract rfl rfl) ?_
 refine SL.val rfl rfl (Gd.g0 rfl) (Yd.assign rfl) ?_
 refine SL.val rfl rfl (Gd.g0 rfl) (Yd.assign rfl) ?_
 refine SL.val rfl rfl (Gd.g0 rfl) (Yd.assign rfl) ?_
 refine SL.val rfl rfl (Gd.g0 rfl) (Yd.assign rfl) ?_
 first | refine SL.nil_then ?_ | refine SL.nil ?_
 have hs1 : ∀ v b cells w2, (Rs.own cdI 2 v [1]).ok w2 → cells = [1].flatMap cdI.cells → (Rs.row b cells 2).ok w2 → Calls Try.prog 10 #[v, .slice (some ⟨b, 0, none⟩) 1 1] w2 fun e w' => e = .returned (.bool true) ∧ Below w2.heap.size w2 w' := fun v b cells w2 h hc h2 => kit_samelongs v _ [1] [1] w2 (own_rl h) (row_rl [1] hc (by decide) h2)
 have hs2 : ∀ v b cells w2, (Rs.own cdI 2 v [1, 4]).ok w2 → cells = [1, 4].flatMap cdI.cells → (Rs.row b cells 2).ok w2 → Calls Try.prog 10 #[v, .slice (some ⟨b, 0, none⟩) 2 2] w2 fun e w' => e = .returned (.bool true) ∧ Below w2.heap.size w2 w' := fun v b cells w2 h hc h2 => kit_samelongs v _ [1, 4] [1, 4] w2 (own_rl h) (row_rl [1, 4] hc (by decide) h2)
 repeat (refine CW.seq ?_)
 refine CW.region ?_
 refine SL.val rfl rfl (Gd.g0 rfl) (Yd.move rfl) ?_
 refine SL.efD rfl rfl (Gd.g0 rfl) (Ef.buildSlice rfl se_25 rfl rfl rfl rfl) (fun b43 => ?_)
 try dsimp only [Value.cells, List.flatMap_cons, List.flatMap_nil]
 refine SL.callB rfl rfl (Gd.g0 rfl) (Cll.func rfl cf_10) (fun w hw => hs1 _ _ _ w (hw.ok 6 _ rfl) rfl (hw.ok 0 _ rfl)) ?_
 refine SL.val rfl rfl (Gd.g0 rfl) (Yd.move rfl) ?_
 refine SL.val rfl rfl (Gd.yes rfl rfl rfl) (Yd.move rfl) ?_
 refine SL.val rfl rfl (Gd.yes rfl rfl rfl) (Yd.yes (p := (2 : Int) = 2) rfl (Yd.eql rfl rfl)) ?_
 refine SL.val rfl rfl (Gd.g0 rfl) ((by first | exact Yd.pickT rfl rfl | exact Yd.pickF rfl rfl | exact Yd.pickB rfl rfl rfl)) ?_
 refine SL.val rfl rfl (Gd.g0 rfl) (Yd.move rfl) ?_
 refine SL.val rfl rfl (Gd.yes rfl rfl rfl) (Yd.move rfl) ?_
 refine SL.val rfl rfl (Gd.g0 rfl) ((by first | exact Yd.pickT rfl rfl | exact Yd.pickF rfl rfl | exact Yd.pickB rfl rfl rfl)) ?_
 refine SL.val rfl rfl (Gd.g0 rfl) (Yd.move rfl) ?_
 refine SL.val rfl rfl (Gd.yes rfl rfl rfl) (Yd.move rfl) ?_
 refine SL.val rfl rfl (Gd.yes rfl rfl rfl) (Yd.yes (p := (0 : Int) = 0) rfl (Yd.eql rfl rfl)) ?_
 refine SL.val rfl rfl (Gd.g0 rfl) ((by first | exact Yd.pickT rfl rfl | exact Yd.pickF rfl rfl | exact Yd.pickB rfl rfl rfl)) ?_
 refine SL.val rfl rfl (Gd.g0 rfl) (Yd.move rfl) ?_
 refine SL.val rfl rfl (Gd.yes rfl rfl rfl) (Yd.move rfl) ?_
 refine SL.efD rfl rfl (Gd.yes rfl rfl rfl) (Ef.buildSlice rfl se_25 rfl rfl rfl rfl) (fun b58 => ?_)
 try dsimp only [Value.cells, List.flatMap_cons, List.flatMap_nil]
 refine SL.callB rfl rfl (Gd.yes rfl rfl rfl) (Cll.func rfl cf_10) (fun w hw => hs2 _ _ _ w (hw.ok 4 _ rfl) rfl (hw.ok 0 _ rfl)) ?_
 refine SL.val rfl rfl (Gd.g0 rfl) ((by first | exact Yd.pickT rfl rfl | exact Yd.pickF rfl rfl | exact Yd.pickB rfl rfl rfl)) ?_
 refine SL.val rfl rfl (Gd.g0 rfl) (Yd.move rfl) ?_
 refine SL.val rfl rfl (Gd.yes rfl rfl rfl) (Yd.move rfl) ?_
 refine SL.val rfl rfl (Gd.g0 rfl) ((by first | exact Yd.pickT rfl rfl | exact Yd.pickF rfl rfl | exact Yd.pickB rfl rfl rfl)) ?_
 refine SL.val rfl rfl (Gd.g0 rfl) (Yd.move rfl) ?_
 refine SL.val rfl rfl (Gd.yes rfl rfl rfl) (Yd.move rfl) ?_
 refine SL.val rfl rfl (Gd.yes rfl rfl rfl) (Yd.yes (p := (0 : Int) = 0) rfl (Yd.eql rfl rfl)) ?_
 refine SL.val rfl rfl (Gd.g0 rfl) ((by first | exact Yd.pickT rfl rfl | exact Yd.pickF rfl rfl | exact Yd.pickB rfl rfl rfl)) ?_
 refine SL.val rfl rfl (Gd.g0 rfl) (Yd.move rfl) ?_
 refine SL.val rfl rfl (Gd.yes rfl rfl rfl) (Yd.move rfl) ?_
 refine SL.val rfl rfl (Gd.yes rfl rfl rfl) (Yd.lenSl rfl isl_25) ?_
 refine SL.val rfl rfl (Gd.yes rfl rfl rfl) (Yd.yes (p := ((0 : Nat) : Int) = 0) rfl (Yd.eql rfl rfl)) ?_
 refine SL.val rfl rfl (Gd.g0 rfl) ((by first | exact Yd.pickT rfl rfl | exact Yd.pickF rfl rfl | exact Yd.pickB rfl rfl rfl)) ?_
 refine SL.val rfl rfl (Gd.g0 rfl) (Yd.move rfl) ?_
 refine SL.val rfl rfl (Gd.yes rfl rfl rfl) (Yd.move rfl) ?_
 refine SL.val rfl rfl (Gd.yes rfl rfl rfl) (Yd.yes (p := (0 : Int) = 0) rfl (Yd.eql rfl rfl)) ?_
 refine SL.val rfl rfl (Gd.g0 rfl) ((by first | exact Yd.pickT rfl rfl | exact Yd.pickF rfl rfl | exact Yd.pickB rfl rfl rfl)) ?_
 refine SL.val rfl rfl (Gd.g0 rfl) (Yd.move rfl) ?_
 refine SL.val rfl rfl (Gd.yes rfl rfl rfl) (Yd.move rfl) ?_
 refine SL.val rfl rfl (Gd.yes rfl rfl rfl) (Yd.not rfl) ?_
 refine SL.val rfl rfl (Gd.g0 rfl) ((by first | exact Yd.pickT rfl rfl | exact Yd.pickF rfl rfl | exact Yd.pickB rfl rfl rfl)) ?_
 refine SL.val rfl rfl (Gd.g0 rfl) (Yd.move rfl) ?_
 refine SL.val rfl rfl (Gd.yes rfl rfl rfl) (Yd.move rfl) ?_
 refine SL.val rfl rfl (Gd.yes rfl rfl rfl) (Yd.yes (p := (0 : Int) = 0) rfl (Yd.eql rfl rfl)) ?_
 refine SL.val rfl rfl (Gd.g0 rfl) ((by first | exact Yd.pickT rfl rfl | exact Yd.pickF rfl rfl | exact Yd.pickB rfl rfl rfl)) ?_
 refine SL.val rfl rfl (Gd.g0 rfl) (Yd.assign rfl) ?_
 first | refine SL.nil_then ?_ | refine SL.nil ?_
 refine CW.ret ?_
 repeat (first | refine EX.then_ret ?_ | refine EX.in_ret ?_)
 refine EX.out (rs := _) rfl (ResA.tmp rfl ResA.nil) (fun w2 hw => ?_) (by first | exact Or.inl rfl | exact Or.inr rfl)
 exact ⟨rfl, hw.drop.below⟩
end Go.Proofs.Ytokljoajalmkfaa
