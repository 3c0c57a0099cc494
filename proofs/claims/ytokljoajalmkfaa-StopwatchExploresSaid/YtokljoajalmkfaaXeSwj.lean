/- Part of the proof of stopwatch_explores_proved: Swj. -/
import Derived.Test.YtokljoajalmkfaaXeSwh
import Derived.Test.YtokljoajalmkfaaXeSxt
import Derived.Test.YtokljoajalmkfaaXeSxm
namespace Go.Proofs.Ytokljoajalmkfaa
open Go Go.RowKit
set_option linter.unusedVariables false
set_option linter.unusedSimpArgs false
set_option linter.unnecessarySimpa false
def SomB (w : World) (e : Ending) (w' : World) : Prop := (∃ b : Bool, True ∧ e = .returned (.bool b)) ∧ Below w.heap.size w w'
set_option maxRecDepth 20000 in
theorem prog_ends (x : Sc) (w : World) : Calls Try.prog 37 #[scV x] w fun e w' => (∃ i : Int, True ∧ e = .returned (.int .i64 i)) ∧ Below w.heap.size w w' := by
 unfold scV
 refine calls_open Try.func37 rfl Try.ntmps37 rfl ?_
 dsimp only [argK]
 repeat (refine CW.seq ?_)
 refine CW.region ?_
 refine SL.efD rfl rfl (Gd.g0 rfl) (Ef.box rfl) (fun b1 => ?_)
 try dsimp only [Value.cells, List.flatMap_cons, List.flatMap_nil]
 refine SL.val rfl rfl (Gd.g0 rfl) (Yd.assign rfl) ?_
 first | refine SL.nil_then ?_ | refine SL.nil ?_
 repeat (refine CW.seq ?_)
 refine CW.region ?_
 refine SL.val rfl rfl (Gd.g0 rfl) (Yd.fieldAddr rfl fo_84_0) ?_
 refine SL.val rfl rfl (Gd.g0 rfl) (Yd.fieldAddr rfl fo_77_1) ?_
 refine SL.val rfl rfl (Gd.g0 rfl) ((by first | exact Yd.load rfl ag_2 (Wd.cell (i := 0) rfl rfl) | exact Yd.load rfl ag_2 (Wd.cell (i := 1) rfl rfl) | exact Yd.load rfl ag_2 (Wd.cell (i := 2) rfl rfl) | exact Yd.load rfl ag_2 (Wd.cell (i := 3) rfl rfl) | exact Yd.load rfl ag_2 (Wd.cell (i := 4) rfl rfl) | exact Yd.load rfl ag_2 (Wd.cell (i := 5) rfl rfl))) ?_
 refine SL.val rfl rfl (Gd.g0 rfl) (Yd.fieldAddr rfl fo_84_0) ?_
 refine SL.val rfl rfl (Gd.g0 rfl) (Yd.fieldAddr rfl fo_77_2) ?_
 refine SL.val rfl rfl (Gd.g0 rfl) ((by first | exact Yd.load rfl ag_2 (Wd.cell (i := 0) rfl rfl) | exact Yd.load rfl ag_2 (Wd.cell (i := 1) rfl rfl) | exact Yd.load rfl ag_2 (Wd.cell (i := 2) rfl rfl) | exact Yd.load rfl ag_2 (Wd.cell (i := 3) rfl rfl) | exact Yd.load rfl ag_2 (Wd.cell (i := 4) rfl rfl) | exact Yd.load rfl ag_2 (Wd.cell (i := 5) rfl rfl))) ?_
 refine SL.val rfl rfl (Gd.g0 rfl) ((by first | exact Yd.inc rfl (by omega) | exact Yd.add rfl rfl (by omega) | exact Yd.addW rfl rfl)) ?_
 refine SL.val rfl rfl (Gd.g0 rfl) (Yd.assign rfl) ?_
 first | refine SL.nil_then ?_ | refine SL.nil ?_
 refine CW.ret ?_
 repeat (first | refine EX.then_ret ?_ | refine EX.in_ret ?_)
 refine EX.out (rs := _) rfl (ResA.tmp rfl ResA.nil) (fun w2 hw => ?_) (by first | exact Or.inl rfl | exact Or.inr rfl)
 exact ⟨⟨_, trivial, rfl⟩, hw.drop.below⟩
set_option maxRecDepth 20000 in
theorem prog_contains (x y : Sc) (w : World) : Calls Try.prog 38 #[scV x, scV y] w (SomB w) := by
 unfold scV
 refine calls_open Try.func38 rfl Try.ntmps38 rfl ?_
 dsimp only [argK]
 repeat (refine CW.seq ?_)
 refine CW.region ?_
 refine SL.efD rfl rfl (Gd.g0 rfl) (Ef.box rfl) (fun b2 => ?_)
 try dsimp only [Value.cells, List.flatMap_cons, List.flatMap_nil]
 refine SL.efD rfl rfl (Gd.g0 rfl) (Ef.box rfl) (fun b3 => ?_)
 try dsimp only [Value.cells, List.flatMap_cons, List.flatMap_nil]
 refine SL.val rfl rfl (Gd.g0 rfl) (Yd.assign rfl) ?_
 first | refine SL.nil_then ?_ | refine SL.nil ?_
 repeat (refine CW.seq ?_)
 refine CW.region ?_
 refine SL.val rfl rfl (Gd.g0 rfl) (Yd.fieldAddr rfl fo_77_1) ?_
 refine SL.val rfl rfl (Gd.g0 rfl) ((by first | exact Yd.load rfl ag_2 (Wd.cell (i := 0) rfl rfl) | exact Yd.load rfl ag_2 (Wd.cell (i := 1) rfl rfl) | exact Yd.load rfl ag_2 (Wd.cell (i := 2) rfl rfl) | exact Yd.load rfl ag_2 (Wd.cell (i := 3) rfl rfl) | exact Yd.load rfl ag_2 (Wd.cell (i := 4) rfl rfl) | exact Yd.load rfl ag_2 (Wd.cell (i := 5) rfl rfl))) ?_
 refine SL.val rfl rfl (Gd.g0 rfl) (Yd.fieldAddr rfl fo_77_1) ?_
 refine SL.val rfl rfl (Gd.g0 rfl) ((by first | exact Yd.load rfl ag_2 (Wd.cell (i := 0) rfl rfl) | exact Yd.load rfl ag_2 (Wd.cell (i := 1) rfl rfl) | exact Yd.load rfl ag_2 (Wd.cell (i := 2) rfl rfl) | exact Yd.load rfl ag_2 (Wd.cell (i := 3) rfl rfl) | exact Yd.load rfl ag_2 (Wd.cell (i := 4) rfl rfl) | exact Yd.load rfl ag_2 (Wd.cell (i := 5) rfl rfl))) ?_
 refine SL.val rfl rfl (Gd.g0 rfl) (Yd.leq rfl rfl) ?_
 refine SL.val rfl rfl (Gd.g0 rfl) (Yd.move rfl) ?_
 refine SL.splitD (dj := 10) rfl (fun hg10 => ?_) (fun hg10 => ?_)
 refine SL.val rfl rfl (Gd.yes rfl rfl rfl) (Yd.fieldAddr rfl fo_77_1) ?_
 refine SL.val rfl rfl (Gd.yes rfl rfl rfl) ((by first | exact Yd.load rfl ag_2 (Wd.cell (i := 0) rfl rfl) | exact Yd.load rfl ag_2 (Wd.cell (i := 1) rfl rfl) | exact Yd.load rfl ag_2 (Wd.cell (i := 2) rfl rfl) | exact Yd.load rfl ag_2 (Wd.cell (i := 3) rfl rfl) | exact Yd.load rfl ag_2 (Wd.cell (i := 4) rfl rfl) | exact Yd.load rfl ag_2 (Wd.cell (i := 5) rfl rfl))) ?_
 refine SL.val rfl rfl (Gd.yes rfl rfl rfl) (Yd.fieldAddr rfl fo_77_2) ?_
 refine SL.val rfl rfl (Gd.yes rfl rfl rfl) ((by first | exact Yd.load rfl ag_2 (Wd.cell (i := 0) rfl rfl) | exact Yd.load rfl ag_2 (Wd.cell (i := 1) rfl rfl) | exact Yd.load rfl ag_2 (Wd.cell (i := 2) rfl rfl) | exact Yd.load rfl ag_2 (Wd.cell (i := 3) rfl rfl) | exact Yd.load rfl ag_2 (Wd.cell (i := 4) rfl rfl) | exact Yd.load rfl ag_2 (Wd.cell (i := 5) rfl rfl))) ?_
 refine SL.val rfl rfl (Gd.yes rfl rfl rfl) ((by first | exact Yd.inc rfl (by omega) | exact Yd.add rfl rfl (by omega) | exact Yd.addW rfl rfl)) ?_
 refine SL.val rfl rfl (Gd.yes rfl rfl rfl) (Yd.fieldAddr rfl fo_77_1) ?_
 refine SL.val rfl rfl (Gd.yes rfl rfl rfl) ((by first | exact Yd.load rfl ag_2 (Wd.cell (i := 0) rfl rfl) | exact Yd.load rfl ag_2 (Wd.cell (i := 1) rfl rfl) | exact Yd.load rfl ag_2 (Wd.cell (i := 2) rfl rfl) | exact Yd.load rfl ag_2 (Wd.cell (i := 3) rfl rfl) | exact Yd.load rfl ag_2 (Wd.cell (i := 4) rfl rfl) | exact Yd.load rfl ag_2 (Wd.cell (i := 5) rfl rfl))) ?_
 refine SL.val rfl rfl (Gd.yes rfl rfl rfl) (Yd.fieldAddr rfl fo_77_2) ?_
 refine SL.val rfl rfl (Gd.yes rfl rfl rfl) ((by first | exact Yd.load rfl ag_2 (Wd.cell (i := 0) rfl rfl) | exact Yd.load rfl ag_2 (Wd.cell (i := 1) rfl rfl) | exact Yd.load rfl ag_2 (Wd.cell (i := 2) rfl rfl) | exact Yd.load rfl ag_2 (Wd.cell (i := 3) rfl rfl) | exact Yd.load rfl ag_2 (Wd.cell (i := 4) rfl rfl) | exact Yd.load rfl ag_2 (Wd.cell (i := 5) rfl rfl))) ?_
 refine SL.val rfl rfl (Gd.yes rfl rfl rfl) ((by first | exact Yd.inc rfl (by omega) | exact Yd.add rfl rfl (by omega) | exact Yd.addW rfl rfl)) ?_
 refine SL.val rfl rfl (Gd.yes rfl rfl rfl) (Yd.geq rfl rfl) ?_
 refine SL.val rfl rfl (Gd.g0 rfl) ((by first | exact Yd.pickT rfl rfl | exact Yd.pickF rfl rfl | exact Yd.pickB rfl rfl rfl)) ?_
 refine SL.val rfl rfl (Gd.g0 rfl) (Yd.assign rfl) ?_
 first | refine SL.nil_then ?_ | refine SL.nil ?_
 rotate_left
 refine SL.unw rfl rfl (Gd.no rfl rfl rfl rfl) ?_
 refine SL.unw rfl rfl (Gd.no rfl rfl rfl rfl) ?_
 refine SL.unw rfl rfl (Gd.no rfl rfl rfl rfl) ?_
 refine SL.unw rfl rfl (Gd.no rfl rfl rfl rfl) ?_
 refine SL.unw rfl rfl (Gd.no rfl rfl rfl rfl) ?_
 refine SL.unw rfl rfl (Gd.no rfl rfl rfl rfl) ?_
 refine SL.unw rfl rfl (Gd.no rfl rfl rfl rfl) ?_
 refine SL.unw rfl rfl (Gd.no rfl rfl rfl rfl) ?_
 refine SL.unw rfl rfl (Gd.no rfl rfl rfl rfl) ?_
 refine SL.unw rfl rfl (Gd.no rfl rfl rfl rfl) ?_
 refine SL.unw rfl rfl (Gd.no rfl rfl rfl rfl) ?_
 refine SL.val rfl rfl (Gd.g0 rfl) ((by first | exact Yd.pickT rfl rfl | exact Yd.pickF rfl rfl | exact Yd.pickB rfl rfl rfl)) ?_
 refine SL.val rfl rfl (Gd.g0 rfl) (Yd.assign rfl) ?_
 first | refine SL.nil_then ?_ | refine SL.nil ?_
 rotate_left
 all_goals
  refine CW.ret ?_
  repeat (first | refine EX.then_ret ?_ | refine EX.in_ret ?_)
  refine EX.out (rs := _) rfl (ResA.tmp rfl ResA.nil) (fun w2 hw => ?_) (by first | exact Or.inl rfl | exact Or.inr rfl)
  exact ⟨⟨_, trivial, rfl⟩, hw.drop.below⟩
set_option maxRecDepth 20000 in
theorem prog_overlaps (x y : Sc) (w : World) : Calls Try.prog 40 #[scV x, scV y] w (SomB w) := by
 unfold scV
 refine calls_open Try.func40 rfl Try.ntmps40 rfl ?_
 dsimp only [argK]
 repeat (refine CW.seq ?_)
 refine CW.region ?_
 refine SL.efD rfl rfl (Gd.g0 rfl) (Ef.box rfl) (fun b2 => ?_)
 try dsimp only [Value.cells, List.flatMap_cons, List.flatMap_nil]
 refine SL.efD rfl rfl (Gd.g0 rfl) (Ef.box rfl) (fun b3 => ?_)
 try dsimp only [Value.cells, List.flatMap_cons, List.flatMap_nil]
 refine SL.val rfl rfl (Gd.g0 rfl) (Yd.assign rfl) ?_
 first | refine SL.nil_then ?_ | refine SL.nil ?_
 repeat (refine CW.seq ?_)
 refine CW.region ?_
 refine SL.val rfl rfl (Gd.g0 rfl) (Yd.fieldAddr rfl fo_77_1) ?_
 refine SL.val rfl rfl (Gd.g0 rfl) ((by first | exact Yd.load rfl ag_2 (Wd.cell (i := 0) rfl rfl) | exact Yd.load rfl ag_2 (Wd.cell (i := 1) rfl rfl) | exact Yd.load rfl ag_2 (Wd.cell (i := 2) rfl rfl) | exact Yd.load rfl ag_2 (Wd.cell (i := 3) rfl rfl) | exact Yd.load rfl ag_2 (Wd.cell (i := 4) rfl rfl) | exact Yd.load rfl ag_2 (Wd.cell (i := 5) rfl rfl))) ?_
 refine SL.val rfl rfl (Gd.g0 rfl) (Yd.fieldAddr rfl fo_77_1) ?_
 refine SL.val rfl rfl (Gd.g0 rfl) ((by first | exact Yd.load rfl ag_2 (Wd.cell (i := 0) rfl rfl) | exact Yd.load rfl ag_2 (Wd.cell (i := 1) rfl rfl) | exact Yd.load rfl ag_2 (Wd.cell (i := 2) rfl rfl) | exact Yd.load rfl ag_2 (Wd.cell (i := 3) rfl rfl) | exact Yd.load rfl ag_2 (Wd.cell (i := 4) rfl rfl) | exact Yd.load rfl ag_2 (Wd.cell (i := 5) rfl rfl))) ?_
 refine SL.val rfl rfl (Gd.g0 rfl) (Yd.fieldAddr rfl fo_77_2) ?_
 refine SL.val rfl rfl (Gd.g0 rfl) ((by first | exact Yd.load rfl ag_2 (Wd.cell (i := 0) rfl rfl) | exact Yd.load rfl ag_2 (Wd.cell (i := 1) rfl rfl) | exact Yd.load rfl ag_2 (Wd.cell (i := 2) rfl rfl) | exact Yd.load rfl ag_2 (Wd.cell (i := 3) rfl rfl) | exact Yd.load rfl ag_2 (Wd.cell (i := 4) rfl rfl) | exact Yd.load rfl ag_2 (Wd.cell (i := 5) rfl rfl))) ?_
 refine SL.val rfl rfl (Gd.g0 rfl) ((by first | exact Yd.inc rfl (by omega) | exact Yd.add rfl rfl (by omega) | exact Yd.addW rfl rfl)) ?_
 refine SL.val rfl rfl (Gd.g0 rfl) (Yd.lss rfl rfl) ?_
 refine SL.val rfl rfl (Gd.g0 rfl) (Yd.move rfl) ?_
 refine SL.splitD (dj := 13) rfl (fun hg13 => ?_) (fun hg13 => ?_)
 refine SL.val rfl rfl (Gd.yes rfl rfl rfl) (Yd.fieldAddr rfl fo_77_1) ?_
 refine SL.val rfl rfl (Gd.yes rfl rfl rfl) ((by first | exact Yd.load rfl ag_2 (Wd.cell (i := 0) rfl rfl) | exact Yd.load rfl ag_2 (Wd.cell (i := 1) rfl rfl) | exact Yd.load rfl ag_2 (Wd.cell (i := 2) rfl rfl) | exact Yd.load rfl ag_2 (Wd.cell (i := 3) rfl rfl) | exact Yd.load rfl ag_2 (Wd.cell (i := 4) rfl rfl) | exact Yd.load rfl ag_2 (Wd.cell (i := 5) rfl rfl))) ?_
 refine SL.val rfl rfl (Gd.yes rfl rfl rfl) (Yd.fieldAddr rfl fo_77_1) ?_
 refine SL.val rfl rfl (Gd.yes rfl rfl rfl) ((by first | exact Yd.load rfl ag_2 (Wd.cell (i := 0) rfl rfl) | exact Yd.load rfl ag_2 (Wd.cell (i := 1) rfl rfl) | exact Yd.load rfl ag_2 (Wd.cell (i := 2) rfl rfl) | exact Yd.load rfl ag_2 (Wd.cell (i := 3) rfl rfl) | exact Yd.load rfl ag_2 (Wd.cell (i := 4) rfl rfl) | exact Yd.load rfl ag_2 (Wd.cell (i := 5) rfl rfl))) ?_
 refine SL.val rfl rfl (Gd.yes rfl rfl rfl) (Yd.fieldAddr rfl fo_77_2) ?_
 refine SL.val rfl rfl (Gd.yes rfl rfl rfl) ((by first | exact Yd.load rfl ag_2 (Wd.cell (i := 0) rfl rfl) | exact Yd.load rfl ag_2 (Wd.cell (i := 1) rfl rfl) | exact Yd.load rfl ag_2 (Wd.cell (i := 2) rfl rfl) | exact Yd.load rfl ag_2 (Wd.cell (i := 3) rfl rfl) | exact Yd.load rfl ag_2 (Wd.cell (i := 4) rfl rfl) | exact Yd.load rfl ag_2 (Wd.cell (i := 5) rfl rfl))) ?_
 refine SL.val rfl rfl (Gd.yes rfl rfl rfl) ((by first | exact Yd.inc rfl (by omega) | exact Yd.add rfl rfl (by omega) | exact Yd.addW rfl rfl)) ?_
 refine SL.val rfl rfl (Gd.yes rfl rfl rfl) (Yd.lss rfl rfl) ?_
 refine SL.val rfl rfl (Gd.g0 rfl) ((by first | exact Yd.pickT rfl rfl | exact Yd.pickF rfl rfl | exact Yd.pickB rfl rfl rfl)) ?_
 refine SL.val rfl rfl (Gd.g0 rfl) (Yd.assign rfl) ?_
 first | refine SL.nil_then ?_ | refine SL.nil ?_
 rotate_left
 refine SL.unw rfl rfl (Gd.no rfl rfl rfl rfl) ?_
 refine SL.unw rfl rfl (Gd.no rfl rfl rfl rfl) ?_
 refine SL.unw rfl rfl (Gd.no rfl rfl rfl rfl) ?_
 refine SL.unw rfl rfl (Gd.no rfl rfl rfl rfl) ?_
 refine SL.unw rfl rfl (Gd.no rfl rfl rfl rfl) ?_
 refine SL.unw rfl rfl (Gd.no rfl rfl rfl rfl) ?_
 refine SL.unw rfl rfl (Gd.no rfl rfl rfl rfl) ?_
 refine SL.unw rfl rfl (Gd.no rfl rfl rfl rfl) ?_
 refine SL.val rfl rfl (Gd.g0 rfl) ((by first | exact Yd.pickT rfl rfl | exact Yd.pickF rfl rfl | exact Yd.pickB rfl rfl rfl)) ?_
 refine SL.val rfl rfl (Gd.g0 rfl) (Yd.assign rfl) ?_
 first | refine SL.nil_then ?_ | refine SL.nil ?_
 rotate_left
 all_goals
  refine CW.ret ?_
  repeat (first | refine EX.then_ret ?_ | refine EX.in_ret ?_)
  refine EX.out (rs := _) rfl (ResA.tmp rfl ResA.nil) (fun w2 hw => ?_) (by first | exact Or.inl rfl | exact Or.inr rfl)
  exact ⟨⟨_, trivial, rfl⟩, hw.drop.below⟩
set_option maxRecDepth 20000 in
theorem prog_sec1 (x y : Sc) (w : World) : Calls Try.prog 39 #[scV x, scV y] w (SomB w) := by
 unfold scV
 refine calls_open Try.func39 rfl Try.ntmps39 rfl ?_
 dsimp only [argK]
 repeat (refine CW.seq ?_)
 refine CW.region ?_
 refine SL.efD rfl rfl (Gd.g0 rfl) (Ef.box rfl) (fun b2 => ?_)
 try dsimp only [Value.cells, List.flatMap_cons, List.flatMap_nil]
 refine SL.efD rfl rfl (Gd.g0 rfl) (Ef.box rfl) (fun b3 => ?_)
 try dsimp only [Value.cells, List.flatMap_cons, List.flatMap_nil]
 refine SL.val rfl rfl (Gd.g0 rfl) (Yd.assign rfl) ?_
 first | refine SL.nil_then ?_ | refine SL.nil ?_
 repeat (refine CW.seq ?_)
 refine CW.region ?_
 refine SL.val rfl rfl (Gd.g0 rfl) ((by first | exact Yd.loadR (i := 0) rfl ag_77 rfl rfl | exact Yd.loadR (i := 1) rfl ag_77 rfl rfl | exact Yd.loadR (i := 2) rfl ag_77 rfl rfl | exact Yd.loadR (i := 3) rfl ag_77 rfl rfl | exact Yd.loadR (i := 4) rfl ag_77 rfl rfl | exact Yd.loadR (i := 5) rfl ag_77 rfl rfl)) ?_
 refine SL.val rfl rfl (Gd.g0 rfl) ((by first | exact Yd.loadR (i := 0) rfl ag_77 rfl rfl | exact Yd.loadR (i := 1) rfl ag_77 rfl rfl | exact Yd.loadR (i := 2) rfl ag_77 rfl rfl | exact Yd.loadR (i := 3) rfl ag_77 rfl rfl | exact Yd.loadR (i := 4) rfl ag_77 rfl rfl | exact Yd.loadR (i := 5) rfl ag_77 rfl rfl)) ?_
 refine SL.callX rfl rfl (Gd.g0 rfl) (Cll.func rfl cf_38) (fun w2 hw => prog_contains y x w2) (fun bs _ => ?_)
 refine SL.val rfl rfl (Gd.g0 rfl) (Yd.assign rfl) ?_
 first | refine SL.nil_then ?_ | refine SL.nil ?_
 refine CW.ret ?_
 repeat (first | refine EX.then_ret ?_ | refine EX.in_ret ?_)
 refine EX.out (rs := _) rfl (ResA.tmp rfl ResA.nil) (fun w2 hw => ?_) (by first | exact Or.inl rfl | exact Or.inr rfl)
 exact ⟨⟨_, trivial, rfl⟩, hw.drop.below⟩
set_option maxRecDepth 20000 in
set_option maxHeartbeats 4000000 in
theorem prog_secs (nm : ByteArray) (T O D C pr : Int) (ao : Option Addr) (cap : Nat) (sc : List Sc) (w : World) (hv : RX cdSc w.heap.size w (.slice ao sc.length cap) sc) (h4 : sc.length ≤ 4) : Calls Try.prog 27 #[.agg #[Value.string nm, .int .i64 T, .int .i64 O, .int .i64 D, .int .i64 C, .int .i64 pr, .slice ao sc.length cap]] w fun e w' => (∃ b : Bool, (sc.length = 0 → b = true) ∧ e = .returned (.bool b)) ∧ Below w.heap.size w w' := by
 obtain ⟨ao', cap', h1, hle, h0⟩ := hv.cells
 obtain ⟨rfl, -, rfl⟩ : ao = ao' ∧ sc.length = sc.length ∧ cap = cap' := by injection h1 with a b c; exact ⟨a, b, c⟩
 have hcap := hv.cap
 clear h1
 refine calls_open Try.func27 rfl Try.ntmps27 rfl ?_
 dsimp only [argK]
 repeat (refine CW.seq ?_)
 refine CW.region ?_
 refine SL.efD rfl rfl (Gd.g0 rfl) (Ef.box rfl) (fun b1 => ?_)
 try dsimp only [Value.cells, List.flatMap_cons, List.flatMap_nil]
 refine SL.val rfl rfl (Gd.g0 rfl) (Yd.assign rfl) ?_
 first | refine SL.nil_then ?_ | refine SL.nil ?_
 repeat (refine CW.seq ?_)
 refine CW.region ?_
 refine SL.val rfl rfl (Gd.g0 rfl) (Yd.assign rfl) ?_
 first | refine SL.nil_then ?_ | refine SL.nil ?_
 repeat (refine CW.seq ?_)
 refine CW.region ?_
 refine SL.val rfl rfl (Gd.g0 rfl) (Yd.fieldAddr rfl fo_37_6) ?_
 refine SL.val rfl rfl (Gd.g0 rfl) ((by first | exact Yd.load rfl ag_35 (Wd.cell (i := 0) rfl rfl) | exact Yd.load rfl ag_35 (Wd.cell (i := 1) rfl rfl) | exact Yd.load rfl ag_35 (Wd.cell (i := 2) rfl rfl) | exact Yd.load rfl ag_35 (Wd.cell (i := 3) rfl rfl) | exact Yd.load rfl ag_35 (Wd.cell (i := 4) rfl rfl) | exact Yd.load rfl ag_35 (Wd.cell (i := 5) rfl rfl))) ?_
 refine SL.val rfl rfl (Gd.g0 rfl) (Yd.lenSl rfl isl_35) ?_
 refine SL.val rfl rfl (Gd.g0 rfl) (Yd.move rfl) ?_
 first | refine SL.nil_then ?_ | refine SL.nil ?_
 repeat (refine CW.seq ?_)
 refine CW.block ?_
 refine CW.loop (σ := Nat) (fun k => k ≤ sc.length) (fun k => [(1, .pointer (some ⟨b1, 0, none⟩)), (3, .func (.func 37) #[] #[]), (10, .slice ao sc.length cap), (11, .int .i64 (sc.length : Int)), (12, .int .i64 (k : Int))]) (fun _ => Wd w [] [Rs.row b1 [Value.string nm, .int .i64 T, .int .i64 O, .int .i64 D, .int .i64 C, .int .i64 pr, .slice ao sc.length cap] 37]) (fun k => sc.length - k) 0 (by omega) (Sub.cons rfl rfl (Sub.cons rfl rfl (Sub.cons rfl rfl (Sub.cons rfl rfl (Sub.cons rfl rfl Sub.nil))))) (fun _ h => h) ?_
 intro k hk
 repeat (refine CW.seq ?_)
 refine CW.region ?_
 refine SL.val rfl rfl (Gd.g0 rfl) (Yd.lss rfl rfl) ?_
 first | refine SL.nil_then ?_ | refine SL.nil ?_
 repeat (refine CW.seq ?_)
 refine CW.condD rfl (fun hkn => ?_) (fun hkn => ?_)
 ·refine CW.skip ?_
  repeat (first | refine EX.in_normal ?_)
  first | refine EX.then_normal ?_ | skip
  have hlt : k < sc.length := by omega
  obtain ⟨b, off, rfl, hb, hc⟩ := h0 (by omega)
  obtain ⟨x, hx⟩ : ∃ x, ge cdSc sc k = x := ⟨_, rfl⟩
  obtain ⟨r, f, l⟩ := x
  have hcs : ∀ j v, [Value.int .i64 r, .int .i64 f, .int .i64 l][j]? = some v → w.cell? ⟨b, off + k * 3 + j, none⟩ = some v := fun j v h => hc k hlt j v (by rw [hx]; exact h)
  repeat (refine CW.seq ?_)
  refine CW.block ?_
  repeat (refine CW.seq ?_)
  refine CW.region ?_
  refine SL.val rfl rfl (Gd.g0 rfl) (Yd.move rfl) ?_
  refine SL.val rfl rfl (Gd.g0 rfl) ((by first | exact Yd.indexSlN rfl rfl sl_35 (by omega) | exact Yd.indexSl rfl rfl sl_35 (by omega))) ?_
  refine SL.val rfl rfl (Gd.g0 rfl) ((by first | exact Yd.loadR (i := 0) rfl ag_77 rfl rfl | exact Yd.loadR (i := 1) rfl ag_77 rfl rfl | exact Yd.loadR (i := 2) rfl ag_77 rfl rfl | exact Yd.loadR (i := 3) rfl ag_77 rfl rfl | exact Yd.loadR (i := 4) rfl ag_77 rfl rfl | exact Yd.loadR (i := 5) rfl ag_77 rfl rfl | exact Yd.loadA rfl ag_77 rfl (Wd.inpA hb (by simp) hcs))) ?_
  refine SL.efD rfl rfl (Gd.g0 rfl) (Ef.alloc zl_77) (fun b5 => ?_)
  try dsimp only [Value.cells, List.flatMap_cons, List.flatMap_nil]
  refine SL.val rfl rfl (Gd.g0 rfl) (Yd.assign rfl) ?_
  refine SL.ef0 rfl (Gd.g0 rfl) (by first | exact Ef0.storeA (i := 0) rfl rfl rfl ag_77 rfl rfl (by simp) | exact Ef0.storeA (i := 1) rfl rfl rfl ag_77 rfl rfl (by simp) | exact Ef0.storeA (i := 2) rfl rfl rfl ag_77 rfl rfl (by simp) | exact Ef0.storeA (i := 3) rfl rfl rfl ag_77 rfl rfl (by simp) | exact Ef0.storeA (i := 4) rfl rfl rfl ag_77 rfl rfl (by simp) | exact Ef0.storeA (i := 5) rfl rfl rfl ag_77 rfl rfl (by simp)) ?_
  try dsimp only [setR, List.set, setRow2]
  first | refine SL.nil_then ?_ | refine SL.nil ?_
  repeat (refine CW.seq ?_)
  refine CW.draw [(Tb w [], []), ((Rs.row b1 [Value.string nm, .int .i64 T, .int .i64 O, .int .i64 D, .int .i64 C, .int .i64 pr, .slice (some ⟨b, off, none⟩) sc.length cap] 37).ok, []), ((Rs.row b5 [Value.int .i64 r, .int .i64 f, .int .i64 l] 77).ok, [])] mixed (fun w hw => hw.drew) (fun w hw => ⟨(by first | exact fun _ => hw.tb | exact fun _ => hw.ok 0 _ rfl | exact fun _ => hw.ok 1 _ rfl | exact fun _ => hw.ok 2 _ rfl | exact fun _ => hw.ok 3 _ rfl | exact fun _ => hw.ok 4 _ rfl | exact fun _ => hw.ok 5 _ rfl | exact SG.gone (by kernel_rfl)), (by first | exact fun _ => hw.tb | exact fun _ => hw.ok 0 _ rfl | exact fun _ => hw.ok 1 _ rfl | exact fun _ => hw.ok 2 _ rfl | exact fun _ => hw.ok 3 _ rfl | exact fun _ => hw.ok 4 _ rfl | exact fun _ => hw.ok 5 _ rfl | exact SG.gone (by kernel_rfl)), (by first | exact fun _ => hw.tb | exact fun _ => hw.ok 0 _ rfl | exact fun _ => hw.ok 1 _ rfl | exact fun _ => hw.ok 2 _ rfl | exact fun _ => hw.ok 3 _ rfl | exact fun _ => hw.ok 4 _ rfl | exact fun _ => hw.ok 5 _ rfl | exact SG.gone (by kernel_rfl)), trivial⟩) ?_
  refine DL.take 0 rfl (by kernel_rfl) (by kernel_rfl) (by kernel_rfl) (by kernel_rfl) (by kernel_rfl) rfl rfl (Gd.g0 rfl) (heldN 0) (Yd.fieldAddr rfl fo_77_0) ?_
  first | refine DL.take 1 rfl (by kernel_rfl) (by kernel_rfl) (by kernel_rfl) (by kernel_rfl) (by kernel_rfl) rfl rfl (Gd.g0 rfl) (held 1 1 rfl (by kernel_rfl)) (Yd.load rfl ag_3 (row_cell rfl)) ?_ | refine DL.take 1 rfl (by kernel_rfl) (by kernel_rfl) (by kernel_rfl) (by kernel_rfl) (by kernel_rfl) rfl rfl (Gd.g0 rfl) (held 1 2 rfl (by kernel_rfl)) (Yd.load rfl ag_3 (row_cell rfl)) ?_ | refine DL.take 1 rfl (by kernel_rfl) (by kernel_rfl) (by kernel_rfl) (by kernel_rfl) (by kernel_rfl) rfl rfl (Gd.g0 rfl) (held 1 3 rfl (by kernel_rfl)) (Yd.load rfl ag_3 (row_cell rfl)) ?_ | refine DL.take 1 rfl (by kernel_rfl) (by kernel_rfl) (by kernel_rfl) (by kernel_rfl) (by kernel_rfl) rfl rfl (Gd.g0 rfl) (held 1 4 rfl (by kernel_rfl)) (Yd.load rfl ag_3 (row_cell rfl)) ?_ | refine DL.take 1 rfl (by kernel_rfl) (by kernel_rfl) (by kernel_rfl) (by kernel_rfl) (by kernel_rfl) rfl rfl (Gd.g0 rfl) (held 1 5 rfl (by kernel_rfl)) (Yd.load rfl ag_3 (row_cell rfl)) ?_
  refine DL.take 2 rfl (by kernel_rfl) (by kernel_rfl) (by kernel_rfl) (by kernel_rfl) (by kernel_rfl) rfl rfl (Gd.g0 rfl) (heldN 2) (Yd.lss rfl rfl) ?_
  refine DL.take 3 rfl (by kernel_rfl) (by kernel_rfl) (by kernel_rfl) (by kernel_rfl) (by kernel_rfl) rfl rfl (Gd.g0 rfl) (heldN 3) (Yd.move rfl) ?_
  refine DL.splitD (dj := 20) rfl (fun hg20 => ?_) (fun hg20 => ?_)
  refine DL.takeN 4 rfl (by kernel_rfl) (by kernel_rfl) (by kernel_rfl) (by kernel_rfl) (by kernel_rfl) rfl rfl (Gd.no rfl rfl rfl rfl) ?_
  refine DL.takeN 5 rfl (by kernel_rfl) (by kernel_rfl) (by kernel_rfl) (by kernel_rfl) (by kernel_rfl) rfl rfl (Gd.no rfl rfl rfl rfl) ?_
  refine DL.takeN 6 rfl (by kernel_rfl) (by kernel_rfl) (by kernel_rfl) (by kernel_rfl) (by kernel_rfl) rfl rfl (Gd.no rfl rfl rfl rfl) ?_
  refine DL.take 7 rfl (by kernel_rfl) (by kernel_rfl) (by kernel_rfl) (by kernel_rfl) (by kernel_rfl) rfl rfl (Gd.g0 rfl) (heldN 7) ((by first | exact Yd.pickT rfl rfl | exact Yd.pickF rfl rfl | exact Yd.pickB rfl rfl rfl)) ?_
  refine DL.take 8 rfl (by kernel_rfl) (by kernel_rfl) (by kernel_rfl) (by kernel_rfl) (by kernel_rfl) rfl rfl (Gd.g0 rfl) (heldN 8) (Yd.move rfl) ?_
  refine DL.takeN 9 rfl (by kernel_rfl) (by kernel_rfl) (by kernel_rfl) (by kernel_rfl) (by kernel_rfl) rfl rfl (Gd.no rfl rfl rfl rfl) ?_
  refine DL.takeN 10 rfl (by kernel_rfl) (by kernel_rfl) (by kernel_rfl) (by kernel_rfl) (by kernel_rfl) rfl rfl (Gd.no rfl rfl rfl rfl) ?_
  refine DL.takeN 11 rfl (by kernel_rfl) (by kernel_rfl) (by kernel_rfl) (by kernel_rfl) (by kernel_rfl) rfl rfl (Gd.no rfl rfl rfl rfl) ?_
  refine DL.take 12 rfl (by kernel_rfl) (by kernel_rfl) (by kernel_rfl) (by kernel_rfl) (by kernel_rfl) rfl rfl (Gd.g0 rfl) (heldN 12) ((by first | exact Yd.pickT rfl rfl | exact Yd.pickF rfl rfl | exact Yd.pickB rfl rfl rfl)) ?_
  refine DL.take 13 rfl (by kernel_rfl) (by kernel_rfl) (by kernel_rfl) (by kernel_rfl) (by kernel_rfl) rfl rfl (Gd.g0 rfl) (heldN 13) (Yd.move rfl) ?_
  refine DL.takeN 14 rfl (by kernel_rfl) (by kernel_rfl) (by kernel_rfl) (by kernel_rfl) (by kernel_rfl) rfl rfl (Gd.no rfl rfl rfl rfl) ?_
  refine DL.takeN 15 rfl (by kernel_rfl) (by kernel_rfl) (by kernel_rfl) (by kernel_rfl) (by kernel_rfl) rfl rfl (Gd.no rfl rfl rfl rfl) ?_
  refine DL.takeN 16 rfl (by kernel_rfl) (by kernel_rfl) (by kernel_rfl) (by kernel_rfl) (by kernel_rfl) rfl rfl (Gd.no rfl rfl rfl rfl) ?_
  refine DL.takeN 17 rfl (by kernel_rfl) (by kernel_rfl) (by kernel_rfl) (by kernel_rfl) (by kernel_rfl) rfl rfl (Gd.no rfl rfl rfl rfl) ?_
  refine DL.takeN 18 rfl (by kernel_rfl) (by kernel_rfl) (by kernel_rfl) (by kernel_rfl) (by kernel_rfl) rfl rfl (Gd.no rfl rfl rfl rfl) ?_
  refine DL.take 19 rfl (by kernel_rfl) (by kernel_rfl) (by kernel_rfl) (by kernel_rfl) (by kernel_rfl) rfl rfl (Gd.g0 rfl) (heldN 19) ((by first | exact Yd.pickT rfl rfl | exact Yd.pickF rfl rfl | exact Yd.pickB rfl rfl rfl)) ?_
  refine DL.take 20 rfl (by kernel_rfl) (by kernel_rfl) (by kernel_rfl) (by kernel_rfl) (by kernel_rfl) rfl rfl (Gd.g0 rfl) (heldN 20) (Yd.move rfl) ?_
  refine DL.takeN 21 rfl (by kernel_rfl) (by kernel_rfl) (by kernel_rfl) (by kernel_rfl) (by kernel_rfl) rfl rfl (Gd.no rfl rfl rfl rfl) ?_
  refine DL.takeN 22 rfl (by kernel_rfl) (by kernel_rfl) (by kernel_rfl) (by kernel_rfl) (by kernel_rfl) rfl rfl (Gd.no rfl rfl rfl rfl) ?_
  refine DL.takeN 23 rfl (by kernel_rfl) (by kernel_rfl) (by kernel_rfl) (by kernel_rfl) (by kernel_rfl) rfl rfl (Gd.no rfl rfl rfl rfl) ?_
  refine DL.take 24 rfl (by kernel_rfl) (by kernel_rfl) (by kernel_rfl) (by kernel_rfl) (by kernel_rfl) rfl rfl (Gd.g0 rfl) (heldN 24) ((by first | exact Yd.pickT rfl rfl | exact Yd.pickF rfl rfl | exact Yd.pickB rfl rfl rfl)) ?_
  refine DL.take 25 rfl (by kernel_rfl) (by kernel_rfl) (by kernel_rfl) (by kernel_rfl) (by kernel_rfl) rfl rfl (Gd.g0 rfl) (heldN 25) (Yd.move rfl) ?_
  refine DL.takeN 26 rfl (by kernel_rfl) (by kernel_rfl) (by kernel_rfl) (by kernel_rfl) (by kernel_rfl) rfl rfl (Gd.no rfl rfl rfl rfl) ?_
  refine DL.takeN 27 rfl (by kernel_rfl) (by kernel_rfl) (by kernel_rfl) (by kernel_rfl) (by kernel_rfl) rfl rfl (Gd.no rfl rfl rfl rfl) ?_
  refine DL.takeN 28 rfl (by kernel_rfl) (by kernel_rfl) (by kernel_rfl) (by kernel_rfl) (by kernel_rfl) rfl rfl (Gd.no rfl rfl rfl rfl) ?_
  refine DL.takeN 29 rfl (by kernel_rfl) (by kernel_rfl) (by kernel_rfl) (by kernel_rfl) (by kernel_rfl) rfl rfl (Gd.no rfl rfl rfl rfl) ?_
  refine DL.takeN 30 rfl (by kernel_rfl) (by kernel_rfl) (by kernel_rfl) (by kernel_rfl) (by kernel_rfl) rfl rfl (Gd.no rfl rfl rfl rfl) ?_
  refine DL.take 31 rfl (by kernel_rfl) (by kernel_rfl) (by kernel_rfl) (by kernel_rfl) (by kernel_rfl) rfl rfl (Gd.g0 rfl) (heldN 31) ((by first | exact Yd.pickT rfl rfl | exact Yd.pickF rfl rfl | exact Yd.pickB rfl rfl rfl)) ?_
  refine DL.take 32 rfl (by kernel_rfl) (by kernel_rfl) (by kernel_rfl) (by kernel_rfl) (by kernel_rfl) rfl rfl (Gd.g0 rfl) (heldN 32) (Yd.move rfl) ?_
  refine DL.takeN 33 rfl (by kernel_rfl) (by kernel_rfl) (by kernel_rfl) (by kernel_rfl) (by kernel_rfl) rfl rfl (Gd.no rfl rfl rfl rfl) ?_
  refine DL.takeN 34 rfl (by kernel_rfl) (by kernel_rfl) (by kernel_rfl) (by kernel_rfl) (by kernel_rfl) rfl rfl (Gd.no rfl rfl rfl rfl) ?_
  refine DL.takeN 35 rfl (by kernel_rfl) (by kernel_rfl) (by kernel_rfl) (by kernel_rfl) (by kernel_rfl) rfl rfl (Gd.no rfl rfl rfl rfl) ?_
  refine DL.takeN 36 rfl (by kernel_rfl) (by kernel_rfl) (by kernel_rfl) (by kernel_rfl) (by kernel_rfl) rfl rfl (Gd.no rfl rfl rfl rfl) ?_
  refine DL.takeN 37 rfl (by kernel_rfl) (by kernel_rfl) (by kernel_rfl) (by kernel_rfl) (by kernel_rfl) rfl rfl (Gd.no rfl rfl rfl rfl) ?_
  refine DL.takeN 38 rfl (by kernel_rfl) (by kernel_rfl) (by kernel_rfl) (by kernel_rfl) (by kernel_rfl) rfl rfl (Gd.no rfl rfl rfl rfl) ?_
  refine DL.takeN 39 rfl (by kernel_rfl) (by kernel_rfl) (by kernel_rfl) (by kernel_rfl) (by kernel_rfl) rfl rfl (Gd.no rfl rfl rfl rfl) ?_
  refine DL.take 40 rfl (by kernel_rfl) (by kernel_rfl) (by kernel_rfl) (by kernel_rfl) (by kernel_rfl) rfl rfl (Gd.g0 rfl) (heldN 40) ((by first | exact Yd.pickT rfl rfl | exact Yd.pickF rfl rfl | exact Yd.pickB rfl rfl rfl)) ?_
  refine DL.done (by kernel_rfl) ?_
  first | refine EX.then_normal ?_ | skip
  rotate_left
  refine DL.take 4 rfl (by kernel_rfl) (by kernel_rfl) (by kernel_rfl) (by kernel_rfl) (by kernel_rfl) rfl rfl (Gd.yes rfl rfl rfl) (heldN 4) (Yd.fieldAddr rfl fo_77_0) ?_
  first | refine DL.take 5 rfl (by kernel_rfl) (by kernel_rfl) (by kernel_rfl) (by kernel_rfl) (by kernel_rfl) rfl rfl (Gd.yes rfl rfl rfl) (held 5 1 rfl (by kernel_rfl)) (Yd.load rfl ag_3 (row_cell rfl)) ?_ | refine DL.take 5 rfl (by kernel_rfl) (by kernel_rfl) (by kernel_rfl) (by kernel_rfl) (by kernel_rfl) rfl rfl (Gd.yes rfl rfl rfl) (held 5 2 rfl (by kernel_rfl)) (Yd.load rfl ag_3 (row_cell rfl)) ?_ | refine DL.take 5 rfl (by kernel_rfl) (by kernel_rfl) (by kernel_rfl) (by kernel_rfl) (by kernel_rfl) rfl rfl (Gd.yes rfl rfl rfl) (held 5 3 rfl (by kernel_rfl)) (Yd.load rfl ag_3 (row_cell rfl)) ?_ | refine DL.take 5 rfl (by kernel_rfl) (by kernel_rfl) (by kernel_rfl) (by kernel_rfl) (by kernel_rfl) rfl rfl (Gd.yes rfl rfl rfl) (held 5 4 rfl (by kernel_rfl)) (Yd.load rfl ag_3 (row_cell rfl)) ?_ | refine DL.take 5 rfl (by kernel_rfl) (by kernel_rfl) (by kernel_rfl) (by kernel_rfl) (by kernel_rfl) rfl rfl (Gd.yes rfl rfl rfl) (held 5 5 rfl (by kernel_rfl)) (Yd.load rfl ag_3 (row_cell rfl)) ?_
  refine DL.take 6 rfl (by kernel_rfl) (by kernel_rfl) (by kernel_rfl) (by kernel_rfl) (by kernel_rfl) rfl rfl (Gd.yes rfl rfl rfl) (heldN 6) (Yd.geq rfl rfl) ?_
  refine DL.take 7 rfl (by kernel_rfl) (by kernel_rfl) (by kernel_rfl) (by kernel_rfl) (by kernel_rfl) rfl rfl (Gd.g0 rfl) (heldN 7) ((by first | exact Yd.pickT rfl rfl | exact Yd.pickF rfl rfl | exact Yd.pickB rfl rfl rfl)) ?_
  refine DL.take 8 rfl (by kernel_rfl) (by kernel_rfl) (by kernel_rfl) (by kernel_rfl) (by kernel_rfl) rfl rfl (Gd.g0 rfl) (heldN 8) (Yd.move rfl) ?_
  refine DL.splitD (dj := 25) rfl (fun hg25 => ?_) (fun hg25 => ?_)
  refine DL.takeN 9 rfl (by kernel_rfl) (by kernel_rfl) (by kernel_rfl) (by kernel_rfl) (by kernel_rfl) rfl rfl (Gd.no rfl rfl rfl rfl) ?_
  refine DL.takeN 10 rfl (by kernel_rfl) (by kernel_rfl) (by kernel_rfl) (by kernel_rfl) (by kernel_rfl) rfl rfl (Gd.no rfl rfl rfl rfl) ?_
  refine DL.takeN 11 rfl (by kernel_rfl) (by kernel_rfl) (by kernel_rfl) (by kernel_rfl) (by kernel_rfl) rfl rfl (Gd.no rfl rfl rfl rfl) ?_
  refine DL.take 12 rfl (by kernel_rfl) (by kernel_rfl) (by kernel_rfl) (by kernel_rfl) (by kernel_rfl) rfl rfl (Gd.g0 rfl) (heldN 12) ((by first | exact Yd.pickT rfl rfl | exact Yd.pickF rfl rfl | exact Yd.pickB rfl rfl rfl)) ?_
  refine DL.take 13 rfl (by kernel_rfl) (by kernel_rfl) (by kernel_rfl) (by kernel_rfl) (by kernel_rfl) rfl rfl (Gd.g0 rfl) (heldN 13) (Yd.move rfl) ?_
  refine DL.takeN 14 rfl (by kernel_rfl) (by kernel_rfl) (by kernel_rfl) (by kernel_rfl) (by kernel_rfl) rfl rfl (Gd.no rfl rfl rfl rfl) ?_
  refine DL.takeN 15 rfl (by kernel_rfl) (by kernel_rfl) (by kernel_rfl) (by kernel_rfl) (by kernel_rfl) rfl rfl (Gd.no rfl rfl rfl rfl) ?_
  refine DL.takeN 16 rfl (by kernel_rfl) (by kernel_rfl) (by kernel_rfl) (by kernel_rfl) (by kernel_rfl) rfl rfl (Gd.no rfl rfl rfl rfl) ?_
  refine DL.takeN 17 rfl (by kernel_rfl) (by kernel_rfl) (by kernel_rfl) (by kernel_rfl) (by kernel_rfl) rfl rfl (Gd.no rfl rfl rfl rfl) ?_
  refine DL.takeN 18 rfl (by kernel_rfl) (by kernel_rfl) (by kernel_rfl) (by kernel_rfl) (by kernel_rfl) rfl rfl (Gd.no rfl rfl rfl rfl) ?_
  refine DL.take 19 rfl (by kernel_rfl) (by kernel_rfl) (by kernel_rfl) (by kernel_rfl) (by kernel_rfl) rfl rfl (Gd.g0 rfl) (heldN 19) ((by first | exact Yd.pickT rfl rfl | exact Yd.pickF rfl rfl | exact Yd.pickB rfl rfl rfl)) ?_
  refine DL.take 20 rfl (by kernel_rfl) (by kernel_rfl) (by kernel_rfl) (by kernel_rfl) (by kernel_rfl) rfl rfl (Gd.g0 rfl) (heldN 20) (Yd.move rfl) ?_
  refine DL.takeN 21 rfl (by kernel_rfl) (by kernel_rfl) (by kernel_rfl) (by kernel_rfl) (by kernel_rfl) rfl rfl (Gd.no rfl rfl rfl rfl) ?_
  refine DL.takeN 22 rfl (by kernel_rfl) (by kernel_rfl) (by kernel_rfl) (by kernel_rfl) (by kernel_rfl) rfl rfl (Gd.no rfl rfl rfl rfl) ?_
  refine DL.takeN 23 rfl (by kernel_rfl) (by kernel_rfl) (by kernel_rfl) (by kernel_rfl) (by kernel_rfl) rfl rfl (Gd.no rfl rfl rfl rfl) ?_
  refine DL.take 24 rfl (by kernel_rfl) (by kernel_rfl) (by kernel_rfl) (by kernel_rfl) (by kernel_rfl) rfl rfl (Gd.g0 rfl) (heldN 24) ((by first | exact Yd.pickT rfl rfl | exact Yd.pickF rfl rfl | exact Yd.pickB rfl rfl rfl)) ?_
  refine DL.take 25 rfl (by kernel_rfl) (by kernel_rfl) (by kernel_rfl) (by kernel_rfl) (by kernel_rfl) rfl rfl (Gd.g0 rfl) (heldN 25) (Yd.move rfl) ?_
  refine DL.takeN 26 rfl (by kernel_rfl) (by kernel_rfl) (by kernel_rfl) (by kernel_rfl) (by kernel_rfl) rfl rfl (Gd.no rfl rfl rfl rfl) ?_
  refine DL.takeN 27 rfl (by kernel_rfl) (by kernel_rfl) (by kernel_rfl) (by kernel_rfl) (by kernel_rfl) rfl rfl (Gd.no rfl rfl rfl rfl) ?_
  refine DL.takeN 28 rfl (by kernel_rfl) (by kernel_rfl) (by kernel_rfl) (by kernel_rfl) (by kernel_rfl) rfl rfl (Gd.no rfl rfl rfl rfl) ?_
  refine DL.takeN 29 rfl (by kernel_rfl) (by kernel_rfl) (by kernel_rfl) (by kernel_rfl) (by kernel_rfl) rfl rfl (Gd.no rfl rfl rfl rfl) ?_
  refine DL.takeN 30 rfl (by kernel_rfl) (by kernel_rfl) (by kernel_rfl) (by kernel_rfl) (by kernel_rfl) rfl rfl (Gd.no rfl rfl rfl rfl) ?_
  refine DL.take 31 rfl (by kernel_rfl) (by kernel_rfl) (by kernel_rfl) (by kernel_rfl) (by kernel_rfl) rfl rfl (Gd.g0 rfl) (heldN 31) ((by first | exact Yd.pickT rfl rfl | exact Yd.pickF rfl rfl | exact Yd.pickB rfl rfl rfl)) ?_
  refine DL.take 32 rfl (by kernel_rfl) (by kernel_rfl) (by kernel_rfl) (by kernel_rfl) (by kernel_rfl) rfl rfl (Gd.g0 rfl) (heldN 32) (Yd.move rfl) ?_
  refine DL.takeN 33 rfl (by kernel_rfl) (by kernel_rfl) (by kernel_rfl) (by kernel_rfl) (by kernel_rfl) rfl rfl (Gd.no rfl rfl rfl rfl) ?_
  refine DL.takeN 34 rfl (by kernel_rfl) (by kernel_rfl) (by kernel_rfl) (by kernel_rfl) (by kernel_rfl) rfl rfl (Gd.no rfl rfl rfl rfl) ?_
  refine DL.takeN 35 rfl (by kernel_rfl) (by kernel_rfl) (by kernel_rfl) (by kernel_rfl) (by kernel_rfl) rfl rfl (Gd.no rfl rfl rfl rfl) ?_
  refine DL.takeN 36 rfl (by kernel_rfl) (by kernel_rfl) (by kernel_rfl) (by kernel_rfl) (by kernel_rfl) rfl rfl (Gd.no rfl rfl rfl rfl) ?_
  refine DL.takeN 37 rfl (by kernel_rfl) (by kernel_rfl) (by kernel_rfl) (by kernel_rfl) (by kernel_rfl) rfl rfl (Gd.no rfl rfl rfl rfl) ?_
  refine DL.takeN 38 rfl (by kernel_rfl) (by kernel_rfl) (by kernel_rfl) (by kernel_rfl) (by kernel_rfl) rfl rfl (Gd.no rfl rfl rfl rfl) ?_
  refine DL.takeN 39 rfl (by kernel_rfl) (by kernel_rfl) (by kernel_rfl) (by kernel_rfl) (by kernel_rfl) rfl rfl (Gd.no rfl rfl rfl rfl) ?_
  refine DL.take 40 rfl (by kernel_rfl) (by kernel_rfl) (by kernel_rfl) (by kernel_rfl) (by kernel_rfl) rfl rfl (Gd.g0 rfl) (heldN 40) ((by first | exact Yd.pickT rfl rfl | exact Yd.pickF rfl rfl | exact Yd.pickB rfl rfl rfl)) ?_
  refine DL.done (by kernel_rfl) ?_
  first | refine EX.then_normal ?_ | skip
  rotate_left
  refine DL.take 9 rfl (by kernel_rfl) (by kernel_rfl) (by kernel_rfl) (by kernel_rfl) (by kernel_rfl) rfl rfl (Gd.yes rfl rfl rfl) (heldN 9) (Yd.fieldAddr rfl fo_77_1) ?_
  first | refine DL.take 10 rfl (by kernel_rfl) (by kernel_rfl) (by kernel_rfl) (by kernel_rfl) (by kernel_rfl) rfl rfl (Gd.yes rfl rfl rfl) (held 10 1 rfl (by kernel_rfl)) (Yd.load rfl ag_2 (row_cell rfl)) ?_ | refine DL.take 10 rfl (by kernel_rfl) (by kernel_rfl) (by kernel_rfl) (by kernel_rfl) (by kernel_rfl) rfl rfl (Gd.yes rfl rfl rfl) (held 10 2 rfl (by kernel_rfl)) (Yd.load rfl ag_2 (row_cell rfl)) ?_ | refine DL.take 10 rfl (by kernel_rfl) (by kernel_rfl) (by kernel_rfl) (by kernel_rfl) (by kernel_rfl) rfl rfl (Gd.yes rfl rfl rfl) (held 10 3 rfl (by kernel_rfl)) (Yd.load rfl ag_2 (row_cell rfl)) ?_ | refine DL.take 10 rfl (by kernel_rfl) (by kernel_rfl) (by kernel_rfl) (by kernel_rfl) (by kernel_rfl) rfl rfl (Gd.yes rfl rfl rfl) (held 10 4 rfl (by kernel_rfl)) (Yd.load rfl ag_2 (row_cell rfl)) ?_ | refine DL.take 10 rfl (by kernel_rfl) (by kernel_rfl) (by kernel_rfl) (by kernel_rfl) (by kernel_rfl) rfl rfl (Gd.yes rfl rfl rfl) (held 10 5 rfl (by kernel_rfl)) (Yd.load rfl ag_2 (row_cell rfl)) ?_
  refine DL.take 11 rfl (by kernel_rfl) (by kernel_rfl) (by kernel_rfl) (by kernel_rfl) (by kernel_rfl) rfl rfl (Gd.yes rfl rfl rfl) (heldN 11) (Yd.lss rfl rfl) ?_
  refine DL.take 12 rfl (by kernel_rfl) (by kernel_rfl) (by kernel_rfl) (by kernel_rfl) (by kernel_rfl) rfl rfl (Gd.g0 rfl) (heldN 12) ((by first | exact Yd.pickT rfl rfl | exact Yd.pickF rfl rfl | exact Yd.pickB rfl rfl rfl)) ?_
  refine DL.take 13 rfl (by kernel_rfl) (by kernel_rfl) (by kernel_rfl) (by kernel_rfl) (by kernel_rfl) rfl rfl (Gd.g0 rfl) (heldN 13) (Yd.move rfl) ?_
  refine DL.splitD (dj := 30) rfl (fun hg30 => ?_) (fun hg30 => ?_)
  refine DL.takeN 14 rfl (by kernel_rfl) (by kernel_rfl) (by kernel_rfl) (by kernel_rfl) (by kernel_rfl) rfl rfl (Gd.no rfl rfl rfl rfl) ?_
  refine DL.takeN 15 rfl (by kernel_rfl) (by kernel_rfl) (by kernel_rfl) (by kernel_rfl) (by kernel_rfl) rfl rfl (Gd.no rfl rfl rfl rfl) ?_
  refine DL.takeN 16 rfl (by kernel_rfl) (by kernel_rfl) (by kernel_rfl) (by kernel_rfl) (by kernel_rfl) rfl rfl (Gd.no rfl rfl rfl rfl) ?_
  refine DL.takeN 17 rfl (by kernel_rfl) (by kernel_rfl) (by kernel_rfl) (by kernel_rfl) (by kernel_rfl) rfl rfl (Gd.no rfl rfl rfl rfl) ?_
  refine DL.takeN 18 rfl (by kernel_rfl) (by kernel_rfl) (by kernel_rfl) (by kernel_rfl) (by kernel_rfl) rfl rfl (Gd.no rfl rfl rfl rfl) ?_
  refine DL.take 19 rfl (by kernel_rfl) (by kernel_rfl) (by kernel_rfl) (by kernel_rfl) (by kernel_rfl) rfl rfl (Gd.g0 rfl) (heldN 19) ((by first | exact Yd.pickT rfl rfl | exact Yd.pickF rfl rfl | exact Yd.pickB rfl rfl rfl)) ?_
  refine DL.take 20 rfl (by kernel_rfl) (by kernel_rfl) (by kernel_rfl) (by kernel_rfl) (by kernel_rfl) rfl rfl (Gd.g0 rfl) (heldN 20) (Yd.move rfl) ?_
  refine DL.takeN 21 rfl (by kernel_rfl) (by kernel_rfl) (by kernel_rfl) (by kernel_rfl) (by kernel_rfl) rfl rfl (Gd.no rfl rfl rfl rfl) ?_
  refine DL.takeN 22 rfl (by kernel_rfl) (by kernel_rfl) (by kernel_rfl) (by kernel_rfl) (by kernel_rfl) rfl rfl (Gd.no rfl rfl rfl rfl) ?_
  refine DL.takeN 23 rfl (by kernel_rfl) (by kernel_rfl) (by kernel_rfl) (by kernel_rfl) (by kernel_rfl) rfl rfl (Gd.no rfl rfl rfl rfl) ?_
  refine DL.take 24 rfl (by kernel_rfl) (by kernel_rfl) (by kernel_rfl) (by kernel_rfl) (by kernel_rfl) rfl rfl (Gd.g0 rfl) (heldN 24) ((by first | exact Yd.pickT rfl rfl | exact Yd.pickF rfl rfl | exact Yd.pickB rfl rfl rfl)) ?_
  refine DL.take 25 rfl (by kernel_rfl) (by kernel_rfl) (by kernel_rfl) (by kernel_rfl) (by kernel_rfl) rfl rfl (Gd.g0 rfl) (heldN 25) (Yd.move rfl) ?_
  refine DL.takeN 26 rfl (by kernel_rfl) (by kernel_rfl) (by kernel_rfl) (by kernel_rfl) (by kernel_rfl) rfl rfl (Gd.no rfl rfl rfl rfl) ?_
  refine DL.takeN 27 rfl (by kernel_rfl) (by kernel_rfl) (by kernel_rfl) (by kernel_rfl) (by kernel_rfl) rfl rfl (Gd.no rfl rfl rfl rfl) ?_
  refine DL.takeN 28 rfl (by kernel_rfl) (by kernel_rfl) (by kernel_rfl) (by kernel_rfl) (by kernel_rfl) rfl rfl (Gd.no rfl rfl rfl rfl) ?_
  refine DL.takeN 29 rfl (by kernel_rfl) (by kernel_rfl) (by kernel_rfl) (by kernel_rfl) (by kernel_rfl) rfl rfl (Gd.no rfl rfl rfl rfl) ?_
  refine DL.takeN 30 rfl (by kernel_rfl) (by kernel_rfl) (by kernel_rfl) (by kernel_rfl) (by kernel_rfl) rfl rfl (Gd.no rfl rfl rfl rfl) ?_
  refine DL.take 31 rfl (by kernel_rfl) (by kernel_rfl) (by kernel_rfl) (by kernel_rfl) (by kernel_rfl) rfl rfl (Gd.g0 rfl) (heldN 31) ((by first | exact Yd.pickT rfl rfl | exact Yd.pickF rfl rfl | exact Yd.pickB rfl rfl rfl)) ?_
  refine DL.take 32 rfl (by kernel_rfl) (by kernel_rfl) (by kernel_rfl) (by kernel_rfl) (by kernel_rfl) rfl rfl (Gd.g0 rfl) (heldN 32) (Yd.move rfl) ?_
  refine DL.takeN 33 rfl (by kernel_rfl) (by kernel_rfl) (by kernel_rfl) (by kernel_rfl) (by kernel_rfl) rfl rfl (Gd.no rfl rfl rfl rfl) ?_
  refine DL.takeN 34 rfl (by kernel_rfl) (by kernel_rfl) (by kernel_rfl) (by kernel_rfl) (by kernel_rfl) rfl rfl (Gd.no rfl rfl rfl rfl) ?_
  refine DL.takeN 35 rfl (by kernel_rfl) (by kernel_rfl) (by kernel_rfl) (by kernel_rfl) (by kernel_rfl) rfl rfl (Gd.no rfl rfl rfl rfl) ?_
  refine DL.takeN 36 rfl (by kernel_rfl) (by kernel_rfl) (by kernel_rfl) (by kernel_rfl) (by kernel_rfl) rfl rfl (Gd.no rfl rfl rfl rfl) ?_
  refine DL.takeN 37 rfl (by kernel_rfl) (by kernel_rfl) (by kernel_rfl) (by kernel_rfl) (by kernel_rfl) rfl rfl (Gd.no rfl rfl rfl rfl) ?_
  refine DL.takeN 38 rfl (by kernel_rfl) (by kernel_rfl) (by kernel_rfl) (by kernel_rfl) (by kernel_rfl) rfl rfl (Gd.no rfl rfl rfl rfl) ?_
  refine DL.takeN 39 rfl (by kernel_rfl) (by kernel_rfl) (by kernel_rfl) (by kernel_rfl) (by kernel_rfl) rfl rfl (Gd.no rfl rfl rfl rfl) ?_
  refine DL.take 40 rfl (by kernel_rfl) (by kernel_rfl) (by kernel_rfl) (by kernel_rfl) (by kernel_rfl) rfl rfl (Gd.g0 rfl) (heldN 40) ((by first | exact Yd.pickT rfl rfl | exact Yd.pickF rfl rfl | exact Yd.pickB rfl rfl rfl)) ?_
  refine DL.done (by kernel_rfl) ?_
  first | refine EX.then_normal ?_ | skip
  rotate_left
  refine DL.take 14 rfl (by kernel_rfl) (by kernel_rfl) (by kernel_rfl) (by kernel_rfl) (by kernel_rfl) rfl rfl (Gd.yes rfl rfl rfl) (heldN 14) (Yd.fieldAddr rfl fo_77_1) ?_
  first | refine DL.take 15 rfl (by kernel_rfl) (by kernel_rfl) (by kernel_rfl) (by kernel_rfl) (by kernel_rfl) rfl rfl (Gd.yes rfl rfl rfl) (held 15 1 rfl (by kernel_rfl)) (Yd.load rfl ag_2 (row_cell rfl)) ?_ | refine DL.take 15 rfl (by kernel_rfl) (by kernel_rfl) (by kernel_rfl) (by kernel_rfl) (by kernel_rfl) rfl rfl (Gd.yes rfl rfl rfl) (held 15 2 rfl (by kernel_rfl)) (Yd.load rfl ag_2 (row_cell rfl)) ?_ | refine DL.take 15 rfl (by kernel_rfl) (by kernel_rfl) (by kernel_rfl) (by kernel_rfl) (by kernel_rfl) rfl rfl (Gd.yes rfl rfl rfl) (held 15 3 rfl (by kernel_rfl)) (Yd.load rfl ag_2 (row_cell rfl)) ?_ | refine DL.take 15 rfl (by kernel_rfl) (by kernel_rfl) (by kernel_rfl) (by kernel_rfl) (by kernel_rfl) rfl rfl (Gd.yes rfl rfl rfl) (held 15 4 rfl (by kernel_rfl)) (Yd.load rfl ag_2 (row_cell rfl)) ?_ | refine DL.take 15 rfl (by kernel_rfl) (by kernel_rfl) (by kernel_rfl) (by kernel_rfl) (by kernel_rfl) rfl rfl (Gd.yes rfl rfl rfl) (held 15 5 rfl (by kernel_rfl)) (Yd.load rfl ag_2 (row_cell rfl)) ?_
  refine DL.take 16 rfl (by kernel_rfl) (by kernel_rfl) (by kernel_rfl) (by kernel_rfl) (by kernel_rfl) rfl rfl (Gd.yes rfl rfl rfl) (heldN 16) (Yd.fieldAddr rfl fo_37_4) ?_
  first | refine DL.take 17 rfl (by kernel_rfl) (by kernel_rfl) (by kernel_rfl) (by kernel_rfl) (by kernel_rfl) rfl rfl (Gd.yes rfl rfl rfl) (held 17 1 rfl (by kernel_rfl)) (Yd.load rfl ag_2 (row_cell rfl)) ?_ | refine DL.take 17 rfl (by kernel_rfl) (by kernel_rfl) (by kernel_rfl) (by kernel_rfl) (by kernel_rfl) rfl rfl (Gd.yes rfl rfl rfl) (held 17 2 rfl (by kernel_rfl)) (Yd.load rfl ag_2 (row_cell rfl)) ?_ | refine DL.take 17 rfl (by kernel_rfl) (by kernel_rfl) (by kernel_rfl) (by kernel_rfl) (by kernel_rfl) rfl rfl (Gd.yes rfl rfl rfl) (held 17 3 rfl (by kernel_rfl)) (Yd.load rfl ag_2 (row_cell rfl)) ?_ | refine DL.take 17 rfl (by kernel_rfl) (by kernel_rfl) (by kernel_rfl) (by kernel_rfl) (by kernel_rfl) rfl rfl (Gd.yes rfl rfl rfl) (held 17 4 rfl (by kernel_rfl)) (Yd.load rfl ag_2 (row_cell rfl)) ?_ | refine DL.take 17 rfl (by kernel_rfl) (by kernel_rfl) (by kernel_rfl) (by kernel_rfl) (by kernel_rfl) rfl rfl (Gd.yes rfl rfl rfl) (held 17 5 rfl (by kernel_rfl)) (Yd.load rfl ag_2 (row_cell rfl)) ?_
  refine DL.take 18 rfl (by kernel_rfl) (by kernel_rfl) (by kernel_rfl) (by kernel_rfl) (by kernel_rfl) rfl rfl (Gd.yes rfl rfl rfl) (heldN 18) (Yd.geq rfl rfl) ?_
  refine DL.take 19 rfl (by kernel_rfl) (by kernel_rfl) (by kernel_rfl) (by kernel_rfl) (by kernel_rfl) rfl rfl (Gd.g0 rfl) (heldN 19) ((by first | exact Yd.pickT rfl rfl | exact Yd.pickF rfl rfl | exact Yd.pickB rfl rfl rfl)) ?_
  refine DL.take 20 rfl (by kernel_rfl) (by kernel_rfl) (by kernel_rfl) (by kernel_rfl) (by kernel_rfl) rfl rfl (Gd.g0 rfl) (heldN 20) (Yd.move rfl) ?_
  refine DL.splitD (dj := 37) rfl (fun hg37 => ?_) (fun hg37 => ?_)
  refine DL.takeN 21 rfl (by kernel_rfl) (by kernel_rfl) (by kernel_rfl) (by kernel_rfl) (by kernel_rfl) rfl rfl (Gd.no rfl rfl rfl rfl) ?_
  refine DL.takeN 22 rfl (by kernel_rfl) (by kernel_rfl) (by kernel_rfl) (by kernel_rfl) (by kernel_rfl) rfl rfl (Gd.no rfl rfl rfl rfl) ?_
  refine DL.takeN 23 rfl (by kernel_rfl) (by kernel_rfl) (by kernel_rfl) (by kernel_rfl) (by kernel_rfl) rfl rfl (Gd.no rfl rfl rfl rfl) ?_
  refine DL.take 24 rfl (by kernel_rfl) (by kernel_rfl) (by kernel_rfl) (by kernel_rfl) (by kernel_rfl) rfl rfl (Gd.g0 rfl) (heldN 24) ((by first | exact Yd.pickT rfl rfl | exact Yd.pickF rfl rfl | exact Yd.pickB rfl rfl rfl)) ?_
  refine DL.take 25 rfl (by kernel_rfl) (by kernel_rfl) (by kernel_rfl) (by kernel_rfl) (by kernel_rfl) rfl rfl (Gd.g0 rfl) (heldN 25) (Yd.move rfl) ?_
  refine DL.takeN 26 rfl (by kernel_rfl) (by kernel_rfl) (by kernel_rfl) (by kernel_rfl) (by kernel_rfl) rfl rfl (Gd.no rfl rfl rfl rfl) ?_
  refine DL.takeN 27 rfl (by kernel_rfl) (by kernel_rfl) (by kernel_rfl) (by kernel_rfl) (by kernel_rfl) rfl rfl (Gd.no rfl rfl rfl rfl) ?_
  refine DL.takeN 28 rfl (by kernel_rfl) (by kernel_rfl) (by kernel_rfl) (by kernel_rfl) (by kernel_rfl) rfl rfl (Gd.no rfl rfl rfl rfl) ?_
  refine DL.takeN 29 rfl (by kernel_rfl) (by kernel_rfl) (by kernel_rfl) (by kernel_rfl) (by kernel_rfl) rfl rfl (Gd.no rfl rfl rfl rfl) ?_
  refine DL.takeN 30 rfl (by kernel_rfl) (by kernel_rfl) (by kernel_rfl) (by kernel_rfl) (by kernel_rfl) rfl rfl (Gd.no rfl rfl rfl rfl) ?_
  refine DL.take 31 rfl (by kernel_rfl) (by kernel_rfl) (by kernel_rfl) (by kernel_rfl) (by kernel_rfl) rfl rfl (Gd.g0 rfl) (heldN 31) ((by first | exact Yd.pickT rfl rfl | exact Yd.pickF rfl rfl | exact Yd.pickB rfl rfl rfl)) ?_
  refine DL.take 32 rfl (by kernel_rfl) (by kernel_rfl) (by kernel_rfl) (by kernel_rfl) (by kernel_rfl) rfl rfl (Gd.g0 rfl) (heldN 32) (Yd.move rfl) ?_
  refine DL.takeN 33 rfl (by kernel_rfl) (by kernel_rfl) (by kernel_rfl) (by kernel_rfl) (by kernel_rfl) rfl rfl (Gd.no rfl rfl rfl rfl) ?_
  refine DL.takeN 34 rfl (by kernel_rfl) (by kernel_rfl) (by kernel_rfl) (by kernel_rfl) (by kernel_rfl) rfl rfl (Gd.no rfl rfl rfl rfl) ?_
  refine DL.takeN 35 rfl (by kernel_rfl) (by kernel_rfl) (by kernel_rfl) (by kernel_rfl) (by kernel_rfl) rfl rfl (Gd.no rfl rfl rfl rfl) ?_
  refine DL.takeN 36 rfl (by kernel_rfl) (by kernel_rfl) (by kernel_rfl) (by kernel_rfl) (by kernel_rfl) rfl rfl (Gd.no rfl rfl rfl rfl) ?_
  refine DL.takeN 37 rfl (by kernel_rfl) (by kernel_rfl) (by kernel_rfl) (by kernel_rfl) (by kernel_rfl) rfl rfl (Gd.no rfl rfl rfl rfl) ?_
  refine DL.takeN 38 rfl (by kernel_rfl) (by kernel_rfl) (by kernel_rfl) (by kernel_rfl) (by kernel_rfl) rfl rfl (Gd.no rfl rfl rfl rfl) ?_
  refine DL.takeN 39 rfl (by kernel_rfl) (by kernel_rfl) (by kernel_rfl) (by kernel_rfl) (by kernel_rfl) rfl rfl (Gd.no rfl rfl rfl rfl) ?_
  refine DL.take 40 rfl (by kernel_rfl) (by kernel_rfl) (by kernel_rfl) (by kernel_rfl) (by kernel_rfl) rfl rfl (Gd.g0 rfl) (heldN 40) ((by first | exact Yd.pickT rfl rfl | exact Yd.pickF rfl rfl | exact Yd.pickB rfl rfl rfl)) ?_
  refine DL.done (by kernel_rfl) ?_
  first | refine EX.then_normal ?_ | skip
  rotate_left
  refine DL.take 21 rfl (by kernel_rfl) (by kernel_rfl) (by kernel_rfl) (by kernel_rfl) (by kernel_rfl) rfl rfl (Gd.yes rfl rfl rfl) (heldN 21) (Yd.fieldAddr rfl fo_77_2) ?_
  first | refine DL.take 22 rfl (by kernel_rfl) (by kernel_rfl) (by kernel_rfl) (by kernel_rfl) (by kernel_rfl) rfl rfl (Gd.yes rfl rfl rfl) (held 22 1 rfl (by kernel_rfl)) (Yd.load rfl ag_2 (row_cell rfl)) ?_ | refine DL.take 22 rfl (by kernel_rfl) (by kernel_rfl) (by kernel_rfl) (by kernel_rfl) (by kernel_rfl) rfl rfl (Gd.yes rfl rfl rfl) (held 22 2 rfl (by kernel_rfl)) (Yd.load rfl ag_2 (row_cell rfl)) ?_ | refine DL.take 22 rfl (by kernel_rfl) (by kernel_rfl) (by kernel_rfl) (by kernel_rfl) (by kernel_rfl) rfl rfl (Gd.yes rfl rfl rfl) (held 22 3 rfl (by kernel_rfl)) (Yd.load rfl ag_2 (row_cell rfl)) ?_ | refine DL.take 22 rfl (by kernel_rfl) (by kernel_rfl) (by kernel_rfl) (by kernel_rfl) (by kernel_rfl) rfl rfl (Gd.yes rfl rfl rfl) (held 22 4 rfl (by kernel_rfl)) (Yd.load rfl ag_2 (row_cell rfl)) ?_ | refine DL.take 22 rfl (by kernel_rfl) (by kernel_rfl) (by kernel_rfl) (by kernel_rfl) (by kernel_rfl) rfl rfl (Gd.yes rfl rfl rfl) (held 22 5 rfl (by kernel_rfl)) (Yd.load rfl ag_2 (row_cell rfl)) ?_
  refine DL.take 23 rfl (by kernel_rfl) (by kernel_rfl) (by kernel_rfl) (by kernel_rfl) (by kernel_rfl) rfl rfl (Gd.yes rfl rfl rfl) (heldN 23) (Yd.lss rfl rfl) ?_
  refine DL.take 24 rfl (by kernel_rfl) (by kernel_rfl) (by kernel_rfl) (by kernel_rfl) (by kernel_rfl) rfl rfl (Gd.g0 rfl) (heldN 24) ((by first | exact Yd.pickT rfl rfl | exact Yd.pickF rfl rfl | exact Yd.pickB rfl rfl rfl)) ?_
  refine DL.take 25 rfl (by kernel_rfl) (by kernel_rfl) (by kernel_rfl) (by kernel_rfl) (by kernel_rfl) rfl rfl (Gd.g0 rfl) (heldN 25) (Yd.move rfl) ?_
  refine DL.splitD (dj := 42) rfl (fun hg42 => ?_) (fun hg42 => ?_)
  refine DL.takeN 26 rfl (by kernel_rfl) (by kernel_rfl) (by kernel_rfl) (by kernel_rfl) (by kernel_rfl) rfl rfl (Gd.no rfl rfl rfl rfl) ?_
  refine DL.takeN 27 rfl (by kernel_rfl) (by kernel_rfl) (by kernel_rfl) (by kernel_rfl) (by kernel_rfl) rfl rfl (Gd.no rfl rfl rfl rfl) ?_
  refine DL.takeN 28 rfl (by kernel_rfl) (by kernel_rfl) (by kernel_rfl) (by kernel_rfl) (by kernel_rfl) rfl rfl (Gd.no rfl rfl rfl rfl) ?_
  refine DL.takeN 29 rfl (by kernel_rfl) (by kernel_rfl) (by kernel_rfl) (by kernel_rfl) (by kernel_rfl) rfl rfl (Gd.no rfl rfl rfl rfl) ?_
  refine DL.takeN 30 rfl (by kernel_rfl) (by kernel_rfl) (by kernel_rfl) (by kernel_rfl) (by kernel_rfl) rfl rfl (Gd.no rfl rfl rfl rfl) ?_
  refine DL.take 31 rfl (by kernel_rfl) (by kernel_rfl) (by kernel_rfl) (by kernel_rfl) (by kernel_rfl) rfl rfl (Gd.g0 rfl) (heldN 31) ((by first | exact Yd.pickT rfl rfl | exact Yd.pickF rfl rfl | exact Yd.pickB rfl rfl rfl)) ?_
  refine DL.take 32 rfl (by kernel_rfl) (by kernel_rfl) (by kernel_rfl) (by kernel_rfl) (by kernel_rfl) rfl rfl (Gd.g0 rfl) (heldN 32) (Yd.move rfl) ?_
  refine DL.takeN 33 rfl (by kernel_rfl) (by kernel_rfl) (by kernel_rfl) (by kernel_rfl) (by kernel_rfl) rfl rfl (Gd.no rfl rfl rfl rfl) ?_
  refine DL.takeN 34 rfl (by kernel_rfl) (by kernel_rfl) (by kernel_rfl) (by kernel_rfl) (by kernel_rfl) rfl rfl (Gd.no rfl rfl rfl rfl) ?_
  refine DL.takeN 35 rfl (by kernel_rfl) (by kernel_rfl) (by kernel_rfl) (by kernel_rfl) (by kernel_rfl) rfl rfl (Gd.no rfl rfl rfl rfl) ?_
  refine DL.takeN 36 rfl (by kernel_rfl) (by kernel_rfl) (by kernel_rfl) (by kernel_rfl) (by kernel_rfl) rfl rfl (Gd.no rfl rfl rfl rfl) ?_
  refine DL.takeN 37 rfl (by kernel_rfl) (by kernel_rfl) (by kernel_rfl) (by kernel_rfl) (by kernel_rfl) rfl rfl (Gd.no rfl rfl rfl rfl) ?_
  refine DL.takeN 38 rfl (by kernel_rfl) (by kernel_rfl) (by kernel_rfl) (by kernel_rfl) (by kernel_rfl) rfl rfl (Gd.no rfl rfl rfl rfl) ?_
  refine DL.takeN 39 rfl (by kernel_rfl) (by kernel_rfl) (by kernel_rfl) (by kernel_rfl) (by kernel_rfl) rfl rfl (Gd.no rfl rfl rfl rfl) ?_
  refine DL.take 40 rfl (by kernel_rfl) (by kernel_rfl) (by kernel_rfl) (by kernel_rfl) (by kernel_rfl) rfl rfl (Gd.g0 rfl) (heldN 40) ((by first | exact Yd.pickT rfl rfl | exact Yd.pickF rfl rfl | exact Yd.pickB rfl rfl rfl)) ?_
  refine DL.done (by kernel_rfl) ?_
  first | refine EX.then_normal ?_ | skip
  rotate_left
  refine DL.take 26 rfl (by kernel_rfl) (by kernel_rfl) (by kernel_rfl) (by kernel_rfl) (by kernel_rfl) rfl rfl (Gd.yes rfl rfl rfl) (heldN 26) (Yd.fieldAddr rfl fo_77_2) ?_
  first | refine DL.take 27 rfl (by kernel_rfl) (by kernel_rfl) (by kernel_rfl) (by kernel_rfl) (by kernel_rfl) rfl rfl (Gd.yes rfl rfl rfl) (held 27 1 rfl (by kernel_rfl)) (Yd.load rfl ag_2 (row_cell rfl)) ?_ | refine DL.take 27 rfl (by kernel_rfl) (by kernel_rfl) (by kernel_rfl) (by kernel_rfl) (by kernel_rfl) rfl rfl (Gd.yes rfl rfl rfl) (held 27 2 rfl (by kernel_rfl)) (Yd.load rfl ag_2 (row_cell rfl)) ?_ | refine DL.take 27 rfl (by kernel_rfl) (by kernel_rfl) (by kernel_rfl) (by kernel_rfl) (by kernel_rfl) rfl rfl (Gd.yes rfl rfl rfl) (held 27 3 rfl (by kernel_rfl)) (Yd.load rfl ag_2 (row_cell rfl)) ?_ | refine DL.take 27 rfl (by kernel_rfl) (by kernel_rfl) (by kernel_rfl) (by kernel_rfl) (by kernel_rfl) rfl rfl (Gd.yes rfl rfl rfl) (held 27 4 rfl (by kernel_rfl)) (Yd.load rfl ag_2 (row_cell rfl)) ?_ | refine DL.take 27 rfl (by kernel_rfl) (by kernel_rfl) (by kernel_rfl) (by kernel_rfl) (by kernel_rfl) rfl rfl (Gd.yes rfl rfl rfl) (held 27 5 rfl (by kernel_rfl)) (Yd.load rfl ag_2 (row_cell rfl)) ?_
  refine DL.take 28 rfl (by kernel_rfl) (by kernel_rfl) (by kernel_rfl) (by kernel_rfl) (by kernel_rfl) rfl rfl (Gd.yes rfl rfl rfl) (heldN 28) (Yd.fieldAddr rfl fo_37_4) ?_
  first | refine DL.take 29 rfl (by kernel_rfl) (by kernel_rfl) (by kernel_rfl) (by kernel_rfl) (by kernel_rfl) rfl rfl (Gd.yes rfl rfl rfl) (held 29 1 rfl (by kernel_rfl)) (Yd.load rfl ag_2 (row_cell rfl)) ?_ | refine DL.take 29 rfl (by kernel_rfl) (by kernel_rfl) (by kernel_rfl) (by kernel_rfl) (by kernel_rfl) rfl rfl (Gd.yes rfl rfl rfl) (held 29 2 rfl (by kernel_rfl)) (Yd.load rfl ag_2 (row_cell rfl)) ?_ | refine DL.take 29 rfl (by kernel_rfl) (by kernel_rfl) (by kernel_rfl) (by kernel_rfl) (by kernel_rfl) rfl rfl (Gd.yes rfl rfl rfl) (held 29 3 rfl (by kernel_rfl)) (Yd.load rfl ag_2 (row_cell rfl)) ?_ | refine DL.take 29 rfl (by kernel_rfl) (by kernel_rfl) (by kernel_rfl) (by kernel_rfl) (by kernel_rfl) rfl rfl (Gd.yes rfl rfl rfl) (held 29 4 rfl (by kernel_rfl)) (Yd.load rfl ag_2 (row_cell rfl)) ?_ | refine DL.take 29 rfl (by kernel_rfl) (by kernel_rfl) (by kernel_rfl) (by kernel_rfl) (by kernel_rfl) rfl rfl (Gd.yes rfl rfl rfl) (held 29 5 rfl (by kernel_rfl)) (Yd.load rfl ag_2 (row_cell rfl)) ?_
  refine DL.take 30 rfl (by kernel_rfl) (by kernel_rfl) (by kernel_rfl) (by kernel_rfl) (by kernel_rfl) rfl rfl (Gd.yes rfl rfl rfl) (heldN 30) (Yd.gtr rfl rfl) ?_
  refine DL.take 31 rfl (by kernel_rfl) (by kernel_rfl) (by kernel_rfl) (by kernel_rfl) (by kernel_rfl) rfl rfl (Gd.g0 rfl) (heldN 31) ((by first | exact Yd.pickT rfl rfl | exact Yd.pickF rfl rfl | exact Yd.pickB rfl rfl rfl)) ?_
  refine DL.take 32 rfl (by kernel_rfl) (by kernel_rfl) (by kernel_rfl) (by kernel_rfl) (by kernel_rfl) rfl rfl (Gd.g0 rfl) (heldN 32) (Yd.move rfl) ?_
  refine DL.splitD (dj := 49) rfl (fun hg49 => ?_) (fun hg49 => ?_)
  refine DL.takeN 33 rfl (by kernel_rfl) (by kernel_rfl) (by kernel_rfl) (by kernel_rfl) (by kernel_rfl) rfl rfl (Gd.no rfl rfl rfl rfl) ?_
  refine DL.takeN 34 rfl (by kernel_rfl) (by kernel_rfl) (by kernel_rfl) (by kernel_rfl) (by kernel_rfl) rfl rfl (Gd.no rfl rfl rfl rfl) ?_
  refine DL.takeN 35 rfl (by kernel_rfl) (by kernel_rfl) (by kernel_rfl) (by kernel_rfl) (by kernel_rfl) rfl rfl (Gd.no rfl rfl rfl rfl) ?_
  refine DL.takeN 36 rfl (by kernel_rfl) (by kernel_rfl) (by kernel_rfl) (by kernel_rfl) (by kernel_rfl) rfl rfl (Gd.no rfl rfl rfl rfl) ?_
  refine DL.takeN 37 rfl (by kernel_rfl) (by kernel_rfl) (by kernel_rfl) (by kernel_rfl) (by kernel_rfl) rfl rfl (Gd.no rfl rfl rfl rfl) ?_
  refine DL.takeN 38 rfl (by kernel_rfl) (by kernel_rfl) (by kernel_rfl) (by kernel_rfl) (by kernel_rfl) rfl rfl (Gd.no rfl rfl rfl rfl) ?_
  refine DL.takeN 39 rfl (by kernel_rfl) (by kernel_rfl) (by kernel_rfl) (by kernel_rfl) (by kernel_rfl) rfl rfl (Gd.no rfl rfl rfl rfl) ?_
  refine DL.take 40 rfl (by kernel_rfl) (by kernel_rfl) (by kernel_rfl) (by kernel_rfl) (by kernel_rfl) rfl rfl (Gd.g0 rfl) (heldN 40) ((by first | exact Yd.pickT rfl rfl | exact Yd.pickF rfl rfl | exact Yd.pickB rfl rfl rfl)) ?_
  refine DL.done (by kernel_rfl) ?_
  first | refine EX.then_normal ?_ | skip
  rotate_left
  refine DL.take 33 rfl (by kernel_rfl) (by kernel_rfl) (by kernel_rfl) (by kernel_rfl) (by kernel_rfl) rfl rfl (Gd.yes rfl rfl rfl) (heldN 33) (Yd.move rfl) ?_
  first | refine DL.take 34 rfl (by kernel_rfl) (by kernel_rfl) (by kernel_rfl) (by kernel_rfl) (by kernel_rfl) rfl rfl (Gd.yes rfl rfl rfl) (held 34 1 rfl (by kernel_rfl)) (Yd.loadH rfl ag_77 (fun _ h => h) rfl) ?_ | refine DL.take 34 rfl (by kernel_rfl) (by kernel_rfl) (by kernel_rfl) (by kernel_rfl) (by kernel_rfl) rfl rfl (Gd.yes rfl rfl rfl) (held 34 2 rfl (by kernel_rfl)) (Yd.loadH rfl ag_77 (fun _ h => h) rfl) ?_ | refine DL.take 34 rfl (by kernel_rfl) (by kernel_rfl) (by kernel_rfl) (by kernel_rfl) (by kernel_rfl) rfl rfl (Gd.yes rfl rfl rfl) (held 34 3 rfl (by kernel_rfl)) (Yd.loadH rfl ag_77 (fun _ h => h) rfl) ?_ | refine DL.take 34 rfl (by kernel_rfl) (by kernel_rfl) (by kernel_rfl) (by kernel_rfl) (by kernel_rfl) rfl rfl (Gd.yes rfl rfl rfl) (held 34 4 rfl (by kernel_rfl)) (Yd.loadH rfl ag_77 (fun _ h => h) rfl) ?_ | refine DL.take 34 rfl (by kernel_rfl) (by kernel_rfl) (by kernel_rfl) (by kernel_rfl) (by kernel_rfl) rfl rfl (Gd.yes rfl rfl rfl) (held 34 5 rfl (by kernel_rfl)) (Yd.loadH rfl ag_77 (fun _ h => h) rfl) ?_
  refine DL.take 35 rfl (by kernel_rfl) (by kernel_rfl) (by kernel_rfl) (by kernel_rfl) (by kernel_rfl) rfl rfl (Gd.yes rfl rfl rfl) (heldN 35) (Yd.build (cs := #[.int .i64 r, .int .i64 f, .int .i64 l]) rfl (by kernel_rfl)) ?_
  refine DL.take 37 rfl (by kernel_rfl) (by kernel_rfl) (by kernel_rfl) (by kernel_rfl) (by kernel_rfl) rfl rfl (Gd.yes rfl rfl rfl) (heldN 37) (Yd.fieldAddr rfl fo_37_4) ?_
  first | refine DL.take 38 rfl (by kernel_rfl) (by kernel_rfl) (by kernel_rfl) (by kernel_rfl) (by kernel_rfl) rfl rfl (Gd.yes rfl rfl rfl) (held 38 1 rfl (by kernel_rfl)) (Yd.load rfl ag_2 (row_cell rfl)) ?_ | refine DL.take 38 rfl (by kernel_rfl) (by kernel_rfl) (by kernel_rfl) (by kernel_rfl) (by kernel_rfl) rfl rfl (Gd.yes rfl rfl rfl) (held 38 2 rfl (by kernel_rfl)) (Yd.load rfl ag_2 (row_cell rfl)) ?_ | refine DL.take 38 rfl (by kernel_rfl) (by kernel_rfl) (by kernel_rfl) (by kernel_rfl) (by kernel_rfl) rfl rfl (Gd.yes rfl rfl rfl) (held 38 3 rfl (by kernel_rfl)) (Yd.load rfl ag_2 (row_cell rfl)) ?_ | refine DL.take 38 rfl (by kernel_rfl) (by kernel_rfl) (by kernel_rfl) (by kernel_rfl) (by kernel_rfl) rfl rfl (Gd.yes rfl rfl rfl) (held 38 4 rfl (by kernel_rfl)) (Yd.load rfl ag_2 (row_cell rfl)) ?_ | refine DL.take 38 rfl (by kernel_rfl) (by kernel_rfl) (by kernel_rfl) (by kernel_rfl) (by kernel_rfl) rfl rfl (Gd.yes rfl rfl rfl) (held 38 5 rfl (by kernel_rfl)) (Yd.load rfl ag_2 (row_cell rfl)) ?_
  refine DL.ready1 (i := 36) (by kernel_rfl) ?_
  refine D1.callX rfl rfl rfl (Gd.yes rfl rfl rfl) (Cll.value rfl rfl rfl cf_37) (fun w2 hw => prog_ends ⟨r, f, l⟩ w2) (fun w hw => ⟨(by first | exact fun _ => hw.tb | exact fun _ => hw.ok 0 _ rfl | exact fun _ => hw.ok 1 _ rfl | exact fun _ => hw.ok 2 _ rfl | exact fun _ => hw.ok 3 _ rfl | exact fun _ => hw.ok 4 _ rfl | exact fun _ => hw.ok 5 _ rfl | exact SG.gone (by kernel_rfl)), (by first | exact fun _ => hw.tb | exact fun _ => hw.ok 0 _ rfl | exact fun _ => hw.ok 1 _ rfl | exact fun _ => hw.ok 2 _ rfl | exact fun _ => hw.ok 3 _ rfl | exact fun _ => hw.ok 4 _ rfl | exact fun _ => hw.ok 5 _ rfl | exact SG.gone (by kernel_rfl)), (by first | exact fun _ => hw.tb | exact fun _ => hw.ok 0 _ rfl | exact fun _ => hw.ok 1 _ rfl | exact fun _ => hw.ok 2 _ rfl | exact fun _ => hw.ok 3 _ rfl | exact fun _ => hw.ok 4 _ rfl | exact fun _ => hw.ok 5 _ rfl | exact SG.gone (by kernel_rfl)), trivial⟩) (fun en _ => ?_)
  refine DL.take 39 rfl (by kernel_rfl) (by kernel_rfl) (by kernel_rfl) (by kernel_rfl) (by kernel_rfl) rfl rfl (Gd.yes rfl rfl rfl) (heldN 39) (Yd.gtr rfl rfl) ?_
  refine DL.take 40 rfl (by kernel_rfl) (by kernel_rfl) (by kernel_rfl) (by kernel_rfl) (by kernel_rfl) rfl rfl (Gd.g0 rfl) (heldN 40) ((by first | exact Yd.pickT rfl rfl | exact Yd.pickF rfl rfl | exact Yd.pickB rfl rfl rfl)) ?_
  refine DL.done (by kernel_rfl) ?_
  first | refine EX.then_normal ?_ | skip
  rotate_left
  rotate_right
  ·repeat (refine CW.seq ?_)
   refine CW.condD rfl (fun hE => ?_) (fun hE => ?_)
   ·repeat (refine CW.seq ?_)
    refine CW.region ?_
    refine SL.val rfl rfl (Gd.g0 rfl) (Yd.assign rfl) ?_
    first | refine SL.nil_then ?_ | refine SL.nil ?_
    refine CW.ret ?_
    repeat (first | refine EX.then_ret ?_ | refine EX.in_ret ?_)
    refine EX.out (rs := _) rfl (ResA.tmp rfl ResA.nil) (fun w2 hw => ?_) (by first | exact Or.inl rfl | exact Or.inr rfl)
    exact ⟨⟨false, fun h => by omega, rfl⟩, hw.drop.below⟩
   refine CW.skip ?_
   repeat (first | refine EX.in_normal ?_)
   first | refine EX.then_normal ?_ | skip
   repeat (refine CW.seq ?_)
   refine CW.region ?_
   refine SL.val rfl rfl (Gd.g0 rfl) (Yd.fieldAddr rfl fo_37_6) ?_
   refine SL.val rfl rfl (Gd.g0 rfl) ((by first | exact Yd.load rfl ag_35 (Wd.cell (i := 0) rfl rfl) | exact Yd.load rfl ag_35 (Wd.cell (i := 1) rfl rfl) | exact Yd.load rfl ag_35 (Wd.cell (i := 2) rfl rfl) | exact Yd.load rfl ag_35 (Wd.cell (i := 3) rfl rfl) | exact Yd.load rfl ag_35 (Wd.cell (i := 4) rfl rfl) | exact Yd.load rfl ag_35 (Wd.cell (i := 5) rfl rfl))) ?_
   refine SL.val rfl rfl (Gd.g0 rfl) (Yd.move rfl) ?_
   refine SL.val rfl rfl (Gd.g0 rfl) (Yd.sliceH rfl rfl sl_35 (by omega)) ?_
   refine SL.val rfl rfl (Gd.g0 rfl) (Yd.lenSl rfl isl_35) ?_
   refine SL.val rfl rfl (Gd.g0 rfl) (Yd.move rfl) ?_
   first | refine SL.nil_then ?_ | refine SL.nil ?_
   repeat (refine CW.seq ?_)
   refine CW.block ?_
   refine CW.loop (σ := Nat) (fun m => m ≤ k) (fun m => [(1, .pointer (some ⟨b1, 0, none⟩)), (3, .func (.func 37) #[] #[]), (5, .pointer (some ⟨b5, 0, none⟩)), (10, .slice (some ⟨b, off, none⟩) sc.length cap), (11, .int .i64 (sc.length : Int)), (12, .int .i64 (k : Int)), (61, .slice (some ⟨b, off, none⟩) k cap), (62, .int .i64 (k : Int)), (63, .int .i64 (m : Int))]) (fun _ => Wd w [] [Rs.row b5 [Value.int .i64 r, .int .i64 f, .int .i64 l] 77, Rs.row b1 [Value.string nm, .int .i64 T, .int .i64 O, .int .i64 D, .int .i64 C, .int .i64 pr, .slice (some ⟨b, off, none⟩) sc.length cap] 37]) (fun m => k - m) 0 (by omega) (Sub.cons rfl rfl (Sub.cons rfl rfl (Sub.cons rfl rfl (Sub.cons rfl rfl (Sub.cons rfl rfl (Sub.cons rfl rfl (Sub.cons rfl rfl (Sub.cons rfl rfl (Sub.cons rfl rfl Sub.nil))))))))) (fun _ h => h) ?_
   intro m hm
   repeat (refine CW.seq ?_)
   refine CW.region ?_
   refine SL.val rfl rfl (Gd.g0 rfl) (Yd.lss rfl rfl) ?_
   first | refine SL.nil_then ?_ | refine SL.nil ?_
   repeat (refine CW.seq ?_)
   refine CW.condD rfl (fun hmk => ?_) (fun hmk => ?_)
   ·refine CW.skip ?_
    repeat (first | refine EX.in_normal ?_)
    first | refine EX.then_normal ?_ | skip
    have hml : m < sc.length := by omega
    obtain ⟨y, hy⟩ : ∃ x, ge cdSc sc m = x := ⟨_, rfl⟩
    obtain ⟨r2, f2, l2⟩ := y
    have hcs2 : ∀ j v, [Value.int .i64 r2, .int .i64 f2, .int .i64 l2][j]? = some v → w.cell? ⟨b, off + m * 3 + j, none⟩ = some v := fun j v h => hc m hml j v (by rw [hy]; exact h)
    repeat (refine CW.seq ?_)
    refine CW.block ?_
    repeat (refine CW.seq ?_)
    refine CW.region ?_
    refine SL.val rfl rfl (Gd.g0 rfl) ((by first | exact Yd.indexSlN rfl rfl sl_35 (by omega) | exact Yd.indexSl rfl rfl sl_35 (by omega))) ?_
    refine SL.val rfl rfl (Gd.g0 rfl) ((by first | exact Yd.loadR (i := 0) rfl ag_77 rfl rfl | exact Yd.loadR (i := 1) rfl ag_77 rfl rfl | exact Yd.loadR (i := 2) rfl ag_77 rfl rfl | exact Yd.loadR (i := 3) rfl ag_77 rfl rfl | exact Yd.loadR (i := 4) rfl ag_77 rfl rfl | exact Yd.loadR (i := 5) rfl ag_77 rfl rfl | exact Yd.loadA rfl ag_77 rfl (Wd.inpA hb (by simp) hcs2))) ?_
    refine SL.efD rfl rfl (Gd.g0 rfl) (Ef.alloc zl_77) (fun b7 => ?_)
    try dsimp only [Value.cells, List.flatMap_cons, List.flatMap_nil]
    refine SL.ef0 rfl (Gd.g0 rfl) (by first | exact Ef0.storeA (i := 0) rfl rfl rfl ag_77 rfl rfl (by simp) | exact Ef0.storeA (i := 1) rfl rfl rfl ag_77 rfl rfl (by simp) | exact Ef0.storeA (i := 2) rfl rfl rfl ag_77 rfl rfl (by simp) | exact Ef0.storeA (i := 3) rfl rfl rfl ag_77 rfl rfl (by simp) | exact Ef0.storeA (i := 4) rfl rfl rfl ag_77 rfl rfl (by simp) | exact Ef0.storeA (i := 5) rfl rfl rfl ag_77 rfl rfl (by simp)) ?_
    try dsimp only [setR, List.set, setRow2]
    first | refine SL.nil_then ?_ | refine SL.nil ?_
    repeat (refine CW.seq ?_)
    refine CW.region ?_
    refine SL.efD rfl rfl (Gd.g0 rfl) (Ef.buildSlice rfl se_85 rfl rfl rfl rfl) (fun b67 => ?_)
    try dsimp only [Value.cells, List.flatMap_cons, List.flatMap_nil]
    refine SL.val rfl rfl (Gd.g0 rfl) (Yd.assign rfl) ?_
    first | refine SL.nil_then ?_ | refine SL.nil ?_
    repeat (refine CW.seq ?_)
    refine CW.draw [(Tb w [], []), ((Rs.row b5 [Value.int .i64 r, .int .i64 f, .int .i64 l] 77).ok, []), ((Rs.row b7 [Value.int .i64 r2, .int .i64 f2, .int .i64 l2] 77).ok, []), ((Rs.row b67 [.func (.func 38) #[] #[], .func (.func 39) #[] #[]] 86).ok, [])] mixed (fun w hw => hw.drew) (fun w hw => ⟨(by first | exact fun _ => hw.tb | exact fun _ => hw.ok 0 _ rfl | exact fun _ => hw.ok 1 _ rfl | exact fun _ => hw.ok 2 _ rfl | exact fun _ => hw.ok 3 _ rfl | exact fun _ => hw.ok 4 _ rfl | exact fun _ => hw.ok 5 _ rfl | exact SG.gone (by kernel_rfl)), (by first | exact fun _ => hw.tb | exact fun _ => hw.ok 0 _ rfl | exact fun _ => hw.ok 1 _ rfl | exact fun _ => hw.ok 2 _ rfl | exact fun _ => hw.ok 3 _ rfl | exact fun _ => hw.ok 4 _ rfl | exact fun _ => hw.ok 5 _ rfl | exact SG.gone (by kernel_rfl)), (by first | exact fun _ => hw.tb | exact fun _ => hw.ok 0 _ rfl | exact fun _ => hw.ok 1 _ rfl | exact fun _ => hw.ok 2 _ rfl | exact fun _ => hw.ok 3 _ rfl | exact fun _ => hw.ok 4 _ rfl | exact fun _ => hw.ok 5 _ rfl | exact SG.gone (by kernel_rfl)), (by first | exact fun _ => hw.tb | exact fun _ => hw.ok 0 _ rfl | exact fun _ => hw.ok 1 _ rfl | exact fun _ => hw.ok 2 _ rfl | exact fun _ => hw.ok 3 _ rfl | exact fun _ => hw.ok 4 _ rfl | exact fun _ => hw.ok 5 _ rfl | exact SG.gone (by kernel_rfl)), trivial⟩) ?_
    first | refine DL.take 0 rfl (by kernel_rfl) (by kernel_rfl) (by kernel_rfl) (by kernel_rfl) (by kernel_rfl) rfl rfl (Gd.g0 rfl) (held 0 1 rfl (by kernel_rfl)) (Yd.loadH rfl ag_77 (fun _ h => h) rfl) ?_ | refine DL.take 0 rfl (by kernel_rfl) (by kernel_rfl) (by kernel_rfl) (by kernel_rfl) (by kernel_rfl) rfl rfl (Gd.g0 rfl) (held 0 2 rfl (by kernel_rfl)) (Yd.loadH rfl ag_77 (fun _ h => h) rfl) ?_ | refine DL.take 0 rfl (by kernel_rfl) (by kernel_rfl) (by kernel_rfl) (by kernel_rfl) (by kernel_rfl) rfl rfl (Gd.g0 rfl) (held 0 3 rfl (by kernel_rfl)) (Yd.loadH rfl ag_77 (fun _ h => h) rfl) ?_ | refine DL.take 0 rfl (by kernel_rfl) (by kernel_rfl) (by kernel_rfl) (by kernel_rfl) (by kernel_rfl) rfl rfl (Gd.g0 rfl) (held 0 4 rfl (by kernel_rfl)) (Yd.loadH rfl ag_77 (fun _ h => h) rfl) ?_ | refine DL.take 0 rfl (by kernel_rfl) (by kernel_rfl) (by kernel_rfl) (by kernel_rfl) (by kernel_rfl) rfl rfl (Gd.g0 rfl) (held 0 5 rfl (by kernel_rfl)) (Yd.loadH rfl ag_77 (fun _ h => h) rfl) ?_
    first | refine DL.take 1 rfl (by kernel_rfl) (by kernel_rfl) (by kernel_rfl) (by kernel_rfl) (by kernel_rfl) rfl rfl (Gd.g0 rfl) (held 1 1 rfl (by kernel_rfl)) (Yd.loadH rfl ag_77 (fun _ h => h) rfl) ?_ | refine DL.take 1 rfl (by kernel_rfl) (by kernel_rfl) (by kernel_rfl) (by kernel_rfl) (by kernel_rfl) rfl rfl (Gd.g0 rfl) (held 1 2 rfl (by kernel_rfl)) (Yd.loadH rfl ag_77 (fun _ h => h) rfl) ?_ | refine DL.take 1 rfl (by kernel_rfl) (by kernel_rfl) (by kernel_rfl) (by kernel_rfl) (by kernel_rfl) rfl rfl (Gd.g0 rfl) (held 1 3 rfl (by kernel_rfl)) (Yd.loadH rfl ag_77 (fun _ h => h) rfl) ?_ | refine DL.take 1 rfl (by kernel_rfl) (by kernel_rfl) (by kernel_rfl) (by kernel_rfl) (by kernel_rfl) rfl rfl (Gd.g0 rfl) (held 1 4 rfl (by kernel_rfl)) (Yd.loadH rfl ag_77 (fun _ h => h) rfl) ?_ | refine DL.take 1 rfl (by kernel_rfl) (by kernel_rfl) (by kernel_rfl) (by kernel_rfl) (by kernel_rfl) rfl rfl (Gd.g0 rfl) (held 1 5 rfl (by kernel_rfl)) (Yd.loadH rfl ag_77 (fun _ h => h) rfl) ?_
    refine DL.ready1 (i := 2) (by kernel_rfl) ?_
    refine D1.callX rfl rfl rfl (Gd.g0 rfl) (Cll.func rfl cf_40) (fun w2 hw => prog_overlaps ⟨r, f, l⟩ ⟨r2, f2, l2⟩ w2) (fun w hw => ⟨(by first | exact fun _ => hw.tb | exact fun _ => hw.ok 0 _ rfl | exact fun _ => hw.ok 1 _ rfl | exact fun _ => hw.ok 2 _ rfl | exact fun _ => hw.ok 3 _ rfl | exact fun _ => hw.ok 4 _ rfl | exact fun _ => hw.ok 5 _ rfl | exact SG.gone (by kernel_rfl)), (by first | exact fun _ => hw.tb | exact fun _ => hw.ok 0 _ rfl | exact fun _ => hw.ok 1 _ rfl | exact fun _ => hw.ok 2 _ rfl | exact fun _ => hw.ok 3 _ rfl | exact fun _ => hw.ok 4 _ rfl | exact fun _ => hw.ok 5 _ rfl | exact SG.gone (by kernel_rfl)), (by first | exact fun _ => hw.tb | exact fun _ => hw.ok 0 _ rfl | exact fun _ => hw.ok 1 _ rfl | exact fun _ => hw.ok 2 _ rfl | exact fun _ => hw.ok 3 _ rfl | exact fun _ => hw.ok 4 _ rfl | exact fun _ => hw.ok 5 _ rfl | exact SG.gone (by kernel_rfl)), (by first | exact fun _ => hw.tb | exact fun _ => hw.ok 0 _ rfl | exact fun _ => hw.ok 1 _ rfl | exact fun _ => hw.ok 2 _ rfl | exact fun _ => hw.ok 3 _ rfl | exact fun _ => hw.ok 4 _ rfl | exact fun _ => hw.ok 5 _ rfl | exact SG.gone (by kernel_rfl)), trivial⟩) (fun bo _ => ?_)
    refine DL.take 3 rfl (by kernel_rfl) (by kernel_rfl) (by kernel_rfl) (by kernel_rfl) (by kernel_rfl) rfl rfl (Gd.g0 rfl) (heldN 3) (Yd.move rfl) ?_
    refine DL.split (dj := 71) rfl (fun hg71 => ?_) (fun hg71 => ?_)
    refine DL.take 4 rfl (by kernel_rfl) (by kernel_rfl) (by kernel_rfl) (by kernel_rfl) (by kernel_rfl) rfl rfl (Gd.yes rfl rfl rfl) (heldN 4) (Yd.fieldAddr rfl fo_77_0) ?_
    first | refine DL.take 5 rfl (by kernel_rfl) (by kernel_rfl) (by kernel_rfl) (by kernel_rfl) (by kernel_rfl) rfl rfl (Gd.yes rfl rfl rfl) (held 5 1 rfl (by kernel_rfl)) (Yd.load rfl ag_3 (row_cell rfl)) ?_ | refine DL.take 5 rfl (by kernel_rfl) (by kernel_rfl) (by kernel_rfl) (by kernel_rfl) (by kernel_rfl) rfl rfl (Gd.yes rfl rfl rfl) (held 5 2 rfl (by kernel_rfl)) (Yd.load rfl ag_3 (row_cell rfl)) ?_ | refine DL.take 5 rfl (by kernel_rfl) (by kernel_rfl) (by kernel_rfl) (by kernel_rfl) (by kernel_rfl) rfl rfl (Gd.yes rfl rfl rfl) (held 5 3 rfl (by kernel_rfl)) (Yd.load rfl ag_3 (row_cell rfl)) ?_ | refine DL.take 5 rfl (by kernel_rfl) (by kernel_rfl) (by kernel_rfl) (by kernel_rfl) (by kernel_rfl) rfl rfl (Gd.yes rfl rfl rfl) (held 5 4 rfl (by kernel_rfl)) (Yd.load rfl ag_3 (row_cell rfl)) ?_ | refine DL.take 5 rfl (by kernel_rfl) (by kernel_rfl) (by kernel_rfl) (by kernel_rfl) (by kernel_rfl) rfl rfl (Gd.yes rfl rfl rfl) (held 5 5 rfl (by kernel_rfl)) (Yd.load rfl ag_3 (row_cell rfl)) ?_
    refine DL.take 6 rfl (by kernel_rfl) (by kernel_rfl) (by kernel_rfl) (by kernel_rfl) (by kernel_rfl) rfl rfl (Gd.yes rfl rfl rfl) (heldN 6) (Yd.fieldAddr rfl fo_77_0) ?_
    first | refine DL.take 7 rfl (by kernel_rfl) (by kernel_rfl) (by kernel_rfl) (by kernel_rfl) (by kernel_rfl) rfl rfl (Gd.yes rfl rfl rfl) (held 7 1 rfl (by kernel_rfl)) (Yd.load rfl ag_3 (row_cell rfl)) ?_ | refine DL.take 7 rfl (by kernel_rfl) (by kernel_rfl) (by kernel_rfl) (by kernel_rfl) (by kernel_rfl) rfl rfl (Gd.yes rfl rfl rfl) (held 7 2 rfl (by kernel_rfl)) (Yd.load rfl ag_3 (row_cell rfl)) ?_ | refine DL.take 7 rfl (by kernel_rfl) (by kernel_rfl) (by kernel_rfl) (by kernel_rfl) (by kernel_rfl) rfl rfl (Gd.yes rfl rfl rfl) (held 7 3 rfl (by kernel_rfl)) (Yd.load rfl ag_3 (row_cell rfl)) ?_ | refine DL.take 7 rfl (by kernel_rfl) (by kernel_rfl) (by kernel_rfl) (by kernel_rfl) (by kernel_rfl) rfl rfl (Gd.yes rfl rfl rfl) (held 7 4 rfl (by kernel_rfl)) (Yd.load rfl ag_3 (row_cell rfl)) ?_ | refine DL.take 7 rfl (by kernel_rfl) (by kernel_rfl) (by kernel_rfl) (by kernel_rfl) (by kernel_rfl) rfl rfl (Gd.yes rfl rfl rfl) (held 7 5 rfl (by kernel_rfl)) (Yd.load rfl ag_3 (row_cell rfl)) ?_
    refine DL.take 8 rfl (by kernel_rfl) (by kernel_rfl) (by kernel_rfl) (by kernel_rfl) (by kernel_rfl) rfl rfl (Gd.yes rfl rfl rfl) (heldN 8) (Yd.eql rfl rfl) ?_
    refine DL.take 9 rfl (by kernel_rfl) (by kernel_rfl) (by kernel_rfl) (by kernel_rfl) (by kernel_rfl) rfl rfl (Gd.yes rfl rfl rfl) (heldN 9) (Yd.move rfl) ?_
    refine DL.splitD (dj := 77) rfl (fun hg77 => ?_) (fun hg77 => ?_)
    refine DL.takeN 10 rfl (by kernel_rfl) (by kernel_rfl) (by kernel_rfl) (by kernel_rfl) (by kernel_rfl) rfl rfl (Gd.no rfl rfl rfl rfl) ?_
    refine DL.takeN 11 rfl (by kernel_rfl) (by kernel_rfl) (by kernel_rfl) (by kernel_rfl) (by kernel_rfl) rfl rfl (Gd.no rfl rfl rfl rfl) ?_
    refine DL.takeN 12 rfl (by kernel_rfl) (by kernel_rfl) (by kernel_rfl) (by kernel_rfl) (by kernel_rfl) rfl rfl (Gd.no rfl rfl rfl rfl) ?_
    refine DL.takeN 13 rfl (by kernel_rfl) (by kernel_rfl) (by kernel_rfl) (by kernel_rfl) (by kernel_rfl) rfl rfl (Gd.no rfl rfl rfl rfl) ?_
    refine DL.takeN 14 rfl (by kernel_rfl) (by kernel_rfl) (by kernel_rfl) (by kernel_rfl) (by kernel_rfl) rfl rfl (Gd.no rfl rfl rfl rfl) ?_
    refine DL.takeN 15 rfl (by kernel_rfl) (by kernel_rfl) (by kernel_rfl) (by kernel_rfl) (by kernel_rfl) rfl rfl (Gd.no rfl rfl rfl rfl) ?_
    refine DL.takeN 16 rfl (by kernel_rfl) (by kernel_rfl) (by kernel_rfl) (by kernel_rfl) (by kernel_rfl) rfl rfl (Gd.no rfl rfl rfl rfl) ?_
    refine DL.takeN 17 rfl (by kernel_rfl) (by kernel_rfl) (by kernel_rfl) (by kernel_rfl) (by kernel_rfl) rfl rfl (Gd.no rfl rfl rfl rfl) ?_
    refine DL.takeN 18 rfl (by kernel_rfl) (by kernel_rfl) (by kernel_rfl) (by kernel_rfl) (by kernel_rfl) rfl rfl (Gd.und rfl rfl rfl) ?_
    refine DL.takeN 19 rfl (by kernel_rfl) (by kernel_rfl) (by kernel_rfl) (by kernel_rfl) (by kernel_rfl) rfl rfl (Gd.und rfl rfl rfl) ?_
    refine DL.takeN 20 rfl (by kernel_rfl) (by kernel_rfl) (by kernel_rfl) (by kernel_rfl) (by kernel_rfl) rfl rfl (Gd.und rfl rfl rfl) ?_
    refine DL.takeN 21 rfl (by kernel_rfl) (by kernel_rfl) (by kernel_rfl) (by kernel_rfl) (by kernel_rfl) rfl rfl (Gd.und rfl rfl rfl) ?_
    refine DL.takeN 22 rfl (by kernel_rfl) (by kernel_rfl) (by kernel_rfl) (by kernel_rfl) (by kernel_rfl) rfl rfl (Gd.und rfl rfl rfl) ?_
    refine DL.takeN 23 rfl (by kernel_rfl) (by kernel_rfl) (by kernel_rfl) (by kernel_rfl) (by kernel_rfl) rfl rfl (Gd.und rfl rfl rfl) ?_
    refine DL.takeN 24 rfl (by kernel_rfl) (by kernel_rfl) (by kernel_rfl) (by kernel_rfl) (by kernel_rfl) rfl rfl (Gd.und rfl rfl rfl) ?_
    refine DL.takeN 25 rfl (by kernel_rfl) (by kernel_rfl) (by kernel_rfl) (by kernel_rfl) (by kernel_rfl) rfl rfl (Gd.no rfl rfl rfl rfl) ?_
    refine DL.take 26 rfl (by kernel_rfl) (by kernel_rfl) (by kernel_rfl) (by kernel_rfl) (by kernel_rfl) rfl rfl (Gd.yes rfl rfl rfl) (heldN 26) ((by first | exact Yd.pickT rfl rfl | exact Yd.pickF rfl rfl | exact Yd.pickB rfl rfl rfl)) ?_
    refine DL.take 27 rfl (by kernel_rfl) (by kernel_rfl) (by kernel_rfl) (by kernel_rfl) (by kernel_rfl) rfl rfl (Gd.g0 rfl) (heldN 27) ((by first | exact Yd.pickT rfl rfl | exact Yd.pickF rfl rfl | exact Yd.pickB rfl rfl rfl)) ?_
    refine DL.done (by kernel_rfl) ?_
    first | refine EX.then_normal ?_ | skip
    rotate_left
    refine DL.take 10 rfl (by kernel_rfl) (by kernel_rfl) (by kernel_rfl) (by kernel_rfl) (by kernel_rfl) rfl rfl (Gd.yes rfl rfl rfl) (heldN 10) (Yd.move rfl) ?_
    refine DL.take 11 rfl (by kernel_rfl) (by kernel_rfl) (by kernel_rfl) (by kernel_rfl) (by kernel_rfl) rfl rfl (Gd.yes rfl rfl rfl) (heldN 11) ((by first | exact Yd.indexSlN rfl rfl sl_85 (by omega) | exact Yd.indexSl rfl rfl sl_85 (by omega))) ?_
    first | refine DL.take 12 rfl (by kernel_rfl) (by kernel_rfl) (by kernel_rfl) (by kernel_rfl) (by kernel_rfl) rfl rfl (Gd.yes rfl rfl rfl) (held 12 1 rfl (by kernel_rfl)) (Yd.load rfl ag_86 (row_cell rfl)) ?_ | refine DL.take 12 rfl (by kernel_rfl) (by kernel_rfl) (by kernel_rfl) (by kernel_rfl) (by kernel_rfl) rfl rfl (Gd.yes rfl rfl rfl) (held 12 2 rfl (by kernel_rfl)) (Yd.load rfl ag_86 (row_cell rfl)) ?_ | refine DL.take 12 rfl (by kernel_rfl) (by kernel_rfl) (by kernel_rfl) (by kernel_rfl) (by kernel_rfl) rfl rfl (Gd.yes rfl rfl rfl) (held 12 3 rfl (by kernel_rfl)) (Yd.load rfl ag_86 (row_cell rfl)) ?_ | refine DL.take 12 rfl (by kernel_rfl) (by kernel_rfl) (by kernel_rfl) (by kernel_rfl) (by kernel_rfl) rfl rfl (Gd.yes rfl rfl rfl) (held 12 4 rfl (by kernel_rfl)) (Yd.load rfl ag_86 (row_cell rfl)) ?_ | refine DL.take 12 rfl (by kernel_rfl) (by kernel_rfl) (by kernel_rfl) (by kernel_rfl) (by kernel_rfl) rfl rfl (Gd.yes rfl rfl rfl) (held 12 5 rfl (by kernel_rfl)) (Yd.load rfl ag_86 (row_cell rfl)) ?_
    first | refine DL.take 13 rfl (by kernel_rfl) (by kernel_rfl) (by kernel_rfl) (by kernel_rfl) (by kernel_rfl) rfl rfl (Gd.yes rfl rfl rfl) (held 13 1 rfl (by kernel_rfl)) (Yd.loadH rfl ag_77 (fun _ h => h) rfl) ?_ | refine DL.take 13 rfl (by kernel_rfl) (by kernel_rfl) (by kernel_rfl) (by kernel_rfl) (by kernel_rfl) rfl rfl (Gd.yes rfl rfl rfl) (held 13 2 rfl (by kernel_rfl)) (Yd.loadH rfl ag_77 (fun _ h => h) rfl) ?_ | refine DL.take 13 rfl (by kernel_rfl) (by kernel_rfl) (by kernel_rfl) (by kernel_rfl) (by kernel_rfl) rfl rfl (Gd.yes rfl rfl rfl) (held 13 3 rfl (by kernel_rfl)) (Yd.loadH rfl ag_77 (fun _ h => h) rfl) ?_ | refine DL.take 13 rfl (by kernel_rfl) (by kernel_rfl) (by kernel_rfl) (by kernel_rfl) (by kernel_rfl) rfl rfl (Gd.yes rfl rfl rfl) (held 13 4 rfl (by kernel_rfl)) (Yd.loadH rfl ag_77 (fun _ h => h) rfl) ?_ | refine DL.take 13 rfl (by kernel_rfl) (by kernel_rfl) (by kernel_rfl) (by kernel_rfl) (by kernel_rfl) rfl rfl (Gd.yes rfl rfl rfl) (held 13 5 rfl (by kernel_rfl)) (Yd.loadH rfl ag_77 (fun _ h => h) rfl) ?_
    first | refine DL.take 14 rfl (by kernel_rfl) (by kernel_rfl) (by kernel_rfl) (by kernel_rfl) (by kernel_rfl) rfl rfl (Gd.yes rfl rfl rfl) (held 14 1 rfl (by kernel_rfl)) (Yd.loadH rfl ag_77 (fun _ h => h) rfl) ?_ | refine DL.take 14 rfl (by kernel_rfl) (by kernel_rfl) (by kernel_rfl) (by kernel_rfl) (by kernel_rfl) rfl rfl (Gd.yes rfl rfl rfl) (held 14 2 rfl (by kernel_rfl)) (Yd.loadH rfl ag_77 (fun _ h => h) rfl) ?_ | refine DL.take 14 rfl (by kernel_rfl) (by kernel_rfl) (by kernel_rfl) (by kernel_rfl) (by kernel_rfl) rfl rfl (Gd.yes rfl rfl rfl) (held 14 3 rfl (by kernel_rfl)) (Yd.loadH rfl ag_77 (fun _ h => h) rfl) ?_ | refine DL.take 14 rfl (by kernel_rfl) (by kernel_rfl) (by kernel_rfl) (by kernel_rfl) (by kernel_rfl) rfl rfl (Gd.yes rfl rfl rfl) (held 14 4 rfl (by kernel_rfl)) (Yd.loadH rfl ag_77 (fun _ h => h) rfl) ?_ | refine DL.take 14 rfl (by kernel_rfl) (by kernel_rfl) (by kernel_rfl) (by kernel_rfl) (by kernel_rfl) rfl rfl (Gd.yes rfl rfl rfl) (held 14 5 rfl (by kernel_rfl)) (Yd.loadH rfl ag_77 (fun _ h => h) rfl) ?_
    refine DL.ready1 (i := 15) (by kernel_rfl) ?_
    refine D1.callX rfl rfl rfl (Gd.yes rfl rfl rfl) (Cll.value rfl rfl rfl cf_38) (fun w2 hw => prog_contains ⟨r, f, l⟩ ⟨r2, f2, l2⟩ w2) (fun w hw => ⟨(by first | exact fun _ => hw.tb | exact fun _ => hw.ok 0 _ rfl | exact fun _ => hw.ok 1 _ rfl | exact fun _ => hw.ok 2 _ rfl | exact fun _ => hw.ok 3 _ rfl | exact fun _ => hw.ok 4 _ rfl | exact fun _ => hw.ok 5 _ rfl | exact SG.gone (by kernel_rfl)), (by first | exact fun _ => hw.tb | exact fun _ => hw.ok 0 _ rfl | exact fun _ => hw.ok 1 _ rfl | exact fun _ => hw.ok 2 _ rfl | exact fun _ => hw.ok 3 _ rfl | exact fun _ => hw.ok 4 _ rfl | exact fun _ => hw.ok 5 _ rfl | exact SG.gone (by kernel_rfl)), (by first | exact fun _ => hw.tb | exact fun _ => hw.ok 0 _ rfl | exact fun _ => hw.ok 1 _ rfl | exact fun _ => hw.ok 2 _ rfl | exact fun _ => hw.ok 3 _ rfl | exact fun _ => hw.ok 4 _ rfl | exact fun _ => hw.ok 5 _ rfl | exact SG.gone (by kernel_rfl)), (by first | exact fun _ => hw.tb | exact fun _ => hw.ok 0 _ rfl | exact fun _ => hw.ok 1 _ rfl | exact fun _ => hw.ok 2 _ rfl | exact fun _ => hw.ok 3 _ rfl | exact fun _ => hw.ok 4 _ rfl | exact fun _ => hw.ok 5 _ rfl | exact SG.gone (by kernel_rfl)), trivial⟩) (fun bo1 _ => ?_)
    refine DL.take 16 rfl (by kernel_rfl) (by kernel_rfl) (by kernel_rfl) (by kernel_rfl) (by kernel_rfl) rfl rfl (Gd.yes rfl rfl rfl) (heldN 16) (Yd.not rfl) ?_
    refine DL.take 17 rfl (by kernel_rfl) (by kernel_rfl) (by kernel_rfl) (by kernel_rfl) (by kernel_rfl) rfl rfl (Gd.yes rfl rfl rfl) (heldN 17) (Yd.move rfl) ?_
    refine DL.split (dj := 85) rfl (fun hg85 => ?_) (fun hg85 => ?_)
    refine DL.take 18 rfl (by kernel_rfl) (by kernel_rfl) (by kernel_rfl) (by kernel_rfl) (by kernel_rfl) rfl rfl (Gd.yes rfl rfl rfl) (heldN 18) (Yd.move rfl) ?_
    refine DL.take 19 rfl (by kernel_rfl) (by kernel_rfl) (by kernel_rfl) (by kernel_rfl) (by kernel_rfl) rfl rfl (Gd.yes rfl rfl rfl) (heldN 19) ((by first | exact Yd.indexSlN rfl rfl sl_85 (by omega) | exact Yd.indexSl rfl rfl sl_85 (by omega))) ?_
    first | refine DL.take 20 rfl (by kernel_rfl) (by kernel_rfl) (by kernel_rfl) (by kernel_rfl) (by kernel_rfl) rfl rfl (Gd.yes rfl rfl rfl) (held 20 1 rfl (by kernel_rfl)) (Yd.load rfl ag_86 (row_cell rfl)) ?_ | refine DL.take 20 rfl (by kernel_rfl) (by kernel_rfl) (by kernel_rfl) (by kernel_rfl) (by kernel_rfl) rfl rfl (Gd.yes rfl rfl rfl) (held 20 2 rfl (by kernel_rfl)) (Yd.load rfl ag_86 (row_cell rfl)) ?_ | refine DL.take 20 rfl (by kernel_rfl) (by kernel_rfl) (by kernel_rfl) (by kernel_rfl) (by kernel_rfl) rfl rfl (Gd.yes rfl rfl rfl) (held 20 3 rfl (by kernel_rfl)) (Yd.load rfl ag_86 (row_cell rfl)) ?_ | refine DL.take 20 rfl (by kernel_rfl) (by kernel_rfl) (by kernel_rfl) (by kernel_rfl) (by kernel_rfl) rfl rfl (Gd.yes rfl rfl rfl) (held 20 4 rfl (by kernel_rfl)) (Yd.load rfl ag_86 (row_cell rfl)) ?_ | refine DL.take 20 rfl (by kernel_rfl) (by kernel_rfl) (by kernel_rfl) (by kernel_rfl) (by kernel_rfl) rfl rfl (Gd.yes rfl rfl rfl) (held 20 5 rfl (by kernel_rfl)) (Yd.load rfl ag_86 (row_cell rfl)) ?_
    first | refine DL.take 21 rfl (by kernel_rfl) (by kernel_rfl) (by kernel_rfl) (by kernel_rfl) (by kernel_rfl) rfl rfl (Gd.yes rfl rfl rfl) (held 21 1 rfl (by kernel_rfl)) (Yd.loadH rfl ag_77 (fun _ h => h) rfl) ?_ | refine DL.take 21 rfl (by kernel_rfl) (by kernel_rfl) (by kernel_rfl) (by kernel_rfl) (by kernel_rfl) rfl rfl (Gd.yes rfl rfl rfl) (held 21 2 rfl (by kernel_rfl)) (Yd.loadH rfl ag_77 (fun _ h => h) rfl) ?_ | refine DL.take 21 rfl (by kernel_rfl) (by kernel_rfl) (by kernel_rfl) (by kernel_rfl) (by kernel_rfl) rfl rfl (Gd.yes rfl rfl rfl) (held 21 3 rfl (by kernel_rfl)) (Yd.loadH rfl ag_77 (fun _ h => h) rfl) ?_ | refine DL.take 21 rfl (by kernel_rfl) (by kernel_rfl) (by kernel_rfl) (by kernel_rfl) (by kernel_rfl) rfl rfl (Gd.yes rfl rfl rfl) (held 21 4 rfl (by kernel_rfl)) (Yd.loadH rfl ag_77 (fun _ h => h) rfl) ?_ | refine DL.take 21 rfl (by kernel_rfl) (by kernel_rfl) (by kernel_rfl) (by kernel_rfl) (by kernel_rfl) rfl rfl (Gd.yes rfl rfl rfl) (held 21 5 rfl (by kernel_rfl)) (Yd.loadH rfl ag_77 (fun _ h => h) rfl) ?_
    first | refine DL.take 22 rfl (by kernel_rfl) (by kernel_rfl) (by kernel_rfl) (by kernel_rfl) (by kernel_rfl) rfl rfl (Gd.yes rfl rfl rfl) (held 22 1 rfl (by kernel_rfl)) (Yd.loadH rfl ag_77 (fun _ h => h) rfl) ?_ | refine DL.take 22 rfl (by kernel_rfl) (by kernel_rfl) (by kernel_rfl) (by kernel_rfl) (by kernel_rfl) rfl rfl (Gd.yes rfl rfl rfl) (held 22 2 rfl (by kernel_rfl)) (Yd.loadH rfl ag_77 (fun _ h => h) rfl) ?_ | refine DL.take 22 rfl (by kernel_rfl) (by kernel_rfl) (by kernel_rfl) (by kernel_rfl) (by kernel_rfl) rfl rfl (Gd.yes rfl rfl rfl) (held 22 3 rfl (by kernel_rfl)) (Yd.loadH rfl ag_77 (fun _ h => h) rfl) ?_ | refine DL.take 22 rfl (by kernel_rfl) (by kernel_rfl) (by kernel_rfl) (by kernel_rfl) (by kernel_rfl) rfl rfl (Gd.yes rfl rfl rfl) (held 22 4 rfl (by kernel_rfl)) (Yd.loadH rfl ag_77 (fun _ h => h) rfl) ?_ | refine DL.take 22 rfl (by kernel_rfl) (by kernel_rfl) (by kernel_rfl) (by kernel_rfl) (by kernel_rfl) rfl rfl (Gd.yes rfl rfl rfl) (held 22 5 rfl (by kernel_rfl)) (Yd.loadH rfl ag_77 (fun _ h => h) rfl) ?_
    refine DL.ready1 (i := 23) (by kernel_rfl) ?_
    refine D1.callX rfl rfl rfl (Gd.yes rfl rfl rfl) (Cll.value rfl rfl rfl cf_39) (fun w2 hw => prog_sec1 ⟨r, f, l⟩ ⟨r2, f2, l2⟩ w2) (fun w hw => ⟨(by first | exact fun _ => hw.tb | exact fun _ => hw.ok 0 _ rfl | exact fun _ => hw.ok 1 _ rfl | exact fun _ => hw.ok 2 _ rfl | exact fun _ => hw.ok 3 _ rfl | exact fun _ => hw.ok 4 _ rfl | exact fun _ => hw.ok 5 _ rfl | exact SG.gone (by kernel_rfl)), (by first | exact fun _ => hw.tb | exact fun _ => hw.ok 0 _ rfl | exact fun _ => hw.ok 1 _ rfl | exact fun _ => hw.ok 2 _ rfl | exact fun _ => hw.ok 3 _ rfl | exact fun _ => hw.ok 4 _ rfl | exact fun _ => hw.ok 5 _ rfl | exact SG.gone (by kernel_rfl)), (by first | exact fun _ => hw.tb | exact fun _ => hw.ok 0 _ rfl | exact fun _ => hw.ok 1 _ rfl | exact fun _ => hw.ok 2 _ rfl | exact fun _ => hw.ok 3 _ rfl | exact fun _ => hw.ok 4 _ rfl | exact fun _ => hw.ok 5 _ rfl | exact SG.gone (by kernel_rfl)), (by first | exact fun _ => hw.tb | exact fun _ => hw.ok 0 _ rfl | exact fun _ => hw.ok 1 _ rfl | exact fun _ => hw.ok 2 _ rfl | exact fun _ => hw.ok 3 _ rfl | exact fun _ => hw.ok 4 _ rfl | exact fun _ => hw.ok 5 _ rfl | exact SG.gone (by kernel_rfl)), trivial⟩) (fun bo2 _ => ?_)
    refine DL.take 24 rfl (by kernel_rfl) (by kernel_rfl) (by kernel_rfl) (by kernel_rfl) (by kernel_rfl) rfl rfl (Gd.yes rfl rfl rfl) (heldN 24) (Yd.not rfl) ?_
    refine DL.take 25 rfl (by kernel_rfl) (by kernel_rfl) (by kernel_rfl) (by kernel_rfl) (by kernel_rfl) rfl rfl (Gd.yes rfl rfl rfl) (heldN 25) ((by first | exact Yd.pickT rfl rfl | exact Yd.pickF rfl rfl | exact Yd.pickB rfl rfl rfl)) ?_
    refine DL.take 26 rfl (by kernel_rfl) (by kernel_rfl) (by kernel_rfl) (by kernel_rfl) (by kernel_rfl) rfl rfl (Gd.yes rfl rfl rfl) (heldN 26) ((by first | exact Yd.pickT rfl rfl | exact Yd.pickF rfl rfl | exact Yd.pickB rfl rfl rfl)) ?_
    refine DL.take 27 rfl (by kernel_rfl) (by kernel_rfl) (by kernel_rfl) (by kernel_rfl) (by kernel_rfl) rfl rfl (Gd.g0 rfl) (heldN 27) ((by first | exact Yd.pickT rfl rfl | exact Yd.pickF rfl rfl | exact Yd.pickB rfl rfl rfl)) ?_
    refine DL.done (by kernel_rfl) ?_
    first | refine EX.then_normal ?_ | skip
    rotate_left
    refine DL.takeN 18 rfl (by kernel_rfl) (by kernel_rfl) (by kernel_rfl) (by kernel_rfl) (by kernel_rfl) rfl rfl (Gd.no rfl rfl rfl rfl) ?_
    refine DL.takeN 19 rfl (by kernel_rfl) (by kernel_rfl) (by kernel_rfl) (by kernel_rfl) (by kernel_rfl) rfl rfl (Gd.no rfl rfl rfl rfl) ?_
    refine DL.takeN 20 rfl (by kernel_rfl) (by kernel_rfl) (by kernel_rfl) (by kernel_rfl) (by kernel_rfl) rfl rfl (Gd.no rfl rfl rfl rfl) ?_
    refine DL.takeN 21 rfl (by kernel_rfl) (by kernel_rfl) (by kernel_rfl) (by kernel_rfl) (by kernel_rfl) rfl rfl (Gd.no rfl rfl rfl rfl) ?_
    refine DL.takeN 22 rfl (by kernel_rfl) (by kernel_rfl) (by kernel_rfl) (by kernel_rfl) (by kernel_rfl) rfl rfl (Gd.no rfl rfl rfl rfl) ?_
    refine DL.takeN 23 rfl (by kernel_rfl) (by kernel_rfl) (by kernel_rfl) (by kernel_rfl) (by kernel_rfl) rfl rfl (Gd.no rfl rfl rfl rfl) ?_
    refine DL.takeN 24 rfl (by kernel_rfl) (by kernel_rfl) (by kernel_rfl) (by kernel_rfl) (by kernel_rfl) rfl rfl (Gd.no rfl rfl rfl rfl) ?_
    refine DL.take 25 rfl (by kernel_rfl) (by kernel_rfl) (by kernel_rfl) (by kernel_rfl) (by kernel_rfl) rfl rfl (Gd.yes rfl rfl rfl) (heldN 25) ((by first | exact Yd.pickT rfl rfl | exact Yd.pickF rfl rfl | exact Yd.pickB rfl rfl rfl)) ?_
    refine DL.take 26 rfl (by kernel_rfl) (by kernel_rfl) (by kernel_rfl) (by kernel_rfl) (by kernel_rfl) rfl rfl (Gd.yes rfl rfl rfl) (heldN 26) ((by first | exact Yd.pickT rfl rfl | exact Yd.pickF rfl rfl | exact Yd.pickB rfl rfl rfl)) ?_
    refine DL.take 27 rfl (by kernel_rfl) (by kernel_rfl) (by kernel_rfl) (by kernel_rfl) (by kernel_rfl) rfl rfl (Gd.g0 rfl) (heldN 27) ((by first | exact Yd.pickT rfl rfl | exact Yd.pickF rfl rfl | exact Yd.pickB rfl rfl rfl)) ?_
    refine DL.done (by kernel_rfl) ?_
    first | refine EX.then_normal ?_ | skip
    rotate_left
    refine DL.takeN 4 rfl (by kernel_rfl) (by kernel_rfl) (by kernel_rfl) (by kernel_rfl) (by kernel_rfl) rfl rfl (Gd.no rfl rfl rfl rfl) ?_
    refine DL.takeN 5 rfl (by kernel_rfl) (by kernel_rfl) (by kernel_rfl) (by kernel_rfl) (by kernel_rfl) rfl rfl (Gd.no rfl rfl rfl rfl) ?_
    refine DL.takeN 6 rfl (by kernel_rfl) (by kernel_rfl) (by kernel_rfl) (by kernel_rfl) (by kernel_rfl) rfl rfl (Gd.no rfl rfl rfl rfl) ?_
    refine DL.takeN 7 rfl (by kernel_rfl) (by kernel_rfl) (by kernel_rfl) (by kernel_rfl) (by kernel_rfl) rfl rfl (Gd.no rfl rfl rfl rfl) ?_
    refine DL.takeN 8 rfl (by kernel_rfl) (by kernel_rfl) (by kernel_rfl) (by kernel_rfl) (by kernel_rfl) rfl rfl (Gd.no rfl rfl rfl rfl) ?_
    refine DL.takeN 9 rfl (by kernel_rfl) (by kernel_rfl) (by kernel_rfl) (by kernel_rfl) (by kernel_rfl) rfl rfl (Gd.no rfl rfl rfl rfl) ?_
    refine DL.takeN 10 rfl (by kernel_rfl) (by kernel_rfl) (by kernel_rfl) (by kernel_rfl) (by kernel_rfl) rfl rfl (Gd.und rfl rfl rfl) ?_
    refine DL.takeN 11 rfl (by kernel_rfl) (by kernel_rfl) (by kernel_rfl) (by kernel_rfl) (by kernel_rfl) rfl rfl (Gd.und rfl rfl rfl) ?_
    refine DL.takeN 12 rfl (by kernel_rfl) (by kernel_rfl) (by kernel_rfl) (by kernel_rfl) (by kernel_rfl) rfl rfl (Gd.und rfl rfl rfl) ?_
    refine DL.takeN 13 rfl (by kernel_rfl) (by kernel_rfl) (by kernel_rfl) (by kernel_rfl) (by kernel_rfl) rfl rfl (Gd.und rfl rfl rfl) ?_
    refine DL.takeN 14 rfl (by kernel_rfl) (by kernel_rfl) (by kernel_rfl) (by kernel_rfl) (by kernel_rfl) rfl rfl (Gd.und rfl rfl rfl) ?_
    refine DL.takeN 15 rfl (by kernel_rfl) (by kernel_rfl) (by kernel_rfl) (by kernel_rfl) (by kernel_rfl) rfl rfl (Gd.und rfl rfl rfl) ?_
    refine DL.takeN 16 rfl (by kernel_rfl) (by kernel_rfl) (by kernel_rfl) (by kernel_rfl) (by kernel_rfl) rfl rfl (Gd.und rfl rfl rfl) ?_
    refine DL.takeN 17 rfl (by kernel_rfl) (by kernel_rfl) (by kernel_rfl) (by kernel_rfl) (by kernel_rfl) rfl rfl (Gd.und rfl rfl rfl) ?_
    refine DL.takeN 18 rfl (by kernel_rfl) (by kernel_rfl) (by kernel_rfl) (by kernel_rfl) (by kernel_rfl) rfl rfl (Gd.und rfl rfl rfl) ?_
    refine DL.takeN 19 rfl (by kernel_rfl) (by kernel_rfl) (by kernel_rfl) (by kernel_rfl) (by kernel_rfl) rfl rfl (Gd.und rfl rfl rfl) ?_
    refine DL.takeN 20 rfl (by kernel_rfl) (by kernel_rfl) (by kernel_rfl) (by kernel_rfl) (by kernel_rfl) rfl rfl (Gd.und rfl rfl rfl) ?_
    refine DL.takeN 21 rfl (by kernel_rfl) (by kernel_rfl) (by kernel_rfl) (by kernel_rfl) (by kernel_rfl) rfl rfl (Gd.und rfl rfl rfl) ?_
    refine DL.takeN 22 rfl (by kernel_rfl) (by kernel_rfl) (by kernel_rfl) (by kernel_rfl) (by kernel_rfl) rfl rfl (Gd.und rfl rfl rfl) ?_
    refine DL.takeN 23 rfl (by kernel_rfl) (by kernel_rfl) (by kernel_rfl) (by kernel_rfl) (by kernel_rfl) rfl rfl (Gd.und rfl rfl rfl) ?_
    refine DL.takeN 24 rfl (by kernel_rfl) (by kernel_rfl) (by kernel_rfl) (by kernel_rfl) (by kernel_rfl) rfl rfl (Gd.und rfl rfl rfl) ?_
    refine DL.takeN 25 rfl (by kernel_rfl) (by kernel_rfl) (by kernel_rfl) (by kernel_rfl) (by kernel_rfl) rfl rfl (Gd.und rfl rfl rfl) ?_
    refine DL.takeN 26 rfl (by kernel_rfl) (by kernel_rfl) (by kernel_rfl) (by kernel_rfl) (by kernel_rfl) rfl rfl (Gd.no rfl rfl rfl rfl) ?_
    refine DL.take 27 rfl (by kernel_rfl) (by kernel_rfl) (by kernel_rfl) (by kernel_rfl) (by kernel_rfl) rfl rfl (Gd.g0 rfl) (heldN 27) ((by first | exact Yd.pickT rfl rfl | exact Yd.pickF rfl rfl | exact Yd.pickB rfl rfl rfl)) ?_
    refine DL.done (by kernel_rfl) ?_
    first | refine EX.then_normal ?_ | skip
    rotate_left
    all_goals
     repeat (refine CW.seq ?_)
     refine CW.cond rfl (fun hb95 => ?_) (fun hb95 => ?_)
     ·repeat (refine CW.seq ?_)
      refine CW.region ?_
      refine SL.val rfl rfl (Gd.g0 rfl) (Yd.assign rfl) ?_
      first | refine SL.nil_then ?_ | refine SL.nil ?_
      refine CW.ret ?_
      repeat (first | refine EX.then_ret ?_ | refine EX.in_ret ?_)
      refine EX.out (rs := _) rfl (ResA.tmp rfl ResA.nil) (fun w2 hw => ?_) (by first | exact Or.inl rfl | exact Or.inr rfl)
      exact ⟨⟨false, fun h => by omega, rfl⟩, hw.drop.below⟩
     refine CW.skip ?_
     repeat (first | refine EX.in_normal ?_)
     first | refine EX.then_normal ?_ | skip
     repeat (first | refine EX.in_normal ?_)
     first | refine EX.then_normal ?_ | skip
     repeat (refine CW.seq ?_)
     refine CW.region ?_
     refine SL.val rfl rfl (Gd.g0 rfl) ((by first | exact Yd.inc rfl (by omega) | exact Yd.add rfl rfl (by omega) | exact Yd.addW rfl rfl)) ?_
     refine SL.val rfl rfl (Gd.g0 rfl) (Yd.move rfl) ?_
     first | refine SL.nil_then ?_ | refine SL.nil ?_
     refine EX.round (m + 1) (by omega) (by omega) (Sub.cons rfl rfl (Sub.cons rfl rfl (Sub.cons rfl rfl (Sub.cons rfl rfl (Sub.cons rfl rfl (Sub.cons rfl rfl (Sub.cons rfl rfl (Sub.cons rfl rfl (Sub.cons rfl rfl Sub.nil))))))))) (fun _ h => h.pick [2, 3] rfl rfl)
   refine CW.exit ?_
   repeat (first | refine EX.then_exit ?_ | refine EX.in_exit rfl ?_ | refine EX.in_exit_ne rfl ?_)
   first | refine EX.then_normal ?_ | skip
   repeat (first | refine EX.in_normal ?_)
   first | refine EX.then_normal ?_ | skip
   repeat (refine CW.seq ?_)
   refine CW.region ?_
   refine SL.val rfl rfl (Gd.g0 rfl) ((by first | exact Yd.inc rfl (by omega) | exact Yd.add rfl rfl (by omega) | exact Yd.addW rfl rfl)) ?_
   refine SL.val rfl rfl (Gd.g0 rfl) (Yd.move rfl) ?_
   first | refine SL.nil_then ?_ | refine SL.nil ?_
   refine EX.round (k + 1) (by omega) (by omega) (Sub.cons rfl rfl (Sub.cons rfl rfl (Sub.cons rfl rfl (Sub.cons rfl rfl (Sub.cons rfl rfl Sub.nil))))) (fun _ h => h.pick [1] rfl rfl)
  all_goals
   repeat (refine CW.seq ?_)
   refine CW.condT rfl ?_
   repeat (refine CW.seq ?_)
   refine CW.region ?_
   refine SL.val rfl rfl (Gd.g0 rfl) (Yd.assign rfl) ?_
   first | refine SL.nil_then ?_ | refine SL.nil ?_
   refine CW.ret ?_
   repeat (first | refine EX.then_ret ?_ | refine EX.in_ret ?_)
   refine EX.out (rs := _) rfl (ResA.tmp rfl ResA.nil) (fun w2 hw => ?_) (by first | exact Or.inl rfl | exact Or.inr rfl)
   exact ⟨⟨false, fun h => by omega, rfl⟩, hw.drop.below⟩
 refine CW.exit ?_
 repeat (first | refine EX.then_exit ?_ | refine EX.in_exit rfl ?_ | refine EX.in_exit_ne rfl ?_)
 first | refine EX.then_normal ?_ | skip
 repeat (refine CW.seq ?_)
 refine CW.region ?_
 refine SL.val rfl rfl (Gd.g0 rfl) (Yd.assign rfl) ?_
 first | refine SL.nil_then ?_ | refine SL.nil ?_
 refine CW.ret ?_
 repeat (first | refine EX.then_ret ?_ | refine EX.in_ret ?_)
 refine EX.out (rs := _) rfl (ResA.tmp rfl ResA.nil) (fun w2 hw => ?_) (by first | exact Or.inl rfl | exact Or.inr rfl)
 exact ⟨⟨true, fun _ => rfl, rfl⟩, hw.drop.below⟩
end Go.Proofs.Ytokljoajalmkfaa
