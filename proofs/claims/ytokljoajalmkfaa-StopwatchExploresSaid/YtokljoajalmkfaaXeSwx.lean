/- Part of the proof of stopwatch_explores_proved: Swx. -/
import Derived.Test.YtokljoajalmkfaaXeSwr
import Derived.Test.YtokljoajalmkfaaXeSxn
namespace Go.Proofs.Ytokljoajalmkfaa
open Go Go.RowKit
set_option linter.unusedVariables false
set_option linter.unusedSimpArgs false
set_option linter.unnecessarySimpa false
set_option maxRecDepth 20000 in
theorem prog_releases (bx : Nat) (s l : Nat → Int) (w : World) :
  Calls Try.prog 18 #[.pointer (some ⟨bx, 0, none⟩), .agg (pR s l).toArray] w fun e w' => ∃ p : Nat × Nat, e = .returned (.func (.func 30) #[] [.pointer (some ⟨p.1, 0, none⟩), .pointer (some ⟨p.2, 0, none⟩)].toArray) ∧ Wd w [] [Rs.row p.2 (pR s l) 44, Rs.row p.1 [.pointer (some ⟨bx, 0, none⟩)] 38] w' := by
 refine calls_open Try.func18 rfl Try.ntmps18 rfl ?_
 dsimp only [argK]
 repeat (refine CW.seq ?_)
 refine CW.region ?_
 refine SL.efD rfl rfl (Gd.g0 rfl) (Ef.box rfl) (fun b2 => ?_)
 try dsimp only [Value.cells, List.flatMap_cons, List.flatMap_nil]
 refine SL.efD rfl rfl (Gd.g0 rfl) (Ef.box rfl) (fun b3 => ?_)
 try dsimp only [Value.cells, List.flatMap_cons, List.flatMap_nil]
 refine SL.val rfl rfl (Gd.g0 rfl) (Yd.assign rfl) ?_
 first | refine SL.nil_then ?_ | refine SL.nil ?_
 repeat (refine CW.seq ?_)
 refine CW.region ?_
 refine SL.val rfl rfl (Gd.g0 rfl) (Yd.makeFunc rfl rfl) ?_
 refine SL.val rfl rfl (Gd.g0 rfl) (Yd.assign rfl) ?_
 first | refine SL.nil_then ?_ | refine SL.nil ?_
 refine CW.ret ?_
 repeat (first | refine EX.then_ret ?_ | refine EX.in_ret ?_)
 refine EX.out (rs := _) rfl (ResA.tmp rfl ResA.nil) (fun w2 hw => ?_) (by first | exact Or.inl rfl | exact Or.inr rfl)
 exact ⟨(b2, b3), rfl, hw⟩
end Go.Proofs.Ytokljoajalmkfaa
