/- Part of the proof of stopwatch_explores_proved: Swlx. -/
import Derived.Test.YtokljoajalmkfaaXeSwm
import Derived.Test.YtokljoajalmkfaaXeSwp
namespace Go.Proofs.Ytokljoajalmkfaa
open Go Go.RowKit
set_option linter.unusedVariables false
set_option linter.unusedSimpArgs false
set_option linter.unnecessarySimpa false
theorem yd_beq {P : Program} {S : World → Prop} {n : Nat} {ds : List Deferred} {K : Kn} {o : Oper} {b : Bool} (h : Yd P S n ds K o (.bool (b == b))) : Yd P S n ds K o (.bool true) := by rw [beq_self_eq_true] at h; exact h
theorem worE_one (ts : List Tk) : ∃ (n : Int) (b : Bool) (c : Int) (xs : List Int), ∀ w e w', WorE ts w e w' → ∃ v, e = .returned (.tuple #[v, .int .i64 n, .bool b, .int .i64 c]) ∧ OE cdI 2 w.heap.size w' v xs ∧ Below w.heap.size w w' := by
  by_cases h1 : longB ts
  · refine ⟨0, false, 3, [], fun w e w' h => ⟨.slice none 0 0, ?_, OE.nil _ _ _ _, h.1⟩⟩
    rcases h.2 with ⟨_, q⟩ | ⟨q, _⟩ | ⟨q, _⟩
    · exact q
    · exact absurd h1 q
    · exact absurd h1 q
  · by_cases h2 : hasS ts = true ∨ ¬ (0 < ts.length ∧ valK ts ts.length)
    · refine ⟨0, false, 2, [], fun w e w' h => ⟨.slice none 0 0, ?_, OE.nil _ _ _ _, h.1⟩⟩
      rcases h.2 with ⟨q, _⟩ | ⟨_, _, q⟩ | ⟨_, q1, q2, q3, _⟩
      · exact absurd q h1
      · exact q
      · rcases h2 with h2 | h2
        · rw [q1] at h2; cases h2
        · exact absurd ⟨q2, q3⟩ h2
    · have key : ∀ w e w', WorE ts w e w' → PlnE w.heap.size (worstX ts) e w' := fun w e w' h => by
        rcases h.2 with ⟨q, _⟩ | ⟨_, q, _⟩ | ⟨_, _, _, _, q⟩
        · exact absurd q h1
        · exact absurd q h2
        · exact q
      cases hw : worstX ts with
      | no => exact ⟨0, false, 0, [], fun w e w' h => ⟨.slice none 0 0, by have := key w e w' h; rw [hw] at this; exact this, OE.nil _ _ _ _, h.1⟩⟩
      | long => exact ⟨0, false, 3, [], fun w e w' h => ⟨.slice none 0 0, by have := key w e w' h; rw [hw] at this; exact this, OE.nil _ _ _ _, h.1⟩⟩
      | go q => exact ⟨q.list.length, true, 0, q.worst, fun w e w' h => by
          have := key w e w' h
          rw [hw] at this
          obtain ⟨v, h3, h4⟩ := this
          exact ⟨v, h3, h4, h.1⟩⟩
set_option maxRecDepth 20000 in
set_option maxHeartbeats 4000000 in
theorem law_explores (v : Value) (ts : List Tk) (w : World) (hv : TsR w v ts) (hpr : ∀ k, k < ts.length → (tk ts k).pr ≤ 9223372036854775807) : Calls Try.prog 3 #[v] w fun e w' => e = .returned (.bool true) ∧ Below w.heap.size w w' := by
 obtain ⟨n, b, c, xs, hone⟩ := worE_one ts
 have hp : ∀ w2, Below w.heap.size w w2 → Calls Try.prog 8 #[v] w2 fun e w' => ∃ u, e = .returned (.tuple #[u, .int .i64 n, .bool b, .int .i64 c]) ∧ OE cdI 2 w2.heap.size w' u xs ∧ Below w2.heap.size w2 w' := fun w2 hb => (prog_worst v ts w2 (hv.keepb hb) hpr).mono fun e w' h => hone w2 e w' h
 have hr : ∀ w2, Below w.heap.size w w2 → Calls Try.prog 9 #[v] w2 fun e w' => ∃ u, e = .returned (.tuple #[u, .int .i64 n, .bool b, .int .i64 c]) ∧ OE cdI 2 w2.heap.size w' u xs ∧ Below w2.heap.size w2 w' := fun w2 hb => (ref_worst v ts w2 (hv.keepb hb)).mono fun e w' h => hone w2 e w' h
 have hs : ∀ u u2 w2, (Rs.own cdI 2 u xs).ok w2 → (Rs.own cdI 2 u2 xs).ok w2 → Calls Try.prog 10 #[u, u2] w2 fun e w' => e = .returned (.bool true) ∧ Below w2.heap.size w2 w' := fun u u2 w2 h1 h2 => (kit_samelongs u u2 xs xs w2 (own_rl h1) (own_rl h2)).mono fun e w' ⟨h, hb⟩ => ⟨by rw [h]; simp, hb⟩
 have hl : ∀ w2, Below w.heap.size w w2 → Calls Try.prog 7 #[v] w2 fun e w' => (∃ b : Bool, True ∧ e = .returned (.bool b)) ∧ Below w2.heap.size w2 w' := fun w2 hb => law_large v ts w2 (hv.keepb hb)
 refine calls_open Try.func3 rfl Try.ntmps3 rfl ?_
 dsimp only [argK]
 repeat (refine CW.seq ?_)
 refine CW.region ?_
 refine SL.val rfl rfl (Gd.g0 rfl) (Yd.assign rfl) ?_
 first | refine SL.nil_then ?_ | refine SL.nil ?_
 repeat (refine CW.seq ?_)
 refine CW.region ?_
 refine SL.callB rfl rfl (Gd.g0 rfl) (Cll.func rfl cf_5) (fun w hw => law_shown w) ?_
 refine SL.val rfl rfl (Gd.g0 rfl) (Yd.not rfl) ?_
 first | refine SL.nil_then ?_ | refine SL.nil ?_
 repeat (refine CW.seq ?_)
 refine CW.condF rfl ?_
 refine CW.skip ?_
 repeat (first | refine EX.in_normal ?_)
 first | refine EX.then_normal ?_ | skip
 refine CW.cut (σ := Unit) (fun _ => True) (fun _ => [(0, v)]) (fun _ => Wd w [] []) ?_ (fun _ _ => ?_)
 ·skip
  repeat (refine CW.seq ?_)
  refine CW.region ?_
  refine SL.val rfl rfl (Gd.g0 rfl) (Yd.move rfl) ?_
  refine SL.callB rfl rfl (Gd.g0 rfl) (Cll.func rfl cf_6) (fun w hw => law_beyond v ts w (hv.keepb hw.below)) ?_
  refine SL.val rfl rfl (Gd.g0 rfl) (Yd.move rfl) ?_
  refine SL.split (dj := 15) rfl (fun hg15 => ?_) (fun hg15 => ?_)
  refine SL.unw rfl rfl (Gd.no rfl rfl rfl rfl) ?_
  refine SL.unw rfl rfl (Gd.no rfl rfl rfl rfl) ?_
  refine SL.val rfl rfl (Gd.g0 rfl) ((by first | exact Yd.pickT rfl rfl | exact Yd.pickF rfl rfl | exact Yd.pickB rfl rfl rfl)) ?_
  first | refine SL.nil_then ?_ | refine SL.nil ?_
  rotate_left
  refine SL.val rfl rfl (Gd.yes rfl rfl rfl) (Yd.move rfl) ?_
  refine SL.callX (σ := Bool) (I := fun _ => True) (V := fun b => .bool b) rfl rfl (Gd.yes rfl rfl rfl) (Cll.func rfl cf_7) (fun w2 hw => hl w2 hw.below) (fun bl _ => ?_)
  refine SL.val rfl rfl (Gd.g0 rfl) ((by first | exact Yd.pickT rfl rfl | exact Yd.pickF rfl rfl | exact Yd.pickB rfl rfl rfl)) ?_
  first | refine SL.nil_then ?_ | refine SL.nil ?_
  rotate_left
  ·repeat (refine CW.seq ?_)
   refine CW.condT rfl ?_
   repeat (refine CW.seq ?_)
   refine CW.region ?_
   refine SL.val rfl rfl (Gd.g0 rfl) (Yd.assign rfl) ?_
   first | refine SL.nil_then ?_ | refine SL.nil ?_
   refine CW.ret ?_
   repeat (first | refine EX.then_ret ?_ | refine EX.in_ret ?_)
   refine EX.out (rs := _) rfl (ResA.tmp rfl ResA.nil) (fun w2 hw => ?_) (by first | exact Or.inl rfl | exact Or.inr rfl)
   exact ⟨rfl, hw.below⟩
  repeat (refine CW.seq ?_)
  refine CW.cond rfl (fun hq => ?_) (fun hq => ?_)
  ·repeat (refine CW.seq ?_)
   refine CW.region ?_
   refine SL.val rfl rfl (Gd.g0 rfl) (Yd.assign rfl) ?_
   first | refine SL.nil_then ?_ | refine SL.nil ?_
   refine CW.ret ?_
   repeat (first | refine EX.then_ret ?_ | refine EX.in_ret ?_)
   refine EX.out (rs := _) rfl (ResA.tmp rfl ResA.nil) (fun w2 hw => ?_) (by first | exact Or.inl rfl | exact Or.inr rfl)
   exact ⟨rfl, hw.below⟩
  refine CW.skip ?_
  repeat (first | refine EX.in_normal ?_)
  exact EX.cut () trivial (Sub.cons rfl rfl Sub.nil) (fun w2 h => h)
 repeat (refine CW.seq ?_)
 refine CW.region ?_
 refine SL.val rfl rfl (Gd.g0 rfl) (Yd.move rfl) ?_
 refine SL.callO (V := fun u => .tuple #[u, .int .i64 n, .bool b, .int .i64 c]) rfl rfl (Gd.g0 rfl) (Cll.func rfl cf_8) (fun w2 hw => hp w2 hw.below) (fun v21 => ?_)
 refine SL.val rfl rfl (Gd.g0 rfl) (Yd.move rfl) ?_
 refine SL.val rfl rfl (Gd.g0 rfl) (Yd.extract rfl rfl) ?_
 refine SL.val rfl rfl (Gd.g0 rfl) (Yd.extract rfl rfl) ?_
 refine SL.val rfl rfl (Gd.g0 rfl) (Yd.extract rfl rfl) ?_
 refine SL.val rfl rfl (Gd.g0 rfl) (Yd.extract rfl rfl) ?_
 refine SL.val rfl rfl (Gd.g0 rfl) (Yd.assign rfl) ?_
 refine SL.val rfl rfl (Gd.g0 rfl) (Yd.assign rfl) ?_
 refine SL.val rfl rfl (Gd.g0 rfl) (Yd.assign rfl) ?_
 refine SL.val rfl rfl (Gd.g0 rfl) (Yd.assign rfl) ?_
 first | refine SL.nil_then ?_ | refine SL.nil ?_
 repeat (refine CW.seq ?_)
 refine CW.region ?_
 refine SL.val rfl rfl (Gd.g0 rfl) (Yd.move rfl) ?_
 refine SL.callO (V := fun u => .tuple #[u, .int .i64 n, .bool b, .int .i64 c]) rfl rfl (Gd.g0 rfl) (Cll.func rfl cf_9) (fun w2 hw => hr w2 hw.below) (fun v28 => ?_)
 refine SL.val rfl rfl (Gd.g0 rfl) (Yd.move rfl) ?_
 refine SL.val rfl rfl (Gd.g0 rfl) (Yd.extract rfl rfl) ?_
 refine SL.val rfl rfl (Gd.g0 rfl) (Yd.extract rfl rfl) ?_
 refine SL.val rfl rfl (Gd.g0 rfl) (Yd.extract rfl rfl) ?_
 refine SL.val rfl rfl (Gd.g0 rfl) (Yd.extract rfl rfl) ?_
 refine SL.val rfl rfl (Gd.g0 rfl) (Yd.assign rfl) ?_
 refine SL.val rfl rfl (Gd.g0 rfl) (Yd.assign rfl) ?_
 refine SL.val rfl rfl (Gd.g0 rfl) (Yd.assign rfl) ?_
 refine SL.val rfl rfl (Gd.g0 rfl) (Yd.assign rfl) ?_
 first | refine SL.nil_then ?_ | refine SL.nil ?_
 repeat (refine CW.seq ?_)
 refine CW.region ?_
 refine SL.val rfl rfl (Gd.g0 rfl) (Yd.move rfl) ?_
 refine SL.val rfl rfl (Gd.g0 rfl) (Yd.move rfl) ?_
 refine SL.callB rfl rfl (Gd.g0 rfl) (Cll.func rfl cf_10) (fun w hw => hs _ _ w (hw.ok 1 _ rfl) (hw.ok 0 _ rfl)) ?_
 refine SL.val rfl rfl (Gd.g0 rfl) (Yd.move rfl) ?_
 refine SL.val rfl rfl (Gd.yes rfl rfl rfl) (Yd.move rfl) ?_
 refine SL.val rfl rfl (Gd.yes rfl rfl rfl) (Yd.move rfl) ?_
 refine SL.val rfl rfl (Gd.yes rfl rfl rfl) (Yd.yes (p := n = n) rfl (Yd.eql rfl rfl)) ?_
 refine SL.val rfl rfl (Gd.g0 rfl) ((by first | exact Yd.pickT rfl rfl | exact Yd.pickF rfl rfl | exact Yd.pickB rfl rfl rfl)) ?_
 refine SL.val rfl rfl (Gd.g0 rfl) (Yd.move rfl) ?_
 refine SL.val rfl rfl (Gd.yes rfl rfl rfl) (Yd.move rfl) ?_
 refine SL.val rfl rfl (Gd.yes rfl rfl rfl) (Yd.move rfl) ?_
 refine SL.val rfl rfl (Gd.yes rfl rfl rfl) (yd_beq (Yd.eqlB rfl rfl ibool_4)) ?_
 refine SL.val rfl rfl (Gd.g0 rfl) ((by first | exact Yd.pickT rfl rfl | exact Yd.pickF rfl rfl | exact Yd.pickB rfl rfl rfl)) ?_
 refine SL.val rfl rfl (Gd.g0 rfl) (Yd.move rfl) ?_
 refine SL.val rfl rfl (Gd.yes rfl rfl rfl) (Yd.move rfl) ?_
 refine SL.val rfl rfl (Gd.yes rfl rfl rfl) (Yd.move rfl) ?_
 refine SL.val rfl rfl (Gd.yes rfl rfl rfl) (Yd.yes (p := c = c) rfl (Yd.eql rfl rfl)) ?_
 refine SL.val rfl rfl (Gd.g0 rfl) ((by first | exact Yd.pickT rfl rfl | exact Yd.pickF rfl rfl | exact Yd.pickB rfl rfl rfl)) ?_
 refine SL.val rfl rfl (Gd.g0 rfl) (Yd.assign rfl) ?_
 first | refine SL.nil_then ?_ | refine SL.nil ?_
 refine CW.ret ?_
 repeat (first | refine EX.then_ret ?_ | refine EX.in_ret ?_)
 refine EX.out (rs := _) rfl (ResA.tmp rfl ResA.nil) (fun w2 hw => ?_) (by first | exact Or.inl rfl | exact Or.inr rfl)
 exact ⟨rfl, hw.drop.below⟩
end Go.Proofs.Ytokljoajalmkfaa
