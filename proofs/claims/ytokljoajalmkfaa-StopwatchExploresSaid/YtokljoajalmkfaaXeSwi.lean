/- Part of the proof of stopwatch_explores_proved: Swi. -/
import Derived.Test.YtokljoajalmkfaaXeSwh
import Derived.Test.YtokljoajalmkfaaXeSxt
namespace Go.Proofs.Ytokljoajalmkfaa
open Go Go.RowKit
set_option linter.unusedVariables false
set_option linter.unusedSimpArgs false
set_option linter.unnecessarySimpa false
def okT (t : Tk) : Prop := t.nm ≠ ⟨#[]⟩ ∧ (t.nm.size : Int) ≤ 16 ∧ 1 ≤ t.pr ∧ 1 ≤ t.T ∧ t.T ≤ 1000 ∧ 0 ≤ t.O ∧ t.O < t.T ∧ 1 ≤ t.D ∧ t.D ≤ t.T ∧ 1 ≤ t.C ∧ t.C ≤ t.D
def valK (ts : List Tk) (k : Nat) : Prop := ∀ i, i < k → okT (tk ts i) ∧ ∀ j, j < i → (tk ts j).nm ≠ (tk ts i).nm ∧ (tk ts j).pr ≠ (tk ts i).pr
def longB (ts : List Tk) : Prop := 8 < ts.length ∨ ∃ k, k < ts.length ∧ 4 < (tk ts k).sc.length
def ChkE (ts : List Tk) (e : Ending) : Prop := (longB ts ∧ e = .returned (.int .i64 3)) ∨ (¬ longB ts ∧ ((e = .returned (.int .i64 2) ∧ (hasS ts = false → ¬ (0 < ts.length ∧ valK ts ts.length))) ∨ (e = .returned (.int .i64 0) ∧ 0 < ts.length ∧ valK ts ts.length)))
set_option maxRecDepth 20000 in
set_option maxHeartbeats 4000000 in
theorem ref_check (v : Value) (ts : List Tk) (w : World) (hv : TsR w v ts) : Calls Try.prog 11 #[v] w fun e w' => ChkE ts e ∧ Below w.heap.size w w' := by
 obtain ⟨ao, cap, rfl, hle, h0⟩ := hv.1.cells
 refine calls_open Try.func11 rfl Try.ntmps11 rfl ?_
 dsimp only [argK]
 repeat (refine CW.seq ?_)
 refine CW.region ?_
 refine SL.val rfl rfl (Gd.g0 rfl) (Yd.assign rfl) ?_
 first | refine SL.nil_then ?_ | refine SL.nil ?_
 repeat (refine CW.seq ?_)
 refine CW.region ?_
 refine SL.val rfl rfl (Gd.g0 rfl) (Yd.move rfl) ?_
 refine SL.val rfl rfl (Gd.g0 rfl) (Yd.lenSl rfl isl_22) ?_
 refine SL.val rfl rfl (Gd.g0 rfl) (Yd.gtr rfl rfl) ?_
 first | refine SL.nil_then ?_ | refine SL.nil ?_
 repeat (refine CW.seq ?_)
 refine CW.condD rfl (fun h8 => ?_) (fun h8 => ?_)
 ·repeat (refine CW.seq ?_)
  refine CW.region ?_
  refine SL.val rfl rfl (Gd.g0 rfl) (Yd.assign rfl) ?_
  first | refine SL.nil_then ?_ | refine SL.nil ?_
  refine CW.ret ?_
  repeat (first | refine EX.then_ret ?_ | refine EX.in_ret ?_)
  refine EX.out (rs := _) rfl (ResA.tmp rfl ResA.nil) (fun w2 hw => ?_) (by first | exact Or.inl rfl | exact Or.inr rfl)
  exact ⟨.inl ⟨.inl (by omega), rfl⟩, hw.below⟩
 refine CW.skip ?_
 repeat (first | refine EX.in_normal ?_)
 first | refine EX.then_normal ?_ | skip
 repeat (refine CW.seq ?_)
 refine CW.region ?_
 refine SL.val rfl rfl (Gd.g0 rfl) (Yd.assign rfl) ?_
 first | refine SL.nil_then ?_ | refine SL.nil ?_
 repeat (refine CW.seq ?_)
 refine CW.block ?_
 refine CW.loop (σ := Nat) (fun k => k ≤ ts.length ∧ ∀ j, j < k → (tk ts j).sc.length ≤ 4) (fun k => [(0, .slice ao ts.length cap), (3, .int .i64 (k : Int))]) (fun _ => Wd w [] []) (fun k => ts.length - k) 0 ⟨by omega, fun j hj => by omega⟩ (Sub.cons rfl rfl (Sub.cons rfl rfl Sub.nil)) (fun _ h => h) ?_
 intro k ⟨hk, hno⟩
 repeat (refine CW.seq ?_)
 refine CW.region ?_
 refine SL.val rfl rfl (Gd.g0 rfl) (Yd.move rfl) ?_
 refine SL.val rfl rfl (Gd.g0 rfl) (Yd.move rfl) ?_
 refine SL.val rfl rfl (Gd.g0 rfl) (Yd.lenSl rfl isl_22) ?_
 refine SL.val rfl rfl (Gd.g0 rfl) (Yd.lss rfl rfl) ?_
 first | refine SL.nil_then ?_ | refine SL.nil ?_
 repeat (refine CW.seq ?_)
 refine CW.condD rfl (fun hkn => ?_) (fun hkn => ?_)
 ·refine CW.skip ?_
  repeat (first | refine EX.in_normal ?_)
  first | refine EX.then_normal ?_ | skip
  have hlt : k < ts.length := by omega
  obtain ⟨b, off, rfl, hb, hc⟩ := h0 (by omega)
  obtain ⟨aos, caps, hs, hsl⟩ := hv.secs hlt
  have hc6 := hc k hlt 6 _ (show _ = some (tk ts k).sv from rfl)
  rw [hs] at hc6
  repeat (refine CW.seq ?_)
  refine CW.block ?_
  repeat (refine CW.seq ?_)
  refine CW.region ?_
  refine SL.val rfl rfl (Gd.g0 rfl) (Yd.move rfl) ?_
  refine SL.val rfl rfl (Gd.g0 rfl) (Yd.move rfl) ?_
  refine SL.val rfl rfl (Gd.g0 rfl) ((by first | exact Yd.indexSlN rfl rfl sl_22 (by omega) | exact Yd.indexSl rfl rfl sl_22 (by omega))) ?_
  refine SL.val rfl rfl (Gd.g0 rfl) (Yd.fieldAddr rfl fo_37_6) ?_
  refine SL.val rfl rfl (Gd.g0 rfl) ((by first | exact Yd.load rfl ag_35 (Wd.cell (i := 0) rfl rfl) | exact Yd.load rfl ag_35 (Wd.cell (i := 1) rfl rfl) | exact Yd.load rfl ag_35 (Wd.cell (i := 2) rfl rfl) | exact Yd.load rfl ag_35 (Wd.cell (i := 3) rfl rfl) | exact Yd.load rfl ag_35 (Wd.cell (i := 4) rfl rfl) | exact Yd.load rfl ag_35 (Wd.cell (i := 5) rfl rfl) | exact Yd.load rfl ag_35 (Wd.inp hb (by simp) hc6))) ?_
  refine SL.val rfl rfl (Gd.g0 rfl) (Yd.lenSl rfl isl_35) ?_
  refine SL.val rfl rfl (Gd.g0 rfl) (Yd.gtr rfl rfl) ?_
  first | refine SL.nil_then ?_ | refine SL.nil ?_
  repeat (refine CW.seq ?_)
  refine CW.condD rfl (fun h4 => ?_) (fun h4 => ?_)
  ·repeat (refine CW.seq ?_)
   refine CW.region ?_
   refine SL.val rfl rfl (Gd.g0 rfl) (Yd.assign rfl) ?_
   first | refine SL.nil_then ?_ | refine SL.nil ?_
   refine CW.ret ?_
   repeat (first | refine EX.then_ret ?_ | refine EX.in_ret ?_)
   refine EX.out (rs := _) rfl (ResA.tmp rfl ResA.nil) (fun w2 hw => ?_) (by first | exact Or.inl rfl | exact Or.inr rfl)
   exact ⟨.inl ⟨.inr ⟨k, hlt, by omega⟩, rfl⟩, hw.below⟩
  refine CW.skip ?_
  repeat (first | refine EX.in_normal ?_)
  first | refine EX.then_normal ?_ | skip
  repeat (refine CW.seq ?_)
  refine CW.region ?_
  refine SL.val rfl rfl (Gd.g0 rfl) (Yd.move rfl) ?_
  refine SL.val rfl rfl (Gd.g0 rfl) ((by first | exact Yd.inc rfl (by omega) | exact Yd.add rfl rfl (by omega) | exact Yd.addW rfl rfl)) ?_
  refine SL.val rfl rfl (Gd.g0 rfl) (Yd.assign rfl) ?_
  first | refine SL.nil_then ?_ | refine SL.nil ?_
  refine EX.round (k + 1) ⟨by omega, fun j hj => by
   by_cases e : j = k
   ·subst e; omega
   ·exact hno j (by omega)⟩ (by omega) (Sub.cons rfl rfl (Sub.cons rfl rfl Sub.nil)) (fun _ h => h)
 refine CW.exit ?_
 repeat (first | refine EX.then_exit ?_ | refine EX.in_exit rfl ?_ | refine EX.in_exit_ne rfl ?_)
 first | refine EX.then_normal ?_ | skip
 have HNL : ¬ longB ts := fun q => by
  rcases q with q | ⟨j, q1, q2⟩
  ·omega
  ·have := hno j (by omega); omega
 clear hno
 repeat (refine CW.seq ?_)
 refine CW.region ?_
 refine SL.val rfl rfl (Gd.g0 rfl) (Yd.move rfl) ?_
 refine SL.val rfl rfl (Gd.g0 rfl) (Yd.lenSl rfl isl_22) ?_
 refine SL.val rfl rfl (Gd.g0 rfl) (Yd.eql rfl rfl) ?_
 first | refine SL.nil_then ?_ | refine SL.nil ?_
 repeat (refine CW.seq ?_)
 refine CW.condD rfl (fun hz => ?_) (fun hz => ?_)
 ·repeat (refine CW.seq ?_)
  refine CW.region ?_
  refine SL.val rfl rfl (Gd.g0 rfl) (Yd.assign rfl) ?_
  first | refine SL.nil_then ?_ | refine SL.nil ?_
  refine CW.ret ?_
  repeat (first | refine EX.then_ret ?_ | refine EX.in_ret ?_)
  refine EX.out (rs := _) rfl (ResA.tmp rfl ResA.nil) (fun w2 hw => ?_) (by first | exact Or.inl rfl | exact Or.inr rfl)
  exact ⟨.inr ⟨HNL, .inl ⟨rfl, fun _ q => by omega⟩⟩, hw.below⟩
 refine CW.skip ?_
 repeat (first | refine EX.in_normal ?_)
 first | refine EX.then_normal ?_ | skip
 obtain ⟨b, off, rfl, hb, hc⟩ := h0 (by omega)
 repeat (refine CW.seq ?_)
 refine CW.region ?_
 refine SL.val rfl rfl (Gd.g0 rfl) (Yd.assign rfl) ?_
 first | refine SL.nil_then ?_ | refine SL.nil ?_
 repeat (refine CW.seq ?_)
 refine CW.block ?_
 refine CW.loop (σ := Nat) (fun i => i ≤ ts.length ∧ valK ts i) (fun i => [(0, .slice (some ⟨b, off, none⟩) ts.length cap), (4, .int .i64 (i : Int))]) (fun _ => Wd w [] []) (fun i => ts.length - i) 0 ⟨by omega, fun j hj => by omega⟩ (Sub.cons rfl rfl (Sub.cons rfl rfl Sub.nil)) (fun _ h => h) ?_
 intro i ⟨hi, hval⟩
 repeat (refine CW.seq ?_)
 refine CW.region ?_
 refine SL.val rfl rfl (Gd.g0 rfl) (Yd.move rfl) ?_
 refine SL.val rfl rfl (Gd.g0 rfl) (Yd.move rfl) ?_
 refine SL.val rfl rfl (Gd.g0 rfl) (Yd.lenSl rfl isl_22) ?_
 refine SL.val rfl rfl (Gd.g0 rfl) (Yd.lss rfl rfl) ?_
 first | refine SL.nil_then ?_ | refine SL.nil ?_
 repeat (refine CW.seq ?_)
 refine CW.condD rfl (fun hin => ?_) (fun hin => ?_)
 ·refine CW.skip ?_
  repeat (first | refine EX.in_normal ?_)
  first | refine EX.then_normal ?_ | skip
  have hlt : i < ts.length := by omega
  have hm4 : (tk ts i).sc.length ≤ 4 := Classical.byContradiction fun q => HNL (.inr ⟨i, hlt, by omega⟩)
  have hsx := hv.2 (tk ts i) (ge_mem cdTk hlt)
  have hcs := hc i hlt
  have Hbad : ¬ okT (tk ts i) → ¬ (0 < ts.length ∧ valK ts ts.length) := fun h q => h (q.2 i hlt).1
  have Hsn : hasS ts = false → (tk ts i).sc.length = 0 := fun h => hasS_no.1 h i hlt
  obtain ⟨aos, caps, hs, -⟩ := hv.secs hlt
  obtain ⟨t, ht⟩ : ∃ t, tk ts i = t := ⟨_, rfl⟩
  rw [ht] at hm4 hsx Hbad Hsn hs
  obtain ⟨nm, T, O, D, C, pr, sv, sc⟩ := t
  obtain rfl : sv = .slice aos sc.length caps := hs
  have hcs' : ∀ j v, [Value.string nm, .int .i64 T, .int .i64 O, .int .i64 D, .int .i64 C, .int .i64 pr, .slice aos sc.length caps][j]? = some v → w.cell? ⟨b, off + i * 7 + j, none⟩ = some v := fun j v h => hcs j v (by rw [show ge cdTk ts i = _ from ht]; exact h)
  have hcl : ∀ w2, Wd w [] [] w2 → Calls Try.prog 24 #[.agg #[Value.string nm, .int .i64 T, .int .i64 O, .int .i64 D, .int .i64 C, .int .i64 pr, .slice aos sc.length caps]] w2 fun e w' => (∃ b : Bool, (sc.length = 0 → b = true) ∧ e = .returned (.bool b)) ∧ Below w2.heap.size w2 w' := fun w2 hw =>
   (ref_secs ⟨nm, T, O, D, C, pr, .slice aos sc.length caps, sc⟩ w2 (RX.keepb hsx hw.below) hm4).mono fun e w' ⟨⟨b, h1, h2⟩, hb⟩ => ⟨⟨b, h2, h1⟩, hb⟩
  repeat (refine CW.seq ?_)
  refine CW.block ?_
  repeat (refine CW.seq ?_)
  refine CW.region ?_
  refine SL.val rfl rfl (Gd.g0 rfl) (Yd.move rfl) ?_
  refine SL.val rfl rfl (Gd.g0 rfl) (Yd.move rfl) ?_
  refine SL.val rfl rfl (Gd.g0 rfl) ((by first | exact Yd.indexSlN rfl rfl sl_22 (by omega) | exact Yd.indexSl rfl rfl sl_22 (by omega))) ?_
  refine SL.val rfl rfl (Gd.g0 rfl) ((by first | exact Yd.loadR (i := 0) rfl ag_37 rfl rfl | exact Yd.loadR (i := 1) rfl ag_37 rfl rfl | exact Yd.loadR (i := 2) rfl ag_37 rfl rfl | exact Yd.loadR (i := 3) rfl ag_37 rfl rfl | exact Yd.loadR (i := 4) rfl ag_37 rfl rfl | exact Yd.loadR (i := 5) rfl ag_37 rfl rfl | exact Yd.loadA rfl ag_37 rfl (Wd.inpA hb (by simp) hcs'))) ?_
  refine SL.efD rfl rfl (Gd.g0 rfl) (Ef.alloc zl_37) (fun b5 => ?_)
  try dsimp only [Value.cells, List.flatMap_cons, List.flatMap_nil]
  refine SL.ef0 rfl (Gd.g0 rfl) (by first | exact Ef0.storeA (i := 0) rfl rfl rfl ag_37 rfl rfl (by simp) | exact Ef0.storeA (i := 1) rfl rfl rfl ag_37 rfl rfl (by simp) | exact Ef0.storeA (i := 2) rfl rfl rfl ag_37 rfl rfl (by simp) | exact Ef0.storeA (i := 3) rfl rfl rfl ag_37 rfl rfl (by simp) | exact Ef0.storeA (i := 4) rfl rfl rfl ag_37 rfl rfl (by simp) | exact Ef0.storeA (i := 5) rfl rfl rfl ag_37 rfl rfl (by simp)) ?_
  try dsimp only [setR, List.set, setRow2]
  first | refine SL.nil_then ?_ | refine SL.nil ?_
  repeat (refine CW.seq ?_)
  refine CW.region ?_
  refine SL.val rfl rfl (Gd.g0 rfl) (Yd.fieldAddr rfl fo_37_0) ?_
  refine SL.val rfl rfl (Gd.g0 rfl) ((by first | exact Yd.load rfl ag_9 (Wd.cell (i := 0) rfl rfl) | exact Yd.load rfl ag_9 (Wd.cell (i := 1) rfl rfl) | exact Yd.load rfl ag_9 (Wd.cell (i := 2) rfl rfl) | exact Yd.load rfl ag_9 (Wd.cell (i := 3) rfl rfl) | exact Yd.load rfl ag_9 (Wd.cell (i := 4) rfl rfl) | exact Yd.load rfl ag_9 (Wd.cell (i := 5) rfl rfl) | exact Yd.load rfl ag_9 (Wd.inpA hb (by simp) hcs'))) ?_
  refine SL.val rfl rfl (Gd.g0 rfl) (Yd.eqlS rfl rfl) ?_
  refine SL.val rfl rfl (Gd.g0 rfl) (Yd.move rfl) ?_
  refine SL.splitD (dj := 39) rfl (fun hg39 => ?_) (fun hg39 => ?_)
  refine SL.unw rfl rfl (Gd.no rfl rfl rfl rfl) ?_
  refine SL.unw rfl rfl (Gd.no rfl rfl rfl rfl) ?_
  refine SL.unw rfl rfl (Gd.no rfl rfl rfl rfl) ?_
  refine SL.unw rfl rfl (Gd.no rfl rfl rfl rfl) ?_
  refine SL.val rfl rfl (Gd.g0 rfl) ((by first | exact Yd.pickT rfl rfl | exact Yd.pickF rfl rfl | exact Yd.pickB rfl rfl rfl)) ?_
  refine SL.val rfl rfl (Gd.g0 rfl) (Yd.move rfl) ?_
  refine SL.unw rfl rfl (Gd.no rfl rfl rfl rfl) ?_
  refine SL.unw rfl rfl (Gd.no rfl rfl rfl rfl) ?_
  refine SL.unw rfl rfl (Gd.no rfl rfl rfl rfl) ?_
  refine SL.val rfl rfl (Gd.g0 rfl) ((by first | exact Yd.pickT rfl rfl | exact Yd.pickF rfl rfl | exact Yd.pickB rfl rfl rfl)) ?_
  refine SL.val rfl rfl (Gd.g0 rfl) (Yd.move rfl) ?_
  refine SL.unw rfl rfl (Gd.no rfl rfl rfl rfl) ?_
  refine SL.unw rfl rfl (Gd.no rfl rfl rfl rfl) ?_
  refine SL.unw rfl rfl (Gd.no rfl rfl rfl rfl) ?_
  refine SL.val rfl rfl (Gd.g0 rfl) ((by first | exact Yd.pickT rfl rfl | exact Yd.pickF rfl rfl | exact Yd.pickB rfl rfl rfl)) ?_
  refine SL.val rfl rfl (Gd.g0 rfl) (Yd.move rfl) ?_
  refine SL.unw rfl rfl (Gd.no rfl rfl rfl rfl) ?_
  refine SL.unw rfl rfl (Gd.no rfl rfl rfl rfl) ?_
  refine SL.unw rfl rfl (Gd.no rfl rfl rfl rfl) ?_
  refine SL.val rfl rfl (Gd.g0 rfl) ((by first | exact Yd.pickT rfl rfl | exact Yd.pickF rfl rfl | exact Yd.pickB rfl rfl rfl)) ?_
  refine SL.val rfl rfl (Gd.g0 rfl) (Yd.move rfl) ?_
  refine SL.unw rfl rfl (Gd.no rfl rfl rfl rfl) ?_
  refine SL.unw rfl rfl (Gd.no rfl rfl rfl rfl) ?_
  refine SL.unw rfl rfl (Gd.no rfl rfl rfl rfl) ?_
  refine SL.val rfl rfl (Gd.g0 rfl) ((by first | exact Yd.pickT rfl rfl | exact Yd.pickF rfl rfl | exact Yd.pickB rfl rfl rfl)) ?_
  refine SL.val rfl rfl (Gd.g0 rfl) (Yd.move rfl) ?_
  refine SL.unw rfl rfl (Gd.no rfl rfl rfl rfl) ?_
  refine SL.unw rfl rfl (Gd.no rfl rfl rfl rfl) ?_
  refine SL.unw rfl rfl (Gd.no rfl rfl rfl rfl) ?_
  refine SL.unw rfl rfl (Gd.no rfl rfl rfl rfl) ?_
  refine SL.unw rfl rfl (Gd.no rfl rfl rfl rfl) ?_
  refine SL.val rfl rfl (Gd.g0 rfl) ((by first | exact Yd.pickT rfl rfl | exact Yd.pickF rfl rfl | exact Yd.pickB rfl rfl rfl)) ?_
  refine SL.val rfl rfl (Gd.g0 rfl) (Yd.move rfl) ?_
  refine SL.unw rfl rfl (Gd.no rfl rfl rfl rfl) ?_
  refine SL.unw rfl rfl (Gd.no rfl rfl rfl rfl) ?_
  refine SL.unw rfl rfl (Gd.no rfl rfl rfl rfl) ?_
  refine SL.val rfl rfl (Gd.g0 rfl) ((by first | exact Yd.pickT rfl rfl | exact Yd.pickF rfl rfl | exact Yd.pickB rfl rfl rfl)) ?_
  refine SL.val rfl rfl (Gd.g0 rfl) (Yd.move rfl) ?_
  refine SL.unw rfl rfl (Gd.no rfl rfl rfl rfl) ?_
  refine SL.unw rfl rfl (Gd.no rfl rfl rfl rfl) ?_
  refine SL.unw rfl rfl (Gd.no rfl rfl rfl rfl) ?_
  refine SL.unw rfl rfl (Gd.no rfl rfl rfl rfl) ?_
  refine SL.unw rfl rfl (Gd.no rfl rfl rfl rfl) ?_
  refine SL.val rfl rfl (Gd.g0 rfl) ((by first | exact Yd.pickT rfl rfl | exact Yd.pickF rfl rfl | exact Yd.pickB rfl rfl rfl)) ?_
  refine SL.val rfl rfl (Gd.g0 rfl) (Yd.move rfl) ?_
  refine SL.unw rfl rfl (Gd.no rfl rfl rfl rfl) ?_
  refine SL.unw rfl rfl (Gd.no rfl rfl rfl rfl) ?_
  refine SL.unw rfl rfl (Gd.no rfl rfl rfl rfl) ?_
  refine SL.val rfl rfl (Gd.g0 rfl) ((by first | exact Yd.pickT rfl rfl | exact Yd.pickF rfl rfl | exact Yd.pickB rfl rfl rfl)) ?_
  refine SL.val rfl rfl (Gd.g0 rfl) (Yd.move rfl) ?_
  refine SL.unw rfl rfl (Gd.no rfl rfl rfl rfl) ?_
  refine SL.unw rfl rfl (Gd.no rfl rfl rfl rfl) ?_
  refine SL.unw rfl rfl (Gd.no rfl rfl rfl rfl) ?_
  refine SL.unw rfl rfl (Gd.no rfl rfl rfl rfl) ?_
  refine SL.unw rfl rfl (Gd.no rfl rfl rfl rfl) ?_
  refine SL.val rfl rfl (Gd.g0 rfl) ((by first | exact Yd.pickT rfl rfl | exact Yd.pickF rfl rfl | exact Yd.pickB rfl rfl rfl)) ?_
  refine SL.val rfl rfl (Gd.g0 rfl) (Yd.move rfl) ?_
  refine SL.unw rfl rfl (Gd.no rfl rfl rfl rfl) ?_
  refine SL.unw rfl rfl (Gd.no rfl rfl rfl rfl) ?_
  refine SL.unw rfl rfl (Gd.no rfl rfl rfl rfl) ?_
  refine SL.val rfl rfl (Gd.g0 rfl) ((by first | exact Yd.pickT rfl rfl | exact Yd.pickF rfl rfl | exact Yd.pickB rfl rfl rfl)) ?_
  first | refine SL.nil_then ?_ | refine SL.nil ?_
  rotate_left
  refine SL.val rfl rfl (Gd.yes rfl rfl rfl) (Yd.fieldAddr rfl fo_37_0) ?_
  refine SL.val rfl rfl (Gd.yes rfl rfl rfl) ((by first | exact Yd.load rfl ag_9 (Wd.cell (i := 0) rfl rfl) | exact Yd.load rfl ag_9 (Wd.cell (i := 1) rfl rfl) | exact Yd.load rfl ag_9 (Wd.cell (i := 2) rfl rfl) | exact Yd.load rfl ag_9 (Wd.cell (i := 3) rfl rfl) | exact Yd.load rfl ag_9 (Wd.cell (i := 4) rfl rfl) | exact Yd.load rfl ag_9 (Wd.cell (i := 5) rfl rfl) | exact Yd.load rfl ag_9 (Wd.inpA hb (by simp) hcs'))) ?_
  refine SL.val rfl rfl (Gd.yes rfl rfl rfl) (Yd.lenS rfl istr_9) ?_
  refine SL.val rfl rfl (Gd.yes rfl rfl rfl) (Yd.gtr rfl rfl) ?_
  refine SL.val rfl rfl (Gd.g0 rfl) ((by first | exact Yd.pickT rfl rfl | exact Yd.pickF rfl rfl | exact Yd.pickB rfl rfl rfl)) ?_
  refine SL.val rfl rfl (Gd.g0 rfl) (Yd.move rfl) ?_
  refine SL.splitD (dj := 45) rfl (fun hg45 => ?_) (fun hg45 => ?_)
  refine SL.unw rfl rfl (Gd.no rfl rfl rfl rfl) ?_
  refine SL.unw rfl rfl (Gd.no rfl rfl rfl rfl) ?_
  refine SL.unw rfl rfl (Gd.no rfl rfl rfl rfl) ?_
  refine SL.val rfl rfl (Gd.g0 rfl) ((by first | exact Yd.pickT rfl rfl | exact Yd.pickF rfl rfl | exact Yd.pickB rfl rfl rfl)) ?_
  refine SL.val rfl rfl (Gd.g0 rfl) (Yd.move rfl) ?_
  refine SL.unw rfl rfl (Gd.no rfl rfl rfl rfl) ?_
  refine SL.unw rfl rfl (Gd.no rfl rfl rfl rfl) ?_
  refine SL.unw rfl rfl (Gd.no rfl rfl rfl rfl) ?_
  refine SL.val rfl rfl (Gd.g0 rfl) ((by first | exact Yd.pickT rfl rfl | exact Yd.pickF rfl rfl | exact Yd.pickB rfl rfl rfl)) ?_
  refine SL.val rfl rfl (Gd.g0 rfl) (Yd.move rfl) ?_
  refine SL.unw rfl rfl (Gd.no rfl rfl rfl rfl) ?_
  refine SL.unw rfl rfl (Gd.no rfl rfl rfl rfl) ?_
  refine SL.unw rfl rfl (Gd.no rfl rfl rfl rfl) ?_
  refine SL.val rfl rfl (Gd.g0 rfl) ((by first | exact Yd.pickT rfl rfl | exact Yd.pickF rfl rfl | exact Yd.pickB rfl rfl rfl)) ?_
  refine SL.val rfl rfl (Gd.g0 rfl) (Yd.move rfl) ?_
  refine SL.unw rfl rfl (Gd.no rfl rfl rfl rfl) ?_
  refine SL.unw rfl rfl (Gd.no rfl rfl rfl rfl) ?_
  refine SL.unw rfl rfl (Gd.no rfl rfl rfl rfl) ?_
  refine SL.val rfl rfl (Gd.g0 rfl) ((by first | exact Yd.pickT rfl rfl | exact Yd.pickF rfl rfl | exact Yd.pickB rfl rfl rfl)) ?_
  refine SL.val rfl rfl (Gd.g0 rfl) (Yd.move rfl) ?_
  refine SL.unw rfl rfl (Gd.no rfl rfl rfl rfl) ?_
  refine SL.unw rfl rfl (Gd.no rfl rfl rfl rfl) ?_
  refine SL.unw rfl rfl (Gd.no rfl rfl rfl rfl) ?_
  refine SL.unw rfl rfl (Gd.no rfl rfl rfl rfl) ?_
  refine SL.unw rfl rfl (Gd.no rfl rfl rfl rfl) ?_
  refine SL.val rfl rfl (Gd.g0 rfl) ((by first | exact Yd.pickT rfl rfl | exact Yd.pickF rfl rfl | exact Yd.pickB rfl rfl rfl)) ?_
  refine SL.val rfl rfl (Gd.g0 rfl) (Yd.move rfl) ?_
  refine SL.unw rfl rfl (Gd.no rfl rfl rfl rfl) ?_
  refine SL.unw rfl rfl (Gd.no rfl rfl rfl rfl) ?_
  refine SL.unw rfl rfl (Gd.no rfl rfl rfl rfl) ?_
  refine SL.val rfl rfl (Gd.g0 rfl) ((by first | exact Yd.pickT rfl rfl | exact Yd.pickF rfl rfl | exact Yd.pickB rfl rfl rfl)) ?_
  refine SL.val rfl rfl (Gd.g0 rfl) (Yd.move rfl) ?_
  refine SL.unw rfl rfl (Gd.no rfl rfl rfl rfl) ?_
  refine SL.unw rfl rfl (Gd.no rfl rfl rfl rfl) ?_
  refine SL.unw rfl rfl (Gd.no rfl rfl rfl rfl) ?_
  refine SL.unw rfl rfl (Gd.no rfl rfl rfl rfl) ?_
  refine SL.unw rfl rfl (Gd.no rfl rfl rfl rfl) ?_
  refine SL.val rfl rfl (Gd.g0 rfl) ((by first | exact Yd.pickT rfl rfl | exact Yd.pickF rfl rfl | exact Yd.pickB rfl rfl rfl)) ?_
  refine SL.val rfl rfl (Gd.g0 rfl) (Yd.move rfl) ?_
  refine SL.unw rfl rfl (Gd.no rfl rfl rfl rfl) ?_
  refine SL.unw rfl rfl (Gd.no rfl rfl rfl rfl) ?_
  refine SL.unw rfl rfl (Gd.no rfl rfl rfl rfl) ?_
  refine SL.val rfl rfl (Gd.g0 rfl) ((by first | exact Yd.pickT rfl rfl | exact Yd.pickF rfl rfl | exact Yd.pickB rfl rfl rfl)) ?_
  refine SL.val rfl rfl (Gd.g0 rfl) (Yd.move rfl) ?_
  refine SL.unw rfl rfl (Gd.no rfl rfl rfl rfl) ?_
  refine SL.unw rfl rfl (Gd.no rfl rfl rfl rfl) ?_
  refine SL.unw rfl rfl (Gd.no rfl rfl rfl rfl) ?_
  refine SL.unw rfl rfl (Gd.no rfl rfl rfl rfl) ?_
  refine SL.unw rfl rfl (Gd.no rfl rfl rfl rfl) ?_
  refine SL.val rfl rfl (Gd.g0 rfl) ((by first | exact Yd.pickT rfl rfl | exact Yd.pickF rfl rfl | exact Yd.pickB rfl rfl rfl)) ?_
  refine SL.val rfl rfl (Gd.g0 rfl) (Yd.move rfl) ?_
  refine SL.unw rfl rfl (Gd.no rfl rfl rfl rfl) ?_
  refine SL.unw rfl rfl (Gd.no rfl rfl rfl rfl) ?_
  refine SL.unw rfl rfl (Gd.no rfl rfl rfl rfl) ?_
  refine SL.val rfl rfl (Gd.g0 rfl) ((by first | exact Yd.pickT rfl rfl | exact Yd.pickF rfl rfl | exact Yd.pickB rfl rfl rfl)) ?_
  first | refine SL.nil_then ?_ | refine SL.nil ?_
  rotate_left
  refine SL.val rfl rfl (Gd.yes rfl rfl rfl) (Yd.fieldAddr rfl fo_37_5) ?_
  refine SL.val rfl rfl (Gd.yes rfl rfl rfl) ((by first | exact Yd.load rfl ag_3 (Wd.cell (i := 0) rfl rfl) | exact Yd.load rfl ag_3 (Wd.cell (i := 1) rfl rfl) | exact Yd.load rfl ag_3 (Wd.cell (i := 2) rfl rfl) | exact Yd.load rfl ag_3 (Wd.cell (i := 3) rfl rfl) | exact Yd.load rfl ag_3 (Wd.cell (i := 4) rfl rfl) | exact Yd.load rfl ag_3 (Wd.cell (i := 5) rfl rfl) | exact Yd.load rfl ag_3 (Wd.inpA hb (by simp) hcs'))) ?_
  refine SL.val rfl rfl (Gd.yes rfl rfl rfl) (Yd.lss rfl rfl) ?_
  refine SL.val rfl rfl (Gd.g0 rfl) ((by first | exact Yd.pickT rfl rfl | exact Yd.pickF rfl rfl | exact Yd.pickB rfl rfl rfl)) ?_
  refine SL.val rfl rfl (Gd.g0 rfl) (Yd.move rfl) ?_
  refine SL.splitD (dj := 50) rfl (fun hg50 => ?_) (fun hg50 => ?_)
  refine SL.unw rfl rfl (Gd.no rfl rfl rfl rfl) ?_
  refine SL.unw rfl rfl (Gd.no rfl rfl rfl rfl) ?_
  refine SL.unw rfl rfl (Gd.no rfl rfl rfl rfl) ?_
  refine SL.val rfl rfl (Gd.g0 rfl) ((by first | exact Yd.pickT rfl rfl | exact Yd.pickF rfl rfl | exact Yd.pickB rfl rfl rfl)) ?_
  refine SL.val rfl rfl (Gd.g0 rfl) (Yd.move rfl) ?_
  refine SL.unw rfl rfl (Gd.no rfl rfl rfl rfl) ?_
  refine SL.unw rfl rfl (Gd.no rfl rfl rfl rfl) ?_
  refine SL.unw rfl rfl (Gd.no rfl rfl rfl rfl) ?_
  refine SL.val rfl rfl (Gd.g0 rfl) ((by first | exact Yd.pickT rfl rfl | exact Yd.pickF rfl rfl | exact Yd.pickB rfl rfl rfl)) ?_
  refine SL.val rfl rfl (Gd.g0 rfl) (Yd.move rfl) ?_
  refine SL.unw rfl rfl (Gd.no rfl rfl rfl rfl) ?_
  refine SL.unw rfl rfl (Gd.no rfl rfl rfl rfl) ?_
  refine SL.unw rfl rfl (Gd.no rfl rfl rfl rfl) ?_
  refine SL.val rfl rfl (Gd.g0 rfl) ((by first | exact Yd.pickT rfl rfl | exact Yd.pickF rfl rfl | exact Yd.pickB rfl rfl rfl)) ?_
  refine SL.val rfl rfl (Gd.g0 rfl) (Yd.move rfl) ?_
  refine SL.unw rfl rfl (Gd.no rfl rfl rfl rfl) ?_
  refine SL.unw rfl rfl (Gd.no rfl rfl rfl rfl) ?_
  refine SL.unw rfl rfl (Gd.no rfl rfl rfl rfl) ?_
  refine SL.unw rfl rfl (Gd.no rfl rfl rfl rfl) ?_
  refine SL.unw rfl rfl (Gd.no rfl rfl rfl rfl) ?_
  refine SL.val rfl rfl (Gd.g0 rfl) ((by first | exact Yd.pickT rfl rfl | exact Yd.pickF rfl rfl | exact Yd.pickB rfl rfl rfl)) ?_
  refine SL.val rfl rfl (Gd.g0 rfl) (Yd.move rfl) ?_
  refine SL.unw rfl rfl (Gd.no rfl rfl rfl rfl) ?_
  refine SL.unw rfl rfl (Gd.no rfl rfl rfl rfl) ?_
  refine SL.unw rfl rfl (Gd.no rfl rfl rfl rfl) ?_
  refine SL.val rfl rfl (Gd.g0 rfl) ((by first | exact Yd.pickT rfl rfl | exact Yd.pickF rfl rfl | exact Yd.pickB rfl rfl rfl)) ?_
  refine SL.val rfl rfl (Gd.g0 rfl) (Yd.move rfl) ?_
  refine SL.unw rfl rfl (Gd.no rfl rfl rfl rfl) ?_
  refine SL.unw rfl rfl (Gd.no rfl rfl rfl rfl) ?_
  refine SL.unw rfl rfl (Gd.no rfl rfl rfl rfl) ?_
  refine SL.unw rfl rfl (Gd.no rfl rfl rfl rfl) ?_
  refine SL.unw rfl rfl (Gd.no rfl rfl rfl rfl) ?_
  refine SL.val rfl rfl (Gd.g0 rfl) ((by first | exact Yd.pickT rfl rfl | exact Yd.pickF rfl rfl | exact Yd.pickB rfl rfl rfl)) ?_
  refine SL.val rfl rfl (Gd.g0 rfl) (Yd.move rfl) ?_
  refine SL.unw rfl rfl (Gd.no rfl rfl rfl rfl) ?_
  refine SL.unw rfl rfl (Gd.no rfl rfl rfl rfl) ?_
  refine SL.unw rfl rfl (Gd.no rfl rfl rfl rfl) ?_
  refine SL.val rfl rfl (Gd.g0 rfl) ((by first | exact Yd.pickT rfl rfl | exact Yd.pickF rfl rfl | exact Yd.pickB rfl rfl rfl)) ?_
  refine SL.val rfl rfl (Gd.g0 rfl) (Yd.move rfl) ?_
  refine SL.unw rfl rfl (Gd.no rfl rfl rfl rfl) ?_
  refine SL.unw rfl rfl (Gd.no rfl rfl rfl rfl) ?_
  refine SL.unw rfl rfl (Gd.no rfl rfl rfl rfl) ?_
  refine SL.unw rfl rfl (Gd.no rfl rfl rfl rfl) ?_
  refine SL.unw rfl rfl (Gd.no rfl rfl rfl rfl) ?_
  refine SL.val rfl rfl (Gd.g0 rfl) ((by first | exact Yd.pickT rfl rfl | exact Yd.pickF rfl rfl | exact Yd.pickB rfl rfl rfl)) ?_
  refine SL.val rfl rfl (Gd.g0 rfl) (Yd.move rfl) ?_
  refine SL.unw rfl rfl (Gd.no rfl rfl rfl rfl) ?_
  refine SL.unw rfl rfl (Gd.no rfl rfl rfl rfl) ?_
  refine SL.unw rfl rfl (Gd.no rfl rfl rfl rfl) ?_
  refine SL.val rfl rfl (Gd.g0 rfl) ((by first | exact Yd.pickT rfl rfl | exact Yd.pickF rfl rfl | exact Yd.pickB rfl rfl rfl)) ?_
  first | refine SL.nil_then ?_ | refine SL.nil ?_
  rotate_left
  refine SL.val rfl rfl (Gd.yes rfl rfl rfl) (Yd.fieldAddr rfl fo_37_1) ?_
  refine SL.val rfl rfl (Gd.yes rfl rfl rfl) ((by first | exact Yd.load rfl ag_2 (Wd.cell (i := 0) rfl rfl) | exact Yd.load rfl ag_2 (Wd.cell (i := 1) rfl rfl) | exact Yd.load rfl ag_2 (Wd.cell (i := 2) rfl rfl) | exact Yd.load rfl ag_2 (Wd.cell (i := 3) rfl rfl) | exact Yd.load rfl ag_2 (Wd.cell (i := 4) rfl rfl) | exact Yd.load rfl ag_2 (Wd.cell (i := 5) rfl rfl) | exact Yd.load rfl ag_2 (Wd.inpA hb (by simp) hcs'))) ?_
  refine SL.val rfl rfl (Gd.yes rfl rfl rfl) (Yd.lss rfl rfl) ?_
  refine SL.val rfl rfl (Gd.g0 rfl) ((by first | exact Yd.pickT rfl rfl | exact Yd.pickF rfl rfl | exact Yd.pickB rfl rfl rfl)) ?_
  refine SL.val rfl rfl (Gd.g0 rfl) (Yd.move rfl) ?_
  refine SL.splitD (dj := 55) rfl (fun hg55 => ?_) (fun hg55 => ?_)
  refine SL.unw rfl rfl (Gd.no rfl rfl rfl rfl) ?_
  refine SL.unw rfl rfl (Gd.no rfl rfl rfl rfl) ?_
  refine SL.unw rfl rfl (Gd.no rfl rfl rfl rfl) ?_
  refine SL.val rfl rfl (Gd.g0 rfl) ((by first | exact Yd.pickT rfl rfl | exact Yd.pickF rfl rfl | exact Yd.pickB rfl rfl rfl)) ?_
  refine SL.val rfl rfl (Gd.g0 rfl) (Yd.move rfl) ?_
  refine SL.unw rfl rfl (Gd.no rfl rfl rfl rfl) ?_
  refine SL.unw rfl rfl (Gd.no rfl rfl rfl rfl) ?_
  refine SL.unw rfl rfl (Gd.no rfl rfl rfl rfl) ?_
  refine SL.val rfl rfl (Gd.g0 rfl) ((by first | exact Yd.pickT rfl rfl | exact Yd.pickF rfl rfl | exact Yd.pickB rfl rfl rfl)) ?_
  refine SL.val rfl rfl (Gd.g0 rfl) (Yd.move rfl) ?_
  refine SL.unw rfl rfl (Gd.no rfl rfl rfl rfl) ?_
  refine SL.unw rfl rfl (Gd.no rfl rfl rfl rfl) ?_
  refine SL.unw rfl rfl (Gd.no rfl rfl rfl rfl) ?_
  refine SL.unw rfl rfl (Gd.no rfl rfl rfl rfl) ?_
  refine SL.unw rfl rfl (Gd.no rfl rfl rfl rfl) ?_
  refine SL.val rfl rfl (Gd.g0 rfl) ((by first | exact Yd.pickT rfl rfl | exact Yd.pickF rfl rfl | exact Yd.pickB rfl rfl rfl)) ?_
  refine SL.val rfl rfl (Gd.g0 rfl) (Yd.move rfl) ?_
  refine SL.unw rfl rfl (Gd.no rfl rfl rfl rfl) ?_
  refine SL.unw rfl rfl (Gd.no rfl rfl rfl rfl) ?_
  refine SL.unw rfl rfl (Gd.no rfl rfl rfl rfl) ?_
  refine SL.val rfl rfl (Gd.g0 rfl) ((by first | exact Yd.pickT rfl rfl | exact Yd.pickF rfl rfl | exact Yd.pickB rfl rfl rfl)) ?_
  refine SL.val rfl rfl (Gd.g0 rfl) (Yd.move rfl) ?_
  refine SL.unw rfl rfl (Gd.no rfl rfl rfl rfl) ?_
  refine SL.unw rfl rfl (Gd.no rfl rfl rfl rfl) ?_
  refine SL.unw rfl rfl (Gd.no rfl rfl rfl rfl) ?_
  refine SL.unw rfl rfl (Gd.no rfl rfl rfl rfl) ?_
  refine SL.unw rfl rfl (Gd.no rfl rfl rfl rfl) ?_
  refine SL.val rfl rfl (Gd.g0 rfl) ((by first | exact Yd.pickT rfl rfl | exact Yd.pickF rfl rfl | exact Yd.pickB rfl rfl rfl)) ?_
  refine SL.val rfl rfl (Gd.g0 rfl) (Yd.move rfl) ?_
  refine SL.unw rfl rfl (Gd.no rfl rfl rfl rfl) ?_
  refine SL.unw rfl rfl (Gd.no rfl rfl rfl rfl) ?_
  refine SL.unw rfl rfl (Gd.no rfl rfl rfl rfl) ?_
  refine SL.val rfl rfl (Gd.g0 rfl) ((by first | exact Yd.pickT rfl rfl | exact Yd.pickF rfl rfl | exact Yd.pickB rfl rfl rfl)) ?_
  refine SL.val rfl rfl (Gd.g0 rfl) (Yd.move rfl) ?_
  refine SL.unw rfl rfl (Gd.no rfl rfl rfl rfl) ?_
  refine SL.unw rfl rfl (Gd.no rfl rfl rfl rfl) ?_
  refine SL.unw rfl rfl (Gd.no rfl rfl rfl rfl) ?_
  refine SL.unw rfl rfl (Gd.no rfl rfl rfl rfl) ?_
  refine SL.unw rfl rfl (Gd.no rfl rfl rfl rfl) ?_
  refine SL.val rfl rfl (Gd.g0 rfl) ((by first | exact Yd.pickT rfl rfl | exact Yd.pickF rfl rfl | exact Yd.pickB rfl rfl rfl)) ?_
  refine SL.val rfl rfl (Gd.g0 rfl) (Yd.move rfl) ?_
  refine SL.unw rfl rfl (Gd.no rfl rfl rfl rfl) ?_
  refine SL.unw rfl rfl (Gd.no rfl rfl rfl rfl) ?_
  refine SL.unw rfl rfl (Gd.no rfl rfl rfl rfl) ?_
  refine SL.val rfl rfl (Gd.g0 rfl) ((by first | exact Yd.pickT rfl rfl | exact Yd.pickF rfl rfl | exact Yd.pickB rfl rfl rfl)) ?_
  first | refine SL.nil_then ?_ | refine SL.nil ?_
  rotate_left
  refine SL.val rfl rfl (Gd.yes rfl rfl rfl) (Yd.fieldAddr rfl fo_37_1) ?_
  refine SL.val rfl rfl (Gd.yes rfl rfl rfl) ((by first | exact Yd.load rfl ag_2 (Wd.cell (i := 0) rfl rfl) | exact Yd.load rfl ag_2 (Wd.cell (i := 1) rfl rfl) | exact Yd.load rfl ag_2 (Wd.cell (i := 2) rfl rfl) | exact Yd.load rfl ag_2 (Wd.cell (i := 3) rfl rfl) | exact Yd.load rfl ag_2 (Wd.cell (i := 4) rfl rfl) | exact Yd.load rfl ag_2 (Wd.cell (i := 5) rfl rfl) | exact Yd.load rfl ag_2 (Wd.inpA hb (by simp) hcs'))) ?_
  refine SL.val rfl rfl (Gd.yes rfl rfl rfl) (Yd.gtr rfl rfl) ?_
  refine SL.val rfl rfl (Gd.g0 rfl) ((by first | exact Yd.pickT rfl rfl | exact Yd.pickF rfl rfl | exact Yd.pickB rfl rfl rfl)) ?_
  refine SL.val rfl rfl (Gd.g0 rfl) (Yd.move rfl) ?_
  refine SL.splitD (dj := 60) rfl (fun hg60 => ?_) (fun hg60 => ?_)
  refine SL.unw rfl rfl (Gd.no rfl rfl rfl rfl) ?_
  refine SL.unw rfl rfl (Gd.no rfl rfl rfl rfl) ?_
  refine SL.unw rfl rfl (Gd.no rfl rfl rfl rfl) ?_
  refine SL.val rfl rfl (Gd.g0 rfl) ((by first | exact Yd.pickT rfl rfl | exact Yd.pickF rfl rfl | exact Yd.pickB rfl rfl rfl)) ?_
  refine SL.val rfl rfl (Gd.g0 rfl) (Yd.move rfl) ?_
  refine SL.unw rfl rfl (Gd.no rfl rfl rfl rfl) ?_
  refine SL.unw rfl rfl (Gd.no rfl rfl rfl rfl) ?_
  refine SL.unw rfl rfl (Gd.no rfl rfl rfl rfl) ?_
  refine SL.unw rfl rfl (Gd.no rfl rfl rfl rfl) ?_
  refine SL.unw rfl rfl (Gd.no rfl rfl rfl rfl) ?_
  refine SL.val rfl rfl (Gd.g0 rfl) ((by first | exact Yd.pickT rfl rfl | exact Yd.pickF rfl rfl | exact Yd.pickB rfl rfl rfl)) ?_
  refine SL.val rfl rfl (Gd.g0 rfl) (Yd.move rfl) ?_
  refine SL.unw rfl rfl (Gd.no rfl rfl rfl rfl) ?_
  refine SL.unw rfl rfl (Gd.no rfl rfl rfl rfl) ?_
  refine SL.unw rfl rfl (Gd.no rfl rfl rfl rfl) ?_
  refine SL.val rfl rfl (Gd.g0 rfl) ((by first | exact Yd.pickT rfl rfl | exact Yd.pickF rfl rfl | exact Yd.pickB rfl rfl rfl)) ?_
  refine SL.val rfl rfl (Gd.g0 rfl) (Yd.move rfl) ?_
  refine SL.unw rfl rfl (Gd.no rfl rfl rfl rfl) ?_
  refine SL.unw rfl rfl (Gd.no rfl rfl rfl rfl) ?_
  refine SL.unw rfl rfl (Gd.no rfl rfl rfl rfl) ?_
  refine SL.unw rfl rfl (Gd.no rfl rfl rfl rfl) ?_
  refine SL.unw rfl rfl (Gd.no rfl rfl rfl rfl) ?_
  refine SL.val rfl rfl (Gd.g0 rfl) ((by first | exact Yd.pickT rfl rfl | exact Yd.pickF rfl rfl | exact Yd.pickB rfl rfl rfl)) ?_
  refine SL.val rfl rfl (Gd.g0 rfl) (Yd.move rfl) ?_
  refine SL.unw rfl rfl (Gd.no rfl rfl rfl rfl) ?_
  refine SL.unw rfl rfl (Gd.no rfl rfl rfl rfl) ?_
  refine SL.unw rfl rfl (Gd.no rfl rfl rfl rfl) ?_
  refine SL.val rfl rfl (Gd.g0 rfl) ((by first | exact Yd.pickT rfl rfl | exact Yd.pickF rfl rfl | exact Yd.pickB rfl rfl rfl)) ?_
  refine SL.val rfl rfl (Gd.g0 rfl) (Yd.move rfl) ?_
  refine SL.unw rfl rfl (Gd.no rfl rfl rfl rfl) ?_
  refine SL.unw rfl rfl (Gd.no rfl rfl rfl rfl) ?_
  refine SL.unw rfl rfl (Gd.no rfl rfl rfl rfl) ?_
  refine SL.unw rfl rfl (Gd.no rfl rfl rfl rfl) ?_
  refine SL.unw rfl rfl (Gd.no rfl rfl rfl rfl) ?_
  refine SL.val rfl rfl (Gd.g0 rfl) ((by first | exact Yd.pickT rfl rfl | exact Yd.pickF rfl rfl | exact Yd.pickB rfl rfl rfl)) ?_
  refine SL.val rfl rfl (Gd.g0 rfl) (Yd.move rfl) ?_
  refine SL.unw rfl rfl (Gd.no rfl rfl rfl rfl) ?_
  refine SL.unw rfl rfl (Gd.no rfl rfl rfl rfl) ?_
  refine SL.unw rfl rfl (Gd.no rfl rfl rfl rfl) ?_
  refine SL.val rfl rfl (Gd.g0 rfl) ((by first | exact Yd.pickT rfl rfl | exact Yd.pickF rfl rfl | exact Yd.pickB rfl rfl rfl)) ?_
  first | refine SL.nil_then ?_ | refine SL.nil ?_
  rotate_left
  refine SL.val rfl rfl (Gd.yes rfl rfl rfl) (Yd.fieldAddr rfl fo_37_2) ?_
  refine SL.val rfl rfl (Gd.yes rfl rfl rfl) ((by first | exact Yd.load rfl ag_2 (Wd.cell (i := 0) rfl rfl) | exact Yd.load rfl ag_2 (Wd.cell (i := 1) rfl rfl) | exact Yd.load rfl ag_2 (Wd.cell (i := 2) rfl rfl) | exact Yd.load rfl ag_2 (Wd.cell (i := 3) rfl rfl) | exact Yd.load rfl ag_2 (Wd.cell (i := 4) rfl rfl) | exact Yd.load rfl ag_2 (Wd.cell (i := 5) rfl rfl) | exact Yd.load rfl ag_2 (Wd.inpA hb (by simp) hcs'))) ?_
  refine SL.val rfl rfl (Gd.yes rfl rfl rfl) (Yd.lss rfl rfl) ?_
  refine SL.val rfl rfl (Gd.g0 rfl) ((by first | exact Yd.pickT rfl rfl | exact Yd.pickF rfl rfl | exact Yd.pickB rfl rfl rfl)) ?_
  refine SL.val rfl rfl (Gd.g0 rfl) (Yd.move rfl) ?_
  refine SL.splitD (dj := 65) rfl (fun hg65 => ?_) (fun hg65 => ?_)
  refine SL.unw rfl rfl (Gd.no rfl rfl rfl rfl) ?_
  refine SL.unw rfl rfl (Gd.no rfl rfl rfl rfl) ?_
  refine SL.unw rfl rfl (Gd.no rfl rfl rfl rfl) ?_
  refine SL.unw rfl rfl (Gd.no rfl rfl rfl rfl) ?_
  refine SL.unw rfl rfl (Gd.no rfl rfl rfl rfl) ?_
  refine SL.val rfl rfl (Gd.g0 rfl) ((by first | exact Yd.pickT rfl rfl | exact Yd.pickF rfl rfl | exact Yd.pickB rfl rfl rfl)) ?_
  refine SL.val rfl rfl (Gd.g0 rfl) (Yd.move rfl) ?_
  refine SL.unw rfl rfl (Gd.no rfl rfl rfl rfl) ?_
  refine SL.unw rfl rfl (Gd.no rfl rfl rfl rfl) ?_
  refine SL.unw rfl rfl (Gd.no rfl rfl rfl rfl) ?_
  refine SL.val rfl rfl (Gd.g0 rfl) ((by first | exact Yd.pickT rfl rfl | exact Yd.pickF rfl rfl | exact Yd.pickB rfl rfl rfl)) ?_
  refine SL.val rfl rfl (Gd.g0 rfl) (Yd.move rfl) ?_
  refine SL.unw rfl rfl (Gd.no rfl rfl rfl rfl) ?_
  refine SL.unw rfl rfl (Gd.no rfl rfl rfl rfl) ?_
  refine SL.unw rfl rfl (Gd.no rfl rfl rfl rfl) ?_
  refine SL.unw rfl rfl (Gd.no rfl rfl rfl rfl) ?_
  refine SL.unw rfl rfl (Gd.no rfl rfl rfl rfl) ?_
  refine SL.val rfl rfl (Gd.g0 rfl) ((by first | exact Yd.pickT rfl rfl | exact Yd.pickF rfl rfl | exact Yd.pickB rfl rfl rfl)) ?_
  refine SL.val rfl rfl (Gd.g0 rfl) (Yd.move rfl) ?_
  refine SL.unw rfl rfl (Gd.no rfl rfl rfl rfl) ?_
  refine SL.unw rfl rfl (Gd.no rfl rfl rfl rfl) ?_
  refine SL.unw rfl rfl (Gd.no rfl rfl rfl rfl) ?_
  refine SL.val rfl rfl (Gd.g0 rfl) ((by first | exact Yd.pickT rfl rfl | exact Yd.pickF rfl rfl | exact Yd.pickB rfl rfl rfl)) ?_
  refine SL.val rfl rfl (Gd.g0 rfl) (Yd.move rfl) ?_
  refine SL.unw rfl rfl (Gd.no rfl rfl rfl rfl) ?_
  refine SL.unw rfl rfl (Gd.no rfl rfl rfl rfl) ?_
  refine SL.unw rfl rfl (Gd.no rfl rfl rfl rfl) ?_
  refine SL.unw rfl rfl (Gd.no rfl rfl rfl rfl) ?_
  refine SL.unw rfl rfl (Gd.no rfl rfl rfl rfl) ?_
  refine SL.val rfl rfl (Gd.g0 rfl) ((by first | exact Yd.pickT rfl rfl | exact Yd.pickF rfl rfl | exact Yd.pickB rfl rfl rfl)) ?_
  refine SL.val rfl rfl (Gd.g0 rfl) (Yd.move rfl) ?_
  refine SL.unw rfl rfl (Gd.no rfl rfl rfl rfl) ?_
  refine SL.unw rfl rfl (Gd.no rfl rfl rfl rfl) ?_
  refine SL.unw rfl rfl (Gd.no rfl rfl rfl rfl) ?_
  refine SL.val rfl rfl (Gd.g0 rfl) ((by first | exact Yd.pickT rfl rfl | exact Yd.pickF rfl rfl | exact Yd.pickB rfl rfl rfl)) ?_
  first | refine SL.nil_then ?_ | refine SL.nil ?_
  rotate_left
  refine SL.val rfl rfl (Gd.yes rfl rfl rfl) (Yd.fieldAddr rfl fo_37_2) ?_
  refine SL.val rfl rfl (Gd.yes rfl rfl rfl) ((by first | exact Yd.load rfl ag_2 (Wd.cell (i := 0) rfl rfl) | exact Yd.load rfl ag_2 (Wd.cell (i := 1) rfl rfl) | exact Yd.load rfl ag_2 (Wd.cell (i := 2) rfl rfl) | exact Yd.load rfl ag_2 (Wd.cell (i := 3) rfl rfl) | exact Yd.load rfl ag_2 (Wd.cell (i := 4) rfl rfl) | exact Yd.load rfl ag_2 (Wd.cell (i := 5) rfl rfl) | exact Yd.load rfl ag_2 (Wd.inpA hb (by simp) hcs'))) ?_
  refine SL.val rfl rfl (Gd.yes rfl rfl rfl) (Yd.fieldAddr rfl fo_37_1) ?_
  refine SL.val rfl rfl (Gd.yes rfl rfl rfl) ((by first | exact Yd.load rfl ag_2 (Wd.cell (i := 0) rfl rfl) | exact Yd.load rfl ag_2 (Wd.cell (i := 1) rfl rfl) | exact Yd.load rfl ag_2 (Wd.cell (i := 2) rfl rfl) | exact Yd.load rfl ag_2 (Wd.cell (i := 3) rfl rfl) | exact Yd.load rfl ag_2 (Wd.cell (i := 4) rfl rfl) | exact Yd.load rfl ag_2 (Wd.cell (i := 5) rfl rfl) | exact Yd.load rfl ag_2 (Wd.inpA hb (by simp) hcs'))) ?_
  refine SL.val rfl rfl (Gd.yes rfl rfl rfl) (Yd.geq rfl rfl) ?_
  refine SL.val rfl rfl (Gd.g0 rfl) ((by first | exact Yd.pickT rfl rfl | exact Yd.pickF rfl rfl | exact Yd.pickB rfl rfl rfl)) ?_
  refine SL.val rfl rfl (Gd.g0 rfl) (Yd.move rfl) ?_
  refine SL.splitD (dj := 72) rfl (fun hg72 => ?_) (fun hg72 => ?_)
  refine SL.unw rfl rfl (Gd.no rfl rfl rfl rfl) ?_
  refine SL.unw rfl rfl (Gd.no rfl rfl rfl rfl) ?_
  refine SL.unw rfl rfl (Gd.no rfl rfl rfl rfl) ?_
  refine SL.val rfl rfl (Gd.g0 rfl) ((by first | exact Yd.pickT rfl rfl | exact Yd.pickF rfl rfl | exact Yd.pickB rfl rfl rfl)) ?_
  refine SL.val rfl rfl (Gd.g0 rfl) (Yd.move rfl) ?_
  refine SL.unw rfl rfl (Gd.no rfl rfl rfl rfl) ?_
  refine SL.unw rfl rfl (Gd.no rfl rfl rfl rfl) ?_
  refine SL.unw rfl rfl (Gd.no rfl rfl rfl rfl) ?_
  refine SL.unw rfl rfl (Gd.no rfl rfl rfl rfl) ?_
  refine SL.unw rfl rfl (Gd.no rfl rfl rfl rfl) ?_
  refine SL.val rfl rfl (Gd.g0 rfl) ((by first | exact Yd.pickT rfl rfl | exact Yd.pickF rfl rfl | exact Yd.pickB rfl rfl rfl)) ?_
  refine SL.val rfl rfl (Gd.g0 rfl) (Yd.move rfl) ?_
  refine SL.unw rfl rfl (Gd.no rfl rfl rfl rfl) ?_
  refine SL.unw rfl rfl (Gd.no rfl rfl rfl rfl) ?_
  refine SL.unw rfl rfl (Gd.no rfl rfl rfl rfl) ?_
  refine SL.val rfl rfl (Gd.g0 rfl) ((by first | exact Yd.pickT rfl rfl | exact Yd.pickF rfl rfl | exact Yd.pickB rfl rfl rfl)) ?_
  refine SL.val rfl rfl (Gd.g0 rfl) (Yd.move rfl) ?_
  refine SL.unw rfl rfl (Gd.no rfl rfl rfl rfl) ?_
  refine SL.unw rfl rfl (Gd.no rfl rfl rfl rfl) ?_
  refine SL.unw rfl rfl (Gd.no rfl rfl rfl rfl) ?_
  refine SL.unw rfl rfl (Gd.no rfl rfl rfl rfl) ?_
  refine SL.unw rfl rfl (Gd.no rfl rfl rfl rfl) ?_
  refine SL.val rfl rfl (Gd.g0 rfl) ((by first | exact Yd.pickT rfl rfl | exact Yd.pickF rfl rfl | exact Yd.pickB rfl rfl rfl)) ?_
  refine SL.val rfl rfl (Gd.g0 rfl) (Yd.move rfl) ?_
  refine SL.unw rfl rfl (Gd.no rfl rfl rfl rfl) ?_
  refine SL.unw rfl rfl (Gd.no rfl rfl rfl rfl) ?_
  refine SL.unw rfl rfl (Gd.no rfl rfl rfl rfl) ?_
  refine SL.val rfl rfl (Gd.g0 rfl) ((by first | exact Yd.pickT rfl rfl | exact Yd.pickF rfl rfl | exact Yd.pickB rfl rfl rfl)) ?_
  first | refine SL.nil_then ?_ | refine SL.nil ?_
  rotate_left
  refine SL.val rfl rfl (Gd.yes rfl rfl rfl) (Yd.fieldAddr rfl fo_37_3) ?_
  refine SL.val rfl rfl (Gd.yes rfl rfl rfl) ((by first | exact Yd.load rfl ag_2 (Wd.cell (i := 0) rfl rfl) | exact Yd.load rfl ag_2 (Wd.cell (i := 1) rfl rfl) | exact Yd.load rfl ag_2 (Wd.cell (i := 2) rfl rfl) | exact Yd.load rfl ag_2 (Wd.cell (i := 3) rfl rfl) | exact Yd.load rfl ag_2 (Wd.cell (i := 4) rfl rfl) | exact Yd.load rfl ag_2 (Wd.cell (i := 5) rfl rfl) | exact Yd.load rfl ag_2 (Wd.inpA hb (by simp) hcs'))) ?_
  refine SL.val rfl rfl (Gd.yes rfl rfl rfl) (Yd.lss rfl rfl) ?_
  refine SL.val rfl rfl (Gd.g0 rfl) ((by first | exact Yd.pickT rfl rfl | exact Yd.pickF rfl rfl | exact Yd.pickB rfl rfl rfl)) ?_
  refine SL.val rfl rfl (Gd.g0 rfl) (Yd.move rfl) ?_
  refine SL.splitD (dj := 77) rfl (fun hg77 => ?_) (fun hg77 => ?_)
  refine SL.unw rfl rfl (Gd.no rfl rfl rfl rfl) ?_
  refine SL.unw rfl rfl (Gd.no rfl rfl rfl rfl) ?_
  refine SL.unw rfl rfl (Gd.no rfl rfl rfl rfl) ?_
  refine SL.unw rfl rfl (Gd.no rfl rfl rfl rfl) ?_
  refine SL.unw rfl rfl (Gd.no rfl rfl rfl rfl) ?_
  refine SL.val rfl rfl (Gd.g0 rfl) ((by first | exact Yd.pickT rfl rfl | exact Yd.pickF rfl rfl | exact Yd.pickB rfl rfl rfl)) ?_
  refine SL.val rfl rfl (Gd.g0 rfl) (Yd.move rfl) ?_
  refine SL.unw rfl rfl (Gd.no rfl rfl rfl rfl) ?_
  refine SL.unw rfl rfl (Gd.no rfl rfl rfl rfl) ?_
  refine SL.unw rfl rfl (Gd.no rfl rfl rfl rfl) ?_
  refine SL.val rfl rfl (Gd.g0 rfl) ((by first | exact Yd.pickT rfl rfl | exact Yd.pickF rfl rfl | exact Yd.pickB rfl rfl rfl)) ?_
  refine SL.val rfl rfl (Gd.g0 rfl) (Yd.move rfl) ?_
  refine SL.unw rfl rfl (Gd.no rfl rfl rfl rfl) ?_
  refine SL.unw rfl rfl (Gd.no rfl rfl rfl rfl) ?_
  refine SL.unw rfl rfl (Gd.no rfl rfl rfl rfl) ?_
  refine SL.unw rfl rfl (Gd.no rfl rfl rfl rfl) ?_
  refine SL.unw rfl rfl (Gd.no rfl rfl rfl rfl) ?_
  refine SL.val rfl rfl (Gd.g0 rfl) ((by first | exact Yd.pickT rfl rfl | exact Yd.pickF rfl rfl | exact Yd.pickB rfl rfl rfl)) ?_
  refine SL.val rfl rfl (Gd.g0 rfl) (Yd.move rfl) ?_
  refine SL.unw rfl rfl (Gd.no rfl rfl rfl rfl) ?_
  refine SL.unw rfl rfl (Gd.no rfl rfl rfl rfl) ?_
  refine SL.unw rfl rfl (Gd.no rfl rfl rfl rfl) ?_
  refine SL.val rfl rfl (Gd.g0 rfl) ((by first | exact Yd.pickT rfl rfl | exact Yd.pickF rfl rfl | exact Yd.pickB rfl rfl rfl)) ?_
  first | refine SL.nil_then ?_ | refine SL.nil ?_
  rotate_left
  refine SL.val rfl rfl (Gd.yes rfl rfl rfl) (Yd.fieldAddr rfl fo_37_3) ?_
  refine SL.val rfl rfl (Gd.yes rfl rfl rfl) ((by first | exact Yd.load rfl ag_2 (Wd.cell (i := 0) rfl rfl) | exact Yd.load rfl ag_2 (Wd.cell (i := 1) rfl rfl) | exact Yd.load rfl ag_2 (Wd.cell (i := 2) rfl rfl) | exact Yd.load rfl ag_2 (Wd.cell (i := 3) rfl rfl) | exact Yd.load rfl ag_2 (Wd.cell (i := 4) rfl rfl) | exact Yd.load rfl ag_2 (Wd.cell (i := 5) rfl rfl) | exact Yd.load rfl ag_2 (Wd.inpA hb (by simp) hcs'))) ?_
  refine SL.val rfl rfl (Gd.yes rfl rfl rfl) (Yd.fieldAddr rfl fo_37_1) ?_
  refine SL.val rfl rfl (Gd.yes rfl rfl rfl) ((by first | exact Yd.load rfl ag_2 (Wd.cell (i := 0) rfl rfl) | exact Yd.load rfl ag_2 (Wd.cell (i := 1) rfl rfl) | exact Yd.load rfl ag_2 (Wd.cell (i := 2) rfl rfl) | exact Yd.load rfl ag_2 (Wd.cell (i := 3) rfl rfl) | exact Yd.load rfl ag_2 (Wd.cell (i := 4) rfl rfl) | exact Yd.load rfl ag_2 (Wd.cell (i := 5) rfl rfl) | exact Yd.load rfl ag_2 (Wd.inpA hb (by simp) hcs'))) ?_
  refine SL.val rfl rfl (Gd.yes rfl rfl rfl) (Yd.gtr rfl rfl) ?_
  refine SL.val rfl rfl (Gd.g0 rfl) ((by first | exact Yd.pickT rfl rfl | exact Yd.pickF rfl rfl | exact Yd.pickB rfl rfl rfl)) ?_
  refine SL.val rfl rfl (Gd.g0 rfl) (Yd.move rfl) ?_
  refine SL.splitD (dj := 84) rfl (fun hg84 => ?_) (fun hg84 => ?_)
  refine SL.unw rfl rfl (Gd.no rfl rfl rfl rfl) ?_
  refine SL.unw rfl rfl (Gd.no rfl rfl rfl rfl) ?_
  refine SL.unw rfl rfl (Gd.no rfl rfl rfl rfl) ?_
  refine SL.val rfl rfl (Gd.g0 rfl) ((by first | exact Yd.pickT rfl rfl | exact Yd.pickF rfl rfl | exact Yd.pickB rfl rfl rfl)) ?_
  refine SL.val rfl rfl (Gd.g0 rfl) (Yd.move rfl) ?_
  refine SL.unw rfl rfl (Gd.no rfl rfl rfl rfl) ?_
  refine SL.unw rfl rfl (Gd.no rfl rfl rfl rfl) ?_
  refine SL.unw rfl rfl (Gd.no rfl rfl rfl rfl) ?_
  refine SL.unw rfl rfl (Gd.no rfl rfl rfl rfl) ?_
  refine SL.unw rfl rfl (Gd.no rfl rfl rfl rfl) ?_
  refine SL.val rfl rfl (Gd.g0 rfl) ((by first | exact Yd.pickT rfl rfl | exact Yd.pickF rfl rfl | exact Yd.pickB rfl rfl rfl)) ?_
  refine SL.val rfl rfl (Gd.g0 rfl) (Yd.move rfl) ?_
  refine SL.unw rfl rfl (Gd.no rfl rfl rfl rfl) ?_
  refine SL.unw rfl rfl (Gd.no rfl rfl rfl rfl) ?_
  refine SL.unw rfl rfl (Gd.no rfl rfl rfl rfl) ?_
  refine SL.val rfl rfl (Gd.g0 rfl) ((by first | exact Yd.pickT rfl rfl | exact Yd.pickF rfl rfl | exact Yd.pickB rfl rfl rfl)) ?_
  first | refine SL.nil_then ?_ | refine SL.nil ?_
  rotate_left
  refine SL.val rfl rfl (Gd.yes rfl rfl rfl) (Yd.fieldAddr rfl fo_37_4) ?_
  refine SL.val rfl rfl (Gd.yes rfl rfl rfl) ((by first | exact Yd.load rfl ag_2 (Wd.cell (i := 0) rfl rfl) | exact Yd.load rfl ag_2 (Wd.cell (i := 1) rfl rfl) | exact Yd.load rfl ag_2 (Wd.cell (i := 2) rfl rfl) | exact Yd.load rfl ag_2 (Wd.cell (i := 3) rfl rfl) | exact Yd.load rfl ag_2 (Wd.cell (i := 4) rfl rfl) | exact Yd.load rfl ag_2 (Wd.cell (i := 5) rfl rfl) | exact Yd.load rfl ag_2 (Wd.inpA hb (by simp) hcs'))) ?_
  refine SL.val rfl rfl (Gd.yes rfl rfl rfl) (Yd.lss rfl rfl) ?_
  refine SL.val rfl rfl (Gd.g0 rfl) ((by first | exact Yd.pickT rfl rfl | exact Yd.pickF rfl rfl | exact Yd.pickB rfl rfl rfl)) ?_
  refine SL.val rfl rfl (Gd.g0 rfl) (Yd.move rfl) ?_
  refine SL.splitD (dj := 89) rfl (fun hg89 => ?_) (fun hg89 => ?_)
  refine SL.unw rfl rfl (Gd.no rfl rfl rfl rfl) ?_
  refine SL.unw rfl rfl (Gd.no rfl rfl rfl rfl) ?_
  refine SL.unw rfl rfl (Gd.no rfl rfl rfl rfl) ?_
  refine SL.unw rfl rfl (Gd.no rfl rfl rfl rfl) ?_
  refine SL.unw rfl rfl (Gd.no rfl rfl rfl rfl) ?_
  refine SL.val rfl rfl (Gd.g0 rfl) ((by first | exact Yd.pickT rfl rfl | exact Yd.pickF rfl rfl | exact Yd.pickB rfl rfl rfl)) ?_
  refine SL.val rfl rfl (Gd.g0 rfl) (Yd.move rfl) ?_
  refine SL.unw rfl rfl (Gd.no rfl rfl rfl rfl) ?_
  refine SL.unw rfl rfl (Gd.no rfl rfl rfl rfl) ?_
  refine SL.unw rfl rfl (Gd.no rfl rfl rfl rfl) ?_
  refine SL.val rfl rfl (Gd.g0 rfl) ((by first | exact Yd.pickT rfl rfl | exact Yd.pickF rfl rfl | exact Yd.pickB rfl rfl rfl)) ?_
  first | refine SL.nil_then ?_ | refine SL.nil ?_
  rotate_left
  refine SL.val rfl rfl (Gd.yes rfl rfl rfl) (Yd.fieldAddr rfl fo_37_4) ?_
  refine SL.val rfl rfl (Gd.yes rfl rfl rfl) ((by first | exact Yd.load rfl ag_2 (Wd.cell (i := 0) rfl rfl) | exact Yd.load rfl ag_2 (Wd.cell (i := 1) rfl rfl) | exact Yd.load rfl ag_2 (Wd.cell (i := 2) rfl rfl) | exact Yd.load rfl ag_2 (Wd.cell (i := 3) rfl rfl) | exact Yd.load rfl ag_2 (Wd.cell (i := 4) rfl rfl) | exact Yd.load rfl ag_2 (Wd.cell (i := 5) rfl rfl) | exact Yd.load rfl ag_2 (Wd.inpA hb (by simp) hcs'))) ?_
  refine SL.val rfl rfl (Gd.yes rfl rfl rfl) (Yd.fieldAddr rfl fo_37_3) ?_
  refine SL.val rfl rfl (Gd.yes rfl rfl rfl) ((by first | exact Yd.load rfl ag_2 (Wd.cell (i := 0) rfl rfl) | exact Yd.load rfl ag_2 (Wd.cell (i := 1) rfl rfl) | exact Yd.load rfl ag_2 (Wd.cell (i := 2) rfl rfl) | exact Yd.load rfl ag_2 (Wd.cell (i := 3) rfl rfl) | exact Yd.load rfl ag_2 (Wd.cell (i := 4) rfl rfl) | exact Yd.load rfl ag_2 (Wd.cell (i := 5) rfl rfl) | exact Yd.load rfl ag_2 (Wd.inpA hb (by simp) hcs'))) ?_
  refine SL.val rfl rfl (Gd.yes rfl rfl rfl) (Yd.gtr rfl rfl) ?_
  refine SL.val rfl rfl (Gd.g0 rfl) ((by first | exact Yd.pickT rfl rfl | exact Yd.pickF rfl rfl | exact Yd.pickB rfl rfl rfl)) ?_
  refine SL.val rfl rfl (Gd.g0 rfl) (Yd.move rfl) ?_
  refine SL.splitD (dj := 96) rfl (fun hg96 => ?_) (fun hg96 => ?_)
  refine SL.unw rfl rfl (Gd.no rfl rfl rfl rfl) ?_
  refine SL.unw rfl rfl (Gd.no rfl rfl rfl rfl) ?_
  refine SL.unw rfl rfl (Gd.no rfl rfl rfl rfl) ?_
  refine SL.val rfl rfl (Gd.g0 rfl) ((by first | exact Yd.pickT rfl rfl | exact Yd.pickF rfl rfl | exact Yd.pickB rfl rfl rfl)) ?_
  first | refine SL.nil_then ?_ | refine SL.nil ?_
  rotate_left
  refine SL.val rfl rfl (Gd.yes rfl rfl rfl) ((by first | exact Yd.loadR (i := 0) rfl ag_37 rfl rfl | exact Yd.loadR (i := 1) rfl ag_37 rfl rfl | exact Yd.loadR (i := 2) rfl ag_37 rfl rfl | exact Yd.loadR (i := 3) rfl ag_37 rfl rfl | exact Yd.loadR (i := 4) rfl ag_37 rfl rfl | exact Yd.loadR (i := 5) rfl ag_37 rfl rfl | exact Yd.loadA rfl ag_37 rfl (Wd.inpA hb (by simp) hcs'))) ?_
  refine SL.callX (V := .bool) rfl rfl (Gd.yes rfl rfl rfl) (Cll.func rfl cf_24) (I := fun b => sc.length = 0 → b = true) (fun w2 hw => hcl w2 hw.drop) (fun bs hbs => ?_)
  refine SL.val rfl rfl (Gd.yes rfl rfl rfl) (Yd.not rfl) ?_
  refine SL.val rfl rfl (Gd.g0 rfl) ((by first | exact Yd.pickT rfl rfl | exact Yd.pickF rfl rfl | exact Yd.pickB rfl rfl rfl)) ?_
  first | refine SL.nil_then ?_ | refine SL.nil ?_
  rotate_left
  rotate_right
  ·repeat (refine CW.seq ?_)
   refine CW.cond rfl (fun hb => ?_) (fun hb => ?_)
   ·repeat (refine CW.seq ?_)
    refine CW.region ?_
    refine SL.val rfl rfl (Gd.g0 rfl) (Yd.assign rfl) ?_
    first | refine SL.nil_then ?_ | refine SL.nil ?_
    refine CW.ret ?_
    repeat (first | refine EX.then_ret ?_ | refine EX.in_ret ?_)
    refine EX.out (rs := _) rfl (ResA.tmp rfl ResA.nil) (fun w2 hw => ?_) (by first | exact Or.inl rfl | exact Or.inr rfl)
    exact ⟨.inr ⟨HNL, .inl ⟨rfl, fun q => by have := hbs (Hsn q); subst this; cases hb⟩⟩, hw.drop.below⟩
   have hok : nm ≠ ⟨#[]⟩ ∧ (nm.size : Int) ≤ 16 ∧ 1 ≤ pr ∧ 1 ≤ T ∧ T ≤ 1000 ∧ 0 ≤ O ∧ O < T ∧ 1 ≤ D ∧ D ≤ T ∧ 1 ≤ C ∧ C ≤ D := ⟨hg39, by omega, by omega, by omega, by omega, by omega, by omega, by omega, by omega, by omega, by omega⟩
   refine CW.skip ?_
   repeat (first | refine EX.in_normal ?_)
   first | refine EX.then_normal ?_ | skip
   repeat (refine CW.seq ?_)
   refine CW.region ?_
   refine SL.val rfl rfl (Gd.g0 rfl) (Yd.assign rfl) ?_
   first | refine SL.nil_then ?_ | refine SL.nil ?_
   repeat (refine CW.seq ?_)
   refine CW.block ?_
   refine CW.loop (σ := Nat) (fun j => j ≤ i ∧ ∀ m, m < j → (tk ts m).nm ≠ nm ∧ (tk ts m).pr ≠ pr) (fun j => [(0, .slice (some ⟨b, off, none⟩) ts.length cap), (4, .int .i64 (i : Int)), (5, .pointer (some ⟨b5, 0, none⟩)), (6, .int .i64 (j : Int))]) (fun _ => Wd w [] [Rs.row b5 [Value.string nm, .int .i64 T, .int .i64 O, .int .i64 D, .int .i64 C, .int .i64 pr, .slice aos sc.length caps] 37]) (fun j => i - j) 0 ⟨by omega, fun j hj => by omega⟩ (Sub.cons rfl rfl (Sub.cons rfl rfl (Sub.cons rfl rfl (Sub.cons rfl rfl Sub.nil)))) (fun _ h => h) ?_
   intro j ⟨hj, hdiff⟩
   repeat (refine CW.seq ?_)
   refine CW.region ?_
   refine SL.val rfl rfl (Gd.g0 rfl) (Yd.move rfl) ?_
   refine SL.val rfl rfl (Gd.g0 rfl) (Yd.move rfl) ?_
   refine SL.val rfl rfl (Gd.g0 rfl) (Yd.lss rfl rfl) ?_
   first | refine SL.nil_then ?_ | refine SL.nil ?_
   repeat (refine CW.seq ?_)
   refine CW.condD rfl (fun hji => ?_) (fun hji => ?_)
   ·refine CW.skip ?_
    repeat (first | refine EX.in_normal ?_)
    first | refine EX.then_normal ?_ | skip
    have hjl : j < ts.length := by omega
    have hb' : b < w.heap.size := by assumption
    repeat (refine CW.seq ?_)
    refine CW.block ?_
    repeat (refine CW.seq ?_)
    refine CW.draw [(Tb w [], []), ((Rs.row b5 [Value.string nm, .int .i64 T, .int .i64 O, .int .i64 D, .int .i64 C, .int .i64 pr, .slice aos sc.length caps] 37).ok, [])] mixed (fun w hw => hw.drew) (fun w hw => ⟨(by first | exact fun _ => hw.tb | exact fun _ => hw.ok 0 _ rfl | exact fun _ => hw.ok 1 _ rfl | exact fun _ => hw.ok 2 _ rfl | exact fun _ => hw.ok 3 _ rfl | exact fun _ => hw.ok 4 _ rfl | exact fun _ => hw.ok 5 _ rfl | exact SG.gone (by kernel_rfl)), (by first | exact fun _ => hw.tb | exact fun _ => hw.ok 0 _ rfl | exact fun _ => hw.ok 1 _ rfl | exact fun _ => hw.ok 2 _ rfl | exact fun _ => hw.ok 3 _ rfl | exact fun _ => hw.ok 4 _ rfl | exact fun _ => hw.ok 5 _ rfl | exact SG.gone (by kernel_rfl)), trivial⟩) ?_
    refine DL.take 0 rfl (by kernel_rfl) (by kernel_rfl) (by kernel_rfl) (by kernel_rfl) (by kernel_rfl) rfl rfl (Gd.g0 rfl) (heldN 0) (Yd.move rfl) ?_
    refine DL.take 1 rfl (by kernel_rfl) (by kernel_rfl) (by kernel_rfl) (by kernel_rfl) (by kernel_rfl) rfl rfl (Gd.g0 rfl) (heldN 1) (Yd.move rfl) ?_
    refine DL.take 2 rfl (by kernel_rfl) (by kernel_rfl) (by kernel_rfl) (by kernel_rfl) (by kernel_rfl) rfl rfl (Gd.g0 rfl) (heldN 2) ((by first | exact Yd.indexSlN rfl rfl sl_22 (by omega) | exact Yd.indexSl rfl rfl sl_22 (by omega))) ?_
    refine DL.take 3 rfl (by kernel_rfl) (by kernel_rfl) (by kernel_rfl) (by kernel_rfl) (by kernel_rfl) rfl rfl (Gd.g0 rfl) (heldN 3) (Yd.fieldAddr rfl fo_37_0) ?_
    first | refine DL.take 4 rfl (by kernel_rfl) (by kernel_rfl) (by kernel_rfl) (by kernel_rfl) (by kernel_rfl) rfl rfl (Gd.g0 rfl) (held 4 1 rfl (by kernel_rfl)) (Yd.load rfl ag_9 (row_cell rfl)) ?_ | refine DL.take 4 rfl (by kernel_rfl) (by kernel_rfl) (by kernel_rfl) (by kernel_rfl) (by kernel_rfl) rfl rfl (Gd.g0 rfl) (held 4 2 rfl (by kernel_rfl)) (Yd.load rfl ag_9 (row_cell rfl)) ?_ | refine DL.take 4 rfl (by kernel_rfl) (by kernel_rfl) (by kernel_rfl) (by kernel_rfl) (by kernel_rfl) rfl rfl (Gd.g0 rfl) (held 4 3 rfl (by kernel_rfl)) (Yd.load rfl ag_9 (row_cell rfl)) ?_ | refine DL.take 4 rfl (by kernel_rfl) (by kernel_rfl) (by kernel_rfl) (by kernel_rfl) (by kernel_rfl) rfl rfl (Gd.g0 rfl) (held 4 4 rfl (by kernel_rfl)) (Yd.load rfl ag_9 (row_cell rfl)) ?_ | refine DL.take 4 rfl (by kernel_rfl) (by kernel_rfl) (by kernel_rfl) (by kernel_rfl) (by kernel_rfl) rfl rfl (Gd.g0 rfl) (held 4 5 rfl (by kernel_rfl)) (Yd.load rfl ag_9 (row_cell rfl)) ?_ | refine DL.take 4 rfl (by kernel_rfl) (by kernel_rfl) (by kernel_rfl) (by kernel_rfl) (by kernel_rfl) rfl rfl (Gd.g0 rfl) (held 4 0 rfl (by kernel_rfl)) (Yd.load rfl ag_9 (Tb.inp hb' (by simp) (hc j hjl _ _ rfl))) ?_
    refine DL.take 5 rfl (by kernel_rfl) (by kernel_rfl) (by kernel_rfl) (by kernel_rfl) (by kernel_rfl) rfl rfl (Gd.g0 rfl) (heldN 5) (Yd.fieldAddr rfl fo_37_0) ?_
    first | refine DL.take 6 rfl (by kernel_rfl) (by kernel_rfl) (by kernel_rfl) (by kernel_rfl) (by kernel_rfl) rfl rfl (Gd.g0 rfl) (held 6 1 rfl (by kernel_rfl)) (Yd.load rfl ag_9 (row_cell rfl)) ?_ | refine DL.take 6 rfl (by kernel_rfl) (by kernel_rfl) (by kernel_rfl) (by kernel_rfl) (by kernel_rfl) rfl rfl (Gd.g0 rfl) (held 6 2 rfl (by kernel_rfl)) (Yd.load rfl ag_9 (row_cell rfl)) ?_ | refine DL.take 6 rfl (by kernel_rfl) (by kernel_rfl) (by kernel_rfl) (by kernel_rfl) (by kernel_rfl) rfl rfl (Gd.g0 rfl) (held 6 3 rfl (by kernel_rfl)) (Yd.load rfl ag_9 (row_cell rfl)) ?_ | refine DL.take 6 rfl (by kernel_rfl) (by kernel_rfl) (by kernel_rfl) (by kernel_rfl) (by kernel_rfl) rfl rfl (Gd.g0 rfl) (held 6 4 rfl (by kernel_rfl)) (Yd.load rfl ag_9 (row_cell rfl)) ?_ | refine DL.take 6 rfl (by kernel_rfl) (by kernel_rfl) (by kernel_rfl) (by kernel_rfl) (by kernel_rfl) rfl rfl (Gd.g0 rfl) (held 6 5 rfl (by kernel_rfl)) (Yd.load rfl ag_9 (row_cell rfl)) ?_ | refine DL.take 6 rfl (by kernel_rfl) (by kernel_rfl) (by kernel_rfl) (by kernel_rfl) (by kernel_rfl) rfl rfl (Gd.g0 rfl) (held 6 0 rfl (by kernel_rfl)) (Yd.load rfl ag_9 (Tb.inp hb' (by simp) (hc j hjl _ _ rfl))) ?_
    refine DL.take 7 rfl (by kernel_rfl) (by kernel_rfl) (by kernel_rfl) (by kernel_rfl) (by kernel_rfl) rfl rfl (Gd.g0 rfl) (heldN 7) (Yd.eqlS rfl rfl) ?_
    refine DL.take 8 rfl (by kernel_rfl) (by kernel_rfl) (by kernel_rfl) (by kernel_rfl) (by kernel_rfl) rfl rfl (Gd.g0 rfl) (heldN 8) (Yd.move rfl) ?_
    refine DL.splitD (dj := 114) rfl (fun hg114 => ?_) (fun hg114 => ?_)
    refine DL.takeN 9 rfl (by kernel_rfl) (by kernel_rfl) (by kernel_rfl) (by kernel_rfl) (by kernel_rfl) rfl rfl (Gd.no rfl rfl rfl rfl) ?_
    refine DL.takeN 10 rfl (by kernel_rfl) (by kernel_rfl) (by kernel_rfl) (by kernel_rfl) (by kernel_rfl) rfl rfl (Gd.no rfl rfl rfl rfl) ?_
    refine DL.takeN 11 rfl (by kernel_rfl) (by kernel_rfl) (by kernel_rfl) (by kernel_rfl) (by kernel_rfl) rfl rfl (Gd.no rfl rfl rfl rfl) ?_
    refine DL.takeN 12 rfl (by kernel_rfl) (by kernel_rfl) (by kernel_rfl) (by kernel_rfl) (by kernel_rfl) rfl rfl (Gd.no rfl rfl rfl rfl) ?_
    refine DL.takeN 13 rfl (by kernel_rfl) (by kernel_rfl) (by kernel_rfl) (by kernel_rfl) (by kernel_rfl) rfl rfl (Gd.no rfl rfl rfl rfl) ?_
    refine DL.takeN 14 rfl (by kernel_rfl) (by kernel_rfl) (by kernel_rfl) (by kernel_rfl) (by kernel_rfl) rfl rfl (Gd.no rfl rfl rfl rfl) ?_
    refine DL.takeN 15 rfl (by kernel_rfl) (by kernel_rfl) (by kernel_rfl) (by kernel_rfl) (by kernel_rfl) rfl rfl (Gd.no rfl rfl rfl rfl) ?_
    refine DL.takeN 16 rfl (by kernel_rfl) (by kernel_rfl) (by kernel_rfl) (by kernel_rfl) (by kernel_rfl) rfl rfl (Gd.no rfl rfl rfl rfl) ?_
    refine DL.take 17 rfl (by kernel_rfl) (by kernel_rfl) (by kernel_rfl) (by kernel_rfl) (by kernel_rfl) rfl rfl (Gd.g0 rfl) (heldN 17) ((by first | exact Yd.pickT rfl rfl | exact Yd.pickF rfl rfl | exact Yd.pickB rfl rfl rfl)) ?_
    refine DL.done (by kernel_rfl) ?_
    first | refine EX.then_normal ?_ | skip
    rotate_left
    refine DL.take 9 rfl (by kernel_rfl) (by kernel_rfl) (by kernel_rfl) (by kernel_rfl) (by kernel_rfl) rfl rfl (Gd.yes rfl rfl rfl) (heldN 9) (Yd.move rfl) ?_
    refine DL.take 10 rfl (by kernel_rfl) (by kernel_rfl) (by kernel_rfl) (by kernel_rfl) (by kernel_rfl) rfl rfl (Gd.yes rfl rfl rfl) (heldN 10) (Yd.move rfl) ?_
    refine DL.take 11 rfl (by kernel_rfl) (by kernel_rfl) (by kernel_rfl) (by kernel_rfl) (by kernel_rfl) rfl rfl (Gd.yes rfl rfl rfl) (heldN 11) ((by first | exact Yd.indexSlN rfl rfl sl_22 (by omega) | exact Yd.indexSl rfl rfl sl_22 (by omega))) ?_
    refine DL.take 12 rfl (by kernel_rfl) (by kernel_rfl) (by kernel_rfl) (by kernel_rfl) (by kernel_rfl) rfl rfl (Gd.yes rfl rfl rfl) (heldN 12) (Yd.fieldAddr rfl fo_37_5) ?_
    first | refine DL.take 13 rfl (by kernel_rfl) (by kernel_rfl) (by kernel_rfl) (by kernel_rfl) (by kernel_rfl) rfl rfl (Gd.yes rfl rfl rfl) (held 13 1 rfl (by kernel_rfl)) (Yd.load rfl ag_3 (row_cell rfl)) ?_ | refine DL.take 13 rfl (by kernel_rfl) (by kernel_rfl) (by kernel_rfl) (by kernel_rfl) (by kernel_rfl) rfl rfl (Gd.yes rfl rfl rfl) (held 13 2 rfl (by kernel_rfl)) (Yd.load rfl ag_3 (row_cell rfl)) ?_ | refine DL.take 13 rfl (by kernel_rfl) (by kernel_rfl) (by kernel_rfl) (by kernel_rfl) (by kernel_rfl) rfl rfl (Gd.yes rfl rfl rfl) (held 13 3 rfl (by kernel_rfl)) (Yd.load rfl ag_3 (row_cell rfl)) ?_ | refine DL.take 13 rfl (by kernel_rfl) (by kernel_rfl) (by kernel_rfl) (by kernel_rfl) (by kernel_rfl) rfl rfl (Gd.yes rfl rfl rfl) (held 13 4 rfl (by kernel_rfl)) (Yd.load rfl ag_3 (row_cell rfl)) ?_ | refine DL.take 13 rfl (by kernel_rfl) (by kernel_rfl) (by kernel_rfl) (by kernel_rfl) (by kernel_rfl) rfl rfl (Gd.yes rfl rfl rfl) (held 13 5 rfl (by kernel_rfl)) (Yd.load rfl ag_3 (row_cell rfl)) ?_ | refine DL.take 13 rfl (by kernel_rfl) (by kernel_rfl) (by kernel_rfl) (by kernel_rfl) (by kernel_rfl) rfl rfl (Gd.yes rfl rfl rfl) (held 13 0 rfl (by kernel_rfl)) (Yd.load rfl ag_3 (Tb.inp hb' (by simp) (hc j hjl _ _ rfl))) ?_
    refine DL.take 14 rfl (by kernel_rfl) (by kernel_rfl) (by kernel_rfl) (by kernel_rfl) (by kernel_rfl) rfl rfl (Gd.yes rfl rfl rfl) (heldN 14) (Yd.fieldAddr rfl fo_37_5) ?_
    first | refine DL.take 15 rfl (by kernel_rfl) (by kernel_rfl) (by kernel_rfl) (by kernel_rfl) (by kernel_rfl) rfl rfl (Gd.yes rfl rfl rfl) (held 15 1 rfl (by kernel_rfl)) (Yd.load rfl ag_3 (row_cell rfl)) ?_ | refine DL.take 15 rfl (by kernel_rfl) (by kernel_rfl) (by kernel_rfl) (by kernel_rfl) (by kernel_rfl) rfl rfl (Gd.yes rfl rfl rfl) (held 15 2 rfl (by kernel_rfl)) (Yd.load rfl ag_3 (row_cell rfl)) ?_ | refine DL.take 15 rfl (by kernel_rfl) (by kernel_rfl) (by kernel_rfl) (by kernel_rfl) (by kernel_rfl) rfl rfl (Gd.yes rfl rfl rfl) (held 15 3 rfl (by kernel_rfl)) (Yd.load rfl ag_3 (row_cell rfl)) ?_ | refine DL.take 15 rfl (by kernel_rfl) (by kernel_rfl) (by kernel_rfl) (by kernel_rfl) (by kernel_rfl) rfl rfl (Gd.yes rfl rfl rfl) (held 15 4 rfl (by kernel_rfl)) (Yd.load rfl ag_3 (row_cell rfl)) ?_ | refine DL.take 15 rfl (by kernel_rfl) (by kernel_rfl) (by kernel_rfl) (by kernel_rfl) (by kernel_rfl) rfl rfl (Gd.yes rfl rfl rfl) (held 15 5 rfl (by kernel_rfl)) (Yd.load rfl ag_3 (row_cell rfl)) ?_ | refine DL.take 15 rfl (by kernel_rfl) (by kernel_rfl) (by kernel_rfl) (by kernel_rfl) (by kernel_rfl) rfl rfl (Gd.yes rfl rfl rfl) (held 15 0 rfl (by kernel_rfl)) (Yd.load rfl ag_3 (Tb.inp hb' (by simp) (hc j hjl _ _ rfl))) ?_
    refine DL.take 16 rfl (by kernel_rfl) (by kernel_rfl) (by kernel_rfl) (by kernel_rfl) (by kernel_rfl) rfl rfl (Gd.yes rfl rfl rfl) (heldN 16) (Yd.eql rfl rfl) ?_
    refine DL.take 17 rfl (by kernel_rfl) (by kernel_rfl) (by kernel_rfl) (by kernel_rfl) (by kernel_rfl) rfl rfl (Gd.g0 rfl) (heldN 17) ((by first | exact Yd.pickT rfl rfl | exact Yd.pickF rfl rfl | exact Yd.pickB rfl rfl rfl)) ?_
    refine DL.done (by kernel_rfl) ?_
    first | refine EX.then_normal ?_ | skip
    rotate_left
    ·repeat (refine CW.seq ?_)
     refine CW.condT rfl ?_
     repeat (refine CW.seq ?_)
     refine CW.region ?_
     refine SL.val rfl rfl (Gd.g0 rfl) (Yd.assign rfl) ?_
     first | refine SL.nil_then ?_ | refine SL.nil ?_
     refine CW.ret ?_
     repeat (first | refine EX.then_ret ?_ | refine EX.in_ret ?_)
     refine EX.out (rs := _) rfl (ResA.tmp rfl ResA.nil) (fun w2 hw => ?_) (by first | exact Or.inl rfl | exact Or.inr rfl)
     exact ⟨.inr ⟨HNL, .inl ⟨rfl, fun _ q => ((q.2 i hlt).2 j (by omega)).1 (by rw [ht]; exact hg114)⟩⟩, hw.drop.below⟩
    ·repeat (refine CW.seq ?_)
     refine CW.condD rfl (fun hpr => ?_) (fun hpr => ?_)
     ·repeat (refine CW.seq ?_)
      refine CW.region ?_
      refine SL.val rfl rfl (Gd.g0 rfl) (Yd.assign rfl) ?_
      first | refine SL.nil_then ?_ | refine SL.nil ?_
      refine CW.ret ?_
      repeat (first | refine EX.then_ret ?_ | refine EX.in_ret ?_)
      refine EX.out (rs := _) rfl (ResA.tmp rfl ResA.nil) (fun w2 hw => ?_) (by first | exact Or.inl rfl | exact Or.inr rfl)
      exact ⟨.inr ⟨HNL, .inl ⟨rfl, fun _ q => ((q.2 i hlt).2 j (by omega)).2 (by rw [ht]; exact hpr)⟩⟩, hw.drop.below⟩
     refine CW.skip ?_
     repeat (first | refine EX.in_normal ?_)
     first | refine EX.then_normal ?_ | skip
     repeat (refine CW.seq ?_)
     refine CW.region ?_
     refine SL.val rfl rfl (Gd.g0 rfl) (Yd.move rfl) ?_
     refine SL.val rfl rfl (Gd.g0 rfl) ((by first | exact Yd.inc rfl (by omega) | exact Yd.add rfl rfl (by omega) | exact Yd.addW rfl rfl)) ?_
     refine SL.val rfl rfl (Gd.g0 rfl) (Yd.assign rfl) ?_
     first | refine SL.nil_then ?_ | refine SL.nil ?_
     refine EX.round (j + 1) ⟨by omega, fun m hm => by
      by_cases e : m = j
      ·subst e; exact ⟨hg114, hpr⟩
      ·exact hdiff m (by omega)⟩ (by omega) (Sub.cons rfl rfl (Sub.cons rfl rfl (Sub.cons rfl rfl (Sub.cons rfl rfl Sub.nil)))) (fun _ h => h)
   refine CW.exit ?_
   repeat (first | refine EX.then_exit ?_ | refine EX.in_exit rfl ?_ | refine EX.in_exit_ne rfl ?_)
   first | refine EX.then_normal ?_ | skip
   repeat (first | refine EX.in_normal ?_)
   first | refine EX.then_normal ?_ | skip
   repeat (refine CW.seq ?_)
   refine CW.region ?_
   refine SL.val rfl rfl (Gd.g0 rfl) (Yd.move rfl) ?_
   refine SL.val rfl rfl (Gd.g0 rfl) ((by first | exact Yd.inc rfl (by omega) | exact Yd.add rfl rfl (by omega) | exact Yd.addW rfl rfl)) ?_
   refine SL.val rfl rfl (Gd.g0 rfl) (Yd.assign rfl) ?_
   first | refine SL.nil_then ?_ | refine SL.nil ?_
   refine EX.round (i + 1) ⟨by omega, fun m hm => by
    by_cases e : m = i
    ·subst e; rw [ht]; exact ⟨hok, fun j' hj' => hdiff j' (by omega)⟩
    ·exact hval m (by omega)⟩ (by omega) (Sub.cons rfl rfl (Sub.cons rfl rfl Sub.nil)) (fun _ h => h.drop)
  all_goals
   repeat (refine CW.seq ?_)
   refine CW.condT rfl ?_
   repeat (refine CW.seq ?_)
   refine CW.region ?_
   refine SL.val rfl rfl (Gd.g0 rfl) (Yd.assign rfl) ?_
   first | refine SL.nil_then ?_ | refine SL.nil ?_
   refine CW.ret ?_
   repeat (first | refine EX.then_ret ?_ | refine EX.in_ret ?_)
   refine EX.out (rs := _) rfl (ResA.tmp rfl ResA.nil) (fun w2 hw => ?_) (by first | exact Or.inl rfl | exact Or.inr rfl)
   exact ⟨.inr ⟨HNL, .inl ⟨rfl, fun _ => Hbad (fun q => by obtain ⟨e1, e2, e3, e4, e5, e6, e7, e8, e9, e10, e11⟩ := q; dsimp only at *; first | contradiction | omega)⟩⟩, hw.drop.below⟩
 refine CW.exit ?_
 repeat (first | refine EX.then_exit ?_ | refine EX.in_exit rfl ?_ | refine EX.in_exit_ne rfl ?_)
 first | refine EX.then_normal ?_ | skip
 repeat (refine CW.seq ?_)
 refine CW.region ?_
 refine SL.val rfl rfl (Gd.g0 rfl) (Yd.assign rfl) ?_
 first | refine SL.nil_then ?_ | refine SL.nil ?_
 refine CW.ret ?_
 repeat (first | refine EX.then_ret ?_ | refine EX.in_ret ?_)
 refine EX.out (rs := _) rfl (ResA.tmp rfl ResA.nil) (fun w2 hw => ?_) (by first | exact Or.inl rfl | exact Or.inr rfl)
 exact ⟨.inr ⟨HNL, .inr ⟨rfl, by omega, by rw [show ts.length = i by omega]; exact hval⟩⟩, hw.below⟩
end Go.Proofs.Ytokljoajalmkfaa
