/- Part of the proof of stopwatch_explores_proved: Swl. -/
import Derived.Test.YtokljoajalmkfaaXeSwi
import Derived.Test.YtokljoajalmkfaaXeSwj
namespace Go.Proofs.Ytokljoajalmkfaa
open Go Go.RowKit
set_option linter.unusedVariables false
set_option linter.unusedSimpArgs false
set_option linter.unnecessarySimpa false
def nmsK (ts : List Tk) (k : Nat) : List ByteArray := (List.range k).map fun j => (tk ts j).nm
def prsK (ts : List Tk) (k : Nat) : List Int := (List.range k).map fun j => (tk ts j).pr
theorem nmsK_succ (ts : List Tk) (k : Nat) : nmsK ts (k + 1) = nmsK ts k ++ [(tk ts k).nm] := by simp [nmsK, List.range_succ]
theorem prsK_succ (ts : List Tk) (k : Nat) : prsK ts (k + 1) = prsK ts k ++ [(tk ts k).pr] := by simp [prsK, List.range_succ]
theorem nmsK_mem {ts : List Tk} {k : Nat} {s : ByteArray} : s ∈ nmsK ts k ↔ ∃ j, j < k ∧ (tk ts j).nm = s := by simp [nmsK]
theorem prsK_mem {ts : List Tk} {k : Nat} {s : Int} : s ∈ prsK ts k ↔ ∃ j, j < k ∧ (tk ts j).pr = s := by simp [prsK]
theorem wf64 {i : Int} (h1 : -9223372036854775808 ≤ i) (h2 : i ≤ 9223372036854775807) : (Lit.int .i64 i).wf = true := by
 simp only [Lit.wf, Bool.and_eq_true, decide_eq_true_eq]
 exact ⟨h1, h2⟩
def longK (ts : List Tk) (k : Nat) : Prop := 8 < ts.length ∨ ∃ j, j < k ∧ 4 < (tk ts j).sc.length
theorem longK_all {ts : List Tk} : longK ts ts.length ↔ longB ts := by unfold longK longB; rfl
set_option maxRecDepth 20000 in
set_option maxHeartbeats 8000000 in
theorem prog_check (v : Value) (ts : List Tk) (w : World) (hv : TsR w v ts) (hpr : ∀ k, k < ts.length → (tk ts k).pr ≤ 9223372036854775807) : Calls Try.prog 15 #[v] w fun e w' => ChkE ts e ∧ Below w.heap.size w w' := by
 obtain ⟨ao, cap, rfl, hle, h0⟩ := hv.1.cells
 refine calls_open Try.func15 rfl Try.ntmps15 rfl ?_
 dsimp only [argK]
 repeat (refine CW.seq ?_)
 refine CW.region ?_
 refine SL.val rfl rfl (Gd.g0 rfl) (Yd.assign rfl) ?_
 first | refine SL.nil_then ?_ | refine SL.nil ?_
 repeat (refine CW.seq ?_)
 refine CW.region ?_
 refine SL.val rfl rfl (Gd.g0 rfl) (Yd.move rfl) ?_
 refine SL.val rfl rfl (Gd.g0 rfl) (Yd.lenSl rfl isl_22) ?_
 refine SL.val rfl rfl (Gd.g0 rfl) (Yd.gtr rfl rfl) ?_
 refine SL.val rfl rfl (Gd.g0 rfl) (Yd.assign rfl) ?_
 first | refine SL.nil_then ?_ | refine SL.nil ?_
 repeat (refine CW.seq ?_)
 refine CW.region ?_
 refine SL.val rfl rfl (Gd.g0 rfl) (Yd.move rfl) ?_
 refine SL.val rfl rfl (Gd.g0 rfl) (Yd.lenSl rfl isl_22) ?_
 refine SL.val rfl rfl (Gd.g0 rfl) (Yd.move rfl) ?_
 first | refine SL.nil_then ?_ | refine SL.nil ?_
 repeat (refine CW.seq ?_)
 refine CW.block ?_
 refine CW.loop (σ := Nat × Bool) (fun s => s.1 ≤ ts.length ∧ (s.2 = true ↔ longK ts s.1)) (fun s => [(0, .slice ao ts.length cap), (3, .bool s.2), (13, .slice ao ts.length cap), (14, .int .i64 (ts.length : Int)), (15, .int .i64 (s.1 : Int))]) (fun _ => Wd w [] []) (fun s => ts.length - s.1) (0, decide ((8 : Int) < (ts.length : Int))) ⟨by omega, by
  rw [decide_eq_true_eq]; unfold longK
  exact ⟨fun h => .inl (by omega), fun h => by
   rcases h with h | ⟨j, h, _⟩
   ·omega
   ·omega⟩⟩ (Sub.cons rfl rfl (Sub.cons rfl rfl (Sub.cons rfl rfl (Sub.cons rfl rfl (Sub.cons rfl rfl Sub.nil))))) (fun _ h => h) ?_
 intro ⟨k, lb⟩ ⟨hk, hlb⟩
 dsimp only at hk hlb ⊢
 repeat (refine CW.seq ?_)
 refine CW.region ?_
 refine SL.val rfl rfl (Gd.g0 rfl) (Yd.lss rfl rfl) ?_
 first | refine SL.nil_then ?_ | refine SL.nil ?_
 repeat (refine CW.seq ?_)
 refine CW.condD rfl (fun hkn => ?_) (fun hkn => ?_)
 ·refine CW.skip ?_
  repeat (first | refine EX.in_normal ?_)
  first | refine EX.then_normal ?_ | skip
  have hlt : k < ts.length := by omega
  obtain ⟨b, off, rfl, hb, hc⟩ := h0 (by omega)
  obtain ⟨aos, caps, hs, hsl⟩ := hv.secs hlt
  have hcs := hc k hlt
  obtain ⟨t, ht⟩ : ∃ t, tk ts k = t := ⟨_, rfl⟩
  rw [ht] at hs hsl
  obtain ⟨nm, T, O, D, C, pr, sv, sc⟩ := t
  obtain rfl : sv = .slice aos sc.length caps := hs
  have hcs' : ∀ j v, [Value.string nm, .int .i64 T, .int .i64 O, .int .i64 D, .int .i64 C, .int .i64 pr, .slice aos sc.length caps][j]? = some v → w.cell? ⟨b, off + k * 7 + j, none⟩ = some v := fun j v h => hcs j v (by rw [show ge cdTk ts k = _ from ht]; exact h)
  repeat (refine CW.seq ?_)
  refine CW.block ?_
  repeat (refine CW.seq ?_)
  refine CW.region ?_
  refine SL.val rfl rfl (Gd.g0 rfl) ((by first | exact Yd.indexSlN rfl rfl sl_22 (by omega) | exact Yd.indexSl rfl rfl sl_22 (by omega))) ?_
  refine SL.val rfl rfl (Gd.g0 rfl) ((by first | exact Yd.loadR (i := 0) rfl ag_37 rfl rfl | exact Yd.loadR (i := 1) rfl ag_37 rfl rfl | exact Yd.loadR (i := 2) rfl ag_37 rfl rfl | exact Yd.loadR (i := 3) rfl ag_37 rfl rfl | exact Yd.loadR (i := 4) rfl ag_37 rfl rfl | exact Yd.loadR (i := 5) rfl ag_37 rfl rfl | exact Yd.loadA rfl ag_37 rfl (Wd.inpA hb (by simp) hcs'))) ?_
  refine SL.efD rfl rfl (Gd.g0 rfl) (Ef.alloc zl_37) (fun b5 => ?_)
  try dsimp only [Value.cells, List.flatMap_cons, List.flatMap_nil]
  refine SL.ef0 rfl (Gd.g0 rfl) (by first | exact Ef0.storeA (i := 0) rfl rfl rfl ag_37 rfl rfl (by simp) | exact Ef0.storeA (i := 1) rfl rfl rfl ag_37 rfl rfl (by simp) | exact Ef0.storeA (i := 2) rfl rfl rfl ag_37 rfl rfl (by simp) | exact Ef0.storeA (i := 3) rfl rfl rfl ag_37 rfl rfl (by simp) | exact Ef0.storeA (i := 4) rfl rfl rfl ag_37 rfl rfl (by simp) | exact Ef0.storeA (i := 5) rfl rfl rfl ag_37 rfl rfl (by simp)) ?_
  try dsimp only [setR, List.set, setRow2]
  first | refine SL.nil_then ?_ | refine SL.nil ?_
  repeat (refine CW.seq ?_)
  refine CW.region ?_
  refine SL.val rfl rfl (Gd.g0 rfl) (Yd.move rfl) ?_
  refine SL.val rfl rfl (Gd.g0 rfl) (Yd.move rfl) ?_
  refine SL.split (dj := 20) rfl (fun hg20 => ?_) (fun hg20 => ?_)
  refine SL.unw rfl rfl (Gd.no rfl rfl rfl rfl) ?_
  refine SL.unw rfl rfl (Gd.no rfl rfl rfl rfl) ?_
  refine SL.unw rfl rfl (Gd.no rfl rfl rfl rfl) ?_
  refine SL.unw rfl rfl (Gd.no rfl rfl rfl rfl) ?_
  refine SL.val rfl rfl (Gd.g0 rfl) ((by first | exact Yd.pickT rfl rfl | exact Yd.pickF rfl rfl | exact Yd.pickB rfl rfl rfl)) ?_
  refine SL.val rfl rfl (Gd.g0 rfl) (Yd.assign rfl) ?_
  first | refine SL.nil_then ?_ | refine SL.nil ?_
  rotate_left
  refine SL.val rfl rfl (Gd.yes rfl rfl rfl) (Yd.fieldAddr rfl fo_37_6) ?_
  refine SL.val rfl rfl (Gd.yes rfl rfl rfl) ((by first | exact Yd.load rfl ag_35 (Wd.cell (i := 0) rfl rfl) | exact Yd.load rfl ag_35 (Wd.cell (i := 1) rfl rfl) | exact Yd.load rfl ag_35 (Wd.cell (i := 2) rfl rfl) | exact Yd.load rfl ag_35 (Wd.cell (i := 3) rfl rfl) | exact Yd.load rfl ag_35 (Wd.cell (i := 4) rfl rfl) | exact Yd.load rfl ag_35 (Wd.cell (i := 5) rfl rfl))) ?_
  refine SL.val rfl rfl (Gd.yes rfl rfl rfl) (Yd.lenSl rfl isl_35) ?_
  refine SL.val rfl rfl (Gd.yes rfl rfl rfl) (Yd.gtr rfl rfl) ?_
  refine SL.val rfl rfl (Gd.g0 rfl) ((by first | exact Yd.pickT rfl rfl | exact Yd.pickF rfl rfl | exact Yd.pickB rfl rfl rfl)) ?_
  refine SL.val rfl rfl (Gd.g0 rfl) (Yd.assign rfl) ?_
  first | refine SL.nil_then ?_ | refine SL.nil ?_
  rotate_left
  ·repeat (first | refine EX.in_normal ?_)
   first | refine EX.then_normal ?_ | skip
   repeat (refine CW.seq ?_)
   refine CW.region ?_
   refine SL.val rfl rfl (Gd.g0 rfl) ((by first | exact Yd.inc rfl (by omega) | exact Yd.add rfl rfl (by omega) | exact Yd.addW rfl rfl)) ?_
   refine SL.val rfl rfl (Gd.g0 rfl) (Yd.move rfl) ?_
   first | refine SL.nil_then ?_ | refine SL.nil ?_
   refine EX.round (s := (k, lb)) (k + 1, true) ⟨by dsimp only; omega, ⟨fun _ => by
    rcases hlb.1 hg20 with h | ⟨j, h1, h2⟩
    ·exact .inl h
    ·exact .inr ⟨j, by dsimp only; omega, h2⟩, fun _ => rfl⟩⟩ (by dsimp only; omega) (Sub.cons rfl rfl (Sub.cons rfl rfl (Sub.cons rfl rfl (Sub.cons rfl rfl (Sub.cons rfl rfl Sub.nil))))) (fun _ h => h.drop)
  ·repeat (first | refine EX.in_normal ?_)
   first | refine EX.then_normal ?_ | skip
   repeat (refine CW.seq ?_)
   refine CW.region ?_
   refine SL.val rfl rfl (Gd.g0 rfl) ((by first | exact Yd.inc rfl (by omega) | exact Yd.add rfl rfl (by omega) | exact Yd.addW rfl rfl)) ?_
   refine SL.val rfl rfl (Gd.g0 rfl) (Yd.move rfl) ?_
   first | refine SL.nil_then ?_ | refine SL.nil ?_
   refine EX.round (s := (k, lb)) (k + 1, decide ((4 : Int) < (sc.length : Int))) ⟨by dsimp only; omega, by
    dsimp only
    rw [decide_eq_true_eq]
    constructor
    ·exact fun h => .inr ⟨k, by omega, by rw [ht]; dsimp only; omega⟩
    ·intro h
     rcases h with h | ⟨j, h1, h2⟩
     ·have := hlb.2 (.inl h); rw [hg20] at this; cases this
     ·by_cases e : j = k
      ·subst e; rw [ht] at h2; dsimp only at h2; omega
      ·have := hlb.2 (.inr ⟨j, by omega, h2⟩); rw [hg20] at this; cases this⟩ (by dsimp only; omega) (Sub.cons rfl rfl (Sub.cons rfl rfl (Sub.cons rfl rfl (Sub.cons rfl rfl (Sub.cons rfl rfl Sub.nil))))) (fun _ h => h.drop)
 refine CW.exit ?_
 repeat (first | refine EX.then_exit ?_ | refine EX.in_exit rfl ?_ | refine EX.in_exit_ne rfl ?_)
 first | refine EX.then_normal ?_ | skip
 have hkl : k = ts.length := by omega
 subst hkl
 rw [longK_all] at hlb
 repeat (refine CW.seq ?_)
 refine CW.block ?_
 repeat (refine CW.seq ?_)
 refine CW.region ?_
 refine SL.val rfl rfl (Gd.g0 rfl) (Yd.move rfl) ?_
 refine SL.val rfl rfl (Gd.g0 rfl) (Yd.assign rfl) ?_
 first | refine SL.nil_then ?_ | refine SL.nil ?_
 repeat (refine CW.seq ?_)
 refine CW.cond rfl (fun h27 => ?_) (fun h27 => ?_)
 ·repeat (refine CW.seq ?_)
  refine CW.region ?_
  refine SL.val rfl rfl (Gd.g0 rfl) (Yd.assign rfl) ?_
  first | refine SL.nil_then ?_ | refine SL.nil ?_
  refine CW.ret ?_
  repeat (first | refine EX.then_ret ?_ | refine EX.in_ret ?_)
  refine EX.out (rs := _) rfl (ResA.tmp rfl ResA.nil) (fun w2 hw => ?_) (by first | exact Or.inl rfl | exact Or.inr rfl)
  exact ⟨.inl ⟨hlb.1 h27, rfl⟩, hw.below⟩
 have HNL : ¬ longB ts := fun q => by rw [hlb.2 q] at h27; cases h27
 repeat (refine CW.seq ?_)
 refine CW.region ?_
 refine SL.val rfl rfl (Gd.g0 rfl) (Yd.move rfl) ?_
 refine SL.val rfl rfl (Gd.g0 rfl) (Yd.lenSl rfl isl_22) ?_
 refine SL.val rfl rfl (Gd.g0 rfl) (Yd.eql rfl rfl) ?_
 refine SL.val rfl rfl (Gd.g0 rfl) (Yd.assign rfl) ?_
 first | refine SL.nil_then ?_ | refine SL.nil ?_
 repeat (refine CW.seq ?_)
 refine CW.condD rfl (fun hz => ?_) (fun hz => ?_)
 ·repeat (refine CW.seq ?_)
  refine CW.region ?_
  refine SL.val rfl rfl (Gd.g0 rfl) (Yd.assign rfl) ?_
  first | refine SL.nil_then ?_ | refine SL.nil ?_
  refine CW.ret ?_
  repeat (first | refine EX.then_ret ?_ | refine EX.in_ret ?_)
  refine EX.out (rs := _) rfl (ResA.tmp rfl ResA.nil) (fun w2 hw => ?_) (by first | exact Or.inl rfl | exact Or.inr rfl)
  exact ⟨.inr ⟨HNL, .inl ⟨rfl, fun _ q => by omega⟩⟩, hw.below⟩
 refine CW.skip ?_
 repeat (first | refine EX.in_normal ?_)
 first | refine EX.then_normal ?_ | skip
 obtain ⟨b, off, rfl, hb, hc⟩ := h0 (by omega)
 have ES := ek_string (P := Try.prog) ul_9
 have EI := ek_int (P := Try.prog) ul_3
 repeat (refine CW.seq ?_)
 refine CW.region ?_
 refine SL.efD rfl rfl (Gd.g0 rfl) (Ef.makeMap Value.string tt1) (fun b33 => ?_)
 try dsimp only [setR]
 refine SL.efD rfl rfl (Gd.g0 rfl) (Ef.makeMap (Value.int .i64) tt1) (fun b34 => ?_)
 try dsimp only [setR]
 refine SL.val rfl rfl (Gd.g0 rfl) (Yd.assign rfl) ?_
 refine SL.val rfl rfl (Gd.g0 rfl) (Yd.assign rfl) ?_
 first | refine SL.nil_then ?_ | refine SL.nil ?_
 repeat (refine CW.seq ?_)
 refine CW.region ?_
 refine SL.val rfl rfl (Gd.g0 rfl) (Yd.move rfl) ?_
 refine SL.val rfl rfl (Gd.g0 rfl) (Yd.lenSl rfl isl_22) ?_
 refine SL.val rfl rfl (Gd.g0 rfl) (Yd.move rfl) ?_
 first | refine SL.nil_then ?_ | refine SL.nil ?_
 repeat (refine CW.seq ?_)
 refine CW.block ?_
 refine CW.loop (σ := Nat) (fun i => i ≤ ts.length ∧ valK ts i) (fun i => [(6, .map (some b33)), (7, .map (some b34)), (35, .slice (some ⟨b, off, none⟩) ts.length cap), (36, .int .i64 (ts.length : Int)), (37, .int .i64 (i : Int))]) (fun i => Wd w [] [Rs.mp b34 (Value.int .i64) tt1 (setM (prsK ts i)), Rs.mp b33 Value.string tt1 (setM (nmsK ts i))]) (fun i => ts.length - i) 0 ⟨by omega, fun j hj => by omega⟩ (Sub.cons rfl rfl (Sub.cons rfl rfl (Sub.cons rfl rfl (Sub.cons rfl rfl (Sub.cons rfl rfl Sub.nil))))) (fun _ h => h) ?_
 intro i ⟨hi, hval⟩
 repeat (refine CW.seq ?_)
 refine CW.region ?_
 refine SL.val rfl rfl (Gd.g0 rfl) (Yd.lss rfl rfl) ?_
 first | refine SL.nil_then ?_ | refine SL.nil ?_
 repeat (refine CW.seq ?_)
 refine CW.condD rfl (fun hin => ?_) (fun hin => ?_)
 ·refine CW.skip ?_
  repeat (first | refine EX.in_normal ?_)
  first | refine EX.then_normal ?_ | skip
  have hlt : i < ts.length := by omega
  have hm4 : (tk ts i).sc.length ≤ 4 := Classical.byContradiction fun q => HNL (.inr ⟨i, hlt, by omega⟩)
  have hsx := hv.2 (tk ts i) (ge_mem cdTk hlt)
  have hcs := hc i hlt
  have Hbad : ¬ okT (tk ts i) → ¬ (0 < ts.length ∧ valK ts ts.length) := fun h q => h (q.2 i hlt).1
  have Hsn : hasS ts = false → (tk ts i).sc.length = 0 := fun h => hasS_no.1 h i hlt
  have hpi := hpr i hlt
  obtain ⟨aos, caps, hs, -⟩ := hv.secs hlt
  obtain ⟨t, ht⟩ : ∃ t, tk ts i = t := ⟨_, rfl⟩
  rw [ht] at hm4 hsx Hbad Hsn hs hpi
  obtain ⟨nm, T, O, D, C, pr, sv, sc⟩ := t
  obtain rfl : sv = .slice aos sc.length caps := hs
  dsimp only at hpi hm4
  have hcs' : ∀ j v, [Value.string nm, .int .i64 T, .int .i64 O, .int .i64 D, .int .i64 C, .int .i64 pr, .slice aos sc.length caps][j]? = some v → w.cell? ⟨b, off + i * 7 + j, none⟩ = some v := fun j v h => hcs j v (by rw [show ge cdTk ts i = _ from ht]; exact h)
  have hgn : ∀ s, s ∈ nmsK ts i → s.size ≤ maxLen := fun s hs => by
   obtain ⟨j, hj, rfl⟩ := nmsK_mem.1 hs
   have := (hval j hj).1.2.1
   simp only [maxLen]; omega
  have hgp : ∀ s, s ∈ prsK ts i → (Lit.int .i64 s).wf = true := fun s hs => by
   obtain ⟨j, hj, rfl⟩ := prsK_mem.1 hs
   have h1 := (hval j hj).1.2.2.1
   exact wf64 (by omega) (hpr j (by omega))
  repeat (refine CW.seq ?_)
  refine CW.block ?_
  repeat (refine CW.seq ?_)
  refine CW.region ?_
  refine SL.val rfl rfl (Gd.g0 rfl) ((by first | exact Yd.indexSlN rfl rfl sl_22 (by omega) | exact Yd.indexSl rfl rfl sl_22 (by omega))) ?_
  refine SL.val rfl rfl (Gd.g0 rfl) ((by first | exact Yd.loadR (i := 0) rfl ag_37 rfl rfl | exact Yd.loadR (i := 1) rfl ag_37 rfl rfl | exact Yd.loadR (i := 2) rfl ag_37 rfl rfl | exact Yd.loadR (i := 3) rfl ag_37 rfl rfl | exact Yd.loadR (i := 4) rfl ag_37 rfl rfl | exact Yd.loadR (i := 5) rfl ag_37 rfl rfl | exact Yd.loadA rfl ag_37 rfl (Wd.inpA hb (by simp) hcs'))) ?_
  refine SL.efD rfl rfl (Gd.g0 rfl) (Ef.alloc zl_37) (fun b9 => ?_)
  try dsimp only [Value.cells, List.flatMap_cons, List.flatMap_nil]
  refine SL.ef0 rfl (Gd.g0 rfl) (by first | exact Ef0.storeA (i := 0) rfl rfl rfl ag_37 rfl rfl (by simp) | exact Ef0.storeA (i := 1) rfl rfl rfl ag_37 rfl rfl (by simp) | exact Ef0.storeA (i := 2) rfl rfl rfl ag_37 rfl rfl (by simp) | exact Ef0.storeA (i := 3) rfl rfl rfl ag_37 rfl rfl (by simp) | exact Ef0.storeA (i := 4) rfl rfl rfl ag_37 rfl rfl (by simp) | exact Ef0.storeA (i := 5) rfl rfl rfl ag_37 rfl rfl (by simp)) ?_
  try dsimp only [setR, List.set, setRow2]
  first | refine SL.nil_then ?_ | refine SL.nil ?_
  repeat (refine CW.seq ?_)
  refine CW.region ?_
  refine SL.val rfl rfl (Gd.g0 rfl) (Yd.fieldAddr rfl fo_37_0) ?_
  refine SL.val rfl rfl (Gd.g0 rfl) ((by first | exact Yd.load rfl ag_9 (Wd.cell (i := 0) rfl rfl) | exact Yd.load rfl ag_9 (Wd.cell (i := 1) rfl rfl) | exact Yd.load rfl ag_9 (Wd.cell (i := 2) rfl rfl) | exact Yd.load rfl ag_9 (Wd.cell (i := 3) rfl rfl) | exact Yd.load rfl ag_9 (Wd.cell (i := 4) rfl rfl) | exact Yd.load rfl ag_9 (Wd.cell (i := 5) rfl rfl))) ?_
  refine SL.val rfl rfl (Gd.g0 rfl) (Yd.eqlS rfl rfl) ?_
  refine SL.val rfl rfl (Gd.g0 rfl) (Yd.move rfl) ?_
  refine SL.splitD (dj := 44) rfl (fun hg44 => ?_) (fun hg44 => ?_)
  refine SL.unw rfl rfl (Gd.no rfl rfl rfl rfl) ?_
  refine SL.unw rfl rfl (Gd.no rfl rfl rfl rfl) ?_
  refine SL.unw rfl rfl (Gd.no rfl rfl rfl rfl) ?_
  refine SL.unw rfl rfl (Gd.no rfl rfl rfl rfl) ?_
  refine SL.val rfl rfl (Gd.g0 rfl) ((by first | exact Yd.pickT rfl rfl | exact Yd.pickF rfl rfl | exact Yd.pickB rfl rfl rfl)) ?_
  refine SL.val rfl rfl (Gd.g0 rfl) (Yd.move rfl) ?_
  refine SL.unw rfl rfl (Gd.no rfl rfl rfl rfl) ?_
  refine SL.unw rfl rfl (Gd.no rfl rfl rfl rfl) ?_
  refine SL.unw rfl rfl (Gd.no rfl rfl rfl rfl) ?_
  refine SL.unw rfl rfl (Gd.no rfl rfl rfl rfl) ?_
  refine SL.val rfl rfl (Gd.g0 rfl) ((by first | exact Yd.pickT rfl rfl | exact Yd.pickF rfl rfl | exact Yd.pickB rfl rfl rfl)) ?_
  refine SL.val rfl rfl (Gd.g0 rfl) (Yd.move rfl) ?_
  refine SL.unw rfl rfl (Gd.no rfl rfl rfl rfl) ?_
  refine SL.unw rfl rfl (Gd.no rfl rfl rfl rfl) ?_
  refine SL.unw rfl rfl (Gd.no rfl rfl rfl rfl) ?_
  refine SL.val rfl rfl (Gd.g0 rfl) ((by first | exact Yd.pickT rfl rfl | exact Yd.pickF rfl rfl | exact Yd.pickB rfl rfl rfl)) ?_
  refine SL.val rfl rfl (Gd.g0 rfl) (Yd.move rfl) ?_
  refine SL.unw rfl rfl (Gd.no rfl rfl rfl rfl) ?_
  refine SL.unw rfl rfl (Gd.no rfl rfl rfl rfl) ?_
  refine SL.unw rfl rfl (Gd.no rfl rfl rfl rfl) ?_
  refine SL.unw rfl rfl (Gd.no rfl rfl rfl rfl) ?_
  refine SL.val rfl rfl (Gd.g0 rfl) ((by first | exact Yd.pickT rfl rfl | exact Yd.pickF rfl rfl | exact Yd.pickB rfl rfl rfl)) ?_
  refine SL.val rfl rfl (Gd.g0 rfl) (Yd.move rfl) ?_
  refine SL.unw rfl rfl (Gd.no rfl rfl rfl rfl) ?_
  refine SL.unw rfl rfl (Gd.no rfl rfl rfl rfl) ?_
  refine SL.unw rfl rfl (Gd.no rfl rfl rfl rfl) ?_
  refine SL.val rfl rfl (Gd.g0 rfl) ((by first | exact Yd.pickT rfl rfl | exact Yd.pickF rfl rfl | exact Yd.pickB rfl rfl rfl)) ?_
  refine SL.val rfl rfl (Gd.g0 rfl) (Yd.move rfl) ?_
  refine SL.unw rfl rfl (Gd.no rfl rfl rfl rfl) ?_
  refine SL.unw rfl rfl (Gd.no rfl rfl rfl rfl) ?_
  refine SL.unw rfl rfl (Gd.no rfl rfl rfl rfl) ?_
  refine SL.val rfl rfl (Gd.g0 rfl) ((by first | exact Yd.pickT rfl rfl | exact Yd.pickF rfl rfl | exact Yd.pickB rfl rfl rfl)) ?_
  refine SL.val rfl rfl (Gd.g0 rfl) (Yd.move rfl) ?_
  refine SL.unw rfl rfl (Gd.no rfl rfl rfl rfl) ?_
  refine SL.unw rfl rfl (Gd.no rfl rfl rfl rfl) ?_
  refine SL.unw rfl rfl (Gd.no rfl rfl rfl rfl) ?_
  refine SL.val rfl rfl (Gd.g0 rfl) ((by first | exact Yd.pickT rfl rfl | exact Yd.pickF rfl rfl | exact Yd.pickB rfl rfl rfl)) ?_
  refine SL.val rfl rfl (Gd.g0 rfl) (Yd.move rfl) ?_
  refine SL.unw rfl rfl (Gd.no rfl rfl rfl rfl) ?_
  refine SL.unw rfl rfl (Gd.no rfl rfl rfl rfl) ?_
  refine SL.unw rfl rfl (Gd.no rfl rfl rfl rfl) ?_
  refine SL.unw rfl rfl (Gd.no rfl rfl rfl rfl) ?_
  refine SL.unw rfl rfl (Gd.no rfl rfl rfl rfl) ?_
  refine SL.val rfl rfl (Gd.g0 rfl) ((by first | exact Yd.pickT rfl rfl | exact Yd.pickF rfl rfl | exact Yd.pickB rfl rfl rfl)) ?_
  refine SL.val rfl rfl (Gd.g0 rfl) (Yd.move rfl) ?_
  refine SL.unw rfl rfl (Gd.no rfl rfl rfl rfl) ?_
  refine SL.unw rfl rfl (Gd.no rfl rfl rfl rfl) ?_
  refine SL.unw rfl rfl (Gd.no rfl rfl rfl rfl) ?_
  refine SL.val rfl rfl (Gd.g0 rfl) ((by first | exact Yd.pickT rfl rfl | exact Yd.pickF rfl rfl | exact Yd.pickB rfl rfl rfl)) ?_
  refine SL.val rfl rfl (Gd.g0 rfl) (Yd.move rfl) ?_
  refine SL.unw rfl rfl (Gd.no rfl rfl rfl rfl) ?_
  refine SL.unw rfl rfl (Gd.no rfl rfl rfl rfl) ?_
  refine SL.unw rfl rfl (Gd.no rfl rfl rfl rfl) ?_
  refine SL.unw rfl rfl (Gd.no rfl rfl rfl rfl) ?_
  refine SL.unw rfl rfl (Gd.no rfl rfl rfl rfl) ?_
  refine SL.val rfl rfl (Gd.g0 rfl) ((by first | exact Yd.pickT rfl rfl | exact Yd.pickF rfl rfl | exact Yd.pickB rfl rfl rfl)) ?_
  refine SL.val rfl rfl (Gd.g0 rfl) (Yd.move rfl) ?_
  refine SL.unw rfl rfl (Gd.no rfl rfl rfl rfl) ?_
  refine SL.unw rfl rfl (Gd.no rfl rfl rfl rfl) ?_
  refine SL.unw rfl rfl (Gd.no rfl rfl rfl rfl) ?_
  refine SL.val rfl rfl (Gd.g0 rfl) ((by first | exact Yd.pickT rfl rfl | exact Yd.pickF rfl rfl | exact Yd.pickB rfl rfl rfl)) ?_
  refine SL.val rfl rfl (Gd.g0 rfl) (Yd.move rfl) ?_
  refine SL.unw rfl rfl (Gd.no rfl rfl rfl rfl) ?_
  refine SL.unw rfl rfl (Gd.no rfl rfl rfl rfl) ?_
  refine SL.unw rfl rfl (Gd.no rfl rfl rfl rfl) ?_
  refine SL.unw rfl rfl (Gd.no rfl rfl rfl rfl) ?_
  refine SL.unw rfl rfl (Gd.no rfl rfl rfl rfl) ?_
  refine SL.val rfl rfl (Gd.g0 rfl) ((by first | exact Yd.pickT rfl rfl | exact Yd.pickF rfl rfl | exact Yd.pickB rfl rfl rfl)) ?_
  refine SL.val rfl rfl (Gd.g0 rfl) (Yd.move rfl) ?_
  refine SL.unw rfl rfl (Gd.no rfl rfl rfl rfl) ?_
  refine SL.unw rfl rfl (Gd.no rfl rfl rfl rfl) ?_
  refine SL.unw rfl rfl (Gd.no rfl rfl rfl rfl) ?_
  refine SL.val rfl rfl (Gd.g0 rfl) ((by first | exact Yd.pickT rfl rfl | exact Yd.pickF rfl rfl | exact Yd.pickB rfl rfl rfl)) ?_
  first | refine SL.nil_then ?_ | refine SL.nil ?_
  rotate_left
  refine SL.val rfl rfl (Gd.yes rfl rfl rfl) (Yd.fieldAddr rfl fo_37_0) ?_
  refine SL.val rfl rfl (Gd.yes rfl rfl rfl) ((by first | exact Yd.load rfl ag_9 (Wd.cell (i := 0) rfl rfl) | exact Yd.load rfl ag_9 (Wd.cell (i := 1) rfl rfl) | exact Yd.load rfl ag_9 (Wd.cell (i := 2) rfl rfl) | exact Yd.load rfl ag_9 (Wd.cell (i := 3) rfl rfl) | exact Yd.load rfl ag_9 (Wd.cell (i := 4) rfl rfl) | exact Yd.load rfl ag_9 (Wd.cell (i := 5) rfl rfl))) ?_
  refine SL.val rfl rfl (Gd.yes rfl rfl rfl) (Yd.lenS rfl istr_9) ?_
  refine SL.val rfl rfl (Gd.yes rfl rfl rfl) (Yd.gtr rfl rfl) ?_
  refine SL.val rfl rfl (Gd.g0 rfl) ((by first | exact Yd.pickT rfl rfl | exact Yd.pickF rfl rfl | exact Yd.pickB rfl rfl rfl)) ?_
  refine SL.val rfl rfl (Gd.g0 rfl) (Yd.move rfl) ?_
  refine SL.splitD (dj := 50) rfl (fun hg50 => ?_) (fun hg50 => ?_)
  refine SL.unw rfl rfl (Gd.no rfl rfl rfl rfl) ?_
  refine SL.unw rfl rfl (Gd.no rfl rfl rfl rfl) ?_
  refine SL.unw rfl rfl (Gd.no rfl rfl rfl rfl) ?_
  refine SL.unw rfl rfl (Gd.no rfl rfl rfl rfl) ?_
  refine SL.val rfl rfl (Gd.g0 rfl) ((by first | exact Yd.pickT rfl rfl | exact Yd.pickF rfl rfl | exact Yd.pickB rfl rfl rfl)) ?_
  refine SL.val rfl rfl (Gd.g0 rfl) (Yd.move rfl) ?_
  refine SL.unw rfl rfl (Gd.no rfl rfl rfl rfl) ?_
  refine SL.unw rfl rfl (Gd.no rfl rfl rfl rfl) ?_
  refine SL.unw rfl rfl (Gd.no rfl rfl rfl rfl) ?_
  refine SL.val rfl rfl (Gd.g0 rfl) ((by first | exact Yd.pickT rfl rfl | exact Yd.pickF rfl rfl | exact Yd.pickB rfl rfl rfl)) ?_
  refine SL.val rfl rfl (Gd.g0 rfl) (Yd.move rfl) ?_
  refine SL.unw rfl rfl (Gd.no rfl rfl rfl rfl) ?_
  refine SL.unw rfl rfl (Gd.no rfl rfl rfl rfl) ?_
  refine SL.unw rfl rfl (Gd.no rfl rfl rfl rfl) ?_
  refine SL.unw rfl rfl (Gd.no rfl rfl rfl rfl) ?_
  refine SL.val rfl rfl (Gd.g0 rfl) ((by first | exact Yd.pickT rfl rfl | exact Yd.pickF rfl rfl | exact Yd.pickB rfl rfl rfl)) ?_
  refine SL.val rfl rfl (Gd.g0 rfl) (Yd.move rfl) ?_
  refine SL.unw rfl rfl (Gd.no rfl rfl rfl rfl) ?_
  refine SL.unw rfl rfl (Gd.no rfl rfl rfl rfl) ?_
  refine SL.unw rfl rfl (Gd.no rfl rfl rfl rfl) ?_
  refine SL.val rfl rfl (Gd.g0 rfl) ((by first | exact Yd.pickT rfl rfl | exact Yd.pickF rfl rfl | exact Yd.pickB rfl rfl rfl)) ?_
  refine SL.val rfl rfl (Gd.g0 rfl) (Yd.move rfl) ?_
  refine SL.unw rfl rfl (Gd.no rfl rfl rfl rfl) ?_
  refine SL.unw rfl rfl (Gd.no rfl rfl rfl rfl) ?_
  refine SL.unw rfl rfl (Gd.no rfl rfl rfl rfl) ?_
  refine SL.val rfl rfl (Gd.g0 rfl) ((by first | exact Yd.pickT rfl rfl | exact Yd.pickF rfl rfl | exact Yd.pickB rfl rfl rfl)) ?_
  refine SL.val rfl rfl (Gd.g0 rfl) (Yd.move rfl) ?_
  refine SL.unw rfl rfl (Gd.no rfl rfl rfl rfl) ?_
  refine SL.unw rfl rfl (Gd.no rfl rfl rfl rfl) ?_
  refine SL.unw rfl rfl (Gd.no rfl rfl rfl rfl) ?_
  refine SL.val rfl rfl (Gd.g0 rfl) ((by first | exact Yd.pickT rfl rfl | exact Yd.pickF rfl rfl | exact Yd.pickB rfl rfl rfl)) ?_
  refine SL.val rfl rfl (Gd.g0 rfl) (Yd.move rfl) ?_
  refine SL.unw rfl rfl (Gd.no rfl rfl rfl rfl) ?_
  refine SL.unw rfl rfl (Gd.no rfl rfl rfl rfl) ?_
  refine SL.unw rfl rfl (Gd.no rfl rfl rfl rfl) ?_
  refine SL.unw rfl rfl (Gd.no rfl rfl rfl rfl) ?_
  refine SL.unw rfl rfl (Gd.no rfl rfl rfl rfl) ?_
  refine SL.val rfl rfl (Gd.g0 rfl) ((by first | exact Yd.pickT rfl rfl | exact Yd.pickF rfl rfl | exact Yd.pickB rfl rfl rfl)) ?_
  refine SL.val rfl rfl (Gd.g0 rfl) (Yd.move rfl) ?_
  refine SL.unw rfl rfl (Gd.no rfl rfl rfl rfl) ?_
  refine SL.unw rfl rfl (Gd.no rfl rfl rfl rfl) ?_
  refine SL.unw rfl rfl (Gd.no rfl rfl rfl rfl) ?_
  refine SL.val rfl rfl (Gd.g0 rfl) ((by first | exact Yd.pickT rfl rfl | exact Yd.pickF rfl rfl | exact Yd.pickB rfl rfl rfl)) ?_
  refine SL.val rfl rfl (Gd.g0 rfl) (Yd.move rfl) ?_
  refine SL.unw rfl rfl (Gd.no rfl rfl rfl rfl) ?_
  refine SL.unw rfl rfl (Gd.no rfl rfl rfl rfl) ?_
  refine SL.unw rfl rfl (Gd.no rfl rfl rfl rfl) ?_
  refine SL.unw rfl rfl (Gd.no rfl rfl rfl rfl) ?_
  refine SL.unw rfl rfl (Gd.no rfl rfl rfl rfl) ?_
  refine SL.val rfl rfl (Gd.g0 rfl) ((by first | exact Yd.pickT rfl rfl | exact Yd.pickF rfl rfl | exact Yd.pickB rfl rfl rfl)) ?_
  refine SL.val rfl rfl (Gd.g0 rfl) (Yd.move rfl) ?_
  refine SL.unw rfl rfl (Gd.no rfl rfl rfl rfl) ?_
  refine SL.unw rfl rfl (Gd.no rfl rfl rfl rfl) ?_
  refine SL.unw rfl rfl (Gd.no rfl rfl rfl rfl) ?_
  refine SL.val rfl rfl (Gd.g0 rfl) ((by first | exact Yd.pickT rfl rfl | exact Yd.pickF rfl rfl | exact Yd.pickB rfl rfl rfl)) ?_
  refine SL.val rfl rfl (Gd.g0 rfl) (Yd.move rfl) ?_
  refine SL.unw rfl rfl (Gd.no rfl rfl rfl rfl) ?_
  refine SL.unw rfl rfl (Gd.no rfl rfl rfl rfl) ?_
  refine SL.unw rfl rfl (Gd.no rfl rfl rfl rfl) ?_
  refine SL.unw rfl rfl (Gd.no rfl rfl rfl rfl) ?_
  refine SL.unw rfl rfl (Gd.no rfl rfl rfl rfl) ?_
  refine SL.val rfl rfl (Gd.g0 rfl) ((by first | exact Yd.pickT rfl rfl | exact Yd.pickF rfl rfl | exact Yd.pickB rfl rfl rfl)) ?_
  refine SL.val rfl rfl (Gd.g0 rfl) (Yd.move rfl) ?_
  refine SL.unw rfl rfl (Gd.no rfl rfl rfl rfl) ?_
  refine SL.unw rfl rfl (Gd.no rfl rfl rfl rfl) ?_
  refine SL.unw rfl rfl (Gd.no rfl rfl rfl rfl) ?_
  refine SL.val rfl rfl (Gd.g0 rfl) ((by first | exact Yd.pickT rfl rfl | exact Yd.pickF rfl rfl | exact Yd.pickB rfl rfl rfl)) ?_
  first | refine SL.nil_then ?_ | refine SL.nil ?_
  rotate_left
  refine SL.val rfl rfl (Gd.yes rfl rfl rfl) (Yd.move rfl) ?_
  refine SL.val rfl rfl (Gd.yes rfl rfl rfl) (Yd.fieldAddr rfl fo_37_0) ?_
  refine SL.val rfl rfl (Gd.yes rfl rfl rfl) ((by first | exact Yd.load rfl ag_9 (Wd.cell (i := 0) rfl rfl) | exact Yd.load rfl ag_9 (Wd.cell (i := 1) rfl rfl) | exact Yd.load rfl ag_9 (Wd.cell (i := 2) rfl rfl) | exact Yd.load rfl ag_9 (Wd.cell (i := 3) rfl rfl) | exact Yd.load rfl ag_9 (Wd.cell (i := 4) rfl rfl) | exact Yd.load rfl ag_9 (Wd.cell (i := 5) rfl rfl))) ?_
  refine SL.val rfl rfl (Gd.yes rfl rfl rfl) (Yd.inSet (i := 2) ES mt_70 z1_4 rfl rfl rfl hgn (by simp only [maxLen]; omega)) ?_
  refine SL.val rfl rfl (Gd.g0 rfl) ((by first | exact Yd.pickT rfl rfl | exact Yd.pickF rfl rfl | exact Yd.pickB rfl rfl rfl)) ?_
  refine SL.val rfl rfl (Gd.g0 rfl) (Yd.move rfl) ?_
  refine SL.split (dj := 56) rfl (fun hg56 => ?_) (fun hg56 => ?_)
  refine SL.unw rfl rfl (Gd.no rfl rfl rfl rfl) ?_
  refine SL.unw rfl rfl (Gd.no rfl rfl rfl rfl) ?_
  refine SL.unw rfl rfl (Gd.no rfl rfl rfl rfl) ?_
  refine SL.val rfl rfl (Gd.g0 rfl) ((by first | exact Yd.pickT rfl rfl | exact Yd.pickF rfl rfl | exact Yd.pickB rfl rfl rfl)) ?_
  refine SL.val rfl rfl (Gd.g0 rfl) (Yd.move rfl) ?_
  refine SL.unw rfl rfl (Gd.no rfl rfl rfl rfl) ?_
  refine SL.unw rfl rfl (Gd.no rfl rfl rfl rfl) ?_
  refine SL.unw rfl rfl (Gd.no rfl rfl rfl rfl) ?_
  refine SL.unw rfl rfl (Gd.no rfl rfl rfl rfl) ?_
  refine SL.val rfl rfl (Gd.g0 rfl) ((by first | exact Yd.pickT rfl rfl | exact Yd.pickF rfl rfl | exact Yd.pickB rfl rfl rfl)) ?_
  refine SL.val rfl rfl (Gd.g0 rfl) (Yd.move rfl) ?_
  refine SL.unw rfl rfl (Gd.no rfl rfl rfl rfl) ?_
  refine SL.unw rfl rfl (Gd.no rfl rfl rfl rfl) ?_
  refine SL.unw rfl rfl (Gd.no rfl rfl rfl rfl) ?_
  refine SL.val rfl rfl (Gd.g0 rfl) ((by first | exact Yd.pickT rfl rfl | exact Yd.pickF rfl rfl | exact Yd.pickB rfl rfl rfl)) ?_
  refine SL.val rfl rfl (Gd.g0 rfl) (Yd.move rfl) ?_
  refine SL.unw rfl rfl (Gd.no rfl rfl rfl rfl) ?_
  refine SL.unw rfl rfl (Gd.no rfl rfl rfl rfl) ?_
  refine SL.unw rfl rfl (Gd.no rfl rfl rfl rfl) ?_
  refine SL.val rfl rfl (Gd.g0 rfl) ((by first | exact Yd.pickT rfl rfl | exact Yd.pickF rfl rfl | exact Yd.pickB rfl rfl rfl)) ?_
  refine SL.val rfl rfl (Gd.g0 rfl) (Yd.move rfl) ?_
  refine SL.unw rfl rfl (Gd.no rfl rfl rfl rfl) ?_
  refine SL.unw rfl rfl (Gd.no rfl rfl rfl rfl) ?_
  refine SL.unw rfl rfl (Gd.no rfl rfl rfl rfl) ?_
  refine SL.val rfl rfl (Gd.g0 rfl) ((by first | exact Yd.pickT rfl rfl | exact Yd.pickF rfl rfl | exact Yd.pickB rfl rfl rfl)) ?_
  refine SL.val rfl rfl (Gd.g0 rfl) (Yd.move rfl) ?_
  refine SL.unw rfl rfl (Gd.no rfl rfl rfl rfl) ?_
  refine SL.unw rfl rfl (Gd.no rfl rfl rfl rfl) ?_
  refine SL.unw rfl rfl (Gd.no rfl rfl rfl rfl) ?_
  refine SL.unw rfl rfl (Gd.no rfl rfl rfl rfl) ?_
  refine SL.unw rfl rfl (Gd.no rfl rfl rfl rfl) ?_
  refine SL.val rfl rfl (Gd.g0 rfl) ((by first | exact Yd.pickT rfl rfl | exact Yd.pickF rfl rfl | exact Yd.pickB rfl rfl rfl)) ?_
  refine SL.val rfl rfl (Gd.g0 rfl) (Yd.move rfl) ?_
  refine SL.unw rfl rfl (Gd.no rfl rfl rfl rfl) ?_
  refine SL.unw rfl rfl (Gd.no rfl rfl rfl rfl) ?_
  refine SL.unw rfl rfl (Gd.no rfl rfl rfl rfl) ?_
  refine SL.val rfl rfl (Gd.g0 rfl) ((by first | exact Yd.pickT rfl rfl | exact Yd.pickF rfl rfl | exact Yd.pickB rfl rfl rfl)) ?_
  refine SL.val rfl rfl (Gd.g0 rfl) (Yd.move rfl) ?_
  refine SL.unw rfl rfl (Gd.no rfl rfl rfl rfl) ?_
  refine SL.unw rfl rfl (Gd.no rfl rfl rfl rfl) ?_
  refine SL.unw rfl rfl (Gd.no rfl rfl rfl rfl) ?_
  refine SL.unw rfl rfl (Gd.no rfl rfl rfl rfl) ?_
  refine SL.unw rfl rfl (Gd.no rfl rfl rfl rfl) ?_
  refine SL.val rfl rfl (Gd.g0 rfl) ((by first | exact Yd.pickT rfl rfl | exact Yd.pickF rfl rfl | exact Yd.pickB rfl rfl rfl)) ?_
  refine SL.val rfl rfl (Gd.g0 rfl) (Yd.move rfl) ?_
  refine SL.unw rfl rfl (Gd.no rfl rfl rfl rfl) ?_
  refine SL.unw rfl rfl (Gd.no rfl rfl rfl rfl) ?_
  refine SL.unw rfl rfl (Gd.no rfl rfl rfl rfl) ?_
  refine SL.val rfl rfl (Gd.g0 rfl) ((by first | exact Yd.pickT rfl rfl | exact Yd.pickF rfl rfl | exact Yd.pickB rfl rfl rfl)) ?_
  refine SL.val rfl rfl (Gd.g0 rfl) (Yd.move rfl) ?_
  refine SL.unw rfl rfl (Gd.no rfl rfl rfl rfl) ?_
  refine SL.unw rfl rfl (Gd.no rfl rfl rfl rfl) ?_
  refine SL.unw rfl rfl (Gd.no rfl rfl rfl rfl) ?_
  refine SL.unw rfl rfl (Gd.no rfl rfl rfl rfl) ?_
  refine SL.unw rfl rfl (Gd.no rfl rfl rfl rfl) ?_
  refine SL.val rfl rfl (Gd.g0 rfl) ((by first | exact Yd.pickT rfl rfl | exact Yd.pickF rfl rfl | exact Yd.pickB rfl rfl rfl)) ?_
  refine SL.val rfl rfl (Gd.g0 rfl) (Yd.move rfl) ?_
  refine SL.unw rfl rfl (Gd.no rfl rfl rfl rfl) ?_
  refine SL.unw rfl rfl (Gd.no rfl rfl rfl rfl) ?_
  refine SL.unw rfl rfl (Gd.no rfl rfl rfl rfl) ?_
  refine SL.val rfl rfl (Gd.g0 rfl) ((by first | exact Yd.pickT rfl rfl | exact Yd.pickF rfl rfl | exact Yd.pickB rfl rfl rfl)) ?_
  first | refine SL.nil_then ?_ | refine SL.nil ?_
  rotate_left
  refine SL.val rfl rfl (Gd.yes rfl rfl rfl) (Yd.fieldAddr rfl fo_37_5) ?_
  refine SL.val rfl rfl (Gd.yes rfl rfl rfl) ((by first | exact Yd.load rfl ag_3 (Wd.cell (i := 0) rfl rfl) | exact Yd.load rfl ag_3 (Wd.cell (i := 1) rfl rfl) | exact Yd.load rfl ag_3 (Wd.cell (i := 2) rfl rfl) | exact Yd.load rfl ag_3 (Wd.cell (i := 3) rfl rfl) | exact Yd.load rfl ag_3 (Wd.cell (i := 4) rfl rfl) | exact Yd.load rfl ag_3 (Wd.cell (i := 5) rfl rfl))) ?_
  refine SL.val rfl rfl (Gd.yes rfl rfl rfl) (Yd.lss rfl rfl) ?_
  refine SL.val rfl rfl (Gd.g0 rfl) ((by first | exact Yd.pickT rfl rfl | exact Yd.pickF rfl rfl | exact Yd.pickB rfl rfl rfl)) ?_
  refine SL.val rfl rfl (Gd.g0 rfl) (Yd.move rfl) ?_
  refine SL.splitD (dj := 61) rfl (fun hg61 => ?_) (fun hg61 => ?_)
  refine SL.unw rfl rfl (Gd.no rfl rfl rfl rfl) ?_
  refine SL.unw rfl rfl (Gd.no rfl rfl rfl rfl) ?_
  refine SL.unw rfl rfl (Gd.no rfl rfl rfl rfl) ?_
  refine SL.unw rfl rfl (Gd.no rfl rfl rfl rfl) ?_
  refine SL.val rfl rfl (Gd.g0 rfl) ((by first | exact Yd.pickT rfl rfl | exact Yd.pickF rfl rfl | exact Yd.pickB rfl rfl rfl)) ?_
  refine SL.val rfl rfl (Gd.g0 rfl) (Yd.move rfl) ?_
  refine SL.unw rfl rfl (Gd.no rfl rfl rfl rfl) ?_
  refine SL.unw rfl rfl (Gd.no rfl rfl rfl rfl) ?_
  refine SL.unw rfl rfl (Gd.no rfl rfl rfl rfl) ?_
  refine SL.val rfl rfl (Gd.g0 rfl) ((by first | exact Yd.pickT rfl rfl | exact Yd.pickF rfl rfl | exact Yd.pickB rfl rfl rfl)) ?_
  refine SL.val rfl rfl (Gd.g0 rfl) (Yd.move rfl) ?_
  refine SL.unw rfl rfl (Gd.no rfl rfl rfl rfl) ?_
  refine SL.unw rfl rfl (Gd.no rfl rfl rfl rfl) ?_
  refine SL.unw rfl rfl (Gd.no rfl rfl rfl rfl) ?_
  refine SL.val rfl rfl (Gd.g0 rfl) ((by first | exact Yd.pickT rfl rfl | exact Yd.pickF rfl rfl | exact Yd.pickB rfl rfl rfl)) ?_
  refine SL.val rfl rfl (Gd.g0 rfl) (Yd.move rfl) ?_
  refine SL.unw rfl rfl (Gd.no rfl rfl rfl rfl) ?_
  refine SL.unw rfl rfl (Gd.no rfl rfl rfl rfl) ?_
  refine SL.unw rfl rfl (Gd.no rfl rfl rfl rfl) ?_
  refine SL.val rfl rfl (Gd.g0 rfl) ((by first | exact Yd.pickT rfl rfl | exact Yd.pickF rfl rfl | exact Yd.pickB rfl rfl rfl)) ?_
  refine SL.val rfl rfl (Gd.g0 rfl) (Yd.move rfl) ?_
  refine SL.unw rfl rfl (Gd.no rfl rfl rfl rfl) ?_
  refine SL.unw rfl rfl (Gd.no rfl rfl rfl rfl) ?_
  refine SL.unw rfl rfl (Gd.no rfl rfl rfl rfl) ?_
  refine SL.unw rfl rfl (Gd.no rfl rfl rfl rfl) ?_
  refine SL.unw rfl rfl (Gd.no rfl rfl rfl rfl) ?_
  refine SL.val rfl rfl (Gd.g0 rfl) ((by first | exact Yd.pickT rfl rfl | exact Yd.pickF rfl rfl | exact Yd.pickB rfl rfl rfl)) ?_
  refine SL.val rfl rfl (Gd.g0 rfl) (Yd.move rfl) ?_
  refine SL.unw rfl rfl (Gd.no rfl rfl rfl rfl) ?_
  refine SL.unw rfl rfl (Gd.no rfl rfl rfl rfl) ?_
  refine SL.unw rfl rfl (Gd.no rfl rfl rfl rfl) ?_
  refine SL.val rfl rfl (Gd.g0 rfl) ((by first | exact Yd.pickT rfl rfl | exact Yd.pickF rfl rfl | exact Yd.pickB rfl rfl rfl)) ?_
  refine SL.val rfl rfl (Gd.g0 rfl) (Yd.move rfl) ?_
  refine SL.unw rfl rfl (Gd.no rfl rfl rfl rfl) ?_
  refine SL.unw rfl rfl (Gd.no rfl rfl rfl rfl) ?_
  refine SL.unw rfl rfl (Gd.no rfl rfl rfl rfl) ?_
  refine SL.unw rfl rfl (Gd.no rfl rfl rfl rfl) ?_
  refine SL.unw rfl rfl (Gd.no rfl rfl rfl rfl) ?_
  refine SL.val rfl rfl (Gd.g0 rfl) ((by first | exact Yd.pickT rfl rfl | exact Yd.pickF rfl rfl | exact Yd.pickB rfl rfl rfl)) ?_
  refine SL.val rfl rfl (Gd.g0 rfl) (Yd.move rfl) ?_
  refine SL.unw rfl rfl (Gd.no rfl rfl rfl rfl) ?_
  refine SL.unw rfl rfl (Gd.no rfl rfl rfl rfl) ?_
  refine SL.unw rfl rfl (Gd.no rfl rfl rfl rfl) ?_
  refine SL.val rfl rfl (Gd.g0 rfl) ((by first | exact Yd.pickT rfl rfl | exact Yd.pickF rfl rfl | exact Yd.pickB rfl rfl rfl)) ?_
  refine SL.val rfl rfl (Gd.g0 rfl) (Yd.move rfl) ?_
  refine SL.unw rfl rfl (Gd.no rfl rfl rfl rfl) ?_
  refine SL.unw rfl rfl (Gd.no rfl rfl rfl rfl) ?_
  refine SL.unw rfl rfl (Gd.no rfl rfl rfl rfl) ?_
  refine SL.unw rfl rfl (Gd.no rfl rfl rfl rfl) ?_
  refine SL.unw rfl rfl (Gd.no rfl rfl rfl rfl) ?_
  refine SL.val rfl rfl (Gd.g0 rfl) ((by first | exact Yd.pickT rfl rfl | exact Yd.pickF rfl rfl | exact Yd.pickB rfl rfl rfl)) ?_
  refine SL.val rfl rfl (Gd.g0 rfl) (Yd.move rfl) ?_
  refine SL.unw rfl rfl (Gd.no rfl rfl rfl rfl) ?_
  refine SL.unw rfl rfl (Gd.no rfl rfl rfl rfl) ?_
  refine SL.unw rfl rfl (Gd.no rfl rfl rfl rfl) ?_
  refine SL.val rfl rfl (Gd.g0 rfl) ((by first | exact Yd.pickT rfl rfl | exact Yd.pickF rfl rfl | exact Yd.pickB rfl rfl rfl)) ?_
  first | refine SL.nil_then ?_ | refine SL.nil ?_
  rotate_left
  refine SL.val rfl rfl (Gd.yes rfl rfl rfl) (Yd.move rfl) ?_
  refine SL.val rfl rfl (Gd.yes rfl rfl rfl) (Yd.fieldAddr rfl fo_37_5) ?_
  refine SL.val rfl rfl (Gd.yes rfl rfl rfl) ((by first | exact Yd.load rfl ag_3 (Wd.cell (i := 0) rfl rfl) | exact Yd.load rfl ag_3 (Wd.cell (i := 1) rfl rfl) | exact Yd.load rfl ag_3 (Wd.cell (i := 2) rfl rfl) | exact Yd.load rfl ag_3 (Wd.cell (i := 3) rfl rfl) | exact Yd.load rfl ag_3 (Wd.cell (i := 4) rfl rfl) | exact Yd.load rfl ag_3 (Wd.cell (i := 5) rfl rfl))) ?_
  refine SL.val rfl rfl (Gd.yes rfl rfl rfl) (Yd.inSet (i := 1) EI mt_71 z1_4 rfl rfl rfl hgp (wf64 (by omega) hpi)) ?_
  refine SL.val rfl rfl (Gd.g0 rfl) ((by first | exact Yd.pickT rfl rfl | exact Yd.pickF rfl rfl | exact Yd.pickB rfl rfl rfl)) ?_
  refine SL.val rfl rfl (Gd.g0 rfl) (Yd.move rfl) ?_
  refine SL.splitD (dj := 67) rfl (fun hg67 => ?_) (fun hg67 => ?_)
  refine SL.unw rfl rfl (Gd.no rfl rfl rfl rfl) ?_
  refine SL.unw rfl rfl (Gd.no rfl rfl rfl rfl) ?_
  refine SL.unw rfl rfl (Gd.no rfl rfl rfl rfl) ?_
  refine SL.val rfl rfl (Gd.g0 rfl) ((by first | exact Yd.pickT rfl rfl | exact Yd.pickF rfl rfl | exact Yd.pickB rfl rfl rfl)) ?_
  refine SL.val rfl rfl (Gd.g0 rfl) (Yd.move rfl) ?_
  refine SL.unw rfl rfl (Gd.no rfl rfl rfl rfl) ?_
  refine SL.unw rfl rfl (Gd.no rfl rfl rfl rfl) ?_
  refine SL.unw rfl rfl (Gd.no rfl rfl rfl rfl) ?_
  refine SL.val rfl rfl (Gd.g0 rfl) ((by first | exact Yd.pickT rfl rfl | exact Yd.pickF rfl rfl | exact Yd.pickB rfl rfl rfl)) ?_
  refine SL.val rfl rfl (Gd.g0 rfl) (Yd.move rfl) ?_
  refine SL.unw rfl rfl (Gd.no rfl rfl rfl rfl) ?_
  refine SL.unw rfl rfl (Gd.no rfl rfl rfl rfl) ?_
  refine SL.unw rfl rfl (Gd.no rfl rfl rfl rfl) ?_
  refine SL.val rfl rfl (Gd.g0 rfl) ((by first | exact Yd.pickT rfl rfl | exact Yd.pickF rfl rfl | exact Yd.pickB rfl rfl rfl)) ?_
  refine SL.val rfl rfl (Gd.g0 rfl) (Yd.move rfl) ?_
  refine SL.unw rfl rfl (Gd.no rfl rfl rfl rfl) ?_
  refine SL.unw rfl rfl (Gd.no rfl rfl rfl rfl) ?_
  refine SL.unw rfl rfl (Gd.no rfl rfl rfl rfl) ?_
  refine SL.unw rfl rfl (Gd.no rfl rfl rfl rfl) ?_
  refine SL.unw rfl rfl (Gd.no rfl rfl rfl rfl) ?_
  refine SL.val rfl rfl (Gd.g0 rfl) ((by first | exact Yd.pickT rfl rfl | exact Yd.pickF rfl rfl | exact Yd.pickB rfl rfl rfl)) ?_
  refine SL.val rfl rfl (Gd.g0 rfl) (Yd.move rfl) ?_
  refine SL.unw rfl rfl (Gd.no rfl rfl rfl rfl) ?_
  refine SL.unw rfl rfl (Gd.no rfl rfl rfl rfl) ?_
  refine SL.unw rfl rfl (Gd.no rfl rfl rfl rfl) ?_
  refine SL.val rfl rfl (Gd.g0 rfl) ((by first | exact Yd.pickT rfl rfl | exact Yd.pickF rfl rfl | exact Yd.pickB rfl rfl rfl)) ?_
  refine SL.val rfl rfl (Gd.g0 rfl) (Yd.move rfl) ?_
  refine SL.unw rfl rfl (Gd.no rfl rfl rfl rfl) ?_
  refine SL.unw rfl rfl (Gd.no rfl rfl rfl rfl) ?_
  refine SL.unw rfl rfl (Gd.no rfl rfl rfl rfl) ?_
  refine SL.unw rfl rfl (Gd.no rfl rfl rfl rfl) ?_
  refine SL.unw rfl rfl (Gd.no rfl rfl rfl rfl) ?_
  refine SL.val rfl rfl (Gd.g0 rfl) ((by first | exact Yd.pickT rfl rfl | exact Yd.pickF rfl rfl | exact Yd.pickB rfl rfl rfl)) ?_
  refine SL.val rfl rfl (Gd.g0 rfl) (Yd.move rfl) ?_
  refine SL.unw rfl rfl (Gd.no rfl rfl rfl rfl) ?_
  refine SL.unw rfl rfl (Gd.no rfl rfl rfl rfl) ?_
  refine SL.unw rfl rfl (Gd.no rfl rfl rfl rfl) ?_
  refine SL.val rfl rfl (Gd.g0 rfl) ((by first | exact Yd.pickT rfl rfl | exact Yd.pickF rfl rfl | exact Yd.pickB rfl rfl rfl)) ?_
  refine SL.val rfl rfl (Gd.g0 rfl) (Yd.move rfl) ?_
  refine SL.unw rfl rfl (Gd.no rfl rfl rfl rfl) ?_
  refine SL.unw rfl rfl (Gd.no rfl rfl rfl rfl) ?_
  refine SL.unw rfl rfl (Gd.no rfl rfl rfl rfl) ?_
  refine SL.unw rfl rfl (Gd.no rfl rfl rfl rfl) ?_
  refine SL.unw rfl rfl (Gd.no rfl rfl rfl rfl) ?_
  refine SL.val rfl rfl (Gd.g0 rfl) ((by first | exact Yd.pickT rfl rfl | exact Yd.pickF rfl rfl | exact Yd.pickB rfl rfl rfl)) ?_
  refine SL.val rfl rfl (Gd.g0 rfl) (Yd.move rfl) ?_
  refine SL.unw rfl rfl (Gd.no rfl rfl rfl rfl) ?_
  refine SL.unw rfl rfl (Gd.no rfl rfl rfl rfl) ?_
  refine SL.unw rfl rfl (Gd.no rfl rfl rfl rfl) ?_
  refine SL.val rfl rfl (Gd.g0 rfl) ((by first | exact Yd.pickT rfl rfl | exact Yd.pickF rfl rfl | exact Yd.pickB rfl rfl rfl)) ?_
  first | refine SL.nil_then ?_ | refine SL.nil ?_
  rotate_left
  refine SL.val rfl rfl (Gd.yes rfl rfl rfl) (Yd.fieldAddr rfl fo_37_1) ?_
  refine SL.val rfl rfl (Gd.yes rfl rfl rfl) ((by first | exact Yd.load rfl ag_2 (Wd.cell (i := 0) rfl rfl) | exact Yd.load rfl ag_2 (Wd.cell (i := 1) rfl rfl) | exact Yd.load rfl ag_2 (Wd.cell (i := 2) rfl rfl) | exact Yd.load rfl ag_2 (Wd.cell (i := 3) rfl rfl) | exact Yd.load rfl ag_2 (Wd.cell (i := 4) rfl rfl) | exact Yd.load rfl ag_2 (Wd.cell (i := 5) rfl rfl))) ?_
  refine SL.val rfl rfl (Gd.yes rfl rfl rfl) (Yd.lss rfl rfl) ?_
  refine SL.val rfl rfl (Gd.g0 rfl) ((by first | exact Yd.pickT rfl rfl | exact Yd.pickF rfl rfl | exact Yd.pickB rfl rfl rfl)) ?_
  refine SL.val rfl rfl (Gd.g0 rfl) (Yd.move rfl) ?_
  refine SL.splitD (dj := 72) rfl (fun hg72 => ?_) (fun hg72 => ?_)
  refine SL.unw rfl rfl (Gd.no rfl rfl rfl rfl) ?_
  refine SL.unw rfl rfl (Gd.no rfl rfl rfl rfl) ?_
  refine SL.unw rfl rfl (Gd.no rfl rfl rfl rfl) ?_
  refine SL.val rfl rfl (Gd.g0 rfl) ((by first | exact Yd.pickT rfl rfl | exact Yd.pickF rfl rfl | exact Yd.pickB rfl rfl rfl)) ?_
  refine SL.val rfl rfl (Gd.g0 rfl) (Yd.move rfl) ?_
  refine SL.unw rfl rfl (Gd.no rfl rfl rfl rfl) ?_
  refine SL.unw rfl rfl (Gd.no rfl rfl rfl rfl) ?_
  refine SL.unw rfl rfl (Gd.no rfl rfl rfl rfl) ?_
  refine SL.val rfl rfl (Gd.g0 rfl) ((by first | exact Yd.pickT rfl rfl | exact Yd.pickF rfl rfl | exact Yd.pickB rfl rfl rfl)) ?_
  refine SL.val rfl rfl (Gd.g0 rfl) (Yd.move rfl) ?_
  refine SL.unw rfl rfl (Gd.no rfl rfl rfl rfl) ?_
  refine SL.unw rfl rfl (Gd.no rfl rfl rfl rfl) ?_
  refine SL.unw rfl rfl (Gd.no rfl rfl rfl rfl) ?_
  refine SL.unw rfl rfl (Gd.no rfl rfl rfl rfl) ?_
  refine SL.unw rfl rfl (Gd.no rfl rfl rfl rfl) ?_
  refine SL.val rfl rfl (Gd.g0 rfl) ((by first | exact Yd.pickT rfl rfl | exact Yd.pickF rfl rfl | exact Yd.pickB rfl rfl rfl)) ?_
  refine SL.val rfl rfl (Gd.g0 rfl) (Yd.move rfl) ?_
  refine SL.unw rfl rfl (Gd.no rfl rfl rfl rfl) ?_
  refine SL.unw rfl rfl (Gd.no rfl rfl rfl rfl) ?_
  refine SL.unw rfl rfl (Gd.no rfl rfl rfl rfl) ?_
  refine SL.val rfl rfl (Gd.g0 rfl) ((by first | exact Yd.pickT rfl rfl | exact Yd.pickF rfl rfl | exact Yd.pickB rfl rfl rfl)) ?_
  refine SL.val rfl rfl (Gd.g0 rfl) (Yd.move rfl) ?_
  refine SL.unw rfl rfl (Gd.no rfl rfl rfl rfl) ?_
  refine SL.unw rfl rfl (Gd.no rfl rfl rfl rfl) ?_
  refine SL.unw rfl rfl (Gd.no rfl rfl rfl rfl) ?_
  refine SL.unw rfl rfl (Gd.no rfl rfl rfl rfl) ?_
  refine SL.unw rfl rfl (Gd.no rfl rfl rfl rfl) ?_
  refine SL.val rfl rfl (Gd.g0 rfl) ((by first | exact Yd.pickT rfl rfl | exact Yd.pickF rfl rfl | exact Yd.pickB rfl rfl rfl)) ?_
  refine SL.val rfl rfl (Gd.g0 rfl) (Yd.move rfl) ?_
  refine SL.unw rfl rfl (Gd.no rfl rfl rfl rfl) ?_
  refine SL.unw rfl rfl (Gd.no rfl rfl rfl rfl) ?_
  refine SL.unw rfl rfl (Gd.no rfl rfl rfl rfl) ?_
  refine SL.val rfl rfl (Gd.g0 rfl) ((by first | exact Yd.pickT rfl rfl | exact Yd.pickF rfl rfl | exact Yd.pickB rfl rfl rfl)) ?_
  refine SL.val rfl rfl (Gd.g0 rfl) (Yd.move rfl) ?_
  refine SL.unw rfl rfl (Gd.no rfl rfl rfl rfl) ?_
  refine SL.unw rfl rfl (Gd.no rfl rfl rfl rfl) ?_
  refine SL.unw rfl rfl (Gd.no rfl rfl rfl rfl) ?_
  refine SL.unw rfl rfl (Gd.no rfl rfl rfl rfl) ?_
  refine SL.unw rfl rfl (Gd.no rfl rfl rfl rfl) ?_
  refine SL.val rfl rfl (Gd.g0 rfl) ((by first | exact Yd.pickT rfl rfl | exact Yd.pickF rfl rfl | exact Yd.pickB rfl rfl rfl)) ?_
  refine SL.val rfl rfl (Gd.g0 rfl) (Yd.move rfl) ?_
  refine SL.unw rfl rfl (Gd.no rfl rfl rfl rfl) ?_
  refine SL.unw rfl rfl (Gd.no rfl rfl rfl rfl) ?_
  refine SL.unw rfl rfl (Gd.no rfl rfl rfl rfl) ?_
  refine SL.val rfl rfl (Gd.g0 rfl) ((by first | exact Yd.pickT rfl rfl | exact Yd.pickF rfl rfl | exact Yd.pickB rfl rfl rfl)) ?_
  first | refine SL.nil_then ?_ | refine SL.nil ?_
  rotate_left
  refine SL.val rfl rfl (Gd.yes rfl rfl rfl) (Yd.fieldAddr rfl fo_37_1) ?_
  refine SL.val rfl rfl (Gd.yes rfl rfl rfl) ((by first | exact Yd.load rfl ag_2 (Wd.cell (i := 0) rfl rfl) | exact Yd.load rfl ag_2 (Wd.cell (i := 1) rfl rfl) | exact Yd.load rfl ag_2 (Wd.cell (i := 2) rfl rfl) | exact Yd.load rfl ag_2 (Wd.cell (i := 3) rfl rfl) | exact Yd.load rfl ag_2 (Wd.cell (i := 4) rfl rfl) | exact Yd.load rfl ag_2 (Wd.cell (i := 5) rfl rfl))) ?_
  refine SL.val rfl rfl (Gd.yes rfl rfl rfl) (Yd.gtr rfl rfl) ?_
  refine SL.val rfl rfl (Gd.g0 rfl) ((by first | exact Yd.pickT rfl rfl | exact Yd.pickF rfl rfl | exact Yd.pickB rfl rfl rfl)) ?_
  refine SL.val rfl rfl (Gd.g0 rfl) (Yd.move rfl) ?_
  refine SL.splitD (dj := 77) rfl (fun hg77 => ?_) (fun hg77 => ?_)
  refine SL.unw rfl rfl (Gd.no rfl rfl rfl rfl) ?_
  refine SL.unw rfl rfl (Gd.no rfl rfl rfl rfl) ?_
  refine SL.unw rfl rfl (Gd.no rfl rfl rfl rfl) ?_
  refine SL.val rfl rfl (Gd.g0 rfl) ((by first | exact Yd.pickT rfl rfl | exact Yd.pickF rfl rfl | exact Yd.pickB rfl rfl rfl)) ?_
  refine SL.val rfl rfl (Gd.g0 rfl) (Yd.move rfl) ?_
  refine SL.unw rfl rfl (Gd.no rfl rfl rfl rfl) ?_
  refine SL.unw rfl rfl (Gd.no rfl rfl rfl rfl) ?_
  refine SL.unw rfl rfl (Gd.no rfl rfl rfl rfl) ?_
  refine SL.unw rfl rfl (Gd.no rfl rfl rfl rfl) ?_
  refine SL.unw rfl rfl (Gd.no rfl rfl rfl rfl) ?_
  refine SL.val rfl rfl (Gd.g0 rfl) ((by first | exact Yd.pickT rfl rfl | exact Yd.pickF rfl rfl | exact Yd.pickB rfl rfl rfl)) ?_
  refine SL.val rfl rfl (Gd.g0 rfl) (Yd.move rfl) ?_
  refine SL.unw rfl rfl (Gd.no rfl rfl rfl rfl) ?_
  refine SL.unw rfl rfl (Gd.no rfl rfl rfl rfl) ?_
  refine SL.unw rfl rfl (Gd.no rfl rfl rfl rfl) ?_
  refine SL.val rfl rfl (Gd.g0 rfl) ((by first | exact Yd.pickT rfl rfl | exact Yd.pickF rfl rfl | exact Yd.pickB rfl rfl rfl)) ?_
  refine SL.val rfl rfl (Gd.g0 rfl) (Yd.move rfl) ?_
  refine SL.unw rfl rfl (Gd.no rfl rfl rfl rfl) ?_
  refine SL.unw rfl rfl (Gd.no rfl rfl rfl rfl) ?_
  refine SL.unw rfl rfl (Gd.no rfl rfl rfl rfl) ?_
  refine SL.unw rfl rfl (Gd.no rfl rfl rfl rfl) ?_
  refine SL.unw rfl rfl (Gd.no rfl rfl rfl rfl) ?_
  refine SL.val rfl rfl (Gd.g0 rfl) ((by first | exact Yd.pickT rfl rfl | exact Yd.pickF rfl rfl | exact Yd.pickB rfl rfl rfl)) ?_
  refine SL.val rfl rfl (Gd.g0 rfl) (Yd.move rfl) ?_
  refine SL.unw rfl rfl (Gd.no rfl rfl rfl rfl) ?_
  refine SL.unw rfl rfl (Gd.no rfl rfl rfl rfl) ?_
  refine SL.unw rfl rfl (Gd.no rfl rfl rfl rfl) ?_
  refine SL.val rfl rfl (Gd.g0 rfl) ((by first | exact Yd.pickT rfl rfl | exact Yd.pickF rfl rfl | exact Yd.pickB rfl rfl rfl)) ?_
  refine SL.val rfl rfl (Gd.g0 rfl) (Yd.move rfl) ?_
  refine SL.unw rfl rfl (Gd.no rfl rfl rfl rfl) ?_
  refine SL.unw rfl rfl (Gd.no rfl rfl rfl rfl) ?_
  refine SL.unw rfl rfl (Gd.no rfl rfl rfl rfl) ?_
  refine SL.unw rfl rfl (Gd.no rfl rfl rfl rfl) ?_
  refine SL.unw rfl rfl (Gd.no rfl rfl rfl rfl) ?_
  refine SL.val rfl rfl (Gd.g0 rfl) ((by first | exact Yd.pickT rfl rfl | exact Yd.pickF rfl rfl | exact Yd.pickB rfl rfl rfl)) ?_
  refine SL.val rfl rfl (Gd.g0 rfl) (Yd.move rfl) ?_
  refine SL.unw rfl rfl (Gd.no rfl rfl rfl rfl) ?_
  refine SL.unw rfl rfl (Gd.no rfl rfl rfl rfl) ?_
  refine SL.unw rfl rfl (Gd.no rfl rfl rfl rfl) ?_
  refine SL.val rfl rfl (Gd.g0 rfl) ((by first | exact Yd.pickT rfl rfl | exact Yd.pickF rfl rfl | exact Yd.pickB rfl rfl rfl)) ?_
  first | refine SL.nil_then ?_ | refine SL.nil ?_
  rotate_left
  refine SL.val rfl rfl (Gd.yes rfl rfl rfl) (Yd.fieldAddr rfl fo_37_2) ?_
  refine SL.val rfl rfl (Gd.yes rfl rfl rfl) ((by first | exact Yd.load rfl ag_2 (Wd.cell (i := 0) rfl rfl) | exact Yd.load rfl ag_2 (Wd.cell (i := 1) rfl rfl) | exact Yd.load rfl ag_2 (Wd.cell (i := 2) rfl rfl) | exact Yd.load rfl ag_2 (Wd.cell (i := 3) rfl rfl) | exact Yd.load rfl ag_2 (Wd.cell (i := 4) rfl rfl) | exact Yd.load rfl ag_2 (Wd.cell (i := 5) rfl rfl))) ?_
  refine SL.val rfl rfl (Gd.yes rfl rfl rfl) (Yd.lss rfl rfl) ?_
  refine SL.val rfl rfl (Gd.g0 rfl) ((by first | exact Yd.pickT rfl rfl | exact Yd.pickF rfl rfl | exact Yd.pickB rfl rfl rfl)) ?_
  refine SL.val rfl rfl (Gd.g0 rfl) (Yd.move rfl) ?_
  refine SL.splitD (dj := 82) rfl (fun hg82 => ?_) (fun hg82 => ?_)
  refine SL.unw rfl rfl (Gd.no rfl rfl rfl rfl) ?_
  refine SL.unw rfl rfl (Gd.no rfl rfl rfl rfl) ?_
  refine SL.unw rfl rfl (Gd.no rfl rfl rfl rfl) ?_
  refine SL.unw rfl rfl (Gd.no rfl rfl rfl rfl) ?_
  refine SL.unw rfl rfl (Gd.no rfl rfl rfl rfl) ?_
  refine SL.val rfl rfl (Gd.g0 rfl) ((by first | exact Yd.pickT rfl rfl | exact Yd.pickF rfl rfl | exact Yd.pickB rfl rfl rfl)) ?_
  refine SL.val rfl rfl (Gd.g0 rfl) (Yd.move rfl) ?_
  refine SL.unw rfl rfl (Gd.no rfl rfl rfl rfl) ?_
  refine SL.unw rfl rfl (Gd.no rfl rfl rfl rfl) ?_
  refine SL.unw rfl rfl (Gd.no rfl rfl rfl rfl) ?_
  refine SL.val rfl rfl (Gd.g0 rfl) ((by first | exact Yd.pickT rfl rfl | exact Yd.pickF rfl rfl | exact Yd.pickB rfl rfl rfl)) ?_
  refine SL.val rfl rfl (Gd.g0 rfl) (Yd.move rfl) ?_
  refine SL.unw rfl rfl (Gd.no rfl rfl rfl rfl) ?_
  refine SL.unw rfl rfl (Gd.no rfl rfl rfl rfl) ?_
  refine SL.unw rfl rfl (Gd.no rfl rfl rfl rfl) ?_
  refine SL.unw rfl rfl (Gd.no rfl rfl rfl rfl) ?_
  refine SL.unw rfl rfl (Gd.no rfl rfl rfl rfl) ?_
  refine SL.val rfl rfl (Gd.g0 rfl) ((by first | exact Yd.pickT rfl rfl | exact Yd.pickF rfl rfl | exact Yd.pickB rfl rfl rfl)) ?_
  refine SL.val rfl rfl (Gd.g0 rfl) (Yd.move rfl) ?_
  refine SL.unw rfl rfl (Gd.no rfl rfl rfl rfl) ?_
  refine SL.unw rfl rfl (Gd.no rfl rfl rfl rfl) ?_
  refine SL.unw rfl rfl (Gd.no rfl rfl rfl rfl) ?_
  refine SL.val rfl rfl (Gd.g0 rfl) ((by first | exact Yd.pickT rfl rfl | exact Yd.pickF rfl rfl | exact Yd.pickB rfl rfl rfl)) ?_
  refine SL.val rfl rfl (Gd.g0 rfl) (Yd.move rfl) ?_
  refine SL.unw rfl rfl (Gd.no rfl rfl rfl rfl) ?_
  refine SL.unw rfl rfl (Gd.no rfl rfl rfl rfl) ?_
  refine SL.unw rfl rfl (Gd.no rfl rfl rfl rfl) ?_
  refine SL.unw rfl rfl (Gd.no rfl rfl rfl rfl) ?_
  refine SL.unw rfl rfl (Gd.no rfl rfl rfl rfl) ?_
  refine SL.val rfl rfl (Gd.g0 rfl) ((by first | exact Yd.pickT rfl rfl | exact Yd.pickF rfl rfl | exact Yd.pickB rfl rfl rfl)) ?_
  refine SL.val rfl rfl (Gd.g0 rfl) (Yd.move rfl) ?_
  refine SL.unw rfl rfl (Gd.no rfl rfl rfl rfl) ?_
  refine SL.unw rfl rfl (Gd.no rfl rfl rfl rfl) ?_
  refine SL.unw rfl rfl (Gd.no rfl rfl rfl rfl) ?_
  refine SL.val rfl rfl (Gd.g0 rfl) ((by first | exact Yd.pickT rfl rfl | exact Yd.pickF rfl rfl | exact Yd.pickB rfl rfl rfl)) ?_
  first | refine SL.nil_then ?_ | refine SL.nil ?_
  rotate_left
  refine SL.val rfl rfl (Gd.yes rfl rfl rfl) (Yd.fieldAddr rfl fo_37_2) ?_
  refine SL.val rfl rfl (Gd.yes rfl rfl rfl) ((by first | exact Yd.load rfl ag_2 (Wd.cell (i := 0) rfl rfl) | exact Yd.load rfl ag_2 (Wd.cell (i := 1) rfl rfl) | exact Yd.load rfl ag_2 (Wd.cell (i := 2) rfl rfl) | exact Yd.load rfl ag_2 (Wd.cell (i := 3) rfl rfl) | exact Yd.load rfl ag_2 (Wd.cell (i := 4) rfl rfl) | exact Yd.load rfl ag_2 (Wd.cell (i := 5) rfl rfl))) ?_
  refine SL.val rfl rfl (Gd.yes rfl rfl rfl) (Yd.fieldAddr rfl fo_37_1) ?_
  refine SL.val rfl rfl (Gd.yes rfl rfl rfl) ((by first | exact Yd.load rfl ag_2 (Wd.cell (i := 0) rfl rfl) | exact Yd.load rfl ag_2 (Wd.cell (i := 1) rfl rfl) | exact Yd.load rfl ag_2 (Wd.cell (i := 2) rfl rfl) | exact Yd.load rfl ag_2 (Wd.cell (i := 3) rfl rfl) | exact Yd.load rfl ag_2 (Wd.cell (i := 4) rfl rfl) | exact Yd.load rfl ag_2 (Wd.cell (i := 5) rfl rfl))) ?_
  refine SL.val rfl rfl (Gd.yes rfl rfl rfl) (Yd.geq rfl rfl) ?_
  refine SL.val rfl rfl (Gd.g0 rfl) ((by first | exact Yd.pickT rfl rfl | exact Yd.pickF rfl rfl | exact Yd.pickB rfl rfl rfl)) ?_
  refine SL.val rfl rfl (Gd.g0 rfl) (Yd.move rfl) ?_
  refine SL.splitD (dj := 89) rfl (fun hg89 => ?_) (fun hg89 => ?_)
  refine SL.unw rfl rfl (Gd.no rfl rfl rfl rfl) ?_
  refine SL.unw rfl rfl (Gd.no rfl rfl rfl rfl) ?_
  refine SL.unw rfl rfl (Gd.no rfl rfl rfl rfl) ?_
  refine SL.val rfl rfl (Gd.g0 rfl) ((by first | exact Yd.pickT rfl rfl | exact Yd.pickF rfl rfl | exact Yd.pickB rfl rfl rfl)) ?_
  refine SL.val rfl rfl (Gd.g0 rfl) (Yd.move rfl) ?_
  refine SL.unw rfl rfl (Gd.no rfl rfl rfl rfl) ?_
  refine SL.unw rfl rfl (Gd.no rfl rfl rfl rfl) ?_
  refine SL.unw rfl rfl (Gd.no rfl rfl rfl rfl) ?_
  refine SL.unw rfl rfl (Gd.no rfl rfl rfl rfl) ?_
  refine SL.unw rfl rfl (Gd.no rfl rfl rfl rfl) ?_
  refine SL.val rfl rfl (Gd.g0 rfl) ((by first | exact Yd.pickT rfl rfl | exact Yd.pickF rfl rfl | exact Yd.pickB rfl rfl rfl)) ?_
  refine SL.val rfl rfl (Gd.g0 rfl) (Yd.move rfl) ?_
  refine SL.unw rfl rfl (Gd.no rfl rfl rfl rfl) ?_
  refine SL.unw rfl rfl (Gd.no rfl rfl rfl rfl) ?_
  refine SL.unw rfl rfl (Gd.no rfl rfl rfl rfl) ?_
  refine SL.val rfl rfl (Gd.g0 rfl) ((by first | exact Yd.pickT rfl rfl | exact Yd.pickF rfl rfl | exact Yd.pickB rfl rfl rfl)) ?_
  refine SL.val rfl rfl (Gd.g0 rfl) (Yd.move rfl) ?_
  refine SL.unw rfl rfl (Gd.no rfl rfl rfl rfl) ?_
  refine SL.unw rfl rfl (Gd.no rfl rfl rfl rfl) ?_
  refine SL.unw rfl rfl (Gd.no rfl rfl rfl rfl) ?_
  refine SL.unw rfl rfl (Gd.no rfl rfl rfl rfl) ?_
  refine SL.unw rfl rfl (Gd.no rfl rfl rfl rfl) ?_
  refine SL.val rfl rfl (Gd.g0 rfl) ((by first | exact Yd.pickT rfl rfl | exact Yd.pickF rfl rfl | exact Yd.pickB rfl rfl rfl)) ?_
  refine SL.val rfl rfl (Gd.g0 rfl) (Yd.move rfl) ?_
  refine SL.unw rfl rfl (Gd.no rfl rfl rfl rfl) ?_
  refine SL.unw rfl rfl (Gd.no rfl rfl rfl rfl) ?_
  refine SL.unw rfl rfl (Gd.no rfl rfl rfl rfl) ?_
  refine SL.val rfl rfl (Gd.g0 rfl) ((by first | exact Yd.pickT rfl rfl | exact Yd.pickF rfl rfl | exact Yd.pickB rfl rfl rfl)) ?_
  first | refine SL.nil_then ?_ | refine SL.nil ?_
  rotate_left
  refine SL.val rfl rfl (Gd.yes rfl rfl rfl) (Yd.fieldAddr rfl fo_37_3) ?_
  refine SL.val rfl rfl (Gd.yes rfl rfl rfl) ((by first | exact Yd.load rfl ag_2 (Wd.cell (i := 0) rfl rfl) | exact Yd.load rfl ag_2 (Wd.cell (i := 1) rfl rfl) | exact Yd.load rfl ag_2 (Wd.cell (i := 2) rfl rfl) | exact Yd.load rfl ag_2 (Wd.cell (i := 3) rfl rfl) | exact Yd.load rfl ag_2 (Wd.cell (i := 4) rfl rfl) | exact Yd.load rfl ag_2 (Wd.cell (i := 5) rfl rfl))) ?_
  refine SL.val rfl rfl (Gd.yes rfl rfl rfl) (Yd.lss rfl rfl) ?_
  refine SL.val rfl rfl (Gd.g0 rfl) ((by first | exact Yd.pickT rfl rfl | exact Yd.pickF rfl rfl | exact Yd.pickB rfl rfl rfl)) ?_
  refine SL.val rfl rfl (Gd.g0 rfl) (Yd.move rfl) ?_
  refine SL.splitD (dj := 94) rfl (fun hg94 => ?_) (fun hg94 => ?_)
  refine SL.unw rfl rfl (Gd.no rfl rfl rfl rfl) ?_
  refine SL.unw rfl rfl (Gd.no rfl rfl rfl rfl) ?_
  refine SL.unw rfl rfl (Gd.no rfl rfl rfl rfl) ?_
  refine SL.unw rfl rfl (Gd.no rfl rfl rfl rfl) ?_
  refine SL.unw rfl rfl (Gd.no rfl rfl rfl rfl) ?_
  refine SL.val rfl rfl (Gd.g0 rfl) ((by first | exact Yd.pickT rfl rfl | exact Yd.pickF rfl rfl | exact Yd.pickB rfl rfl rfl)) ?_
  refine SL.val rfl rfl (Gd.g0 rfl) (Yd.move rfl) ?_
  refine SL.unw rfl rfl (Gd.no rfl rfl rfl rfl) ?_
  refine SL.unw rfl rfl (Gd.no rfl rfl rfl rfl) ?_
  refine SL.unw rfl rfl (Gd.no rfl rfl rfl rfl) ?_
  refine SL.val rfl rfl (Gd.g0 rfl) ((by first | exact Yd.pickT rfl rfl | exact Yd.pickF rfl rfl | exact Yd.pickB rfl rfl rfl)) ?_
  refine SL.val rfl rfl (Gd.g0 rfl) (Yd.move rfl) ?_
  refine SL.unw rfl rfl (Gd.no rfl rfl rfl rfl) ?_
  refine SL.unw rfl rfl (Gd.no rfl rfl rfl rfl) ?_
  refine SL.unw rfl rfl (Gd.no rfl rfl rfl rfl) ?_
  refine SL.unw rfl rfl (Gd.no rfl rfl rfl rfl) ?_
  refine SL.unw rfl rfl (Gd.no rfl rfl rfl rfl) ?_
  refine SL.val rfl rfl (Gd.g0 rfl) ((by first | exact Yd.pickT rfl rfl | exact Yd.pickF rfl rfl | exact Yd.pickB rfl rfl rfl)) ?_
  refine SL.val rfl rfl (Gd.g0 rfl) (Yd.move rfl) ?_
  refine SL.unw rfl rfl (Gd.no rfl rfl rfl rfl) ?_
  refine SL.unw rfl rfl (Gd.no rfl rfl rfl rfl) ?_
  refine SL.unw rfl rfl (Gd.no rfl rfl rfl rfl) ?_
  refine SL.val rfl rfl (Gd.g0 rfl) ((by first | exact Yd.pickT rfl rfl | exact Yd.pickF rfl rfl | exact Yd.pickB rfl rfl rfl)) ?_
  first | refine SL.nil_then ?_ | refine SL.nil ?_
  rotate_left
  refine SL.val rfl rfl (Gd.yes rfl rfl rfl) (Yd.fieldAddr rfl fo_37_3) ?_
  refine SL.val rfl rfl (Gd.yes rfl rfl rfl) ((by first | exact Yd.load rfl ag_2 (Wd.cell (i := 0) rfl rfl) | exact Yd.load rfl ag_2 (Wd.cell (i := 1) rfl rfl) | exact Yd.load rfl ag_2 (Wd.cell (i := 2) rfl rfl) | exact Yd.load rfl ag_2 (Wd.cell (i := 3) rfl rfl) | exact Yd.load rfl ag_2 (Wd.cell (i := 4) rfl rfl) | exact Yd.load rfl ag_2 (Wd.cell (i := 5) rfl rfl))) ?_
  refine SL.val rfl rfl (Gd.yes rfl rfl rfl) (Yd.fieldAddr rfl fo_37_1) ?_
  refine SL.val rfl rfl (Gd.yes rfl rfl rfl) ((by first | exact Yd.load rfl ag_2 (Wd.cell (i := 0) rfl rfl) | exact Yd.load rfl ag_2 (Wd.cell (i := 1) rfl rfl) | exact Yd.load rfl ag_2 (Wd.cell (i := 2) rfl rfl) | exact Yd.load rfl ag_2 (Wd.cell (i := 3) rfl rfl) | exact Yd.load rfl ag_2 (Wd.cell (i := 4) rfl rfl) | exact Yd.load rfl ag_2 (Wd.cell (i := 5) rfl rfl))) ?_
  refine SL.val rfl rfl (Gd.yes rfl rfl rfl) (Yd.gtr rfl rfl) ?_
  refine SL.val rfl rfl (Gd.g0 rfl) ((by first | exact Yd.pickT rfl rfl | exact Yd.pickF rfl rfl | exact Yd.pickB rfl rfl rfl)) ?_
  refine SL.val rfl rfl (Gd.g0 rfl) (Yd.move rfl) ?_
  refine SL.splitD (dj := 101) rfl (fun hg101 => ?_) (fun hg101 => ?_)
  refine SL.unw rfl rfl (Gd.no rfl rfl rfl rfl) ?_
  refine SL.unw rfl rfl (Gd.no rfl rfl rfl rfl) ?_
  refine SL.unw rfl rfl (Gd.no rfl rfl rfl rfl) ?_
  refine SL.val rfl rfl (Gd.g0 rfl) ((by first | exact Yd.pickT rfl rfl | exact Yd.pickF rfl rfl | exact Yd.pickB rfl rfl rfl)) ?_
  refine SL.val rfl rfl (Gd.g0 rfl) (Yd.move rfl) ?_
  refine SL.unw rfl rfl (Gd.no rfl rfl rfl rfl) ?_
  refine SL.unw rfl rfl (Gd.no rfl rfl rfl rfl) ?_
  refine SL.unw rfl rfl (Gd.no rfl rfl rfl rfl) ?_
  refine SL.unw rfl rfl (Gd.no rfl rfl rfl rfl) ?_
  refine SL.unw rfl rfl (Gd.no rfl rfl rfl rfl) ?_
  refine SL.val rfl rfl (Gd.g0 rfl) ((by first | exact Yd.pickT rfl rfl | exact Yd.pickF rfl rfl | exact Yd.pickB rfl rfl rfl)) ?_
  refine SL.val rfl rfl (Gd.g0 rfl) (Yd.move rfl) ?_
  refine SL.unw rfl rfl (Gd.no rfl rfl rfl rfl) ?_
  refine SL.unw rfl rfl (Gd.no rfl rfl rfl rfl) ?_
  refine SL.unw rfl rfl (Gd.no rfl rfl rfl rfl) ?_
  refine SL.val rfl rfl (Gd.g0 rfl) ((by first | exact Yd.pickT rfl rfl | exact Yd.pickF rfl rfl | exact Yd.pickB rfl rfl rfl)) ?_
  first | refine SL.nil_then ?_ | refine SL.nil ?_
  rotate_left
  refine SL.val rfl rfl (Gd.yes rfl rfl rfl) (Yd.fieldAddr rfl fo_37_4) ?_
  refine SL.val rfl rfl (Gd.yes rfl rfl rfl) ((by first | exact Yd.load rfl ag_2 (Wd.cell (i := 0) rfl rfl) | exact Yd.load rfl ag_2 (Wd.cell (i := 1) rfl rfl) | exact Yd.load rfl ag_2 (Wd.cell (i := 2) rfl rfl) | exact Yd.load rfl ag_2 (Wd.cell (i := 3) rfl rfl) | exact Yd.load rfl ag_2 (Wd.cell (i := 4) rfl rfl) | exact Yd.load rfl ag_2 (Wd.cell (i := 5) rfl rfl))) ?_
  refine SL.val rfl rfl (Gd.yes rfl rfl rfl) (Yd.lss rfl rfl) ?_
  refine SL.val rfl rfl (Gd.g0 rfl) ((by first | exact Yd.pickT rfl rfl | exact Yd.pickF rfl rfl | exact Yd.pickB rfl rfl rfl)) ?_
  refine SL.val rfl rfl (Gd.g0 rfl) (Yd.move rfl) ?_
  refine SL.splitD (dj := 106) rfl (fun hg106 => ?_) (fun hg106 => ?_)
  refine SL.unw rfl rfl (Gd.no rfl rfl rfl rfl) ?_
  refine SL.unw rfl rfl (Gd.no rfl rfl rfl rfl) ?_
  refine SL.unw rfl rfl (Gd.no rfl rfl rfl rfl) ?_
  refine SL.unw rfl rfl (Gd.no rfl rfl rfl rfl) ?_
  refine SL.unw rfl rfl (Gd.no rfl rfl rfl rfl) ?_
  refine SL.val rfl rfl (Gd.g0 rfl) ((by first | exact Yd.pickT rfl rfl | exact Yd.pickF rfl rfl | exact Yd.pickB rfl rfl rfl)) ?_
  refine SL.val rfl rfl (Gd.g0 rfl) (Yd.move rfl) ?_
  refine SL.unw rfl rfl (Gd.no rfl rfl rfl rfl) ?_
  refine SL.unw rfl rfl (Gd.no rfl rfl rfl rfl) ?_
  refine SL.unw rfl rfl (Gd.no rfl rfl rfl rfl) ?_
  refine SL.val rfl rfl (Gd.g0 rfl) ((by first | exact Yd.pickT rfl rfl | exact Yd.pickF rfl rfl | exact Yd.pickB rfl rfl rfl)) ?_
  first | refine SL.nil_then ?_ | refine SL.nil ?_
  rotate_left
  refine SL.val rfl rfl (Gd.yes rfl rfl rfl) (Yd.fieldAddr rfl fo_37_4) ?_
  refine SL.val rfl rfl (Gd.yes rfl rfl rfl) ((by first | exact Yd.load rfl ag_2 (Wd.cell (i := 0) rfl rfl) | exact Yd.load rfl ag_2 (Wd.cell (i := 1) rfl rfl) | exact Yd.load rfl ag_2 (Wd.cell (i := 2) rfl rfl) | exact Yd.load rfl ag_2 (Wd.cell (i := 3) rfl rfl) | exact Yd.load rfl ag_2 (Wd.cell (i := 4) rfl rfl) | exact Yd.load rfl ag_2 (Wd.cell (i := 5) rfl rfl))) ?_
  refine SL.val rfl rfl (Gd.yes rfl rfl rfl) (Yd.fieldAddr rfl fo_37_3) ?_
  refine SL.val rfl rfl (Gd.yes rfl rfl rfl) ((by first | exact Yd.load rfl ag_2 (Wd.cell (i := 0) rfl rfl) | exact Yd.load rfl ag_2 (Wd.cell (i := 1) rfl rfl) | exact Yd.load rfl ag_2 (Wd.cell (i := 2) rfl rfl) | exact Yd.load rfl ag_2 (Wd.cell (i := 3) rfl rfl) | exact Yd.load rfl ag_2 (Wd.cell (i := 4) rfl rfl) | exact Yd.load rfl ag_2 (Wd.cell (i := 5) rfl rfl))) ?_
  refine SL.val rfl rfl (Gd.yes rfl rfl rfl) (Yd.gtr rfl rfl) ?_
  refine SL.val rfl rfl (Gd.g0 rfl) ((by first | exact Yd.pickT rfl rfl | exact Yd.pickF rfl rfl | exact Yd.pickB rfl rfl rfl)) ?_
  refine SL.val rfl rfl (Gd.g0 rfl) (Yd.move rfl) ?_
  refine SL.splitD (dj := 113) rfl (fun hg113 => ?_) (fun hg113 => ?_)
  refine SL.unw rfl rfl (Gd.no rfl rfl rfl rfl) ?_
  refine SL.unw rfl rfl (Gd.no rfl rfl rfl rfl) ?_
  refine SL.unw rfl rfl (Gd.no rfl rfl rfl rfl) ?_
  refine SL.val rfl rfl (Gd.g0 rfl) ((by first | exact Yd.pickT rfl rfl | exact Yd.pickF rfl rfl | exact Yd.pickB rfl rfl rfl)) ?_
  first | refine SL.nil_then ?_ | refine SL.nil ?_
  rotate_left
  refine SL.val rfl rfl (Gd.yes rfl rfl rfl) ((by first | exact Yd.loadR (i := 0) rfl ag_37 rfl rfl | exact Yd.loadR (i := 1) rfl ag_37 rfl rfl | exact Yd.loadR (i := 2) rfl ag_37 rfl rfl | exact Yd.loadR (i := 3) rfl ag_37 rfl rfl | exact Yd.loadR (i := 4) rfl ag_37 rfl rfl | exact Yd.loadR (i := 5) rfl ag_37 rfl rfl)) ?_
  refine SL.callX rfl rfl (Gd.yes rfl rfl rfl) (Cll.func rfl cf_27) (fun w2 hw => prog_secs nm T O D C pr aos caps sc w2 (RX.keepb hsx hw.drop.below) hm4) (fun bs hbs => ?_)
  refine SL.val rfl rfl (Gd.yes rfl rfl rfl) (Yd.not rfl) ?_
  refine SL.val rfl rfl (Gd.g0 rfl) ((by first | exact Yd.pickT rfl rfl | exact Yd.pickF rfl rfl | exact Yd.pickB rfl rfl rfl)) ?_
  first | refine SL.nil_then ?_ | refine SL.nil ?_
  rotate_left
  rotate_right
  ·repeat (refine CW.seq ?_)
   refine CW.cond rfl (fun hb => ?_) (fun hb => ?_)
   ·repeat (refine CW.seq ?_)
    refine CW.region ?_
    refine SL.val rfl rfl (Gd.g0 rfl) (Yd.assign rfl) ?_
    first | refine SL.nil_then ?_ | refine SL.nil ?_
    refine CW.ret ?_
    repeat (first | refine EX.then_ret ?_ | refine EX.in_ret ?_)
    refine EX.out (rs := _) rfl (ResA.tmp rfl ResA.nil) (fun w2 hw => ?_) (by first | exact Or.inl rfl | exact Or.inr rfl)
    exact ⟨.inr ⟨HNL, .inl ⟨rfl, fun q => by have := hbs (Hsn q); subst this; cases hb⟩⟩, hw.drop.below⟩
   have hok : nm ≠ ⟨#[]⟩ ∧ (nm.size : Int) ≤ 16 ∧ 1 ≤ pr ∧ 1 ≤ T ∧ T ≤ 1000 ∧ 0 ≤ O ∧ O < T ∧ 1 ≤ D ∧ D ≤ T ∧ 1 ≤ C ∧ C ≤ D := ⟨hg44, by omega, by omega, by omega, by omega, by omega, by omega, by omega, by omega, by omega, by omega⟩
   refine CW.skip ?_
   repeat (first | refine EX.in_normal ?_)
   first | refine EX.then_normal ?_ | skip
   repeat (refine CW.seq ?_)
   refine CW.draw [(Tb w [], []), ((Rs.row b9 [Value.string nm, .int .i64 T, .int .i64 O, .int .i64 D, .int .i64 C, .int .i64 pr, .slice aos sc.length caps] 37).ok, [])] mixed (fun w hw => hw.drew) (fun w hw => ⟨(by first | exact fun _ => hw.tb | exact fun _ => hw.ok 0 _ rfl | exact fun _ => hw.ok 1 _ rfl | exact fun _ => hw.ok 2 _ rfl | exact fun _ => hw.ok 3 _ rfl | exact fun _ => hw.ok 4 _ rfl | exact fun _ => hw.ok 5 _ rfl | exact SG.gone (by kernel_rfl)), (by first | exact fun _ => hw.tb | exact fun _ => hw.ok 0 _ rfl | exact fun _ => hw.ok 1 _ rfl | exact fun _ => hw.ok 2 _ rfl | exact fun _ => hw.ok 3 _ rfl | exact fun _ => hw.ok 4 _ rfl | exact fun _ => hw.ok 5 _ rfl | exact SG.gone (by kernel_rfl)), trivial⟩) ?_
   refine DL.take 0 rfl (by kernel_rfl) (by kernel_rfl) (by kernel_rfl) (by kernel_rfl) (by kernel_rfl) rfl rfl (Gd.g0 rfl) (heldN 0) (Yd.move rfl) ?_
   refine DL.take 1 rfl (by kernel_rfl) (by kernel_rfl) (by kernel_rfl) (by kernel_rfl) (by kernel_rfl) rfl rfl (Gd.g0 rfl) (heldN 1) (Yd.fieldAddr rfl fo_37_0) ?_
   first | refine DL.take 2 rfl (by kernel_rfl) (by kernel_rfl) (by kernel_rfl) (by kernel_rfl) (by kernel_rfl) rfl rfl (Gd.g0 rfl) (held 2 1 rfl (by kernel_rfl)) (Yd.load rfl ag_9 (row_cell rfl)) ?_ | refine DL.take 2 rfl (by kernel_rfl) (by kernel_rfl) (by kernel_rfl) (by kernel_rfl) (by kernel_rfl) rfl rfl (Gd.g0 rfl) (held 2 2 rfl (by kernel_rfl)) (Yd.load rfl ag_9 (row_cell rfl)) ?_ | refine DL.take 2 rfl (by kernel_rfl) (by kernel_rfl) (by kernel_rfl) (by kernel_rfl) (by kernel_rfl) rfl rfl (Gd.g0 rfl) (held 2 3 rfl (by kernel_rfl)) (Yd.load rfl ag_9 (row_cell rfl)) ?_ | refine DL.take 2 rfl (by kernel_rfl) (by kernel_rfl) (by kernel_rfl) (by kernel_rfl) (by kernel_rfl) rfl rfl (Gd.g0 rfl) (held 2 4 rfl (by kernel_rfl)) (Yd.load rfl ag_9 (row_cell rfl)) ?_ | refine DL.take 2 rfl (by kernel_rfl) (by kernel_rfl) (by kernel_rfl) (by kernel_rfl) (by kernel_rfl) rfl rfl (Gd.g0 rfl) (held 2 5 rfl (by kernel_rfl)) (Yd.load rfl ag_9 (row_cell rfl)) ?_
   refine DL.take 3 rfl (by kernel_rfl) (by kernel_rfl) (by kernel_rfl) (by kernel_rfl) (by kernel_rfl) rfl rfl (Gd.g0 rfl) (heldN 3) (Yd.move rfl) ?_
   refine DL.take 4 rfl (by kernel_rfl) (by kernel_rfl) (by kernel_rfl) (by kernel_rfl) (by kernel_rfl) rfl rfl (Gd.g0 rfl) (heldN 4) (Yd.fieldAddr rfl fo_37_5) ?_
   first | refine DL.take 5 rfl (by kernel_rfl) (by kernel_rfl) (by kernel_rfl) (by kernel_rfl) (by kernel_rfl) rfl rfl (Gd.g0 rfl) (held 5 1 rfl (by kernel_rfl)) (Yd.load rfl ag_3 (row_cell rfl)) ?_ | refine DL.take 5 rfl (by kernel_rfl) (by kernel_rfl) (by kernel_rfl) (by kernel_rfl) (by kernel_rfl) rfl rfl (Gd.g0 rfl) (held 5 2 rfl (by kernel_rfl)) (Yd.load rfl ag_3 (row_cell rfl)) ?_ | refine DL.take 5 rfl (by kernel_rfl) (by kernel_rfl) (by kernel_rfl) (by kernel_rfl) (by kernel_rfl) rfl rfl (Gd.g0 rfl) (held 5 3 rfl (by kernel_rfl)) (Yd.load rfl ag_3 (row_cell rfl)) ?_ | refine DL.take 5 rfl (by kernel_rfl) (by kernel_rfl) (by kernel_rfl) (by kernel_rfl) (by kernel_rfl) rfl rfl (Gd.g0 rfl) (held 5 4 rfl (by kernel_rfl)) (Yd.load rfl ag_3 (row_cell rfl)) ?_ | refine DL.take 5 rfl (by kernel_rfl) (by kernel_rfl) (by kernel_rfl) (by kernel_rfl) (by kernel_rfl) rfl rfl (Gd.g0 rfl) (held 5 5 rfl (by kernel_rfl)) (Yd.load rfl ag_3 (row_cell rfl)) ?_
   refine DL.ready1 (i := 6) (by kernel_rfl) ?_
   refine D1.ef0 rfl rfl (Gd.g0 rfl) (Ef0.addSet (i := 2) ES mt_70 rfl rfl rfl rfl hgn (by simp only [maxLen]; omega) (dec_no hg56)) (fun w hw => ⟨(by first | exact fun _ => hw.tb | exact fun _ => hw.ok 0 _ rfl | exact fun _ => hw.ok 1 _ rfl | exact fun _ => hw.ok 2 _ rfl | exact fun _ => hw.ok 3 _ rfl | exact fun _ => hw.ok 4 _ rfl | exact fun _ => hw.ok 5 _ rfl | exact SG.gone (by kernel_rfl)), (by first | exact fun _ => hw.tb | exact fun _ => hw.ok 0 _ rfl | exact fun _ => hw.ok 1 _ rfl | exact fun _ => hw.ok 2 _ rfl | exact fun _ => hw.ok 3 _ rfl | exact fun _ => hw.ok 4 _ rfl | exact fun _ => hw.ok 5 _ rfl | exact SG.gone (by kernel_rfl)), trivial⟩) ?_
   try dsimp only [setR]
   refine DL.ready1 (i := 7) (by kernel_rfl) ?_
   refine D1.ef0 rfl rfl (Gd.g0 rfl) (Ef0.addSet (i := 1) EI mt_71 rfl rfl rfl rfl hgp (wf64 (by omega) hpi) hg67) (fun w hw => ⟨(by first | exact fun _ => hw.tb | exact fun _ => hw.ok 0 _ rfl | exact fun _ => hw.ok 1 _ rfl | exact fun _ => hw.ok 2 _ rfl | exact fun _ => hw.ok 3 _ rfl | exact fun _ => hw.ok 4 _ rfl | exact fun _ => hw.ok 5 _ rfl | exact SG.gone (by kernel_rfl)), (by first | exact fun _ => hw.tb | exact fun _ => hw.ok 0 _ rfl | exact fun _ => hw.ok 1 _ rfl | exact fun _ => hw.ok 2 _ rfl | exact fun _ => hw.ok 3 _ rfl | exact fun _ => hw.ok 4 _ rfl | exact fun _ => hw.ok 5 _ rfl | exact SG.gone (by kernel_rfl)), trivial⟩) ?_
   try dsimp only [setR]
   refine DL.done (by kernel_rfl) ?_
   first | refine EX.then_normal ?_ | skip
   repeat (first | refine EX.in_normal ?_)
   first | refine EX.then_normal ?_ | skip
   repeat (refine CW.seq ?_)
   refine CW.region ?_
   refine SL.val rfl rfl (Gd.g0 rfl) ((by first | exact Yd.inc rfl (by omega) | exact Yd.add rfl rfl (by omega) | exact Yd.addW rfl rfl)) ?_
   refine SL.val rfl rfl (Gd.g0 rfl) (Yd.move rfl) ?_
   first | refine SL.nil_then ?_ | refine SL.nil ?_
   refine EX.round (i + 1) ⟨by omega, fun m hm => by
    by_cases e : m = i
    ·subst e; rw [ht]
     exact ⟨hok, fun j' hj' => ⟨fun q => dec_no hg56 (nmsK_mem.2 ⟨j', hj', q⟩), fun q => hg67 (prsK_mem.2 ⟨j', hj', q⟩)⟩⟩
    ·exact hval m (by omega)⟩ (by omega) (Sub.cons rfl rfl (Sub.cons rfl rfl (Sub.cons rfl rfl (Sub.cons rfl rfl (Sub.cons rfl rfl Sub.nil))))) (fun _ h => by rw [prsK_succ, nmsK_succ, ht]; exact h.pick [1, 2] rfl rfl)
  all_goals
   repeat (refine CW.seq ?_)
   refine CW.condT rfl ?_
   repeat (refine CW.seq ?_)
   refine CW.region ?_
   refine SL.val rfl rfl (Gd.g0 rfl) (Yd.assign rfl) ?_
   first | refine SL.nil_then ?_ | refine SL.nil ?_
   refine CW.ret ?_
   repeat (first | refine EX.then_ret ?_ | refine EX.in_ret ?_)
   refine EX.out (rs := _) rfl (ResA.tmp rfl ResA.nil) (fun w2 hw => ?_) (by first | exact Or.inl rfl | exact Or.inr rfl)
   first | exact ⟨.inr ⟨HNL, .inl ⟨rfl, fun _ => Hbad (fun q => by obtain ⟨e1, e2, e3, e4, e5, e6, e7, e8, e9, e10, e11⟩ := q; dsimp only at *; first | contradiction | omega)⟩⟩, hw.drop.below⟩ | exact ⟨.inr ⟨HNL, .inl ⟨rfl, fun _ q => by obtain ⟨j, hj, e⟩ := nmsK_mem.1 (dec_yes hg56); exact ((q.2 i hlt).2 j hj).1 (by rw [ht]; exact e)⟩⟩, hw.drop.below⟩ | exact ⟨.inr ⟨HNL, .inl ⟨rfl, fun _ q => by obtain ⟨j, hj, e⟩ := prsK_mem.1 hg67; exact ((q.2 i hlt).2 j hj).2 (by rw [ht]; exact e)⟩⟩, hw.drop.below⟩
 refine CW.exit ?_
 repeat (first | refine EX.then_exit ?_ | refine EX.in_exit rfl ?_ | refine EX.in_exit_ne rfl ?_)
 first | refine EX.then_normal ?_ | skip
 repeat (refine CW.seq ?_)
 refine CW.region ?_
 refine SL.val rfl rfl (Gd.g0 rfl) (Yd.assign rfl) ?_
 first | refine SL.nil_then ?_ | refine SL.nil ?_
 refine CW.ret ?_
 repeat (first | refine EX.then_ret ?_ | refine EX.in_ret ?_)
 refine EX.out (rs := _) rfl (ResA.tmp rfl ResA.nil) (fun w2 hw => ?_) (by first | exact Or.inl rfl | exact Or.inr rfl)
 exact ⟨.inr ⟨HNL, .inr ⟨rfl, by omega, by rw [show ts.length = i by omega]; exact hval⟩⟩, hw.drop.below⟩
end Go.Proofs.Ytokljoajalmkfaa
