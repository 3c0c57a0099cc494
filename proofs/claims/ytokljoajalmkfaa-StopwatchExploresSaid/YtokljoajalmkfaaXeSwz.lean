/- Part of the proof of stopwatch_explores_proved: Swz. -/
import Derived.Test.YtokljoajalmkfaaXeSwx
import Derived.Test.YtokljoajalmkfaaXeSwy
import Derived.Test.YtokljoajalmkfaaXeSwl
import Derived.Test.YtokljoajalmkfaaXeSwq
namespace Go.Proofs.Ytokljoajalmkfaa
open Go Go.RowKit
set_option linter.unusedVariables false
set_option linter.unusedSimpArgs false
set_option linter.unnecessarySimpa false
def cdP : Cd (List Int) := ⟨16, fun x => pR (sF x) (lF x), fun _ => pR_len _ _, []⟩
theorem hasS_all {ts : List Tk} (h : ∀ j, j < ts.length → (tk ts j).sc.length = 0) : hasS ts = false := hasS_no.2 h
theorem hasS_one {ts : List Tk} {k : Nat} (hk : k < ts.length) (h : ¬ (tk ts k).sc.length = 0) : hasS ts = true := by
 cases q : hasS ts with
 | true => rfl
 | false => exact absurd (hasS_no.1 q k hk) h
theorem laid : laidOutB Try.prog = true := by kernel_rfl
theorem ek_prog {ts : List Tk} (h : OkS ts) : EK Try.prog 44 (fun x => .agg (pR (sF x) (lF x)).toArray) (GdX ts) := by
 refine ek_ints (q := .i16) (m := 16) laid (by kernel_rfl) (by kernel_rfl) (by kernel_rfl) (by kernel_rfl) (by kernel_rfl) (by kernel_rfl) (fun x hx => ⟨pR_len _ _, fun c hc => ?_⟩) (fun a b ha hb e => ha.eqP hb e)
 unfold pR lV at hc
 obtain ⟨j, hj, rfl⟩ := List.mem_map.1 hc
 have hj := List.mem_range.1 hj
 refine ⟨_, rfl, ?_⟩
 have h1 := hx.s (j / 2) (by omega)
 have h2 := hx.l (j / 2) (by omega)
 unfold pV
 split
 ·simp only [Lit.wf, Bool.and_eq_true, decide_eq_true_eq, IntKind.min, IntKind.max]; constructor <;> simp [IntKind.bits, IntKind.signed] <;> omega
 ·simp only [Lit.wf, Bool.and_eq_true, decide_eq_true_eq, IntKind.min, IntKind.max]; constructor <;> simp [IntKind.bits, IntKind.signed] <;> omega
theorem ord_of {ts : List Tk} (h : OkS ts) {xs : List Nat} (h1 : SrtI (fun k => (tk ts k).pr) (List.range ts.length) xs) (h2 : SrtTo (fun k => (tk ts k).pr) xs (List.range ts.length).length) : Ord ts xs := by
 have hl : xs.length = ts.length := by rw [h1.perm.length_eq, List.length_range]
 rw [List.length_range] at h2
 refine ⟨hl, fun k hk => ?_, fun i hi => ?_, fun a b hab hb => h2 a b hab hb⟩
 ·exact List.mem_range.1 (h1.perm.mem_iff.1 (getD_mem (by omega)))
 ·obtain ⟨k, hk⟩ := List.getElem?_of_mem (h1.perm.mem_iff.2 (List.mem_range.2 hi))
  have := (List.getElem?_eq_some_iff.1 hk).1
  exact ⟨k, by omega, by rw [List.getD_eq_getElem?_getD, hk]; rfl⟩
theorem rx_ord {od : List Nat} {ov : Value} {w : World} (h : (Rs.own cdN 3 ov od).ok w) : RX cdI w.heap.size w ov (od.map fun (i : Nat) => (i : Int)) := by
 have h1 := own_rx (c := cdN) (by decide) h
 unfold RX at h1 ⊢
 rw [List.length_map, List.flatMap_map]
 exact h1
structure PS where
 a : Nat
 q : Qx
 lb : Nat
 lc : Nat
 b14 : Nat
 ms : List Nat
def HsW (ts : List Tk) (ao : Option Addr) (cap : Nat) (od : List Nat) (bo co b2 b3 b4 b5 b7 b11 b12 b13 b26 b63 b64 : Nat) (q : Qx) (lb lc : Nat) : List Rs :=
  [Rs.row b13 [.slice (some ⟨lb, 0, none⟩) q.list.length lc] 48, Rs.row b12 [.map (some b64)] 47, Rs.own cdP 44 (.slice (some ⟨lb, 0, none⟩) q.list.length lc) q.list, Rs.mp b64 (fun x : List Int => .agg (pR (sF x) (lF x)).toArray) tt1 (setM q.list), Rs.row b11 [.slice (some ⟨b63, 0, none⟩) ts.length ts.length] 25, Rs.row b63 (q.worst.map (Value.int .i64)) 2,
      Rs.own cdN 3 (.slice (some ⟨bo, 0, none⟩) (List.range ts.length).length co) od, Rs.row b7 [.pointer (some ⟨b26, 0, none⟩)] 38, Rs.row b26 [.slice ao ts.length cap, .slice (some ⟨bo, 0, none⟩) (List.range ts.length).length co] 41, Rs.row b5 [.int .i64 0] 26, Rs.row b4 [.bool false] 4, Rs.row b3 [.int .i64 0] 3, Rs.row b2 [.slice none 0 0] 25]
set_option maxRecDepth 20000 in
set_option maxHeartbeats 8000000 in
theorem prog_worst (v : Value) (ts : List Tk) (w : World) (hv : TsR w v ts) (hpr : ∀ k, k < ts.length → (tk ts k).pr ≤ 9223372036854775807) : Calls Try.prog 8 #[v] w (WorE ts w) := by
  have hck : ∀ w2, Below w.heap.size w w2 → Calls Try.prog 15 #[v] w2 fun e w' => (∃ i : Int, ChkE ts (.returned (.int .i64 i)) ∧ e = .returned (.int .i64 i)) ∧ Below w2.heap.size w2 w' := fun w2 hw => (prog_check v ts w2 (hv.keepb hw) hpr).mono fun e w' ⟨h, hb⟩ => ⟨by
    obtain ⟨i, _, rfl⟩ := h.num
    exact ⟨i, h, rfl⟩, hb⟩
  obtain ⟨ao, cap, rfl, hle, h0⟩ := hv.1.cells
  refine calls_openM Try.func8 rfl Try.ntmps8 rfl ?_
  dsimp only [argK]
  repeat (refine CW.seq ?_)
  refine CW.region ?_
  refine SL.efD rfl rfl (Gd.g0 rfl) (Ef.box rfl) (fun b1 => ?_)
  try dsimp only [Value.cells, List.flatMap_cons, List.flatMap_nil]
  refine SL.efD rfl rfl (Gd.g0 rfl) (Ef.alloc zl_25) (fun b2 => ?_)
  try dsimp only [Value.cells, List.flatMap_cons, List.flatMap_nil]
  refine SL.efD rfl rfl (Gd.g0 rfl) (Ef.alloc zl_3) (fun b3 => ?_)
  try dsimp only [Value.cells, List.flatMap_cons, List.flatMap_nil]
  refine SL.efD rfl rfl (Gd.g0 rfl) (Ef.alloc zl_4) (fun b4 => ?_)
  try dsimp only [Value.cells, List.flatMap_cons, List.flatMap_nil]
  refine SL.efD rfl rfl (Gd.g0 rfl) (Ef.alloc zl_26) (fun b5 => ?_)
  try dsimp only [Value.cells, List.flatMap_cons, List.flatMap_nil]
  first | refine SL.nil_then ?_ | refine SL.nil ?_
  repeat (refine CW.seq ?_)
  refine CW.region ?_
  refine SL.val rfl rfl (Gd.g0 rfl) ((by first | exact Yd.load rfl ag_22 (Wd.cell (i := 0) rfl rfl) | exact Yd.load rfl ag_22 (Wd.cell (i := 1) rfl rfl) | exact Yd.load rfl ag_22 (Wd.cell (i := 2) rfl rfl) | exact Yd.load rfl ag_22 (Wd.cell (i := 3) rfl rfl) | exact Yd.load rfl ag_22 (Wd.cell (i := 4) rfl rfl) | exact Yd.load rfl ag_22 (Wd.cell (i := 5) rfl rfl) | exact Yd.load rfl ag_22 (Wd.cell (i := 6) rfl rfl) | exact Yd.load rfl ag_22 (Wd.cell (i := 7) rfl rfl) | exact Yd.load rfl ag_22 (Wd.cell (i := 8) rfl rfl) | exact Yd.load rfl ag_22 (Wd.cell (i := 9) rfl rfl) | exact Yd.load rfl ag_22 (Wd.cell (i := 10) rfl rfl) | exact Yd.load rfl ag_22 (Wd.cell (i := 11) rfl rfl) | exact Yd.load rfl ag_22 (Wd.cell (i := 12) rfl rfl) | exact Yd.load rfl ag_22 (Wd.cell (i := 13) rfl rfl) | exact Yd.load rfl ag_22 (Wd.cell (i := 14) rfl rfl) | exact Yd.load rfl ag_22 (Wd.cell (i := 15) rfl rfl) | exact Yd.load rfl ag_22 (Wd.cell (i := 16) rfl rfl) | exact Yd.load rfl ag_22 (Wd.cell (i := 17) rfl rfl) | exact Yd.load rfl ag_22 (Wd.cell (i := 18) rfl rfl) | exact Yd.load rfl ag_22 (Wd.cell (i := 19) rfl rfl))) ?_
  refine SL.callX rfl rfl (Gd.g0 rfl) (Cll.func rfl cf_15) (fun w2 hw => hck w2 hw.below) (fun en hen => ?_)
  refine SL.val rfl rfl (Gd.g0 rfl) (Yd.assign rfl) ?_
  first | refine SL.nil_then ?_ | refine SL.nil ?_
  repeat (refine CW.seq ?_)
  refine CW.region ?_
  refine SL.val rfl rfl (Gd.g0 rfl) (Yd.move rfl) ?_
  refine SL.val rfl rfl (Gd.g0 rfl) (Yd.neq rfl rfl) ?_
  first | refine SL.nil_then ?_ | refine SL.nil ?_
  repeat (refine CW.seq ?_)
  refine CW.condD rfl (fun hne => ?_) (fun hne => ?_)
  · repeat (refine CW.seq ?_)
    refine CW.region ?_
    refine SL.val rfl rfl (Gd.g0 rfl) (Yd.move rfl) ?_
    refine SL.ef0 rfl (Gd.g0 rfl) (by first | exact Ef0.store (i := 0) rfl rfl rfl ag_25 rfl (by simp) | exact Ef0.store (i := 1) rfl rfl rfl ag_25 rfl (by simp) | exact Ef0.store (i := 2) rfl rfl rfl ag_25 rfl (by simp) | exact Ef0.store (i := 3) rfl rfl rfl ag_25 rfl (by simp) | exact Ef0.store (i := 4) rfl rfl rfl ag_25 rfl (by simp) | exact Ef0.store (i := 5) rfl rfl rfl ag_25 rfl (by simp) | exact Ef0.store (i := 6) rfl rfl rfl ag_25 rfl (by simp) | exact Ef0.store (i := 7) rfl rfl rfl ag_25 rfl (by simp) | exact Ef0.store (i := 8) rfl rfl rfl ag_25 rfl (by simp) | exact Ef0.store (i := 9) rfl rfl rfl ag_25 rfl (by simp) | exact Ef0.store (i := 10) rfl rfl rfl ag_25 rfl (by simp) | exact Ef0.store (i := 11) rfl rfl rfl ag_25 rfl (by simp) | exact Ef0.store (i := 12) rfl rfl rfl ag_25 rfl (by simp) | exact Ef0.store (i := 13) rfl rfl rfl ag_25 rfl (by simp) | exact Ef0.store (i := 14) rfl rfl rfl ag_25 rfl (by simp) | exact Ef0.store (i := 15) rfl rfl rfl ag_25 rfl (by simp) | exact Ef0.store (i := 16) rfl rfl rfl ag_25 rfl (by simp) | exact Ef0.store (i := 17) rfl rfl rfl ag_25 rfl (by simp) | exact Ef0.store (i := 18) rfl rfl rfl ag_25 rfl (by simp) | exact Ef0.store (i := 19) rfl rfl rfl ag_25 rfl (by simp)) ?_
    try dsimp only [setR, List.set, setRow2]
    refine SL.ef0 rfl (Gd.g0 rfl) (by first | exact Ef0.store (i := 0) rfl rfl rfl ag_3 rfl (by simp) | exact Ef0.store (i := 1) rfl rfl rfl ag_3 rfl (by simp) | exact Ef0.store (i := 2) rfl rfl rfl ag_3 rfl (by simp) | exact Ef0.store (i := 3) rfl rfl rfl ag_3 rfl (by simp) | exact Ef0.store (i := 4) rfl rfl rfl ag_3 rfl (by simp) | exact Ef0.store (i := 5) rfl rfl rfl ag_3 rfl (by simp) | exact Ef0.store (i := 6) rfl rfl rfl ag_3 rfl (by simp) | exact Ef0.store (i := 7) rfl rfl rfl ag_3 rfl (by simp) | exact Ef0.store (i := 8) rfl rfl rfl ag_3 rfl (by simp) | exact Ef0.store (i := 9) rfl rfl rfl ag_3 rfl (by simp) | exact Ef0.store (i := 10) rfl rfl rfl ag_3 rfl (by simp) | exact Ef0.store (i := 11) rfl rfl rfl ag_3 rfl (by simp) | exact Ef0.store (i := 12) rfl rfl rfl ag_3 rfl (by simp) | exact Ef0.store (i := 13) rfl rfl rfl ag_3 rfl (by simp) | exact Ef0.store (i := 14) rfl rfl rfl ag_3 rfl (by simp) | exact Ef0.store (i := 15) rfl rfl rfl ag_3 rfl (by simp) | exact Ef0.store (i := 16) rfl rfl rfl ag_3 rfl (by simp) | exact Ef0.store (i := 17) rfl rfl rfl ag_3 rfl (by simp) | exact Ef0.store (i := 18) rfl rfl rfl ag_3 rfl (by simp) | exact Ef0.store (i := 19) rfl rfl rfl ag_3 rfl (by simp)) ?_
    try dsimp only [setR, List.set, setRow2]
    refine SL.ef0 rfl (Gd.g0 rfl) (by first | exact Ef0.store (i := 0) rfl rfl rfl ag_4 rfl (by simp) | exact Ef0.store (i := 1) rfl rfl rfl ag_4 rfl (by simp) | exact Ef0.store (i := 2) rfl rfl rfl ag_4 rfl (by simp) | exact Ef0.store (i := 3) rfl rfl rfl ag_4 rfl (by simp) | exact Ef0.store (i := 4) rfl rfl rfl ag_4 rfl (by simp) | exact Ef0.store (i := 5) rfl rfl rfl ag_4 rfl (by simp) | exact Ef0.store (i := 6) rfl rfl rfl ag_4 rfl (by simp) | exact Ef0.store (i := 7) rfl rfl rfl ag_4 rfl (by simp) | exact Ef0.store (i := 8) rfl rfl rfl ag_4 rfl (by simp) | exact Ef0.store (i := 9) rfl rfl rfl ag_4 rfl (by simp) | exact Ef0.store (i := 10) rfl rfl rfl ag_4 rfl (by simp) | exact Ef0.store (i := 11) rfl rfl rfl ag_4 rfl (by simp) | exact Ef0.store (i := 12) rfl rfl rfl ag_4 rfl (by simp) | exact Ef0.store (i := 13) rfl rfl rfl ag_4 rfl (by simp) | exact Ef0.store (i := 14) rfl rfl rfl ag_4 rfl (by simp) | exact Ef0.store (i := 15) rfl rfl rfl ag_4 rfl (by simp) | exact Ef0.store (i := 16) rfl rfl rfl ag_4 rfl (by simp) | exact Ef0.store (i := 17) rfl rfl rfl ag_4 rfl (by simp) | exact Ef0.store (i := 18) rfl rfl rfl ag_4 rfl (by simp) | exact Ef0.store (i := 19) rfl rfl rfl ag_4 rfl (by simp)) ?_
    try dsimp only [setR, List.set, setRow2]
    refine SL.ef0 rfl (Gd.g0 rfl) (by first | exact Ef0.store (i := 0) rfl rfl rfl ag_26 rfl (by simp) | exact Ef0.store (i := 1) rfl rfl rfl ag_26 rfl (by simp) | exact Ef0.store (i := 2) rfl rfl rfl ag_26 rfl (by simp) | exact Ef0.store (i := 3) rfl rfl rfl ag_26 rfl (by simp) | exact Ef0.store (i := 4) rfl rfl rfl ag_26 rfl (by simp) | exact Ef0.store (i := 5) rfl rfl rfl ag_26 rfl (by simp) | exact Ef0.store (i := 6) rfl rfl rfl ag_26 rfl (by simp) | exact Ef0.store (i := 7) rfl rfl rfl ag_26 rfl (by simp) | exact Ef0.store (i := 8) rfl rfl rfl ag_26 rfl (by simp) | exact Ef0.store (i := 9) rfl rfl rfl ag_26 rfl (by simp) | exact Ef0.store (i := 10) rfl rfl rfl ag_26 rfl (by simp) | exact Ef0.store (i := 11) rfl rfl rfl ag_26 rfl (by simp) | exact Ef0.store (i := 12) rfl rfl rfl ag_26 rfl (by simp) | exact Ef0.store (i := 13) rfl rfl rfl ag_26 rfl (by simp) | exact Ef0.store (i := 14) rfl rfl rfl ag_26 rfl (by simp) | exact Ef0.store (i := 15) rfl rfl rfl ag_26 rfl (by simp) | exact Ef0.store (i := 16) rfl rfl rfl ag_26 rfl (by simp) | exact Ef0.store (i := 17) rfl rfl rfl ag_26 rfl (by simp) | exact Ef0.store (i := 18) rfl rfl rfl ag_26 rfl (by simp) | exact Ef0.store (i := 19) rfl rfl rfl ag_26 rfl (by simp)) ?_
    try dsimp only [setR, List.set, setRow2]
    first | refine SL.nil_then ?_ | refine SL.nil ?_
    refine CW.ret ?_
    repeat (first | refine EX.then_ret ?_ | refine EX.in_ret ?_)
    refine EX.outM (i := 5) (rs := _) rfl rfl (ResA.cell rfl (fun w hw => (by first | exact run_load1 ag_25 (Wd.cell (i := 0) rfl rfl w hw) | exact run_load1 ag_25 (Wd.cell (i := 1) rfl rfl w hw) | exact run_load1 ag_25 (Wd.cell (i := 2) rfl rfl w hw) | exact run_load1 ag_25 (Wd.cell (i := 3) rfl rfl w hw) | exact run_load1 ag_25 (Wd.cell (i := 4) rfl rfl w hw) | exact run_load1 ag_25 (Wd.cell (i := 5) rfl rfl w hw) | exact run_load1 ag_25 (Wd.cell (i := 6) rfl rfl w hw) | exact run_load1 ag_25 (Wd.cell (i := 7) rfl rfl w hw) | exact run_load1 ag_25 (Wd.cell (i := 8) rfl rfl w hw) | exact run_load1 ag_25 (Wd.cell (i := 9) rfl rfl w hw) | exact run_load1 ag_25 (Wd.cell (i := 10) rfl rfl w hw) | exact run_load1 ag_25 (Wd.cell (i := 11) rfl rfl w hw) | exact run_load1 ag_25 (Wd.cell (i := 12) rfl rfl w hw) | exact run_load1 ag_25 (Wd.cell (i := 13) rfl rfl w hw) | exact run_load1 ag_25 (Wd.cell (i := 14) rfl rfl w hw) | exact run_load1 ag_25 (Wd.cell (i := 15) rfl rfl w hw) | exact run_load1 ag_25 (Wd.cell (i := 16) rfl rfl w hw) | exact run_load1 ag_25 (Wd.cell (i := 17) rfl rfl w hw) | exact run_load1 ag_25 (Wd.cell (i := 18) rfl rfl w hw) | exact run_load1 ag_25 (Wd.cell (i := 19) rfl rfl w hw))) (ResA.cell rfl (fun w hw => (by first | exact run_load1 ag_3 (Wd.cell (i := 0) rfl rfl w hw) | exact run_load1 ag_3 (Wd.cell (i := 1) rfl rfl w hw) | exact run_load1 ag_3 (Wd.cell (i := 2) rfl rfl w hw) | exact run_load1 ag_3 (Wd.cell (i := 3) rfl rfl w hw) | exact run_load1 ag_3 (Wd.cell (i := 4) rfl rfl w hw) | exact run_load1 ag_3 (Wd.cell (i := 5) rfl rfl w hw) | exact run_load1 ag_3 (Wd.cell (i := 6) rfl rfl w hw) | exact run_load1 ag_3 (Wd.cell (i := 7) rfl rfl w hw) | exact run_load1 ag_3 (Wd.cell (i := 8) rfl rfl w hw) | exact run_load1 ag_3 (Wd.cell (i := 9) rfl rfl w hw) | exact run_load1 ag_3 (Wd.cell (i := 10) rfl rfl w hw) | exact run_load1 ag_3 (Wd.cell (i := 11) rfl rfl w hw) | exact run_load1 ag_3 (Wd.cell (i := 12) rfl rfl w hw) | exact run_load1 ag_3 (Wd.cell (i := 13) rfl rfl w hw) | exact run_load1 ag_3 (Wd.cell (i := 14) rfl rfl w hw) | exact run_load1 ag_3 (Wd.cell (i := 15) rfl rfl w hw) | exact run_load1 ag_3 (Wd.cell (i := 16) rfl rfl w hw) | exact run_load1 ag_3 (Wd.cell (i := 17) rfl rfl w hw) | exact run_load1 ag_3 (Wd.cell (i := 18) rfl rfl w hw) | exact run_load1 ag_3 (Wd.cell (i := 19) rfl rfl w hw))) (ResA.cell rfl (fun w hw => (by first | exact run_load1 ag_4 (Wd.cell (i := 0) rfl rfl w hw) | exact run_load1 ag_4 (Wd.cell (i := 1) rfl rfl w hw) | exact run_load1 ag_4 (Wd.cell (i := 2) rfl rfl w hw) | exact run_load1 ag_4 (Wd.cell (i := 3) rfl rfl w hw) | exact run_load1 ag_4 (Wd.cell (i := 4) rfl rfl w hw) | exact run_load1 ag_4 (Wd.cell (i := 5) rfl rfl w hw) | exact run_load1 ag_4 (Wd.cell (i := 6) rfl rfl w hw) | exact run_load1 ag_4 (Wd.cell (i := 7) rfl rfl w hw) | exact run_load1 ag_4 (Wd.cell (i := 8) rfl rfl w hw) | exact run_load1 ag_4 (Wd.cell (i := 9) rfl rfl w hw) | exact run_load1 ag_4 (Wd.cell (i := 10) rfl rfl w hw) | exact run_load1 ag_4 (Wd.cell (i := 11) rfl rfl w hw) | exact run_load1 ag_4 (Wd.cell (i := 12) rfl rfl w hw) | exact run_load1 ag_4 (Wd.cell (i := 13) rfl rfl w hw) | exact run_load1 ag_4 (Wd.cell (i := 14) rfl rfl w hw) | exact run_load1 ag_4 (Wd.cell (i := 15) rfl rfl w hw) | exact run_load1 ag_4 (Wd.cell (i := 16) rfl rfl w hw) | exact run_load1 ag_4 (Wd.cell (i := 17) rfl rfl w hw) | exact run_load1 ag_4 (Wd.cell (i := 18) rfl rfl w hw) | exact run_load1 ag_4 (Wd.cell (i := 19) rfl rfl w hw))) (ResA.cell rfl (fun w hw => (by first | exact run_load1 ag_26 (Wd.cell (i := 0) rfl rfl w hw) | exact run_load1 ag_26 (Wd.cell (i := 1) rfl rfl w hw) | exact run_load1 ag_26 (Wd.cell (i := 2) rfl rfl w hw) | exact run_load1 ag_26 (Wd.cell (i := 3) rfl rfl w hw) | exact run_load1 ag_26 (Wd.cell (i := 4) rfl rfl w hw) | exact run_load1 ag_26 (Wd.cell (i := 5) rfl rfl w hw) | exact run_load1 ag_26 (Wd.cell (i := 6) rfl rfl w hw) | exact run_load1 ag_26 (Wd.cell (i := 7) rfl rfl w hw) | exact run_load1 ag_26 (Wd.cell (i := 8) rfl rfl w hw) | exact run_load1 ag_26 (Wd.cell (i := 9) rfl rfl w hw) | exact run_load1 ag_26 (Wd.cell (i := 10) rfl rfl w hw) | exact run_load1 ag_26 (Wd.cell (i := 11) rfl rfl w hw) | exact run_load1 ag_26 (Wd.cell (i := 12) rfl rfl w hw) | exact run_load1 ag_26 (Wd.cell (i := 13) rfl rfl w hw) | exact run_load1 ag_26 (Wd.cell (i := 14) rfl rfl w hw) | exact run_load1 ag_26 (Wd.cell (i := 15) rfl rfl w hw) | exact run_load1 ag_26 (Wd.cell (i := 16) rfl rfl w hw) | exact run_load1 ag_26 (Wd.cell (i := 17) rfl rfl w hw) | exact run_load1 ag_26 (Wd.cell (i := 18) rfl rfl w hw) | exact run_load1 ag_26 (Wd.cell (i := 19) rfl rfl w hw))) ResA.nil)))) (fun w2 hw => ?_) (by first | exact Or.inl rfl | exact Or.inr rfl)
    refine ⟨hw.drop.below, ?_⟩
    rcases hen with ⟨h1, h2⟩ | ⟨h1, ⟨h2, h3⟩ | ⟨h2, _⟩⟩
    · injection h2 with h2; injection h2 with _ h2; subst h2; exact .inl ⟨h1, rfl⟩
    · injection h2 with h2; injection h2 with _ h2; subst h2
      refine .inr (.inl ⟨h1, ?_, rfl⟩)
      cases q : hasS ts with
      | true => exact .inl rfl
      | false => exact .inr (h3 q)
    · injection h2 with h2; injection h2 with _ h2; exact absurd h2 hne
  refine CW.skip ?_
  repeat (first | refine EX.in_normal ?_)
  first | refine EX.then_normal ?_ | skip
  have hval : ¬ longB ts ∧ 0 < ts.length ∧ valK ts ts.length := by
    rcases hen with ⟨h1, h2⟩ | ⟨h1, ⟨h2, h3⟩ | ⟨h2, h3, h4⟩⟩
    · injection h2 with h2; injection h2 with _ h2; omega
    · injection h2 with h2; injection h2 with _ h2; omega
    · exact ⟨h1, h3, h4⟩
  obtain ⟨hlong, hpos, hvl⟩ := hval
  have hok := OkS.of hlong hpos hvl
  have h8 := hok.l8
  repeat (refine CW.seq ?_)
  refine CW.region ?_
  refine SL.val rfl rfl (Gd.g0 rfl) ((by first | exact Yd.load rfl ag_22 (Wd.cell (i := 0) rfl rfl) | exact Yd.load rfl ag_22 (Wd.cell (i := 1) rfl rfl) | exact Yd.load rfl ag_22 (Wd.cell (i := 2) rfl rfl) | exact Yd.load rfl ag_22 (Wd.cell (i := 3) rfl rfl) | exact Yd.load rfl ag_22 (Wd.cell (i := 4) rfl rfl) | exact Yd.load rfl ag_22 (Wd.cell (i := 5) rfl rfl) | exact Yd.load rfl ag_22 (Wd.cell (i := 6) rfl rfl) | exact Yd.load rfl ag_22 (Wd.cell (i := 7) rfl rfl) | exact Yd.load rfl ag_22 (Wd.cell (i := 8) rfl rfl) | exact Yd.load rfl ag_22 (Wd.cell (i := 9) rfl rfl) | exact Yd.load rfl ag_22 (Wd.cell (i := 10) rfl rfl) | exact Yd.load rfl ag_22 (Wd.cell (i := 11) rfl rfl) | exact Yd.load rfl ag_22 (Wd.cell (i := 12) rfl rfl) | exact Yd.load rfl ag_22 (Wd.cell (i := 13) rfl rfl) | exact Yd.load rfl ag_22 (Wd.cell (i := 14) rfl rfl) | exact Yd.load rfl ag_22 (Wd.cell (i := 15) rfl rfl) | exact Yd.load rfl ag_22 (Wd.cell (i := 16) rfl rfl) | exact Yd.load rfl ag_22 (Wd.cell (i := 17) rfl rfl) | exact Yd.load rfl ag_22 (Wd.cell (i := 18) rfl rfl) | exact Yd.load rfl ag_22 (Wd.cell (i := 19) rfl rfl))) ?_
  refine SL.val rfl rfl (Gd.g0 rfl) (Yd.build rfl (by rfl)) ?_
  refine SL.efD rfl rfl (Gd.g0 rfl) (Ef.box rfl) (fun b26 => ?_)
  try dsimp only [Value.cells, List.flatMap_cons, List.flatMap_nil]
  refine SL.efD rfl rfl (Gd.g0 rfl) (Ef.alloc zl_38) (fun b7 => ?_)
  try dsimp only [Value.cells, List.flatMap_cons, List.flatMap_nil]
  refine SL.ef0 rfl (Gd.g0 rfl) (by first | exact Ef0.store (i := 0) rfl rfl rfl ag_38 rfl (by simp) | exact Ef0.store (i := 1) rfl rfl rfl ag_38 rfl (by simp) | exact Ef0.store (i := 2) rfl rfl rfl ag_38 rfl (by simp) | exact Ef0.store (i := 3) rfl rfl rfl ag_38 rfl (by simp) | exact Ef0.store (i := 4) rfl rfl rfl ag_38 rfl (by simp) | exact Ef0.store (i := 5) rfl rfl rfl ag_38 rfl (by simp) | exact Ef0.store (i := 6) rfl rfl rfl ag_38 rfl (by simp) | exact Ef0.store (i := 7) rfl rfl rfl ag_38 rfl (by simp) | exact Ef0.store (i := 8) rfl rfl rfl ag_38 rfl (by simp) | exact Ef0.store (i := 9) rfl rfl rfl ag_38 rfl (by simp) | exact Ef0.store (i := 10) rfl rfl rfl ag_38 rfl (by simp) | exact Ef0.store (i := 11) rfl rfl rfl ag_38 rfl (by simp) | exact Ef0.store (i := 12) rfl rfl rfl ag_38 rfl (by simp) | exact Ef0.store (i := 13) rfl rfl rfl ag_38 rfl (by simp) | exact Ef0.store (i := 14) rfl rfl rfl ag_38 rfl (by simp) | exact Ef0.store (i := 15) rfl rfl rfl ag_38 rfl (by simp) | exact Ef0.store (i := 16) rfl rfl rfl ag_38 rfl (by simp) | exact Ef0.store (i := 17) rfl rfl rfl ag_38 rfl (by simp) | exact Ef0.store (i := 18) rfl rfl rfl ag_38 rfl (by simp) | exact Ef0.store (i := 19) rfl rfl rfl ag_38 rfl (by simp)) ?_
  try dsimp only [setR, List.set, setRow2]
  first | refine SL.nil_then ?_ | refine SL.nil ?_
  repeat (refine CW.seq ?_)
  refine CW.region ?_
  refine SL.efD rfl rfl (Gd.g0 rfl) (Ef.alloc zl_44) (fun b8 => ?_)
  try dsimp only [Value.cells, List.flatMap_cons, List.flatMap_nil]
  first | refine SL.nil_then ?_ | refine SL.nil ?_
  repeat (refine CW.seq ?_)
  refine CW.region ?_
  refine SL.val rfl rfl (Gd.g0 rfl) ((by first | exact Yd.load rfl ag_22 (Wd.cell (i := 0) rfl rfl) | exact Yd.load rfl ag_22 (Wd.cell (i := 1) rfl rfl) | exact Yd.load rfl ag_22 (Wd.cell (i := 2) rfl rfl) | exact Yd.load rfl ag_22 (Wd.cell (i := 3) rfl rfl) | exact Yd.load rfl ag_22 (Wd.cell (i := 4) rfl rfl) | exact Yd.load rfl ag_22 (Wd.cell (i := 5) rfl rfl) | exact Yd.load rfl ag_22 (Wd.cell (i := 6) rfl rfl) | exact Yd.load rfl ag_22 (Wd.cell (i := 7) rfl rfl) | exact Yd.load rfl ag_22 (Wd.cell (i := 8) rfl rfl) | exact Yd.load rfl ag_22 (Wd.cell (i := 9) rfl rfl) | exact Yd.load rfl ag_22 (Wd.cell (i := 10) rfl rfl) | exact Yd.load rfl ag_22 (Wd.cell (i := 11) rfl rfl) | exact Yd.load rfl ag_22 (Wd.cell (i := 12) rfl rfl) | exact Yd.load rfl ag_22 (Wd.cell (i := 13) rfl rfl) | exact Yd.load rfl ag_22 (Wd.cell (i := 14) rfl rfl) | exact Yd.load rfl ag_22 (Wd.cell (i := 15) rfl rfl) | exact Yd.load rfl ag_22 (Wd.cell (i := 16) rfl rfl) | exact Yd.load rfl ag_22 (Wd.cell (i := 17) rfl rfl) | exact Yd.load rfl ag_22 (Wd.cell (i := 18) rfl rfl) | exact Yd.load rfl ag_22 (Wd.cell (i := 19) rfl rfl))) ?_
  refine SL.val rfl rfl (Gd.g0 rfl) (Yd.lenSl rfl isl_22) ?_
  refine SL.val rfl rfl (Gd.g0 rfl) (Yd.move rfl) ?_
  first | refine SL.nil_then ?_ | refine SL.nil ?_
  repeat (refine CW.seq ?_)
  refine CW.block ?_
  refine CW.loop (σ := Nat × Value) (fun s => s.1 ≤ ts.length ∧ ∀ j, j < s.1 → (tk ts j).sc.length = 0) (fun s => [(1, .pointer (some ⟨b1, 0, none⟩)), (2, .pointer (some ⟨b2, 0, none⟩)), (3, .pointer (some ⟨b3, 0, none⟩)), (4, .pointer (some ⟨b4, 0, none⟩)), (5, .pointer (some ⟨b5, 0, none⟩)), (7, .pointer (some ⟨b7, 0, none⟩)), (8, .pointer (some ⟨b8, 0, none⟩)), (27, .slice ao ts.length cap), (28, .int .i64 (ts.length : Int)), (29, .int .i64 (s.1 : Int))])
    (fun s => Wd w [] [Rs.own cdN 3 s.2 (List.range s.1), Rs.row b8 (pR (perT ts s.1) (fun _ => 0)) 44, Rs.row b7 [.pointer (some ⟨b26, 0, none⟩)] 38, Rs.row b26 [.slice ao ts.length cap, s.2] 41, Rs.row b5 [.int .i64 0] 26, Rs.row b4 [.bool false] 4, Rs.row b3 [.int .i64 0] 3, Rs.row b2 [.slice none 0 0] 25, Rs.row b1 [.slice ao ts.length cap] 22, Rs.marks []]) (fun s => ts.length - s.1) (0, .slice none 0 0) ⟨by simp, fun j hj => by simp at hj⟩ (Sub.cons rfl rfl (Sub.cons rfl rfl (Sub.cons rfl rfl (Sub.cons rfl rfl (Sub.cons rfl rfl (Sub.cons rfl rfl (Sub.cons rfl rfl (Sub.cons rfl rfl (Sub.cons rfl rfl (Sub.cons rfl rfl Sub.nil)))))))))) (fun w2 h => (h.own0 cdN 3).pick [0, 1, 2, 3, 4, 5, 6, 7, 8, 9] rfl rfl) ?_
  rintro ⟨k, ov⟩ ⟨hk, hsc⟩
  dsimp only at hk hsc ⊢
  repeat (refine CW.seq ?_)
  refine CW.region ?_
  refine SL.val rfl rfl (Gd.g0 rfl) (Yd.lss rfl rfl) ?_
  first | refine SL.nil_then ?_ | refine SL.nil ?_
  repeat (refine CW.seq ?_)
  refine CW.condD rfl (fun hkn => ?_) (fun hkn => ?_)
  · refine CW.skip ?_
    repeat (first | refine EX.in_normal ?_)
    first | refine EX.then_normal ?_ | skip
    have hlt : k < ts.length := by omega
    obtain ⟨b, off, rfl, hb, hc⟩ := h0 (by omega)
    have hcs := hc k hlt
    obtain ⟨aos, caps, hsv, -⟩ := hv.secs hlt
    have hTk := hok.T k hlt
    have hpn := perT_next ts k
    have hno := fun h => hasS_one hlt h
    have hscn : ∀ h : (tk ts k).sc.length = 0, ∀ j, j < k + 1 → (tk ts j).sc.length = 0 := fun h j hj => by
      rcases Nat.lt_succ_iff_lt_or_eq.1 hj with q | rfl
      · exact hsc j q
      · exact h
    obtain ⟨t, ht⟩ : ∃ t, tk ts k = t := ⟨_, rfl⟩
    rw [ht] at hsv hTk hpn hno hscn
    obtain ⟨nm, T, O, D, C, pr, sv, sc⟩ := t
    obtain rfl : sv = .slice aos sc.length caps := hsv
    dsimp only at hTk hpn hno hscn
    have hcs' : ∀ j v, [Value.string nm, .int .i64 T, .int .i64 O, .int .i64 D, .int .i64 C, .int .i64 pr, .slice aos sc.length caps][j]? = some v → w.cell? ⟨b, off + k * 7 + j, none⟩ = some v := fun j v h => hcs j v (by rw [show ge cdTk ts k = _ from ht]; exact h)
    have hTw : IntKind.i16.wrap T = T := IntWalk.i16_in _ (by omega)
    repeat (refine CW.seq ?_)
    refine CW.block ?_
    repeat (refine CW.seq ?_)
    refine CW.region ?_
    refine SL.val rfl rfl (Gd.g0 rfl) (Yd.move rfl) ?_
    refine SL.val rfl rfl (Gd.g0 rfl) ((by first | exact Yd.indexSlN rfl rfl sl_22 (by omega) | exact Yd.indexSl rfl rfl sl_22 (by omega))) ?_
    refine SL.val rfl rfl (Gd.g0 rfl) ((by first | exact Yd.loadR (i := 0) rfl ag_37 rfl rfl | exact Yd.loadR (i := 1) rfl ag_37 rfl rfl | exact Yd.loadR (i := 2) rfl ag_37 rfl rfl | exact Yd.loadR (i := 3) rfl ag_37 rfl rfl | exact Yd.loadR (i := 4) rfl ag_37 rfl rfl | exact Yd.loadR (i := 5) rfl ag_37 rfl rfl | exact Yd.loadR (i := 6) rfl ag_37 rfl rfl | exact Yd.loadR (i := 7) rfl ag_37 rfl rfl | exact Yd.loadR (i := 8) rfl ag_37 rfl rfl | exact Yd.loadR (i := 9) rfl ag_37 rfl rfl | exact Yd.loadR (i := 10) rfl ag_37 rfl rfl | exact Yd.loadR (i := 11) rfl ag_37 rfl rfl | exact Yd.loadR (i := 12) rfl ag_37 rfl rfl | exact Yd.loadR (i := 13) rfl ag_37 rfl rfl | exact Yd.loadR (i := 14) rfl ag_37 rfl rfl | exact Yd.loadR (i := 15) rfl ag_37 rfl rfl | exact Yd.loadR (i := 16) rfl ag_37 rfl rfl | exact Yd.loadR (i := 17) rfl ag_37 rfl rfl | exact Yd.loadR (i := 18) rfl ag_37 rfl rfl | exact Yd.loadR (i := 19) rfl ag_37 rfl rfl | exact Yd.loadA rfl ag_37 rfl (Wd.inpA hb (by simp) hcs'))) ?_
    refine SL.efD rfl rfl (Gd.g0 rfl) (Ef.alloc zl_37) (fun b10 => ?_)
    try dsimp only [Value.cells, List.flatMap_cons, List.flatMap_nil]
    refine SL.val rfl rfl (Gd.g0 rfl) (Yd.assign rfl) ?_
    refine SL.ef0 rfl (Gd.g0 rfl) (by first | exact Ef0.storeA (i := 0) rfl rfl rfl ag_37 rfl rfl (by simp) | exact Ef0.storeA (i := 1) rfl rfl rfl ag_37 rfl rfl (by simp) | exact Ef0.storeA (i := 2) rfl rfl rfl ag_37 rfl rfl (by simp) | exact Ef0.storeA (i := 3) rfl rfl rfl ag_37 rfl rfl (by simp) | exact Ef0.storeA (i := 4) rfl rfl rfl ag_37 rfl rfl (by simp) | exact Ef0.storeA (i := 5) rfl rfl rfl ag_37 rfl rfl (by simp) | exact Ef0.storeA (i := 6) rfl rfl rfl ag_37 rfl rfl (by simp) | exact Ef0.storeA (i := 7) rfl rfl rfl ag_37 rfl rfl (by simp) | exact Ef0.storeA (i := 8) rfl rfl rfl ag_37 rfl rfl (by simp) | exact Ef0.storeA (i := 9) rfl rfl rfl ag_37 rfl rfl (by simp) | exact Ef0.storeA (i := 10) rfl rfl rfl ag_37 rfl rfl (by simp) | exact Ef0.storeA (i := 11) rfl rfl rfl ag_37 rfl rfl (by simp) | exact Ef0.storeA (i := 12) rfl rfl rfl ag_37 rfl rfl (by simp) | exact Ef0.storeA (i := 13) rfl rfl rfl ag_37 rfl rfl (by simp) | exact Ef0.storeA (i := 14) rfl rfl rfl ag_37 rfl rfl (by simp) | exact Ef0.storeA (i := 15) rfl rfl rfl ag_37 rfl rfl (by simp) | exact Ef0.storeA (i := 16) rfl rfl rfl ag_37 rfl rfl (by simp) | exact Ef0.storeA (i := 17) rfl rfl rfl ag_37 rfl rfl (by simp) | exact Ef0.storeA (i := 18) rfl rfl rfl ag_37 rfl rfl (by simp) | exact Ef0.storeA (i := 19) rfl rfl rfl ag_37 rfl rfl (by simp)) ?_
    try dsimp only [setR, List.set, setRow2]
    first | refine SL.nil_then ?_ | refine SL.nil ?_
    repeat (refine CW.seq ?_)
    refine CW.region ?_
    refine SL.val rfl rfl (Gd.g0 rfl) (Yd.fieldAddr rfl fo_37_6) ?_
    refine SL.val rfl rfl (Gd.g0 rfl) ((by first | exact Yd.load rfl ag_35 (Wd.cell (i := 0) rfl rfl) | exact Yd.load rfl ag_35 (Wd.cell (i := 1) rfl rfl) | exact Yd.load rfl ag_35 (Wd.cell (i := 2) rfl rfl) | exact Yd.load rfl ag_35 (Wd.cell (i := 3) rfl rfl) | exact Yd.load rfl ag_35 (Wd.cell (i := 4) rfl rfl) | exact Yd.load rfl ag_35 (Wd.cell (i := 5) rfl rfl) | exact Yd.load rfl ag_35 (Wd.cell (i := 6) rfl rfl) | exact Yd.load rfl ag_35 (Wd.cell (i := 7) rfl rfl) | exact Yd.load rfl ag_35 (Wd.cell (i := 8) rfl rfl) | exact Yd.load rfl ag_35 (Wd.cell (i := 9) rfl rfl) | exact Yd.load rfl ag_35 (Wd.cell (i := 10) rfl rfl) | exact Yd.load rfl ag_35 (Wd.cell (i := 11) rfl rfl) | exact Yd.load rfl ag_35 (Wd.cell (i := 12) rfl rfl) | exact Yd.load rfl ag_35 (Wd.cell (i := 13) rfl rfl) | exact Yd.load rfl ag_35 (Wd.cell (i := 14) rfl rfl) | exact Yd.load rfl ag_35 (Wd.cell (i := 15) rfl rfl) | exact Yd.load rfl ag_35 (Wd.cell (i := 16) rfl rfl) | exact Yd.load rfl ag_35 (Wd.cell (i := 17) rfl rfl) | exact Yd.load rfl ag_35 (Wd.cell (i := 18) rfl rfl) | exact Yd.load rfl ag_35 (Wd.cell (i := 19) rfl rfl) | exact Yd.load rfl ag_35 (Wd.inpA hb (by simp) hcs'))) ?_
    refine SL.val rfl rfl (Gd.g0 rfl) (Yd.lenSl rfl isl_35) ?_
    refine SL.val rfl rfl (Gd.g0 rfl) (Yd.gtr rfl rfl) ?_
    first | refine SL.nil_then ?_ | refine SL.nil ?_
    repeat (refine CW.seq ?_)
    refine CW.condD rfl (fun hsl => ?_) (fun hsl => ?_)
    · repeat (refine CW.seq ?_)
      refine CW.region ?_
      refine SL.ef0 rfl (Gd.g0 rfl) (by first | exact Ef0.store (i := 0) rfl rfl rfl ag_25 rfl (by simp) | exact Ef0.store (i := 1) rfl rfl rfl ag_25 rfl (by simp) | exact Ef0.store (i := 2) rfl rfl rfl ag_25 rfl (by simp) | exact Ef0.store (i := 3) rfl rfl rfl ag_25 rfl (by simp) | exact Ef0.store (i := 4) rfl rfl rfl ag_25 rfl (by simp) | exact Ef0.store (i := 5) rfl rfl rfl ag_25 rfl (by simp) | exact Ef0.store (i := 6) rfl rfl rfl ag_25 rfl (by simp) | exact Ef0.store (i := 7) rfl rfl rfl ag_25 rfl (by simp) | exact Ef0.store (i := 8) rfl rfl rfl ag_25 rfl (by simp) | exact Ef0.store (i := 9) rfl rfl rfl ag_25 rfl (by simp) | exact Ef0.store (i := 10) rfl rfl rfl ag_25 rfl (by simp) | exact Ef0.store (i := 11) rfl rfl rfl ag_25 rfl (by simp) | exact Ef0.store (i := 12) rfl rfl rfl ag_25 rfl (by simp) | exact Ef0.store (i := 13) rfl rfl rfl ag_25 rfl (by simp) | exact Ef0.store (i := 14) rfl rfl rfl ag_25 rfl (by simp) | exact Ef0.store (i := 15) rfl rfl rfl ag_25 rfl (by simp) | exact Ef0.store (i := 16) rfl rfl rfl ag_25 rfl (by simp) | exact Ef0.store (i := 17) rfl rfl rfl ag_25 rfl (by simp) | exact Ef0.store (i := 18) rfl rfl rfl ag_25 rfl (by simp) | exact Ef0.store (i := 19) rfl rfl rfl ag_25 rfl (by simp)) ?_
      try dsimp only [setR, List.set, setRow2]
      refine SL.ef0 rfl (Gd.g0 rfl) (by first | exact Ef0.store (i := 0) rfl rfl rfl ag_3 rfl (by simp) | exact Ef0.store (i := 1) rfl rfl rfl ag_3 rfl (by simp) | exact Ef0.store (i := 2) rfl rfl rfl ag_3 rfl (by simp) | exact Ef0.store (i := 3) rfl rfl rfl ag_3 rfl (by simp) | exact Ef0.store (i := 4) rfl rfl rfl ag_3 rfl (by simp) | exact Ef0.store (i := 5) rfl rfl rfl ag_3 rfl (by simp) | exact Ef0.store (i := 6) rfl rfl rfl ag_3 rfl (by simp) | exact Ef0.store (i := 7) rfl rfl rfl ag_3 rfl (by simp) | exact Ef0.store (i := 8) rfl rfl rfl ag_3 rfl (by simp) | exact Ef0.store (i := 9) rfl rfl rfl ag_3 rfl (by simp) | exact Ef0.store (i := 10) rfl rfl rfl ag_3 rfl (by simp) | exact Ef0.store (i := 11) rfl rfl rfl ag_3 rfl (by simp) | exact Ef0.store (i := 12) rfl rfl rfl ag_3 rfl (by simp) | exact Ef0.store (i := 13) rfl rfl rfl ag_3 rfl (by simp) | exact Ef0.store (i := 14) rfl rfl rfl ag_3 rfl (by simp) | exact Ef0.store (i := 15) rfl rfl rfl ag_3 rfl (by simp) | exact Ef0.store (i := 16) rfl rfl rfl ag_3 rfl (by simp) | exact Ef0.store (i := 17) rfl rfl rfl ag_3 rfl (by simp) | exact Ef0.store (i := 18) rfl rfl rfl ag_3 rfl (by simp) | exact Ef0.store (i := 19) rfl rfl rfl ag_3 rfl (by simp)) ?_
      try dsimp only [setR, List.set, setRow2]
      refine SL.ef0 rfl (Gd.g0 rfl) (by first | exact Ef0.store (i := 0) rfl rfl rfl ag_4 rfl (by simp) | exact Ef0.store (i := 1) rfl rfl rfl ag_4 rfl (by simp) | exact Ef0.store (i := 2) rfl rfl rfl ag_4 rfl (by simp) | exact Ef0.store (i := 3) rfl rfl rfl ag_4 rfl (by simp) | exact Ef0.store (i := 4) rfl rfl rfl ag_4 rfl (by simp) | exact Ef0.store (i := 5) rfl rfl rfl ag_4 rfl (by simp) | exact Ef0.store (i := 6) rfl rfl rfl ag_4 rfl (by simp) | exact Ef0.store (i := 7) rfl rfl rfl ag_4 rfl (by simp) | exact Ef0.store (i := 8) rfl rfl rfl ag_4 rfl (by simp) | exact Ef0.store (i := 9) rfl rfl rfl ag_4 rfl (by simp) | exact Ef0.store (i := 10) rfl rfl rfl ag_4 rfl (by simp) | exact Ef0.store (i := 11) rfl rfl rfl ag_4 rfl (by simp) | exact Ef0.store (i := 12) rfl rfl rfl ag_4 rfl (by simp) | exact Ef0.store (i := 13) rfl rfl rfl ag_4 rfl (by simp) | exact Ef0.store (i := 14) rfl rfl rfl ag_4 rfl (by simp) | exact Ef0.store (i := 15) rfl rfl rfl ag_4 rfl (by simp) | exact Ef0.store (i := 16) rfl rfl rfl ag_4 rfl (by simp) | exact Ef0.store (i := 17) rfl rfl rfl ag_4 rfl (by simp) | exact Ef0.store (i := 18) rfl rfl rfl ag_4 rfl (by simp) | exact Ef0.store (i := 19) rfl rfl rfl ag_4 rfl (by simp)) ?_
      try dsimp only [setR, List.set, setRow2]
      refine SL.ef0 rfl (Gd.g0 rfl) (by first | exact Ef0.store (i := 0) rfl rfl rfl ag_26 rfl (by simp) | exact Ef0.store (i := 1) rfl rfl rfl ag_26 rfl (by simp) | exact Ef0.store (i := 2) rfl rfl rfl ag_26 rfl (by simp) | exact Ef0.store (i := 3) rfl rfl rfl ag_26 rfl (by simp) | exact Ef0.store (i := 4) rfl rfl rfl ag_26 rfl (by simp) | exact Ef0.store (i := 5) rfl rfl rfl ag_26 rfl (by simp) | exact Ef0.store (i := 6) rfl rfl rfl ag_26 rfl (by simp) | exact Ef0.store (i := 7) rfl rfl rfl ag_26 rfl (by simp) | exact Ef0.store (i := 8) rfl rfl rfl ag_26 rfl (by simp) | exact Ef0.store (i := 9) rfl rfl rfl ag_26 rfl (by simp) | exact Ef0.store (i := 10) rfl rfl rfl ag_26 rfl (by simp) | exact Ef0.store (i := 11) rfl rfl rfl ag_26 rfl (by simp) | exact Ef0.store (i := 12) rfl rfl rfl ag_26 rfl (by simp) | exact Ef0.store (i := 13) rfl rfl rfl ag_26 rfl (by simp) | exact Ef0.store (i := 14) rfl rfl rfl ag_26 rfl (by simp) | exact Ef0.store (i := 15) rfl rfl rfl ag_26 rfl (by simp) | exact Ef0.store (i := 16) rfl rfl rfl ag_26 rfl (by simp) | exact Ef0.store (i := 17) rfl rfl rfl ag_26 rfl (by simp) | exact Ef0.store (i := 18) rfl rfl rfl ag_26 rfl (by simp) | exact Ef0.store (i := 19) rfl rfl rfl ag_26 rfl (by simp)) ?_
      try dsimp only [setR, List.set, setRow2]
      first | refine SL.nil_then ?_ | refine SL.nil ?_
      refine CW.ret ?_
      repeat (first | refine EX.then_ret ?_ | refine EX.in_ret ?_)
      refine EX.outM (i := 10) (rs := _) rfl rfl (ResA.cell rfl (fun w hw => (by first | exact run_load1 ag_25 (Wd.cell (i := 0) rfl rfl w hw) | exact run_load1 ag_25 (Wd.cell (i := 1) rfl rfl w hw) | exact run_load1 ag_25 (Wd.cell (i := 2) rfl rfl w hw) | exact run_load1 ag_25 (Wd.cell (i := 3) rfl rfl w hw) | exact run_load1 ag_25 (Wd.cell (i := 4) rfl rfl w hw) | exact run_load1 ag_25 (Wd.cell (i := 5) rfl rfl w hw) | exact run_load1 ag_25 (Wd.cell (i := 6) rfl rfl w hw) | exact run_load1 ag_25 (Wd.cell (i := 7) rfl rfl w hw) | exact run_load1 ag_25 (Wd.cell (i := 8) rfl rfl w hw) | exact run_load1 ag_25 (Wd.cell (i := 9) rfl rfl w hw) | exact run_load1 ag_25 (Wd.cell (i := 10) rfl rfl w hw) | exact run_load1 ag_25 (Wd.cell (i := 11) rfl rfl w hw) | exact run_load1 ag_25 (Wd.cell (i := 12) rfl rfl w hw) | exact run_load1 ag_25 (Wd.cell (i := 13) rfl rfl w hw) | exact run_load1 ag_25 (Wd.cell (i := 14) rfl rfl w hw) | exact run_load1 ag_25 (Wd.cell (i := 15) rfl rfl w hw) | exact run_load1 ag_25 (Wd.cell (i := 16) rfl rfl w hw) | exact run_load1 ag_25 (Wd.cell (i := 17) rfl rfl w hw) | exact run_load1 ag_25 (Wd.cell (i := 18) rfl rfl w hw) | exact run_load1 ag_25 (Wd.cell (i := 19) rfl rfl w hw))) (ResA.cell rfl (fun w hw => (by first | exact run_load1 ag_3 (Wd.cell (i := 0) rfl rfl w hw) | exact run_load1 ag_3 (Wd.cell (i := 1) rfl rfl w hw) | exact run_load1 ag_3 (Wd.cell (i := 2) rfl rfl w hw) | exact run_load1 ag_3 (Wd.cell (i := 3) rfl rfl w hw) | exact run_load1 ag_3 (Wd.cell (i := 4) rfl rfl w hw) | exact run_load1 ag_3 (Wd.cell (i := 5) rfl rfl w hw) | exact run_load1 ag_3 (Wd.cell (i := 6) rfl rfl w hw) | exact run_load1 ag_3 (Wd.cell (i := 7) rfl rfl w hw) | exact run_load1 ag_3 (Wd.cell (i := 8) rfl rfl w hw) | exact run_load1 ag_3 (Wd.cell (i := 9) rfl rfl w hw) | exact run_load1 ag_3 (Wd.cell (i := 10) rfl rfl w hw) | exact run_load1 ag_3 (Wd.cell (i := 11) rfl rfl w hw) | exact run_load1 ag_3 (Wd.cell (i := 12) rfl rfl w hw) | exact run_load1 ag_3 (Wd.cell (i := 13) rfl rfl w hw) | exact run_load1 ag_3 (Wd.cell (i := 14) rfl rfl w hw) | exact run_load1 ag_3 (Wd.cell (i := 15) rfl rfl w hw) | exact run_load1 ag_3 (Wd.cell (i := 16) rfl rfl w hw) | exact run_load1 ag_3 (Wd.cell (i := 17) rfl rfl w hw) | exact run_load1 ag_3 (Wd.cell (i := 18) rfl rfl w hw) | exact run_load1 ag_3 (Wd.cell (i := 19) rfl rfl w hw))) (ResA.cell rfl (fun w hw => (by first | exact run_load1 ag_4 (Wd.cell (i := 0) rfl rfl w hw) | exact run_load1 ag_4 (Wd.cell (i := 1) rfl rfl w hw) | exact run_load1 ag_4 (Wd.cell (i := 2) rfl rfl w hw) | exact run_load1 ag_4 (Wd.cell (i := 3) rfl rfl w hw) | exact run_load1 ag_4 (Wd.cell (i := 4) rfl rfl w hw) | exact run_load1 ag_4 (Wd.cell (i := 5) rfl rfl w hw) | exact run_load1 ag_4 (Wd.cell (i := 6) rfl rfl w hw) | exact run_load1 ag_4 (Wd.cell (i := 7) rfl rfl w hw) | exact run_load1 ag_4 (Wd.cell (i := 8) rfl rfl w hw) | exact run_load1 ag_4 (Wd.cell (i := 9) rfl rfl w hw) | exact run_load1 ag_4 (Wd.cell (i := 10) rfl rfl w hw) | exact run_load1 ag_4 (Wd.cell (i := 11) rfl rfl w hw) | exact run_load1 ag_4 (Wd.cell (i := 12) rfl rfl w hw) | exact run_load1 ag_4 (Wd.cell (i := 13) rfl rfl w hw) | exact run_load1 ag_4 (Wd.cell (i := 14) rfl rfl w hw) | exact run_load1 ag_4 (Wd.cell (i := 15) rfl rfl w hw) | exact run_load1 ag_4 (Wd.cell (i := 16) rfl rfl w hw) | exact run_load1 ag_4 (Wd.cell (i := 17) rfl rfl w hw) | exact run_load1 ag_4 (Wd.cell (i := 18) rfl rfl w hw) | exact run_load1 ag_4 (Wd.cell (i := 19) rfl rfl w hw))) (ResA.cell rfl (fun w hw => (by first | exact run_load1 ag_26 (Wd.cell (i := 0) rfl rfl w hw) | exact run_load1 ag_26 (Wd.cell (i := 1) rfl rfl w hw) | exact run_load1 ag_26 (Wd.cell (i := 2) rfl rfl w hw) | exact run_load1 ag_26 (Wd.cell (i := 3) rfl rfl w hw) | exact run_load1 ag_26 (Wd.cell (i := 4) rfl rfl w hw) | exact run_load1 ag_26 (Wd.cell (i := 5) rfl rfl w hw) | exact run_load1 ag_26 (Wd.cell (i := 6) rfl rfl w hw) | exact run_load1 ag_26 (Wd.cell (i := 7) rfl rfl w hw) | exact run_load1 ag_26 (Wd.cell (i := 8) rfl rfl w hw) | exact run_load1 ag_26 (Wd.cell (i := 9) rfl rfl w hw) | exact run_load1 ag_26 (Wd.cell (i := 10) rfl rfl w hw) | exact run_load1 ag_26 (Wd.cell (i := 11) rfl rfl w hw) | exact run_load1 ag_26 (Wd.cell (i := 12) rfl rfl w hw) | exact run_load1 ag_26 (Wd.cell (i := 13) rfl rfl w hw) | exact run_load1 ag_26 (Wd.cell (i := 14) rfl rfl w hw) | exact run_load1 ag_26 (Wd.cell (i := 15) rfl rfl w hw) | exact run_load1 ag_26 (Wd.cell (i := 16) rfl rfl w hw) | exact run_load1 ag_26 (Wd.cell (i := 17) rfl rfl w hw) | exact run_load1 ag_26 (Wd.cell (i := 18) rfl rfl w hw) | exact run_load1 ag_26 (Wd.cell (i := 19) rfl rfl w hw))) ResA.nil)))) (fun w2 hw => ?_) (by first | exact Or.inl rfl | exact Or.inr rfl)
      exact ⟨hw.drop.below, .inr (.inl ⟨hlong, .inl (hno (by omega)), rfl⟩)⟩
    refine CW.skip ?_
    repeat (first | refine EX.in_normal ?_)
    first | refine EX.then_normal ?_ | skip
    repeat (refine CW.seq ?_)
    refine CW.draw [(Tb w [], []), ((Rs.row b7 [.pointer (some ⟨b26, 0, none⟩)] 38).ok, []), ((Rs.row b26 [.slice (some ⟨b, off, none⟩) ts.length cap, ov] 41).ok, [10])] mixed (fun w hw => hw.drew) (fun w hw => ⟨(by exact fun _ => hw.tb), (by first | exact fun _ => hw.tb | exact hw.k 0 rfl | exact hw.k 1 rfl | exact hw.k 2 rfl | exact hw.k 3 rfl | exact hw.k 4 rfl | exact hw.k 5 rfl | exact hw.k 6 rfl | exact hw.k 7 rfl | exact hw.k 8 rfl | exact hw.k 9 rfl | exact hw.k 10 rfl | exact hw.k 11 rfl | exact hw.k 12 rfl | exact hw.k 13 rfl | exact hw.k 14 rfl | exact hw.k 15 rfl | exact hw.k 16 rfl | exact hw.k 17 rfl | exact hw.k 18 rfl | exact hw.k 19 rfl | exact SG.gone (by kernel_rfl)), (by first | exact fun _ => hw.tb | exact hw.k 0 rfl | exact hw.k 1 rfl | exact hw.k 2 rfl | exact hw.k 3 rfl | exact hw.k 4 rfl | exact hw.k 5 rfl | exact hw.k 6 rfl | exact hw.k 7 rfl | exact hw.k 8 rfl | exact hw.k 9 rfl | exact hw.k 10 rfl | exact hw.k 11 rfl | exact hw.k 12 rfl | exact hw.k 13 rfl | exact hw.k 14 rfl | exact hw.k 15 rfl | exact hw.k 16 rfl | exact hw.k 17 rfl | exact hw.k 18 rfl | exact hw.k 19 rfl | exact SG.gone (by kernel_rfl)), trivial⟩) ?_
    first | refine DL.take 0 rfl (by kernel_rfl) (by kernel_rfl) (by kernel_rfl) (by kernel_rfl) (by kernel_rfl) rfl rfl (Gd.g0 rfl) (held 0 1 rfl (by kernel_rfl)) (Yd.load rfl ag_38 (row_cell rfl)) ?_ | refine DL.take 0 rfl (by kernel_rfl) (by kernel_rfl) (by kernel_rfl) (by kernel_rfl) (by kernel_rfl) rfl rfl (Gd.g0 rfl) (held 0 2 rfl (by kernel_rfl)) (Yd.load rfl ag_38 (row_cell rfl)) ?_ | refine DL.take 0 rfl (by kernel_rfl) (by kernel_rfl) (by kernel_rfl) (by kernel_rfl) (by kernel_rfl) rfl rfl (Gd.g0 rfl) (held 0 3 rfl (by kernel_rfl)) (Yd.load rfl ag_38 (row_cell rfl)) ?_ | refine DL.take 0 rfl (by kernel_rfl) (by kernel_rfl) (by kernel_rfl) (by kernel_rfl) (by kernel_rfl) rfl rfl (Gd.g0 rfl) (held 0 4 rfl (by kernel_rfl)) (Yd.load rfl ag_38 (row_cell rfl)) ?_ | refine DL.take 0 rfl (by kernel_rfl) (by kernel_rfl) (by kernel_rfl) (by kernel_rfl) (by kernel_rfl) rfl rfl (Gd.g0 rfl) (held 0 5 rfl (by kernel_rfl)) (Yd.load rfl ag_38 (row_cell rfl)) ?_
    first | refine DL.take 1 rfl (by kernel_rfl) (by kernel_rfl) (by kernel_rfl) (by kernel_rfl) (by kernel_rfl) rfl rfl (Gd.g0 rfl) (held 1 1 rfl (by kernel_rfl)) (Yd.load rfl ag_38 (row_cell rfl)) ?_ | refine DL.take 1 rfl (by kernel_rfl) (by kernel_rfl) (by kernel_rfl) (by kernel_rfl) (by kernel_rfl) rfl rfl (Gd.g0 rfl) (held 1 2 rfl (by kernel_rfl)) (Yd.load rfl ag_38 (row_cell rfl)) ?_ | refine DL.take 1 rfl (by kernel_rfl) (by kernel_rfl) (by kernel_rfl) (by kernel_rfl) (by kernel_rfl) rfl rfl (Gd.g0 rfl) (held 1 3 rfl (by kernel_rfl)) (Yd.load rfl ag_38 (row_cell rfl)) ?_ | refine DL.take 1 rfl (by kernel_rfl) (by kernel_rfl) (by kernel_rfl) (by kernel_rfl) (by kernel_rfl) rfl rfl (Gd.g0 rfl) (held 1 4 rfl (by kernel_rfl)) (Yd.load rfl ag_38 (row_cell rfl)) ?_ | refine DL.take 1 rfl (by kernel_rfl) (by kernel_rfl) (by kernel_rfl) (by kernel_rfl) (by kernel_rfl) rfl rfl (Gd.g0 rfl) (held 1 5 rfl (by kernel_rfl)) (Yd.load rfl ag_38 (row_cell rfl)) ?_
    refine DL.take 2 rfl (by kernel_rfl) (by kernel_rfl) (by kernel_rfl) (by kernel_rfl) (by kernel_rfl) rfl rfl (Gd.g0 rfl) (heldN 2) (Yd.nilCheck rfl) ?_
    refine DL.take 3 rfl (by kernel_rfl) (by kernel_rfl) (by kernel_rfl) (by kernel_rfl) (by kernel_rfl) rfl rfl (Gd.g0 rfl) (heldN 3) (Yd.fieldAddr rfl fo_41_1) ?_
    first | refine DL.take 4 rfl (by kernel_rfl) (by kernel_rfl) (by kernel_rfl) (by kernel_rfl) (by kernel_rfl) rfl rfl (Gd.g0 rfl) (held 4 1 rfl (by kernel_rfl)) (Yd.load rfl ag_39 (row_cell rfl)) ?_ | refine DL.take 4 rfl (by kernel_rfl) (by kernel_rfl) (by kernel_rfl) (by kernel_rfl) (by kernel_rfl) rfl rfl (Gd.g0 rfl) (held 4 2 rfl (by kernel_rfl)) (Yd.load rfl ag_39 (row_cell rfl)) ?_ | refine DL.take 4 rfl (by kernel_rfl) (by kernel_rfl) (by kernel_rfl) (by kernel_rfl) (by kernel_rfl) rfl rfl (Gd.g0 rfl) (held 4 3 rfl (by kernel_rfl)) (Yd.load rfl ag_39 (row_cell rfl)) ?_ | refine DL.take 4 rfl (by kernel_rfl) (by kernel_rfl) (by kernel_rfl) (by kernel_rfl) (by kernel_rfl) rfl rfl (Gd.g0 rfl) (held 4 4 rfl (by kernel_rfl)) (Yd.load rfl ag_39 (row_cell rfl)) ?_ | refine DL.take 4 rfl (by kernel_rfl) (by kernel_rfl) (by kernel_rfl) (by kernel_rfl) (by kernel_rfl) rfl rfl (Gd.g0 rfl) (held 4 5 rfl (by kernel_rfl)) (Yd.load rfl ag_39 (row_cell rfl)) ?_
    refine DL.take 5 rfl (by kernel_rfl) (by kernel_rfl) (by kernel_rfl) (by kernel_rfl) (by kernel_rfl) rfl rfl (Gd.g0 rfl) (heldN 5) (Yd.move rfl) ?_
    refine DL.ready1 (i := 6) (by kernel_rfl) ?_
    refine D1.ef rfl rfl rfl (Gd.g0 rfl) (Ef.buildSlice rfl se_39 rfl rfl rfl rfl) (fun _ w hw => ⟨(by exact fun _ => hw.tb), (by first | exact fun _ => hw.tb | exact hw.k 0 rfl | exact hw.k 1 rfl | exact hw.k 2 rfl | exact hw.k 3 rfl | exact hw.k 4 rfl | exact hw.k 5 rfl | exact hw.k 6 rfl | exact hw.k 7 rfl | exact hw.k 8 rfl | exact hw.k 9 rfl | exact hw.k 10 rfl | exact hw.k 11 rfl | exact hw.k 12 rfl | exact hw.k 13 rfl | exact hw.k 14 rfl | exact hw.k 15 rfl | exact hw.k 16 rfl | exact hw.k 17 rfl | exact hw.k 18 rfl | exact hw.k 19 rfl | exact SG.gone (by kernel_rfl)), (by first | exact fun _ => hw.tb | exact hw.k 0 rfl | exact hw.k 1 rfl | exact hw.k 2 rfl | exact hw.k 3 rfl | exact hw.k 4 rfl | exact hw.k 5 rfl | exact hw.k 6 rfl | exact hw.k 7 rfl | exact hw.k 8 rfl | exact hw.k 9 rfl | exact hw.k 10 rfl | exact hw.k 11 rfl | exact hw.k 12 rfl | exact hw.k 13 rfl | exact hw.k 14 rfl | exact hw.k 15 rfl | exact hw.k 16 rfl | exact hw.k 17 rfl | exact hw.k 18 rfl | exact hw.k 19 rfl | exact SG.gone (by kernel_rfl)), trivial⟩) (fun b44 => ?_)
    try dsimp only [Value.cells, List.flatMap_cons, List.flatMap_nil]
    refine DL.ready1 (i := 7) (by kernel_rfl) ?_
    refine D1.ef rfl rfl rfl (Gd.g0 rfl) (Ef.append1 (i := 2) (c := cdN) (y := k) rfl rfl se_39 rfl rfl (fun w hw j u hj => by rw [Nat.zero_add]; exact Wd.cell (i := 0) rfl hj w hw) rfl (by rw [List.length_range]; omega) (by rw [List.length_range]; show _ ≤ 9223372036854775807; omega)) (fun _ w hw => ⟨(by exact fun _ => hw.tb), (by first | exact fun _ => hw.tb | exact hw.k 0 rfl | exact hw.k 1 rfl | exact hw.k 2 rfl | exact hw.k 3 rfl | exact hw.k 4 rfl | exact hw.k 5 rfl | exact hw.k 6 rfl | exact hw.k 7 rfl | exact hw.k 8 rfl | exact hw.k 9 rfl | exact hw.k 10 rfl | exact hw.k 11 rfl | exact hw.k 12 rfl | exact hw.k 13 rfl | exact hw.k 14 rfl | exact hw.k 15 rfl | exact hw.k 16 rfl | exact hw.k 17 rfl | exact hw.k 18 rfl | exact hw.k 19 rfl | exact SG.gone (by kernel_rfl)), (by first | exact fun _ => hw.tb | exact hw.k 0 rfl | exact hw.k 1 rfl | exact hw.k 2 rfl | exact hw.k 3 rfl | exact hw.k 4 rfl | exact hw.k 5 rfl | exact hw.k 6 rfl | exact hw.k 7 rfl | exact hw.k 8 rfl | exact hw.k 9 rfl | exact hw.k 10 rfl | exact hw.k 11 rfl | exact hw.k 12 rfl | exact hw.k 13 rfl | exact hw.k 14 rfl | exact hw.k 15 rfl | exact hw.k 16 rfl | exact hw.k 17 rfl | exact hw.k 18 rfl | exact hw.k 19 rfl | exact SG.gone (by kernel_rfl)), trivial⟩) (fun b45 => ?_)
    try dsimp only [setR]
    refine DL.take 8 rfl (by kernel_rfl) (by kernel_rfl) (by kernel_rfl) (by kernel_rfl) (by kernel_rfl) rfl rfl (Gd.g0 rfl) (heldN 8) (Yd.nilCheck rfl) ?_
    refine DL.take 9 rfl (by kernel_rfl) (by kernel_rfl) (by kernel_rfl) (by kernel_rfl) (by kernel_rfl) rfl rfl (Gd.g0 rfl) (heldN 9) (Yd.fieldAddr rfl fo_41_1) ?_
    refine DL.ready1 (i := 10) (by kernel_rfl) ?_
    refine D1.ef0 rfl rfl (Gd.g0 rfl) (by first | exact Ef0.store (i := 0) rfl rfl rfl ag_39 rfl (by simp) | exact Ef0.store (i := 1) rfl rfl rfl ag_39 rfl (by simp) | exact Ef0.store (i := 2) rfl rfl rfl ag_39 rfl (by simp) | exact Ef0.store (i := 3) rfl rfl rfl ag_39 rfl (by simp) | exact Ef0.store (i := 4) rfl rfl rfl ag_39 rfl (by simp) | exact Ef0.store (i := 5) rfl rfl rfl ag_39 rfl (by simp) | exact Ef0.store (i := 6) rfl rfl rfl ag_39 rfl (by simp) | exact Ef0.store (i := 7) rfl rfl rfl ag_39 rfl (by simp) | exact Ef0.store (i := 8) rfl rfl rfl ag_39 rfl (by simp) | exact Ef0.store (i := 9) rfl rfl rfl ag_39 rfl (by simp) | exact Ef0.store (i := 10) rfl rfl rfl ag_39 rfl (by simp) | exact Ef0.store (i := 11) rfl rfl rfl ag_39 rfl (by simp) | exact Ef0.store (i := 12) rfl rfl rfl ag_39 rfl (by simp) | exact Ef0.store (i := 13) rfl rfl rfl ag_39 rfl (by simp) | exact Ef0.store (i := 14) rfl rfl rfl ag_39 rfl (by simp) | exact Ef0.store (i := 15) rfl rfl rfl ag_39 rfl (by simp) | exact Ef0.store (i := 16) rfl rfl rfl ag_39 rfl (by simp) | exact Ef0.store (i := 17) rfl rfl rfl ag_39 rfl (by simp) | exact Ef0.store (i := 18) rfl rfl rfl ag_39 rfl (by simp) | exact Ef0.store (i := 19) rfl rfl rfl ag_39 rfl (by simp)) (fun w hw => ⟨(by exact fun _ => hw.tb), (by first | exact fun _ => hw.tb | exact hw.k 0 rfl | exact hw.k 1 rfl | exact hw.k 2 rfl | exact hw.k 3 rfl | exact hw.k 4 rfl | exact hw.k 5 rfl | exact hw.k 6 rfl | exact hw.k 7 rfl | exact hw.k 8 rfl | exact hw.k 9 rfl | exact hw.k 10 rfl | exact hw.k 11 rfl | exact hw.k 12 rfl | exact hw.k 13 rfl | exact hw.k 14 rfl | exact hw.k 15 rfl | exact hw.k 16 rfl | exact hw.k 17 rfl | exact hw.k 18 rfl | exact hw.k 19 rfl | exact SG.gone (by kernel_rfl)), (by first | exact fun _ => hw.tb | exact hw.k 0 rfl | exact hw.k 1 rfl | exact hw.k 2 rfl | exact hw.k 3 rfl | exact hw.k 4 rfl | exact hw.k 5 rfl | exact hw.k 6 rfl | exact hw.k 7 rfl | exact hw.k 8 rfl | exact hw.k 9 rfl | exact hw.k 10 rfl | exact hw.k 11 rfl | exact hw.k 12 rfl | exact hw.k 13 rfl | exact hw.k 14 rfl | exact hw.k 15 rfl | exact hw.k 16 rfl | exact hw.k 17 rfl | exact hw.k 18 rfl | exact hw.k 19 rfl | exact SG.gone (by kernel_rfl)), trivial⟩) ?_
    try dsimp only [setR, List.set, setRow2]
    refine DL.done (by kernel_rfl) ?_
    first | refine EX.then_normal ?_ | skip
    repeat (refine CW.seq ?_)
    refine CW.region ?_
    refine SL.val rfl rfl (Gd.g0 rfl) (Yd.move rfl) ?_
    refine SL.val rfl rfl (Gd.g0 rfl) ((by first | exact Yd.mulC 2 rfl rfl (by omega) | exact Yd.mul rfl rfl (by omega) | exact Yd.mulW rfl rfl)) ?_
    refine SL.val rfl rfl (Gd.g0 rfl) (Yd.fieldAddr rfl fo_37_1) ?_
    refine SL.val rfl rfl (Gd.g0 rfl) ((by first | exact Yd.load rfl ag_2 (Wd.cell (i := 0) rfl rfl) | exact Yd.load rfl ag_2 (Wd.cell (i := 1) rfl rfl) | exact Yd.load rfl ag_2 (Wd.cell (i := 2) rfl rfl) | exact Yd.load rfl ag_2 (Wd.cell (i := 3) rfl rfl) | exact Yd.load rfl ag_2 (Wd.cell (i := 4) rfl rfl) | exact Yd.load rfl ag_2 (Wd.cell (i := 5) rfl rfl) | exact Yd.load rfl ag_2 (Wd.cell (i := 6) rfl rfl) | exact Yd.load rfl ag_2 (Wd.cell (i := 7) rfl rfl) | exact Yd.load rfl ag_2 (Wd.cell (i := 8) rfl rfl) | exact Yd.load rfl ag_2 (Wd.cell (i := 9) rfl rfl) | exact Yd.load rfl ag_2 (Wd.cell (i := 10) rfl rfl) | exact Yd.load rfl ag_2 (Wd.cell (i := 11) rfl rfl) | exact Yd.load rfl ag_2 (Wd.cell (i := 12) rfl rfl) | exact Yd.load rfl ag_2 (Wd.cell (i := 13) rfl rfl) | exact Yd.load rfl ag_2 (Wd.cell (i := 14) rfl rfl) | exact Yd.load rfl ag_2 (Wd.cell (i := 15) rfl rfl) | exact Yd.load rfl ag_2 (Wd.cell (i := 16) rfl rfl) | exact Yd.load rfl ag_2 (Wd.cell (i := 17) rfl rfl) | exact Yd.load rfl ag_2 (Wd.cell (i := 18) rfl rfl) | exact Yd.load rfl ag_2 (Wd.cell (i := 19) rfl rfl))) ?_
    refine SL.val rfl rfl (Gd.g0 rfl) ((by first | exact Yd.convK rfl un_2 ik_42 rfl | exact Yd.convK rfl un_2 ik_42 (by assumption) | exact Yd.conv rfl un_2 ik_42)) ?_
    refine SL.val rfl rfl (Gd.g0 rfl) ((by first | exact Yd.indexArN rfl rfl ar_44 (by omega) | exact Yd.indexAr rfl rfl ar_44 (by omega))) ?_
    refine SL.ef0 rfl (Gd.g0 rfl) (Ef0.store (i := 3) rfl rfl rfl ag_42 rfl (by rw [pR_len]; omega)) ?_
    try dsimp only [setR]
    rw [show 0 + 2 * k * 1 = 2 * k by omega, pR_set0, hpn, ← List.range_succ]
    first | refine SL.nil_then ?_ | refine SL.nil ?_
    repeat (first | refine EX.in_normal ?_)
    first | refine EX.then_normal ?_ | skip
    repeat (refine CW.seq ?_)
    refine CW.region ?_
    refine SL.val rfl rfl (Gd.g0 rfl) ((by first | exact Yd.inc rfl (by omega) | exact Yd.add rfl rfl (by omega) | exact Yd.addW rfl rfl)) ?_
    refine SL.val rfl rfl (Gd.g0 rfl) (Yd.move rfl) ?_
    first | refine SL.nil_then ?_ | refine SL.nil ?_
    refine EX.round (s := (k, ov)) (k + 1, _) ⟨by omega, hscn (by omega)⟩ (by dsimp only; omega) (Sub.cons rfl rfl (Sub.cons rfl rfl (Sub.cons rfl rfl (Sub.cons rfl rfl (Sub.cons rfl rfl (Sub.cons rfl rfl (Sub.cons rfl rfl (Sub.cons rfl rfl (Sub.cons rfl rfl (Sub.cons rfl rfl Sub.nil)))))))))) (fun w2 h => h.pick [2, 3, 4, 5, 6, 7, 8, 9, 10, 11] rfl rfl)
  refine CW.exit ?_
  repeat (first | refine EX.then_exit ?_ | refine EX.in_exit rfl ?_ | refine EX.in_exit_ne rfl ?_)
  first | refine EX.then_normal ?_ | skip
  obtain rfl : k = ts.length := by omega
  have hns : hasS ts = false := hasS_all hsc
  refine CW.know (fun w2 hw => own_open (hw.ok 0 _ rfl)) (fun ho => ?_)
  rcases ho with ⟨_, q⟩ | ⟨bo, co, rfl⟩
  · have := congrArg List.length q
    rw [List.length_range, List.length_nil] at this; omega
  have hpR0 : pR (perT ts ts.length) (fun _ => 0) = pR (sF (mk16 (perT ts ts.length) (fun _ => 0))) (lF (mk16 (perT ts ts.length) (fun _ => 0))) := (pR_mk _ _).symm
  rw [hpR0]
  have hg0 := GdX.first hok
  obtain ⟨x0, hx0⟩ : ∃ x0, mk16 (perT ts ts.length) (fun _ => 0) = x0 := ⟨_, rfl⟩
  rw [hx0] at hg0 ⊢
  have hsort : ∀ w2, Wd w [] [Rs.own cdN 3 (.slice (some ⟨bo, 0, none⟩) (List.range ts.length).length co) (List.range ts.length), Rs.row b8 (pR (sF x0) (lF x0)) 44, Rs.row b7 [.pointer (some ⟨b26, 0, none⟩)] 38, Rs.row b26 [.slice ao ts.length cap, .slice (some ⟨bo, 0, none⟩) (List.range ts.length).length co] 41, Rs.row b5 [.int .i64 0] 26, Rs.row b4 [.bool false] 4, Rs.row b3 [.int .i64 0] 3, Rs.row b2 [.slice none 0 0] 25, Rs.row b1 [.slice ao ts.length cap] 22, Rs.marks []] w2 →
      Calls Try.prog 16 #[.slice (some ⟨bo, 0, none⟩) (List.range ts.length).length co, .func (.func 17) #[] #[.pointer (some ⟨b1, 0, none⟩)]] w2 fun e w' => ∃ s : {od : List Nat // Ord ts od}, e = .returned (.tuple #[]) ∧ Wd w [] [Rs.own cdN 3 (.slice (some ⟨bo, 0, none⟩) (List.range ts.length).length co) s.1, Rs.row b8 (pR (sF x0) (lF x0)) 44, Rs.row b7 [.pointer (some ⟨b26, 0, none⟩)] 38, Rs.row b26 [.slice ao ts.length cap, .slice (some ⟨bo, 0, none⟩) (List.range ts.length).length co] 41, Rs.row b5 [.int .i64 0] 26, Rs.row b4 [.bool false] 4, Rs.row b3 [.int .i64 0] 3, Rs.row b2 [.slice none 0 0] 25, Rs.row b1 [.slice ao ts.length cap] 22, Rs.marks []] w' := fun w2 hw => by
    refine (prog_sort bo co (List.range ts.length) (fun k => (tk ts k).pr) 17 [.pointer (some ⟨b1, 0, none⟩)] w2 (hw.ok 0 _ rfl) (by rw [List.length_range]; omega) ⟨List.Perm.refl _, List.nodup_range, fun x hx y hy e => hok.ne x y (List.mem_range.1 hx) (List.mem_range.1 hy) e⟩ (fun x hx => ?_) cf_17 (fun x hx y hy w3 h3 => ?_)).mono fun e w' ⟨xs, ⟨h1, h2⟩, h3, h4⟩ => ⟨⟨xs, ord_of hok h1 h2⟩, h3, hw.after (i := 0) rfl h4⟩
    · have hx := List.mem_range.1 hx
      have := hok.pr x hx; have := hpr x hx; omega
    · have hx := List.mem_range.1 hx
      have hy := List.mem_range.1 hy
      have h4 := hw.after0 (i := 0) rfl h3
      have h5 := h4.ok 8 _ rfl
      exact prog_cmp _ ts b1 x y w3 (hv.keepb h4.below) ((Rs.row b1 [.slice ao ts.length cap] 22).inh w3 h5 b1 (by simp [Rs.row])) (row_cell rfl w3 h5) hx hy ⟨hok.pr x hx, hpr x hx⟩ ⟨hok.pr y hy, hpr y hy⟩
  repeat (refine CW.seq ?_)
  refine CW.region ?_
  refine SL.val rfl rfl (Gd.g0 rfl) ((by first | exact Yd.load rfl ag_38 (Wd.cell (i := 0) rfl rfl) | exact Yd.load rfl ag_38 (Wd.cell (i := 1) rfl rfl) | exact Yd.load rfl ag_38 (Wd.cell (i := 2) rfl rfl) | exact Yd.load rfl ag_38 (Wd.cell (i := 3) rfl rfl) | exact Yd.load rfl ag_38 (Wd.cell (i := 4) rfl rfl) | exact Yd.load rfl ag_38 (Wd.cell (i := 5) rfl rfl) | exact Yd.load rfl ag_38 (Wd.cell (i := 6) rfl rfl) | exact Yd.load rfl ag_38 (Wd.cell (i := 7) rfl rfl) | exact Yd.load rfl ag_38 (Wd.cell (i := 8) rfl rfl) | exact Yd.load rfl ag_38 (Wd.cell (i := 9) rfl rfl) | exact Yd.load rfl ag_38 (Wd.cell (i := 10) rfl rfl) | exact Yd.load rfl ag_38 (Wd.cell (i := 11) rfl rfl) | exact Yd.load rfl ag_38 (Wd.cell (i := 12) rfl rfl) | exact Yd.load rfl ag_38 (Wd.cell (i := 13) rfl rfl) | exact Yd.load rfl ag_38 (Wd.cell (i := 14) rfl rfl) | exact Yd.load rfl ag_38 (Wd.cell (i := 15) rfl rfl) | exact Yd.load rfl ag_38 (Wd.cell (i := 16) rfl rfl) | exact Yd.load rfl ag_38 (Wd.cell (i := 17) rfl rfl) | exact Yd.load rfl ag_38 (Wd.cell (i := 18) rfl rfl) | exact Yd.load rfl ag_38 (Wd.cell (i := 19) rfl rfl))) ?_
  refine SL.val rfl rfl (Gd.g0 rfl) (Yd.nilCheck rfl) ?_
  refine SL.val rfl rfl (Gd.g0 rfl) (Yd.fieldAddr rfl fo_41_1) ?_
  refine SL.val rfl rfl (Gd.g0 rfl) ((by first | exact Yd.load rfl ag_39 (Wd.cell (i := 0) rfl rfl) | exact Yd.load rfl ag_39 (Wd.cell (i := 1) rfl rfl) | exact Yd.load rfl ag_39 (Wd.cell (i := 2) rfl rfl) | exact Yd.load rfl ag_39 (Wd.cell (i := 3) rfl rfl) | exact Yd.load rfl ag_39 (Wd.cell (i := 4) rfl rfl) | exact Yd.load rfl ag_39 (Wd.cell (i := 5) rfl rfl) | exact Yd.load rfl ag_39 (Wd.cell (i := 6) rfl rfl) | exact Yd.load rfl ag_39 (Wd.cell (i := 7) rfl rfl) | exact Yd.load rfl ag_39 (Wd.cell (i := 8) rfl rfl) | exact Yd.load rfl ag_39 (Wd.cell (i := 9) rfl rfl) | exact Yd.load rfl ag_39 (Wd.cell (i := 10) rfl rfl) | exact Yd.load rfl ag_39 (Wd.cell (i := 11) rfl rfl) | exact Yd.load rfl ag_39 (Wd.cell (i := 12) rfl rfl) | exact Yd.load rfl ag_39 (Wd.cell (i := 13) rfl rfl) | exact Yd.load rfl ag_39 (Wd.cell (i := 14) rfl rfl) | exact Yd.load rfl ag_39 (Wd.cell (i := 15) rfl rfl) | exact Yd.load rfl ag_39 (Wd.cell (i := 16) rfl rfl) | exact Yd.load rfl ag_39 (Wd.cell (i := 17) rfl rfl) | exact Yd.load rfl ag_39 (Wd.cell (i := 18) rfl rfl) | exact Yd.load rfl ag_39 (Wd.cell (i := 19) rfl rfl))) ?_
  refine SL.val rfl rfl (Gd.g0 rfl) (Yd.makeFunc rfl rfl) ?_
  refine SL.callG (σ := {od : List Nat // Ord ts od}) (V := fun _ => .tuple #[]) rfl rfl (Gd.g0 rfl) (Cll.func rfl cf_16) hsort (fun od => ?_)
  first | refine SL.nil_then ?_ | refine SL.nil ?_
  obtain ⟨od, hod⟩ := od
  repeat (refine CW.seq ?_)
  refine CW.region ?_
  refine SL.val rfl rfl (Gd.g0 rfl) ((by first | exact Yd.load rfl ag_22 (Wd.cell (i := 0) rfl rfl) | exact Yd.load rfl ag_22 (Wd.cell (i := 1) rfl rfl) | exact Yd.load rfl ag_22 (Wd.cell (i := 2) rfl rfl) | exact Yd.load rfl ag_22 (Wd.cell (i := 3) rfl rfl) | exact Yd.load rfl ag_22 (Wd.cell (i := 4) rfl rfl) | exact Yd.load rfl ag_22 (Wd.cell (i := 5) rfl rfl) | exact Yd.load rfl ag_22 (Wd.cell (i := 6) rfl rfl) | exact Yd.load rfl ag_22 (Wd.cell (i := 7) rfl rfl) | exact Yd.load rfl ag_22 (Wd.cell (i := 8) rfl rfl) | exact Yd.load rfl ag_22 (Wd.cell (i := 9) rfl rfl) | exact Yd.load rfl ag_22 (Wd.cell (i := 10) rfl rfl) | exact Yd.load rfl ag_22 (Wd.cell (i := 11) rfl rfl) | exact Yd.load rfl ag_22 (Wd.cell (i := 12) rfl rfl) | exact Yd.load rfl ag_22 (Wd.cell (i := 13) rfl rfl) | exact Yd.load rfl ag_22 (Wd.cell (i := 14) rfl rfl) | exact Yd.load rfl ag_22 (Wd.cell (i := 15) rfl rfl) | exact Yd.load rfl ag_22 (Wd.cell (i := 16) rfl rfl) | exact Yd.load rfl ag_22 (Wd.cell (i := 17) rfl rfl) | exact Yd.load rfl ag_22 (Wd.cell (i := 18) rfl rfl) | exact Yd.load rfl ag_22 (Wd.cell (i := 19) rfl rfl))) ?_
  refine SL.val rfl rfl (Gd.g0 rfl) (Yd.lenSl rfl isl_22) ?_
  refine SL.efD rfl rfl (Gd.g0 rfl) (Ef.makeSlice rfl rfl se_25 (by omega) (by omega)) (fun b63 => ?_)
  try dsimp only [Value.cells, List.flatMap_cons, List.flatMap_nil]
  refine SL.efD rfl rfl (Gd.g0 rfl) (Ef.alloc zl_25) (fun b11 => ?_)
  try dsimp only [Value.cells, List.flatMap_cons, List.flatMap_nil]
  refine SL.ef0 rfl (Gd.g0 rfl) (by first | exact Ef0.store (i := 0) rfl rfl rfl ag_25 rfl (by simp) | exact Ef0.store (i := 1) rfl rfl rfl ag_25 rfl (by simp) | exact Ef0.store (i := 2) rfl rfl rfl ag_25 rfl (by simp) | exact Ef0.store (i := 3) rfl rfl rfl ag_25 rfl (by simp) | exact Ef0.store (i := 4) rfl rfl rfl ag_25 rfl (by simp) | exact Ef0.store (i := 5) rfl rfl rfl ag_25 rfl (by simp) | exact Ef0.store (i := 6) rfl rfl rfl ag_25 rfl (by simp) | exact Ef0.store (i := 7) rfl rfl rfl ag_25 rfl (by simp) | exact Ef0.store (i := 8) rfl rfl rfl ag_25 rfl (by simp) | exact Ef0.store (i := 9) rfl rfl rfl ag_25 rfl (by simp) | exact Ef0.store (i := 10) rfl rfl rfl ag_25 rfl (by simp) | exact Ef0.store (i := 11) rfl rfl rfl ag_25 rfl (by simp) | exact Ef0.store (i := 12) rfl rfl rfl ag_25 rfl (by simp) | exact Ef0.store (i := 13) rfl rfl rfl ag_25 rfl (by simp) | exact Ef0.store (i := 14) rfl rfl rfl ag_25 rfl (by simp) | exact Ef0.store (i := 15) rfl rfl rfl ag_25 rfl (by simp) | exact Ef0.store (i := 16) rfl rfl rfl ag_25 rfl (by simp) | exact Ef0.store (i := 17) rfl rfl rfl ag_25 rfl (by simp) | exact Ef0.store (i := 18) rfl rfl rfl ag_25 rfl (by simp) | exact Ef0.store (i := 19) rfl rfl rfl ag_25 rfl (by simp)) ?_
  try dsimp only [setR, List.set, setRow2]
  first | refine SL.nil_then ?_ | refine SL.nil ?_
  have hmade : madeL [Value.int .i64 0] (ts.length * 1) = (initX ts).worst.map (Value.int .i64) := by
    rw [madeL_one, Nat.mul_one]; simp [initX]
  rw [hmade]
  have hm16 : ∀ x : List Int, (pR (sF x) (lF x)).toArray.toList ++ [] = [x].flatMap cdP.cells := fun x => by simp [cdP]
  refine CW.cut (σ := Nat × Nat × Nat × Nat) (fun _ => True) (fun s => [(2, .pointer (some ⟨b2, 0, none⟩)), (3, .pointer (some ⟨b3, 0, none⟩)), (4, .pointer (some ⟨b4, 0, none⟩)), (5, .pointer (some ⟨b5, 0, none⟩)), (7, .pointer (some ⟨b7, 0, none⟩)), (11, .pointer (some ⟨b11, 0, none⟩)), (12, .pointer (some ⟨s.2.2.1, 0, none⟩)), (13, .pointer (some ⟨s.2.2.2, 0, none⟩))])
    (fun s => Wd w [] [Rs.row s.2.2.2 [.slice (some ⟨s.2.1, 0, none⟩) 1 1] 48, Rs.row s.2.2.1 [.map (some s.1)] 47, Rs.own cdP 44 (.slice (some ⟨s.2.1, 0, none⟩) 1 1) [x0], Rs.mp s.1 (fun x : List Int => .agg (pR (sF x) (lF x)).toArray) tt1 (setM [x0]), Rs.row b11 [.slice (some ⟨b63, 0, none⟩) ts.length ts.length] 25, Rs.row b63 ((initX ts).worst.map (Value.int .i64)) 2,
      Rs.own cdN 3 (.slice (some ⟨bo, 0, none⟩) (List.range ts.length).length co) od, Rs.row b7 [.pointer (some ⟨b26, 0, none⟩)] 38, Rs.row b26 [.slice ao ts.length cap, .slice (some ⟨bo, 0, none⟩) (List.range ts.length).length co] 41, Rs.row b5 [.int .i64 0] 26, Rs.row b4 [.bool false] 4, Rs.row b3 [.int .i64 0] 3, Rs.row b2 [.slice none 0 0] 25, Rs.marks []]) ?_ (fun s _ => ?_)
  · skip
    have hins : ∀ {Hs : List Rs} {bm : Nat} {K : Kn} {n : Nat} {ds : List Deferred} {ty : Nat} {pos : String} {af : Array Edge} {g : Option (Nat × Bool)} {x y u : Operand} (i : Nat), nthR Hs i = some (Rs.mp bm (fun x : List Int => .agg (pR (sF x) (lF x)).toArray) tt1 (setM [])) → opd K x = some (.map (some bm)) → opd K y = some (.agg (pR (sF x0) (lF x0)).toArray) → opd K u = some (.bool true) → Ef0 Try.prog (Wd w [] Hs) n ds K ⟨none, .insert 47 x y u, ty, pos, af, g⟩ (Wd w [] (setR Hs i (Rs.mp bm (fun x : List Int => .agg (pR (sF x) (lF x)).toArray) tt1 (setM ([] ++ [x0]))))) := fun i hi hx hy hu => Ef0.addSetI (i := i) (k := x0) (ek_prog hok) mt_47 hx hy hu hi (fun p hp => by cases hp) hg0 (by simp)
    repeat (refine CW.seq ?_)
    refine CW.draw [(Tb w [], []), ((Rs.row b8 (pR (sF x0) (lF x0)) 44).ok, [])] mixed (fun w hw => hw.drew) (fun w hw => ⟨(by exact fun _ => hw.tb), (by exact hw.k 3 rfl), trivial⟩) ?_
    first | refine DL.take 1 rfl (by kernel_rfl) (by kernel_rfl) (by kernel_rfl) (by kernel_rfl) (by kernel_rfl) rfl rfl (Gd.g0 rfl) (held 1 1 rfl (by kernel_rfl)) (Yd.loadH rfl ag_44 (fun _ h => h) rfl) ?_ | refine DL.take 1 rfl (by kernel_rfl) (by kernel_rfl) (by kernel_rfl) (by kernel_rfl) (by kernel_rfl) rfl rfl (Gd.g0 rfl) (held 1 2 rfl (by kernel_rfl)) (Yd.loadH rfl ag_44 (fun _ h => h) rfl) ?_ | refine DL.take 1 rfl (by kernel_rfl) (by kernel_rfl) (by kernel_rfl) (by kernel_rfl) (by kernel_rfl) rfl rfl (Gd.g0 rfl) (held 1 3 rfl (by kernel_rfl)) (Yd.loadH rfl ag_44 (fun _ h => h) rfl) ?_ | refine DL.take 1 rfl (by kernel_rfl) (by kernel_rfl) (by kernel_rfl) (by kernel_rfl) (by kernel_rfl) rfl rfl (Gd.g0 rfl) (held 1 4 rfl (by kernel_rfl)) (Yd.loadH rfl ag_44 (fun _ h => h) rfl) ?_ | refine DL.take 1 rfl (by kernel_rfl) (by kernel_rfl) (by kernel_rfl) (by kernel_rfl) (by kernel_rfl) rfl rfl (Gd.g0 rfl) (held 1 5 rfl (by kernel_rfl)) (Yd.loadH rfl ag_44 (fun _ h => h) rfl) ?_
    first | refine DL.take 4 rfl (by kernel_rfl) (by kernel_rfl) (by kernel_rfl) (by kernel_rfl) (by kernel_rfl) rfl rfl (Gd.g0 rfl) (held 4 1 rfl (by kernel_rfl)) (Yd.loadH rfl ag_44 (fun _ h => h) rfl) ?_ | refine DL.take 4 rfl (by kernel_rfl) (by kernel_rfl) (by kernel_rfl) (by kernel_rfl) (by kernel_rfl) rfl rfl (Gd.g0 rfl) (held 4 2 rfl (by kernel_rfl)) (Yd.loadH rfl ag_44 (fun _ h => h) rfl) ?_ | refine DL.take 4 rfl (by kernel_rfl) (by kernel_rfl) (by kernel_rfl) (by kernel_rfl) (by kernel_rfl) rfl rfl (Gd.g0 rfl) (held 4 3 rfl (by kernel_rfl)) (Yd.loadH rfl ag_44 (fun _ h => h) rfl) ?_ | refine DL.take 4 rfl (by kernel_rfl) (by kernel_rfl) (by kernel_rfl) (by kernel_rfl) (by kernel_rfl) rfl rfl (Gd.g0 rfl) (held 4 4 rfl (by kernel_rfl)) (Yd.loadH rfl ag_44 (fun _ h => h) rfl) ?_ | refine DL.take 4 rfl (by kernel_rfl) (by kernel_rfl) (by kernel_rfl) (by kernel_rfl) (by kernel_rfl) rfl rfl (Gd.g0 rfl) (held 4 5 rfl (by kernel_rfl)) (Yd.loadH rfl ag_44 (fun _ h => h) rfl) ?_
    refine DL.ready (is := [0, 5, 6, 7]) (by kernel_rfl) (by simp) (all1 ?_ (all1 ?_ (all1 ?_ (all1 ?_ all0))))
    refine D1.ef rfl rfl rfl (Gd.g0 rfl) (Ef.makeSet (fun x : List Int => .agg (pR (sF x) (lF x)).toArray)) (fun _ w hw => ⟨(by exact fun _ => hw.tb), (by exact hw.k 4 rfl), trivial⟩) (fun b64 => ?_)
    try dsimp only [setR]
    refine DL.ready (is := [2, 5, 6, 7]) (by kernel_rfl) (by simp) (all1 ?_ (all1 ?_ (all1 ?_ (all1 ?_ all0))))
    refine D1.ef0 rfl rfl (Gd.g0 rfl) (hins 0 rfl rfl rfl rfl) (fun w hw => ⟨(by exact fun _ => hw.tb), (by exact hw.k 4 rfl), trivial⟩) ?_
    try dsimp only [setR]
    refine DL.take 3 rfl (by kernel_rfl) (by kernel_rfl) (by kernel_rfl) (by kernel_rfl) (by kernel_rfl) rfl rfl (Gd.g0 rfl) (heldN 3) (Yd.move rfl) ?_
    refine DL.ready (is := [5, 6, 7]) (by kernel_rfl) (by simp) (all1 ?_ (all1 ?_ (all1 ?_ all0)))
    refine D1.ef rfl rfl rfl (Gd.g0 rfl) (Ef.buildSlice rfl se_48 rfl rfl rfl rfl) (fun _ w hw => ⟨(by exact fun _ => hw.tb), (by exact hw.k 5 rfl), trivial⟩) (fun b68 => ?_)
    try dsimp only [Value.cells, List.flatMap_cons, List.flatMap_nil]
    refine DL.ready (is := [6, 7]) (by kernel_rfl) (by simp) (all1 ?_ (all1 ?_ all0))
    refine D1.ef rfl rfl rfl (Gd.g0 rfl) (Ef.alloc zl_47) (fun _ w hw => ⟨(by exact fun _ => hw.tb), (by exact hw.k 6 rfl), trivial⟩) (fun b12 => ?_)
    try dsimp only [Value.cells, List.flatMap_cons, List.flatMap_nil]
    refine DL.ready1 (i := 7) (by kernel_rfl) ?_
    refine D1.ef rfl rfl rfl (Gd.g0 rfl) (Ef.alloc zl_48) (fun _ w hw => ⟨(by exact fun _ => hw.tb), (by exact hw.k 7 rfl), trivial⟩) (fun b13 => ?_)
    try dsimp only [Value.cells, List.flatMap_cons, List.flatMap_nil]
    refine DL.ready1 (i := 8) (by kernel_rfl) ?_
    refine D1.ef0 rfl rfl (Gd.g0 rfl) (Ef0.store (i := 1) rfl rfl rfl ag_47 rfl (by simp)) (fun w hw => ⟨(by exact fun _ => hw.tb), (by exact hw.k 7 rfl), trivial⟩) ?_
    try dsimp only [setR]
    try dsimp only [List.set, setRow2]
    refine DL.ready1 (i := 9) (by kernel_rfl) ?_
    refine D1.ef0 rfl rfl (Gd.g0 rfl) (Ef0.store (i := 0) rfl rfl rfl ag_48 rfl (by simp)) (fun w hw => ⟨(by exact fun _ => hw.tb), (by exact hw.k 7 rfl), trivial⟩) ?_
    try dsimp only [setR]
    try dsimp only [List.set, setRow2]
    refine DL.done (by kernel_rfl) ?_
    first | refine EX.then_normal ?_ | skip
    rotate_left
    refine D1.ef rfl rfl rfl (Gd.g0 rfl) (Ef.alloc zl_48) (fun _ w hw => ⟨(by exact fun _ => hw.tb), (by exact hw.k 6 rfl), trivial⟩) (fun b13 => ?_)
    try dsimp only [Value.cells, List.flatMap_cons, List.flatMap_nil]
    refine DL.ready1 (i := 6) (by kernel_rfl) ?_
    refine D1.ef rfl rfl rfl (Gd.g0 rfl) (Ef.alloc zl_47) (fun _ w hw => ⟨(by exact fun _ => hw.tb), (by exact hw.k 7 rfl), trivial⟩) (fun b12 => ?_)
    try dsimp only [Value.cells, List.flatMap_cons, List.flatMap_nil]
    refine DL.ready1 (i := 8) (by kernel_rfl) ?_
    refine D1.ef0 rfl rfl (Gd.g0 rfl) (Ef0.store (i := 0) rfl rfl rfl ag_47 rfl (by simp)) (fun w hw => ⟨(by exact fun _ => hw.tb), (by exact hw.k 7 rfl), trivial⟩) ?_
    try dsimp only [setR]
    try dsimp only [List.set, setRow2]
    refine DL.ready1 (i := 9) (by kernel_rfl) ?_
    refine D1.ef0 rfl rfl (Gd.g0 rfl) (Ef0.store (i := 1) rfl rfl rfl ag_48 rfl (by simp)) (fun w hw => ⟨(by exact fun _ => hw.tb), (by exact hw.k 7 rfl), trivial⟩) ?_
    try dsimp only [setR]
    try dsimp only [List.set, setRow2]
    refine DL.done (by kernel_rfl) ?_
    first | refine EX.then_normal ?_ | skip
    refine EX.perm [1, 0, 2, 3] 4 rfl rfl rfl ?_
    rotate_left
    refine D1.ef rfl rfl rfl (Gd.g0 rfl) (Ef.alloc zl_47) (fun _ w hw => ⟨(by exact fun _ => hw.tb), (by exact hw.k 5 rfl), trivial⟩) (fun b12 => ?_)
    try dsimp only [Value.cells, List.flatMap_cons, List.flatMap_nil]
    refine DL.ready (is := [5, 7]) (by kernel_rfl) (by simp) (all1 ?_ (all1 ?_ all0))
    refine D1.ef rfl rfl rfl (Gd.g0 rfl) (Ef.buildSlice rfl se_48 rfl rfl rfl rfl) (fun _ w hw => ⟨(by exact fun _ => hw.tb), (by exact hw.k 6 rfl), trivial⟩) (fun b68 => ?_)
    try dsimp only [Value.cells, List.flatMap_cons, List.flatMap_nil]
    refine DL.ready1 (i := 7) (by kernel_rfl) ?_
    refine D1.ef rfl rfl rfl (Gd.g0 rfl) (Ef.alloc zl_48) (fun _ w hw => ⟨(by exact fun _ => hw.tb), (by exact hw.k 7 rfl), trivial⟩) (fun b13 => ?_)
    try dsimp only [Value.cells, List.flatMap_cons, List.flatMap_nil]
    refine DL.ready1 (i := 8) (by kernel_rfl) ?_
    refine D1.ef0 rfl rfl (Gd.g0 rfl) (Ef0.store (i := 2) rfl rfl rfl ag_47 rfl (by simp)) (fun w hw => ⟨(by exact fun _ => hw.tb), (by exact hw.k 7 rfl), trivial⟩) ?_
    try dsimp only [setR]
    try dsimp only [List.set, setRow2]
    refine DL.ready1 (i := 9) (by kernel_rfl) ?_
    refine D1.ef0 rfl rfl (Gd.g0 rfl) (Ef0.store (i := 0) rfl rfl rfl ag_48 rfl (by simp)) (fun w hw => ⟨(by exact fun _ => hw.tb), (by exact hw.k 7 rfl), trivial⟩) ?_
    try dsimp only [setR]
    try dsimp only [List.set, setRow2]
    refine DL.done (by kernel_rfl) ?_
    first | refine EX.then_normal ?_ | skip
    refine EX.perm [0, 2, 1, 3] 4 rfl rfl rfl ?_
    rotate_left
    refine D1.ef rfl rfl rfl (Gd.g0 rfl) (Ef.alloc zl_48) (fun _ w hw => ⟨(by exact fun _ => hw.tb), (by exact hw.k 6 rfl), trivial⟩) (fun b13 => ?_)
    try dsimp only [Value.cells, List.flatMap_cons, List.flatMap_nil]
    refine DL.ready (is := [5, 8]) (by kernel_rfl) (by simp) (all1 ?_ (all1 ?_ all0))
    refine D1.ef rfl rfl rfl (Gd.g0 rfl) (Ef.buildSlice rfl se_48 rfl rfl rfl rfl) (fun _ w hw => ⟨(by exact fun _ => hw.tb), (by exact hw.k 7 rfl), trivial⟩) (fun b68 => ?_)
    try dsimp only [Value.cells, List.flatMap_cons, List.flatMap_nil]
    refine DL.ready1 (i := 8) (by kernel_rfl) ?_
    refine D1.ef0 rfl rfl (Gd.g0 rfl) (Ef0.store (i := 2) rfl rfl rfl ag_47 rfl (by simp)) (fun w hw => ⟨(by exact fun _ => hw.tb), (by exact hw.k 7 rfl), trivial⟩) ?_
    try dsimp only [setR]
    try dsimp only [List.set, setRow2]
    refine DL.ready1 (i := 9) (by kernel_rfl) ?_
    refine D1.ef0 rfl rfl (Gd.g0 rfl) (Ef0.store (i := 1) rfl rfl rfl ag_48 rfl (by simp)) (fun w hw => ⟨(by exact fun _ => hw.tb), (by exact hw.k 7 rfl), trivial⟩) ?_
    try dsimp only [setR]
    try dsimp only [List.set, setRow2]
    refine DL.done (by kernel_rfl) ?_
    first | refine EX.then_normal ?_ | skip
    refine EX.perm [1, 2, 0, 3] 4 rfl rfl rfl ?_
    rotate_left
    refine D1.ef0 rfl rfl (Gd.g0 rfl) (Ef0.store (i := 1) rfl rfl rfl ag_47 rfl (by simp)) (fun w hw => ⟨(by exact fun _ => hw.tb), (by exact hw.k 6 rfl), trivial⟩) ?_
    try dsimp only [setR]
    try dsimp only [List.set, setRow2]
    refine DL.ready1 (i := 5) (by kernel_rfl) ?_
    refine D1.ef rfl rfl rfl (Gd.g0 rfl) (Ef.buildSlice rfl se_48 rfl rfl rfl rfl) (fun _ w hw => ⟨(by exact fun _ => hw.tb), (by exact hw.k 7 rfl), trivial⟩) (fun b68 => ?_)
    try dsimp only [Value.cells, List.flatMap_cons, List.flatMap_nil]
    refine DL.ready1 (i := 9) (by kernel_rfl) ?_
    refine D1.ef0 rfl rfl (Gd.g0 rfl) (Ef0.store (i := 1) rfl rfl rfl ag_48 rfl (by simp)) (fun w hw => ⟨(by exact fun _ => hw.tb), (by exact hw.k 7 rfl), trivial⟩) ?_
    try dsimp only [setR]
    try dsimp only [List.set, setRow2]
    refine DL.done (by kernel_rfl) ?_
    first | refine EX.then_normal ?_ | skip
    refine EX.perm [1, 2, 0, 3] 4 rfl rfl rfl ?_
    rotate_left
    refine D1.ef rfl rfl rfl (Gd.g0 rfl) (Ef.alloc zl_48) (fun _ w hw => ⟨(by exact fun _ => hw.tb), (by exact hw.k 5 rfl), trivial⟩) (fun b13 => ?_)
    try dsimp only [Value.cells, List.flatMap_cons, List.flatMap_nil]
    refine DL.ready (is := [5, 6]) (by kernel_rfl) (by simp) (all1 ?_ (all1 ?_ all0))
    refine D1.ef rfl rfl rfl (Gd.g0 rfl) (Ef.buildSlice rfl se_48 rfl rfl rfl rfl) (fun _ w hw => ⟨(by exact fun _ => hw.tb), (by exact hw.k 6 rfl), trivial⟩) (fun b68 => ?_)
    try dsimp only [Value.cells, List.flatMap_cons, List.flatMap_nil]
    refine DL.ready1 (i := 6) (by kernel_rfl) ?_
    refine D1.ef rfl rfl rfl (Gd.g0 rfl) (Ef.alloc zl_47) (fun _ w hw => ⟨(by exact fun _ => hw.tb), (by exact hw.k 7 rfl), trivial⟩) (fun b12 => ?_)
    try dsimp only [Value.cells, List.flatMap_cons, List.flatMap_nil]
    refine DL.ready1 (i := 8) (by kernel_rfl) ?_
    refine D1.ef0 rfl rfl (Gd.g0 rfl) (Ef0.store (i := 0) rfl rfl rfl ag_47 rfl (by simp)) (fun w hw => ⟨(by exact fun _ => hw.tb), (by exact hw.k 7 rfl), trivial⟩) ?_
    try dsimp only [setR]
    try dsimp only [List.set, setRow2]
    refine DL.ready1 (i := 9) (by kernel_rfl) ?_
    refine D1.ef0 rfl rfl (Gd.g0 rfl) (Ef0.store (i := 2) rfl rfl rfl ag_48 rfl (by simp)) (fun w hw => ⟨(by exact fun _ => hw.tb), (by exact hw.k 7 rfl), trivial⟩) ?_
    try dsimp only [setR]
    try dsimp only [List.set, setRow2]
    refine DL.done (by kernel_rfl) ?_
    first | refine EX.then_normal ?_ | skip
    refine EX.perm [2, 0, 1, 3] 4 rfl rfl rfl ?_
    rotate_left
    refine D1.ef rfl rfl rfl (Gd.g0 rfl) (Ef.alloc zl_47) (fun _ w hw => ⟨(by exact fun _ => hw.tb), (by exact hw.k 6 rfl), trivial⟩) (fun b12 => ?_)
    try dsimp only [Value.cells, List.flatMap_cons, List.flatMap_nil]
    refine DL.ready (is := [5, 8]) (by kernel_rfl) (by simp) (all1 ?_ (all1 ?_ all0))
    refine D1.ef rfl rfl rfl (Gd.g0 rfl) (Ef.buildSlice rfl se_48 rfl rfl rfl rfl) (fun _ w hw => ⟨(by exact fun _ => hw.tb), (by exact hw.k 7 rfl), trivial⟩) (fun b68 => ?_)
    try dsimp only [Value.cells, List.flatMap_cons, List.flatMap_nil]
    refine DL.ready1 (i := 8) (by kernel_rfl) ?_
    refine D1.ef0 rfl rfl (Gd.g0 rfl) (Ef0.store (i := 1) rfl rfl rfl ag_47 rfl (by simp)) (fun w hw => ⟨(by exact fun _ => hw.tb), (by exact hw.k 7 rfl), trivial⟩) ?_
    try dsimp only [setR]
    try dsimp only [List.set, setRow2]
    refine DL.ready1 (i := 9) (by kernel_rfl) ?_
    refine D1.ef0 rfl rfl (Gd.g0 rfl) (Ef0.store (i := 2) rfl rfl rfl ag_48 rfl (by simp)) (fun w hw => ⟨(by exact fun _ => hw.tb), (by exact hw.k 7 rfl), trivial⟩) ?_
    try dsimp only [setR]
    try dsimp only [List.set, setRow2]
    refine DL.done (by kernel_rfl) ?_
    first | refine EX.then_normal ?_ | skip
    refine EX.perm [2, 1, 0, 3] 4 rfl rfl rfl ?_
    rotate_left
    refine D1.ef0 rfl rfl (Gd.g0 rfl) (Ef0.store (i := 0) rfl rfl rfl ag_47 rfl (by simp)) (fun w hw => ⟨(by exact fun _ => hw.tb), (by exact hw.k 6 rfl), trivial⟩) ?_
    try dsimp only [setR]
    try dsimp only [List.set, setRow2]
    refine DL.ready1 (i := 5) (by kernel_rfl) ?_
    refine D1.ef rfl rfl rfl (Gd.g0 rfl) (Ef.buildSlice rfl se_48 rfl rfl rfl rfl) (fun _ w hw => ⟨(by exact fun _ => hw.tb), (by exact hw.k 7 rfl), trivial⟩) (fun b68 => ?_)
    try dsimp only [Value.cells, List.flatMap_cons, List.flatMap_nil]
    refine DL.ready1 (i := 9) (by kernel_rfl) ?_
    refine D1.ef0 rfl rfl (Gd.g0 rfl) (Ef0.store (i := 2) rfl rfl rfl ag_48 rfl (by simp)) (fun w hw => ⟨(by exact fun _ => hw.tb), (by exact hw.k 7 rfl), trivial⟩) ?_
    try dsimp only [setR]
    try dsimp only [List.set, setRow2]
    refine DL.done (by kernel_rfl) ?_
    first | refine EX.then_normal ?_ | skip
    refine EX.perm [2, 1, 0, 3] 4 rfl rfl rfl ?_
    rotate_left
    refine D1.ef rfl rfl rfl (Gd.g0 rfl) (Ef.buildSlice rfl se_48 rfl rfl rfl rfl) (fun _ w hw => ⟨(by exact fun _ => hw.tb), (by exact hw.k 5 rfl), trivial⟩) (fun b68 => ?_)
    try dsimp only [Value.cells, List.flatMap_cons, List.flatMap_nil]
    refine DL.ready (is := [2, 6, 7]) (by kernel_rfl) (by simp) (all1 ?_ (all1 ?_ (all1 ?_ all0)))
    refine D1.ef0 rfl rfl (Gd.g0 rfl) (hins 1 rfl rfl rfl rfl) (fun w hw => ⟨(by exact fun _ => hw.tb), (by exact hw.k 5 rfl), trivial⟩) ?_
    try dsimp only [setR]
    refine DL.take 3 rfl (by kernel_rfl) (by kernel_rfl) (by kernel_rfl) (by kernel_rfl) (by kernel_rfl) rfl rfl (Gd.g0 rfl) (heldN 3) (Yd.move rfl) ?_
    refine DL.ready (is := [6, 7]) (by kernel_rfl) (by simp) (all1 ?_ (all1 ?_ all0))
    refine D1.ef rfl rfl rfl (Gd.g0 rfl) (Ef.alloc zl_47) (fun _ w hw => ⟨(by exact fun _ => hw.tb), (by exact hw.k 6 rfl), trivial⟩) (fun b12 => ?_)
    try dsimp only [Value.cells, List.flatMap_cons, List.flatMap_nil]
    refine DL.ready1 (i := 7) (by kernel_rfl) ?_
    refine D1.ef rfl rfl rfl (Gd.g0 rfl) (Ef.alloc zl_48) (fun _ w hw => ⟨(by exact fun _ => hw.tb), (by exact hw.k 7 rfl), trivial⟩) (fun b13 => ?_)
    try dsimp only [Value.cells, List.flatMap_cons, List.flatMap_nil]
    refine DL.ready1 (i := 8) (by kernel_rfl) ?_
    refine D1.ef0 rfl rfl (Gd.g0 rfl) (Ef0.store (i := 1) rfl rfl rfl ag_47 rfl (by simp)) (fun w hw => ⟨(by exact fun _ => hw.tb), (by exact hw.k 7 rfl), trivial⟩) ?_
    try dsimp only [setR]
    try dsimp only [List.set, setRow2]
    refine DL.ready1 (i := 9) (by kernel_rfl) ?_
    refine D1.ef0 rfl rfl (Gd.g0 rfl) (Ef0.store (i := 0) rfl rfl rfl ag_48 rfl (by simp)) (fun w hw => ⟨(by exact fun _ => hw.tb), (by exact hw.k 7 rfl), trivial⟩) ?_
    try dsimp only [setR]
    try dsimp only [List.set, setRow2]
    refine DL.done (by kernel_rfl) ?_
    first | refine EX.then_normal ?_ | skip
    rotate_left
    refine D1.ef rfl rfl rfl (Gd.g0 rfl) (Ef.alloc zl_48) (fun _ w hw => ⟨(by exact fun _ => hw.tb), (by exact hw.k 6 rfl), trivial⟩) (fun b13 => ?_)
    try dsimp only [Value.cells, List.flatMap_cons, List.flatMap_nil]
    refine DL.ready1 (i := 6) (by kernel_rfl) ?_
    refine D1.ef rfl rfl rfl (Gd.g0 rfl) (Ef.alloc zl_47) (fun _ w hw => ⟨(by exact fun _ => hw.tb), (by exact hw.k 7 rfl), trivial⟩) (fun b12 => ?_)
    try dsimp only [Value.cells, List.flatMap_cons, List.flatMap_nil]
    refine DL.ready1 (i := 8) (by kernel_rfl) ?_
    refine D1.ef0 rfl rfl (Gd.g0 rfl) (Ef0.store (i := 0) rfl rfl rfl ag_47 rfl (by simp)) (fun w hw => ⟨(by exact fun _ => hw.tb), (by exact hw.k 7 rfl), trivial⟩) ?_
    try dsimp only [setR]
    try dsimp only [List.set, setRow2]
    refine DL.ready1 (i := 9) (by kernel_rfl) ?_
    refine D1.ef0 rfl rfl (Gd.g0 rfl) (Ef0.store (i := 1) rfl rfl rfl ag_48 rfl (by simp)) (fun w hw => ⟨(by exact fun _ => hw.tb), (by exact hw.k 7 rfl), trivial⟩) ?_
    try dsimp only [setR]
    try dsimp only [List.set, setRow2]
    refine DL.done (by kernel_rfl) ?_
    first | refine EX.then_normal ?_ | skip
    refine EX.perm [1, 0, 2, 3] 4 rfl rfl rfl ?_
    rotate_left
    refine D1.ef rfl rfl rfl (Gd.g0 rfl) (Ef.alloc zl_47) (fun _ w hw => ⟨(by exact fun _ => hw.tb), (by exact hw.k 6 rfl), trivial⟩) (fun b12 => ?_)
    try dsimp only [Value.cells, List.flatMap_cons, List.flatMap_nil]
    refine DL.ready (is := [2, 7]) (by kernel_rfl) (by simp) (all1 ?_ (all1 ?_ all0))
    refine D1.ef0 rfl rfl (Gd.g0 rfl) (hins 2 rfl rfl rfl rfl) (fun w hw => ⟨(by exact fun _ => hw.tb), (by exact hw.k 6 rfl), trivial⟩) ?_
    try dsimp only [setR]
    refine DL.take 3 rfl (by kernel_rfl) (by kernel_rfl) (by kernel_rfl) (by kernel_rfl) (by kernel_rfl) rfl rfl (Gd.g0 rfl) (heldN 3) (Yd.move rfl) ?_
    refine DL.ready1 (i := 7) (by kernel_rfl) ?_
    refine D1.ef rfl rfl rfl (Gd.g0 rfl) (Ef.alloc zl_48) (fun _ w hw => ⟨(by exact fun _ => hw.tb), (by exact hw.k 7 rfl), trivial⟩) (fun b13 => ?_)
    try dsimp only [Value.cells, List.flatMap_cons, List.flatMap_nil]
    refine DL.ready1 (i := 8) (by kernel_rfl) ?_
    refine D1.ef0 rfl rfl (Gd.g0 rfl) (Ef0.store (i := 1) rfl rfl rfl ag_47 rfl (by simp)) (fun w hw => ⟨(by exact fun _ => hw.tb), (by exact hw.k 7 rfl), trivial⟩) ?_
    try dsimp only [setR]
    try dsimp only [List.set, setRow2]
    refine DL.ready1 (i := 9) (by kernel_rfl) ?_
    refine D1.ef0 rfl rfl (Gd.g0 rfl) (Ef0.store (i := 0) rfl rfl rfl ag_48 rfl (by simp)) (fun w hw => ⟨(by exact fun _ => hw.tb), (by exact hw.k 7 rfl), trivial⟩) ?_
    try dsimp only [setR]
    try dsimp only [List.set, setRow2]
    refine DL.done (by kernel_rfl) ?_
    first | refine EX.then_normal ?_ | skip
    rotate_left
    refine D1.ef rfl rfl rfl (Gd.g0 rfl) (Ef.alloc zl_48) (fun _ w hw => ⟨(by exact fun _ => hw.tb), (by exact hw.k 7 rfl), trivial⟩) (fun b13 => ?_)
    try dsimp only [Value.cells, List.flatMap_cons, List.flatMap_nil]
    refine DL.ready1 (i := 2) (by kernel_rfl) ?_
    refine D1.ef0 rfl rfl (Gd.g0 rfl) (hins 3 rfl rfl rfl rfl) (fun w hw => ⟨(by exact fun _ => hw.tb), (by exact hw.k 7 rfl), trivial⟩) ?_
    try dsimp only [setR]
    refine DL.take 3 rfl (by kernel_rfl) (by kernel_rfl) (by kernel_rfl) (by kernel_rfl) (by kernel_rfl) rfl rfl (Gd.g0 rfl) (heldN 3) (Yd.move rfl) ?_
    refine DL.ready1 (i := 8) (by kernel_rfl) ?_
    refine D1.ef0 rfl rfl (Gd.g0 rfl) (Ef0.store (i := 1) rfl rfl rfl ag_47 rfl (by simp)) (fun w hw => ⟨(by exact fun _ => hw.tb), (by exact hw.k 7 rfl), trivial⟩) ?_
    try dsimp only [setR]
    try dsimp only [List.set, setRow2]
    refine DL.ready1 (i := 9) (by kernel_rfl) ?_
    refine D1.ef0 rfl rfl (Gd.g0 rfl) (Ef0.store (i := 0) rfl rfl rfl ag_48 rfl (by simp)) (fun w hw => ⟨(by exact fun _ => hw.tb), (by exact hw.k 7 rfl), trivial⟩) ?_
    try dsimp only [setR]
    try dsimp only [List.set, setRow2]
    refine DL.done (by kernel_rfl) ?_
    first | refine EX.then_normal ?_ | skip
    rotate_left
    refine D1.ef rfl rfl rfl (Gd.g0 rfl) (Ef.alloc zl_48) (fun _ w hw => ⟨(by exact fun _ => hw.tb), (by exact hw.k 6 rfl), trivial⟩) (fun b13 => ?_)
    try dsimp only [Value.cells, List.flatMap_cons, List.flatMap_nil]
    refine DL.ready (is := [2, 6]) (by kernel_rfl) (by simp) (all1 ?_ (all1 ?_ all0))
    refine D1.ef0 rfl rfl (Gd.g0 rfl) (hins 2 rfl rfl rfl rfl) (fun w hw => ⟨(by exact fun _ => hw.tb), (by exact hw.k 6 rfl), trivial⟩) ?_
    try dsimp only [setR]
    refine DL.take 3 rfl (by kernel_rfl) (by kernel_rfl) (by kernel_rfl) (by kernel_rfl) (by kernel_rfl) rfl rfl (Gd.g0 rfl) (heldN 3) (Yd.move rfl) ?_
    refine DL.ready1 (i := 6) (by kernel_rfl) ?_
    refine D1.ef rfl rfl rfl (Gd.g0 rfl) (Ef.alloc zl_47) (fun _ w hw => ⟨(by exact fun _ => hw.tb), (by exact hw.k 7 rfl), trivial⟩) (fun b12 => ?_)
    try dsimp only [Value.cells, List.flatMap_cons, List.flatMap_nil]
    refine DL.ready1 (i := 8) (by kernel_rfl) ?_
    refine D1.ef0 rfl rfl (Gd.g0 rfl) (Ef0.store (i := 0) rfl rfl rfl ag_47 rfl (by simp)) (fun w hw => ⟨(by exact fun _ => hw.tb), (by exact hw.k 7 rfl), trivial⟩) ?_
    try dsimp only [setR]
    try dsimp only [List.set, setRow2]
    refine DL.ready1 (i := 9) (by kernel_rfl) ?_
    refine D1.ef0 rfl rfl (Gd.g0 rfl) (Ef0.store (i := 1) rfl rfl rfl ag_48 rfl (by simp)) (fun w hw => ⟨(by exact fun _ => hw.tb), (by exact hw.k 7 rfl), trivial⟩) ?_
    try dsimp only [setR]
    try dsimp only [List.set, setRow2]
    refine DL.done (by kernel_rfl) ?_
    first | refine EX.then_normal ?_ | skip
    refine EX.perm [1, 0, 2, 3] 4 rfl rfl rfl ?_
    rotate_left
    refine D1.ef rfl rfl rfl (Gd.g0 rfl) (Ef.alloc zl_47) (fun _ w hw => ⟨(by exact fun _ => hw.tb), (by exact hw.k 7 rfl), trivial⟩) (fun b12 => ?_)
    try dsimp only [Value.cells, List.flatMap_cons, List.flatMap_nil]
    refine DL.ready1 (i := 2) (by kernel_rfl) ?_
    refine D1.ef0 rfl rfl (Gd.g0 rfl) (hins 3 rfl rfl rfl rfl) (fun w hw => ⟨(by exact fun _ => hw.tb), (by exact hw.k 7 rfl), trivial⟩) ?_
    try dsimp only [setR]
    refine DL.take 3 rfl (by kernel_rfl) (by kernel_rfl) (by kernel_rfl) (by kernel_rfl) (by kernel_rfl) rfl rfl (Gd.g0 rfl) (heldN 3) (Yd.move rfl) ?_
    refine DL.ready1 (i := 8) (by kernel_rfl) ?_
    refine D1.ef0 rfl rfl (Gd.g0 rfl) (Ef0.store (i := 0) rfl rfl rfl ag_47 rfl (by simp)) (fun w hw => ⟨(by exact fun _ => hw.tb), (by exact hw.k 7 rfl), trivial⟩) ?_
    try dsimp only [setR]
    try dsimp only [List.set, setRow2]
    refine DL.ready1 (i := 9) (by kernel_rfl) ?_
    refine D1.ef0 rfl rfl (Gd.g0 rfl) (Ef0.store (i := 1) rfl rfl rfl ag_48 rfl (by simp)) (fun w hw => ⟨(by exact fun _ => hw.tb), (by exact hw.k 7 rfl), trivial⟩) ?_
    try dsimp only [setR]
    try dsimp only [List.set, setRow2]
    refine DL.done (by kernel_rfl) ?_
    first | refine EX.then_normal ?_ | skip
    refine EX.perm [1, 0, 2, 3] 4 rfl rfl rfl ?_
    rotate_left
    refine D1.ef rfl rfl rfl (Gd.g0 rfl) (Ef.alloc zl_47) (fun _ w hw => ⟨(by exact fun _ => hw.tb), (by exact hw.k 5 rfl), trivial⟩) (fun b12 => ?_)
    try dsimp only [Value.cells, List.flatMap_cons, List.flatMap_nil]
    refine DL.ready (is := [2, 5, 7]) (by kernel_rfl) (by simp) (all1 ?_ (all1 ?_ (all1 ?_ all0)))
    refine D1.ef0 rfl rfl (Gd.g0 rfl) (hins 1 rfl rfl rfl rfl) (fun w hw => ⟨(by exact fun _ => hw.tb), (by exact hw.k 5 rfl), trivial⟩) ?_
    try dsimp only [setR]
    refine DL.take 3 rfl (by kernel_rfl) (by kernel_rfl) (by kernel_rfl) (by kernel_rfl) (by kernel_rfl) rfl rfl (Gd.g0 rfl) (heldN 3) (Yd.move rfl) ?_
    refine DL.ready (is := [5, 7]) (by kernel_rfl) (by simp) (all1 ?_ (all1 ?_ all0))
    refine D1.ef rfl rfl rfl (Gd.g0 rfl) (Ef.buildSlice rfl se_48 rfl rfl rfl rfl) (fun _ w hw => ⟨(by exact fun _ => hw.tb), (by exact hw.k 6 rfl), trivial⟩) (fun b68 => ?_)
    try dsimp only [Value.cells, List.flatMap_cons, List.flatMap_nil]
    refine DL.ready1 (i := 7) (by kernel_rfl) ?_
    refine D1.ef rfl rfl rfl (Gd.g0 rfl) (Ef.alloc zl_48) (fun _ w hw => ⟨(by exact fun _ => hw.tb), (by exact hw.k 7 rfl), trivial⟩) (fun b13 => ?_)
    try dsimp only [Value.cells, List.flatMap_cons, List.flatMap_nil]
    refine DL.ready1 (i := 8) (by kernel_rfl) ?_
    refine D1.ef0 rfl rfl (Gd.g0 rfl) (Ef0.store (i := 2) rfl rfl rfl ag_47 rfl (by simp)) (fun w hw => ⟨(by exact fun _ => hw.tb), (by exact hw.k 7 rfl), trivial⟩) ?_
    try dsimp only [setR]
    try dsimp only [List.set, setRow2]
    refine DL.ready1 (i := 9) (by kernel_rfl) ?_
    refine D1.ef0 rfl rfl (Gd.g0 rfl) (Ef0.store (i := 0) rfl rfl rfl ag_48 rfl (by simp)) (fun w hw => ⟨(by exact fun _ => hw.tb), (by exact hw.k 7 rfl), trivial⟩) ?_
    try dsimp only [setR]
    try dsimp only [List.set, setRow2]
    refine DL.done (by kernel_rfl) ?_
    first | refine EX.then_normal ?_ | skip
    refine EX.perm [0, 2, 1, 3] 4 rfl rfl rfl ?_
    rotate_left
    refine D1.ef rfl rfl rfl (Gd.g0 rfl) (Ef.alloc zl_48) (fun _ w hw => ⟨(by exact fun _ => hw.tb), (by exact hw.k 6 rfl), trivial⟩) (fun b13 => ?_)
    try dsimp only [Value.cells, List.flatMap_cons, List.flatMap_nil]
    refine DL.ready (is := [5, 8]) (by kernel_rfl) (by simp) (all1 ?_ (all1 ?_ all0))
    refine D1.ef rfl rfl rfl (Gd.g0 rfl) (Ef.buildSlice rfl se_48 rfl rfl rfl rfl) (fun _ w hw => ⟨(by exact fun _ => hw.tb), (by exact hw.k 7 rfl), trivial⟩) (fun b68 => ?_)
    try dsimp only [Value.cells, List.flatMap_cons, List.flatMap_nil]
    refine DL.ready1 (i := 8) (by kernel_rfl) ?_
    refine D1.ef0 rfl rfl (Gd.g0 rfl) (Ef0.store (i := 2) rfl rfl rfl ag_47 rfl (by simp)) (fun w hw => ⟨(by exact fun _ => hw.tb), (by exact hw.k 7 rfl), trivial⟩) ?_
    try dsimp only [setR]
    try dsimp only [List.set, setRow2]
    refine DL.ready1 (i := 9) (by kernel_rfl) ?_
    refine D1.ef0 rfl rfl (Gd.g0 rfl) (Ef0.store (i := 1) rfl rfl rfl ag_48 rfl (by simp)) (fun w hw => ⟨(by exact fun _ => hw.tb), (by exact hw.k 7 rfl), trivial⟩) ?_
    try dsimp only [setR]
    try dsimp only [List.set, setRow2]
    refine DL.done (by kernel_rfl) ?_
    first | refine EX.then_normal ?_ | skip
    refine EX.perm [1, 2, 0, 3] 4 rfl rfl rfl ?_
    rotate_left
    refine D1.ef0 rfl rfl (Gd.g0 rfl) (Ef0.store (i := 1) rfl rfl rfl ag_47 rfl (by simp)) (fun w hw => ⟨(by exact fun _ => hw.tb), (by exact hw.k 6 rfl), trivial⟩) ?_
    try dsimp only [setR]
    try dsimp only [List.set, setRow2]
    refine DL.ready1 (i := 5) (by kernel_rfl) ?_
    refine D1.ef rfl rfl rfl (Gd.g0 rfl) (Ef.buildSlice rfl se_48 rfl rfl rfl rfl) (fun _ w hw => ⟨(by exact fun _ => hw.tb), (by exact hw.k 7 rfl), trivial⟩) (fun b68 => ?_)
    try dsimp only [Value.cells, List.flatMap_cons, List.flatMap_nil]
    refine DL.ready1 (i := 9) (by kernel_rfl) ?_
    refine D1.ef0 rfl rfl (Gd.g0 rfl) (Ef0.store (i := 1) rfl rfl rfl ag_48 rfl (by simp)) (fun w hw => ⟨(by exact fun _ => hw.tb), (by exact hw.k 7 rfl), trivial⟩) ?_
    try dsimp only [setR]
    try dsimp only [List.set, setRow2]
    refine DL.done (by kernel_rfl) ?_
    first | refine EX.then_normal ?_ | skip
    refine EX.perm [1, 2, 0, 3] 4 rfl rfl rfl ?_
    rotate_left
    refine D1.ef rfl rfl rfl (Gd.g0 rfl) (Ef.buildSlice rfl se_48 rfl rfl rfl rfl) (fun _ w hw => ⟨(by exact fun _ => hw.tb), (by exact hw.k 6 rfl), trivial⟩) (fun b68 => ?_)
    try dsimp only [Value.cells, List.flatMap_cons, List.flatMap_nil]
    refine DL.ready (is := [2, 7]) (by kernel_rfl) (by simp) (all1 ?_ (all1 ?_ all0))
    refine D1.ef0 rfl rfl (Gd.g0 rfl) (hins 2 rfl rfl rfl rfl) (fun w hw => ⟨(by exact fun _ => hw.tb), (by exact hw.k 6 rfl), trivial⟩) ?_
    try dsimp only [setR]
    refine DL.take 3 rfl (by kernel_rfl) (by kernel_rfl) (by kernel_rfl) (by kernel_rfl) (by kernel_rfl) rfl rfl (Gd.g0 rfl) (heldN 3) (Yd.move rfl) ?_
    refine DL.ready1 (i := 7) (by kernel_rfl) ?_
    refine D1.ef rfl rfl rfl (Gd.g0 rfl) (Ef.alloc zl_48) (fun _ w hw => ⟨(by exact fun _ => hw.tb), (by exact hw.k 7 rfl), trivial⟩) (fun b13 => ?_)
    try dsimp only [Value.cells, List.flatMap_cons, List.flatMap_nil]
    refine DL.ready1 (i := 8) (by kernel_rfl) ?_
    refine D1.ef0 rfl rfl (Gd.g0 rfl) (Ef0.store (i := 2) rfl rfl rfl ag_47 rfl (by simp)) (fun w hw => ⟨(by exact fun _ => hw.tb), (by exact hw.k 7 rfl), trivial⟩) ?_
    try dsimp only [setR]
    try dsimp only [List.set, setRow2]
    refine DL.ready1 (i := 9) (by kernel_rfl) ?_
    refine D1.ef0 rfl rfl (Gd.g0 rfl) (Ef0.store (i := 0) rfl rfl rfl ag_48 rfl (by simp)) (fun w hw => ⟨(by exact fun _ => hw.tb), (by exact hw.k 7 rfl), trivial⟩) ?_
    try dsimp only [setR]
    try dsimp only [List.set, setRow2]
    refine DL.done (by kernel_rfl) ?_
    first | refine EX.then_normal ?_ | skip
    refine EX.perm [0, 2, 1, 3] 4 rfl rfl rfl ?_
    rotate_left
    refine D1.ef rfl rfl rfl (Gd.g0 rfl) (Ef.alloc zl_48) (fun _ w hw => ⟨(by exact fun _ => hw.tb), (by exact hw.k 7 rfl), trivial⟩) (fun b13 => ?_)
    try dsimp only [Value.cells, List.flatMap_cons, List.flatMap_nil]
    refine DL.ready1 (i := 2) (by kernel_rfl) ?_
    refine D1.ef0 rfl rfl (Gd.g0 rfl) (hins 3 rfl rfl rfl rfl) (fun w hw => ⟨(by exact fun _ => hw.tb), (by exact hw.k 7 rfl), trivial⟩) ?_
    try dsimp only [setR]
    refine DL.take 3 rfl (by kernel_rfl) (by kernel_rfl) (by kernel_rfl) (by kernel_rfl) (by kernel_rfl) rfl rfl (Gd.g0 rfl) (heldN 3) (Yd.move rfl) ?_
    refine DL.ready1 (i := 8) (by kernel_rfl) ?_
    refine D1.ef0 rfl rfl (Gd.g0 rfl) (Ef0.store (i := 2) rfl rfl rfl ag_47 rfl (by simp)) (fun w hw => ⟨(by exact fun _ => hw.tb), (by exact hw.k 7 rfl), trivial⟩) ?_
    try dsimp only [setR]
    try dsimp only [List.set, setRow2]
    refine DL.ready1 (i := 9) (by kernel_rfl) ?_
    refine D1.ef0 rfl rfl (Gd.g0 rfl) (Ef0.store (i := 0) rfl rfl rfl ag_48 rfl (by simp)) (fun w hw => ⟨(by exact fun _ => hw.tb), (by exact hw.k 7 rfl), trivial⟩) ?_
    try dsimp only [setR]
    try dsimp only [List.set, setRow2]
    refine DL.done (by kernel_rfl) ?_
    first | refine EX.then_normal ?_ | skip
    refine EX.perm [0, 2, 1, 3] 4 rfl rfl rfl ?_
    rotate_left
    refine D1.ef rfl rfl rfl (Gd.g0 rfl) (Ef.alloc zl_48) (fun _ w hw => ⟨(by exact fun _ => hw.tb), (by exact hw.k 6 rfl), trivial⟩) (fun b13 => ?_)
    try dsimp only [Value.cells, List.flatMap_cons, List.flatMap_nil]
    refine DL.ready (is := [2, 5]) (by kernel_rfl) (by simp) (all1 ?_ (all1 ?_ all0))
    refine D1.ef0 rfl rfl (Gd.g0 rfl) (hins 2 rfl rfl rfl rfl) (fun w hw => ⟨(by exact fun _ => hw.tb), (by exact hw.k 6 rfl), trivial⟩) ?_
    try dsimp only [setR]
    refine DL.take 3 rfl (by kernel_rfl) (by kernel_rfl) (by kernel_rfl) (by kernel_rfl) (by kernel_rfl) rfl rfl (Gd.g0 rfl) (heldN 3) (Yd.move rfl) ?_
    refine DL.ready (is := [5, 8]) (by kernel_rfl) (by simp) (all1 ?_ (all1 ?_ all0))
    refine D1.ef rfl rfl rfl (Gd.g0 rfl) (Ef.buildSlice rfl se_48 rfl rfl rfl rfl) (fun _ w hw => ⟨(by exact fun _ => hw.tb), (by exact hw.k 7 rfl), trivial⟩) (fun b68 => ?_)
    try dsimp only [Value.cells, List.flatMap_cons, List.flatMap_nil]
    refine DL.ready1 (i := 8) (by kernel_rfl) ?_
    refine D1.ef0 rfl rfl (Gd.g0 rfl) (Ef0.store (i := 2) rfl rfl rfl ag_47 rfl (by simp)) (fun w hw => ⟨(by exact fun _ => hw.tb), (by exact hw.k 7 rfl), trivial⟩) ?_
    try dsimp only [setR]
    try dsimp only [List.set, setRow2]
    refine DL.ready1 (i := 9) (by kernel_rfl) ?_
    refine D1.ef0 rfl rfl (Gd.g0 rfl) (Ef0.store (i := 1) rfl rfl rfl ag_48 rfl (by simp)) (fun w hw => ⟨(by exact fun _ => hw.tb), (by exact hw.k 7 rfl), trivial⟩) ?_
    try dsimp only [setR]
    try dsimp only [List.set, setRow2]
    refine DL.done (by kernel_rfl) ?_
    first | refine EX.then_normal ?_ | skip
    refine EX.perm [1, 2, 0, 3] 4 rfl rfl rfl ?_
    rotate_left
    refine D1.ef0 rfl rfl (Gd.g0 rfl) (Ef0.store (i := 1) rfl rfl rfl ag_47 rfl (by simp)) (fun w hw => ⟨(by exact fun _ => hw.tb), (by exact hw.k 6 rfl), trivial⟩) ?_
    try dsimp only [setR]
    try dsimp only [List.set, setRow2]
    refine DL.ready1 (i := 5) (by kernel_rfl) ?_
    refine D1.ef rfl rfl rfl (Gd.g0 rfl) (Ef.buildSlice rfl se_48 rfl rfl rfl rfl) (fun _ w hw => ⟨(by exact fun _ => hw.tb), (by exact hw.k 7 rfl), trivial⟩) (fun b68 => ?_)
    try dsimp only [Value.cells, List.flatMap_cons, List.flatMap_nil]
    refine DL.ready1 (i := 9) (by kernel_rfl) ?_
    refine D1.ef0 rfl rfl (Gd.g0 rfl) (Ef0.store (i := 1) rfl rfl rfl ag_48 rfl (by simp)) (fun w hw => ⟨(by exact fun _ => hw.tb), (by exact hw.k 7 rfl), trivial⟩) ?_
    try dsimp only [setR]
    try dsimp only [List.set, setRow2]
    refine DL.done (by kernel_rfl) ?_
    first | refine EX.then_normal ?_ | skip
    refine EX.perm [1, 2, 0, 3] 4 rfl rfl rfl ?_
    rotate_left
    refine D1.ef rfl rfl rfl (Gd.g0 rfl) (Ef.buildSlice rfl se_48 rfl rfl rfl rfl) (fun _ w hw => ⟨(by exact fun _ => hw.tb), (by exact hw.k 7 rfl), trivial⟩) (fun b68 => ?_)
    try dsimp only [Value.cells, List.flatMap_cons, List.flatMap_nil]
    refine DL.ready1 (i := 2) (by kernel_rfl) ?_
    refine D1.ef0 rfl rfl (Gd.g0 rfl) (hins 3 rfl rfl rfl rfl) (fun w hw => ⟨(by exact fun _ => hw.tb), (by exact hw.k 7 rfl), trivial⟩) ?_
    try dsimp only [setR]
    refine DL.take 3 rfl (by kernel_rfl) (by kernel_rfl) (by kernel_rfl) (by kernel_rfl) (by kernel_rfl) rfl rfl (Gd.g0 rfl) (heldN 3) (Yd.move rfl) ?_
    refine DL.ready1 (i := 8) (by kernel_rfl) ?_
    refine D1.ef0 rfl rfl (Gd.g0 rfl) (Ef0.store (i := 2) rfl rfl rfl ag_47 rfl (by simp)) (fun w hw => ⟨(by exact fun _ => hw.tb), (by exact hw.k 7 rfl), trivial⟩) ?_
    try dsimp only [setR]
    try dsimp only [List.set, setRow2]
    refine DL.ready1 (i := 9) (by kernel_rfl) ?_
    refine D1.ef0 rfl rfl (Gd.g0 rfl) (Ef0.store (i := 1) rfl rfl rfl ag_48 rfl (by simp)) (fun w hw => ⟨(by exact fun _ => hw.tb), (by exact hw.k 7 rfl), trivial⟩) ?_
    try dsimp only [setR]
    try dsimp only [List.set, setRow2]
    refine DL.done (by kernel_rfl) ?_
    first | refine EX.then_normal ?_ | skip
    refine EX.perm [1, 2, 0, 3] 4 rfl rfl rfl ?_
    rotate_left
    refine D1.ef rfl rfl rfl (Gd.g0 rfl) (Ef.alloc zl_48) (fun _ w hw => ⟨(by exact fun _ => hw.tb), (by exact hw.k 5 rfl), trivial⟩) (fun b13 => ?_)
    try dsimp only [Value.cells, List.flatMap_cons, List.flatMap_nil]
    refine DL.ready (is := [2, 5, 6]) (by kernel_rfl) (by simp) (all1 ?_ (all1 ?_ (all1 ?_ all0)))
    refine D1.ef0 rfl rfl (Gd.g0 rfl) (hins 1 rfl rfl rfl rfl) (fun w hw => ⟨(by exact fun _ => hw.tb), (by exact hw.k 5 rfl), trivial⟩) ?_
    try dsimp only [setR]
    refine DL.take 3 rfl (by kernel_rfl) (by kernel_rfl) (by kernel_rfl) (by kernel_rfl) (by kernel_rfl) rfl rfl (Gd.g0 rfl) (heldN 3) (Yd.move rfl) ?_
    refine DL.ready (is := [5, 6]) (by kernel_rfl) (by simp) (all1 ?_ (all1 ?_ all0))
    refine D1.ef rfl rfl rfl (Gd.g0 rfl) (Ef.buildSlice rfl se_48 rfl rfl rfl rfl) (fun _ w hw => ⟨(by exact fun _ => hw.tb), (by exact hw.k 6 rfl), trivial⟩) (fun b68 => ?_)
    try dsimp only [Value.cells, List.flatMap_cons, List.flatMap_nil]
    refine DL.ready1 (i := 6) (by kernel_rfl) ?_
    refine D1.ef rfl rfl rfl (Gd.g0 rfl) (Ef.alloc zl_47) (fun _ w hw => ⟨(by exact fun _ => hw.tb), (by exact hw.k 7 rfl), trivial⟩) (fun b12 => ?_)
    try dsimp only [Value.cells, List.flatMap_cons, List.flatMap_nil]
    refine DL.ready1 (i := 8) (by kernel_rfl) ?_
    refine D1.ef0 rfl rfl (Gd.g0 rfl) (Ef0.store (i := 0) rfl rfl rfl ag_47 rfl (by simp)) (fun w hw => ⟨(by exact fun _ => hw.tb), (by exact hw.k 7 rfl), trivial⟩) ?_
    try dsimp only [setR]
    try dsimp only [List.set, setRow2]
    refine DL.ready1 (i := 9) (by kernel_rfl) ?_
    refine D1.ef0 rfl rfl (Gd.g0 rfl) (Ef0.store (i := 2) rfl rfl rfl ag_48 rfl (by simp)) (fun w hw => ⟨(by exact fun _ => hw.tb), (by exact hw.k 7 rfl), trivial⟩) ?_
    try dsimp only [setR]
    try dsimp only [List.set, setRow2]
    refine DL.done (by kernel_rfl) ?_
    first | refine EX.then_normal ?_ | skip
    refine EX.perm [2, 0, 1, 3] 4 rfl rfl rfl ?_
    rotate_left
    refine D1.ef rfl rfl rfl (Gd.g0 rfl) (Ef.alloc zl_47) (fun _ w hw => ⟨(by exact fun _ => hw.tb), (by exact hw.k 6 rfl), trivial⟩) (fun b12 => ?_)
    try dsimp only [Value.cells, List.flatMap_cons, List.flatMap_nil]
    refine DL.ready (is := [5, 8]) (by kernel_rfl) (by simp) (all1 ?_ (all1 ?_ all0))
    refine D1.ef rfl rfl rfl (Gd.g0 rfl) (Ef.buildSlice rfl se_48 rfl rfl rfl rfl) (fun _ w hw => ⟨(by exact fun _ => hw.tb), (by exact hw.k 7 rfl), trivial⟩) (fun b68 => ?_)
    try dsimp only [Value.cells, List.flatMap_cons, List.flatMap_nil]
    refine DL.ready1 (i := 8) (by kernel_rfl) ?_
    refine D1.ef0 rfl rfl (Gd.g0 rfl) (Ef0.store (i := 1) rfl rfl rfl ag_47 rfl (by simp)) (fun w hw => ⟨(by exact fun _ => hw.tb), (by exact hw.k 7 rfl), trivial⟩) ?_
    try dsimp only [setR]
    try dsimp only [List.set, setRow2]
    refine DL.ready1 (i := 9) (by kernel_rfl) ?_
    refine D1.ef0 rfl rfl (Gd.g0 rfl) (Ef0.store (i := 2) rfl rfl rfl ag_48 rfl (by simp)) (fun w hw => ⟨(by exact fun _ => hw.tb), (by exact hw.k 7 rfl), trivial⟩) ?_
    try dsimp only [setR]
    try dsimp only [List.set, setRow2]
    refine DL.done (by kernel_rfl) ?_
    first | refine EX.then_normal ?_ | skip
    refine EX.perm [2, 1, 0, 3] 4 rfl rfl rfl ?_
    rotate_left
    refine D1.ef0 rfl rfl (Gd.g0 rfl) (Ef0.store (i := 0) rfl rfl rfl ag_47 rfl (by simp)) (fun w hw => ⟨(by exact fun _ => hw.tb), (by exact hw.k 6 rfl), trivial⟩) ?_
    try dsimp only [setR]
    try dsimp only [List.set, setRow2]
    refine DL.ready1 (i := 5) (by kernel_rfl) ?_
    refine D1.ef rfl rfl rfl (Gd.g0 rfl) (Ef.buildSlice rfl se_48 rfl rfl rfl rfl) (fun _ w hw => ⟨(by exact fun _ => hw.tb), (by exact hw.k 7 rfl), trivial⟩) (fun b68 => ?_)
    try dsimp only [Value.cells, List.flatMap_cons, List.flatMap_nil]
    refine DL.ready1 (i := 9) (by kernel_rfl) ?_
    refine D1.ef0 rfl rfl (Gd.g0 rfl) (Ef0.store (i := 2) rfl rfl rfl ag_48 rfl (by simp)) (fun w hw => ⟨(by exact fun _ => hw.tb), (by exact hw.k 7 rfl), trivial⟩) ?_
    try dsimp only [setR]
    try dsimp only [List.set, setRow2]
    refine DL.done (by kernel_rfl) ?_
    first | refine EX.then_normal ?_ | skip
    refine EX.perm [2, 1, 0, 3] 4 rfl rfl rfl ?_
    rotate_left
    refine D1.ef rfl rfl rfl (Gd.g0 rfl) (Ef.buildSlice rfl se_48 rfl rfl rfl rfl) (fun _ w hw => ⟨(by exact fun _ => hw.tb), (by exact hw.k 6 rfl), trivial⟩) (fun b68 => ?_)
    try dsimp only [Value.cells, List.flatMap_cons, List.flatMap_nil]
    refine DL.ready (is := [2, 6]) (by kernel_rfl) (by simp) (all1 ?_ (all1 ?_ all0))
    refine D1.ef0 rfl rfl (Gd.g0 rfl) (hins 2 rfl rfl rfl rfl) (fun w hw => ⟨(by exact fun _ => hw.tb), (by exact hw.k 6 rfl), trivial⟩) ?_
    try dsimp only [setR]
    refine DL.take 3 rfl (by kernel_rfl) (by kernel_rfl) (by kernel_rfl) (by kernel_rfl) (by kernel_rfl) rfl rfl (Gd.g0 rfl) (heldN 3) (Yd.move rfl) ?_
    refine DL.ready1 (i := 6) (by kernel_rfl) ?_
    refine D1.ef rfl rfl rfl (Gd.g0 rfl) (Ef.alloc zl_47) (fun _ w hw => ⟨(by exact fun _ => hw.tb), (by exact hw.k 7 rfl), trivial⟩) (fun b12 => ?_)
    try dsimp only [Value.cells, List.flatMap_cons, List.flatMap_nil]
    refine DL.ready1 (i := 8) (by kernel_rfl) ?_
    refine D1.ef0 rfl rfl (Gd.g0 rfl) (Ef0.store (i := 0) rfl rfl rfl ag_47 rfl (by simp)) (fun w hw => ⟨(by exact fun _ => hw.tb), (by exact hw.k 7 rfl), trivial⟩) ?_
    try dsimp only [setR]
    try dsimp only [List.set, setRow2]
    refine DL.ready1 (i := 9) (by kernel_rfl) ?_
    refine D1.ef0 rfl rfl (Gd.g0 rfl) (Ef0.store (i := 2) rfl rfl rfl ag_48 rfl (by simp)) (fun w hw => ⟨(by exact fun _ => hw.tb), (by exact hw.k 7 rfl), trivial⟩) ?_
    try dsimp only [setR]
    try dsimp only [List.set, setRow2]
    refine DL.done (by kernel_rfl) ?_
    first | refine EX.then_normal ?_ | skip
    refine EX.perm [2, 0, 1, 3] 4 rfl rfl rfl ?_
    rotate_left
    refine D1.ef rfl rfl rfl (Gd.g0 rfl) (Ef.alloc zl_47) (fun _ w hw => ⟨(by exact fun _ => hw.tb), (by exact hw.k 7 rfl), trivial⟩) (fun b12 => ?_)
    try dsimp only [Value.cells, List.flatMap_cons, List.flatMap_nil]
    refine DL.ready1 (i := 2) (by kernel_rfl) ?_
    refine D1.ef0 rfl rfl (Gd.g0 rfl) (hins 3 rfl rfl rfl rfl) (fun w hw => ⟨(by exact fun _ => hw.tb), (by exact hw.k 7 rfl), trivial⟩) ?_
    try dsimp only [setR]
    refine DL.take 3 rfl (by kernel_rfl) (by kernel_rfl) (by kernel_rfl) (by kernel_rfl) (by kernel_rfl) rfl rfl (Gd.g0 rfl) (heldN 3) (Yd.move rfl) ?_
    refine DL.ready1 (i := 8) (by kernel_rfl) ?_
    refine D1.ef0 rfl rfl (Gd.g0 rfl) (Ef0.store (i := 0) rfl rfl rfl ag_47 rfl (by simp)) (fun w hw => ⟨(by exact fun _ => hw.tb), (by exact hw.k 7 rfl), trivial⟩) ?_
    try dsimp only [setR]
    try dsimp only [List.set, setRow2]
    refine DL.ready1 (i := 9) (by kernel_rfl) ?_
    refine D1.ef0 rfl rfl (Gd.g0 rfl) (Ef0.store (i := 2) rfl rfl rfl ag_48 rfl (by simp)) (fun w hw => ⟨(by exact fun _ => hw.tb), (by exact hw.k 7 rfl), trivial⟩) ?_
    try dsimp only [setR]
    try dsimp only [List.set, setRow2]
    refine DL.done (by kernel_rfl) ?_
    first | refine EX.then_normal ?_ | skip
    refine EX.perm [2, 0, 1, 3] 4 rfl rfl rfl ?_
    rotate_left
    refine D1.ef rfl rfl rfl (Gd.g0 rfl) (Ef.alloc zl_47) (fun _ w hw => ⟨(by exact fun _ => hw.tb), (by exact hw.k 6 rfl), trivial⟩) (fun b12 => ?_)
    try dsimp only [Value.cells, List.flatMap_cons, List.flatMap_nil]
    refine DL.ready (is := [2, 5]) (by kernel_rfl) (by simp) (all1 ?_ (all1 ?_ all0))
    refine D1.ef0 rfl rfl (Gd.g0 rfl) (hins 2 rfl rfl rfl rfl) (fun w hw => ⟨(by exact fun _ => hw.tb), (by exact hw.k 6 rfl), trivial⟩) ?_
    try dsimp only [setR]
    refine DL.take 3 rfl (by kernel_rfl) (by kernel_rfl) (by kernel_rfl) (by kernel_rfl) (by kernel_rfl) rfl rfl (Gd.g0 rfl) (heldN 3) (Yd.move rfl) ?_
    refine DL.ready (is := [5, 8]) (by kernel_rfl) (by simp) (all1 ?_ (all1 ?_ all0))
    refine D1.ef rfl rfl rfl (Gd.g0 rfl) (Ef.buildSlice rfl se_48 rfl rfl rfl rfl) (fun _ w hw => ⟨(by exact fun _ => hw.tb), (by exact hw.k 7 rfl), trivial⟩) (fun b68 => ?_)
    try dsimp only [Value.cells, List.flatMap_cons, List.flatMap_nil]
    refine DL.ready1 (i := 8) (by kernel_rfl) ?_
    refine D1.ef0 rfl rfl (Gd.g0 rfl) (Ef0.store (i := 1) rfl rfl rfl ag_47 rfl (by simp)) (fun w hw => ⟨(by exact fun _ => hw.tb), (by exact hw.k 7 rfl), trivial⟩) ?_
    try dsimp only [setR]
    try dsimp only [List.set, setRow2]
    refine DL.ready1 (i := 9) (by kernel_rfl) ?_
    refine D1.ef0 rfl rfl (Gd.g0 rfl) (Ef0.store (i := 2) rfl rfl rfl ag_48 rfl (by simp)) (fun w hw => ⟨(by exact fun _ => hw.tb), (by exact hw.k 7 rfl), trivial⟩) ?_
    try dsimp only [setR]
    try dsimp only [List.set, setRow2]
    refine DL.done (by kernel_rfl) ?_
    first | refine EX.then_normal ?_ | skip
    refine EX.perm [2, 1, 0, 3] 4 rfl rfl rfl ?_
    rotate_left
    refine D1.ef0 rfl rfl (Gd.g0 rfl) (Ef0.store (i := 0) rfl rfl rfl ag_47 rfl (by simp)) (fun w hw => ⟨(by exact fun _ => hw.tb), (by exact hw.k 6 rfl), trivial⟩) ?_
    try dsimp only [setR]
    try dsimp only [List.set, setRow2]
    refine DL.ready1 (i := 5) (by kernel_rfl) ?_
    refine D1.ef rfl rfl rfl (Gd.g0 rfl) (Ef.buildSlice rfl se_48 rfl rfl rfl rfl) (fun _ w hw => ⟨(by exact fun _ => hw.tb), (by exact hw.k 7 rfl), trivial⟩) (fun b68 => ?_)
    try dsimp only [Value.cells, List.flatMap_cons, List.flatMap_nil]
    refine DL.ready1 (i := 9) (by kernel_rfl) ?_
    refine D1.ef0 rfl rfl (Gd.g0 rfl) (Ef0.store (i := 2) rfl rfl rfl ag_48 rfl (by simp)) (fun w hw => ⟨(by exact fun _ => hw.tb), (by exact hw.k 7 rfl), trivial⟩) ?_
    try dsimp only [setR]
    try dsimp only [List.set, setRow2]
    refine DL.done (by kernel_rfl) ?_
    first | refine EX.then_normal ?_ | skip
    refine EX.perm [2, 1, 0, 3] 4 rfl rfl rfl ?_
    rotate_left
    refine D1.ef rfl rfl rfl (Gd.g0 rfl) (Ef.buildSlice rfl se_48 rfl rfl rfl rfl) (fun _ w hw => ⟨(by exact fun _ => hw.tb), (by exact hw.k 7 rfl), trivial⟩) (fun b68 => ?_)
    try dsimp only [Value.cells, List.flatMap_cons, List.flatMap_nil]
    refine DL.ready1 (i := 2) (by kernel_rfl) ?_
    refine D1.ef0 rfl rfl (Gd.g0 rfl) (hins 3 rfl rfl rfl rfl) (fun w hw => ⟨(by exact fun _ => hw.tb), (by exact hw.k 7 rfl), trivial⟩) ?_
    try dsimp only [setR]
    refine DL.take 3 rfl (by kernel_rfl) (by kernel_rfl) (by kernel_rfl) (by kernel_rfl) (by kernel_rfl) rfl rfl (Gd.g0 rfl) (heldN 3) (Yd.move rfl) ?_
    refine DL.ready1 (i := 8) (by kernel_rfl) ?_
    refine D1.ef0 rfl rfl (Gd.g0 rfl) (Ef0.store (i := 1) rfl rfl rfl ag_47 rfl (by simp)) (fun w hw => ⟨(by exact fun _ => hw.tb), (by exact hw.k 7 rfl), trivial⟩) ?_
    try dsimp only [setR]
    try dsimp only [List.set, setRow2]
    refine DL.ready1 (i := 9) (by kernel_rfl) ?_
    refine D1.ef0 rfl rfl (Gd.g0 rfl) (Ef0.store (i := 2) rfl rfl rfl ag_48 rfl (by simp)) (fun w hw => ⟨(by exact fun _ => hw.tb), (by exact hw.k 7 rfl), trivial⟩) ?_
    try dsimp only [setR]
    try dsimp only [List.set, setRow2]
    refine DL.done (by kernel_rfl) ?_
    first | refine EX.then_normal ?_ | skip
    refine EX.perm [2, 1, 0, 3] 4 rfl rfl rfl ?_
    rotate_left
    refine D1.ef rfl rfl rfl (Gd.g0 rfl) (Ef.buildSlice rfl se_48 rfl rfl rfl rfl) (fun _ w hw => ⟨(by exact fun _ => hw.tb), (by exact hw.k 4 rfl), trivial⟩) (fun b68 => ?_)
    try dsimp only [Value.cells, List.flatMap_cons, List.flatMap_nil]
    refine DL.ready (is := [0, 6, 7]) (by kernel_rfl) (by simp) (all1 ?_ (all1 ?_ (all1 ?_ all0)))
    refine D1.ef rfl rfl rfl (Gd.g0 rfl) (Ef.makeSet (fun x : List Int => .agg (pR (sF x) (lF x)).toArray)) (fun _ w hw => ⟨(by exact fun _ => hw.tb), (by exact hw.k 5 rfl), trivial⟩) (fun b64 => ?_)
    try dsimp only [setR]
    refine DL.ready (is := [2, 6, 7]) (by kernel_rfl) (by simp) (all1 ?_ (all1 ?_ (all1 ?_ all0)))
    refine D1.ef0 rfl rfl (Gd.g0 rfl) (hins 0 rfl rfl rfl rfl) (fun w hw => ⟨(by exact fun _ => hw.tb), (by exact hw.k 5 rfl), trivial⟩) ?_
    try dsimp only [setR]
    refine DL.take 3 rfl (by kernel_rfl) (by kernel_rfl) (by kernel_rfl) (by kernel_rfl) (by kernel_rfl) rfl rfl (Gd.g0 rfl) (heldN 3) (Yd.move rfl) ?_
    refine DL.ready (is := [6, 7]) (by kernel_rfl) (by simp) (all1 ?_ (all1 ?_ all0))
    refine D1.ef rfl rfl rfl (Gd.g0 rfl) (Ef.alloc zl_47) (fun _ w hw => ⟨(by exact fun _ => hw.tb), (by exact hw.k 6 rfl), trivial⟩) (fun b12 => ?_)
    try dsimp only [Value.cells, List.flatMap_cons, List.flatMap_nil]
    refine DL.ready1 (i := 7) (by kernel_rfl) ?_
    refine D1.ef rfl rfl rfl (Gd.g0 rfl) (Ef.alloc zl_48) (fun _ w hw => ⟨(by exact fun _ => hw.tb), (by exact hw.k 7 rfl), trivial⟩) (fun b13 => ?_)
    try dsimp only [Value.cells, List.flatMap_cons, List.flatMap_nil]
    refine DL.ready1 (i := 8) (by kernel_rfl) ?_
    refine D1.ef0 rfl rfl (Gd.g0 rfl) (Ef0.store (i := 1) rfl rfl rfl ag_47 rfl (by simp)) (fun w hw => ⟨(by exact fun _ => hw.tb), (by exact hw.k 7 rfl), trivial⟩) ?_
    try dsimp only [setR]
    try dsimp only [List.set, setRow2]
    refine DL.ready1 (i := 9) (by kernel_rfl) ?_
    refine D1.ef0 rfl rfl (Gd.g0 rfl) (Ef0.store (i := 0) rfl rfl rfl ag_48 rfl (by simp)) (fun w hw => ⟨(by exact fun _ => hw.tb), (by exact hw.k 7 rfl), trivial⟩) ?_
    try dsimp only [setR]
    try dsimp only [List.set, setRow2]
    refine DL.done (by kernel_rfl) ?_
    first | refine EX.then_normal ?_ | skip
    refine EX.perm [0, 1, 3, 2] 4 rfl rfl rfl ?_
    rotate_left
    refine D1.ef rfl rfl rfl (Gd.g0 rfl) (Ef.alloc zl_48) (fun _ w hw => ⟨(by exact fun _ => hw.tb), (by exact hw.k 6 rfl), trivial⟩) (fun b13 => ?_)
    try dsimp only [Value.cells, List.flatMap_cons, List.flatMap_nil]
    refine DL.ready1 (i := 6) (by kernel_rfl) ?_
    refine D1.ef rfl rfl rfl (Gd.g0 rfl) (Ef.alloc zl_47) (fun _ w hw => ⟨(by exact fun _ => hw.tb), (by exact hw.k 7 rfl), trivial⟩) (fun b12 => ?_)
    try dsimp only [Value.cells, List.flatMap_cons, List.flatMap_nil]
    refine DL.ready1 (i := 8) (by kernel_rfl) ?_
    refine D1.ef0 rfl rfl (Gd.g0 rfl) (Ef0.store (i := 0) rfl rfl rfl ag_47 rfl (by simp)) (fun w hw => ⟨(by exact fun _ => hw.tb), (by exact hw.k 7 rfl), trivial⟩) ?_
    try dsimp only [setR]
    try dsimp only [List.set, setRow2]
    refine DL.ready1 (i := 9) (by kernel_rfl) ?_
    refine D1.ef0 rfl rfl (Gd.g0 rfl) (Ef0.store (i := 1) rfl rfl rfl ag_48 rfl (by simp)) (fun w hw => ⟨(by exact fun _ => hw.tb), (by exact hw.k 7 rfl), trivial⟩) ?_
    try dsimp only [setR]
    try dsimp only [List.set, setRow2]
    refine DL.done (by kernel_rfl) ?_
    first | refine EX.then_normal ?_ | skip
    refine EX.perm [1, 0, 3, 2] 4 rfl rfl rfl ?_
    rotate_left
    refine D1.ef rfl rfl rfl (Gd.g0 rfl) (Ef.alloc zl_47) (fun _ w hw => ⟨(by exact fun _ => hw.tb), (by exact hw.k 6 rfl), trivial⟩) (fun b12 => ?_)
    try dsimp only [Value.cells, List.flatMap_cons, List.flatMap_nil]
    refine DL.ready (is := [2, 7]) (by kernel_rfl) (by simp) (all1 ?_ (all1 ?_ all0))
    refine D1.ef0 rfl rfl (Gd.g0 rfl) (hins 1 rfl rfl rfl rfl) (fun w hw => ⟨(by exact fun _ => hw.tb), (by exact hw.k 6 rfl), trivial⟩) ?_
    try dsimp only [setR]
    refine DL.take 3 rfl (by kernel_rfl) (by kernel_rfl) (by kernel_rfl) (by kernel_rfl) (by kernel_rfl) rfl rfl (Gd.g0 rfl) (heldN 3) (Yd.move rfl) ?_
    refine DL.ready1 (i := 7) (by kernel_rfl) ?_
    refine D1.ef rfl rfl rfl (Gd.g0 rfl) (Ef.alloc zl_48) (fun _ w hw => ⟨(by exact fun _ => hw.tb), (by exact hw.k 7 rfl), trivial⟩) (fun b13 => ?_)
    try dsimp only [Value.cells, List.flatMap_cons, List.flatMap_nil]
    refine DL.ready1 (i := 8) (by kernel_rfl) ?_
    refine D1.ef0 rfl rfl (Gd.g0 rfl) (Ef0.store (i := 1) rfl rfl rfl ag_47 rfl (by simp)) (fun w hw => ⟨(by exact fun _ => hw.tb), (by exact hw.k 7 rfl), trivial⟩) ?_
    try dsimp only [setR]
    try dsimp only [List.set, setRow2]
    refine DL.ready1 (i := 9) (by kernel_rfl) ?_
    refine D1.ef0 rfl rfl (Gd.g0 rfl) (Ef0.store (i := 0) rfl rfl rfl ag_48 rfl (by simp)) (fun w hw => ⟨(by exact fun _ => hw.tb), (by exact hw.k 7 rfl), trivial⟩) ?_
    try dsimp only [setR]
    try dsimp only [List.set, setRow2]
    refine DL.done (by kernel_rfl) ?_
    first | refine EX.then_normal ?_ | skip
    refine EX.perm [0, 1, 3, 2] 4 rfl rfl rfl ?_
    rotate_left
    refine D1.ef rfl rfl rfl (Gd.g0 rfl) (Ef.alloc zl_48) (fun _ w hw => ⟨(by exact fun _ => hw.tb), (by exact hw.k 7 rfl), trivial⟩) (fun b13 => ?_)
    try dsimp only [Value.cells, List.flatMap_cons, List.flatMap_nil]
    refine DL.ready1 (i := 2) (by kernel_rfl) ?_
    refine D1.ef0 rfl rfl (Gd.g0 rfl) (hins 2 rfl rfl rfl rfl) (fun w hw => ⟨(by exact fun _ => hw.tb), (by exact hw.k 7 rfl), trivial⟩) ?_
    try dsimp only [setR]
    refine DL.take 3 rfl (by kernel_rfl) (by kernel_rfl) (by kernel_rfl) (by kernel_rfl) (by kernel_rfl) rfl rfl (Gd.g0 rfl) (heldN 3) (Yd.move rfl) ?_
    refine DL.ready1 (i := 8) (by kernel_rfl) ?_
    refine D1.ef0 rfl rfl (Gd.g0 rfl) (Ef0.store (i := 1) rfl rfl rfl ag_47 rfl (by simp)) (fun w hw => ⟨(by exact fun _ => hw.tb), (by exact hw.k 7 rfl), trivial⟩) ?_
    try dsimp only [setR]
    try dsimp only [List.set, setRow2]
    refine DL.ready1 (i := 9) (by kernel_rfl) ?_
    refine D1.ef0 rfl rfl (Gd.g0 rfl) (Ef0.store (i := 0) rfl rfl rfl ag_48 rfl (by simp)) (fun w hw => ⟨(by exact fun _ => hw.tb), (by exact hw.k 7 rfl), trivial⟩) ?_
    try dsimp only [setR]
    try dsimp only [List.set, setRow2]
    refine DL.done (by kernel_rfl) ?_
    first | refine EX.then_normal ?_ | skip
    refine EX.perm [0, 1, 3, 2] 4 rfl rfl rfl ?_
    rotate_left
    refine D1.ef rfl rfl rfl (Gd.g0 rfl) (Ef.alloc zl_48) (fun _ w hw => ⟨(by exact fun _ => hw.tb), (by exact hw.k 6 rfl), trivial⟩) (fun b13 => ?_)
    try dsimp only [Value.cells, List.flatMap_cons, List.flatMap_nil]
    refine DL.ready (is := [2, 6]) (by kernel_rfl) (by simp) (all1 ?_ (all1 ?_ all0))
    refine D1.ef0 rfl rfl (Gd.g0 rfl) (hins 1 rfl rfl rfl rfl) (fun w hw => ⟨(by exact fun _ => hw.tb), (by exact hw.k 6 rfl), trivial⟩) ?_
    try dsimp only [setR]
    refine DL.take 3 rfl (by kernel_rfl) (by kernel_rfl) (by kernel_rfl) (by kernel_rfl) (by kernel_rfl) rfl rfl (Gd.g0 rfl) (heldN 3) (Yd.move rfl) ?_
    refine DL.ready1 (i := 6) (by kernel_rfl) ?_
    refine D1.ef rfl rfl rfl (Gd.g0 rfl) (Ef.alloc zl_47) (fun _ w hw => ⟨(by exact fun _ => hw.tb), (by exact hw.k 7 rfl), trivial⟩) (fun b12 => ?_)
    try dsimp only [Value.cells, List.flatMap_cons, List.flatMap_nil]
    refine DL.ready1 (i := 8) (by kernel_rfl) ?_
    refine D1.ef0 rfl rfl (Gd.g0 rfl) (Ef0.store (i := 0) rfl rfl rfl ag_47 rfl (by simp)) (fun w hw => ⟨(by exact fun _ => hw.tb), (by exact hw.k 7 rfl), trivial⟩) ?_
    try dsimp only [setR]
    try dsimp only [List.set, setRow2]
    refine DL.ready1 (i := 9) (by kernel_rfl) ?_
    refine D1.ef0 rfl rfl (Gd.g0 rfl) (Ef0.store (i := 1) rfl rfl rfl ag_48 rfl (by simp)) (fun w hw => ⟨(by exact fun _ => hw.tb), (by exact hw.k 7 rfl), trivial⟩) ?_
    try dsimp only [setR]
    try dsimp only [List.set, setRow2]
    refine DL.done (by kernel_rfl) ?_
    first | refine EX.then_normal ?_ | skip
    refine EX.perm [1, 0, 3, 2] 4 rfl rfl rfl ?_
    rotate_left
    refine D1.ef rfl rfl rfl (Gd.g0 rfl) (Ef.alloc zl_47) (fun _ w hw => ⟨(by exact fun _ => hw.tb), (by exact hw.k 7 rfl), trivial⟩) (fun b12 => ?_)
    try dsimp only [Value.cells, List.flatMap_cons, List.flatMap_nil]
    refine DL.ready1 (i := 2) (by kernel_rfl) ?_
    refine D1.ef0 rfl rfl (Gd.g0 rfl) (hins 2 rfl rfl rfl rfl) (fun w hw => ⟨(by exact fun _ => hw.tb), (by exact hw.k 7 rfl), trivial⟩) ?_
    try dsimp only [setR]
    refine DL.take 3 rfl (by kernel_rfl) (by kernel_rfl) (by kernel_rfl) (by kernel_rfl) (by kernel_rfl) rfl rfl (Gd.g0 rfl) (heldN 3) (Yd.move rfl) ?_
    refine DL.ready1 (i := 8) (by kernel_rfl) ?_
    refine D1.ef0 rfl rfl (Gd.g0 rfl) (Ef0.store (i := 0) rfl rfl rfl ag_47 rfl (by simp)) (fun w hw => ⟨(by exact fun _ => hw.tb), (by exact hw.k 7 rfl), trivial⟩) ?_
    try dsimp only [setR]
    try dsimp only [List.set, setRow2]
    refine DL.ready1 (i := 9) (by kernel_rfl) ?_
    refine D1.ef0 rfl rfl (Gd.g0 rfl) (Ef0.store (i := 1) rfl rfl rfl ag_48 rfl (by simp)) (fun w hw => ⟨(by exact fun _ => hw.tb), (by exact hw.k 7 rfl), trivial⟩) ?_
    try dsimp only [setR]
    try dsimp only [List.set, setRow2]
    refine DL.done (by kernel_rfl) ?_
    first | refine EX.then_normal ?_ | skip
    refine EX.perm [1, 0, 3, 2] 4 rfl rfl rfl ?_
    rotate_left
    refine D1.ef rfl rfl rfl (Gd.g0 rfl) (Ef.alloc zl_47) (fun _ w hw => ⟨(by exact fun _ => hw.tb), (by exact hw.k 5 rfl), trivial⟩) (fun b12 => ?_)
    try dsimp only [Value.cells, List.flatMap_cons, List.flatMap_nil]
    refine DL.ready (is := [0, 7]) (by kernel_rfl) (by simp) (all1 ?_ (all1 ?_ all0))
    refine D1.ef rfl rfl rfl (Gd.g0 rfl) (Ef.makeSet (fun x : List Int => .agg (pR (sF x) (lF x)).toArray)) (fun _ w hw => ⟨(by exact fun _ => hw.tb), (by exact hw.k 6 rfl), trivial⟩) (fun b64 => ?_)
    try dsimp only [setR]
    refine DL.ready (is := [2, 7]) (by kernel_rfl) (by simp) (all1 ?_ (all1 ?_ all0))
    refine D1.ef0 rfl rfl (Gd.g0 rfl) (hins 0 rfl rfl rfl rfl) (fun w hw => ⟨(by exact fun _ => hw.tb), (by exact hw.k 6 rfl), trivial⟩) ?_
    try dsimp only [setR]
    refine DL.take 3 rfl (by kernel_rfl) (by kernel_rfl) (by kernel_rfl) (by kernel_rfl) (by kernel_rfl) rfl rfl (Gd.g0 rfl) (heldN 3) (Yd.move rfl) ?_
    refine DL.ready1 (i := 7) (by kernel_rfl) ?_
    refine D1.ef rfl rfl rfl (Gd.g0 rfl) (Ef.alloc zl_48) (fun _ w hw => ⟨(by exact fun _ => hw.tb), (by exact hw.k 7 rfl), trivial⟩) (fun b13 => ?_)
    try dsimp only [Value.cells, List.flatMap_cons, List.flatMap_nil]
    refine DL.ready1 (i := 8) (by kernel_rfl) ?_
    refine D1.ef0 rfl rfl (Gd.g0 rfl) (Ef0.store (i := 2) rfl rfl rfl ag_47 rfl (by simp)) (fun w hw => ⟨(by exact fun _ => hw.tb), (by exact hw.k 7 rfl), trivial⟩) ?_
    try dsimp only [setR]
    try dsimp only [List.set, setRow2]
    refine DL.ready1 (i := 9) (by kernel_rfl) ?_
    refine D1.ef0 rfl rfl (Gd.g0 rfl) (Ef0.store (i := 0) rfl rfl rfl ag_48 rfl (by simp)) (fun w hw => ⟨(by exact fun _ => hw.tb), (by exact hw.k 7 rfl), trivial⟩) ?_
    try dsimp only [setR]
    try dsimp only [List.set, setRow2]
    refine DL.done (by kernel_rfl) ?_
    first | refine EX.then_normal ?_ | skip
    refine EX.perm [0, 2, 3, 1] 4 rfl rfl rfl ?_
    rotate_left
    refine D1.ef rfl rfl rfl (Gd.g0 rfl) (Ef.alloc zl_48) (fun _ w hw => ⟨(by exact fun _ => hw.tb), (by exact hw.k 7 rfl), trivial⟩) (fun b13 => ?_)
    try dsimp only [Value.cells, List.flatMap_cons, List.flatMap_nil]
    refine DL.ready1 (i := 2) (by kernel_rfl) ?_
    refine D1.ef0 rfl rfl (Gd.g0 rfl) (hins 1 rfl rfl rfl rfl) (fun w hw => ⟨(by exact fun _ => hw.tb), (by exact hw.k 7 rfl), trivial⟩) ?_
    try dsimp only [setR]
    refine DL.take 3 rfl (by kernel_rfl) (by kernel_rfl) (by kernel_rfl) (by kernel_rfl) (by kernel_rfl) rfl rfl (Gd.g0 rfl) (heldN 3) (Yd.move rfl) ?_
    refine DL.ready1 (i := 8) (by kernel_rfl) ?_
    refine D1.ef0 rfl rfl (Gd.g0 rfl) (Ef0.store (i := 2) rfl rfl rfl ag_47 rfl (by simp)) (fun w hw => ⟨(by exact fun _ => hw.tb), (by exact hw.k 7 rfl), trivial⟩) ?_
    try dsimp only [setR]
    try dsimp only [List.set, setRow2]
    refine DL.ready1 (i := 9) (by kernel_rfl) ?_
    refine D1.ef0 rfl rfl (Gd.g0 rfl) (Ef0.store (i := 0) rfl rfl rfl ag_48 rfl (by simp)) (fun w hw => ⟨(by exact fun _ => hw.tb), (by exact hw.k 7 rfl), trivial⟩) ?_
    try dsimp only [setR]
    try dsimp only [List.set, setRow2]
    refine DL.done (by kernel_rfl) ?_
    first | refine EX.then_normal ?_ | skip
    refine EX.perm [0, 2, 3, 1] 4 rfl rfl rfl ?_
    rotate_left
    refine D1.ef rfl rfl rfl (Gd.g0 rfl) (Ef.alloc zl_48) (fun _ w hw => ⟨(by exact fun _ => hw.tb), (by exact hw.k 6 rfl), trivial⟩) (fun b13 => ?_)
    try dsimp only [Value.cells, List.flatMap_cons, List.flatMap_nil]
    refine DL.ready1 (i := 0) (by kernel_rfl) ?_
    refine D1.ef rfl rfl rfl (Gd.g0 rfl) (Ef.makeSet (fun x : List Int => .agg (pR (sF x) (lF x)).toArray)) (fun _ w hw => ⟨(by exact fun _ => hw.tb), (by exact hw.k 7 rfl), trivial⟩) (fun b64 => ?_)
    try dsimp only [setR]
    refine DL.ready1 (i := 2) (by kernel_rfl) ?_
    refine D1.ef0 rfl rfl (Gd.g0 rfl) (hins 0 rfl rfl rfl rfl) (fun w hw => ⟨(by exact fun _ => hw.tb), (by exact hw.k 7 rfl), trivial⟩) ?_
    try dsimp only [setR]
    refine DL.take 3 rfl (by kernel_rfl) (by kernel_rfl) (by kernel_rfl) (by kernel_rfl) (by kernel_rfl) rfl rfl (Gd.g0 rfl) (heldN 3) (Yd.move rfl) ?_
    refine DL.ready1 (i := 8) (by kernel_rfl) ?_
    refine D1.ef0 rfl rfl (Gd.g0 rfl) (Ef0.store (i := 2) rfl rfl rfl ag_47 rfl (by simp)) (fun w hw => ⟨(by exact fun _ => hw.tb), (by exact hw.k 7 rfl), trivial⟩) ?_
    try dsimp only [setR]
    try dsimp only [List.set, setRow2]
    refine DL.ready1 (i := 9) (by kernel_rfl) ?_
    refine D1.ef0 rfl rfl (Gd.g0 rfl) (Ef0.store (i := 1) rfl rfl rfl ag_48 rfl (by simp)) (fun w hw => ⟨(by exact fun _ => hw.tb), (by exact hw.k 7 rfl), trivial⟩) ?_
    try dsimp only [setR]
    try dsimp only [List.set, setRow2]
    refine DL.done (by kernel_rfl) ?_
    first | refine EX.then_normal ?_ | skip
    refine EX.perm [1, 2, 3, 0] 4 rfl rfl rfl ?_
    rotate_left
    refine D1.ef rfl rfl rfl (Gd.g0 rfl) (Ef.alloc zl_48) (fun _ w hw => ⟨(by exact fun _ => hw.tb), (by exact hw.k 5 rfl), trivial⟩) (fun b13 => ?_)
    try dsimp only [Value.cells, List.flatMap_cons, List.flatMap_nil]
    refine DL.ready (is := [0, 6]) (by kernel_rfl) (by simp) (all1 ?_ (all1 ?_ all0))
    refine D1.ef rfl rfl rfl (Gd.g0 rfl) (Ef.makeSet (fun x : List Int => .agg (pR (sF x) (lF x)).toArray)) (fun _ w hw => ⟨(by exact fun _ => hw.tb), (by exact hw.k 6 rfl), trivial⟩) (fun b64 => ?_)
    try dsimp only [setR]
    refine DL.ready (is := [2, 6]) (by kernel_rfl) (by simp) (all1 ?_ (all1 ?_ all0))
    refine D1.ef0 rfl rfl (Gd.g0 rfl) (hins 0 rfl rfl rfl rfl) (fun w hw => ⟨(by exact fun _ => hw.tb), (by exact hw.k 6 rfl), trivial⟩) ?_
    try dsimp only [setR]
    refine DL.take 3 rfl (by kernel_rfl) (by kernel_rfl) (by kernel_rfl) (by kernel_rfl) (by kernel_rfl) rfl rfl (Gd.g0 rfl) (heldN 3) (Yd.move rfl) ?_
    refine DL.ready1 (i := 6) (by kernel_rfl) ?_
    refine D1.ef rfl rfl rfl (Gd.g0 rfl) (Ef.alloc zl_47) (fun _ w hw => ⟨(by exact fun _ => hw.tb), (by exact hw.k 7 rfl), trivial⟩) (fun b12 => ?_)
    try dsimp only [Value.cells, List.flatMap_cons, List.flatMap_nil]
    refine DL.ready1 (i := 8) (by kernel_rfl) ?_
    refine D1.ef0 rfl rfl (Gd.g0 rfl) (Ef0.store (i := 0) rfl rfl rfl ag_47 rfl (by simp)) (fun w hw => ⟨(by exact fun _ => hw.tb), (by exact hw.k 7 rfl), trivial⟩) ?_
    try dsimp only [setR]
    try dsimp only [List.set, setRow2]
    refine DL.ready1 (i := 9) (by kernel_rfl) ?_
    refine D1.ef0 rfl rfl (Gd.g0 rfl) (Ef0.store (i := 2) rfl rfl rfl ag_48 rfl (by simp)) (fun w hw => ⟨(by exact fun _ => hw.tb), (by exact hw.k 7 rfl), trivial⟩) ?_
    try dsimp only [setR]
    try dsimp only [List.set, setRow2]
    refine DL.done (by kernel_rfl) ?_
    first | refine EX.then_normal ?_ | skip
    refine EX.perm [2, 0, 3, 1] 4 rfl rfl rfl ?_
    rotate_left
    refine D1.ef rfl rfl rfl (Gd.g0 rfl) (Ef.alloc zl_47) (fun _ w hw => ⟨(by exact fun _ => hw.tb), (by exact hw.k 7 rfl), trivial⟩) (fun b12 => ?_)
    try dsimp only [Value.cells, List.flatMap_cons, List.flatMap_nil]
    refine DL.ready1 (i := 2) (by kernel_rfl) ?_
    refine D1.ef0 rfl rfl (Gd.g0 rfl) (hins 1 rfl rfl rfl rfl) (fun w hw => ⟨(by exact fun _ => hw.tb), (by exact hw.k 7 rfl), trivial⟩) ?_
    try dsimp only [setR]
    refine DL.take 3 rfl (by kernel_rfl) (by kernel_rfl) (by kernel_rfl) (by kernel_rfl) (by kernel_rfl) rfl rfl (Gd.g0 rfl) (heldN 3) (Yd.move rfl) ?_
    refine DL.ready1 (i := 8) (by kernel_rfl) ?_
    refine D1.ef0 rfl rfl (Gd.g0 rfl) (Ef0.store (i := 0) rfl rfl rfl ag_47 rfl (by simp)) (fun w hw => ⟨(by exact fun _ => hw.tb), (by exact hw.k 7 rfl), trivial⟩) ?_
    try dsimp only [setR]
    try dsimp only [List.set, setRow2]
    refine DL.ready1 (i := 9) (by kernel_rfl) ?_
    refine D1.ef0 rfl rfl (Gd.g0 rfl) (Ef0.store (i := 2) rfl rfl rfl ag_48 rfl (by simp)) (fun w hw => ⟨(by exact fun _ => hw.tb), (by exact hw.k 7 rfl), trivial⟩) ?_
    try dsimp only [setR]
    try dsimp only [List.set, setRow2]
    refine DL.done (by kernel_rfl) ?_
    first | refine EX.then_normal ?_ | skip
    refine EX.perm [2, 0, 3, 1] 4 rfl rfl rfl ?_
    rotate_left
    refine D1.ef rfl rfl rfl (Gd.g0 rfl) (Ef.alloc zl_47) (fun _ w hw => ⟨(by exact fun _ => hw.tb), (by exact hw.k 6 rfl), trivial⟩) (fun b12 => ?_)
    try dsimp only [Value.cells, List.flatMap_cons, List.flatMap_nil]
    refine DL.ready1 (i := 0) (by kernel_rfl) ?_
    refine D1.ef rfl rfl rfl (Gd.g0 rfl) (Ef.makeSet (fun x : List Int => .agg (pR (sF x) (lF x)).toArray)) (fun _ w hw => ⟨(by exact fun _ => hw.tb), (by exact hw.k 7 rfl), trivial⟩) (fun b64 => ?_)
    try dsimp only [setR]
    refine DL.ready1 (i := 2) (by kernel_rfl) ?_
    refine D1.ef0 rfl rfl (Gd.g0 rfl) (hins 0 rfl rfl rfl rfl) (fun w hw => ⟨(by exact fun _ => hw.tb), (by exact hw.k 7 rfl), trivial⟩) ?_
    try dsimp only [setR]
    refine DL.take 3 rfl (by kernel_rfl) (by kernel_rfl) (by kernel_rfl) (by kernel_rfl) (by kernel_rfl) rfl rfl (Gd.g0 rfl) (heldN 3) (Yd.move rfl) ?_
    refine DL.ready1 (i := 8) (by kernel_rfl) ?_
    refine D1.ef0 rfl rfl (Gd.g0 rfl) (Ef0.store (i := 1) rfl rfl rfl ag_47 rfl (by simp)) (fun w hw => ⟨(by exact fun _ => hw.tb), (by exact hw.k 7 rfl), trivial⟩) ?_
    try dsimp only [setR]
    try dsimp only [List.set, setRow2]
    refine DL.ready1 (i := 9) (by kernel_rfl) ?_
    refine D1.ef0 rfl rfl (Gd.g0 rfl) (Ef0.store (i := 2) rfl rfl rfl ag_48 rfl (by simp)) (fun w hw => ⟨(by exact fun _ => hw.tb), (by exact hw.k 7 rfl), trivial⟩) ?_
    try dsimp only [setR]
    try dsimp only [List.set, setRow2]
    refine DL.done (by kernel_rfl) ?_
    first | refine EX.then_normal ?_ | skip
    refine EX.perm [2, 1, 3, 0] 4 rfl rfl rfl ?_
    rotate_left
    refine D1.ef rfl rfl rfl (Gd.g0 rfl) (Ef.alloc zl_47) (fun _ w hw => ⟨(by exact fun _ => hw.tb), (by exact hw.k 4 rfl), trivial⟩) (fun b12 => ?_)
    try dsimp only [Value.cells, List.flatMap_cons, List.flatMap_nil]
    refine DL.ready (is := [0, 5, 7]) (by kernel_rfl) (by simp) (all1 ?_ (all1 ?_ (all1 ?_ all0)))
    refine D1.ef rfl rfl rfl (Gd.g0 rfl) (Ef.makeSet (fun x : List Int => .agg (pR (sF x) (lF x)).toArray)) (fun _ w hw => ⟨(by exact fun _ => hw.tb), (by exact hw.k 5 rfl), trivial⟩) (fun b64 => ?_)
    try dsimp only [setR]
    refine DL.ready (is := [2, 5, 7]) (by kernel_rfl) (by simp) (all1 ?_ (all1 ?_ (all1 ?_ all0)))
    refine D1.ef0 rfl rfl (Gd.g0 rfl) (hins 0 rfl rfl rfl rfl) (fun w hw => ⟨(by exact fun _ => hw.tb), (by exact hw.k 5 rfl), trivial⟩) ?_
    try dsimp only [setR]
    refine DL.take 3 rfl (by kernel_rfl) (by kernel_rfl) (by kernel_rfl) (by kernel_rfl) (by kernel_rfl) rfl rfl (Gd.g0 rfl) (heldN 3) (Yd.move rfl) ?_
    refine DL.ready (is := [5, 7]) (by kernel_rfl) (by simp) (all1 ?_ (all1 ?_ all0))
    refine D1.ef rfl rfl rfl (Gd.g0 rfl) (Ef.buildSlice rfl se_48 rfl rfl rfl rfl) (fun _ w hw => ⟨(by exact fun _ => hw.tb), (by exact hw.k 6 rfl), trivial⟩) (fun b68 => ?_)
    try dsimp only [Value.cells, List.flatMap_cons, List.flatMap_nil]
    refine DL.ready1 (i := 7) (by kernel_rfl) ?_
    refine D1.ef rfl rfl rfl (Gd.g0 rfl) (Ef.alloc zl_48) (fun _ w hw => ⟨(by exact fun _ => hw.tb), (by exact hw.k 7 rfl), trivial⟩) (fun b13 => ?_)
    try dsimp only [Value.cells, List.flatMap_cons, List.flatMap_nil]
    refine DL.ready1 (i := 8) (by kernel_rfl) ?_
    refine D1.ef0 rfl rfl (Gd.g0 rfl) (Ef0.store (i := 3) rfl rfl rfl ag_47 rfl (by simp)) (fun w hw => ⟨(by exact fun _ => hw.tb), (by exact hw.k 7 rfl), trivial⟩) ?_
    try dsimp only [setR]
    try dsimp only [List.set, setRow2]
    refine DL.ready1 (i := 9) (by kernel_rfl) ?_
    refine D1.ef0 rfl rfl (Gd.g0 rfl) (Ef0.store (i := 0) rfl rfl rfl ag_48 rfl (by simp)) (fun w hw => ⟨(by exact fun _ => hw.tb), (by exact hw.k 7 rfl), trivial⟩) ?_
    try dsimp only [setR]
    try dsimp only [List.set, setRow2]
    refine DL.done (by kernel_rfl) ?_
    first | refine EX.then_normal ?_ | skip
    refine EX.perm [0, 3, 1, 2] 4 rfl rfl rfl ?_
    rotate_left
    refine D1.ef rfl rfl rfl (Gd.g0 rfl) (Ef.alloc zl_48) (fun _ w hw => ⟨(by exact fun _ => hw.tb), (by exact hw.k 6 rfl), trivial⟩) (fun b13 => ?_)
    try dsimp only [Value.cells, List.flatMap_cons, List.flatMap_nil]
    refine DL.ready (is := [5, 8]) (by kernel_rfl) (by simp) (all1 ?_ (all1 ?_ all0))
    refine D1.ef rfl rfl rfl (Gd.g0 rfl) (Ef.buildSlice rfl se_48 rfl rfl rfl rfl) (fun _ w hw => ⟨(by exact fun _ => hw.tb), (by exact hw.k 7 rfl), trivial⟩) (fun b68 => ?_)
    try dsimp only [Value.cells, List.flatMap_cons, List.flatMap_nil]
    refine DL.ready1 (i := 8) (by kernel_rfl) ?_
    refine D1.ef0 rfl rfl (Gd.g0 rfl) (Ef0.store (i := 3) rfl rfl rfl ag_47 rfl (by simp)) (fun w hw => ⟨(by exact fun _ => hw.tb), (by exact hw.k 7 rfl), trivial⟩) ?_
    try dsimp only [setR]
    try dsimp only [List.set, setRow2]
    refine DL.ready1 (i := 9) (by kernel_rfl) ?_
    refine D1.ef0 rfl rfl (Gd.g0 rfl) (Ef0.store (i := 1) rfl rfl rfl ag_48 rfl (by simp)) (fun w hw => ⟨(by exact fun _ => hw.tb), (by exact hw.k 7 rfl), trivial⟩) ?_
    try dsimp only [setR]
    try dsimp only [List.set, setRow2]
    refine DL.done (by kernel_rfl) ?_
    first | refine EX.then_normal ?_ | skip
    refine EX.perm [1, 3, 0, 2] 4 rfl rfl rfl ?_
    rotate_left
    refine D1.ef0 rfl rfl (Gd.g0 rfl) (Ef0.store (i := 2) rfl rfl rfl ag_47 rfl (by simp)) (fun w hw => ⟨(by exact fun _ => hw.tb), (by exact hw.k 6 rfl), trivial⟩) ?_
    try dsimp only [setR]
    try dsimp only [List.set, setRow2]
    refine DL.ready1 (i := 5) (by kernel_rfl) ?_
    refine D1.ef rfl rfl rfl (Gd.g0 rfl) (Ef.buildSlice rfl se_48 rfl rfl rfl rfl) (fun _ w hw => ⟨(by exact fun _ => hw.tb), (by exact hw.k 7 rfl), trivial⟩) (fun b68 => ?_)
    try dsimp only [Value.cells, List.flatMap_cons, List.flatMap_nil]
    refine DL.ready1 (i := 9) (by kernel_rfl) ?_
    refine D1.ef0 rfl rfl (Gd.g0 rfl) (Ef0.store (i := 1) rfl rfl rfl ag_48 rfl (by simp)) (fun w hw => ⟨(by exact fun _ => hw.tb), (by exact hw.k 7 rfl), trivial⟩) ?_
    try dsimp only [setR]
    try dsimp only [List.set, setRow2]
    refine DL.done (by kernel_rfl) ?_
    first | refine EX.then_normal ?_ | skip
    refine EX.perm [1, 3, 0, 2] 4 rfl rfl rfl ?_
    rotate_left
    refine D1.ef rfl rfl rfl (Gd.g0 rfl) (Ef.buildSlice rfl se_48 rfl rfl rfl rfl) (fun _ w hw => ⟨(by exact fun _ => hw.tb), (by exact hw.k 6 rfl), trivial⟩) (fun b68 => ?_)
    try dsimp only [Value.cells, List.flatMap_cons, List.flatMap_nil]
    refine DL.ready (is := [2, 7]) (by kernel_rfl) (by simp) (all1 ?_ (all1 ?_ all0))
    refine D1.ef0 rfl rfl (Gd.g0 rfl) (hins 1 rfl rfl rfl rfl) (fun w hw => ⟨(by exact fun _ => hw.tb), (by exact hw.k 6 rfl), trivial⟩) ?_
    try dsimp only [setR]
    refine DL.take 3 rfl (by kernel_rfl) (by kernel_rfl) (by kernel_rfl) (by kernel_rfl) (by kernel_rfl) rfl rfl (Gd.g0 rfl) (heldN 3) (Yd.move rfl) ?_
    refine DL.ready1 (i := 7) (by kernel_rfl) ?_
    refine D1.ef rfl rfl rfl (Gd.g0 rfl) (Ef.alloc zl_48) (fun _ w hw => ⟨(by exact fun _ => hw.tb), (by exact hw.k 7 rfl), trivial⟩) (fun b13 => ?_)
    try dsimp only [Value.cells, List.flatMap_cons, List.flatMap_nil]
    refine DL.ready1 (i := 8) (by kernel_rfl) ?_
    refine D1.ef0 rfl rfl (Gd.g0 rfl) (Ef0.store (i := 3) rfl rfl rfl ag_47 rfl (by simp)) (fun w hw => ⟨(by exact fun _ => hw.tb), (by exact hw.k 7 rfl), trivial⟩) ?_
    try dsimp only [setR]
    try dsimp only [List.set, setRow2]
    refine DL.ready1 (i := 9) (by kernel_rfl) ?_
    refine D1.ef0 rfl rfl (Gd.g0 rfl) (Ef0.store (i := 0) rfl rfl rfl ag_48 rfl (by simp)) (fun w hw => ⟨(by exact fun _ => hw.tb), (by exact hw.k 7 rfl), trivial⟩) ?_
    try dsimp only [setR]
    try dsimp only [List.set, setRow2]
    refine DL.done (by kernel_rfl) ?_
    first | refine EX.then_normal ?_ | skip
    refine EX.perm [0, 3, 1, 2] 4 rfl rfl rfl ?_
    rotate_left
    refine D1.ef rfl rfl rfl (Gd.g0 rfl) (Ef.alloc zl_48) (fun _ w hw => ⟨(by exact fun _ => hw.tb), (by exact hw.k 7 rfl), trivial⟩) (fun b13 => ?_)
    try dsimp only [Value.cells, List.flatMap_cons, List.flatMap_nil]
    refine DL.ready1 (i := 2) (by kernel_rfl) ?_
    refine D1.ef0 rfl rfl (Gd.g0 rfl) (hins 2 rfl rfl rfl rfl) (fun w hw => ⟨(by exact fun _ => hw.tb), (by exact hw.k 7 rfl), trivial⟩) ?_
    try dsimp only [setR]
    refine DL.take 3 rfl (by kernel_rfl) (by kernel_rfl) (by kernel_rfl) (by kernel_rfl) (by kernel_rfl) rfl rfl (Gd.g0 rfl) (heldN 3) (Yd.move rfl) ?_
    refine DL.ready1 (i := 8) (by kernel_rfl) ?_
    refine D1.ef0 rfl rfl (Gd.g0 rfl) (Ef0.store (i := 3) rfl rfl rfl ag_47 rfl (by simp)) (fun w hw => ⟨(by exact fun _ => hw.tb), (by exact hw.k 7 rfl), trivial⟩) ?_
    try dsimp only [setR]
    try dsimp only [List.set, setRow2]
    refine DL.ready1 (i := 9) (by kernel_rfl) ?_
    refine D1.ef0 rfl rfl (Gd.g0 rfl) (Ef0.store (i := 0) rfl rfl rfl ag_48 rfl (by simp)) (fun w hw => ⟨(by exact fun _ => hw.tb), (by exact hw.k 7 rfl), trivial⟩) ?_
    try dsimp only [setR]
    try dsimp only [List.set, setRow2]
    refine DL.done (by kernel_rfl) ?_
    first | refine EX.then_normal ?_ | skip
    refine EX.perm [0, 3, 1, 2] 4 rfl rfl rfl ?_
    rotate_left
    refine D1.ef rfl rfl rfl (Gd.g0 rfl) (Ef.alloc zl_48) (fun _ w hw => ⟨(by exact fun _ => hw.tb), (by exact hw.k 6 rfl), trivial⟩) (fun b13 => ?_)
    try dsimp only [Value.cells, List.flatMap_cons, List.flatMap_nil]
    refine DL.ready (is := [2, 5]) (by kernel_rfl) (by simp) (all1 ?_ (all1 ?_ all0))
    refine D1.ef0 rfl rfl (Gd.g0 rfl) (hins 1 rfl rfl rfl rfl) (fun w hw => ⟨(by exact fun _ => hw.tb), (by exact hw.k 6 rfl), trivial⟩) ?_
    try dsimp only [setR]
    refine DL.take 3 rfl (by kernel_rfl) (by kernel_rfl) (by kernel_rfl) (by kernel_rfl) (by kernel_rfl) rfl rfl (Gd.g0 rfl) (heldN 3) (Yd.move rfl) ?_
    refine DL.ready (is := [5, 8]) (by kernel_rfl) (by simp) (all1 ?_ (all1 ?_ all0))
    refine D1.ef rfl rfl rfl (Gd.g0 rfl) (Ef.buildSlice rfl se_48 rfl rfl rfl rfl) (fun _ w hw => ⟨(by exact fun _ => hw.tb), (by exact hw.k 7 rfl), trivial⟩) (fun b68 => ?_)
    try dsimp only [Value.cells, List.flatMap_cons, List.flatMap_nil]
    refine DL.ready1 (i := 8) (by kernel_rfl) ?_
    refine D1.ef0 rfl rfl (Gd.g0 rfl) (Ef0.store (i := 3) rfl rfl rfl ag_47 rfl (by simp)) (fun w hw => ⟨(by exact fun _ => hw.tb), (by exact hw.k 7 rfl), trivial⟩) ?_
    try dsimp only [setR]
    try dsimp only [List.set, setRow2]
    refine DL.ready1 (i := 9) (by kernel_rfl) ?_
    refine D1.ef0 rfl rfl (Gd.g0 rfl) (Ef0.store (i := 1) rfl rfl rfl ag_48 rfl (by simp)) (fun w hw => ⟨(by exact fun _ => hw.tb), (by exact hw.k 7 rfl), trivial⟩) ?_
    try dsimp only [setR]
    try dsimp only [List.set, setRow2]
    refine DL.done (by kernel_rfl) ?_
    first | refine EX.then_normal ?_ | skip
    refine EX.perm [1, 3, 0, 2] 4 rfl rfl rfl ?_
    rotate_left
    refine D1.ef0 rfl rfl (Gd.g0 rfl) (Ef0.store (i := 2) rfl rfl rfl ag_47 rfl (by simp)) (fun w hw => ⟨(by exact fun _ => hw.tb), (by exact hw.k 6 rfl), trivial⟩) ?_
    try dsimp only [setR]
    try dsimp only [List.set, setRow2]
    refine DL.ready1 (i := 5) (by kernel_rfl) ?_
    refine D1.ef rfl rfl rfl (Gd.g0 rfl) (Ef.buildSlice rfl se_48 rfl rfl rfl rfl) (fun _ w hw => ⟨(by exact fun _ => hw.tb), (by exact hw.k 7 rfl), trivial⟩) (fun b68 => ?_)
    try dsimp only [Value.cells, List.flatMap_cons, List.flatMap_nil]
    refine DL.ready1 (i := 9) (by kernel_rfl) ?_
    refine D1.ef0 rfl rfl (Gd.g0 rfl) (Ef0.store (i := 1) rfl rfl rfl ag_48 rfl (by simp)) (fun w hw => ⟨(by exact fun _ => hw.tb), (by exact hw.k 7 rfl), trivial⟩) ?_
    try dsimp only [setR]
    try dsimp only [List.set, setRow2]
    refine DL.done (by kernel_rfl) ?_
    first | refine EX.then_normal ?_ | skip
    refine EX.perm [1, 3, 0, 2] 4 rfl rfl rfl ?_
    rotate_left
    refine D1.ef rfl rfl rfl (Gd.g0 rfl) (Ef.buildSlice rfl se_48 rfl rfl rfl rfl) (fun _ w hw => ⟨(by exact fun _ => hw.tb), (by exact hw.k 7 rfl), trivial⟩) (fun b68 => ?_)
    try dsimp only [Value.cells, List.flatMap_cons, List.flatMap_nil]
    refine DL.ready1 (i := 2) (by kernel_rfl) ?_
    refine D1.ef0 rfl rfl (Gd.g0 rfl) (hins 2 rfl rfl rfl rfl) (fun w hw => ⟨(by exact fun _ => hw.tb), (by exact hw.k 7 rfl), trivial⟩) ?_
    try dsimp only [setR]
    refine DL.take 3 rfl (by kernel_rfl) (by kernel_rfl) (by kernel_rfl) (by kernel_rfl) (by kernel_rfl) rfl rfl (Gd.g0 rfl) (heldN 3) (Yd.move rfl) ?_
    refine DL.ready1 (i := 8) (by kernel_rfl) ?_
    refine D1.ef0 rfl rfl (Gd.g0 rfl) (Ef0.store (i := 3) rfl rfl rfl ag_47 rfl (by simp)) (fun w hw => ⟨(by exact fun _ => hw.tb), (by exact hw.k 7 rfl), trivial⟩) ?_
    try dsimp only [setR]
    try dsimp only [List.set, setRow2]
    refine DL.ready1 (i := 9) (by kernel_rfl) ?_
    refine D1.ef0 rfl rfl (Gd.g0 rfl) (Ef0.store (i := 1) rfl rfl rfl ag_48 rfl (by simp)) (fun w hw => ⟨(by exact fun _ => hw.tb), (by exact hw.k 7 rfl), trivial⟩) ?_
    try dsimp only [setR]
    try dsimp only [List.set, setRow2]
    refine DL.done (by kernel_rfl) ?_
    first | refine EX.then_normal ?_ | skip
    refine EX.perm [1, 3, 0, 2] 4 rfl rfl rfl ?_
    rotate_left
    refine D1.ef rfl rfl rfl (Gd.g0 rfl) (Ef.buildSlice rfl se_48 rfl rfl rfl rfl) (fun _ w hw => ⟨(by exact fun _ => hw.tb), (by exact hw.k 5 rfl), trivial⟩) (fun b68 => ?_)
    try dsimp only [Value.cells, List.flatMap_cons, List.flatMap_nil]
    refine DL.ready (is := [0, 7]) (by kernel_rfl) (by simp) (all1 ?_ (all1 ?_ all0))
    refine D1.ef rfl rfl rfl (Gd.g0 rfl) (Ef.makeSet (fun x : List Int => .agg (pR (sF x) (lF x)).toArray)) (fun _ w hw => ⟨(by exact fun _ => hw.tb), (by exact hw.k 6 rfl), trivial⟩) (fun b64 => ?_)
    try dsimp only [setR]
    refine DL.ready (is := [2, 7]) (by kernel_rfl) (by simp) (all1 ?_ (all1 ?_ all0))
    refine D1.ef0 rfl rfl (Gd.g0 rfl) (hins 0 rfl rfl rfl rfl) (fun w hw => ⟨(by exact fun _ => hw.tb), (by exact hw.k 6 rfl), trivial⟩) ?_
    try dsimp only [setR]
    refine DL.take 3 rfl (by kernel_rfl) (by kernel_rfl) (by kernel_rfl) (by kernel_rfl) (by kernel_rfl) rfl rfl (Gd.g0 rfl) (heldN 3) (Yd.move rfl) ?_
    refine DL.ready1 (i := 7) (by kernel_rfl) ?_
    refine D1.ef rfl rfl rfl (Gd.g0 rfl) (Ef.alloc zl_48) (fun _ w hw => ⟨(by exact fun _ => hw.tb), (by exact hw.k 7 rfl), trivial⟩) (fun b13 => ?_)
    try dsimp only [Value.cells, List.flatMap_cons, List.flatMap_nil]
    refine DL.ready1 (i := 8) (by kernel_rfl) ?_
    refine D1.ef0 rfl rfl (Gd.g0 rfl) (Ef0.store (i := 3) rfl rfl rfl ag_47 rfl (by simp)) (fun w hw => ⟨(by exact fun _ => hw.tb), (by exact hw.k 7 rfl), trivial⟩) ?_
    try dsimp only [setR]
    try dsimp only [List.set, setRow2]
    refine DL.ready1 (i := 9) (by kernel_rfl) ?_
    refine D1.ef0 rfl rfl (Gd.g0 rfl) (Ef0.store (i := 0) rfl rfl rfl ag_48 rfl (by simp)) (fun w hw => ⟨(by exact fun _ => hw.tb), (by exact hw.k 7 rfl), trivial⟩) ?_
    try dsimp only [setR]
    try dsimp only [List.set, setRow2]
    refine DL.done (by kernel_rfl) ?_
    first | refine EX.then_normal ?_ | skip
    refine EX.perm [0, 3, 2, 1] 4 rfl rfl rfl ?_
    rotate_left
    refine D1.ef rfl rfl rfl (Gd.g0 rfl) (Ef.alloc zl_48) (fun _ w hw => ⟨(by exact fun _ => hw.tb), (by exact hw.k 7 rfl), trivial⟩) (fun b13 => ?_)
    try dsimp only [Value.cells, List.flatMap_cons, List.flatMap_nil]
    refine DL.ready1 (i := 2) (by kernel_rfl) ?_
    refine D1.ef0 rfl rfl (Gd.g0 rfl) (hins 1 rfl rfl rfl rfl) (fun w hw => ⟨(by exact fun _ => hw.tb), (by exact hw.k 7 rfl), trivial⟩) ?_
    try dsimp only [setR]
    refine DL.take 3 rfl (by kernel_rfl) (by kernel_rfl) (by kernel_rfl) (by kernel_rfl) (by kernel_rfl) rfl rfl (Gd.g0 rfl) (heldN 3) (Yd.move rfl) ?_
    refine DL.ready1 (i := 8) (by kernel_rfl) ?_
    refine D1.ef0 rfl rfl (Gd.g0 rfl) (Ef0.store (i := 3) rfl rfl rfl ag_47 rfl (by simp)) (fun w hw => ⟨(by exact fun _ => hw.tb), (by exact hw.k 7 rfl), trivial⟩) ?_
    try dsimp only [setR]
    try dsimp only [List.set, setRow2]
    refine DL.ready1 (i := 9) (by kernel_rfl) ?_
    refine D1.ef0 rfl rfl (Gd.g0 rfl) (Ef0.store (i := 0) rfl rfl rfl ag_48 rfl (by simp)) (fun w hw => ⟨(by exact fun _ => hw.tb), (by exact hw.k 7 rfl), trivial⟩) ?_
    try dsimp only [setR]
    try dsimp only [List.set, setRow2]
    refine DL.done (by kernel_rfl) ?_
    first | refine EX.then_normal ?_ | skip
    refine EX.perm [0, 3, 2, 1] 4 rfl rfl rfl ?_
    rotate_left
    refine D1.ef rfl rfl rfl (Gd.g0 rfl) (Ef.alloc zl_48) (fun _ w hw => ⟨(by exact fun _ => hw.tb), (by exact hw.k 6 rfl), trivial⟩) (fun b13 => ?_)
    try dsimp only [Value.cells, List.flatMap_cons, List.flatMap_nil]
    refine DL.ready1 (i := 0) (by kernel_rfl) ?_
    refine D1.ef rfl rfl rfl (Gd.g0 rfl) (Ef.makeSet (fun x : List Int => .agg (pR (sF x) (lF x)).toArray)) (fun _ w hw => ⟨(by exact fun _ => hw.tb), (by exact hw.k 7 rfl), trivial⟩) (fun b64 => ?_)
    try dsimp only [setR]
    refine DL.ready1 (i := 2) (by kernel_rfl) ?_
    refine D1.ef0 rfl rfl (Gd.g0 rfl) (hins 0 rfl rfl rfl rfl) (fun w hw => ⟨(by exact fun _ => hw.tb), (by exact hw.k 7 rfl), trivial⟩) ?_
    try dsimp only [setR]
    refine DL.take 3 rfl (by kernel_rfl) (by kernel_rfl) (by kernel_rfl) (by kernel_rfl) (by kernel_rfl) rfl rfl (Gd.g0 rfl) (heldN 3) (Yd.move rfl) ?_
    refine DL.ready1 (i := 8) (by kernel_rfl) ?_
    refine D1.ef0 rfl rfl (Gd.g0 rfl) (Ef0.store (i := 3) rfl rfl rfl ag_47 rfl (by simp)) (fun w hw => ⟨(by exact fun _ => hw.tb), (by exact hw.k 7 rfl), trivial⟩) ?_
    try dsimp only [setR]
    try dsimp only [List.set, setRow2]
    refine DL.ready1 (i := 9) (by kernel_rfl) ?_
    refine D1.ef0 rfl rfl (Gd.g0 rfl) (Ef0.store (i := 1) rfl rfl rfl ag_48 rfl (by simp)) (fun w hw => ⟨(by exact fun _ => hw.tb), (by exact hw.k 7 rfl), trivial⟩) ?_
    try dsimp only [setR]
    try dsimp only [List.set, setRow2]
    refine DL.done (by kernel_rfl) ?_
    first | refine EX.then_normal ?_ | skip
    refine EX.perm [1, 3, 2, 0] 4 rfl rfl rfl ?_
    rotate_left
    refine D1.ef rfl rfl rfl (Gd.g0 rfl) (Ef.alloc zl_48) (fun _ w hw => ⟨(by exact fun _ => hw.tb), (by exact hw.k 5 rfl), trivial⟩) (fun b13 => ?_)
    try dsimp only [Value.cells, List.flatMap_cons, List.flatMap_nil]
    refine DL.ready (is := [0, 5]) (by kernel_rfl) (by simp) (all1 ?_ (all1 ?_ all0))
    refine D1.ef rfl rfl rfl (Gd.g0 rfl) (Ef.makeSet (fun x : List Int => .agg (pR (sF x) (lF x)).toArray)) (fun _ w hw => ⟨(by exact fun _ => hw.tb), (by exact hw.k 6 rfl), trivial⟩) (fun b64 => ?_)
    try dsimp only [setR]
    refine DL.ready (is := [2, 5]) (by kernel_rfl) (by simp) (all1 ?_ (all1 ?_ all0))
    refine D1.ef0 rfl rfl (Gd.g0 rfl) (hins 0 rfl rfl rfl rfl) (fun w hw => ⟨(by exact fun _ => hw.tb), (by exact hw.k 6 rfl), trivial⟩) ?_
    try dsimp only [setR]
    refine DL.take 3 rfl (by kernel_rfl) (by kernel_rfl) (by kernel_rfl) (by kernel_rfl) (by kernel_rfl) rfl rfl (Gd.g0 rfl) (heldN 3) (Yd.move rfl) ?_
    refine DL.ready (is := [5, 8]) (by kernel_rfl) (by simp) (all1 ?_ (all1 ?_ all0))
    refine D1.ef rfl rfl rfl (Gd.g0 rfl) (Ef.buildSlice rfl se_48 rfl rfl rfl rfl) (fun _ w hw => ⟨(by exact fun _ => hw.tb), (by exact hw.k 7 rfl), trivial⟩) (fun b68 => ?_)
    try dsimp only [Value.cells, List.flatMap_cons, List.flatMap_nil]
    refine DL.ready1 (i := 8) (by kernel_rfl) ?_
    refine D1.ef0 rfl rfl (Gd.g0 rfl) (Ef0.store (i := 3) rfl rfl rfl ag_47 rfl (by simp)) (fun w hw => ⟨(by exact fun _ => hw.tb), (by exact hw.k 7 rfl), trivial⟩) ?_
    try dsimp only [setR]
    try dsimp only [List.set, setRow2]
    refine DL.ready1 (i := 9) (by kernel_rfl) ?_
    refine D1.ef0 rfl rfl (Gd.g0 rfl) (Ef0.store (i := 2) rfl rfl rfl ag_48 rfl (by simp)) (fun w hw => ⟨(by exact fun _ => hw.tb), (by exact hw.k 7 rfl), trivial⟩) ?_
    try dsimp only [setR]
    try dsimp only [List.set, setRow2]
    refine DL.done (by kernel_rfl) ?_
    first | refine EX.then_normal ?_ | skip
    refine EX.perm [2, 3, 0, 1] 4 rfl rfl rfl ?_
    rotate_left
    refine D1.ef0 rfl rfl (Gd.g0 rfl) (Ef0.store (i := 2) rfl rfl rfl ag_47 rfl (by simp)) (fun w hw => ⟨(by exact fun _ => hw.tb), (by exact hw.k 6 rfl), trivial⟩) ?_
    try dsimp only [setR]
    try dsimp only [List.set, setRow2]
    refine DL.ready1 (i := 5) (by kernel_rfl) ?_
    refine D1.ef rfl rfl rfl (Gd.g0 rfl) (Ef.buildSlice rfl se_48 rfl rfl rfl rfl) (fun _ w hw => ⟨(by exact fun _ => hw.tb), (by exact hw.k 7 rfl), trivial⟩) (fun b68 => ?_)
    try dsimp only [Value.cells, List.flatMap_cons, List.flatMap_nil]
    refine DL.ready1 (i := 9) (by kernel_rfl) ?_
    refine D1.ef0 rfl rfl (Gd.g0 rfl) (Ef0.store (i := 2) rfl rfl rfl ag_48 rfl (by simp)) (fun w hw => ⟨(by exact fun _ => hw.tb), (by exact hw.k 7 rfl), trivial⟩) ?_
    try dsimp only [setR]
    try dsimp only [List.set, setRow2]
    refine DL.done (by kernel_rfl) ?_
    first | refine EX.then_normal ?_ | skip
    refine EX.perm [2, 3, 0, 1] 4 rfl rfl rfl ?_
    rotate_left
    refine D1.ef rfl rfl rfl (Gd.g0 rfl) (Ef.buildSlice rfl se_48 rfl rfl rfl rfl) (fun _ w hw => ⟨(by exact fun _ => hw.tb), (by exact hw.k 7 rfl), trivial⟩) (fun b68 => ?_)
    try dsimp only [Value.cells, List.flatMap_cons, List.flatMap_nil]
    refine DL.ready1 (i := 2) (by kernel_rfl) ?_
    refine D1.ef0 rfl rfl (Gd.g0 rfl) (hins 1 rfl rfl rfl rfl) (fun w hw => ⟨(by exact fun _ => hw.tb), (by exact hw.k 7 rfl), trivial⟩) ?_
    try dsimp only [setR]
    refine DL.take 3 rfl (by kernel_rfl) (by kernel_rfl) (by kernel_rfl) (by kernel_rfl) (by kernel_rfl) rfl rfl (Gd.g0 rfl) (heldN 3) (Yd.move rfl) ?_
    refine DL.ready1 (i := 8) (by kernel_rfl) ?_
    refine D1.ef0 rfl rfl (Gd.g0 rfl) (Ef0.store (i := 3) rfl rfl rfl ag_47 rfl (by simp)) (fun w hw => ⟨(by exact fun _ => hw.tb), (by exact hw.k 7 rfl), trivial⟩) ?_
    try dsimp only [setR]
    try dsimp only [List.set, setRow2]
    refine DL.ready1 (i := 9) (by kernel_rfl) ?_
    refine D1.ef0 rfl rfl (Gd.g0 rfl) (Ef0.store (i := 2) rfl rfl rfl ag_48 rfl (by simp)) (fun w hw => ⟨(by exact fun _ => hw.tb), (by exact hw.k 7 rfl), trivial⟩) ?_
    try dsimp only [setR]
    try dsimp only [List.set, setRow2]
    refine DL.done (by kernel_rfl) ?_
    first | refine EX.then_normal ?_ | skip
    refine EX.perm [2, 3, 0, 1] 4 rfl rfl rfl ?_
    rotate_left
    refine D1.ef rfl rfl rfl (Gd.g0 rfl) (Ef.buildSlice rfl se_48 rfl rfl rfl rfl) (fun _ w hw => ⟨(by exact fun _ => hw.tb), (by exact hw.k 6 rfl), trivial⟩) (fun b68 => ?_)
    try dsimp only [Value.cells, List.flatMap_cons, List.flatMap_nil]
    refine DL.ready1 (i := 0) (by kernel_rfl) ?_
    refine D1.ef rfl rfl rfl (Gd.g0 rfl) (Ef.makeSet (fun x : List Int => .agg (pR (sF x) (lF x)).toArray)) (fun _ w hw => ⟨(by exact fun _ => hw.tb), (by exact hw.k 7 rfl), trivial⟩) (fun b64 => ?_)
    try dsimp only [setR]
    refine DL.ready1 (i := 2) (by kernel_rfl) ?_
    refine D1.ef0 rfl rfl (Gd.g0 rfl) (hins 0 rfl rfl rfl rfl) (fun w hw => ⟨(by exact fun _ => hw.tb), (by exact hw.k 7 rfl), trivial⟩) ?_
    try dsimp only [setR]
    refine DL.take 3 rfl (by kernel_rfl) (by kernel_rfl) (by kernel_rfl) (by kernel_rfl) (by kernel_rfl) rfl rfl (Gd.g0 rfl) (heldN 3) (Yd.move rfl) ?_
    refine DL.ready1 (i := 8) (by kernel_rfl) ?_
    refine D1.ef0 rfl rfl (Gd.g0 rfl) (Ef0.store (i := 3) rfl rfl rfl ag_47 rfl (by simp)) (fun w hw => ⟨(by exact fun _ => hw.tb), (by exact hw.k 7 rfl), trivial⟩) ?_
    try dsimp only [setR]
    try dsimp only [List.set, setRow2]
    refine DL.ready1 (i := 9) (by kernel_rfl) ?_
    refine D1.ef0 rfl rfl (Gd.g0 rfl) (Ef0.store (i := 2) rfl rfl rfl ag_48 rfl (by simp)) (fun w hw => ⟨(by exact fun _ => hw.tb), (by exact hw.k 7 rfl), trivial⟩) ?_
    try dsimp only [setR]
    try dsimp only [List.set, setRow2]
    refine DL.done (by kernel_rfl) ?_
    first | refine EX.then_normal ?_ | skip
    refine EX.perm [2, 3, 1, 0] 4 rfl rfl rfl ?_
    rotate_left
    refine D1.ef rfl rfl rfl (Gd.g0 rfl) (Ef.alloc zl_48) (fun _ w hw => ⟨(by exact fun _ => hw.tb), (by exact hw.k 4 rfl), trivial⟩) (fun b13 => ?_)
    try dsimp only [Value.cells, List.flatMap_cons, List.flatMap_nil]
    refine DL.ready (is := [0, 5, 6]) (by kernel_rfl) (by simp) (all1 ?_ (all1 ?_ (all1 ?_ all0)))
    refine D1.ef rfl rfl rfl (Gd.g0 rfl) (Ef.makeSet (fun x : List Int => .agg (pR (sF x) (lF x)).toArray)) (fun _ w hw => ⟨(by exact fun _ => hw.tb), (by exact hw.k 5 rfl), trivial⟩) (fun b64 => ?_)
    try dsimp only [setR]
    refine DL.ready (is := [2, 5, 6]) (by kernel_rfl) (by simp) (all1 ?_ (all1 ?_ (all1 ?_ all0)))
    refine D1.ef0 rfl rfl (Gd.g0 rfl) (hins 0 rfl rfl rfl rfl) (fun w hw => ⟨(by exact fun _ => hw.tb), (by exact hw.k 5 rfl), trivial⟩) ?_
    try dsimp only [setR]
    refine DL.take 3 rfl (by kernel_rfl) (by kernel_rfl) (by kernel_rfl) (by kernel_rfl) (by kernel_rfl) rfl rfl (Gd.g0 rfl) (heldN 3) (Yd.move rfl) ?_
    refine DL.ready (is := [5, 6]) (by kernel_rfl) (by simp) (all1 ?_ (all1 ?_ all0))
    refine D1.ef rfl rfl rfl (Gd.g0 rfl) (Ef.buildSlice rfl se_48 rfl rfl rfl rfl) (fun _ w hw => ⟨(by exact fun _ => hw.tb), (by exact hw.k 6 rfl), trivial⟩) (fun b68 => ?_)
    try dsimp only [Value.cells, List.flatMap_cons, List.flatMap_nil]
    refine DL.ready1 (i := 6) (by kernel_rfl) ?_
    refine D1.ef rfl rfl rfl (Gd.g0 rfl) (Ef.alloc zl_47) (fun _ w hw => ⟨(by exact fun _ => hw.tb), (by exact hw.k 7 rfl), trivial⟩) (fun b12 => ?_)
    try dsimp only [Value.cells, List.flatMap_cons, List.flatMap_nil]
    refine DL.ready1 (i := 8) (by kernel_rfl) ?_
    refine D1.ef0 rfl rfl (Gd.g0 rfl) (Ef0.store (i := 0) rfl rfl rfl ag_47 rfl (by simp)) (fun w hw => ⟨(by exact fun _ => hw.tb), (by exact hw.k 7 rfl), trivial⟩) ?_
    try dsimp only [setR]
    try dsimp only [List.set, setRow2]
    refine DL.ready1 (i := 9) (by kernel_rfl) ?_
    refine D1.ef0 rfl rfl (Gd.g0 rfl) (Ef0.store (i := 3) rfl rfl rfl ag_48 rfl (by simp)) (fun w hw => ⟨(by exact fun _ => hw.tb), (by exact hw.k 7 rfl), trivial⟩) ?_
    try dsimp only [setR]
    try dsimp only [List.set, setRow2]
    refine DL.done (by kernel_rfl) ?_
    first | refine EX.then_normal ?_ | skip
    refine EX.perm [3, 0, 1, 2] 4 rfl rfl rfl ?_
    rotate_left
    refine D1.ef rfl rfl rfl (Gd.g0 rfl) (Ef.alloc zl_47) (fun _ w hw => ⟨(by exact fun _ => hw.tb), (by exact hw.k 6 rfl), trivial⟩) (fun b12 => ?_)
    try dsimp only [Value.cells, List.flatMap_cons, List.flatMap_nil]
    refine DL.ready (is := [5, 8]) (by kernel_rfl) (by simp) (all1 ?_ (all1 ?_ all0))
    refine D1.ef rfl rfl rfl (Gd.g0 rfl) (Ef.buildSlice rfl se_48 rfl rfl rfl rfl) (fun _ w hw => ⟨(by exact fun _ => hw.tb), (by exact hw.k 7 rfl), trivial⟩) (fun b68 => ?_)
    try dsimp only [Value.cells, List.flatMap_cons, List.flatMap_nil]
    refine DL.ready1 (i := 8) (by kernel_rfl) ?_
    refine D1.ef0 rfl rfl (Gd.g0 rfl) (Ef0.store (i := 1) rfl rfl rfl ag_47 rfl (by simp)) (fun w hw => ⟨(by exact fun _ => hw.tb), (by exact hw.k 7 rfl), trivial⟩) ?_
    try dsimp only [setR]
    try dsimp only [List.set, setRow2]
    refine DL.ready1 (i := 9) (by kernel_rfl) ?_
    refine D1.ef0 rfl rfl (Gd.g0 rfl) (Ef0.store (i := 3) rfl rfl rfl ag_48 rfl (by simp)) (fun w hw => ⟨(by exact fun _ => hw.tb), (by exact hw.k 7 rfl), trivial⟩) ?_
    try dsimp only [setR]
    try dsimp only [List.set, setRow2]
    refine DL.done (by kernel_rfl) ?_
    first | refine EX.then_normal ?_ | skip
    refine EX.perm [3, 1, 0, 2] 4 rfl rfl rfl ?_
    rotate_left
    refine D1.ef0 rfl rfl (Gd.g0 rfl) (Ef0.store (i := 0) rfl rfl rfl ag_47 rfl (by simp)) (fun w hw => ⟨(by exact fun _ => hw.tb), (by exact hw.k 6 rfl), trivial⟩) ?_
    try dsimp only [setR]
    try dsimp only [List.set, setRow2]
    refine DL.ready1 (i := 5) (by kernel_rfl) ?_
    refine D1.ef rfl rfl rfl (Gd.g0 rfl) (Ef.buildSlice rfl se_48 rfl rfl rfl rfl) (fun _ w hw => ⟨(by exact fun _ => hw.tb), (by exact hw.k 7 rfl), trivial⟩) (fun b68 => ?_)
    try dsimp only [Value.cells, List.flatMap_cons, List.flatMap_nil]
    refine DL.ready1 (i := 9) (by kernel_rfl) ?_
    refine D1.ef0 rfl rfl (Gd.g0 rfl) (Ef0.store (i := 3) rfl rfl rfl ag_48 rfl (by simp)) (fun w hw => ⟨(by exact fun _ => hw.tb), (by exact hw.k 7 rfl), trivial⟩) ?_
    try dsimp only [setR]
    try dsimp only [List.set, setRow2]
    refine DL.done (by kernel_rfl) ?_
    first | refine EX.then_normal ?_ | skip
    refine EX.perm [3, 1, 0, 2] 4 rfl rfl rfl ?_
    rotate_left
    refine D1.ef rfl rfl rfl (Gd.g0 rfl) (Ef.buildSlice rfl se_48 rfl rfl rfl rfl) (fun _ w hw => ⟨(by exact fun _ => hw.tb), (by exact hw.k 6 rfl), trivial⟩) (fun b68 => ?_)
    try dsimp only [Value.cells, List.flatMap_cons, List.flatMap_nil]
    refine DL.ready (is := [2, 6]) (by kernel_rfl) (by simp) (all1 ?_ (all1 ?_ all0))
    refine D1.ef0 rfl rfl (Gd.g0 rfl) (hins 1 rfl rfl rfl rfl) (fun w hw => ⟨(by exact fun _ => hw.tb), (by exact hw.k 6 rfl), trivial⟩) ?_
    try dsimp only [setR]
    refine DL.take 3 rfl (by kernel_rfl) (by kernel_rfl) (by kernel_rfl) (by kernel_rfl) (by kernel_rfl) rfl rfl (Gd.g0 rfl) (heldN 3) (Yd.move rfl) ?_
    refine DL.ready1 (i := 6) (by kernel_rfl) ?_
    refine D1.ef rfl rfl rfl (Gd.g0 rfl) (Ef.alloc zl_47) (fun _ w hw => ⟨(by exact fun _ => hw.tb), (by exact hw.k 7 rfl), trivial⟩) (fun b12 => ?_)
    try dsimp only [Value.cells, List.flatMap_cons, List.flatMap_nil]
    refine DL.ready1 (i := 8) (by kernel_rfl) ?_
    refine D1.ef0 rfl rfl (Gd.g0 rfl) (Ef0.store (i := 0) rfl rfl rfl ag_47 rfl (by simp)) (fun w hw => ⟨(by exact fun _ => hw.tb), (by exact hw.k 7 rfl), trivial⟩) ?_
    try dsimp only [setR]
    try dsimp only [List.set, setRow2]
    refine DL.ready1 (i := 9) (by kernel_rfl) ?_
    refine D1.ef0 rfl rfl (Gd.g0 rfl) (Ef0.store (i := 3) rfl rfl rfl ag_48 rfl (by simp)) (fun w hw => ⟨(by exact fun _ => hw.tb), (by exact hw.k 7 rfl), trivial⟩) ?_
    try dsimp only [setR]
    try dsimp only [List.set, setRow2]
    refine DL.done (by kernel_rfl) ?_
    first | refine EX.then_normal ?_ | skip
    refine EX.perm [3, 0, 1, 2] 4 rfl rfl rfl ?_
    rotate_left
    refine D1.ef rfl rfl rfl (Gd.g0 rfl) (Ef.alloc zl_47) (fun _ w hw => ⟨(by exact fun _ => hw.tb), (by exact hw.k 7 rfl), trivial⟩) (fun b12 => ?_)
    try dsimp only [Value.cells, List.flatMap_cons, List.flatMap_nil]
    refine DL.ready1 (i := 2) (by kernel_rfl) ?_
    refine D1.ef0 rfl rfl (Gd.g0 rfl) (hins 2 rfl rfl rfl rfl) (fun w hw => ⟨(by exact fun _ => hw.tb), (by exact hw.k 7 rfl), trivial⟩) ?_
    try dsimp only [setR]
    refine DL.take 3 rfl (by kernel_rfl) (by kernel_rfl) (by kernel_rfl) (by kernel_rfl) (by kernel_rfl) rfl rfl (Gd.g0 rfl) (heldN 3) (Yd.move rfl) ?_
    refine DL.ready1 (i := 8) (by kernel_rfl) ?_
    refine D1.ef0 rfl rfl (Gd.g0 rfl) (Ef0.store (i := 0) rfl rfl rfl ag_47 rfl (by simp)) (fun w hw => ⟨(by exact fun _ => hw.tb), (by exact hw.k 7 rfl), trivial⟩) ?_
    try dsimp only [setR]
    try dsimp only [List.set, setRow2]
    refine DL.ready1 (i := 9) (by kernel_rfl) ?_
    refine D1.ef0 rfl rfl (Gd.g0 rfl) (Ef0.store (i := 3) rfl rfl rfl ag_48 rfl (by simp)) (fun w hw => ⟨(by exact fun _ => hw.tb), (by exact hw.k 7 rfl), trivial⟩) ?_
    try dsimp only [setR]
    try dsimp only [List.set, setRow2]
    refine DL.done (by kernel_rfl) ?_
    first | refine EX.then_normal ?_ | skip
    refine EX.perm [3, 0, 1, 2] 4 rfl rfl rfl ?_
    rotate_left
    refine D1.ef rfl rfl rfl (Gd.g0 rfl) (Ef.alloc zl_47) (fun _ w hw => ⟨(by exact fun _ => hw.tb), (by exact hw.k 6 rfl), trivial⟩) (fun b12 => ?_)
    try dsimp only [Value.cells, List.flatMap_cons, List.flatMap_nil]
    refine DL.ready (is := [2, 5]) (by kernel_rfl) (by simp) (all1 ?_ (all1 ?_ all0))
    refine D1.ef0 rfl rfl (Gd.g0 rfl) (hins 1 rfl rfl rfl rfl) (fun w hw => ⟨(by exact fun _ => hw.tb), (by exact hw.k 6 rfl), trivial⟩) ?_
    try dsimp only [setR]
    refine DL.take 3 rfl (by kernel_rfl) (by kernel_rfl) (by kernel_rfl) (by kernel_rfl) (by kernel_rfl) rfl rfl (Gd.g0 rfl) (heldN 3) (Yd.move rfl) ?_
    refine DL.ready (is := [5, 8]) (by kernel_rfl) (by simp) (all1 ?_ (all1 ?_ all0))
    refine D1.ef rfl rfl rfl (Gd.g0 rfl) (Ef.buildSlice rfl se_48 rfl rfl rfl rfl) (fun _ w hw => ⟨(by exact fun _ => hw.tb), (by exact hw.k 7 rfl), trivial⟩) (fun b68 => ?_)
    try dsimp only [Value.cells, List.flatMap_cons, List.flatMap_nil]
    refine DL.ready1 (i := 8) (by kernel_rfl) ?_
    refine D1.ef0 rfl rfl (Gd.g0 rfl) (Ef0.store (i := 1) rfl rfl rfl ag_47 rfl (by simp)) (fun w hw => ⟨(by exact fun _ => hw.tb), (by exact hw.k 7 rfl), trivial⟩) ?_
    try dsimp only [setR]
    try dsimp only [List.set, setRow2]
    refine DL.ready1 (i := 9) (by kernel_rfl) ?_
    refine D1.ef0 rfl rfl (Gd.g0 rfl) (Ef0.store (i := 3) rfl rfl rfl ag_48 rfl (by simp)) (fun w hw => ⟨(by exact fun _ => hw.tb), (by exact hw.k 7 rfl), trivial⟩) ?_
    try dsimp only [setR]
    try dsimp only [List.set, setRow2]
    refine DL.done (by kernel_rfl) ?_
    first | refine EX.then_normal ?_ | skip
    refine EX.perm [3, 1, 0, 2] 4 rfl rfl rfl ?_
    rotate_left
    refine D1.ef0 rfl rfl (Gd.g0 rfl) (Ef0.store (i := 0) rfl rfl rfl ag_47 rfl (by simp)) (fun w hw => ⟨(by exact fun _ => hw.tb), (by exact hw.k 6 rfl), trivial⟩) ?_
    try dsimp only [setR]
    try dsimp only [List.set, setRow2]
    refine DL.ready1 (i := 5) (by kernel_rfl) ?_
    refine D1.ef rfl rfl rfl (Gd.g0 rfl) (Ef.buildSlice rfl se_48 rfl rfl rfl rfl) (fun _ w hw => ⟨(by exact fun _ => hw.tb), (by exact hw.k 7 rfl), trivial⟩) (fun b68 => ?_)
    try dsimp only [Value.cells, List.flatMap_cons, List.flatMap_nil]
    refine DL.ready1 (i := 9) (by kernel_rfl) ?_
    refine D1.ef0 rfl rfl (Gd.g0 rfl) (Ef0.store (i := 3) rfl rfl rfl ag_48 rfl (by simp)) (fun w hw => ⟨(by exact fun _ => hw.tb), (by exact hw.k 7 rfl), trivial⟩) ?_
    try dsimp only [setR]
    try dsimp only [List.set, setRow2]
    refine DL.done (by kernel_rfl) ?_
    first | refine EX.then_normal ?_ | skip
    refine EX.perm [3, 1, 0, 2] 4 rfl rfl rfl ?_
    rotate_left
    refine D1.ef rfl rfl rfl (Gd.g0 rfl) (Ef.buildSlice rfl se_48 rfl rfl rfl rfl) (fun _ w hw => ⟨(by exact fun _ => hw.tb), (by exact hw.k 7 rfl), trivial⟩) (fun b68 => ?_)
    try dsimp only [Value.cells, List.flatMap_cons, List.flatMap_nil]
    refine DL.ready1 (i := 2) (by kernel_rfl) ?_
    refine D1.ef0 rfl rfl (Gd.g0 rfl) (hins 2 rfl rfl rfl rfl) (fun w hw => ⟨(by exact fun _ => hw.tb), (by exact hw.k 7 rfl), trivial⟩) ?_
    try dsimp only [setR]
    refine DL.take 3 rfl (by kernel_rfl) (by kernel_rfl) (by kernel_rfl) (by kernel_rfl) (by kernel_rfl) rfl rfl (Gd.g0 rfl) (heldN 3) (Yd.move rfl) ?_
    refine DL.ready1 (i := 8) (by kernel_rfl) ?_
    refine D1.ef0 rfl rfl (Gd.g0 rfl) (Ef0.store (i := 1) rfl rfl rfl ag_47 rfl (by simp)) (fun w hw => ⟨(by exact fun _ => hw.tb), (by exact hw.k 7 rfl), trivial⟩) ?_
    try dsimp only [setR]
    try dsimp only [List.set, setRow2]
    refine DL.ready1 (i := 9) (by kernel_rfl) ?_
    refine D1.ef0 rfl rfl (Gd.g0 rfl) (Ef0.store (i := 3) rfl rfl rfl ag_48 rfl (by simp)) (fun w hw => ⟨(by exact fun _ => hw.tb), (by exact hw.k 7 rfl), trivial⟩) ?_
    try dsimp only [setR]
    try dsimp only [List.set, setRow2]
    refine DL.done (by kernel_rfl) ?_
    first | refine EX.then_normal ?_ | skip
    refine EX.perm [3, 1, 0, 2] 4 rfl rfl rfl ?_
    rotate_left
    refine D1.ef rfl rfl rfl (Gd.g0 rfl) (Ef.buildSlice rfl se_48 rfl rfl rfl rfl) (fun _ w hw => ⟨(by exact fun _ => hw.tb), (by exact hw.k 5 rfl), trivial⟩) (fun b68 => ?_)
    try dsimp only [Value.cells, List.flatMap_cons, List.flatMap_nil]
    refine DL.ready (is := [0, 6]) (by kernel_rfl) (by simp) (all1 ?_ (all1 ?_ all0))
    refine D1.ef rfl rfl rfl (Gd.g0 rfl) (Ef.makeSet (fun x : List Int => .agg (pR (sF x) (lF x)).toArray)) (fun _ w hw => ⟨(by exact fun _ => hw.tb), (by exact hw.k 6 rfl), trivial⟩) (fun b64 => ?_)
    try dsimp only [setR]
    refine DL.ready (is := [2, 6]) (by kernel_rfl) (by simp) (all1 ?_ (all1 ?_ all0))
    refine D1.ef0 rfl rfl (Gd.g0 rfl) (hins 0 rfl rfl rfl rfl) (fun w hw => ⟨(by exact fun _ => hw.tb), (by exact hw.k 6 rfl), trivial⟩) ?_
    try dsimp only [setR]
    refine DL.take 3 rfl (by kernel_rfl) (by kernel_rfl) (by kernel_rfl) (by kernel_rfl) (by kernel_rfl) rfl rfl (Gd.g0 rfl) (heldN 3) (Yd.move rfl) ?_
    refine DL.ready1 (i := 6) (by kernel_rfl) ?_
    refine D1.ef rfl rfl rfl (Gd.g0 rfl) (Ef.alloc zl_47) (fun _ w hw => ⟨(by exact fun _ => hw.tb), (by exact hw.k 7 rfl), trivial⟩) (fun b12 => ?_)
    try dsimp only [Value.cells, List.flatMap_cons, List.flatMap_nil]
    refine DL.ready1 (i := 8) (by kernel_rfl) ?_
    refine D1.ef0 rfl rfl (Gd.g0 rfl) (Ef0.store (i := 0) rfl rfl rfl ag_47 rfl (by simp)) (fun w hw => ⟨(by exact fun _ => hw.tb), (by exact hw.k 7 rfl), trivial⟩) ?_
    try dsimp only [setR]
    try dsimp only [List.set, setRow2]
    refine DL.ready1 (i := 9) (by kernel_rfl) ?_
    refine D1.ef0 rfl rfl (Gd.g0 rfl) (Ef0.store (i := 3) rfl rfl rfl ag_48 rfl (by simp)) (fun w hw => ⟨(by exact fun _ => hw.tb), (by exact hw.k 7 rfl), trivial⟩) ?_
    try dsimp only [setR]
    try dsimp only [List.set, setRow2]
    refine DL.done (by kernel_rfl) ?_
    first | refine EX.then_normal ?_ | skip
    refine EX.perm [3, 0, 2, 1] 4 rfl rfl rfl ?_
    rotate_left
    refine D1.ef rfl rfl rfl (Gd.g0 rfl) (Ef.alloc zl_47) (fun _ w hw => ⟨(by exact fun _ => hw.tb), (by exact hw.k 7 rfl), trivial⟩) (fun b12 => ?_)
    try dsimp only [Value.cells, List.flatMap_cons, List.flatMap_nil]
    refine DL.ready1 (i := 2) (by kernel_rfl) ?_
    refine D1.ef0 rfl rfl (Gd.g0 rfl) (hins 1 rfl rfl rfl rfl) (fun w hw => ⟨(by exact fun _ => hw.tb), (by exact hw.k 7 rfl), trivial⟩) ?_
    try dsimp only [setR]
    refine DL.take 3 rfl (by kernel_rfl) (by kernel_rfl) (by kernel_rfl) (by kernel_rfl) (by kernel_rfl) rfl rfl (Gd.g0 rfl) (heldN 3) (Yd.move rfl) ?_
    refine DL.ready1 (i := 8) (by kernel_rfl) ?_
    refine D1.ef0 rfl rfl (Gd.g0 rfl) (Ef0.store (i := 0) rfl rfl rfl ag_47 rfl (by simp)) (fun w hw => ⟨(by exact fun _ => hw.tb), (by exact hw.k 7 rfl), trivial⟩) ?_
    try dsimp only [setR]
    try dsimp only [List.set, setRow2]
    refine DL.ready1 (i := 9) (by kernel_rfl) ?_
    refine D1.ef0 rfl rfl (Gd.g0 rfl) (Ef0.store (i := 3) rfl rfl rfl ag_48 rfl (by simp)) (fun w hw => ⟨(by exact fun _ => hw.tb), (by exact hw.k 7 rfl), trivial⟩) ?_
    try dsimp only [setR]
    try dsimp only [List.set, setRow2]
    refine DL.done (by kernel_rfl) ?_
    first | refine EX.then_normal ?_ | skip
    refine EX.perm [3, 0, 2, 1] 4 rfl rfl rfl ?_
    rotate_left
    refine D1.ef rfl rfl rfl (Gd.g0 rfl) (Ef.alloc zl_47) (fun _ w hw => ⟨(by exact fun _ => hw.tb), (by exact hw.k 6 rfl), trivial⟩) (fun b12 => ?_)
    try dsimp only [Value.cells, List.flatMap_cons, List.flatMap_nil]
    refine DL.ready1 (i := 0) (by kernel_rfl) ?_
    refine D1.ef rfl rfl rfl (Gd.g0 rfl) (Ef.makeSet (fun x : List Int => .agg (pR (sF x) (lF x)).toArray)) (fun _ w hw => ⟨(by exact fun _ => hw.tb), (by exact hw.k 7 rfl), trivial⟩) (fun b64 => ?_)
    try dsimp only [setR]
    refine DL.ready1 (i := 2) (by kernel_rfl) ?_
    refine D1.ef0 rfl rfl (Gd.g0 rfl) (hins 0 rfl rfl rfl rfl) (fun w hw => ⟨(by exact fun _ => hw.tb), (by exact hw.k 7 rfl), trivial⟩) ?_
    try dsimp only [setR]
    refine DL.take 3 rfl (by kernel_rfl) (by kernel_rfl) (by kernel_rfl) (by kernel_rfl) (by kernel_rfl) rfl rfl (Gd.g0 rfl) (heldN 3) (Yd.move rfl) ?_
    refine DL.ready1 (i := 8) (by kernel_rfl) ?_
    refine D1.ef0 rfl rfl (Gd.g0 rfl) (Ef0.store (i := 1) rfl rfl rfl ag_47 rfl (by simp)) (fun w hw => ⟨(by exact fun _ => hw.tb), (by exact hw.k 7 rfl), trivial⟩) ?_
    try dsimp only [setR]
    try dsimp only [List.set, setRow2]
    refine DL.ready1 (i := 9) (by kernel_rfl) ?_
    refine D1.ef0 rfl rfl (Gd.g0 rfl) (Ef0.store (i := 3) rfl rfl rfl ag_48 rfl (by simp)) (fun w hw => ⟨(by exact fun _ => hw.tb), (by exact hw.k 7 rfl), trivial⟩) ?_
    try dsimp only [setR]
    try dsimp only [List.set, setRow2]
    refine DL.done (by kernel_rfl) ?_
    first | refine EX.then_normal ?_ | skip
    refine EX.perm [3, 1, 2, 0] 4 rfl rfl rfl ?_
    rotate_left
    refine D1.ef rfl rfl rfl (Gd.g0 rfl) (Ef.alloc zl_47) (fun _ w hw => ⟨(by exact fun _ => hw.tb), (by exact hw.k 5 rfl), trivial⟩) (fun b12 => ?_)
    try dsimp only [Value.cells, List.flatMap_cons, List.flatMap_nil]
    refine DL.ready (is := [0, 5]) (by kernel_rfl) (by simp) (all1 ?_ (all1 ?_ all0))
    refine D1.ef rfl rfl rfl (Gd.g0 rfl) (Ef.makeSet (fun x : List Int => .agg (pR (sF x) (lF x)).toArray)) (fun _ w hw => ⟨(by exact fun _ => hw.tb), (by exact hw.k 6 rfl), trivial⟩) (fun b64 => ?_)
    try dsimp only [setR]
    refine DL.ready (is := [2, 5]) (by kernel_rfl) (by simp) (all1 ?_ (all1 ?_ all0))
    refine D1.ef0 rfl rfl (Gd.g0 rfl) (hins 0 rfl rfl rfl rfl) (fun w hw => ⟨(by exact fun _ => hw.tb), (by exact hw.k 6 rfl), trivial⟩) ?_
    try dsimp only [setR]
    refine DL.take 3 rfl (by kernel_rfl) (by kernel_rfl) (by kernel_rfl) (by kernel_rfl) (by kernel_rfl) rfl rfl (Gd.g0 rfl) (heldN 3) (Yd.move rfl) ?_
    refine DL.ready (is := [5, 8]) (by kernel_rfl) (by simp) (all1 ?_ (all1 ?_ all0))
    refine D1.ef rfl rfl rfl (Gd.g0 rfl) (Ef.buildSlice rfl se_48 rfl rfl rfl rfl) (fun _ w hw => ⟨(by exact fun _ => hw.tb), (by exact hw.k 7 rfl), trivial⟩) (fun b68 => ?_)
    try dsimp only [Value.cells, List.flatMap_cons, List.flatMap_nil]
    refine DL.ready1 (i := 8) (by kernel_rfl) ?_
    refine D1.ef0 rfl rfl (Gd.g0 rfl) (Ef0.store (i := 2) rfl rfl rfl ag_47 rfl (by simp)) (fun w hw => ⟨(by exact fun _ => hw.tb), (by exact hw.k 7 rfl), trivial⟩) ?_
    try dsimp only [setR]
    try dsimp only [List.set, setRow2]
    refine DL.ready1 (i := 9) (by kernel_rfl) ?_
    refine D1.ef0 rfl rfl (Gd.g0 rfl) (Ef0.store (i := 3) rfl rfl rfl ag_48 rfl (by simp)) (fun w hw => ⟨(by exact fun _ => hw.tb), (by exact hw.k 7 rfl), trivial⟩) ?_
    try dsimp only [setR]
    try dsimp only [List.set, setRow2]
    refine DL.done (by kernel_rfl) ?_
    first | refine EX.then_normal ?_ | skip
    refine EX.perm [3, 2, 0, 1] 4 rfl rfl rfl ?_
    rotate_left
    refine D1.ef0 rfl rfl (Gd.g0 rfl) (Ef0.store (i := 1) rfl rfl rfl ag_47 rfl (by simp)) (fun w hw => ⟨(by exact fun _ => hw.tb), (by exact hw.k 6 rfl), trivial⟩) ?_
    try dsimp only [setR]
    try dsimp only [List.set, setRow2]
    refine DL.ready1 (i := 5) (by kernel_rfl) ?_
    refine D1.ef rfl rfl rfl (Gd.g0 rfl) (Ef.buildSlice rfl se_48 rfl rfl rfl rfl) (fun _ w hw => ⟨(by exact fun _ => hw.tb), (by exact hw.k 7 rfl), trivial⟩) (fun b68 => ?_)
    try dsimp only [Value.cells, List.flatMap_cons, List.flatMap_nil]
    refine DL.ready1 (i := 9) (by kernel_rfl) ?_
    refine D1.ef0 rfl rfl (Gd.g0 rfl) (Ef0.store (i := 3) rfl rfl rfl ag_48 rfl (by simp)) (fun w hw => ⟨(by exact fun _ => hw.tb), (by exact hw.k 7 rfl), trivial⟩) ?_
    try dsimp only [setR]
    try dsimp only [List.set, setRow2]
    refine DL.done (by kernel_rfl) ?_
    first | refine EX.then_normal ?_ | skip
    refine EX.perm [3, 2, 0, 1] 4 rfl rfl rfl ?_
    rotate_left
    refine D1.ef rfl rfl rfl (Gd.g0 rfl) (Ef.buildSlice rfl se_48 rfl rfl rfl rfl) (fun _ w hw => ⟨(by exact fun _ => hw.tb), (by exact hw.k 7 rfl), trivial⟩) (fun b68 => ?_)
    try dsimp only [Value.cells, List.flatMap_cons, List.flatMap_nil]
    refine DL.ready1 (i := 2) (by kernel_rfl) ?_
    refine D1.ef0 rfl rfl (Gd.g0 rfl) (hins 1 rfl rfl rfl rfl) (fun w hw => ⟨(by exact fun _ => hw.tb), (by exact hw.k 7 rfl), trivial⟩) ?_
    try dsimp only [setR]
    refine DL.take 3 rfl (by kernel_rfl) (by kernel_rfl) (by kernel_rfl) (by kernel_rfl) (by kernel_rfl) rfl rfl (Gd.g0 rfl) (heldN 3) (Yd.move rfl) ?_
    refine DL.ready1 (i := 8) (by kernel_rfl) ?_
    refine D1.ef0 rfl rfl (Gd.g0 rfl) (Ef0.store (i := 2) rfl rfl rfl ag_47 rfl (by simp)) (fun w hw => ⟨(by exact fun _ => hw.tb), (by exact hw.k 7 rfl), trivial⟩) ?_
    try dsimp only [setR]
    try dsimp only [List.set, setRow2]
    refine DL.ready1 (i := 9) (by kernel_rfl) ?_
    refine D1.ef0 rfl rfl (Gd.g0 rfl) (Ef0.store (i := 3) rfl rfl rfl ag_48 rfl (by simp)) (fun w hw => ⟨(by exact fun _ => hw.tb), (by exact hw.k 7 rfl), trivial⟩) ?_
    try dsimp only [setR]
    try dsimp only [List.set, setRow2]
    refine DL.done (by kernel_rfl) ?_
    first | refine EX.then_normal ?_ | skip
    refine EX.perm [3, 2, 0, 1] 4 rfl rfl rfl ?_
    rotate_left
    refine D1.ef rfl rfl rfl (Gd.g0 rfl) (Ef.buildSlice rfl se_48 rfl rfl rfl rfl) (fun _ w hw => ⟨(by exact fun _ => hw.tb), (by exact hw.k 6 rfl), trivial⟩) (fun b68 => ?_)
    try dsimp only [Value.cells, List.flatMap_cons, List.flatMap_nil]
    refine DL.ready1 (i := 0) (by kernel_rfl) ?_
    refine D1.ef rfl rfl rfl (Gd.g0 rfl) (Ef.makeSet (fun x : List Int => .agg (pR (sF x) (lF x)).toArray)) (fun _ w hw => ⟨(by exact fun _ => hw.tb), (by exact hw.k 7 rfl), trivial⟩) (fun b64 => ?_)
    try dsimp only [setR]
    refine DL.ready1 (i := 2) (by kernel_rfl) ?_
    refine D1.ef0 rfl rfl (Gd.g0 rfl) (hins 0 rfl rfl rfl rfl) (fun w hw => ⟨(by exact fun _ => hw.tb), (by exact hw.k 7 rfl), trivial⟩) ?_
    try dsimp only [setR]
    refine DL.take 3 rfl (by kernel_rfl) (by kernel_rfl) (by kernel_rfl) (by kernel_rfl) (by kernel_rfl) rfl rfl (Gd.g0 rfl) (heldN 3) (Yd.move rfl) ?_
    refine DL.ready1 (i := 8) (by kernel_rfl) ?_
    refine D1.ef0 rfl rfl (Gd.g0 rfl) (Ef0.store (i := 2) rfl rfl rfl ag_47 rfl (by simp)) (fun w hw => ⟨(by exact fun _ => hw.tb), (by exact hw.k 7 rfl), trivial⟩) ?_
    try dsimp only [setR]
    try dsimp only [List.set, setRow2]
    refine DL.ready1 (i := 9) (by kernel_rfl) ?_
    refine D1.ef0 rfl rfl (Gd.g0 rfl) (Ef0.store (i := 3) rfl rfl rfl ag_48 rfl (by simp)) (fun w hw => ⟨(by exact fun _ => hw.tb), (by exact hw.k 7 rfl), trivial⟩) ?_
    try dsimp only [setR]
    try dsimp only [List.set, setRow2]
    refine DL.done (by kernel_rfl) ?_
    first | refine EX.then_normal ?_ | skip
    refine EX.perm [3, 2, 1, 0] 4 rfl rfl rfl ?_
    rotate_left
    all_goals exact EX.cut (b64, b68, b12, b13) trivial (Sub.cons rfl rfl (Sub.cons rfl rfl (Sub.cons rfl rfl (Sub.cons rfl rfl (Sub.cons rfl rfl (Sub.cons rfl rfl (Sub.cons rfl rfl (Sub.cons rfl rfl Sub.nil)))))))) (fun w2 h => (h.recast (i := 2) (Rs.own cdP 44 (.slice (some ⟨b68, 0, none⟩) 1 1) [x0]) rfl (fun b hb => hb) (row_own cdP [x0] (hm16 x0) (by simp [maxLen]))).pick [0, 1, 2, 3, 4, 5, 6, 8, 9, 10, 11, 12, 13, 15] rfl rfl)
  obtain ⟨b64, b68, b12, b13⟩ := s
  have e0 : (initX ts).list = [x0] := by rw [← hx0]; rfl
  dsimp only
  repeat (refine CW.seq ?_)
  refine CW.region ?_
  refine SL.efD rfl rfl (Gd.g0 rfl) (Ef.alloc zl_3) (fun b14 => ?_)
  try dsimp only [Value.cells, List.flatMap_cons, List.flatMap_nil]
  refine SL.ef0 rfl (Gd.g0 rfl) (by first | exact Ef0.store (i := 0) rfl rfl rfl ag_3 rfl (by simp) | exact Ef0.store (i := 1) rfl rfl rfl ag_3 rfl (by simp) | exact Ef0.store (i := 2) rfl rfl rfl ag_3 rfl (by simp) | exact Ef0.store (i := 3) rfl rfl rfl ag_3 rfl (by simp) | exact Ef0.store (i := 4) rfl rfl rfl ag_3 rfl (by simp) | exact Ef0.store (i := 5) rfl rfl rfl ag_3 rfl (by simp) | exact Ef0.store (i := 6) rfl rfl rfl ag_3 rfl (by simp) | exact Ef0.store (i := 7) rfl rfl rfl ag_3 rfl (by simp) | exact Ef0.store (i := 8) rfl rfl rfl ag_3 rfl (by simp) | exact Ef0.store (i := 9) rfl rfl rfl ag_3 rfl (by simp) | exact Ef0.store (i := 10) rfl rfl rfl ag_3 rfl (by simp) | exact Ef0.store (i := 11) rfl rfl rfl ag_3 rfl (by simp) | exact Ef0.store (i := 12) rfl rfl rfl ag_3 rfl (by simp) | exact Ef0.store (i := 13) rfl rfl rfl ag_3 rfl (by simp) | exact Ef0.store (i := 14) rfl rfl rfl ag_3 rfl (by simp) | exact Ef0.store (i := 15) rfl rfl rfl ag_3 rfl (by simp) | exact Ef0.store (i := 16) rfl rfl rfl ag_3 rfl (by simp) | exact Ef0.store (i := 17) rfl rfl rfl ag_3 rfl (by simp) | exact Ef0.store (i := 18) rfl rfl rfl ag_3 rfl (by simp) | exact Ef0.store (i := 19) rfl rfl rfl ag_3 rfl (by simp)) ?_
  try dsimp only [setR, List.set, setRow2]
  first | refine SL.nil_then ?_ | refine SL.nil ?_
  have htick : ∀ (x : List Int) (set : Nat), GdX ts x → set < 256 → ∀ w2, Below w.heap.size w w2 → (Rs.row b26 [.slice ao ts.length cap, .slice (some ⟨bo, 0, none⟩) (List.range ts.length).length co] 41).ok w2 → (Rs.own cdN 3 (.slice (some ⟨bo, 0, none⟩) (List.range ts.length).length co) od).ok w2 →
      Calls Try.prog 19 #[.pointer (some ⟨b26, 0, none⟩), .agg (pR (sF x) (lF x)).toArray, .int .i64 (set : Nat)] w2 fun e w' => e = .returned (.tuple #[.agg (pR (sF (nxX ts x set)) (lF (nxX ts x set))).toArray, .int .i64 (tkR ts (lF x) set), .bool (misB ts (tkS ts (sF x) set) (tkL ts (lF x) set))]) ∧ Below w2.heap.size w2 w' := fun x set hx hs w2 hb h1 h2 => by
    have h := prog_tick (.slice ao ts.length cap) (.slice (some ⟨bo, 0, none⟩) (List.range ts.length).length co) ts od (sF x) (lF x) set b26 hs w2 (hv.keepb hb) h8 hod (rx_ord h2) ((Rs.row b26 [.slice ao ts.length cap, .slice (some ⟨bo, 0, none⟩) (List.range ts.length).length co] 41).inh w2 h1 b26 (by simp [Rs.row])) (row_cell rfl w2 h1) (row_cell rfl w2 h1) hx.s hx.l (fun j hj => by have := hok.T j hj; omega) (fun j hj => by have := hok.C j hj; omega)
    rw [← pR_mk (tkS ts (sF x) set) (tkL ts (lF x) set)] at h
    exact h
  have h256 : (2 : Nat) ^ ts.length ≤ 256 := Nat.le_trans (Nat.pow_le_pow_right (by decide) h8) (by decide)
  repeat (refine CW.seq ?_)
  refine CW.block ?_
  refine CW.loopM (σ := PS) (fun s => WI ts s.q ∧ s.a ≤ s.q.list.length ∧ worstX ts = outX ts (20001 - s.a) s.a s.q) (fun s => s.ms)
    (fun s => [(2, .pointer (some ⟨b2, 0, none⟩)), (3, .pointer (some ⟨b3, 0, none⟩)), (4, .pointer (some ⟨b4, 0, none⟩)), (5, .pointer (some ⟨b5, 0, none⟩)), (7, .pointer (some ⟨b7, 0, none⟩)), (11, .pointer (some ⟨b11, 0, none⟩)), (12, .pointer (some ⟨b12, 0, none⟩)), (13, .pointer (some ⟨b13, 0, none⟩)), (14, .pointer (some ⟨s.b14, 0, none⟩))])
    (fun s => Wd w [] (Rs.marks s.ms :: Rs.row s.b14 [.int .i64 (s.a : Int)] 3 :: HsW ts ao cap od bo co b2 b3 b4 b5 b7 b11 b12 b13 b26 b63 b64 s.q s.lb s.lc)) (fun s => 20001 - s.a) ⟨0, initX ts, b68, 1, b14, []⟩ ⟨WI.init hok, Nat.zero_le _, rfl⟩ rfl (Sub.cons rfl rfl (Sub.cons rfl rfl (Sub.cons rfl rfl (Sub.cons rfl rfl (Sub.cons rfl rfl (Sub.cons rfl rfl (Sub.cons rfl rfl (Sub.cons rfl rfl (Sub.cons rfl rfl Sub.nil))))))))) (fun w2 h => by
      dsimp only [HsW]
      rw [e0]
      exact h.pick [14, 0, 1, 2, 3, 4, 5, 6, 7, 8, 9, 10, 11, 12, 13] rfl rfl) ?_
  rintro ⟨a, q, lb, lc, b14, ms⟩ ⟨hWI, ha, hout⟩
  dsimp only [HsW] at hWI ha hout ⊢
  repeat (refine CW.seq ?_)
  refine CW.region ?_
  refine SL.val rfl rfl (Gd.g0 rfl) ((by first | exact Yd.load rfl ag_3 (Wd.cell (i := 0) rfl rfl) | exact Yd.load rfl ag_3 (Wd.cell (i := 1) rfl rfl) | exact Yd.load rfl ag_3 (Wd.cell (i := 2) rfl rfl) | exact Yd.load rfl ag_3 (Wd.cell (i := 3) rfl rfl) | exact Yd.load rfl ag_3 (Wd.cell (i := 4) rfl rfl) | exact Yd.load rfl ag_3 (Wd.cell (i := 5) rfl rfl) | exact Yd.load rfl ag_3 (Wd.cell (i := 6) rfl rfl) | exact Yd.load rfl ag_3 (Wd.cell (i := 7) rfl rfl) | exact Yd.load rfl ag_3 (Wd.cell (i := 8) rfl rfl) | exact Yd.load rfl ag_3 (Wd.cell (i := 9) rfl rfl) | exact Yd.load rfl ag_3 (Wd.cell (i := 10) rfl rfl) | exact Yd.load rfl ag_3 (Wd.cell (i := 11) rfl rfl) | exact Yd.load rfl ag_3 (Wd.cell (i := 12) rfl rfl) | exact Yd.load rfl ag_3 (Wd.cell (i := 13) rfl rfl) | exact Yd.load rfl ag_3 (Wd.cell (i := 14) rfl rfl) | exact Yd.load rfl ag_3 (Wd.cell (i := 15) rfl rfl) | exact Yd.load rfl ag_3 (Wd.cell (i := 16) rfl rfl) | exact Yd.load rfl ag_3 (Wd.cell (i := 17) rfl rfl) | exact Yd.load rfl ag_3 (Wd.cell (i := 18) rfl rfl) | exact Yd.load rfl ag_3 (Wd.cell (i := 19) rfl rfl))) ?_
  refine SL.val rfl rfl (Gd.g0 rfl) ((by first | exact Yd.load rfl ag_48 (Wd.cell (i := 0) rfl rfl) | exact Yd.load rfl ag_48 (Wd.cell (i := 1) rfl rfl) | exact Yd.load rfl ag_48 (Wd.cell (i := 2) rfl rfl) | exact Yd.load rfl ag_48 (Wd.cell (i := 3) rfl rfl) | exact Yd.load rfl ag_48 (Wd.cell (i := 4) rfl rfl) | exact Yd.load rfl ag_48 (Wd.cell (i := 5) rfl rfl) | exact Yd.load rfl ag_48 (Wd.cell (i := 6) rfl rfl) | exact Yd.load rfl ag_48 (Wd.cell (i := 7) rfl rfl) | exact Yd.load rfl ag_48 (Wd.cell (i := 8) rfl rfl) | exact Yd.load rfl ag_48 (Wd.cell (i := 9) rfl rfl) | exact Yd.load rfl ag_48 (Wd.cell (i := 10) rfl rfl) | exact Yd.load rfl ag_48 (Wd.cell (i := 11) rfl rfl) | exact Yd.load rfl ag_48 (Wd.cell (i := 12) rfl rfl) | exact Yd.load rfl ag_48 (Wd.cell (i := 13) rfl rfl) | exact Yd.load rfl ag_48 (Wd.cell (i := 14) rfl rfl) | exact Yd.load rfl ag_48 (Wd.cell (i := 15) rfl rfl) | exact Yd.load rfl ag_48 (Wd.cell (i := 16) rfl rfl) | exact Yd.load rfl ag_48 (Wd.cell (i := 17) rfl rfl) | exact Yd.load rfl ag_48 (Wd.cell (i := 18) rfl rfl) | exact Yd.load rfl ag_48 (Wd.cell (i := 19) rfl rfl))) ?_
  refine SL.val rfl rfl (Gd.g0 rfl) (Yd.lenSl rfl isl_48) ?_
  refine SL.val rfl rfl (Gd.g0 rfl) (Yd.lss rfl rfl) ?_
  first | refine SL.nil_then ?_ | refine SL.nil ?_
  repeat (refine CW.seq ?_)
  refine CW.condD rfl (fun han => ?_) (fun han => ?_)
  · refine CW.skip ?_
    repeat (first | refine EX.in_normal ?_)
    first | refine EX.then_normal ?_ | skip
    have halt : a < q.list.length := by omega
    obtain ⟨x, hx⟩ : ∃ x, q.list.getD a [] = x := ⟨_, rfl⟩
    have hxg : GdX ts x := by rw [← hx, List.getD_eq_getElem?_getD, List.getElem?_eq_getElem halt]; exact hWI.good _ (List.getElem_mem halt)
    repeat (refine CW.seq ?_)
    refine CW.block ?_
    repeat (refine CW.seq ?_)
    refine CW.draw [(Tb w [], []), ((Rs.row b7 [.pointer (some ⟨b26, 0, none⟩)] 38).ok, []), ((Rs.row b13 [.slice (some ⟨lb, 0, none⟩) q.list.length lc] 48).ok, []), ((Rs.row b14 [.int .i64 (a : Int)] 3).ok, []), ((Rs.own cdP 44 (.slice (some ⟨lb, 0, none⟩) q.list.length lc) q.list).ok, [])] mixed (fun w hw => hw.drew) (fun w hw => ⟨(by exact fun _ => hw.tb), (by first | exact fun _ => hw.tb | exact hw.k 0 rfl | exact hw.k 1 rfl | exact hw.k 2 rfl | exact hw.k 3 rfl | exact hw.k 4 rfl | exact hw.k 5 rfl | exact hw.k 6 rfl | exact hw.k 7 rfl | exact hw.k 8 rfl | exact hw.k 9 rfl | exact hw.k 10 rfl | exact hw.k 11 rfl | exact hw.k 12 rfl | exact hw.k 13 rfl | exact hw.k 14 rfl | exact hw.k 15 rfl | exact hw.k 16 rfl | exact hw.k 17 rfl | exact hw.k 18 rfl | exact hw.k 19 rfl | exact SG.gone (by kernel_rfl)), (by first | exact fun _ => hw.tb | exact hw.k 0 rfl | exact hw.k 1 rfl | exact hw.k 2 rfl | exact hw.k 3 rfl | exact hw.k 4 rfl | exact hw.k 5 rfl | exact hw.k 6 rfl | exact hw.k 7 rfl | exact hw.k 8 rfl | exact hw.k 9 rfl | exact hw.k 10 rfl | exact hw.k 11 rfl | exact hw.k 12 rfl | exact hw.k 13 rfl | exact hw.k 14 rfl | exact hw.k 15 rfl | exact hw.k 16 rfl | exact hw.k 17 rfl | exact hw.k 18 rfl | exact hw.k 19 rfl | exact SG.gone (by kernel_rfl)), (by first | exact fun _ => hw.tb | exact hw.k 0 rfl | exact hw.k 1 rfl | exact hw.k 2 rfl | exact hw.k 3 rfl | exact hw.k 4 rfl | exact hw.k 5 rfl | exact hw.k 6 rfl | exact hw.k 7 rfl | exact hw.k 8 rfl | exact hw.k 9 rfl | exact hw.k 10 rfl | exact hw.k 11 rfl | exact hw.k 12 rfl | exact hw.k 13 rfl | exact hw.k 14 rfl | exact hw.k 15 rfl | exact hw.k 16 rfl | exact hw.k 17 rfl | exact hw.k 18 rfl | exact hw.k 19 rfl | exact SG.gone (by kernel_rfl)), (by first | exact fun _ => hw.tb | exact hw.k 0 rfl | exact hw.k 1 rfl | exact hw.k 2 rfl | exact hw.k 3 rfl | exact hw.k 4 rfl | exact hw.k 5 rfl | exact hw.k 6 rfl | exact hw.k 7 rfl | exact hw.k 8 rfl | exact hw.k 9 rfl | exact hw.k 10 rfl | exact hw.k 11 rfl | exact hw.k 12 rfl | exact hw.k 13 rfl | exact hw.k 14 rfl | exact hw.k 15 rfl | exact hw.k 16 rfl | exact hw.k 17 rfl | exact hw.k 18 rfl | exact hw.k 19 rfl | exact SG.gone (by kernel_rfl)), trivial⟩) ?_
    first | refine DL.take 0 rfl (by kernel_rfl) (by kernel_rfl) (by kernel_rfl) (by kernel_rfl) (by kernel_rfl) rfl rfl (Gd.g0 rfl) (held 0 1 rfl (by kernel_rfl)) (Yd.load rfl ag_38 (row_cell rfl)) ?_ | refine DL.take 0 rfl (by kernel_rfl) (by kernel_rfl) (by kernel_rfl) (by kernel_rfl) (by kernel_rfl) rfl rfl (Gd.g0 rfl) (held 0 2 rfl (by kernel_rfl)) (Yd.load rfl ag_38 (row_cell rfl)) ?_ | refine DL.take 0 rfl (by kernel_rfl) (by kernel_rfl) (by kernel_rfl) (by kernel_rfl) (by kernel_rfl) rfl rfl (Gd.g0 rfl) (held 0 3 rfl (by kernel_rfl)) (Yd.load rfl ag_38 (row_cell rfl)) ?_ | refine DL.take 0 rfl (by kernel_rfl) (by kernel_rfl) (by kernel_rfl) (by kernel_rfl) (by kernel_rfl) rfl rfl (Gd.g0 rfl) (held 0 4 rfl (by kernel_rfl)) (Yd.load rfl ag_38 (row_cell rfl)) ?_ | refine DL.take 0 rfl (by kernel_rfl) (by kernel_rfl) (by kernel_rfl) (by kernel_rfl) (by kernel_rfl) rfl rfl (Gd.g0 rfl) (held 0 5 rfl (by kernel_rfl)) (Yd.load rfl ag_38 (row_cell rfl)) ?_
    first | refine DL.take 1 rfl (by kernel_rfl) (by kernel_rfl) (by kernel_rfl) (by kernel_rfl) (by kernel_rfl) rfl rfl (Gd.g0 rfl) (held 1 1 rfl (by kernel_rfl)) (Yd.load rfl ag_48 (row_cell rfl)) ?_ | refine DL.take 1 rfl (by kernel_rfl) (by kernel_rfl) (by kernel_rfl) (by kernel_rfl) (by kernel_rfl) rfl rfl (Gd.g0 rfl) (held 1 2 rfl (by kernel_rfl)) (Yd.load rfl ag_48 (row_cell rfl)) ?_ | refine DL.take 1 rfl (by kernel_rfl) (by kernel_rfl) (by kernel_rfl) (by kernel_rfl) (by kernel_rfl) rfl rfl (Gd.g0 rfl) (held 1 3 rfl (by kernel_rfl)) (Yd.load rfl ag_48 (row_cell rfl)) ?_ | refine DL.take 1 rfl (by kernel_rfl) (by kernel_rfl) (by kernel_rfl) (by kernel_rfl) (by kernel_rfl) rfl rfl (Gd.g0 rfl) (held 1 4 rfl (by kernel_rfl)) (Yd.load rfl ag_48 (row_cell rfl)) ?_ | refine DL.take 1 rfl (by kernel_rfl) (by kernel_rfl) (by kernel_rfl) (by kernel_rfl) (by kernel_rfl) rfl rfl (Gd.g0 rfl) (held 1 5 rfl (by kernel_rfl)) (Yd.load rfl ag_48 (row_cell rfl)) ?_
    first | refine DL.take 2 rfl (by kernel_rfl) (by kernel_rfl) (by kernel_rfl) (by kernel_rfl) (by kernel_rfl) rfl rfl (Gd.g0 rfl) (held 2 1 rfl (by kernel_rfl)) (Yd.load rfl ag_3 (row_cell rfl)) ?_ | refine DL.take 2 rfl (by kernel_rfl) (by kernel_rfl) (by kernel_rfl) (by kernel_rfl) (by kernel_rfl) rfl rfl (Gd.g0 rfl) (held 2 2 rfl (by kernel_rfl)) (Yd.load rfl ag_3 (row_cell rfl)) ?_ | refine DL.take 2 rfl (by kernel_rfl) (by kernel_rfl) (by kernel_rfl) (by kernel_rfl) (by kernel_rfl) rfl rfl (Gd.g0 rfl) (held 2 3 rfl (by kernel_rfl)) (Yd.load rfl ag_3 (row_cell rfl)) ?_ | refine DL.take 2 rfl (by kernel_rfl) (by kernel_rfl) (by kernel_rfl) (by kernel_rfl) (by kernel_rfl) rfl rfl (Gd.g0 rfl) (held 2 4 rfl (by kernel_rfl)) (Yd.load rfl ag_3 (row_cell rfl)) ?_ | refine DL.take 2 rfl (by kernel_rfl) (by kernel_rfl) (by kernel_rfl) (by kernel_rfl) (by kernel_rfl) rfl rfl (Gd.g0 rfl) (held 2 5 rfl (by kernel_rfl)) (Yd.load rfl ag_3 (row_cell rfl)) ?_
    refine DL.take 3 rfl (by kernel_rfl) (by kernel_rfl) (by kernel_rfl) (by kernel_rfl) (by kernel_rfl) rfl rfl (Gd.g0 rfl) (heldN 3) ((by first | exact Yd.indexSlN rfl rfl sl_48 (by omega) | exact Yd.indexSl rfl rfl sl_48 (by omega))) ?_
    refine DL.take 4 rfl (by kernel_rfl) (by kernel_rfl) (by kernel_rfl) (by kernel_rfl) (by kernel_rfl) rfl rfl (Gd.g0 rfl) (held 4 4 rfl (by kernel_rfl)) (Yd.loadO (k := a) (cs := pR (sF x) (lF x)) rfl ag_44 (fun _ h => h) halt rfl (by show pR (sF (q.list.getD a [])) (lF (q.list.getD a [])) = _; rw [hx]) (pR_len _ _)) ?_
    refine DL.ready1 (i := 5) (by kernel_rfl) ?_
    refine D1.callG (σ := Nat × Nat) (V := fun p => .func (.func 30) #[] [.pointer (some ⟨p.1, 0, none⟩), .pointer (some ⟨p.2, 0, none⟩)].toArray) rfl rfl rfl (Gd.g0 rfl) (Cll.func rfl cf_18) (fun w2 hw => (prog_releases b26 (sF x) (lF x) w2).mono fun e w' ⟨p, h1, h2⟩ => ⟨p, h1, hw.join h2⟩) (fun _ w hw => ⟨(by exact fun _ => hw.tb), (by first | exact fun _ => hw.tb | exact hw.k 0 rfl | exact hw.k 1 rfl | exact hw.k 2 rfl | exact hw.k 3 rfl | exact hw.k 4 rfl | exact hw.k 5 rfl | exact hw.k 6 rfl | exact hw.k 7 rfl | exact hw.k 8 rfl | exact hw.k 9 rfl | exact hw.k 10 rfl | exact hw.k 11 rfl | exact hw.k 12 rfl | exact hw.k 13 rfl | exact hw.k 14 rfl | exact hw.k 15 rfl | exact hw.k 16 rfl | exact hw.k 17 rfl | exact hw.k 18 rfl | exact hw.k 19 rfl | exact SG.gone (by kernel_rfl)), (by first | exact fun _ => hw.tb | exact hw.k 0 rfl | exact hw.k 1 rfl | exact hw.k 2 rfl | exact hw.k 3 rfl | exact hw.k 4 rfl | exact hw.k 5 rfl | exact hw.k 6 rfl | exact hw.k 7 rfl | exact hw.k 8 rfl | exact hw.k 9 rfl | exact hw.k 10 rfl | exact hw.k 11 rfl | exact hw.k 12 rfl | exact hw.k 13 rfl | exact hw.k 14 rfl | exact hw.k 15 rfl | exact hw.k 16 rfl | exact hw.k 17 rfl | exact hw.k 18 rfl | exact hw.k 19 rfl | exact SG.gone (by kernel_rfl)), (by first | exact fun _ => hw.tb | exact hw.k 0 rfl | exact hw.k 1 rfl | exact hw.k 2 rfl | exact hw.k 3 rfl | exact hw.k 4 rfl | exact hw.k 5 rfl | exact hw.k 6 rfl | exact hw.k 7 rfl | exact hw.k 8 rfl | exact hw.k 9 rfl | exact hw.k 10 rfl | exact hw.k 11 rfl | exact hw.k 12 rfl | exact hw.k 13 rfl | exact hw.k 14 rfl | exact hw.k 15 rfl | exact hw.k 16 rfl | exact hw.k 17 rfl | exact hw.k 18 rfl | exact hw.k 19 rfl | exact SG.gone (by kernel_rfl)), (by first | exact fun _ => hw.tb | exact hw.k 0 rfl | exact hw.k 1 rfl | exact hw.k 2 rfl | exact hw.k 3 rfl | exact hw.k 4 rfl | exact hw.k 5 rfl | exact hw.k 6 rfl | exact hw.k 7 rfl | exact hw.k 8 rfl | exact hw.k 9 rfl | exact hw.k 10 rfl | exact hw.k 11 rfl | exact hw.k 12 rfl | exact hw.k 13 rfl | exact hw.k 14 rfl | exact hw.k 15 rfl | exact hw.k 16 rfl | exact hw.k 17 rfl | exact hw.k 18 rfl | exact hw.k 19 rfl | exact SG.gone (by kernel_rfl)), trivial⟩) (fun p => ?_)
    refine DL.done (by kernel_rfl) ?_
    first | refine EX.then_normal ?_ | skip
    obtain ⟨be, bs⟩ := p
    dsimp only [List.cons_append, List.nil_append]
    repeat (refine CW.seq ?_)
    refine CW.block ?_
    refine CW.conseq (S' := Wd w [] (Rs.marks ms :: Rs.row bs (pR (sF x) (lF x)) 44 :: Rs.row be [.pointer (some ⟨b26, 0, none⟩)] 38 :: Rs.row b14 [.int .i64 (a : Int)] 3 :: HsW ts ao cap od bo co b2 b3 b4 b5 b7 b11 b12 b13 b26 b63 b64 q lb lc)) ?_ Sub.refl (fun w2 h => h.pick [2, 0, 1, 3, 4, 5, 6, 7, 8, 9, 10, 11, 12, 13, 14, 15, 16] rfl rfl)
    refine CW.range (σ := Qx × Nat × Nat) (τ := Int) (ps := [81]) (lb := [.pointer (some ⟨be, 0, none⟩), .pointer (some ⟨bs, 0, none⟩)]) rfl cf_30 (fun s => setsX ts x q (2 ^ ts.length) = .go s.1 ∧ WI ts s.1 ∧ a < s.1.list.length) (fun s => Rs.row b14 [.int .i64 (a : Int)] 3 :: HsW ts ao cap od bo co b2 b3 b4 b5 b7 b11 b12 b13 b26 b63 b64 s.1 s.2.1 s.2.2)
      (fun c => (c = 0 ∧ setsX ts x q (2 ^ ts.length) = .no) ∨ (c = 3 ∧ setsX ts x q (2 ^ ts.length) = .long)) (fun _ => .ret) (fun c => [Rs.row b5 [.int .i64 c] 26, Rs.row b4 [.bool false] 4, Rs.row b3 [.int .i64 0] 3, Rs.row b2 [.slice none 0 0] 25]) (fun l d fn tm LP hLP htm w1 hw1 => ?_) (fun d s hs => ?_) (fun d c hc => ?_)
    · refine (prog_iter (.slice ao ts.length cap) (.slice none 0 0) ts (sF x) (lF x) l be b26 bs w1 (hv.keepb hw1.below) h8 ((Rs.row be [.pointer (some ⟨b26, 0, none⟩)] 38).inh w1 (hw1.ok 3 _ rfl) be (by simp [Rs.row])) (Wd.cell (i := 3) rfl rfl w1 hw1) ((Rs.row b26 [.slice ao ts.length cap, .slice (some ⟨bo, 0, none⟩) (List.range ts.length).length co] 41).inh w1 (hw1.ok 13 _ rfl) b26 (by simp [Rs.row])) (Wd.cell (i := 13) rfl rfl w1 hw1) ((Rs.row bs (pR (sF x) (lF x)) 44).inh w1 (hw1.ok 2 _ rfl) bs (by simp [Rs.row])) (row_cells w1 (hw1.ok 2 _ rfl)) (fun j hj => ⟨(hxg.s j (by omega)).1, hxg.sT j hj⟩) (fun j hj => by have := hok.T j hj; omega)
        (fun k w' => ∃ s : Qx × Nat × Nat, (setsX ts x q k = .go s.1 ∧ WI ts s.1 ∧ a < s.1.list.length ∧ s.1.list.getD a [] = x) ∧ Wd w [] (LP .ready none :: Rs.marks (d :: ms) :: Rs.row bs (pR (sF x) (lF x)) 44 :: Rs.row be [.pointer (some ⟨b26, 0, none⟩)] 38 :: Rs.row b14 [.int .i64 (a : Int)] 3 :: HsW ts ao cap od bo co b2 b3 b4 b5 b7 b11 b12 b13 b26 b63 b64 s.1 s.2.1 s.2.2) w')
        (fun w' => ∃ c : Int, ((c = 0 ∧ setsX ts x q (2 ^ ts.length) = .no) ∨ (c = 3 ∧ setsX ts x q (2 ^ ts.length) = .long)) ∧ Wd w [] (LP .done (some .ret) :: Rs.marks (d :: ms) :: [Rs.row b5 [.int .i64 c] 26, Rs.row b4 [.bool false] 4, Rs.row b3 [.int .i64 0] 3, Rs.row b2 [.slice none 0 0] 25]) w')
        (fun w' hb => ⟨(q, lb, lc), ⟨rfl, hWI, halt, hx⟩, hw1.keep hb⟩) (fun k w' ⟨s, _, hw'⟩ => Wd.cell (i := 3) rfl rfl w' hw') (fun k w' ⟨s, _, hw'⟩ => Wd.cell (i := 13) rfl rfl w' hw') (fun k w' hk hmay ⟨⟨q', lb', lc'⟩, ⟨hset, hWI', hal, hax⟩, hw'⟩ => ?_) (fun k w' hk hmay ⟨s, ⟨h1, h2⟩, hw'⟩ => ⟨s, ⟨by rw [setsX_succ h1, oneX_not hmay], h2⟩, hw'⟩)).mono fun e w' ⟨v, he, h⟩ => ⟨v, he, h.imp (fun ⟨s, hs, hw'⟩ => ⟨s, ⟨hs.1, hs.2.1, hs.2.2.1⟩, hw'.pick [0, 1, 4, 5, 6, 7, 8, 9, 10, 11, 12, 13, 14, 15, 16, 17] rfl rfl⟩) (fun ⟨c, hc, hw'⟩ => ⟨c, hc, hw'⟩)⟩
      dsimp only at hset hWI' hal hax hw'
      have hk256 : k < 256 := by omega
      refine Yields.round hLP htm hw' (i := 0) rfl rfl (by decide) ?_
      dsimp only [zipK]
      repeat (refine CW.seq ?_)
      refine CW.region ?_
      refine SL.val rfl rfl (Gd.g0 rfl) (Yd.assign rfl) ?_
      first | refine SL.nil_then ?_ | refine SL.nil ?_
      refine EX.begin hLP (i := 0) rfl ?_
      dsimp only [setR, HsW]
      have hyg := GdX.next hok hxg k
      obtain ⟨y, hy⟩ : ∃ y, nxX ts x k = y := ⟨_, rfl⟩
      have htk := htick x k hxg hk256
      rw [hy] at hyg htk
      have hys : ∀ j, j < 8 → sF y j = tkS ts (sF x) k j := fun j hj => by rw [← hy]; exact sF_mk hj
      have hyl : ∀ j, j < 8 → lF y j = tkL ts (lF x) k j := fun j hj => by rw [← hy]; exact lF_mk hj
      repeat (refine CW.seq ?_)
      refine CW.block ?_
      refine CW.cut (σ := Nat) (fun _ => True) (fun b16 => [(2, .pointer (some ⟨b2, 0, none⟩)), (3, .pointer (some ⟨b3, 0, none⟩)), (4, .pointer (some ⟨b4, 0, none⟩)), (5, .pointer (some ⟨b5, 0, none⟩)), (7, .pointer (some ⟨b7, 0, none⟩)), (11, .pointer (some ⟨b11, 0, none⟩)), (12, .pointer (some ⟨b12, 0, none⟩)), (13, .pointer (some ⟨b13, 0, none⟩)), (14, .pointer (some ⟨b14, 0, none⟩)), (16, .pointer (some ⟨b16, 0, none⟩)), (17, .int .i64 (tkR ts (lF x) k)), (18, .bool (misB ts (tkS ts (sF x) k) (tkL ts (lF x) k)))])
        (fun b16 => Wd w [] (Rs.row b16 (pR (sF y) (lF y)) 44 :: LP .busy none :: Rs.marks (d :: ms) :: Rs.row bs (pR (sF x) (lF x)) 44 :: Rs.row be [.pointer (some ⟨b26, 0, none⟩)] 38 :: Rs.row b14 [.int .i64 (a : Int)] 3 :: HsW ts ao cap od bo co b2 b3 b4 b5 b7 b11 b12 b13 b26 b63 b64 q' lb' lc')) ?_ (fun b16 _ => ?_)
      · skip
        repeat (refine CW.seq ?_)
        refine CW.draw [(Tb w [], []), ((Rs.row b7 [.pointer (some ⟨b26, 0, none⟩)] 38).ok, []), ((Rs.row b13 [.slice (some ⟨lb', 0, none⟩) q'.list.length lc'] 48).ok, []), ((Rs.row b14 [.int .i64 (a : Int)] 3).ok, []), ((Rs.own cdP 44 (.slice (some ⟨lb', 0, none⟩) q'.list.length lc') q'.list).ok, [])] mixed (fun w hw => hw.drew) (fun w hw => ⟨(by exact fun _ => hw.tb), (by first | exact fun _ => hw.tb | exact hw.k 0 rfl | exact hw.k 1 rfl | exact hw.k 2 rfl | exact hw.k 3 rfl | exact hw.k 4 rfl | exact hw.k 5 rfl | exact hw.k 6 rfl | exact hw.k 7 rfl | exact hw.k 8 rfl | exact hw.k 9 rfl | exact hw.k 10 rfl | exact hw.k 11 rfl | exact hw.k 12 rfl | exact hw.k 13 rfl | exact hw.k 14 rfl | exact hw.k 15 rfl | exact hw.k 16 rfl | exact hw.k 17 rfl | exact hw.k 18 rfl | exact hw.k 19 rfl | exact SG.gone (by kernel_rfl)), (by first | exact fun _ => hw.tb | exact hw.k 0 rfl | exact hw.k 1 rfl | exact hw.k 2 rfl | exact hw.k 3 rfl | exact hw.k 4 rfl | exact hw.k 5 rfl | exact hw.k 6 rfl | exact hw.k 7 rfl | exact hw.k 8 rfl | exact hw.k 9 rfl | exact hw.k 10 rfl | exact hw.k 11 rfl | exact hw.k 12 rfl | exact hw.k 13 rfl | exact hw.k 14 rfl | exact hw.k 15 rfl | exact hw.k 16 rfl | exact hw.k 17 rfl | exact hw.k 18 rfl | exact hw.k 19 rfl | exact SG.gone (by kernel_rfl)), (by first | exact fun _ => hw.tb | exact hw.k 0 rfl | exact hw.k 1 rfl | exact hw.k 2 rfl | exact hw.k 3 rfl | exact hw.k 4 rfl | exact hw.k 5 rfl | exact hw.k 6 rfl | exact hw.k 7 rfl | exact hw.k 8 rfl | exact hw.k 9 rfl | exact hw.k 10 rfl | exact hw.k 11 rfl | exact hw.k 12 rfl | exact hw.k 13 rfl | exact hw.k 14 rfl | exact hw.k 15 rfl | exact hw.k 16 rfl | exact hw.k 17 rfl | exact hw.k 18 rfl | exact hw.k 19 rfl | exact SG.gone (by kernel_rfl)), (by first | exact fun _ => hw.tb | exact hw.k 0 rfl | exact hw.k 1 rfl | exact hw.k 2 rfl | exact hw.k 3 rfl | exact hw.k 4 rfl | exact hw.k 5 rfl | exact hw.k 6 rfl | exact hw.k 7 rfl | exact hw.k 8 rfl | exact hw.k 9 rfl | exact hw.k 10 rfl | exact hw.k 11 rfl | exact hw.k 12 rfl | exact hw.k 13 rfl | exact hw.k 14 rfl | exact hw.k 15 rfl | exact hw.k 16 rfl | exact hw.k 17 rfl | exact hw.k 18 rfl | exact hw.k 19 rfl | exact SG.gone (by kernel_rfl)), trivial⟩) ?_
        first | refine DL.take 0 rfl (by kernel_rfl) (by kernel_rfl) (by kernel_rfl) (by kernel_rfl) (by kernel_rfl) rfl rfl (Gd.g0 rfl) (held 0 1 rfl (by kernel_rfl)) (Yd.load rfl ag_38 (row_cell rfl)) ?_ | refine DL.take 0 rfl (by kernel_rfl) (by kernel_rfl) (by kernel_rfl) (by kernel_rfl) (by kernel_rfl) rfl rfl (Gd.g0 rfl) (held 0 2 rfl (by kernel_rfl)) (Yd.load rfl ag_38 (row_cell rfl)) ?_ | refine DL.take 0 rfl (by kernel_rfl) (by kernel_rfl) (by kernel_rfl) (by kernel_rfl) (by kernel_rfl) rfl rfl (Gd.g0 rfl) (held 0 3 rfl (by kernel_rfl)) (Yd.load rfl ag_38 (row_cell rfl)) ?_ | refine DL.take 0 rfl (by kernel_rfl) (by kernel_rfl) (by kernel_rfl) (by kernel_rfl) (by kernel_rfl) rfl rfl (Gd.g0 rfl) (held 0 4 rfl (by kernel_rfl)) (Yd.load rfl ag_38 (row_cell rfl)) ?_ | refine DL.take 0 rfl (by kernel_rfl) (by kernel_rfl) (by kernel_rfl) (by kernel_rfl) (by kernel_rfl) rfl rfl (Gd.g0 rfl) (held 0 5 rfl (by kernel_rfl)) (Yd.load rfl ag_38 (row_cell rfl)) ?_
        first | refine DL.take 1 rfl (by kernel_rfl) (by kernel_rfl) (by kernel_rfl) (by kernel_rfl) (by kernel_rfl) rfl rfl (Gd.g0 rfl) (held 1 1 rfl (by kernel_rfl)) (Yd.load rfl ag_48 (row_cell rfl)) ?_ | refine DL.take 1 rfl (by kernel_rfl) (by kernel_rfl) (by kernel_rfl) (by kernel_rfl) (by kernel_rfl) rfl rfl (Gd.g0 rfl) (held 1 2 rfl (by kernel_rfl)) (Yd.load rfl ag_48 (row_cell rfl)) ?_ | refine DL.take 1 rfl (by kernel_rfl) (by kernel_rfl) (by kernel_rfl) (by kernel_rfl) (by kernel_rfl) rfl rfl (Gd.g0 rfl) (held 1 3 rfl (by kernel_rfl)) (Yd.load rfl ag_48 (row_cell rfl)) ?_ | refine DL.take 1 rfl (by kernel_rfl) (by kernel_rfl) (by kernel_rfl) (by kernel_rfl) (by kernel_rfl) rfl rfl (Gd.g0 rfl) (held 1 4 rfl (by kernel_rfl)) (Yd.load rfl ag_48 (row_cell rfl)) ?_ | refine DL.take 1 rfl (by kernel_rfl) (by kernel_rfl) (by kernel_rfl) (by kernel_rfl) (by kernel_rfl) rfl rfl (Gd.g0 rfl) (held 1 5 rfl (by kernel_rfl)) (Yd.load rfl ag_48 (row_cell rfl)) ?_
        first | refine DL.take 2 rfl (by kernel_rfl) (by kernel_rfl) (by kernel_rfl) (by kernel_rfl) (by kernel_rfl) rfl rfl (Gd.g0 rfl) (held 2 1 rfl (by kernel_rfl)) (Yd.load rfl ag_3 (row_cell rfl)) ?_ | refine DL.take 2 rfl (by kernel_rfl) (by kernel_rfl) (by kernel_rfl) (by kernel_rfl) (by kernel_rfl) rfl rfl (Gd.g0 rfl) (held 2 2 rfl (by kernel_rfl)) (Yd.load rfl ag_3 (row_cell rfl)) ?_ | refine DL.take 2 rfl (by kernel_rfl) (by kernel_rfl) (by kernel_rfl) (by kernel_rfl) (by kernel_rfl) rfl rfl (Gd.g0 rfl) (held 2 3 rfl (by kernel_rfl)) (Yd.load rfl ag_3 (row_cell rfl)) ?_ | refine DL.take 2 rfl (by kernel_rfl) (by kernel_rfl) (by kernel_rfl) (by kernel_rfl) (by kernel_rfl) rfl rfl (Gd.g0 rfl) (held 2 4 rfl (by kernel_rfl)) (Yd.load rfl ag_3 (row_cell rfl)) ?_ | refine DL.take 2 rfl (by kernel_rfl) (by kernel_rfl) (by kernel_rfl) (by kernel_rfl) (by kernel_rfl) rfl rfl (Gd.g0 rfl) (held 2 5 rfl (by kernel_rfl)) (Yd.load rfl ag_3 (row_cell rfl)) ?_
        refine DL.take 3 rfl (by kernel_rfl) (by kernel_rfl) (by kernel_rfl) (by kernel_rfl) (by kernel_rfl) rfl rfl (Gd.g0 rfl) (heldN 3) ((by first | exact Yd.indexSlN rfl rfl sl_48 (by omega) | exact Yd.indexSl rfl rfl sl_48 (by omega))) ?_
        refine DL.take 4 rfl (by kernel_rfl) (by kernel_rfl) (by kernel_rfl) (by kernel_rfl) (by kernel_rfl) rfl rfl (Gd.g0 rfl) (held 4 4 rfl (by kernel_rfl)) (Yd.loadO (k := a) (cs := pR (sF x) (lF x)) rfl ag_44 (fun _ h => h) hal rfl (by show pR (sF (q'.list.getD a [])) (lF (q'.list.getD a [])) = _; rw [hax]) (pR_len _ _)) ?_
        refine DL.take 5 rfl (by kernel_rfl) (by kernel_rfl) (by kernel_rfl) (by kernel_rfl) (by kernel_rfl) rfl rfl (Gd.g0 rfl) (heldN 5) (Yd.move rfl) ?_
        refine DL.ready (is := [6, 11]) (by kernel_rfl) (by simp) (all1 ?_ (all1 ?_ all0))
        refine D1.callB rfl rfl rfl (Gd.g0 rfl) (Cll.func rfl cf_19) (fun w hw => (by first | exact htk w hw.below (hw.ok 13 _ rfl) (hw.ok 11 _ rfl) | exact htk w hw.below (hw.ok 14 _ rfl) (hw.ok 12 _ rfl))) (fun w hw => ⟨(by exact fun _ => hw.tb), (by first | exact fun _ => hw.tb | exact hw.k 0 rfl | exact hw.k 1 rfl | exact hw.k 2 rfl | exact hw.k 3 rfl | exact hw.k 4 rfl | exact hw.k 5 rfl | exact hw.k 6 rfl | exact hw.k 7 rfl | exact hw.k 8 rfl | exact hw.k 9 rfl | exact hw.k 10 rfl | exact hw.k 11 rfl | exact hw.k 12 rfl | exact hw.k 13 rfl | exact hw.k 14 rfl | exact hw.k 15 rfl | exact hw.k 16 rfl | exact hw.k 17 rfl | exact hw.k 18 rfl | exact hw.k 19 rfl | exact SG.gone (by kernel_rfl)), (by first | exact fun _ => hw.tb | exact hw.k 0 rfl | exact hw.k 1 rfl | exact hw.k 2 rfl | exact hw.k 3 rfl | exact hw.k 4 rfl | exact hw.k 5 rfl | exact hw.k 6 rfl | exact hw.k 7 rfl | exact hw.k 8 rfl | exact hw.k 9 rfl | exact hw.k 10 rfl | exact hw.k 11 rfl | exact hw.k 12 rfl | exact hw.k 13 rfl | exact hw.k 14 rfl | exact hw.k 15 rfl | exact hw.k 16 rfl | exact hw.k 17 rfl | exact hw.k 18 rfl | exact hw.k 19 rfl | exact SG.gone (by kernel_rfl)), (by first | exact fun _ => hw.tb | exact hw.k 0 rfl | exact hw.k 1 rfl | exact hw.k 2 rfl | exact hw.k 3 rfl | exact hw.k 4 rfl | exact hw.k 5 rfl | exact hw.k 6 rfl | exact hw.k 7 rfl | exact hw.k 8 rfl | exact hw.k 9 rfl | exact hw.k 10 rfl | exact hw.k 11 rfl | exact hw.k 12 rfl | exact hw.k 13 rfl | exact hw.k 14 rfl | exact hw.k 15 rfl | exact hw.k 16 rfl | exact hw.k 17 rfl | exact hw.k 18 rfl | exact hw.k 19 rfl | exact SG.gone (by kernel_rfl)), (by first | exact fun _ => hw.tb | exact hw.k 0 rfl | exact hw.k 1 rfl | exact hw.k 2 rfl | exact hw.k 3 rfl | exact hw.k 4 rfl | exact hw.k 5 rfl | exact hw.k 6 rfl | exact hw.k 7 rfl | exact hw.k 8 rfl | exact hw.k 9 rfl | exact hw.k 10 rfl | exact hw.k 11 rfl | exact hw.k 12 rfl | exact hw.k 13 rfl | exact hw.k 14 rfl | exact hw.k 15 rfl | exact hw.k 16 rfl | exact hw.k 17 rfl | exact hw.k 18 rfl | exact hw.k 19 rfl | exact SG.gone (by kernel_rfl)), trivial⟩) ?_
        refine DL.take 7 rfl (by kernel_rfl) (by kernel_rfl) (by kernel_rfl) (by kernel_rfl) (by kernel_rfl) rfl rfl (Gd.g0 rfl) (heldN 7) (Yd.move rfl) ?_
        refine DL.take 8 rfl (by kernel_rfl) (by kernel_rfl) (by kernel_rfl) (by kernel_rfl) (by kernel_rfl) rfl rfl (Gd.g0 rfl) (heldN 8) (Yd.extract rfl rfl) ?_
        refine DL.take 9 rfl (by kernel_rfl) (by kernel_rfl) (by kernel_rfl) (by kernel_rfl) (by kernel_rfl) rfl rfl (Gd.g0 rfl) (heldN 9) (Yd.extract rfl rfl) ?_
        refine DL.take 10 rfl (by kernel_rfl) (by kernel_rfl) (by kernel_rfl) (by kernel_rfl) (by kernel_rfl) rfl rfl (Gd.g0 rfl) (heldN 10) (Yd.extract rfl rfl) ?_
        refine DL.ready1 (i := 11) (by kernel_rfl) ?_
        refine D1.ef rfl rfl rfl (Gd.g0 rfl) (Ef.alloc zl_44) (fun _ w hw => ⟨(by exact fun _ => hw.tb), (by first | exact fun _ => hw.tb | exact hw.k 0 rfl | exact hw.k 1 rfl | exact hw.k 2 rfl | exact hw.k 3 rfl | exact hw.k 4 rfl | exact hw.k 5 rfl | exact hw.k 6 rfl | exact hw.k 7 rfl | exact hw.k 8 rfl | exact hw.k 9 rfl | exact hw.k 10 rfl | exact hw.k 11 rfl | exact hw.k 12 rfl | exact hw.k 13 rfl | exact hw.k 14 rfl | exact hw.k 15 rfl | exact hw.k 16 rfl | exact hw.k 17 rfl | exact hw.k 18 rfl | exact hw.k 19 rfl | exact SG.gone (by kernel_rfl)), (by first | exact fun _ => hw.tb | exact hw.k 0 rfl | exact hw.k 1 rfl | exact hw.k 2 rfl | exact hw.k 3 rfl | exact hw.k 4 rfl | exact hw.k 5 rfl | exact hw.k 6 rfl | exact hw.k 7 rfl | exact hw.k 8 rfl | exact hw.k 9 rfl | exact hw.k 10 rfl | exact hw.k 11 rfl | exact hw.k 12 rfl | exact hw.k 13 rfl | exact hw.k 14 rfl | exact hw.k 15 rfl | exact hw.k 16 rfl | exact hw.k 17 rfl | exact hw.k 18 rfl | exact hw.k 19 rfl | exact SG.gone (by kernel_rfl)), (by first | exact fun _ => hw.tb | exact hw.k 0 rfl | exact hw.k 1 rfl | exact hw.k 2 rfl | exact hw.k 3 rfl | exact hw.k 4 rfl | exact hw.k 5 rfl | exact hw.k 6 rfl | exact hw.k 7 rfl | exact hw.k 8 rfl | exact hw.k 9 rfl | exact hw.k 10 rfl | exact hw.k 11 rfl | exact hw.k 12 rfl | exact hw.k 13 rfl | exact hw.k 14 rfl | exact hw.k 15 rfl | exact hw.k 16 rfl | exact hw.k 17 rfl | exact hw.k 18 rfl | exact hw.k 19 rfl | exact SG.gone (by kernel_rfl)), (by first | exact fun _ => hw.tb | exact hw.k 0 rfl | exact hw.k 1 rfl | exact hw.k 2 rfl | exact hw.k 3 rfl | exact hw.k 4 rfl | exact hw.k 5 rfl | exact hw.k 6 rfl | exact hw.k 7 rfl | exact hw.k 8 rfl | exact hw.k 9 rfl | exact hw.k 10 rfl | exact hw.k 11 rfl | exact hw.k 12 rfl | exact hw.k 13 rfl | exact hw.k 14 rfl | exact hw.k 15 rfl | exact hw.k 16 rfl | exact hw.k 17 rfl | exact hw.k 18 rfl | exact hw.k 19 rfl | exact SG.gone (by kernel_rfl)), trivial⟩) (fun b16 => ?_)
        try dsimp only [Value.cells, List.flatMap_cons, List.flatMap_nil]
        refine DL.ready1 (i := 12) (by kernel_rfl) ?_
        refine D1.ef0 rfl rfl (Gd.g0 rfl) (Ef0.storeA (i := 0) rfl rfl (pR_one _ _) ag_44 (pR_len _ _) rfl (by rw [pR_len]; simp)) (fun w hw => ⟨(by exact fun _ => hw.tb), (by first | exact fun _ => hw.tb | exact hw.k 0 rfl | exact hw.k 1 rfl | exact hw.k 2 rfl | exact hw.k 3 rfl | exact hw.k 4 rfl | exact hw.k 5 rfl | exact hw.k 6 rfl | exact hw.k 7 rfl | exact hw.k 8 rfl | exact hw.k 9 rfl | exact hw.k 10 rfl | exact hw.k 11 rfl | exact hw.k 12 rfl | exact hw.k 13 rfl | exact hw.k 14 rfl | exact hw.k 15 rfl | exact hw.k 16 rfl | exact hw.k 17 rfl | exact hw.k 18 rfl | exact hw.k 19 rfl | exact SG.gone (by kernel_rfl)), (by first | exact fun _ => hw.tb | exact hw.k 0 rfl | exact hw.k 1 rfl | exact hw.k 2 rfl | exact hw.k 3 rfl | exact hw.k 4 rfl | exact hw.k 5 rfl | exact hw.k 6 rfl | exact hw.k 7 rfl | exact hw.k 8 rfl | exact hw.k 9 rfl | exact hw.k 10 rfl | exact hw.k 11 rfl | exact hw.k 12 rfl | exact hw.k 13 rfl | exact hw.k 14 rfl | exact hw.k 15 rfl | exact hw.k 16 rfl | exact hw.k 17 rfl | exact hw.k 18 rfl | exact hw.k 19 rfl | exact SG.gone (by kernel_rfl)), (by first | exact fun _ => hw.tb | exact hw.k 0 rfl | exact hw.k 1 rfl | exact hw.k 2 rfl | exact hw.k 3 rfl | exact hw.k 4 rfl | exact hw.k 5 rfl | exact hw.k 6 rfl | exact hw.k 7 rfl | exact hw.k 8 rfl | exact hw.k 9 rfl | exact hw.k 10 rfl | exact hw.k 11 rfl | exact hw.k 12 rfl | exact hw.k 13 rfl | exact hw.k 14 rfl | exact hw.k 15 rfl | exact hw.k 16 rfl | exact hw.k 17 rfl | exact hw.k 18 rfl | exact hw.k 19 rfl | exact SG.gone (by kernel_rfl)), (by first | exact fun _ => hw.tb | exact hw.k 0 rfl | exact hw.k 1 rfl | exact hw.k 2 rfl | exact hw.k 3 rfl | exact hw.k 4 rfl | exact hw.k 5 rfl | exact hw.k 6 rfl | exact hw.k 7 rfl | exact hw.k 8 rfl | exact hw.k 9 rfl | exact hw.k 10 rfl | exact hw.k 11 rfl | exact hw.k 12 rfl | exact hw.k 13 rfl | exact hw.k 14 rfl | exact hw.k 15 rfl | exact hw.k 16 rfl | exact hw.k 17 rfl | exact hw.k 18 rfl | exact hw.k 19 rfl | exact SG.gone (by kernel_rfl)), trivial⟩) ?_
        try dsimp only [setR]
        rw [setRow2_all (by rw [pR_len]; rfl)]
        refine DL.take 13 rfl (by kernel_rfl) (by kernel_rfl) (by kernel_rfl) (by kernel_rfl) (by kernel_rfl) rfl rfl (Gd.g0 rfl) (heldN 13) (Yd.assign rfl) ?_
        refine DL.take 14 rfl (by kernel_rfl) (by kernel_rfl) (by kernel_rfl) (by kernel_rfl) (by kernel_rfl) rfl rfl (Gd.g0 rfl) (heldN 14) (Yd.assign rfl) ?_
        refine DL.done (by kernel_rfl) ?_
        first | refine EX.then_normal ?_ | skip
        rotate_left
        refine D1.ef rfl rfl rfl (Gd.g0 rfl) (Ef.alloc zl_44) (fun _ w hw => ⟨(by exact fun _ => hw.tb), (by first | exact fun _ => hw.tb | exact hw.k 0 rfl | exact hw.k 1 rfl | exact hw.k 2 rfl | exact hw.k 3 rfl | exact hw.k 4 rfl | exact hw.k 5 rfl | exact hw.k 6 rfl | exact hw.k 7 rfl | exact hw.k 8 rfl | exact hw.k 9 rfl | exact hw.k 10 rfl | exact hw.k 11 rfl | exact hw.k 12 rfl | exact hw.k 13 rfl | exact hw.k 14 rfl | exact hw.k 15 rfl | exact hw.k 16 rfl | exact hw.k 17 rfl | exact hw.k 18 rfl | exact hw.k 19 rfl | exact SG.gone (by kernel_rfl)), (by first | exact fun _ => hw.tb | exact hw.k 0 rfl | exact hw.k 1 rfl | exact hw.k 2 rfl | exact hw.k 3 rfl | exact hw.k 4 rfl | exact hw.k 5 rfl | exact hw.k 6 rfl | exact hw.k 7 rfl | exact hw.k 8 rfl | exact hw.k 9 rfl | exact hw.k 10 rfl | exact hw.k 11 rfl | exact hw.k 12 rfl | exact hw.k 13 rfl | exact hw.k 14 rfl | exact hw.k 15 rfl | exact hw.k 16 rfl | exact hw.k 17 rfl | exact hw.k 18 rfl | exact hw.k 19 rfl | exact SG.gone (by kernel_rfl)), (by first | exact fun _ => hw.tb | exact hw.k 0 rfl | exact hw.k 1 rfl | exact hw.k 2 rfl | exact hw.k 3 rfl | exact hw.k 4 rfl | exact hw.k 5 rfl | exact hw.k 6 rfl | exact hw.k 7 rfl | exact hw.k 8 rfl | exact hw.k 9 rfl | exact hw.k 10 rfl | exact hw.k 11 rfl | exact hw.k 12 rfl | exact hw.k 13 rfl | exact hw.k 14 rfl | exact hw.k 15 rfl | exact hw.k 16 rfl | exact hw.k 17 rfl | exact hw.k 18 rfl | exact hw.k 19 rfl | exact SG.gone (by kernel_rfl)), (by first | exact fun _ => hw.tb | exact hw.k 0 rfl | exact hw.k 1 rfl | exact hw.k 2 rfl | exact hw.k 3 rfl | exact hw.k 4 rfl | exact hw.k 5 rfl | exact hw.k 6 rfl | exact hw.k 7 rfl | exact hw.k 8 rfl | exact hw.k 9 rfl | exact hw.k 10 rfl | exact hw.k 11 rfl | exact hw.k 12 rfl | exact hw.k 13 rfl | exact hw.k 14 rfl | exact hw.k 15 rfl | exact hw.k 16 rfl | exact hw.k 17 rfl | exact hw.k 18 rfl | exact hw.k 19 rfl | exact SG.gone (by kernel_rfl)), trivial⟩) (fun b16 => ?_)
        try dsimp only [Value.cells, List.flatMap_cons, List.flatMap_nil]
        refine DL.ready1 (i := 6) (by kernel_rfl) ?_
        refine D1.callB rfl rfl rfl (Gd.g0 rfl) (Cll.func rfl cf_19) (fun w hw => (by first | exact htk w hw.below (hw.ok 13 _ rfl) (hw.ok 11 _ rfl) | exact htk w hw.below (hw.ok 14 _ rfl) (hw.ok 12 _ rfl))) (fun w hw => ⟨(by exact fun _ => hw.tb), (by first | exact fun _ => hw.tb | exact hw.k 0 rfl | exact hw.k 1 rfl | exact hw.k 2 rfl | exact hw.k 3 rfl | exact hw.k 4 rfl | exact hw.k 5 rfl | exact hw.k 6 rfl | exact hw.k 7 rfl | exact hw.k 8 rfl | exact hw.k 9 rfl | exact hw.k 10 rfl | exact hw.k 11 rfl | exact hw.k 12 rfl | exact hw.k 13 rfl | exact hw.k 14 rfl | exact hw.k 15 rfl | exact hw.k 16 rfl | exact hw.k 17 rfl | exact hw.k 18 rfl | exact hw.k 19 rfl | exact SG.gone (by kernel_rfl)), (by first | exact fun _ => hw.tb | exact hw.k 0 rfl | exact hw.k 1 rfl | exact hw.k 2 rfl | exact hw.k 3 rfl | exact hw.k 4 rfl | exact hw.k 5 rfl | exact hw.k 6 rfl | exact hw.k 7 rfl | exact hw.k 8 rfl | exact hw.k 9 rfl | exact hw.k 10 rfl | exact hw.k 11 rfl | exact hw.k 12 rfl | exact hw.k 13 rfl | exact hw.k 14 rfl | exact hw.k 15 rfl | exact hw.k 16 rfl | exact hw.k 17 rfl | exact hw.k 18 rfl | exact hw.k 19 rfl | exact SG.gone (by kernel_rfl)), (by first | exact fun _ => hw.tb | exact hw.k 0 rfl | exact hw.k 1 rfl | exact hw.k 2 rfl | exact hw.k 3 rfl | exact hw.k 4 rfl | exact hw.k 5 rfl | exact hw.k 6 rfl | exact hw.k 7 rfl | exact hw.k 8 rfl | exact hw.k 9 rfl | exact hw.k 10 rfl | exact hw.k 11 rfl | exact hw.k 12 rfl | exact hw.k 13 rfl | exact hw.k 14 rfl | exact hw.k 15 rfl | exact hw.k 16 rfl | exact hw.k 17 rfl | exact hw.k 18 rfl | exact hw.k 19 rfl | exact SG.gone (by kernel_rfl)), (by first | exact fun _ => hw.tb | exact hw.k 0 rfl | exact hw.k 1 rfl | exact hw.k 2 rfl | exact hw.k 3 rfl | exact hw.k 4 rfl | exact hw.k 5 rfl | exact hw.k 6 rfl | exact hw.k 7 rfl | exact hw.k 8 rfl | exact hw.k 9 rfl | exact hw.k 10 rfl | exact hw.k 11 rfl | exact hw.k 12 rfl | exact hw.k 13 rfl | exact hw.k 14 rfl | exact hw.k 15 rfl | exact hw.k 16 rfl | exact hw.k 17 rfl | exact hw.k 18 rfl | exact hw.k 19 rfl | exact SG.gone (by kernel_rfl)), trivial⟩) ?_
        refine DL.take 7 rfl (by kernel_rfl) (by kernel_rfl) (by kernel_rfl) (by kernel_rfl) (by kernel_rfl) rfl rfl (Gd.g0 rfl) (heldN 7) (Yd.move rfl) ?_
        refine DL.take 8 rfl (by kernel_rfl) (by kernel_rfl) (by kernel_rfl) (by kernel_rfl) (by kernel_rfl) rfl rfl (Gd.g0 rfl) (heldN 8) (Yd.extract rfl rfl) ?_
        refine DL.take 9 rfl (by kernel_rfl) (by kernel_rfl) (by kernel_rfl) (by kernel_rfl) (by kernel_rfl) rfl rfl (Gd.g0 rfl) (heldN 9) (Yd.extract rfl rfl) ?_
        refine DL.take 10 rfl (by kernel_rfl) (by kernel_rfl) (by kernel_rfl) (by kernel_rfl) (by kernel_rfl) rfl rfl (Gd.g0 rfl) (heldN 10) (Yd.extract rfl rfl) ?_
        refine DL.ready1 (i := 12) (by kernel_rfl) ?_
        refine D1.ef0 rfl rfl (Gd.g0 rfl) (Ef0.storeA (i := 0) rfl rfl (pR_one _ _) ag_44 (pR_len _ _) rfl (by rw [pR_len]; simp)) (fun w hw => ⟨(by exact fun _ => hw.tb), (by first | exact fun _ => hw.tb | exact hw.k 0 rfl | exact hw.k 1 rfl | exact hw.k 2 rfl | exact hw.k 3 rfl | exact hw.k 4 rfl | exact hw.k 5 rfl | exact hw.k 6 rfl | exact hw.k 7 rfl | exact hw.k 8 rfl | exact hw.k 9 rfl | exact hw.k 10 rfl | exact hw.k 11 rfl | exact hw.k 12 rfl | exact hw.k 13 rfl | exact hw.k 14 rfl | exact hw.k 15 rfl | exact hw.k 16 rfl | exact hw.k 17 rfl | exact hw.k 18 rfl | exact hw.k 19 rfl | exact SG.gone (by kernel_rfl)), (by first | exact fun _ => hw.tb | exact hw.k 0 rfl | exact hw.k 1 rfl | exact hw.k 2 rfl | exact hw.k 3 rfl | exact hw.k 4 rfl | exact hw.k 5 rfl | exact hw.k 6 rfl | exact hw.k 7 rfl | exact hw.k 8 rfl | exact hw.k 9 rfl | exact hw.k 10 rfl | exact hw.k 11 rfl | exact hw.k 12 rfl | exact hw.k 13 rfl | exact hw.k 14 rfl | exact hw.k 15 rfl | exact hw.k 16 rfl | exact hw.k 17 rfl | exact hw.k 18 rfl | exact hw.k 19 rfl | exact SG.gone (by kernel_rfl)), (by first | exact fun _ => hw.tb | exact hw.k 0 rfl | exact hw.k 1 rfl | exact hw.k 2 rfl | exact hw.k 3 rfl | exact hw.k 4 rfl | exact hw.k 5 rfl | exact hw.k 6 rfl | exact hw.k 7 rfl | exact hw.k 8 rfl | exact hw.k 9 rfl | exact hw.k 10 rfl | exact hw.k 11 rfl | exact hw.k 12 rfl | exact hw.k 13 rfl | exact hw.k 14 rfl | exact hw.k 15 rfl | exact hw.k 16 rfl | exact hw.k 17 rfl | exact hw.k 18 rfl | exact hw.k 19 rfl | exact SG.gone (by kernel_rfl)), (by first | exact fun _ => hw.tb | exact hw.k 0 rfl | exact hw.k 1 rfl | exact hw.k 2 rfl | exact hw.k 3 rfl | exact hw.k 4 rfl | exact hw.k 5 rfl | exact hw.k 6 rfl | exact hw.k 7 rfl | exact hw.k 8 rfl | exact hw.k 9 rfl | exact hw.k 10 rfl | exact hw.k 11 rfl | exact hw.k 12 rfl | exact hw.k 13 rfl | exact hw.k 14 rfl | exact hw.k 15 rfl | exact hw.k 16 rfl | exact hw.k 17 rfl | exact hw.k 18 rfl | exact hw.k 19 rfl | exact SG.gone (by kernel_rfl)), trivial⟩) ?_
        try dsimp only [setR]
        rw [setRow2_all (by rw [pR_len]; rfl)]
        refine DL.take 13 rfl (by kernel_rfl) (by kernel_rfl) (by kernel_rfl) (by kernel_rfl) (by kernel_rfl) rfl rfl (Gd.g0 rfl) (heldN 13) (Yd.assign rfl) ?_
        refine DL.take 14 rfl (by kernel_rfl) (by kernel_rfl) (by kernel_rfl) (by kernel_rfl) (by kernel_rfl) rfl rfl (Gd.g0 rfl) (heldN 14) (Yd.assign rfl) ?_
        refine DL.done (by kernel_rfl) ?_
        first | refine EX.then_normal ?_ | skip
        rotate_left
        all_goals exact EX.cut b16 trivial (Sub.cons rfl rfl (Sub.cons rfl rfl (Sub.cons rfl rfl (Sub.cons rfl rfl (Sub.cons rfl rfl (Sub.cons rfl rfl (Sub.cons rfl rfl (Sub.cons rfl rfl (Sub.cons rfl rfl (Sub.cons rfl rfl (Sub.cons rfl rfl (Sub.cons rfl rfl Sub.nil)))))))))))) (fun w2 h => h)
      dsimp only [HsW]
      repeat (refine CW.seq ?_)
      refine CW.region ?_
      refine SL.val rfl rfl (Gd.g0 rfl) (Yd.move rfl) ?_
      first | refine SL.nil_then ?_ | refine SL.nil ?_
      repeat (refine CW.seq ?_)
      refine CW.cond rfl (fun hmis => ?_) (fun hmis => ?_)
      · repeat (refine CW.seq ?_)
        refine CW.region ?_
        refine SL.ef0 rfl (Gd.g0 rfl) (by first | exact Ef0.store (i := 0) rfl rfl rfl ag_25 rfl (by simp) | exact Ef0.store (i := 1) rfl rfl rfl ag_25 rfl (by simp) | exact Ef0.store (i := 2) rfl rfl rfl ag_25 rfl (by simp) | exact Ef0.store (i := 3) rfl rfl rfl ag_25 rfl (by simp) | exact Ef0.store (i := 4) rfl rfl rfl ag_25 rfl (by simp) | exact Ef0.store (i := 5) rfl rfl rfl ag_25 rfl (by simp) | exact Ef0.store (i := 6) rfl rfl rfl ag_25 rfl (by simp) | exact Ef0.store (i := 7) rfl rfl rfl ag_25 rfl (by simp) | exact Ef0.store (i := 8) rfl rfl rfl ag_25 rfl (by simp) | exact Ef0.store (i := 9) rfl rfl rfl ag_25 rfl (by simp) | exact Ef0.store (i := 10) rfl rfl rfl ag_25 rfl (by simp) | exact Ef0.store (i := 11) rfl rfl rfl ag_25 rfl (by simp) | exact Ef0.store (i := 12) rfl rfl rfl ag_25 rfl (by simp) | exact Ef0.store (i := 13) rfl rfl rfl ag_25 rfl (by simp) | exact Ef0.store (i := 14) rfl rfl rfl ag_25 rfl (by simp) | exact Ef0.store (i := 15) rfl rfl rfl ag_25 rfl (by simp) | exact Ef0.store (i := 16) rfl rfl rfl ag_25 rfl (by simp) | exact Ef0.store (i := 17) rfl rfl rfl ag_25 rfl (by simp) | exact Ef0.store (i := 18) rfl rfl rfl ag_25 rfl (by simp) | exact Ef0.store (i := 19) rfl rfl rfl ag_25 rfl (by simp)) ?_
        try dsimp only [setR, List.set, setRow2]
        refine SL.ef0 rfl (Gd.g0 rfl) (by first | exact Ef0.store (i := 0) rfl rfl rfl ag_3 rfl (by simp) | exact Ef0.store (i := 1) rfl rfl rfl ag_3 rfl (by simp) | exact Ef0.store (i := 2) rfl rfl rfl ag_3 rfl (by simp) | exact Ef0.store (i := 3) rfl rfl rfl ag_3 rfl (by simp) | exact Ef0.store (i := 4) rfl rfl rfl ag_3 rfl (by simp) | exact Ef0.store (i := 5) rfl rfl rfl ag_3 rfl (by simp) | exact Ef0.store (i := 6) rfl rfl rfl ag_3 rfl (by simp) | exact Ef0.store (i := 7) rfl rfl rfl ag_3 rfl (by simp) | exact Ef0.store (i := 8) rfl rfl rfl ag_3 rfl (by simp) | exact Ef0.store (i := 9) rfl rfl rfl ag_3 rfl (by simp) | exact Ef0.store (i := 10) rfl rfl rfl ag_3 rfl (by simp) | exact Ef0.store (i := 11) rfl rfl rfl ag_3 rfl (by simp) | exact Ef0.store (i := 12) rfl rfl rfl ag_3 rfl (by simp) | exact Ef0.store (i := 13) rfl rfl rfl ag_3 rfl (by simp) | exact Ef0.store (i := 14) rfl rfl rfl ag_3 rfl (by simp) | exact Ef0.store (i := 15) rfl rfl rfl ag_3 rfl (by simp) | exact Ef0.store (i := 16) rfl rfl rfl ag_3 rfl (by simp) | exact Ef0.store (i := 17) rfl rfl rfl ag_3 rfl (by simp) | exact Ef0.store (i := 18) rfl rfl rfl ag_3 rfl (by simp) | exact Ef0.store (i := 19) rfl rfl rfl ag_3 rfl (by simp)) ?_
        try dsimp only [setR, List.set, setRow2]
        refine SL.ef0 rfl (Gd.g0 rfl) (by first | exact Ef0.store (i := 0) rfl rfl rfl ag_4 rfl (by simp) | exact Ef0.store (i := 1) rfl rfl rfl ag_4 rfl (by simp) | exact Ef0.store (i := 2) rfl rfl rfl ag_4 rfl (by simp) | exact Ef0.store (i := 3) rfl rfl rfl ag_4 rfl (by simp) | exact Ef0.store (i := 4) rfl rfl rfl ag_4 rfl (by simp) | exact Ef0.store (i := 5) rfl rfl rfl ag_4 rfl (by simp) | exact Ef0.store (i := 6) rfl rfl rfl ag_4 rfl (by simp) | exact Ef0.store (i := 7) rfl rfl rfl ag_4 rfl (by simp) | exact Ef0.store (i := 8) rfl rfl rfl ag_4 rfl (by simp) | exact Ef0.store (i := 9) rfl rfl rfl ag_4 rfl (by simp) | exact Ef0.store (i := 10) rfl rfl rfl ag_4 rfl (by simp) | exact Ef0.store (i := 11) rfl rfl rfl ag_4 rfl (by simp) | exact Ef0.store (i := 12) rfl rfl rfl ag_4 rfl (by simp) | exact Ef0.store (i := 13) rfl rfl rfl ag_4 rfl (by simp) | exact Ef0.store (i := 14) rfl rfl rfl ag_4 rfl (by simp) | exact Ef0.store (i := 15) rfl rfl rfl ag_4 rfl (by simp) | exact Ef0.store (i := 16) rfl rfl rfl ag_4 rfl (by simp) | exact Ef0.store (i := 17) rfl rfl rfl ag_4 rfl (by simp) | exact Ef0.store (i := 18) rfl rfl rfl ag_4 rfl (by simp) | exact Ef0.store (i := 19) rfl rfl rfl ag_4 rfl (by simp)) ?_
        try dsimp only [setR, List.set, setRow2]
        refine SL.ef0 rfl (Gd.g0 rfl) (by first | exact Ef0.store (i := 0) rfl rfl rfl ag_26 rfl (by simp) | exact Ef0.store (i := 1) rfl rfl rfl ag_26 rfl (by simp) | exact Ef0.store (i := 2) rfl rfl rfl ag_26 rfl (by simp) | exact Ef0.store (i := 3) rfl rfl rfl ag_26 rfl (by simp) | exact Ef0.store (i := 4) rfl rfl rfl ag_26 rfl (by simp) | exact Ef0.store (i := 5) rfl rfl rfl ag_26 rfl (by simp) | exact Ef0.store (i := 6) rfl rfl rfl ag_26 rfl (by simp) | exact Ef0.store (i := 7) rfl rfl rfl ag_26 rfl (by simp) | exact Ef0.store (i := 8) rfl rfl rfl ag_26 rfl (by simp) | exact Ef0.store (i := 9) rfl rfl rfl ag_26 rfl (by simp) | exact Ef0.store (i := 10) rfl rfl rfl ag_26 rfl (by simp) | exact Ef0.store (i := 11) rfl rfl rfl ag_26 rfl (by simp) | exact Ef0.store (i := 12) rfl rfl rfl ag_26 rfl (by simp) | exact Ef0.store (i := 13) rfl rfl rfl ag_26 rfl (by simp) | exact Ef0.store (i := 14) rfl rfl rfl ag_26 rfl (by simp) | exact Ef0.store (i := 15) rfl rfl rfl ag_26 rfl (by simp) | exact Ef0.store (i := 16) rfl rfl rfl ag_26 rfl (by simp) | exact Ef0.store (i := 17) rfl rfl rfl ag_26 rfl (by simp) | exact Ef0.store (i := 18) rfl rfl rfl ag_26 rfl (by simp) | exact Ef0.store (i := 19) rfl rfl rfl ag_26 rfl (by simp)) ?_
        try dsimp only [setR, List.set, setRow2]
        first | refine SL.nil_then ?_ | refine SL.nil ?_
        refine CW.ret ?_
        repeat (first | refine EX.then_ret ?_ | refine EX.in_ret ?_)
        refine EX.roundRet hLP (i := 1) rfl (fun w2 hw => .inr ⟨rfl, 0, .inl ⟨rfl, ?_⟩, hw.pick [1, 2, 15, 16, 17, 18] rfl rfl⟩)
        rw [show 2 ^ ts.length = (k + 1) + (2 ^ ts.length - (k + 1)) by omega]
        exact setsX_end (r := .no) trivial (by rw [setsX_succ hset, oneX_no hmay hmis]) _
      have hmis : ¬ misB ts (tkS ts (sF x) k) (tkL ts (lF x) k) = true := by rw [hmis]; decide
      refine CW.skip ?_
      repeat (first | refine EX.in_normal ?_)
      first | refine EX.then_normal ?_ | skip
      refine CW.cut (σ := Unit) (fun _ => True) (fun _ => [(2, .pointer (some ⟨b2, 0, none⟩)), (3, .pointer (some ⟨b3, 0, none⟩)), (4, .pointer (some ⟨b4, 0, none⟩)), (5, .pointer (some ⟨b5, 0, none⟩)), (12, .pointer (some ⟨b12, 0, none⟩)), (13, .pointer (some ⟨b13, 0, none⟩)), (16, .pointer (some ⟨b16, 0, none⟩))])
        (fun _ => Wd w [] (Rs.row b16 (pR (sF y) (lF y)) 44 :: LP .busy none :: Rs.marks (d :: ms) :: Rs.row bs (pR (sF x) (lF x)) 44 :: Rs.row be [.pointer (some ⟨b26, 0, none⟩)] 38 :: Rs.row b14 [.int .i64 (a : Int)] 3 :: HsW ts ao cap od bo co b2 b3 b4 b5 b7 b11 b12 b13 b26 b63 b64 ⟨q'.list, wrX ts x k q'.worst⟩ lb' lc')) ?_ (fun _ _ => ?_)
      · rcases tkR_is (ts := ts) (lF x) k with hR | ⟨j, hj, hR⟩
        · have hwr : wrX ts x k q'.worst = q'.worst := by unfold wrX; rw [if_neg (by rw [hR]; omega)]
          rw [hR]
          repeat (refine CW.seq ?_)
          refine CW.region ?_
          refine SL.val rfl rfl (Gd.g0 rfl) (Yd.move rfl) ?_
          refine SL.val rfl rfl (Gd.g0 rfl) (Yd.no (p := (0 : Int) ≤ -1) (by omega) (Yd.geq rfl rfl)) ?_
          refine SL.val rfl rfl (Gd.g0 rfl) (Yd.move rfl) ?_
          refine SL.unw rfl rfl (Gd.no rfl rfl rfl rfl) ?_
          refine SL.unw rfl rfl (Gd.no rfl rfl rfl rfl) ?_
          refine SL.unw rfl rfl (Gd.no rfl rfl rfl rfl) ?_
          refine SL.unw rfl rfl (Gd.no rfl rfl rfl rfl) ?_
          refine SL.unw rfl rfl (Gd.no rfl rfl rfl rfl) ?_
          refine SL.unw rfl rfl (Gd.no rfl rfl rfl rfl) ?_
          refine SL.val rfl rfl (Gd.g0 rfl) ((by first | exact Yd.pickT rfl rfl | exact Yd.pickF rfl rfl | exact Yd.pickB rfl rfl rfl)) ?_
          first | refine SL.nil_then ?_ | refine SL.nil ?_
          repeat (refine CW.seq ?_)
          refine CW.condF rfl ?_
          refine CW.skip ?_
          repeat (first | refine EX.in_normal ?_)
          exact EX.cut () trivial (Sub.cons rfl rfl (Sub.cons rfl rfl (Sub.cons rfl rfl (Sub.cons rfl rfl (Sub.cons rfl rfl (Sub.cons rfl rfl (Sub.cons rfl rfl Sub.nil))))))) (fun w2 h => by rw [hwr]; exact h)
        have hj8 : j < 8 := by omega
        have hwr : tkL ts (lF x) k j = 0 → (q'.worst.map (Value.int .i64)).set j (.int .i64 (max (gi q'.worst j) (tkS ts (sF x) k j))) = (wrX ts x k q'.worst).map (Value.int .i64) := fun h => by
          unfold wrX; rw [hR, Int.toNat_natCast, if_pos ⟨by omega, h⟩, List.map_set]
        have hwn : ¬ tkL ts (lF x) k j = 0 → wrX ts x k q'.worst = q'.worst := fun h => by
          unfold wrX; rw [hR, Int.toNat_natCast, if_neg (fun q => h q.2)]
        have hwl := hWI'.wl
        have hwj : (q'.worst.map (Value.int .i64))[j]? = some (.int .i64 (gi q'.worst j)) := by
          rw [List.getElem?_map, List.getElem?_eq_getElem (by omega)]
          show some (Value.int .i64 q'.worst[j]) = _
          unfold gi; rw [List.getD_eq_getElem?_getD, List.getElem?_eq_getElem (by omega)]; rfl
        have hSj := (tkS_ok hok hxg.s k).1 j hj8
        have hXw : IntKind.i64.wrap (tkS ts (sF x) k j) = tkS ts (sF x) k j := IntWalk.i64_in _ (by omega)
        rw [hR]
        repeat (refine CW.seq ?_)
        refine CW.region ?_
        refine SL.val rfl rfl (Gd.g0 rfl) (Yd.move rfl) ?_
        refine SL.val rfl rfl (Gd.g0 rfl) (Yd.yes (p := (0 : Int) ≤ (j : Int)) (by omega) (Yd.geq rfl rfl)) ?_
        refine SL.val rfl rfl (Gd.g0 rfl) (Yd.move rfl) ?_
        refine SL.val rfl rfl (Gd.yes rfl rfl rfl) (Yd.move rfl) ?_
        refine SL.val rfl rfl (Gd.yes rfl rfl rfl) ((by first | exact Yd.mulC 2 rfl rfl (by omega) | exact Yd.mul rfl rfl (by omega) | exact Yd.mulW rfl rfl)) ?_
        refine SL.val rfl rfl (Gd.yes rfl rfl rfl) ((by first | exact Yd.inc rfl (by omega) | exact Yd.add rfl rfl (by omega) | exact Yd.addW rfl rfl)) ?_
        refine SL.val rfl rfl (Gd.yes rfl rfl rfl) ((by first | exact Yd.indexArN rfl rfl ar_44 (by omega) | exact Yd.indexAr rfl rfl ar_44 (by omega))) ?_
        refine SL.val rfl rfl (Gd.yes rfl rfl rfl) (Yd.load rfl ag_42 (Wd.cell (i := 0) rfl (by rw [show 0 + (2 * j + 1) * 1 = 2 * j + 1 by omega, pR_l _ _ hj8, hyl j hj8]))) ?_
        refine SL.val rfl rfl (Gd.yes rfl rfl rfl) (Yd.eql rfl rfl) ?_
        refine SL.val rfl rfl (Gd.g0 rfl) ((by first | exact Yd.pickT rfl rfl | exact Yd.pickF rfl rfl | exact Yd.pickB rfl rfl rfl)) ?_
        first | refine SL.nil_then ?_ | refine SL.nil ?_
        repeat (refine CW.seq ?_)
        refine CW.condD rfl (fun hz => ?_) (fun hz => ?_)
        · skip
          repeat (refine CW.seq ?_)
          refine CW.draw [(Tb w [], []), ((Rs.row b11 [.slice (some ⟨b63, 0, none⟩) ts.length ts.length] 25).ok, []), ((Rs.row b63 (q'.worst.map (Value.int .i64)) 2).ok, [13]), ((Rs.row b16 (pR (sF y) (lF y)) 44).ok, [])] mixed (fun w hw => hw.drew) (fun w hw => ⟨(by exact fun _ => hw.tb), (by first | exact fun _ => hw.tb | exact hw.k 0 rfl | exact hw.k 1 rfl | exact hw.k 2 rfl | exact hw.k 3 rfl | exact hw.k 4 rfl | exact hw.k 5 rfl | exact hw.k 6 rfl | exact hw.k 7 rfl | exact hw.k 8 rfl | exact hw.k 9 rfl | exact hw.k 10 rfl | exact hw.k 11 rfl | exact hw.k 12 rfl | exact hw.k 13 rfl | exact hw.k 14 rfl | exact hw.k 15 rfl | exact hw.k 16 rfl | exact hw.k 17 rfl | exact hw.k 18 rfl | exact hw.k 19 rfl | exact SG.gone (by kernel_rfl)), (by first | exact fun _ => hw.tb | exact hw.k 0 rfl | exact hw.k 1 rfl | exact hw.k 2 rfl | exact hw.k 3 rfl | exact hw.k 4 rfl | exact hw.k 5 rfl | exact hw.k 6 rfl | exact hw.k 7 rfl | exact hw.k 8 rfl | exact hw.k 9 rfl | exact hw.k 10 rfl | exact hw.k 11 rfl | exact hw.k 12 rfl | exact hw.k 13 rfl | exact hw.k 14 rfl | exact hw.k 15 rfl | exact hw.k 16 rfl | exact hw.k 17 rfl | exact hw.k 18 rfl | exact hw.k 19 rfl | exact SG.gone (by kernel_rfl)), (by first | exact fun _ => hw.tb | exact hw.k 0 rfl | exact hw.k 1 rfl | exact hw.k 2 rfl | exact hw.k 3 rfl | exact hw.k 4 rfl | exact hw.k 5 rfl | exact hw.k 6 rfl | exact hw.k 7 rfl | exact hw.k 8 rfl | exact hw.k 9 rfl | exact hw.k 10 rfl | exact hw.k 11 rfl | exact hw.k 12 rfl | exact hw.k 13 rfl | exact hw.k 14 rfl | exact hw.k 15 rfl | exact hw.k 16 rfl | exact hw.k 17 rfl | exact hw.k 18 rfl | exact hw.k 19 rfl | exact SG.gone (by kernel_rfl)), trivial⟩) ?_
          first | refine DL.take 0 rfl (by kernel_rfl) (by kernel_rfl) (by kernel_rfl) (by kernel_rfl) (by kernel_rfl) rfl rfl (Gd.g0 rfl) (held 0 1 rfl (by kernel_rfl)) (Yd.load rfl ag_25 (row_cell rfl)) ?_ | refine DL.take 0 rfl (by kernel_rfl) (by kernel_rfl) (by kernel_rfl) (by kernel_rfl) (by kernel_rfl) rfl rfl (Gd.g0 rfl) (held 0 2 rfl (by kernel_rfl)) (Yd.load rfl ag_25 (row_cell rfl)) ?_ | refine DL.take 0 rfl (by kernel_rfl) (by kernel_rfl) (by kernel_rfl) (by kernel_rfl) (by kernel_rfl) rfl rfl (Gd.g0 rfl) (held 0 3 rfl (by kernel_rfl)) (Yd.load rfl ag_25 (row_cell rfl)) ?_ | refine DL.take 0 rfl (by kernel_rfl) (by kernel_rfl) (by kernel_rfl) (by kernel_rfl) (by kernel_rfl) rfl rfl (Gd.g0 rfl) (held 0 4 rfl (by kernel_rfl)) (Yd.load rfl ag_25 (row_cell rfl)) ?_ | refine DL.take 0 rfl (by kernel_rfl) (by kernel_rfl) (by kernel_rfl) (by kernel_rfl) (by kernel_rfl) rfl rfl (Gd.g0 rfl) (held 0 5 rfl (by kernel_rfl)) (Yd.load rfl ag_25 (row_cell rfl)) ?_
          refine DL.take 1 rfl (by kernel_rfl) (by kernel_rfl) (by kernel_rfl) (by kernel_rfl) (by kernel_rfl) rfl rfl (Gd.g0 rfl) (heldN 1) (Yd.move rfl) ?_
          first | refine DL.take 2 rfl (by kernel_rfl) (by kernel_rfl) (by kernel_rfl) (by kernel_rfl) (by kernel_rfl) rfl rfl (Gd.g0 rfl) (held 2 1 rfl (by kernel_rfl)) (Yd.load rfl ag_25 (row_cell rfl)) ?_ | refine DL.take 2 rfl (by kernel_rfl) (by kernel_rfl) (by kernel_rfl) (by kernel_rfl) (by kernel_rfl) rfl rfl (Gd.g0 rfl) (held 2 2 rfl (by kernel_rfl)) (Yd.load rfl ag_25 (row_cell rfl)) ?_ | refine DL.take 2 rfl (by kernel_rfl) (by kernel_rfl) (by kernel_rfl) (by kernel_rfl) (by kernel_rfl) rfl rfl (Gd.g0 rfl) (held 2 3 rfl (by kernel_rfl)) (Yd.load rfl ag_25 (row_cell rfl)) ?_ | refine DL.take 2 rfl (by kernel_rfl) (by kernel_rfl) (by kernel_rfl) (by kernel_rfl) (by kernel_rfl) rfl rfl (Gd.g0 rfl) (held 2 4 rfl (by kernel_rfl)) (Yd.load rfl ag_25 (row_cell rfl)) ?_ | refine DL.take 2 rfl (by kernel_rfl) (by kernel_rfl) (by kernel_rfl) (by kernel_rfl) (by kernel_rfl) rfl rfl (Gd.g0 rfl) (held 2 5 rfl (by kernel_rfl)) (Yd.load rfl ag_25 (row_cell rfl)) ?_
          refine DL.take 3 rfl (by kernel_rfl) (by kernel_rfl) (by kernel_rfl) (by kernel_rfl) (by kernel_rfl) rfl rfl (Gd.g0 rfl) (heldN 3) (Yd.move rfl) ?_
          refine DL.take 4 rfl (by kernel_rfl) (by kernel_rfl) (by kernel_rfl) (by kernel_rfl) (by kernel_rfl) rfl rfl (Gd.g0 rfl) (heldN 4) ((by first | exact Yd.indexSlN rfl rfl sl_25 (by omega) | exact Yd.indexSl rfl rfl sl_25 (by omega))) ?_
          refine DL.take 5 rfl (by kernel_rfl) (by kernel_rfl) (by kernel_rfl) (by kernel_rfl) (by kernel_rfl) rfl rfl (Gd.g0 rfl) (held 5 2 rfl (by kernel_rfl)) (Yd.load rfl ag_2 (row_cell (by rw [show 0 + j * 1 = j by omega]; exact hwj))) ?_
          refine DL.take 6 rfl (by kernel_rfl) (by kernel_rfl) (by kernel_rfl) (by kernel_rfl) (by kernel_rfl) rfl rfl (Gd.g0 rfl) (heldN 6) (Yd.move rfl) ?_
          refine DL.take 7 rfl (by kernel_rfl) (by kernel_rfl) (by kernel_rfl) (by kernel_rfl) (by kernel_rfl) rfl rfl (Gd.g0 rfl) (heldN 7) ((by first | exact Yd.mulC 2 rfl rfl (by omega) | exact Yd.mul rfl rfl (by omega) | exact Yd.mulW rfl rfl)) ?_
          refine DL.take 8 rfl (by kernel_rfl) (by kernel_rfl) (by kernel_rfl) (by kernel_rfl) (by kernel_rfl) rfl rfl (Gd.g0 rfl) (heldN 8) ((by first | exact Yd.indexArN rfl rfl ar_44 (by omega) | exact Yd.indexAr rfl rfl ar_44 (by omega))) ?_
          refine DL.take 9 rfl (by kernel_rfl) (by kernel_rfl) (by kernel_rfl) (by kernel_rfl) (by kernel_rfl) rfl rfl (Gd.g0 rfl) (held 9 3 rfl (by kernel_rfl)) (Yd.load rfl ag_42 (row_cell (by rw [show 0 + 2 * j * 1 = 2 * j by omega, pR_s _ _ hj8, hys j hj8]))) ?_
          refine DL.take 10 rfl (by kernel_rfl) (by kernel_rfl) (by kernel_rfl) (by kernel_rfl) (by kernel_rfl) rfl rfl (Gd.g0 rfl) (heldN 10) ((by first | exact Yd.convK rfl un_42 ik_2 rfl | exact Yd.convK rfl un_42 ik_2 (by assumption) | exact Yd.conv rfl un_42 ik_2)) ?_
          refine DL.take 11 rfl (by kernel_rfl) (by kernel_rfl) (by kernel_rfl) (by kernel_rfl) (by kernel_rfl) rfl rfl (Gd.g0 rfl) (heldN 11) (Yd.max2 rfl rfl) ?_
          refine DL.take 12 rfl (by kernel_rfl) (by kernel_rfl) (by kernel_rfl) (by kernel_rfl) (by kernel_rfl) rfl rfl (Gd.g0 rfl) (heldN 12) ((by first | exact Yd.indexSlN rfl rfl sl_25 (by omega) | exact Yd.indexSl rfl rfl sl_25 (by omega))) ?_
          refine DL.ready1 (i := 13) (by kernel_rfl) ?_
          refine D1.ef0 rfl rfl (Gd.g0 rfl) (Ef0.store (i := 11) rfl rfl rfl ag_2 rfl (by rw [List.length_map]; omega)) (fun w hw => ⟨(by exact fun _ => hw.tb), (by first | exact fun _ => hw.tb | exact hw.k 0 rfl | exact hw.k 1 rfl | exact hw.k 2 rfl | exact hw.k 3 rfl | exact hw.k 4 rfl | exact hw.k 5 rfl | exact hw.k 6 rfl | exact hw.k 7 rfl | exact hw.k 8 rfl | exact hw.k 9 rfl | exact hw.k 10 rfl | exact hw.k 11 rfl | exact hw.k 12 rfl | exact hw.k 13 rfl | exact hw.k 14 rfl | exact hw.k 15 rfl | exact hw.k 16 rfl | exact hw.k 17 rfl | exact hw.k 18 rfl | exact hw.k 19 rfl | exact SG.gone (by kernel_rfl)), (by first | exact fun _ => hw.tb | exact hw.k 0 rfl | exact hw.k 1 rfl | exact hw.k 2 rfl | exact hw.k 3 rfl | exact hw.k 4 rfl | exact hw.k 5 rfl | exact hw.k 6 rfl | exact hw.k 7 rfl | exact hw.k 8 rfl | exact hw.k 9 rfl | exact hw.k 10 rfl | exact hw.k 11 rfl | exact hw.k 12 rfl | exact hw.k 13 rfl | exact hw.k 14 rfl | exact hw.k 15 rfl | exact hw.k 16 rfl | exact hw.k 17 rfl | exact hw.k 18 rfl | exact hw.k 19 rfl | exact SG.gone (by kernel_rfl)), (by first | exact fun _ => hw.tb | exact hw.k 0 rfl | exact hw.k 1 rfl | exact hw.k 2 rfl | exact hw.k 3 rfl | exact hw.k 4 rfl | exact hw.k 5 rfl | exact hw.k 6 rfl | exact hw.k 7 rfl | exact hw.k 8 rfl | exact hw.k 9 rfl | exact hw.k 10 rfl | exact hw.k 11 rfl | exact hw.k 12 rfl | exact hw.k 13 rfl | exact hw.k 14 rfl | exact hw.k 15 rfl | exact hw.k 16 rfl | exact hw.k 17 rfl | exact hw.k 18 rfl | exact hw.k 19 rfl | exact SG.gone (by kernel_rfl)), trivial⟩) ?_
          try dsimp only [setR]
          rw [show 0 + j * 1 = j by omega, hwr hz]
          refine DL.done (by kernel_rfl) ?_
          first | refine EX.then_normal ?_ | skip
          exact EX.cut () trivial (Sub.cons rfl rfl (Sub.cons rfl rfl (Sub.cons rfl rfl (Sub.cons rfl rfl (Sub.cons rfl rfl (Sub.cons rfl rfl (Sub.cons rfl rfl Sub.nil))))))) (fun w2 h => h)
        refine CW.skip ?_
        repeat (first | refine EX.in_normal ?_)
        exact EX.cut () trivial (Sub.cons rfl rfl (Sub.cons rfl rfl (Sub.cons rfl rfl (Sub.cons rfl rfl (Sub.cons rfl rfl (Sub.cons rfl rfl (Sub.cons rfl rfl Sub.nil))))))) (fun w2 h => by rw [hwn hz]; exact h)
      dsimp only [HsW]
      have hWo := hWI'.old x k
      repeat (refine CW.seq ?_)
      refine CW.region ?_
      refine SL.val rfl rfl (Gd.g0 rfl) ((by first | exact Yd.load rfl ag_47 (Wd.cell (i := 0) rfl rfl) | exact Yd.load rfl ag_47 (Wd.cell (i := 1) rfl rfl) | exact Yd.load rfl ag_47 (Wd.cell (i := 2) rfl rfl) | exact Yd.load rfl ag_47 (Wd.cell (i := 3) rfl rfl) | exact Yd.load rfl ag_47 (Wd.cell (i := 4) rfl rfl) | exact Yd.load rfl ag_47 (Wd.cell (i := 5) rfl rfl) | exact Yd.load rfl ag_47 (Wd.cell (i := 6) rfl rfl) | exact Yd.load rfl ag_47 (Wd.cell (i := 7) rfl rfl) | exact Yd.load rfl ag_47 (Wd.cell (i := 8) rfl rfl) | exact Yd.load rfl ag_47 (Wd.cell (i := 9) rfl rfl) | exact Yd.load rfl ag_47 (Wd.cell (i := 10) rfl rfl) | exact Yd.load rfl ag_47 (Wd.cell (i := 11) rfl rfl) | exact Yd.load rfl ag_47 (Wd.cell (i := 12) rfl rfl) | exact Yd.load rfl ag_47 (Wd.cell (i := 13) rfl rfl) | exact Yd.load rfl ag_47 (Wd.cell (i := 14) rfl rfl) | exact Yd.load rfl ag_47 (Wd.cell (i := 15) rfl rfl) | exact Yd.load rfl ag_47 (Wd.cell (i := 16) rfl rfl) | exact Yd.load rfl ag_47 (Wd.cell (i := 17) rfl rfl) | exact Yd.load rfl ag_47 (Wd.cell (i := 18) rfl rfl) | exact Yd.load rfl ag_47 (Wd.cell (i := 19) rfl rfl))) ?_
      refine SL.val rfl rfl (Gd.g0 rfl) ((by first | exact Yd.loadR (i := 0) rfl ag_44 rfl rfl | exact Yd.loadR (i := 1) rfl ag_44 rfl rfl | exact Yd.loadR (i := 2) rfl ag_44 rfl rfl | exact Yd.loadR (i := 3) rfl ag_44 rfl rfl | exact Yd.loadR (i := 4) rfl ag_44 rfl rfl | exact Yd.loadR (i := 5) rfl ag_44 rfl rfl | exact Yd.loadR (i := 6) rfl ag_44 rfl rfl | exact Yd.loadR (i := 7) rfl ag_44 rfl rfl | exact Yd.loadR (i := 8) rfl ag_44 rfl rfl | exact Yd.loadR (i := 9) rfl ag_44 rfl rfl | exact Yd.loadR (i := 10) rfl ag_44 rfl rfl | exact Yd.loadR (i := 11) rfl ag_44 rfl rfl | exact Yd.loadR (i := 12) rfl ag_44 rfl rfl | exact Yd.loadR (i := 13) rfl ag_44 rfl rfl | exact Yd.loadR (i := 14) rfl ag_44 rfl rfl | exact Yd.loadR (i := 15) rfl ag_44 rfl rfl | exact Yd.loadR (i := 16) rfl ag_44 rfl rfl | exact Yd.loadR (i := 17) rfl ag_44 rfl rfl | exact Yd.loadR (i := 18) rfl ag_44 rfl rfl | exact Yd.loadR (i := 19) rfl ag_44 rfl rfl)) ?_
      refine SL.val rfl rfl (Gd.g0 rfl) (Yd.inSet (i := 9) (k := y) (ek_prog hok) mt_47 z1_4 rfl rfl rfl hWI'.good hyg) ?_
      first | refine SL.nil_then ?_ | refine SL.nil ?_
      repeat (refine CW.seq ?_)
      refine CW.cond rfl (fun hin0 => ?_) (fun hin0 => ?_)
      · have hin : y ∈ q'.list := by simpa using hin0
        refine CW.exit ?_
        repeat (first | refine EX.then_exit ?_ | refine EX.in_exit rfl ?_ | refine EX.in_exit_ne rfl ?_)
        first | refine EX.then_normal ?_ | skip
        refine EX.roundNormal hLP (i := 1) rfl (fun w2 hw => .inl ⟨rfl, (⟨q'.list, wrX ts x k q'.worst⟩, lb', lc'), ⟨by rw [setsX_succ hset, oneX_old hmay hmis (by rw [hy]; exact hin)], hWo, hal, hax⟩, hw.pick [1, 2, 3, 4, 5, 6, 7, 8, 9, 10, 11, 12, 13, 14, 15, 16, 17, 18] rfl rfl⟩)
      have hin : ¬ y ∈ q'.list := by simpa using hin0
      refine CW.skip ?_
      repeat (first | refine EX.in_normal ?_)
      first | refine EX.then_normal ?_ | skip
      have hlen20 := hWI'.len
      repeat (refine CW.seq ?_)
      refine CW.region ?_
      refine SL.val rfl rfl (Gd.g0 rfl) ((by first | exact Yd.load rfl ag_48 (Wd.cell (i := 0) rfl rfl) | exact Yd.load rfl ag_48 (Wd.cell (i := 1) rfl rfl) | exact Yd.load rfl ag_48 (Wd.cell (i := 2) rfl rfl) | exact Yd.load rfl ag_48 (Wd.cell (i := 3) rfl rfl) | exact Yd.load rfl ag_48 (Wd.cell (i := 4) rfl rfl) | exact Yd.load rfl ag_48 (Wd.cell (i := 5) rfl rfl) | exact Yd.load rfl ag_48 (Wd.cell (i := 6) rfl rfl) | exact Yd.load rfl ag_48 (Wd.cell (i := 7) rfl rfl) | exact Yd.load rfl ag_48 (Wd.cell (i := 8) rfl rfl) | exact Yd.load rfl ag_48 (Wd.cell (i := 9) rfl rfl) | exact Yd.load rfl ag_48 (Wd.cell (i := 10) rfl rfl) | exact Yd.load rfl ag_48 (Wd.cell (i := 11) rfl rfl) | exact Yd.load rfl ag_48 (Wd.cell (i := 12) rfl rfl) | exact Yd.load rfl ag_48 (Wd.cell (i := 13) rfl rfl) | exact Yd.load rfl ag_48 (Wd.cell (i := 14) rfl rfl) | exact Yd.load rfl ag_48 (Wd.cell (i := 15) rfl rfl) | exact Yd.load rfl ag_48 (Wd.cell (i := 16) rfl rfl) | exact Yd.load rfl ag_48 (Wd.cell (i := 17) rfl rfl) | exact Yd.load rfl ag_48 (Wd.cell (i := 18) rfl rfl) | exact Yd.load rfl ag_48 (Wd.cell (i := 19) rfl rfl))) ?_
      refine SL.val rfl rfl (Gd.g0 rfl) (Yd.lenSl rfl isl_48) ?_
      refine SL.val rfl rfl (Gd.g0 rfl) (Yd.eql rfl rfl) ?_
      first | refine SL.nil_then ?_ | refine SL.nil ?_
      repeat (refine CW.seq ?_)
      refine CW.condD rfl (fun h20 => ?_) (fun h20 => ?_)
      · repeat (refine CW.seq ?_)
        refine CW.region ?_
        refine SL.ef0 rfl (Gd.g0 rfl) (by first | exact Ef0.store (i := 0) rfl rfl rfl ag_25 rfl (by simp) | exact Ef0.store (i := 1) rfl rfl rfl ag_25 rfl (by simp) | exact Ef0.store (i := 2) rfl rfl rfl ag_25 rfl (by simp) | exact Ef0.store (i := 3) rfl rfl rfl ag_25 rfl (by simp) | exact Ef0.store (i := 4) rfl rfl rfl ag_25 rfl (by simp) | exact Ef0.store (i := 5) rfl rfl rfl ag_25 rfl (by simp) | exact Ef0.store (i := 6) rfl rfl rfl ag_25 rfl (by simp) | exact Ef0.store (i := 7) rfl rfl rfl ag_25 rfl (by simp) | exact Ef0.store (i := 8) rfl rfl rfl ag_25 rfl (by simp) | exact Ef0.store (i := 9) rfl rfl rfl ag_25 rfl (by simp) | exact Ef0.store (i := 10) rfl rfl rfl ag_25 rfl (by simp) | exact Ef0.store (i := 11) rfl rfl rfl ag_25 rfl (by simp) | exact Ef0.store (i := 12) rfl rfl rfl ag_25 rfl (by simp) | exact Ef0.store (i := 13) rfl rfl rfl ag_25 rfl (by simp) | exact Ef0.store (i := 14) rfl rfl rfl ag_25 rfl (by simp) | exact Ef0.store (i := 15) rfl rfl rfl ag_25 rfl (by simp) | exact Ef0.store (i := 16) rfl rfl rfl ag_25 rfl (by simp) | exact Ef0.store (i := 17) rfl rfl rfl ag_25 rfl (by simp) | exact Ef0.store (i := 18) rfl rfl rfl ag_25 rfl (by simp) | exact Ef0.store (i := 19) rfl rfl rfl ag_25 rfl (by simp)) ?_
        try dsimp only [setR, List.set, setRow2]
        refine SL.ef0 rfl (Gd.g0 rfl) (by first | exact Ef0.store (i := 0) rfl rfl rfl ag_3 rfl (by simp) | exact Ef0.store (i := 1) rfl rfl rfl ag_3 rfl (by simp) | exact Ef0.store (i := 2) rfl rfl rfl ag_3 rfl (by simp) | exact Ef0.store (i := 3) rfl rfl rfl ag_3 rfl (by simp) | exact Ef0.store (i := 4) rfl rfl rfl ag_3 rfl (by simp) | exact Ef0.store (i := 5) rfl rfl rfl ag_3 rfl (by simp) | exact Ef0.store (i := 6) rfl rfl rfl ag_3 rfl (by simp) | exact Ef0.store (i := 7) rfl rfl rfl ag_3 rfl (by simp) | exact Ef0.store (i := 8) rfl rfl rfl ag_3 rfl (by simp) | exact Ef0.store (i := 9) rfl rfl rfl ag_3 rfl (by simp) | exact Ef0.store (i := 10) rfl rfl rfl ag_3 rfl (by simp) | exact Ef0.store (i := 11) rfl rfl rfl ag_3 rfl (by simp) | exact Ef0.store (i := 12) rfl rfl rfl ag_3 rfl (by simp) | exact Ef0.store (i := 13) rfl rfl rfl ag_3 rfl (by simp) | exact Ef0.store (i := 14) rfl rfl rfl ag_3 rfl (by simp) | exact Ef0.store (i := 15) rfl rfl rfl ag_3 rfl (by simp) | exact Ef0.store (i := 16) rfl rfl rfl ag_3 rfl (by simp) | exact Ef0.store (i := 17) rfl rfl rfl ag_3 rfl (by simp) | exact Ef0.store (i := 18) rfl rfl rfl ag_3 rfl (by simp) | exact Ef0.store (i := 19) rfl rfl rfl ag_3 rfl (by simp)) ?_
        try dsimp only [setR, List.set, setRow2]
        refine SL.ef0 rfl (Gd.g0 rfl) (by first | exact Ef0.store (i := 0) rfl rfl rfl ag_4 rfl (by simp) | exact Ef0.store (i := 1) rfl rfl rfl ag_4 rfl (by simp) | exact Ef0.store (i := 2) rfl rfl rfl ag_4 rfl (by simp) | exact Ef0.store (i := 3) rfl rfl rfl ag_4 rfl (by simp) | exact Ef0.store (i := 4) rfl rfl rfl ag_4 rfl (by simp) | exact Ef0.store (i := 5) rfl rfl rfl ag_4 rfl (by simp) | exact Ef0.store (i := 6) rfl rfl rfl ag_4 rfl (by simp) | exact Ef0.store (i := 7) rfl rfl rfl ag_4 rfl (by simp) | exact Ef0.store (i := 8) rfl rfl rfl ag_4 rfl (by simp) | exact Ef0.store (i := 9) rfl rfl rfl ag_4 rfl (by simp) | exact Ef0.store (i := 10) rfl rfl rfl ag_4 rfl (by simp) | exact Ef0.store (i := 11) rfl rfl rfl ag_4 rfl (by simp) | exact Ef0.store (i := 12) rfl rfl rfl ag_4 rfl (by simp) | exact Ef0.store (i := 13) rfl rfl rfl ag_4 rfl (by simp) | exact Ef0.store (i := 14) rfl rfl rfl ag_4 rfl (by simp) | exact Ef0.store (i := 15) rfl rfl rfl ag_4 rfl (by simp) | exact Ef0.store (i := 16) rfl rfl rfl ag_4 rfl (by simp) | exact Ef0.store (i := 17) rfl rfl rfl ag_4 rfl (by simp) | exact Ef0.store (i := 18) rfl rfl rfl ag_4 rfl (by simp) | exact Ef0.store (i := 19) rfl rfl rfl ag_4 rfl (by simp)) ?_
        try dsimp only [setR, List.set, setRow2]
        refine SL.ef0 rfl (Gd.g0 rfl) (by first | exact Ef0.store (i := 0) rfl rfl rfl ag_26 rfl (by simp) | exact Ef0.store (i := 1) rfl rfl rfl ag_26 rfl (by simp) | exact Ef0.store (i := 2) rfl rfl rfl ag_26 rfl (by simp) | exact Ef0.store (i := 3) rfl rfl rfl ag_26 rfl (by simp) | exact Ef0.store (i := 4) rfl rfl rfl ag_26 rfl (by simp) | exact Ef0.store (i := 5) rfl rfl rfl ag_26 rfl (by simp) | exact Ef0.store (i := 6) rfl rfl rfl ag_26 rfl (by simp) | exact Ef0.store (i := 7) rfl rfl rfl ag_26 rfl (by simp) | exact Ef0.store (i := 8) rfl rfl rfl ag_26 rfl (by simp) | exact Ef0.store (i := 9) rfl rfl rfl ag_26 rfl (by simp) | exact Ef0.store (i := 10) rfl rfl rfl ag_26 rfl (by simp) | exact Ef0.store (i := 11) rfl rfl rfl ag_26 rfl (by simp) | exact Ef0.store (i := 12) rfl rfl rfl ag_26 rfl (by simp) | exact Ef0.store (i := 13) rfl rfl rfl ag_26 rfl (by simp) | exact Ef0.store (i := 14) rfl rfl rfl ag_26 rfl (by simp) | exact Ef0.store (i := 15) rfl rfl rfl ag_26 rfl (by simp) | exact Ef0.store (i := 16) rfl rfl rfl ag_26 rfl (by simp) | exact Ef0.store (i := 17) rfl rfl rfl ag_26 rfl (by simp) | exact Ef0.store (i := 18) rfl rfl rfl ag_26 rfl (by simp) | exact Ef0.store (i := 19) rfl rfl rfl ag_26 rfl (by simp)) ?_
        try dsimp only [setR, List.set, setRow2]
        first | refine SL.nil_then ?_ | refine SL.nil ?_
        refine CW.ret ?_
        repeat (first | refine EX.then_ret ?_ | refine EX.in_ret ?_)
        refine EX.roundRet hLP (i := 1) rfl (fun w2 hw => .inr ⟨rfl, 3, .inr ⟨rfl, ?_⟩, hw.pick [1, 2, 15, 16, 17, 18] rfl rfl⟩)
        rw [show 2 ^ ts.length = (k + 1) + (2 ^ ts.length - (k + 1)) by omega]
        exact setsX_end (r := .long) trivial (by rw [setsX_succ hset, oneX_long hmay hmis (by rw [hy]; exact hin) (by omega)]) _
      refine CW.skip ?_
      repeat (first | refine EX.in_normal ?_)
      first | refine EX.then_normal ?_ | skip
      have hWn := hWI'.new hok hxg k (by rw [hy]; exact hin) (by omega)
      rw [hy] at hWn
      repeat (refine CW.seq ?_)
      refine CW.region ?_
      refine SL.val rfl rfl (Gd.g0 rfl) ((by first | exact Yd.load rfl ag_47 (Wd.cell (i := 0) rfl rfl) | exact Yd.load rfl ag_47 (Wd.cell (i := 1) rfl rfl) | exact Yd.load rfl ag_47 (Wd.cell (i := 2) rfl rfl) | exact Yd.load rfl ag_47 (Wd.cell (i := 3) rfl rfl) | exact Yd.load rfl ag_47 (Wd.cell (i := 4) rfl rfl) | exact Yd.load rfl ag_47 (Wd.cell (i := 5) rfl rfl) | exact Yd.load rfl ag_47 (Wd.cell (i := 6) rfl rfl) | exact Yd.load rfl ag_47 (Wd.cell (i := 7) rfl rfl) | exact Yd.load rfl ag_47 (Wd.cell (i := 8) rfl rfl) | exact Yd.load rfl ag_47 (Wd.cell (i := 9) rfl rfl) | exact Yd.load rfl ag_47 (Wd.cell (i := 10) rfl rfl) | exact Yd.load rfl ag_47 (Wd.cell (i := 11) rfl rfl) | exact Yd.load rfl ag_47 (Wd.cell (i := 12) rfl rfl) | exact Yd.load rfl ag_47 (Wd.cell (i := 13) rfl rfl) | exact Yd.load rfl ag_47 (Wd.cell (i := 14) rfl rfl) | exact Yd.load rfl ag_47 (Wd.cell (i := 15) rfl rfl) | exact Yd.load rfl ag_47 (Wd.cell (i := 16) rfl rfl) | exact Yd.load rfl ag_47 (Wd.cell (i := 17) rfl rfl) | exact Yd.load rfl ag_47 (Wd.cell (i := 18) rfl rfl) | exact Yd.load rfl ag_47 (Wd.cell (i := 19) rfl rfl))) ?_
      refine SL.val rfl rfl (Gd.g0 rfl) ((by first | exact Yd.loadR (i := 0) rfl ag_44 rfl rfl | exact Yd.loadR (i := 1) rfl ag_44 rfl rfl | exact Yd.loadR (i := 2) rfl ag_44 rfl rfl | exact Yd.loadR (i := 3) rfl ag_44 rfl rfl | exact Yd.loadR (i := 4) rfl ag_44 rfl rfl | exact Yd.loadR (i := 5) rfl ag_44 rfl rfl | exact Yd.loadR (i := 6) rfl ag_44 rfl rfl | exact Yd.loadR (i := 7) rfl ag_44 rfl rfl | exact Yd.loadR (i := 8) rfl ag_44 rfl rfl | exact Yd.loadR (i := 9) rfl ag_44 rfl rfl | exact Yd.loadR (i := 10) rfl ag_44 rfl rfl | exact Yd.loadR (i := 11) rfl ag_44 rfl rfl | exact Yd.loadR (i := 12) rfl ag_44 rfl rfl | exact Yd.loadR (i := 13) rfl ag_44 rfl rfl | exact Yd.loadR (i := 14) rfl ag_44 rfl rfl | exact Yd.loadR (i := 15) rfl ag_44 rfl rfl | exact Yd.loadR (i := 16) rfl ag_44 rfl rfl | exact Yd.loadR (i := 17) rfl ag_44 rfl rfl | exact Yd.loadR (i := 18) rfl ag_44 rfl rfl | exact Yd.loadR (i := 19) rfl ag_44 rfl rfl)) ?_
      refine SL.ef0 rfl (Gd.g0 rfl) (Ef0.addSet (i := 9) (k := y) (ek_prog hok) mt_47 rfl rfl rfl rfl hWI'.good hyg hin) ?_
      try dsimp only [setR]
      first | refine SL.nil_then ?_ | refine SL.nil ?_
      have hlapp : (q'.list ++ [y]).length = q'.list.length + 1 := by simp
      repeat (refine CW.seq ?_)
      refine CW.region ?_
      refine SL.val rfl rfl (Gd.g0 rfl) ((by first | exact Yd.load rfl ag_48 (Wd.cell (i := 0) rfl rfl) | exact Yd.load rfl ag_48 (Wd.cell (i := 1) rfl rfl) | exact Yd.load rfl ag_48 (Wd.cell (i := 2) rfl rfl) | exact Yd.load rfl ag_48 (Wd.cell (i := 3) rfl rfl) | exact Yd.load rfl ag_48 (Wd.cell (i := 4) rfl rfl) | exact Yd.load rfl ag_48 (Wd.cell (i := 5) rfl rfl) | exact Yd.load rfl ag_48 (Wd.cell (i := 6) rfl rfl) | exact Yd.load rfl ag_48 (Wd.cell (i := 7) rfl rfl) | exact Yd.load rfl ag_48 (Wd.cell (i := 8) rfl rfl) | exact Yd.load rfl ag_48 (Wd.cell (i := 9) rfl rfl) | exact Yd.load rfl ag_48 (Wd.cell (i := 10) rfl rfl) | exact Yd.load rfl ag_48 (Wd.cell (i := 11) rfl rfl) | exact Yd.load rfl ag_48 (Wd.cell (i := 12) rfl rfl) | exact Yd.load rfl ag_48 (Wd.cell (i := 13) rfl rfl) | exact Yd.load rfl ag_48 (Wd.cell (i := 14) rfl rfl) | exact Yd.load rfl ag_48 (Wd.cell (i := 15) rfl rfl) | exact Yd.load rfl ag_48 (Wd.cell (i := 16) rfl rfl) | exact Yd.load rfl ag_48 (Wd.cell (i := 17) rfl rfl) | exact Yd.load rfl ag_48 (Wd.cell (i := 18) rfl rfl) | exact Yd.load rfl ag_48 (Wd.cell (i := 19) rfl rfl))) ?_
      refine SL.val rfl rfl (Gd.g0 rfl) ((by first | exact Yd.loadR (i := 0) rfl ag_44 rfl rfl | exact Yd.loadR (i := 1) rfl ag_44 rfl rfl | exact Yd.loadR (i := 2) rfl ag_44 rfl rfl | exact Yd.loadR (i := 3) rfl ag_44 rfl rfl | exact Yd.loadR (i := 4) rfl ag_44 rfl rfl | exact Yd.loadR (i := 5) rfl ag_44 rfl rfl | exact Yd.loadR (i := 6) rfl ag_44 rfl rfl | exact Yd.loadR (i := 7) rfl ag_44 rfl rfl | exact Yd.loadR (i := 8) rfl ag_44 rfl rfl | exact Yd.loadR (i := 9) rfl ag_44 rfl rfl | exact Yd.loadR (i := 10) rfl ag_44 rfl rfl | exact Yd.loadR (i := 11) rfl ag_44 rfl rfl | exact Yd.loadR (i := 12) rfl ag_44 rfl rfl | exact Yd.loadR (i := 13) rfl ag_44 rfl rfl | exact Yd.loadR (i := 14) rfl ag_44 rfl rfl | exact Yd.loadR (i := 15) rfl ag_44 rfl rfl | exact Yd.loadR (i := 16) rfl ag_44 rfl rfl | exact Yd.loadR (i := 17) rfl ag_44 rfl rfl | exact Yd.loadR (i := 18) rfl ag_44 rfl rfl | exact Yd.loadR (i := 19) rfl ag_44 rfl rfl)) ?_
      refine SL.efD rfl rfl (Gd.g0 rfl) (Ef.buildSlice rfl se_48 rfl rfl rfl rfl) (fun b127 => ?_)
      try dsimp only [Value.cells, List.flatMap_cons, List.flatMap_nil]
      refine SL.efD rfl rfl (Gd.g0 rfl) (Ef.append1 (i := 9) (c := cdP) (y := y) rfl rfl se_48 rfl rfl (fun w hw j u hj => by rw [Nat.zero_add]; exact Wd.cell (i := 0) rfl (by simpa [cdP] using hj) w hw) (pR_one _ _) (by omega) (by simp only [maxLen]; omega)) (fun b128 => ?_)
      try dsimp only [setR]
      refine SL.ef0 rfl (Gd.g0 rfl) (by first | exact Ef0.store (i := 0) rfl rfl rfl ag_48 rfl (by simp) | exact Ef0.store (i := 1) rfl rfl rfl ag_48 rfl (by simp) | exact Ef0.store (i := 2) rfl rfl rfl ag_48 rfl (by simp) | exact Ef0.store (i := 3) rfl rfl rfl ag_48 rfl (by simp) | exact Ef0.store (i := 4) rfl rfl rfl ag_48 rfl (by simp) | exact Ef0.store (i := 5) rfl rfl rfl ag_48 rfl (by simp) | exact Ef0.store (i := 6) rfl rfl rfl ag_48 rfl (by simp) | exact Ef0.store (i := 7) rfl rfl rfl ag_48 rfl (by simp) | exact Ef0.store (i := 8) rfl rfl rfl ag_48 rfl (by simp) | exact Ef0.store (i := 9) rfl rfl rfl ag_48 rfl (by simp) | exact Ef0.store (i := 10) rfl rfl rfl ag_48 rfl (by simp) | exact Ef0.store (i := 11) rfl rfl rfl ag_48 rfl (by simp) | exact Ef0.store (i := 12) rfl rfl rfl ag_48 rfl (by simp) | exact Ef0.store (i := 13) rfl rfl rfl ag_48 rfl (by simp) | exact Ef0.store (i := 14) rfl rfl rfl ag_48 rfl (by simp) | exact Ef0.store (i := 15) rfl rfl rfl ag_48 rfl (by simp) | exact Ef0.store (i := 16) rfl rfl rfl ag_48 rfl (by simp) | exact Ef0.store (i := 17) rfl rfl rfl ag_48 rfl (by simp) | exact Ef0.store (i := 18) rfl rfl rfl ag_48 rfl (by simp) | exact Ef0.store (i := 19) rfl rfl rfl ag_48 rfl (by simp)) ?_
      try dsimp only [setR, List.set, setRow2]
      first | refine SL.nil_then ?_ | refine SL.nil ?_
      repeat (first | refine EX.in_normal ?_)
      first | refine EX.then_normal ?_ | skip
      refine EX.roundNormal hLP (i := 2) rfl (fun w2 hw => .inl ⟨rfl, (⟨q'.list ++ [y], wrX ts x k q'.worst⟩, b128.1, b128.2), ⟨by rw [setsX_succ hset, oneX_new hmay hmis (by rw [hy]; exact hin) (by omega), hy], hWn, by dsimp only; omega, by dsimp only; rw [getD_app hal]; exact hax⟩, by
        dsimp only [HsW]
        rw [hlapp]
        exact hw.pick [2, 3, 4, 5, 6, 7, 8, 9, 10, 11, 12, 13, 14, 15, 16, 17, 18, 19] rfl rfl⟩)
    · obtain ⟨q', lb', lc'⟩ := s
      obtain ⟨hset, hWI', hal⟩ := hs
      dsimp only [HsW] at hset hWI' hal ⊢
      have hlen20 := hWI.len
      repeat (first | refine EX.in_normal ?_)
      first | refine EX.then_normal ?_ | skip
      repeat (refine CW.seq ?_)
      refine CW.region ?_
      refine SL.val rfl rfl (Gd.g0 rfl) ((by first | exact Yd.load rfl ag_3 (Wd.cell (i := 0) rfl rfl) | exact Yd.load rfl ag_3 (Wd.cell (i := 1) rfl rfl) | exact Yd.load rfl ag_3 (Wd.cell (i := 2) rfl rfl) | exact Yd.load rfl ag_3 (Wd.cell (i := 3) rfl rfl) | exact Yd.load rfl ag_3 (Wd.cell (i := 4) rfl rfl) | exact Yd.load rfl ag_3 (Wd.cell (i := 5) rfl rfl) | exact Yd.load rfl ag_3 (Wd.cell (i := 6) rfl rfl) | exact Yd.load rfl ag_3 (Wd.cell (i := 7) rfl rfl) | exact Yd.load rfl ag_3 (Wd.cell (i := 8) rfl rfl) | exact Yd.load rfl ag_3 (Wd.cell (i := 9) rfl rfl) | exact Yd.load rfl ag_3 (Wd.cell (i := 10) rfl rfl) | exact Yd.load rfl ag_3 (Wd.cell (i := 11) rfl rfl) | exact Yd.load rfl ag_3 (Wd.cell (i := 12) rfl rfl) | exact Yd.load rfl ag_3 (Wd.cell (i := 13) rfl rfl) | exact Yd.load rfl ag_3 (Wd.cell (i := 14) rfl rfl) | exact Yd.load rfl ag_3 (Wd.cell (i := 15) rfl rfl) | exact Yd.load rfl ag_3 (Wd.cell (i := 16) rfl rfl) | exact Yd.load rfl ag_3 (Wd.cell (i := 17) rfl rfl) | exact Yd.load rfl ag_3 (Wd.cell (i := 18) rfl rfl) | exact Yd.load rfl ag_3 (Wd.cell (i := 19) rfl rfl))) ?_
      first | refine SL.nil_then ?_ | refine SL.nil ?_
      repeat (refine CW.seq ?_)
      refine CW.region ?_
      refine SL.efD rfl rfl (Gd.g0 rfl) (Ef.alloc zl_3) (fun b14 => ?_)
      try dsimp only [Value.cells, List.flatMap_cons, List.flatMap_nil]
      refine SL.ef0 rfl (Gd.g0 rfl) (by first | exact Ef0.store (i := 0) rfl rfl rfl ag_3 rfl (by simp) | exact Ef0.store (i := 1) rfl rfl rfl ag_3 rfl (by simp) | exact Ef0.store (i := 2) rfl rfl rfl ag_3 rfl (by simp) | exact Ef0.store (i := 3) rfl rfl rfl ag_3 rfl (by simp) | exact Ef0.store (i := 4) rfl rfl rfl ag_3 rfl (by simp) | exact Ef0.store (i := 5) rfl rfl rfl ag_3 rfl (by simp) | exact Ef0.store (i := 6) rfl rfl rfl ag_3 rfl (by simp) | exact Ef0.store (i := 7) rfl rfl rfl ag_3 rfl (by simp) | exact Ef0.store (i := 8) rfl rfl rfl ag_3 rfl (by simp) | exact Ef0.store (i := 9) rfl rfl rfl ag_3 rfl (by simp) | exact Ef0.store (i := 10) rfl rfl rfl ag_3 rfl (by simp) | exact Ef0.store (i := 11) rfl rfl rfl ag_3 rfl (by simp) | exact Ef0.store (i := 12) rfl rfl rfl ag_3 rfl (by simp) | exact Ef0.store (i := 13) rfl rfl rfl ag_3 rfl (by simp) | exact Ef0.store (i := 14) rfl rfl rfl ag_3 rfl (by simp) | exact Ef0.store (i := 15) rfl rfl rfl ag_3 rfl (by simp) | exact Ef0.store (i := 16) rfl rfl rfl ag_3 rfl (by simp) | exact Ef0.store (i := 17) rfl rfl rfl ag_3 rfl (by simp) | exact Ef0.store (i := 18) rfl rfl rfl ag_3 rfl (by simp) | exact Ef0.store (i := 19) rfl rfl rfl ag_3 rfl (by simp)) ?_
      try dsimp only [setR, List.set, setRow2]
      first | refine SL.nil_then ?_ | refine SL.nil ?_
      repeat (refine CW.seq ?_)
      refine CW.region ?_
      refine SL.val rfl rfl (Gd.g0 rfl) ((by first | exact Yd.load rfl ag_3 (Wd.cell (i := 0) rfl rfl) | exact Yd.load rfl ag_3 (Wd.cell (i := 1) rfl rfl) | exact Yd.load rfl ag_3 (Wd.cell (i := 2) rfl rfl) | exact Yd.load rfl ag_3 (Wd.cell (i := 3) rfl rfl) | exact Yd.load rfl ag_3 (Wd.cell (i := 4) rfl rfl) | exact Yd.load rfl ag_3 (Wd.cell (i := 5) rfl rfl) | exact Yd.load rfl ag_3 (Wd.cell (i := 6) rfl rfl) | exact Yd.load rfl ag_3 (Wd.cell (i := 7) rfl rfl) | exact Yd.load rfl ag_3 (Wd.cell (i := 8) rfl rfl) | exact Yd.load rfl ag_3 (Wd.cell (i := 9) rfl rfl) | exact Yd.load rfl ag_3 (Wd.cell (i := 10) rfl rfl) | exact Yd.load rfl ag_3 (Wd.cell (i := 11) rfl rfl) | exact Yd.load rfl ag_3 (Wd.cell (i := 12) rfl rfl) | exact Yd.load rfl ag_3 (Wd.cell (i := 13) rfl rfl) | exact Yd.load rfl ag_3 (Wd.cell (i := 14) rfl rfl) | exact Yd.load rfl ag_3 (Wd.cell (i := 15) rfl rfl) | exact Yd.load rfl ag_3 (Wd.cell (i := 16) rfl rfl) | exact Yd.load rfl ag_3 (Wd.cell (i := 17) rfl rfl) | exact Yd.load rfl ag_3 (Wd.cell (i := 18) rfl rfl) | exact Yd.load rfl ag_3 (Wd.cell (i := 19) rfl rfl))) ?_
      refine SL.val rfl rfl (Gd.g0 rfl) ((by first | exact Yd.inc rfl (by omega) | exact Yd.add rfl rfl (by omega) | exact Yd.addW rfl rfl)) ?_
      refine SL.ef0 rfl (Gd.g0 rfl) (by first | exact Ef0.store (i := 0) rfl rfl rfl ag_3 rfl (by simp) | exact Ef0.store (i := 1) rfl rfl rfl ag_3 rfl (by simp) | exact Ef0.store (i := 2) rfl rfl rfl ag_3 rfl (by simp) | exact Ef0.store (i := 3) rfl rfl rfl ag_3 rfl (by simp) | exact Ef0.store (i := 4) rfl rfl rfl ag_3 rfl (by simp) | exact Ef0.store (i := 5) rfl rfl rfl ag_3 rfl (by simp) | exact Ef0.store (i := 6) rfl rfl rfl ag_3 rfl (by simp) | exact Ef0.store (i := 7) rfl rfl rfl ag_3 rfl (by simp) | exact Ef0.store (i := 8) rfl rfl rfl ag_3 rfl (by simp) | exact Ef0.store (i := 9) rfl rfl rfl ag_3 rfl (by simp) | exact Ef0.store (i := 10) rfl rfl rfl ag_3 rfl (by simp) | exact Ef0.store (i := 11) rfl rfl rfl ag_3 rfl (by simp) | exact Ef0.store (i := 12) rfl rfl rfl ag_3 rfl (by simp) | exact Ef0.store (i := 13) rfl rfl rfl ag_3 rfl (by simp) | exact Ef0.store (i := 14) rfl rfl rfl ag_3 rfl (by simp) | exact Ef0.store (i := 15) rfl rfl rfl ag_3 rfl (by simp) | exact Ef0.store (i := 16) rfl rfl rfl ag_3 rfl (by simp) | exact Ef0.store (i := 17) rfl rfl rfl ag_3 rfl (by simp) | exact Ef0.store (i := 18) rfl rfl rfl ag_3 rfl (by simp) | exact Ef0.store (i := 19) rfl rfl rfl ag_3 rfl (by simp)) ?_
      try dsimp only [setR, List.set, setRow2]
      first | refine SL.nil_then ?_ | refine SL.nil ?_
      refine EX.roundM (σ := PS) (s := ⟨a, q, lb, lc, 0, ms⟩) ⟨a + 1, q', lb', lc', b14, d :: ms⟩ ⟨hWI', by dsimp only; omega, ?_⟩ (by dsimp only; omega) rfl (Sub.cons rfl rfl (Sub.cons rfl rfl (Sub.cons rfl rfl (Sub.cons rfl rfl (Sub.cons rfl rfl (Sub.cons rfl rfl (Sub.cons rfl rfl (Sub.cons rfl rfl (Sub.cons rfl rfl Sub.nil))))))))) (fun w2 h => h.pick [1, 0, 3, 4, 5, 6, 7, 8, 9, 10, 11, 12, 13, 14, 15] rfl rfl)
      rw [hout, show 20001 - a = (20001 - (a + 1)) + 1 by omega]
      exact outX_go halt (by rw [hx]; exact hset)
    · have hlen20 := hWI.len
      refine CW.ret ?_
      repeat (first | refine EX.then_ret ?_ | refine EX.in_ret ?_)
      refine EX.outM (i := 0) (rs := _) rfl rfl (ResA.cell rfl (fun w hw => (by first | exact run_load1 ag_25 (Wd.cell (i := 0) rfl rfl w hw) | exact run_load1 ag_25 (Wd.cell (i := 1) rfl rfl w hw) | exact run_load1 ag_25 (Wd.cell (i := 2) rfl rfl w hw) | exact run_load1 ag_25 (Wd.cell (i := 3) rfl rfl w hw) | exact run_load1 ag_25 (Wd.cell (i := 4) rfl rfl w hw) | exact run_load1 ag_25 (Wd.cell (i := 5) rfl rfl w hw) | exact run_load1 ag_25 (Wd.cell (i := 6) rfl rfl w hw) | exact run_load1 ag_25 (Wd.cell (i := 7) rfl rfl w hw) | exact run_load1 ag_25 (Wd.cell (i := 8) rfl rfl w hw) | exact run_load1 ag_25 (Wd.cell (i := 9) rfl rfl w hw) | exact run_load1 ag_25 (Wd.cell (i := 10) rfl rfl w hw) | exact run_load1 ag_25 (Wd.cell (i := 11) rfl rfl w hw) | exact run_load1 ag_25 (Wd.cell (i := 12) rfl rfl w hw) | exact run_load1 ag_25 (Wd.cell (i := 13) rfl rfl w hw) | exact run_load1 ag_25 (Wd.cell (i := 14) rfl rfl w hw) | exact run_load1 ag_25 (Wd.cell (i := 15) rfl rfl w hw) | exact run_load1 ag_25 (Wd.cell (i := 16) rfl rfl w hw) | exact run_load1 ag_25 (Wd.cell (i := 17) rfl rfl w hw) | exact run_load1 ag_25 (Wd.cell (i := 18) rfl rfl w hw) | exact run_load1 ag_25 (Wd.cell (i := 19) rfl rfl w hw))) (ResA.cell rfl (fun w hw => (by first | exact run_load1 ag_3 (Wd.cell (i := 0) rfl rfl w hw) | exact run_load1 ag_3 (Wd.cell (i := 1) rfl rfl w hw) | exact run_load1 ag_3 (Wd.cell (i := 2) rfl rfl w hw) | exact run_load1 ag_3 (Wd.cell (i := 3) rfl rfl w hw) | exact run_load1 ag_3 (Wd.cell (i := 4) rfl rfl w hw) | exact run_load1 ag_3 (Wd.cell (i := 5) rfl rfl w hw) | exact run_load1 ag_3 (Wd.cell (i := 6) rfl rfl w hw) | exact run_load1 ag_3 (Wd.cell (i := 7) rfl rfl w hw) | exact run_load1 ag_3 (Wd.cell (i := 8) rfl rfl w hw) | exact run_load1 ag_3 (Wd.cell (i := 9) rfl rfl w hw) | exact run_load1 ag_3 (Wd.cell (i := 10) rfl rfl w hw) | exact run_load1 ag_3 (Wd.cell (i := 11) rfl rfl w hw) | exact run_load1 ag_3 (Wd.cell (i := 12) rfl rfl w hw) | exact run_load1 ag_3 (Wd.cell (i := 13) rfl rfl w hw) | exact run_load1 ag_3 (Wd.cell (i := 14) rfl rfl w hw) | exact run_load1 ag_3 (Wd.cell (i := 15) rfl rfl w hw) | exact run_load1 ag_3 (Wd.cell (i := 16) rfl rfl w hw) | exact run_load1 ag_3 (Wd.cell (i := 17) rfl rfl w hw) | exact run_load1 ag_3 (Wd.cell (i := 18) rfl rfl w hw) | exact run_load1 ag_3 (Wd.cell (i := 19) rfl rfl w hw))) (ResA.cell rfl (fun w hw => (by first | exact run_load1 ag_4 (Wd.cell (i := 0) rfl rfl w hw) | exact run_load1 ag_4 (Wd.cell (i := 1) rfl rfl w hw) | exact run_load1 ag_4 (Wd.cell (i := 2) rfl rfl w hw) | exact run_load1 ag_4 (Wd.cell (i := 3) rfl rfl w hw) | exact run_load1 ag_4 (Wd.cell (i := 4) rfl rfl w hw) | exact run_load1 ag_4 (Wd.cell (i := 5) rfl rfl w hw) | exact run_load1 ag_4 (Wd.cell (i := 6) rfl rfl w hw) | exact run_load1 ag_4 (Wd.cell (i := 7) rfl rfl w hw) | exact run_load1 ag_4 (Wd.cell (i := 8) rfl rfl w hw) | exact run_load1 ag_4 (Wd.cell (i := 9) rfl rfl w hw) | exact run_load1 ag_4 (Wd.cell (i := 10) rfl rfl w hw) | exact run_load1 ag_4 (Wd.cell (i := 11) rfl rfl w hw) | exact run_load1 ag_4 (Wd.cell (i := 12) rfl rfl w hw) | exact run_load1 ag_4 (Wd.cell (i := 13) rfl rfl w hw) | exact run_load1 ag_4 (Wd.cell (i := 14) rfl rfl w hw) | exact run_load1 ag_4 (Wd.cell (i := 15) rfl rfl w hw) | exact run_load1 ag_4 (Wd.cell (i := 16) rfl rfl w hw) | exact run_load1 ag_4 (Wd.cell (i := 17) rfl rfl w hw) | exact run_load1 ag_4 (Wd.cell (i := 18) rfl rfl w hw) | exact run_load1 ag_4 (Wd.cell (i := 19) rfl rfl w hw))) (ResA.cell rfl (fun w hw => (by first | exact run_load1 ag_26 (Wd.cell (i := 0) rfl rfl w hw) | exact run_load1 ag_26 (Wd.cell (i := 1) rfl rfl w hw) | exact run_load1 ag_26 (Wd.cell (i := 2) rfl rfl w hw) | exact run_load1 ag_26 (Wd.cell (i := 3) rfl rfl w hw) | exact run_load1 ag_26 (Wd.cell (i := 4) rfl rfl w hw) | exact run_load1 ag_26 (Wd.cell (i := 5) rfl rfl w hw) | exact run_load1 ag_26 (Wd.cell (i := 6) rfl rfl w hw) | exact run_load1 ag_26 (Wd.cell (i := 7) rfl rfl w hw) | exact run_load1 ag_26 (Wd.cell (i := 8) rfl rfl w hw) | exact run_load1 ag_26 (Wd.cell (i := 9) rfl rfl w hw) | exact run_load1 ag_26 (Wd.cell (i := 10) rfl rfl w hw) | exact run_load1 ag_26 (Wd.cell (i := 11) rfl rfl w hw) | exact run_load1 ag_26 (Wd.cell (i := 12) rfl rfl w hw) | exact run_load1 ag_26 (Wd.cell (i := 13) rfl rfl w hw) | exact run_load1 ag_26 (Wd.cell (i := 14) rfl rfl w hw) | exact run_load1 ag_26 (Wd.cell (i := 15) rfl rfl w hw) | exact run_load1 ag_26 (Wd.cell (i := 16) rfl rfl w hw) | exact run_load1 ag_26 (Wd.cell (i := 17) rfl rfl w hw) | exact run_load1 ag_26 (Wd.cell (i := 18) rfl rfl w hw) | exact run_load1 ag_26 (Wd.cell (i := 19) rfl rfl w hw))) ResA.nil)))) (fun w2 hw => ?_) (by first | exact Or.inl rfl | exact Or.inr rfl)
      refine ⟨hw.drop.below, .inr (.inr ⟨hlong, hns, hpos, hvl, ?_⟩)⟩
      rw [show 20001 - a = (20001 - (a + 1)) + 1 by omega] at hout
      rcases hc with ⟨rfl, hc⟩ | ⟨rfl, hc⟩
      · rw [hout, outX_end (r := .no) trivial halt (by rw [hx]; exact hc)]; exact rfl
      · rw [hout, outX_end (r := .long) trivial halt (by rw [hx]; exact hc)]; exact rfl
  refine CW.exit ?_
  repeat (first | refine EX.then_exit ?_ | refine EX.in_exit rfl ?_ | refine EX.in_exit_ne rfl ?_)
  first | refine EX.then_normal ?_ | skip
  have hdone := outX_done (ts := ts) (f := 20001 - a) (a := a) (q := q) (by omega)
  repeat (refine CW.seq ?_)
  refine CW.draw [(Tb w [], []), ((Rs.row b11 [.slice (some ⟨b63, 0, none⟩) ts.length ts.length] 25).ok, []), ((Rs.row b13 [.slice (some ⟨lb, 0, none⟩) q.list.length lc] 48).ok, [])] mixed (fun w hw => hw.drew) (fun w hw => ⟨(by exact fun _ => hw.tb), (by first | exact fun _ => hw.tb | exact hw.k 0 rfl | exact hw.k 1 rfl | exact hw.k 2 rfl | exact hw.k 3 rfl | exact hw.k 4 rfl | exact hw.k 5 rfl | exact hw.k 6 rfl | exact hw.k 7 rfl | exact hw.k 8 rfl | exact hw.k 9 rfl | exact hw.k 10 rfl | exact hw.k 11 rfl | exact hw.k 12 rfl | exact hw.k 13 rfl | exact hw.k 14 rfl | exact hw.k 15 rfl | exact hw.k 16 rfl | exact hw.k 17 rfl | exact hw.k 18 rfl | exact hw.k 19 rfl | exact SG.gone (by kernel_rfl)), (by first | exact fun _ => hw.tb | exact hw.k 0 rfl | exact hw.k 1 rfl | exact hw.k 2 rfl | exact hw.k 3 rfl | exact hw.k 4 rfl | exact hw.k 5 rfl | exact hw.k 6 rfl | exact hw.k 7 rfl | exact hw.k 8 rfl | exact hw.k 9 rfl | exact hw.k 10 rfl | exact hw.k 11 rfl | exact hw.k 12 rfl | exact hw.k 13 rfl | exact hw.k 14 rfl | exact hw.k 15 rfl | exact hw.k 16 rfl | exact hw.k 17 rfl | exact hw.k 18 rfl | exact hw.k 19 rfl | exact SG.gone (by kernel_rfl)), trivial⟩) ?_
  first | refine DL.take 0 rfl (by kernel_rfl) (by kernel_rfl) (by kernel_rfl) (by kernel_rfl) (by kernel_rfl) rfl rfl (Gd.g0 rfl) (held 0 1 rfl (by kernel_rfl)) (Yd.load rfl ag_25 (row_cell rfl)) ?_ | refine DL.take 0 rfl (by kernel_rfl) (by kernel_rfl) (by kernel_rfl) (by kernel_rfl) (by kernel_rfl) rfl rfl (Gd.g0 rfl) (held 0 2 rfl (by kernel_rfl)) (Yd.load rfl ag_25 (row_cell rfl)) ?_ | refine DL.take 0 rfl (by kernel_rfl) (by kernel_rfl) (by kernel_rfl) (by kernel_rfl) (by kernel_rfl) rfl rfl (Gd.g0 rfl) (held 0 3 rfl (by kernel_rfl)) (Yd.load rfl ag_25 (row_cell rfl)) ?_ | refine DL.take 0 rfl (by kernel_rfl) (by kernel_rfl) (by kernel_rfl) (by kernel_rfl) (by kernel_rfl) rfl rfl (Gd.g0 rfl) (held 0 4 rfl (by kernel_rfl)) (Yd.load rfl ag_25 (row_cell rfl)) ?_ | refine DL.take 0 rfl (by kernel_rfl) (by kernel_rfl) (by kernel_rfl) (by kernel_rfl) (by kernel_rfl) rfl rfl (Gd.g0 rfl) (held 0 5 rfl (by kernel_rfl)) (Yd.load rfl ag_25 (row_cell rfl)) ?_
  first | refine DL.take 1 rfl (by kernel_rfl) (by kernel_rfl) (by kernel_rfl) (by kernel_rfl) (by kernel_rfl) rfl rfl (Gd.g0 rfl) (held 1 1 rfl (by kernel_rfl)) (Yd.load rfl ag_48 (row_cell rfl)) ?_ | refine DL.take 1 rfl (by kernel_rfl) (by kernel_rfl) (by kernel_rfl) (by kernel_rfl) (by kernel_rfl) rfl rfl (Gd.g0 rfl) (held 1 2 rfl (by kernel_rfl)) (Yd.load rfl ag_48 (row_cell rfl)) ?_ | refine DL.take 1 rfl (by kernel_rfl) (by kernel_rfl) (by kernel_rfl) (by kernel_rfl) (by kernel_rfl) rfl rfl (Gd.g0 rfl) (held 1 3 rfl (by kernel_rfl)) (Yd.load rfl ag_48 (row_cell rfl)) ?_ | refine DL.take 1 rfl (by kernel_rfl) (by kernel_rfl) (by kernel_rfl) (by kernel_rfl) (by kernel_rfl) rfl rfl (Gd.g0 rfl) (held 1 4 rfl (by kernel_rfl)) (Yd.load rfl ag_48 (row_cell rfl)) ?_ | refine DL.take 1 rfl (by kernel_rfl) (by kernel_rfl) (by kernel_rfl) (by kernel_rfl) (by kernel_rfl) rfl rfl (Gd.g0 rfl) (held 1 5 rfl (by kernel_rfl)) (Yd.load rfl ag_48 (row_cell rfl)) ?_
  refine DL.take 2 rfl (by kernel_rfl) (by kernel_rfl) (by kernel_rfl) (by kernel_rfl) (by kernel_rfl) rfl rfl (Gd.g0 rfl) (heldN 2) (Yd.lenSl rfl isl_48) ?_
  refine DL.ready1 (i := 3) (by kernel_rfl) ?_
  refine D1.ef0 rfl rfl (Gd.g0 rfl) (by first | exact Ef0.store (i := 0) rfl rfl rfl ag_25 rfl (by simp) | exact Ef0.store (i := 1) rfl rfl rfl ag_25 rfl (by simp) | exact Ef0.store (i := 2) rfl rfl rfl ag_25 rfl (by simp) | exact Ef0.store (i := 3) rfl rfl rfl ag_25 rfl (by simp) | exact Ef0.store (i := 4) rfl rfl rfl ag_25 rfl (by simp) | exact Ef0.store (i := 5) rfl rfl rfl ag_25 rfl (by simp) | exact Ef0.store (i := 6) rfl rfl rfl ag_25 rfl (by simp) | exact Ef0.store (i := 7) rfl rfl rfl ag_25 rfl (by simp) | exact Ef0.store (i := 8) rfl rfl rfl ag_25 rfl (by simp) | exact Ef0.store (i := 9) rfl rfl rfl ag_25 rfl (by simp) | exact Ef0.store (i := 10) rfl rfl rfl ag_25 rfl (by simp) | exact Ef0.store (i := 11) rfl rfl rfl ag_25 rfl (by simp) | exact Ef0.store (i := 12) rfl rfl rfl ag_25 rfl (by simp) | exact Ef0.store (i := 13) rfl rfl rfl ag_25 rfl (by simp) | exact Ef0.store (i := 14) rfl rfl rfl ag_25 rfl (by simp) | exact Ef0.store (i := 15) rfl rfl rfl ag_25 rfl (by simp) | exact Ef0.store (i := 16) rfl rfl rfl ag_25 rfl (by simp) | exact Ef0.store (i := 17) rfl rfl rfl ag_25 rfl (by simp) | exact Ef0.store (i := 18) rfl rfl rfl ag_25 rfl (by simp) | exact Ef0.store (i := 19) rfl rfl rfl ag_25 rfl (by simp)) (fun w hw => ⟨(by exact fun _ => hw.tb), (by first | exact fun _ => hw.tb | exact hw.k 0 rfl | exact hw.k 1 rfl | exact hw.k 2 rfl | exact hw.k 3 rfl | exact hw.k 4 rfl | exact hw.k 5 rfl | exact hw.k 6 rfl | exact hw.k 7 rfl | exact hw.k 8 rfl | exact hw.k 9 rfl | exact hw.k 10 rfl | exact hw.k 11 rfl | exact hw.k 12 rfl | exact hw.k 13 rfl | exact hw.k 14 rfl | exact hw.k 15 rfl | exact hw.k 16 rfl | exact hw.k 17 rfl | exact hw.k 18 rfl | exact hw.k 19 rfl | exact SG.gone (by kernel_rfl)), (by first | exact fun _ => hw.tb | exact hw.k 0 rfl | exact hw.k 1 rfl | exact hw.k 2 rfl | exact hw.k 3 rfl | exact hw.k 4 rfl | exact hw.k 5 rfl | exact hw.k 6 rfl | exact hw.k 7 rfl | exact hw.k 8 rfl | exact hw.k 9 rfl | exact hw.k 10 rfl | exact hw.k 11 rfl | exact hw.k 12 rfl | exact hw.k 13 rfl | exact hw.k 14 rfl | exact hw.k 15 rfl | exact hw.k 16 rfl | exact hw.k 17 rfl | exact hw.k 18 rfl | exact hw.k 19 rfl | exact SG.gone (by kernel_rfl)), trivial⟩) ?_
  try dsimp only [setR, List.set, setRow2]
  refine DL.ready1 (i := 4) (by kernel_rfl) ?_
  refine D1.ef0 rfl rfl (Gd.g0 rfl) (by first | exact Ef0.store (i := 0) rfl rfl rfl ag_3 rfl (by simp) | exact Ef0.store (i := 1) rfl rfl rfl ag_3 rfl (by simp) | exact Ef0.store (i := 2) rfl rfl rfl ag_3 rfl (by simp) | exact Ef0.store (i := 3) rfl rfl rfl ag_3 rfl (by simp) | exact Ef0.store (i := 4) rfl rfl rfl ag_3 rfl (by simp) | exact Ef0.store (i := 5) rfl rfl rfl ag_3 rfl (by simp) | exact Ef0.store (i := 6) rfl rfl rfl ag_3 rfl (by simp) | exact Ef0.store (i := 7) rfl rfl rfl ag_3 rfl (by simp) | exact Ef0.store (i := 8) rfl rfl rfl ag_3 rfl (by simp) | exact Ef0.store (i := 9) rfl rfl rfl ag_3 rfl (by simp) | exact Ef0.store (i := 10) rfl rfl rfl ag_3 rfl (by simp) | exact Ef0.store (i := 11) rfl rfl rfl ag_3 rfl (by simp) | exact Ef0.store (i := 12) rfl rfl rfl ag_3 rfl (by simp) | exact Ef0.store (i := 13) rfl rfl rfl ag_3 rfl (by simp) | exact Ef0.store (i := 14) rfl rfl rfl ag_3 rfl (by simp) | exact Ef0.store (i := 15) rfl rfl rfl ag_3 rfl (by simp) | exact Ef0.store (i := 16) rfl rfl rfl ag_3 rfl (by simp) | exact Ef0.store (i := 17) rfl rfl rfl ag_3 rfl (by simp) | exact Ef0.store (i := 18) rfl rfl rfl ag_3 rfl (by simp) | exact Ef0.store (i := 19) rfl rfl rfl ag_3 rfl (by simp)) (fun w hw => ⟨(by exact fun _ => hw.tb), (by first | exact fun _ => hw.tb | exact hw.k 0 rfl | exact hw.k 1 rfl | exact hw.k 2 rfl | exact hw.k 3 rfl | exact hw.k 4 rfl | exact hw.k 5 rfl | exact hw.k 6 rfl | exact hw.k 7 rfl | exact hw.k 8 rfl | exact hw.k 9 rfl | exact hw.k 10 rfl | exact hw.k 11 rfl | exact hw.k 12 rfl | exact hw.k 13 rfl | exact hw.k 14 rfl | exact hw.k 15 rfl | exact hw.k 16 rfl | exact hw.k 17 rfl | exact hw.k 18 rfl | exact hw.k 19 rfl | exact SG.gone (by kernel_rfl)), (by first | exact fun _ => hw.tb | exact hw.k 0 rfl | exact hw.k 1 rfl | exact hw.k 2 rfl | exact hw.k 3 rfl | exact hw.k 4 rfl | exact hw.k 5 rfl | exact hw.k 6 rfl | exact hw.k 7 rfl | exact hw.k 8 rfl | exact hw.k 9 rfl | exact hw.k 10 rfl | exact hw.k 11 rfl | exact hw.k 12 rfl | exact hw.k 13 rfl | exact hw.k 14 rfl | exact hw.k 15 rfl | exact hw.k 16 rfl | exact hw.k 17 rfl | exact hw.k 18 rfl | exact hw.k 19 rfl | exact SG.gone (by kernel_rfl)), trivial⟩) ?_
  try dsimp only [setR, List.set, setRow2]
  refine DL.ready1 (i := 5) (by kernel_rfl) ?_
  refine D1.ef0 rfl rfl (Gd.g0 rfl) (by first | exact Ef0.store (i := 0) rfl rfl rfl ag_4 rfl (by simp) | exact Ef0.store (i := 1) rfl rfl rfl ag_4 rfl (by simp) | exact Ef0.store (i := 2) rfl rfl rfl ag_4 rfl (by simp) | exact Ef0.store (i := 3) rfl rfl rfl ag_4 rfl (by simp) | exact Ef0.store (i := 4) rfl rfl rfl ag_4 rfl (by simp) | exact Ef0.store (i := 5) rfl rfl rfl ag_4 rfl (by simp) | exact Ef0.store (i := 6) rfl rfl rfl ag_4 rfl (by simp) | exact Ef0.store (i := 7) rfl rfl rfl ag_4 rfl (by simp) | exact Ef0.store (i := 8) rfl rfl rfl ag_4 rfl (by simp) | exact Ef0.store (i := 9) rfl rfl rfl ag_4 rfl (by simp) | exact Ef0.store (i := 10) rfl rfl rfl ag_4 rfl (by simp) | exact Ef0.store (i := 11) rfl rfl rfl ag_4 rfl (by simp) | exact Ef0.store (i := 12) rfl rfl rfl ag_4 rfl (by simp) | exact Ef0.store (i := 13) rfl rfl rfl ag_4 rfl (by simp) | exact Ef0.store (i := 14) rfl rfl rfl ag_4 rfl (by simp) | exact Ef0.store (i := 15) rfl rfl rfl ag_4 rfl (by simp) | exact Ef0.store (i := 16) rfl rfl rfl ag_4 rfl (by simp) | exact Ef0.store (i := 17) rfl rfl rfl ag_4 rfl (by simp) | exact Ef0.store (i := 18) rfl rfl rfl ag_4 rfl (by simp) | exact Ef0.store (i := 19) rfl rfl rfl ag_4 rfl (by simp)) (fun w hw => ⟨(by exact fun _ => hw.tb), (by first | exact fun _ => hw.tb | exact hw.k 0 rfl | exact hw.k 1 rfl | exact hw.k 2 rfl | exact hw.k 3 rfl | exact hw.k 4 rfl | exact hw.k 5 rfl | exact hw.k 6 rfl | exact hw.k 7 rfl | exact hw.k 8 rfl | exact hw.k 9 rfl | exact hw.k 10 rfl | exact hw.k 11 rfl | exact hw.k 12 rfl | exact hw.k 13 rfl | exact hw.k 14 rfl | exact hw.k 15 rfl | exact hw.k 16 rfl | exact hw.k 17 rfl | exact hw.k 18 rfl | exact hw.k 19 rfl | exact SG.gone (by kernel_rfl)), (by first | exact fun _ => hw.tb | exact hw.k 0 rfl | exact hw.k 1 rfl | exact hw.k 2 rfl | exact hw.k 3 rfl | exact hw.k 4 rfl | exact hw.k 5 rfl | exact hw.k 6 rfl | exact hw.k 7 rfl | exact hw.k 8 rfl | exact hw.k 9 rfl | exact hw.k 10 rfl | exact hw.k 11 rfl | exact hw.k 12 rfl | exact hw.k 13 rfl | exact hw.k 14 rfl | exact hw.k 15 rfl | exact hw.k 16 rfl | exact hw.k 17 rfl | exact hw.k 18 rfl | exact hw.k 19 rfl | exact SG.gone (by kernel_rfl)), trivial⟩) ?_
  try dsimp only [setR, List.set, setRow2]
  refine DL.ready1 (i := 6) (by kernel_rfl) ?_
  refine D1.ef0 rfl rfl (Gd.g0 rfl) (by first | exact Ef0.store (i := 0) rfl rfl rfl ag_26 rfl (by simp) | exact Ef0.store (i := 1) rfl rfl rfl ag_26 rfl (by simp) | exact Ef0.store (i := 2) rfl rfl rfl ag_26 rfl (by simp) | exact Ef0.store (i := 3) rfl rfl rfl ag_26 rfl (by simp) | exact Ef0.store (i := 4) rfl rfl rfl ag_26 rfl (by simp) | exact Ef0.store (i := 5) rfl rfl rfl ag_26 rfl (by simp) | exact Ef0.store (i := 6) rfl rfl rfl ag_26 rfl (by simp) | exact Ef0.store (i := 7) rfl rfl rfl ag_26 rfl (by simp) | exact Ef0.store (i := 8) rfl rfl rfl ag_26 rfl (by simp) | exact Ef0.store (i := 9) rfl rfl rfl ag_26 rfl (by simp) | exact Ef0.store (i := 10) rfl rfl rfl ag_26 rfl (by simp) | exact Ef0.store (i := 11) rfl rfl rfl ag_26 rfl (by simp) | exact Ef0.store (i := 12) rfl rfl rfl ag_26 rfl (by simp) | exact Ef0.store (i := 13) rfl rfl rfl ag_26 rfl (by simp) | exact Ef0.store (i := 14) rfl rfl rfl ag_26 rfl (by simp) | exact Ef0.store (i := 15) rfl rfl rfl ag_26 rfl (by simp) | exact Ef0.store (i := 16) rfl rfl rfl ag_26 rfl (by simp) | exact Ef0.store (i := 17) rfl rfl rfl ag_26 rfl (by simp) | exact Ef0.store (i := 18) rfl rfl rfl ag_26 rfl (by simp) | exact Ef0.store (i := 19) rfl rfl rfl ag_26 rfl (by simp)) (fun w hw => ⟨(by exact fun _ => hw.tb), (by first | exact fun _ => hw.tb | exact hw.k 0 rfl | exact hw.k 1 rfl | exact hw.k 2 rfl | exact hw.k 3 rfl | exact hw.k 4 rfl | exact hw.k 5 rfl | exact hw.k 6 rfl | exact hw.k 7 rfl | exact hw.k 8 rfl | exact hw.k 9 rfl | exact hw.k 10 rfl | exact hw.k 11 rfl | exact hw.k 12 rfl | exact hw.k 13 rfl | exact hw.k 14 rfl | exact hw.k 15 rfl | exact hw.k 16 rfl | exact hw.k 17 rfl | exact hw.k 18 rfl | exact hw.k 19 rfl | exact SG.gone (by kernel_rfl)), (by first | exact fun _ => hw.tb | exact hw.k 0 rfl | exact hw.k 1 rfl | exact hw.k 2 rfl | exact hw.k 3 rfl | exact hw.k 4 rfl | exact hw.k 5 rfl | exact hw.k 6 rfl | exact hw.k 7 rfl | exact hw.k 8 rfl | exact hw.k 9 rfl | exact hw.k 10 rfl | exact hw.k 11 rfl | exact hw.k 12 rfl | exact hw.k 13 rfl | exact hw.k 14 rfl | exact hw.k 15 rfl | exact hw.k 16 rfl | exact hw.k 17 rfl | exact hw.k 18 rfl | exact hw.k 19 rfl | exact SG.gone (by kernel_rfl)), trivial⟩) ?_
  try dsimp only [setR, List.set, setRow2]
  refine DL.done (by kernel_rfl) ?_
  first | refine EX.then_normal ?_ | skip
  refine CW.ret ?_
  repeat (first | refine EX.then_ret ?_ | refine EX.in_ret ?_)
  refine EX.outM (i := 0) (rs := _) rfl rfl (ResA.cell rfl (fun w hw => (by first | exact run_load1 ag_25 (Wd.cell (i := 0) rfl rfl w hw) | exact run_load1 ag_25 (Wd.cell (i := 1) rfl rfl w hw) | exact run_load1 ag_25 (Wd.cell (i := 2) rfl rfl w hw) | exact run_load1 ag_25 (Wd.cell (i := 3) rfl rfl w hw) | exact run_load1 ag_25 (Wd.cell (i := 4) rfl rfl w hw) | exact run_load1 ag_25 (Wd.cell (i := 5) rfl rfl w hw) | exact run_load1 ag_25 (Wd.cell (i := 6) rfl rfl w hw) | exact run_load1 ag_25 (Wd.cell (i := 7) rfl rfl w hw) | exact run_load1 ag_25 (Wd.cell (i := 8) rfl rfl w hw) | exact run_load1 ag_25 (Wd.cell (i := 9) rfl rfl w hw) | exact run_load1 ag_25 (Wd.cell (i := 10) rfl rfl w hw) | exact run_load1 ag_25 (Wd.cell (i := 11) rfl rfl w hw) | exact run_load1 ag_25 (Wd.cell (i := 12) rfl rfl w hw) | exact run_load1 ag_25 (Wd.cell (i := 13) rfl rfl w hw) | exact run_load1 ag_25 (Wd.cell (i := 14) rfl rfl w hw) | exact run_load1 ag_25 (Wd.cell (i := 15) rfl rfl w hw) | exact run_load1 ag_25 (Wd.cell (i := 16) rfl rfl w hw) | exact run_load1 ag_25 (Wd.cell (i := 17) rfl rfl w hw) | exact run_load1 ag_25 (Wd.cell (i := 18) rfl rfl w hw) | exact run_load1 ag_25 (Wd.cell (i := 19) rfl rfl w hw))) (ResA.cell rfl (fun w hw => (by first | exact run_load1 ag_3 (Wd.cell (i := 0) rfl rfl w hw) | exact run_load1 ag_3 (Wd.cell (i := 1) rfl rfl w hw) | exact run_load1 ag_3 (Wd.cell (i := 2) rfl rfl w hw) | exact run_load1 ag_3 (Wd.cell (i := 3) rfl rfl w hw) | exact run_load1 ag_3 (Wd.cell (i := 4) rfl rfl w hw) | exact run_load1 ag_3 (Wd.cell (i := 5) rfl rfl w hw) | exact run_load1 ag_3 (Wd.cell (i := 6) rfl rfl w hw) | exact run_load1 ag_3 (Wd.cell (i := 7) rfl rfl w hw) | exact run_load1 ag_3 (Wd.cell (i := 8) rfl rfl w hw) | exact run_load1 ag_3 (Wd.cell (i := 9) rfl rfl w hw) | exact run_load1 ag_3 (Wd.cell (i := 10) rfl rfl w hw) | exact run_load1 ag_3 (Wd.cell (i := 11) rfl rfl w hw) | exact run_load1 ag_3 (Wd.cell (i := 12) rfl rfl w hw) | exact run_load1 ag_3 (Wd.cell (i := 13) rfl rfl w hw) | exact run_load1 ag_3 (Wd.cell (i := 14) rfl rfl w hw) | exact run_load1 ag_3 (Wd.cell (i := 15) rfl rfl w hw) | exact run_load1 ag_3 (Wd.cell (i := 16) rfl rfl w hw) | exact run_load1 ag_3 (Wd.cell (i := 17) rfl rfl w hw) | exact run_load1 ag_3 (Wd.cell (i := 18) rfl rfl w hw) | exact run_load1 ag_3 (Wd.cell (i := 19) rfl rfl w hw))) (ResA.cell rfl (fun w hw => (by first | exact run_load1 ag_4 (Wd.cell (i := 0) rfl rfl w hw) | exact run_load1 ag_4 (Wd.cell (i := 1) rfl rfl w hw) | exact run_load1 ag_4 (Wd.cell (i := 2) rfl rfl w hw) | exact run_load1 ag_4 (Wd.cell (i := 3) rfl rfl w hw) | exact run_load1 ag_4 (Wd.cell (i := 4) rfl rfl w hw) | exact run_load1 ag_4 (Wd.cell (i := 5) rfl rfl w hw) | exact run_load1 ag_4 (Wd.cell (i := 6) rfl rfl w hw) | exact run_load1 ag_4 (Wd.cell (i := 7) rfl rfl w hw) | exact run_load1 ag_4 (Wd.cell (i := 8) rfl rfl w hw) | exact run_load1 ag_4 (Wd.cell (i := 9) rfl rfl w hw) | exact run_load1 ag_4 (Wd.cell (i := 10) rfl rfl w hw) | exact run_load1 ag_4 (Wd.cell (i := 11) rfl rfl w hw) | exact run_load1 ag_4 (Wd.cell (i := 12) rfl rfl w hw) | exact run_load1 ag_4 (Wd.cell (i := 13) rfl rfl w hw) | exact run_load1 ag_4 (Wd.cell (i := 14) rfl rfl w hw) | exact run_load1 ag_4 (Wd.cell (i := 15) rfl rfl w hw) | exact run_load1 ag_4 (Wd.cell (i := 16) rfl rfl w hw) | exact run_load1 ag_4 (Wd.cell (i := 17) rfl rfl w hw) | exact run_load1 ag_4 (Wd.cell (i := 18) rfl rfl w hw) | exact run_load1 ag_4 (Wd.cell (i := 19) rfl rfl w hw))) (ResA.cell rfl (fun w hw => (by first | exact run_load1 ag_26 (Wd.cell (i := 0) rfl rfl w hw) | exact run_load1 ag_26 (Wd.cell (i := 1) rfl rfl w hw) | exact run_load1 ag_26 (Wd.cell (i := 2) rfl rfl w hw) | exact run_load1 ag_26 (Wd.cell (i := 3) rfl rfl w hw) | exact run_load1 ag_26 (Wd.cell (i := 4) rfl rfl w hw) | exact run_load1 ag_26 (Wd.cell (i := 5) rfl rfl w hw) | exact run_load1 ag_26 (Wd.cell (i := 6) rfl rfl w hw) | exact run_load1 ag_26 (Wd.cell (i := 7) rfl rfl w hw) | exact run_load1 ag_26 (Wd.cell (i := 8) rfl rfl w hw) | exact run_load1 ag_26 (Wd.cell (i := 9) rfl rfl w hw) | exact run_load1 ag_26 (Wd.cell (i := 10) rfl rfl w hw) | exact run_load1 ag_26 (Wd.cell (i := 11) rfl rfl w hw) | exact run_load1 ag_26 (Wd.cell (i := 12) rfl rfl w hw) | exact run_load1 ag_26 (Wd.cell (i := 13) rfl rfl w hw) | exact run_load1 ag_26 (Wd.cell (i := 14) rfl rfl w hw) | exact run_load1 ag_26 (Wd.cell (i := 15) rfl rfl w hw) | exact run_load1 ag_26 (Wd.cell (i := 16) rfl rfl w hw) | exact run_load1 ag_26 (Wd.cell (i := 17) rfl rfl w hw) | exact run_load1 ag_26 (Wd.cell (i := 18) rfl rfl w hw) | exact run_load1 ag_26 (Wd.cell (i := 19) rfl rfl w hw))) ResA.nil)))) (fun w2 hw => ?_) (by first | exact Or.inl rfl | exact Or.inr rfl)
  refine ⟨hw.drop.below, .inr (.inr ⟨hlong, hns, hpos, hvl, ?_⟩)⟩
  rw [hout, hdone]
  refine ⟨_, rfl, ?_⟩
  have hcv : q.worst.map (Value.int .i64) = q.worst.flatMap cdI.cells := by induction q.worst with
    | nil => rfl
    | cons v vs ih => rw [List.map_cons, List.flatMap_cons, ih]; rfl
  have h2 := (hw.recast (i := 7) (Rs.own cdI 2 (.slice (some ⟨b63, 0, none⟩) q.worst.length q.worst.length) q.worst) rfl (fun b hb => hb) (row_own cdI q.worst hcv (by rw [hWI.wl]; simp only [maxLen]; omega))).ownBase (i := 7) rfl
  rw [hWI.wl] at h2
  exact h2
end Go.Proofs.Ytokljoajalmkfaa
