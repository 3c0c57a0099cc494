/- Part of the proof of stopwatch_explores_proved: Swr. -/
import Derived.Laws.BitsAllLaws
import Derived.Test.YtokljoajalmkfaaXeSwv
import Derived.Test.YtokljoajalmkfaaXeSxr
namespace Go.Proofs.Ytokljoajalmkfaa
open Go Go.RowKit
set_option linter.unusedVariables false
set_option linter.unusedSimpArgs false
set_option linter.unnecessarySimpa false
theorem i64_or (a b : Nat) (ha : a < 256) (hb : b < 256) : bits .or .i64 (a : Int) (b : Int) = ((a ||| b : Nat) : Int) := by
 have hx : a ||| b < 2 ^ 8 := Nat.or_lt_two_pow (by omega) (by omega)
 show IntKind.i64.wrap ((BitVec.ofInt 64 (a : Int) ||| BitVec.ofInt 64 (b : Int)).toNat : Int) = _
 rw [BitVec.toNat_or, show (BitVec.ofInt 64 (a : Int)).toNat = a by simp; omega, show (BitVec.ofInt 64 (b : Int)).toNat = b by simp; omega]
 exact IntWalk.i64_in _ (by omega)
theorem i64_andNot (a b : Nat) (ha : a < 256) (hb : b < 256) : bits .andNot .i64 (a : Int) (b : Int) = ((a &&& (2 ^ 64 - (b + 1)) : Nat) : Int) := by
 have hx : a &&& (2 ^ 64 - (b + 1)) ≤ a := Nat.and_le_left
 show IntKind.i64.wrap ((BitVec.ofInt 64 (a : Int) &&& ~~~BitVec.ofInt 64 (b : Int)).toNat : Int) = _
 rw [BitVec.toNat_and, BitVec.toNat_not, show (BitVec.ofInt 64 (a : Int)).toNat = a by simp; omega, show (BitVec.ofInt 64 (b : Int)).toNat = b by simp; omega, show 2 ^ 64 - 1 - b = 2 ^ 64 - (b + 1) by omega]
 exact IntWalk.i64_in _ (by omega)
structure FreeS (ts : List Tk) (s : Nat → Int) (k fr : Nat) : Prop where
 lt : fr < 2 ^ k
 bit : ∀ i, fr.testBit i = decide (i < k ∧ s i = (tk ts i).T)
theorem FreeS.start (ts : List Tk) (s : Nat → Int) : FreeS ts s 0 0 := ⟨by decide, fun i => by simp⟩
theorem FreeS.yes {ts : List Tk} {s : Nat → Int} {k fr : Nat} (h : FreeS ts s k fr) (hs : s k = (tk ts k).T) : FreeS ts s (k + 1) (fr ||| 2 ^ k) := by
 refine ⟨Nat.or_lt_two_pow (Nat.lt_trans h.lt (Nat.pow_lt_pow_right (by decide) (by omega))) (Nat.pow_lt_pow_right (by decide) (by omega)), fun i => ?_⟩
 rw [Nat.testBit_or, h.bit, Nat.testBit_two_pow]
 by_cases e : k = i
 ·subst e; simp [hs]
 ·have : (i < k + 1) ↔ (i < k) := by omega
  simp [e, this]
theorem FreeS.no {ts : List Tk} {s : Nat → Int} {k fr : Nat} (h : FreeS ts s k fr) (hs : ¬ s k = (tk ts k).T) : FreeS ts s (k + 1) fr := by
 refine ⟨Nat.lt_trans h.lt (Nat.pow_lt_pow_right (by decide) (by omega)), fun i => ?_⟩
 rw [h.bit]
 by_cases e : k = i
 ·subst e; simp [hs]
 ·have : (i < k + 1) ↔ (i < k) := by omega
  simp [this]
theorem FreeS.may {ts : List Tk} {s : Nat → Int} {fr set : Nat} (h : FreeS ts s ts.length fr) (h8 : ts.length ≤ 8) (hset : set < 2 ^ ts.length) (hs : ∀ j, j < ts.length → s j ≤ (tk ts j).T) :
  (bits .andNot .i64 (set : Int) (fr : Int) = 0) ↔ mayB ts s set = true := by
 have h256 : (2 : Nat) ^ ts.length ≤ 256 := Nat.le_trans (Nat.pow_le_pow_right (by decide) h8) (by decide)
 rw [i64_andNot _ _ (by omega) (by have := h.lt; omega)]
 unfold mayB
 rw [List.all_eq_true]
 constructor
 ·intro e i hi
  have hi := List.mem_range.1 hi
  have e0 : set &&& (2 ^ 64 - (fr + 1)) = 0 := by exact_mod_cast e
  have e1 : (set &&& (2 ^ 64 - (fr + 1))).testBit i = false := by rw [e0]; simp
  rw [Nat.testBit_and, Nat.testBit_two_pow_sub_succ (by have := h.lt; omega), h.bit] at e1
  have e2 : inS set i = set.testBit i := by unfold inS; rw [Nat.testBit_eq_decide_div_mod_eq]
  rw [e2]
  cases hb : set.testBit i with
  | false => rfl
  | true =>
   rw [hb] at e1
   have hii : i < 64 := by omega
   by_cases hq : s i = (tk ts i).T
   ·simp [hq]
   ·simp [hq, hii] at e1
 ·intro ha
  have : set &&& (2 ^ 64 - (fr + 1)) = 0 := by
   apply Nat.eq_of_testBit_eq
   intro i
   rw [Nat.testBit_and, Nat.testBit_two_pow_sub_succ (by have := h.lt; omega), h.bit, Nat.zero_testBit]
   cases hb : set.testBit i with
   | false => rfl
   | true =>
    have hi : i < ts.length := by
     apply Classical.byContradiction
     intro hn
     have : set.testBit i = false := Nat.testBit_lt_two_pow (Nat.lt_of_lt_of_le hset (Nat.pow_le_pow_right (by decide) (by omega)))
     rw [this] at hb; cases hb
    have q := ha i (List.mem_range.2 hi)
    have e2 : inS set i = true := by unfold inS; rw [← hb, Nat.testBit_eq_decide_div_mod_eq]
    rw [e2] at q
    have hq : ¬ s i < (tk ts i).T := by simpa using q
    have : s i = (tk ts i).T := by have := hs i hi; omega
    simp [hi, this]
  rw [this]; rfl
theorem pow_shl {k : Nat} (hk : k < 9) : IntKind.i64.wrap (1 * 2 ^ min ((k : Nat) : Int).toNat IntKind.i64.bits) = ((2 ^ k : Nat) : Int) := by
 have key : ∀ m : Fin 9, IntKind.i64.wrap (1 * 2 ^ min ((m.val : Nat) : Int).toNat IntKind.i64.bits) = ((2 ^ m.val : Nat) : Int) := by decide +kernel
 exact key ⟨k, hk⟩
set_option maxRecDepth 20000 in
/-- The iterator: yield is called for each set that may be, in their order, while it says so. -/
theorem prog_iter (v ov : Value) (ts : List Tk) (s l : Nat → Int) (r be bx bs : Nat) (w : World) (hv : TsR w v ts) (h8 : ts.length ≤ 8)
  (hbe : be < w.heap.size) (he : w.cell? ⟨be, 0, none⟩ = some (.pointer (some ⟨bx, 0, none⟩))) (hbx : bx < w.heap.size) (hx0 : w.cell? ⟨bx, 0, none⟩ = some v) (hbs : bs < w.heap.size) (hst : ∀ j u, (pR s l)[j]? = some u → w.cell? ⟨bs, 0 + j, none⟩ = some u)
  (hs : ∀ j, j < ts.length → 0 ≤ s j ∧ s j ≤ (tk ts j).T) (hT : ∀ j, j < ts.length → 0 ≤ (tk ts j).T ∧ (tk ts j).T ≤ 1000)
  (S : Nat → World → Prop) (T : World → Prop) (h0 : ∀ w', Below w.heap.size w w' → S 0 w')
  (hSe : ∀ k w, S k w → w.cell? ⟨be, 0, none⟩ = some (.pointer (some ⟨bx, 0, none⟩))) (hSx : ∀ k w, S k w → w.cell? ⟨bx, 0, none⟩ = some v)
  (hy : ∀ k w, k < 2 ^ ts.length → mayB ts s k = true → S k w → Yields Try.prog r #[.int .i64 (k : Nat)] w fun u w' => (u = .bool true ∧ S (k + 1) w') ∨ (u = .bool false ∧ T w'))
  (hn : ∀ k w, k < 2 ^ ts.length → mayB ts s k = false → S k w → S (k + 1) w) :
  Calls Try.prog 30 #[.func (.yield r) #[] #[], .pointer (some ⟨be, 0, none⟩), .pointer (some ⟨bs, 0, none⟩)] w fun e w' => ∃ v, e = .returned v ∧ (S (2 ^ ts.length) w' ∨ T w') := by
 obtain ⟨ao, cap, rfl, hle, h0t⟩ := hv.1.cells
 have h256 : (2 : Nat) ^ ts.length ≤ 256 := Nat.le_trans (Nat.pow_le_pow_right (by decide) h8) (by decide)
 refine calls_open Try.func30 rfl Try.ntmps30 rfl ?_
 dsimp only [argK]
 repeat (refine CW.seq ?_)
 refine CW.region ?_
 refine SL.val rfl rfl (Gd.g0 rfl) (Yd.assign rfl) ?_
 first | refine SL.nil_then ?_ | refine SL.nil ?_
 repeat (refine CW.seq ?_)
 refine CW.region ?_
 refine SL.val rfl rfl (Gd.g0 rfl) ((by first | exact Yd.load rfl ag_38 (Wd.cell (i := 0) rfl rfl) | exact Yd.load rfl ag_38 (Wd.cell (i := 1) rfl rfl) | exact Yd.load rfl ag_38 (Wd.cell (i := 2) rfl rfl) | exact Yd.load rfl ag_38 (Wd.cell (i := 3) rfl rfl) | exact Yd.load rfl ag_38 (Wd.cell (i := 4) rfl rfl) | exact Yd.load rfl ag_38 (Wd.cell (i := 5) rfl rfl) | exact Yd.load rfl ag_38 (Wd.inp hbe (by simp) he) | exact Yd.load rfl ag_38 (Wd.inp hbx (by simp) hx0))) ?_
 refine SL.val rfl rfl (Gd.g0 rfl) (Yd.nilCheck rfl) ?_
 refine SL.val rfl rfl (Gd.g0 rfl) (Yd.fieldAddr rfl fo_41_0) ?_
 refine SL.val rfl rfl (Gd.g0 rfl) ((by first | exact Yd.load rfl ag_22 (Wd.cell (i := 0) rfl rfl) | exact Yd.load rfl ag_22 (Wd.cell (i := 1) rfl rfl) | exact Yd.load rfl ag_22 (Wd.cell (i := 2) rfl rfl) | exact Yd.load rfl ag_22 (Wd.cell (i := 3) rfl rfl) | exact Yd.load rfl ag_22 (Wd.cell (i := 4) rfl rfl) | exact Yd.load rfl ag_22 (Wd.cell (i := 5) rfl rfl) | exact Yd.load rfl ag_22 (Wd.inp hbe (by simp) he) | exact Yd.load rfl ag_22 (Wd.inp hbx (by simp) hx0))) ?_
 refine SL.val rfl rfl (Gd.g0 rfl) (Yd.lenSl rfl isl_22) ?_
 refine SL.val rfl rfl (Gd.g0 rfl) (Yd.move rfl) ?_
 first | refine SL.nil_then ?_ | refine SL.nil ?_
 repeat (refine CW.seq ?_)
 refine CW.block ?_
 refine CW.loop (σ := Nat × Nat) (fun s2 => s2.1 ≤ ts.length ∧ FreeS ts s s2.1 s2.2) (fun s2 => [(0, .func (.yield r) #[] #[]), (1, .pointer (some ⟨be, 0, none⟩)), (2, .pointer (some ⟨bs, 0, none⟩)), (4, .int .i64 (s2.2 : Int)), (11, .slice ao ts.length cap), (12, .int .i64 (ts.length : Int)), (13, .int .i64 (s2.1 : Int))]) (fun _ => Wd w [] []) (fun s2 => ts.length - s2.1) (0, 0) ⟨by simp, FreeS.start ts s⟩ (Sub.cons rfl rfl (Sub.cons rfl rfl (Sub.cons rfl rfl (Sub.cons rfl rfl (Sub.cons rfl rfl (Sub.cons rfl rfl (Sub.cons rfl rfl Sub.nil))))))) (fun w2 h => h) ?_
 rintro ⟨k, fr⟩ ⟨hk, hfr⟩
 dsimp only at hk hfr ⊢
 repeat (refine CW.seq ?_)
 refine CW.region ?_
 refine SL.val rfl rfl (Gd.g0 rfl) (Yd.lss rfl rfl) ?_
 first | refine SL.nil_then ?_ | refine SL.nil ?_
 repeat (refine CW.seq ?_)
 refine CW.condD rfl (fun hkn => ?_) (fun hkn => ?_)
 ·refine CW.skip ?_
  repeat (first | refine EX.in_normal ?_)
  first | refine EX.then_normal ?_ | skip
  have hlt : k < ts.length := by omega
  have k8 : k < 8 := by omega
  obtain ⟨b, off, rfl, hb, hc⟩ := h0t (by omega)
  have hcs := hc k hlt
  obtain ⟨aos, caps, hsv, -⟩ := hv.secs hlt
  have hTk := hT k hlt
  have hsk := hs k hlt
  have hfy := hfr.yes
  have hfn := hfr.no
  obtain ⟨t, ht⟩ : ∃ t, tk ts k = t := ⟨_, rfl⟩
  rw [ht] at hsv hTk hsk hfy hfn
  obtain ⟨nm, T', O, D, C, pr, sv, sc⟩ := t
  obtain rfl : sv = .slice aos sc.length caps := hsv
  dsimp only at hTk hsk hfy hfn
  have hcs' : ∀ j v, [Value.string nm, .int .i64 T', .int .i64 O, .int .i64 D, .int .i64 C, .int .i64 pr, .slice aos sc.length caps][j]? = some v → w.cell? ⟨b, off + k * 7 + j, none⟩ = some v := fun j v h => hcs j v (by rw [show ge cdTk ts k = _ from ht]; exact h)
  have hXw : IntKind.i64.wrap (s k) = s k := IntWalk.i64_in _ (by omega)
  have hp8 : (2 : Nat) ^ k ≤ 128 := Nat.le_trans (Nat.pow_le_pow_right (by decide) (show k ≤ 7 by omega)) (by decide)
  have hf8 := hfr.lt
  repeat (refine CW.seq ?_)
  refine CW.block ?_
  repeat (refine CW.seq ?_)
  refine CW.region ?_
  refine SL.val rfl rfl (Gd.g0 rfl) (Yd.move rfl) ?_
  refine SL.val rfl rfl (Gd.g0 rfl) ((by first | exact Yd.indexSlN rfl rfl sl_22 (by omega) | exact Yd.indexSl rfl rfl sl_22 (by omega))) ?_
  refine SL.val rfl rfl (Gd.g0 rfl) ((by first | exact Yd.loadR (i := 0) rfl ag_37 rfl rfl | exact Yd.loadR (i := 1) rfl ag_37 rfl rfl | exact Yd.loadR (i := 2) rfl ag_37 rfl rfl | exact Yd.loadR (i := 3) rfl ag_37 rfl rfl | exact Yd.loadR (i := 4) rfl ag_37 rfl rfl | exact Yd.loadR (i := 5) rfl ag_37 rfl rfl | exact Yd.loadA rfl ag_37 rfl (Wd.inpA hb (by simp) hcs'))) ?_
  refine SL.efD rfl rfl (Gd.g0 rfl) (Ef.alloc zl_37) (fun b6 => ?_)
  try dsimp only [Value.cells, List.flatMap_cons, List.flatMap_nil]
  refine SL.val rfl rfl (Gd.g0 rfl) (Yd.assign rfl) ?_
  refine SL.ef0 rfl (Gd.g0 rfl) (by first | exact Ef0.storeA (i := 0) rfl rfl rfl ag_37 rfl rfl (by simp) | exact Ef0.storeA (i := 1) rfl rfl rfl ag_37 rfl rfl (by simp) | exact Ef0.storeA (i := 2) rfl rfl rfl ag_37 rfl rfl (by simp) | exact Ef0.storeA (i := 3) rfl rfl rfl ag_37 rfl rfl (by simp) | exact Ef0.storeA (i := 4) rfl rfl rfl ag_37 rfl rfl (by simp) | exact Ef0.storeA (i := 5) rfl rfl rfl ag_37 rfl rfl (by simp)) ?_
  try dsimp only [setR, List.set, setRow2]
  first | refine SL.nil_then ?_ | refine SL.nil ?_
  repeat (refine CW.seq ?_)
  refine CW.draw [(Tb w [], []), ((Rs.row b6 [Value.string nm, .int .i64 T', .int .i64 O, .int .i64 D, .int .i64 C, .int .i64 pr, .slice aos sc.length caps] 37).ok, [])] mixed (fun w hw => hw.drew) (fun w hw => ⟨(by first | exact fun _ => hw.tb | exact fun _ => hw.ok 0 _ rfl | exact fun _ => hw.ok 1 _ rfl | exact fun _ => hw.ok 2 _ rfl | exact fun _ => hw.ok 3 _ rfl | exact fun _ => hw.ok 4 _ rfl | exact fun _ => hw.ok 5 _ rfl | exact SG.gone (by kernel_rfl)), (by first | exact fun _ => hw.tb | exact fun _ => hw.ok 0 _ rfl | exact fun _ => hw.ok 1 _ rfl | exact fun _ => hw.ok 2 _ rfl | exact fun _ => hw.ok 3 _ rfl | exact fun _ => hw.ok 4 _ rfl | exact fun _ => hw.ok 5 _ rfl | exact SG.gone (by kernel_rfl)), trivial⟩) ?_
  refine DL.take 0 rfl (by kernel_rfl) (by kernel_rfl) (by kernel_rfl) (by kernel_rfl) (by kernel_rfl) rfl rfl (Gd.g0 rfl) (heldN 0) (Yd.move rfl) ?_
  refine DL.take 1 rfl (by kernel_rfl) (by kernel_rfl) (by kernel_rfl) (by kernel_rfl) (by kernel_rfl) rfl rfl (Gd.g0 rfl) (heldN 1) ((by first | exact Yd.mulC 2 rfl rfl (by omega) | exact Yd.mul rfl rfl (by omega) | exact Yd.mulW rfl rfl)) ?_
  refine DL.take 2 rfl (by kernel_rfl) (by kernel_rfl) (by kernel_rfl) (by kernel_rfl) (by kernel_rfl) rfl rfl (Gd.g0 rfl) (heldN 2) ((by first | exact Yd.indexArN rfl rfl ar_44 (by omega) | exact Yd.indexAr rfl rfl ar_44 (by omega))) ?_
  first | refine DL.take 3 rfl (by kernel_rfl) (by kernel_rfl) (by kernel_rfl) (by kernel_rfl) (by kernel_rfl) rfl rfl (Gd.g0 rfl) (held 3 1 rfl (by kernel_rfl)) (Yd.load rfl ag_42 (row_cell rfl)) ?_ | refine DL.take 3 rfl (by kernel_rfl) (by kernel_rfl) (by kernel_rfl) (by kernel_rfl) (by kernel_rfl) rfl rfl (Gd.g0 rfl) (held 3 2 rfl (by kernel_rfl)) (Yd.load rfl ag_42 (row_cell rfl)) ?_ | refine DL.take 3 rfl (by kernel_rfl) (by kernel_rfl) (by kernel_rfl) (by kernel_rfl) (by kernel_rfl) rfl rfl (Gd.g0 rfl) (held 3 3 rfl (by kernel_rfl)) (Yd.load rfl ag_42 (row_cell rfl)) ?_ | refine DL.take 3 rfl (by kernel_rfl) (by kernel_rfl) (by kernel_rfl) (by kernel_rfl) (by kernel_rfl) rfl rfl (Gd.g0 rfl) (held 3 4 rfl (by kernel_rfl)) (Yd.load rfl ag_42 (row_cell rfl)) ?_ | refine DL.take 3 rfl (by kernel_rfl) (by kernel_rfl) (by kernel_rfl) (by kernel_rfl) (by kernel_rfl) rfl rfl (Gd.g0 rfl) (held 3 5 rfl (by kernel_rfl)) (Yd.load rfl ag_42 (row_cell rfl)) ?_ | refine DL.take 3 rfl (by kernel_rfl) (by kernel_rfl) (by kernel_rfl) (by kernel_rfl) (by kernel_rfl) rfl rfl (Gd.g0 rfl) (held 3 0 rfl (by kernel_rfl)) (Yd.load rfl ag_42 (Tb.inp hbs (by simp) (hst (2 * k * 1) _ (by rw [show 2 * k * 1 = 2 * k by omega, pR_s _ _ k8])))) ?_
  refine DL.take 4 rfl (by kernel_rfl) (by kernel_rfl) (by kernel_rfl) (by kernel_rfl) (by kernel_rfl) rfl rfl (Gd.g0 rfl) (heldN 4) ((by first | exact Yd.convK rfl un_42 ik_2 rfl | exact Yd.convK rfl un_42 ik_2 (by assumption) | exact Yd.conv rfl un_42 ik_2)) ?_
  refine DL.take 5 rfl (by kernel_rfl) (by kernel_rfl) (by kernel_rfl) (by kernel_rfl) (by kernel_rfl) rfl rfl (Gd.g0 rfl) (heldN 5) (Yd.fieldAddr rfl fo_37_1) ?_
  first | refine DL.take 6 rfl (by kernel_rfl) (by kernel_rfl) (by kernel_rfl) (by kernel_rfl) (by kernel_rfl) rfl rfl (Gd.g0 rfl) (held 6 1 rfl (by kernel_rfl)) (Yd.load rfl ag_2 (row_cell rfl)) ?_ | refine DL.take 6 rfl (by kernel_rfl) (by kernel_rfl) (by kernel_rfl) (by kernel_rfl) (by kernel_rfl) rfl rfl (Gd.g0 rfl) (held 6 2 rfl (by kernel_rfl)) (Yd.load rfl ag_2 (row_cell rfl)) ?_ | refine DL.take 6 rfl (by kernel_rfl) (by kernel_rfl) (by kernel_rfl) (by kernel_rfl) (by kernel_rfl) rfl rfl (Gd.g0 rfl) (held 6 3 rfl (by kernel_rfl)) (Yd.load rfl ag_2 (row_cell rfl)) ?_ | refine DL.take 6 rfl (by kernel_rfl) (by kernel_rfl) (by kernel_rfl) (by kernel_rfl) (by kernel_rfl) rfl rfl (Gd.g0 rfl) (held 6 4 rfl (by kernel_rfl)) (Yd.load rfl ag_2 (row_cell rfl)) ?_ | refine DL.take 6 rfl (by kernel_rfl) (by kernel_rfl) (by kernel_rfl) (by kernel_rfl) (by kernel_rfl) rfl rfl (Gd.g0 rfl) (held 6 5 rfl (by kernel_rfl)) (Yd.load rfl ag_2 (row_cell rfl)) ?_ | refine DL.take 6 rfl (by kernel_rfl) (by kernel_rfl) (by kernel_rfl) (by kernel_rfl) (by kernel_rfl) rfl rfl (Gd.g0 rfl) (held 6 0 rfl (by kernel_rfl)) (Yd.load rfl ag_2 (Tb.inp hbs (by simp) (hst (2 * k * 1) _ (by rw [show 2 * k * 1 = 2 * k by omega, pR_s _ _ k8])))) ?_
  refine DL.take 7 rfl (by kernel_rfl) (by kernel_rfl) (by kernel_rfl) (by kernel_rfl) (by kernel_rfl) rfl rfl (Gd.g0 rfl) (heldN 7) (Yd.eql rfl rfl) ?_
  refine DL.done (by kernel_rfl) ?_
  first | refine EX.then_normal ?_ | skip
  repeat (refine CW.seq ?_)
  refine CW.condD rfl (fun hq => ?_) (fun hq => ?_)
  ·repeat (refine CW.seq ?_)
   refine CW.region ?_
   refine SL.val rfl rfl (Gd.g0 rfl) (Yd.move rfl) ?_
   refine SL.val rfl rfl (Gd.g0 rfl) (Yd.move rfl) ?_
   refine SL.val rfl rfl (Gd.g0 rfl) (Yd.shl rfl rfl (by omega)) ?_
   refine SL.val rfl rfl (Gd.g0 rfl) (Yd.bitsW rfl rfl rfl rfl) ?_
   refine SL.val rfl rfl (Gd.g0 rfl) (Yd.assign rfl) ?_
   first | refine SL.nil_then ?_ | refine SL.nil ?_
   repeat (first | refine EX.in_normal ?_)
   first | refine EX.then_normal ?_ | skip
   repeat (refine CW.seq ?_)
   refine CW.region ?_
   refine SL.val rfl rfl (Gd.g0 rfl) ((by first | exact Yd.inc rfl (by omega) | exact Yd.add rfl rfl (by omega) | exact Yd.addW rfl rfl)) ?_
   refine SL.val rfl rfl (Gd.g0 rfl) (Yd.move rfl) ?_
   first | refine SL.nil_then ?_ | refine SL.nil ?_
   refine EX.round (s := (k, fr)) (k + 1, fr ||| 2 ^ k) ⟨by omega, hfy (by omega)⟩ (by dsimp only; omega) (Sub.cons rfl rfl (Sub.cons rfl rfl (Sub.cons rfl rfl (Sub.cons rfl (by rw [pow_shl (by omega), i64_or _ _ (by omega) (by omega)]) (Sub.cons rfl rfl (Sub.cons rfl rfl (Sub.cons rfl rfl Sub.nil))))))) (fun w2 h => h.drop)
  refine CW.skip ?_
  repeat (first | refine EX.in_normal ?_)
  first | refine EX.then_normal ?_ | skip
  repeat (first | refine EX.in_normal ?_)
  first | refine EX.then_normal ?_ | skip
  repeat (refine CW.seq ?_)
  refine CW.region ?_
  refine SL.val rfl rfl (Gd.g0 rfl) ((by first | exact Yd.inc rfl (by omega) | exact Yd.add rfl rfl (by omega) | exact Yd.addW rfl rfl)) ?_
  refine SL.val rfl rfl (Gd.g0 rfl) (Yd.move rfl) ?_
  first | refine SL.nil_then ?_ | refine SL.nil ?_
  refine EX.round (s := (k, fr)) (k + 1, fr) ⟨by omega, hfn (by omega)⟩ (by dsimp only; omega) (Sub.cons rfl rfl (Sub.cons rfl rfl (Sub.cons rfl rfl (Sub.cons rfl rfl (Sub.cons rfl rfl (Sub.cons rfl rfl (Sub.cons rfl rfl Sub.nil))))))) (fun w2 h => h.drop)
 refine CW.exit ?_
 repeat (first | refine EX.then_exit ?_ | refine EX.in_exit rfl ?_ | refine EX.in_exit_ne rfl ?_)
 first | refine EX.then_normal ?_ | skip
 obtain rfl : k = ts.length := by omega
 repeat (refine CW.seq ?_)
 refine CW.region ?_
 refine SL.val rfl rfl (Gd.g0 rfl) (Yd.assign rfl) ?_
 first | refine SL.nil_then ?_ | refine SL.nil ?_
 repeat (refine CW.seq ?_)
 refine CW.block ?_
 refine CW.loop (σ := Nat) (fun j => j ≤ 2 ^ ts.length) (fun j => [(0, .func (.yield r) #[] #[]), (1, .pointer (some ⟨be, 0, none⟩)), (4, .int .i64 (fr : Int)), (7, .int .i64 (j : Int))]) S (fun j => 2 ^ ts.length - j) 0 (Nat.zero_le _) (Sub.cons rfl rfl (Sub.cons rfl rfl (Sub.cons rfl rfl (Sub.cons rfl rfl Sub.nil)))) (fun w2 h => h0 w2 h.below) ?_
 intro j hj
 repeat (refine CW.seq ?_)
 refine CW.region ?_
 refine SL.val rfl rfl (Gd.g0 rfl) (Yd.move rfl) ?_
 refine SL.val rfl rfl (Gd.g0 rfl) ((by first | exact Yd.load rfl ag_38 (Wd.cell (i := 0) rfl rfl) | exact Yd.load rfl ag_38 (Wd.cell (i := 1) rfl rfl) | exact Yd.load rfl ag_38 (Wd.cell (i := 2) rfl rfl) | exact Yd.load rfl ag_38 (Wd.cell (i := 3) rfl rfl) | exact Yd.load rfl ag_38 (Wd.cell (i := 4) rfl rfl) | exact Yd.load rfl ag_38 (Wd.cell (i := 5) rfl rfl) | exact Yd.load rfl ag_38 (hSe j) | exact Yd.load rfl ag_38 (hSx j))) ?_
 refine SL.val rfl rfl (Gd.g0 rfl) (Yd.nilCheck rfl) ?_
 refine SL.val rfl rfl (Gd.g0 rfl) (Yd.fieldAddr rfl fo_41_0) ?_
 refine SL.val rfl rfl (Gd.g0 rfl) ((by first | exact Yd.load rfl ag_22 (Wd.cell (i := 0) rfl rfl) | exact Yd.load rfl ag_22 (Wd.cell (i := 1) rfl rfl) | exact Yd.load rfl ag_22 (Wd.cell (i := 2) rfl rfl) | exact Yd.load rfl ag_22 (Wd.cell (i := 3) rfl rfl) | exact Yd.load rfl ag_22 (Wd.cell (i := 4) rfl rfl) | exact Yd.load rfl ag_22 (Wd.cell (i := 5) rfl rfl) | exact Yd.load rfl ag_22 (hSe j) | exact Yd.load rfl ag_22 (hSx j))) ?_
 refine SL.val rfl rfl (Gd.g0 rfl) (Yd.lenSl rfl isl_22) ?_
 refine SL.val rfl rfl (Gd.g0 rfl) (Yd.shl rfl rfl (by omega)) ?_
 refine SL.val rfl rfl (Gd.g0 rfl) (Yd.lss rfl rfl) ?_
 first | refine SL.nil_then ?_ | refine SL.nil ?_
 repeat (refine CW.seq ?_)
 refine CW.condD rfl (fun hjn => ?_) (fun hjn => ?_)
 ·refine CW.skip ?_
  repeat (first | refine EX.in_normal ?_)
  first | refine EX.then_normal ?_ | skip
  rw [pow_shl (by omega)] at hjn
  have hjl : j < 2 ^ ts.length := by exact_mod_cast hjn
  have hmay := hfr.may h8 hjl (fun i hi => (hs i hi).2)
  have hY : mayB ts s j = true → ∀ w2, S j w2 → Yields Try.prog r #[.int .i64 (j : Nat)] w2 fun v w' => ∃ b : Bool, True ∧ v = .bool b ∧ (if b = true then S (j + 1) w' else T w') := fun hm w2 hw2 => by
   obtain ⟨f, tm, asg, bd, q1, q2⟩ := hy j w2 hjl hm hw2
   refine ⟨f, tm, asg, bd, q1, q2.mono fun e w3 hq => ?_⟩
   obtain ⟨u, he, hu⟩ := hq
   rcases hu with ⟨rfl, hu⟩ | ⟨rfl, hu⟩
   ·exact ⟨_, he, true, trivial, rfl, by simpa using hu⟩
   ·exact ⟨_, he, false, trivial, rfl, by simpa using hu⟩
  repeat (refine CW.seq ?_)
  refine CW.block ?_
  repeat (refine CW.seq ?_)
  refine CW.region ?_
  refine SL.val rfl rfl (Gd.g0 rfl) (Yd.move rfl) ?_
  refine SL.val rfl rfl (Gd.g0 rfl) (Yd.move rfl) ?_
  refine SL.val rfl rfl (Gd.g0 rfl) (Yd.bitsW rfl rfl rfl rfl) ?_
  refine SL.val rfl rfl (Gd.g0 rfl) (Yd.eql rfl rfl) ?_
  refine SL.val rfl rfl (Gd.g0 rfl) (Yd.move rfl) ?_
  refine SL.splitD (dj := 45) rfl (fun hg45 => ?_) (fun hg45 => ?_)
  refine SL.val rfl rfl (Gd.yes rfl rfl rfl) (Yd.move rfl) ?_
  refine SL.val rfl rfl (Gd.yes rfl rfl rfl) (Yd.move rfl) ?_
  refine SL.callY (σ := Bool) (I := fun _ => True) (V := fun b => .bool b) (S' := fun b w => if b = true then S (j + 1) w else T w) rfl rfl (Gd.yes rfl rfl rfl) (Cly.value rfl rfl) (hY (hmay.1 hg45)) (fun b48 _ => ?_)
  refine SL.val rfl rfl (Gd.yes rfl rfl rfl) (Yd.not rfl) ?_
  refine SL.val rfl rfl (Gd.g0 rfl) ((by first | exact Yd.pickT rfl rfl | exact Yd.pickF rfl rfl | exact Yd.pickB rfl rfl rfl)) ?_
  first | refine SL.nil_then ?_ | refine SL.nil ?_
  rotate_left
  refine SL.unw rfl rfl (Gd.no rfl rfl rfl rfl) ?_
  refine SL.unw rfl rfl (Gd.no rfl rfl rfl rfl) ?_
  refine SL.unw rfl rfl (Gd.no rfl rfl rfl rfl) ?_
  refine SL.unw rfl rfl (Gd.no rfl rfl rfl rfl) ?_
  refine SL.val rfl rfl (Gd.g0 rfl) ((by first | exact Yd.pickT rfl rfl | exact Yd.pickF rfl rfl | exact Yd.pickB rfl rfl rfl)) ?_
  first | refine SL.nil_then ?_ | refine SL.nil ?_
  rotate_left
  ·repeat (refine CW.seq ?_)
   refine CW.cond rfl (fun hb => ?_) (fun hb => ?_)
   ·refine CW.ret ?_
    repeat (first | refine EX.then_ret ?_ | refine EX.in_ret ?_)
    obtain rfl : b48 = false := by simpa using hb
    refine EX.out (rs := _) rfl ResA.nil (fun w2 hw => ?_) (Or.inl rfl)
    exact ⟨_, rfl, .inr (by simpa using hw)⟩
   obtain rfl : b48 = true := by simpa using hb
   refine CW.skip ?_
   repeat (first | refine EX.in_normal ?_)
   first | refine EX.then_normal ?_ | skip
   repeat (first | refine EX.in_normal ?_)
   first | refine EX.then_normal ?_ | skip
   repeat (refine CW.seq ?_)
   refine CW.region ?_
   refine SL.val rfl rfl (Gd.g0 rfl) (Yd.move rfl) ?_
   refine SL.val rfl rfl (Gd.g0 rfl) ((by first | exact Yd.inc rfl (by omega) | exact Yd.add rfl rfl (by omega) | exact Yd.addW rfl rfl)) ?_
   refine SL.val rfl rfl (Gd.g0 rfl) (Yd.assign rfl) ?_
   first | refine SL.nil_then ?_ | refine SL.nil ?_
   refine EX.round (j + 1) (by omega) (by omega) (Sub.cons rfl rfl (Sub.cons rfl rfl (Sub.cons rfl rfl (Sub.cons rfl rfl Sub.nil)))) (fun w2 h => by simpa using h)
  repeat (refine CW.seq ?_)
  refine CW.condF rfl ?_
  refine CW.skip ?_
  repeat (first | refine EX.in_normal ?_)
  first | refine EX.then_normal ?_ | skip
  repeat (first | refine EX.in_normal ?_)
  first | refine EX.then_normal ?_ | skip
  repeat (refine CW.seq ?_)
  refine CW.region ?_
  refine SL.val rfl rfl (Gd.g0 rfl) (Yd.move rfl) ?_
  refine SL.val rfl rfl (Gd.g0 rfl) ((by first | exact Yd.inc rfl (by omega) | exact Yd.add rfl rfl (by omega) | exact Yd.addW rfl rfl)) ?_
  refine SL.val rfl rfl (Gd.g0 rfl) (Yd.assign rfl) ?_
  first | refine SL.nil_then ?_ | refine SL.nil ?_
  refine EX.round (j + 1) (by omega) (by omega) (Sub.cons rfl rfl (Sub.cons rfl rfl (Sub.cons rfl rfl (Sub.cons rfl rfl Sub.nil)))) (fun w2 h => hn j w2 hjl (by
   cases q : mayB ts s j with
   | false => rfl
   | true => exact absurd (hmay.2 q) hg45) h)
 refine CW.exit ?_
 repeat (first | refine EX.then_exit ?_ | refine EX.in_exit rfl ?_ | refine EX.in_exit_ne rfl ?_)
 first | refine EX.then_normal ?_ | skip
 rw [pow_shl (by omega)] at hjn
 obtain rfl : j = 2 ^ ts.length := by
  have : ¬ j < 2 ^ ts.length := fun q => hjn (by exact_mod_cast q)
  omega
 refine EX.out (rs := _) rfl ResA.nil (fun w2 hw => ?_) (Or.inr rfl)
 exact ⟨_, rfl, .inl hw⟩
end Go.Proofs.Ytokljoajalmkfaa
