/- Part of the proof of stopwatch_explores_proved: Swp. -/
import Derived.Test.YtokljoajalmkfaaXeSwr
import Derived.Test.YtokljoajalmkfaaXeSxn
import Derived.Test.YtokljoajalmkfaaXeSwy
import Derived.Test.YtokljoajalmkfaaXeSwq
import Derived.Test.YtokljoajalmkfaaXeSwe
import Derived.Test.YtokljoajalmkfaaXeSwd
namespace Go.Proofs.Ytokljoajalmkfaa
open Go Go.RowKit
set_option linter.unusedVariables false
set_option linter.unusedSimpArgs false
set_option linter.unnecessarySimpa false
theorem lS_len (s l : Nat → Int) : (lS s l).length = 16 := lV_len _ _ _
theorem stV_lS (s l : Nat → Int) : stV s l = .agg (lS s l).toArray := rfl
def cdR : Cd (List Int) := ⟨16, fun x => lS (sF x) (lF x), fun _ => lS_len _ _, []⟩
theorem laidR : laidOutB Try.prog = true := by kernel_rfl
theorem ek_ref {ts : List Tk} (h : OkS ts) : EK Try.prog 55 (fun x => .agg (lS (sF x) (lF x)).toArray) (GdX ts) := by
 refine ek_ints (q := .i64) (m := 16) laidR (by kernel_rfl) (by kernel_rfl) (by kernel_rfl) (by kernel_rfl) (by kernel_rfl) (by kernel_rfl) (fun x hx => ⟨lS_len _ _, fun c hc => ?_⟩) (fun a b ha hb e => ha.eqS hb e)
 unfold lS lV at hc
 obtain ⟨j, hj, rfl⟩ := List.mem_map.1 hc
 have hj := List.mem_range.1 hj
 refine ⟨_, rfl, ?_⟩
 dsimp only
 split
 ·have h1 := hx.s j (by omega)
  simp only [Lit.wf, Bool.and_eq_true, decide_eq_true_eq, IntKind.min, IntKind.max]; constructor <;> simp [IntKind.bits, IntKind.signed] <;> omega
 ·have h2 := hx.l (j - 8) (by omega)
  simp only [Lit.wf, Bool.and_eq_true, decide_eq_true_eq, IntKind.min, IntKind.max]; constructor <;> simp [IntKind.bits, IntKind.signed] <;> omega
theorem misB_congr {ts : List Tk} {s s' l l' : Nat → Int} (hs : ∀ j, j < ts.length → s j = s' j) (hl : ∀ j, j < ts.length → l j = l' j) : misB ts s l = misB ts s' l' := by
 unfold misB
 rw [Bool.eq_iff_iff, List.any_eq_true, List.any_eq_true]
 constructor
 ·rintro ⟨j, hj, h⟩; have := List.mem_range.1 hj; exact ⟨j, hj, by rw [← hs j this, ← hl j this]; exact h⟩
 ·rintro ⟨j, hj, h⟩; have := List.mem_range.1 hj; exact ⟨j, hj, by rw [hs j this, hl j this]; exact h⟩
structure PO where
 a : Nat
 q : Qx
 lb : Nat
 lc : Nat
def HsR (b21 b30 : Nat) (q : Qx) (lb lc : Nat) : List Rs :=
 [Rs.own cdR 55 (.slice (some ⟨lb, 0, none⟩) q.list.length lc) q.list, Rs.mp b21 (fun x : List Int => .agg (lS (sF x) (lF x)).toArray) tt1 (setM q.list), Rs.row b30 (q.worst.map (Value.int .i64)) 2]
set_option maxRecDepth 20000 in
set_option maxHeartbeats 8000000 in
theorem ref_worst (v : Value) (ts : List Tk) (w : World) (hv : TsR w v ts) : Calls Try.prog 9 #[v] w (WorE ts w) := by
 have hck : ∀ w2, Below w.heap.size w w2 → Calls Try.prog 11 #[v] w2 fun e w' => (∃ i : Int, ChkE ts (.returned (.int .i64 i)) ∧ e = .returned (.int .i64 i)) ∧ Below w2.heap.size w2 w' := fun w2 hw => (ref_check v ts w2 (hv.keepb hw)).mono fun e w' ⟨h, hb⟩ => ⟨by
  obtain ⟨i, _, rfl⟩ := h.num
  exact ⟨i, h, rfl⟩, hb⟩
 refine calls_open Try.func9 rfl Try.ntmps9 rfl ?_
 dsimp only [argK]
 repeat (refine CW.seq ?_)
 refine CW.region ?_
 refine SL.val rfl rfl (Gd.g0 rfl) (Yd.assign rfl) ?_
 refine SL.val rfl rfl (Gd.g0 rfl) (Yd.assign rfl) ?_
 refine SL.val rfl rfl (Gd.g0 rfl) (Yd.assign rfl) ?_
 refine SL.val rfl rfl (Gd.g0 rfl) (Yd.assign rfl) ?_
 first | refine SL.nil_then ?_ | refine SL.nil ?_
 repeat (refine CW.seq ?_)
 refine CW.region ?_
 refine SL.val rfl rfl (Gd.g0 rfl) (Yd.move rfl) ?_
 refine SL.callX rfl rfl (Gd.g0 rfl) (Cll.func rfl cf_11) (fun w2 hw => hck w2 hw.below) (fun en hen => ?_)
 refine SL.val rfl rfl (Gd.g0 rfl) (Yd.assign rfl) ?_
 first | refine SL.nil_then ?_ | refine SL.nil ?_
 repeat (refine CW.seq ?_)
 refine CW.region ?_
 refine SL.val rfl rfl (Gd.g0 rfl) (Yd.move rfl) ?_
 refine SL.val rfl rfl (Gd.g0 rfl) (Yd.neq rfl rfl) ?_
 first | refine SL.nil_then ?_ | refine SL.nil ?_
 repeat (refine CW.seq ?_)
 refine CW.condD rfl (fun hne => ?_) (fun hne => ?_)
 ·repeat (refine CW.seq ?_)
  refine CW.region ?_
  refine SL.val rfl rfl (Gd.g0 rfl) (Yd.move rfl) ?_
  refine SL.val rfl rfl (Gd.g0 rfl) (Yd.assign rfl) ?_
  refine SL.val rfl rfl (Gd.g0 rfl) (Yd.assign rfl) ?_
  refine SL.val rfl rfl (Gd.g0 rfl) (Yd.assign rfl) ?_
  refine SL.val rfl rfl (Gd.g0 rfl) (Yd.assign rfl) ?_
  first | refine SL.nil_then ?_ | refine SL.nil ?_
  refine CW.ret ?_
  repeat (first | refine EX.then_ret ?_ | refine EX.in_ret ?_)
  refine EX.out (rs := _) rfl (ResA.tmp rfl (ResA.tmp rfl (ResA.tmp rfl (ResA.tmp rfl ResA.nil)))) (fun w2 hw => ?_) (by first | exact Or.inl rfl | exact Or.inr rfl)
  skip
  refine ⟨hw.below, ?_⟩
  rcases hen with ⟨h1, h2⟩ | ⟨h1, ⟨h2, h3⟩ | ⟨h2, _⟩⟩
  ·injection h2 with h2; injection h2 with _ h2; subst h2; exact .inl ⟨h1, rfl⟩
  ·injection h2 with h2; injection h2 with _ h2; subst h2
   refine .inr (.inl ⟨h1, ?_, rfl⟩)
   cases q : hasS ts with
   | true => exact .inl rfl
   | false => exact .inr (h3 q)
  ·injection h2 with h2; injection h2 with _ h2; exact absurd h2 hne
 refine CW.skip ?_
 repeat (first | refine EX.in_normal ?_)
 first | refine EX.then_normal ?_ | skip
 have hval : ¬ longB ts ∧ 0 < ts.length ∧ valK ts ts.length := by
  rcases hen with ⟨h1, h2⟩ | ⟨h1, ⟨h2, h3⟩ | ⟨h2, h3, h4⟩⟩
  ·injection h2 with h2; injection h2 with _ h2; omega
  ·injection h2 with h2; injection h2 with _ h2; omega
  ·exact ⟨h1, h3, h4⟩
 obtain ⟨hlong, hpos, hvl⟩ := hval
 have hok := OkS.of hlong hpos hvl
 have h8 := hok.l8
 repeat (refine CW.seq ?_)
 refine CW.region ?_
 refine SL.val rfl rfl (Gd.g0 rfl) (Yd.move rfl) ?_
 refine SL.callB rfl rfl (Gd.g0 rfl) (Cll.func rfl cf_12) (fun w hw => ref_sections v ts w (hv.keepb hw.below)) ?_
 first | refine SL.nil_then ?_ | refine SL.nil ?_
 repeat (refine CW.seq ?_)
 refine CW.cond rfl (fun hns => ?_) (fun hns => ?_)
 ·repeat (refine CW.seq ?_)
  refine CW.region ?_
  refine SL.val rfl rfl (Gd.g0 rfl) (Yd.assign rfl) ?_
  refine SL.val rfl rfl (Gd.g0 rfl) (Yd.assign rfl) ?_
  refine SL.val rfl rfl (Gd.g0 rfl) (Yd.assign rfl) ?_
  refine SL.val rfl rfl (Gd.g0 rfl) (Yd.assign rfl) ?_
  first | refine SL.nil_then ?_ | refine SL.nil ?_
  refine CW.ret ?_
  repeat (first | refine EX.then_ret ?_ | refine EX.in_ret ?_)
  refine EX.out (rs := _) rfl (ResA.tmp rfl (ResA.tmp rfl (ResA.tmp rfl (ResA.tmp rfl ResA.nil)))) (fun w2 hw => ?_) (by first | exact Or.inl rfl | exact Or.inr rfl)
  exact ⟨hw.below, .inr (.inl ⟨hlong, .inl hns, rfl⟩)⟩
 refine CW.skip ?_
 repeat (first | refine EX.in_normal ?_)
 first | refine EX.then_normal ?_ | skip
 have hfirst : ∀ w2, Below w.heap.size w w2 → Calls Try.prog 20 #[v] w2 fun e w' => e = .returned (.agg (lS (sF (mk16 (perT ts ts.length) (fun _ => 0))) (lF (mk16 (perT ts ts.length) (fun _ => 0)))).toArray) ∧ Below w2.heap.size w2 w' := fun w2 hb => by
  have h := ref_first v ts w2 (hv.keepb hb) h8
  rw [stV_lS, ← lS_mk] at h
  exact h
 have hg0 := GdX.first hok
 obtain ⟨x0, hx0⟩ : ∃ x0, mk16 (perT ts ts.length) (fun _ => 0) = x0 := ⟨_, rfl⟩
 rw [hx0] at hg0 hfirst
 have e0 : (initX ts).list = [x0] := by rw [← hx0]; rfl
 obtain ⟨ao, cap, rfl, hle, h0⟩ := hv.1.cells
 repeat (refine CW.seq ?_)
 refine CW.region ?_
 refine SL.efD rfl rfl (Gd.g0 rfl) (Ef.makeSet (fun x : List Int => .agg (lS (sF x) (lF x)).toArray)) (fun b21 => ?_)
 try dsimp only [setR]
 refine SL.val rfl rfl (Gd.g0 rfl) (Yd.move rfl) ?_
 refine SL.callB rfl rfl (Gd.g0 rfl) (Cll.func rfl cf_20) (fun w hw => hfirst w hw.below) ?_
 refine SL.ef0 rfl (Gd.g0 rfl) (Ef0.addSetI (i := 0) (k := x0) (ek_ref hok) mt_57 rfl rfl rfl rfl (fun p hp => by cases hp) hg0 (by simp)) ?_
 try dsimp only [setR]
 refine SL.val rfl rfl (Gd.g0 rfl) (Yd.move rfl) ?_
 refine SL.val rfl rfl (Gd.g0 rfl) (Yd.assign rfl) ?_
 first | refine SL.nil_then ?_ | refine SL.nil ?_
 repeat (refine CW.seq ?_)
 refine CW.region ?_
 refine SL.val rfl rfl (Gd.g0 rfl) (Yd.move rfl) ?_
 refine SL.callB rfl rfl (Gd.g0 rfl) (Cll.func rfl cf_20) (fun w hw => hfirst w hw.below) ?_
 refine SL.efD rfl rfl (Gd.g0 rfl) (Ef.buildSlice rfl se_58 rfl rfl rfl rfl) (fun b27 => ?_)
 try dsimp only [Value.cells, List.flatMap_cons, List.flatMap_nil]
 refine SL.val rfl rfl (Gd.g0 rfl) (Yd.assign rfl) ?_
 first | refine SL.nil_then ?_ | refine SL.nil ?_
 repeat (refine CW.seq ?_)
 refine CW.region ?_
 refine SL.val rfl rfl (Gd.g0 rfl) (Yd.move rfl) ?_
 refine SL.val rfl rfl (Gd.g0 rfl) (Yd.lenSl rfl isl_22) ?_
 refine SL.efD rfl rfl (Gd.g0 rfl) (Ef.makeSlice rfl rfl se_25 (by omega) (by omega)) (fun b30 => ?_)
 try dsimp only [Value.cells, List.flatMap_cons, List.flatMap_nil]
 refine SL.val rfl rfl (Gd.g0 rfl) (Yd.assign rfl) ?_
 first | refine SL.nil_then ?_ | refine SL.nil ?_
 repeat (refine CW.seq ?_)
 refine CW.region ?_
 refine SL.val rfl rfl (Gd.g0 rfl) (Yd.assign rfl) ?_
 first | refine SL.nil_then ?_ | refine SL.nil ?_
 have hmade : madeL [Value.int .i64 0] (ts.length * 1) = (initX ts).worst.map (Value.int .i64) := by
  rw [madeL_one, Nat.mul_one]; simp [initX]
 rw [hmade]
 have hm16 : ∀ x : List Int, (lS (sF x) (lF x)).toArray.toList ++ [] = [x].flatMap cdR.cells := fun x => by simp [cdR]
 have h256 : (2 : Nat) ^ ts.length ≤ 256 := Nat.le_trans (Nat.pow_le_pow_right (by decide) h8) (by decide)
 have huw : IntKind.u64.wrap ((ts.length : Nat) : Int) = ((ts.length : Nat) : Int) := IntWalk.u64_in _ (by omega)
 repeat (refine CW.seq ?_)
 refine CW.block ?_
 refine CW.loop (σ := PO) (fun s => WI ts s.q ∧ s.a ≤ s.q.list.length ∧ worstX ts = outX ts (20001 - s.a) s.a s.q)
  (fun s => [(0, .slice ao ts.length cap), (7, .map (some b21)), (8, .slice (some ⟨s.lb, 0, none⟩) s.q.list.length s.lc), (9, .slice (some ⟨b30, 0, none⟩) ts.length ts.length), (10, .int .i64 (s.a : Int))])
  (fun s => Wd w [] (HsR b21 b30 s.q s.lb s.lc)) (fun s => 20001 - s.a) ⟨0, initX ts, b27, 1⟩ ⟨WI.init hok, Nat.zero_le _, rfl⟩ (by dsimp only; rw [e0]; exact (Sub.cons rfl rfl (Sub.cons rfl rfl (Sub.cons rfl rfl (Sub.cons rfl rfl (Sub.cons rfl rfl Sub.nil)))))) (fun w2 h => by
   dsimp only [HsR]
   rw [e0]
   exact (h.recast (i := 1) (Rs.own cdR 55 (.slice (some ⟨b27, 0, none⟩) 1 1) [x0]) rfl (fun b hb => hb) (row_own cdR [x0] (hm16 x0) (by simp [maxLen]))).pick [1, 2, 0] rfl rfl) ?_
 rintro ⟨a, q, lb, lc⟩ ⟨hWI, ha, hout⟩
 dsimp only [HsR] at hWI ha hout ⊢
 repeat (refine CW.seq ?_)
 refine CW.region ?_
 refine SL.val rfl rfl (Gd.g0 rfl) (Yd.move rfl) ?_
 refine SL.val rfl rfl (Gd.g0 rfl) (Yd.move rfl) ?_
 refine SL.val rfl rfl (Gd.g0 rfl) (Yd.lenSl rfl isl_58) ?_
 refine SL.val rfl rfl (Gd.g0 rfl) (Yd.lss rfl rfl) ?_
 first | refine SL.nil_then ?_ | refine SL.nil ?_
 repeat (refine CW.seq ?_)
 refine CW.condD rfl (fun han => ?_) (fun han => ?_)
 ·refine CW.skip ?_
  repeat (first | refine EX.in_normal ?_)
  first | refine EX.then_normal ?_ | skip
  have halt : a < q.list.length := by omega
  obtain ⟨x, hx⟩ : ∃ x, q.list.getD a [] = x := ⟨_, rfl⟩
  have hxg : GdX ts x := by rw [← hx, List.getD_eq_getElem?_getD, List.getElem?_eq_getElem halt]; exact hWI.good _ (List.getElem_mem halt)
  have hlen20 := hWI.len
  have hEnd : ∀ (k : Nat) (q' : Qx) (r : Rx), isEnd r → k < 2 ^ ts.length → setsX ts x q k = .go q' → oneX ts x k q' = r → worstX ts = r := fun k q' r hr hk h1 h2 => by
   rw [hout, show 20001 - a = (20001 - (a + 1)) + 1 by omega]
   refine outX_end hr halt ?_
   rw [hx, show 2 ^ ts.length = (k + 1) + (2 ^ ts.length - (k + 1)) by omega]
   exact setsX_end hr (by rw [setsX_succ h1, h2]) _
  repeat (refine CW.seq ?_)
  refine CW.block ?_
  repeat (refine CW.seq ?_)
  refine CW.region ?_
  refine SL.val rfl rfl (Gd.g0 rfl) (Yd.assign rfl) ?_
  first | refine SL.nil_then ?_ | refine SL.nil ?_
  repeat (refine CW.seq ?_)
  refine CW.block ?_
  refine CW.loop (σ := PO) (fun s => s.a ≤ 2 ^ ts.length ∧ setsX ts x q s.a = .go s.q ∧ WI ts s.q ∧ a < s.q.list.length ∧ s.q.list.getD a [] = x)
   (fun s => [(0, .slice ao ts.length cap), (7, .map (some b21)), (8, .slice (some ⟨s.lb, 0, none⟩) s.q.list.length s.lc), (9, .slice (some ⟨b30, 0, none⟩) ts.length ts.length), (10, .int .i64 (a : Int)), (11, .int .i64 (s.a : Int))])
   (fun s => Wd w [] (HsR b21 b30 s.q s.lb s.lc)) (fun s => 2 ^ ts.length - s.a) ⟨0, q, lb, lc⟩ ⟨Nat.zero_le _, rfl, hWI, halt, hx⟩ (Sub.cons rfl rfl (Sub.cons rfl rfl (Sub.cons rfl rfl (Sub.cons rfl rfl (Sub.cons rfl rfl (Sub.cons rfl rfl Sub.nil)))))) (fun w2 h => h) ?_
  rintro ⟨k, q', lb', lc'⟩ ⟨hk, hset, hWI', hal, hax⟩
  dsimp only [HsR] at hk hset hWI' hal hax ⊢
  repeat (refine CW.seq ?_)
  refine CW.region ?_
  refine SL.val rfl rfl (Gd.g0 rfl) (Yd.move rfl) ?_
  refine SL.val rfl rfl (Gd.g0 rfl) (Yd.move rfl) ?_
  refine SL.val rfl rfl (Gd.g0 rfl) (Yd.lenSl rfl isl_22) ?_
  refine SL.val rfl rfl (Gd.g0 rfl) ((by first | exact Yd.convK rfl un_3 ik_59 rfl | exact Yd.convK rfl un_3 ik_59 (by assumption) | exact Yd.conv rfl un_3 ik_59)) ?_
  refine SL.val rfl rfl (Gd.g0 rfl) (Yd.shl rfl rfl (by omega)) ?_
  refine SL.val rfl rfl (Gd.g0 rfl) (Yd.lss rfl rfl) ?_
  first | refine SL.nil_then ?_ | refine SL.nil ?_
  repeat (refine CW.seq ?_)
  refine CW.condD rfl (fun hkn => ?_) (fun hkn => ?_)
  ·refine CW.skip ?_
   repeat (first | refine EX.in_normal ?_)
   first | refine EX.then_normal ?_ | skip
   rw [pow_shl (by omega)] at hkn
   have hklt : k < 2 ^ ts.length := by exact_mod_cast hkn
   have hk256 : k < 256 := by omega
   have hyg := GdX.next hok hxg k
   obtain ⟨y, hy⟩ : ∃ y, nxX ts x k = y := ⟨_, rfl⟩
   have hys : ∀ j, j < 8 → sF y j = tkS ts (sF x) k j := fun j hj => by rw [← hy]; exact sF_mk hj
   have hyl : ∀ j, j < 8 → lF y j = tkL ts (lF x) k j := fun j hj => by rw [← hy]; exact lF_mk hj
   have hmis2 : misB ts (sF y) (lF y) = misB ts (tkS ts (sF x) k) (tkL ts (lF x) k) := misB_congr (fun j hj => hys j (by omega)) (fun j hj => hyl j (by omega))
   have htk : ∀ w2, Below w.heap.size w w2 → Calls Try.prog 22 #[.slice ao ts.length cap, .agg (lS (sF x) (lF x)).toArray, .int .i64 (k : Nat)] w2 fun e w' => e = .returned (.tuple #[.agg (lS (sF y) (lF y)).toArray, .int .i64 (tkR ts (lF x) k)]) ∧ Below w2.heap.size w2 w' := fun w2 hb => by
    have h := ref_tick (.slice ao ts.length cap) ts (sF x) (lF x) k hk256 w2 (hv.keepb hb) h8 (fun j hj => by have := hxg.s j hj; omega) (fun j hj => by have := hxg.l j hj; omega) (fun j hj => by have := hok.C j hj; omega)
    rw [stV_lS (tkS ts (sF x) k) (tkL ts (lF x) k), ← lS_mk (tkS ts (sF x) k) (tkL ts (lF x) k)] at h
    rw [← hy]
    exact h
   have hmay : ∀ w2, Below w.heap.size w w2 → Calls Try.prog 21 #[.slice ao ts.length cap, .agg (lS (sF x) (lF x)).toArray, .int .i64 (k : Nat)] w2 fun e w' => e = .returned (.bool (mayB ts (sF x) k)) ∧ Below w2.heap.size w2 w' := fun w2 hb => ref_may (.slice ao ts.length cap) ts (sF x) (lF x) k hk256 w2 (hv.keepb hb) h8
   have hms : ∀ w2, Below w.heap.size w w2 → Calls Try.prog 23 #[.slice ao ts.length cap, .agg (lS (sF y) (lF y)).toArray] w2 fun e w' => e = .returned (.bool (misB ts (sF y) (lF y))) ∧ Below w2.heap.size w2 w' := fun w2 hb => ref_missed (.slice ao ts.length cap) ts (sF y) (lF y) w2 (hv.keepb hb) h8
   rw [hy] at hyg
   rw [hmis2] at hms
   have hld : ∀ w2, Wd w [] [Rs.own cdR 55 (.slice (some ⟨lb', 0, none⟩) q'.list.length lc') q'.list, Rs.mp b21 (fun x : List Int => .agg (lS (sF x) (lF x)).toArray) tt1 (setM q'.list), Rs.row b30 (q'.worst.map (Value.int .i64)) 2] w2 → (Rs.own cdR 55 (.slice (some ⟨lb', 0, none⟩) q'.list.length lc') q'.list).ok w2 := fun w2 h => h.ok 0 _ rfl
   repeat (refine CW.seq ?_)
   refine CW.block ?_
   repeat (refine CW.seq ?_)
   refine CW.region ?_
   refine SL.val rfl rfl (Gd.g0 rfl) (Yd.move rfl) ?_
   refine SL.val rfl rfl (Gd.g0 rfl) (Yd.move rfl) ?_
   refine SL.val rfl rfl (Gd.g0 rfl) (Yd.move rfl) ?_
   refine SL.val rfl rfl (Gd.g0 rfl) ((by first | exact Yd.indexSlN rfl rfl sl_58 (by omega) | exact Yd.indexSl rfl rfl sl_58 (by omega))) ?_
   refine SL.val rfl rfl (Gd.g0 rfl) (Yd.loadO (k := a) (cs := lS (sF x) (lF x)) rfl ag_55 hld hal rfl (by show lS (sF (q'.list.getD a [])) (lF (q'.list.getD a [])) = _; rw [hax]) (lS_len _ _)) ?_
   refine SL.val rfl rfl (Gd.g0 rfl) (Yd.move rfl) ?_
   refine SL.callB rfl rfl (Gd.g0 rfl) (Cll.func rfl cf_21) (fun w hw => hmay w hw.below) ?_
   refine SL.val rfl rfl (Gd.g0 rfl) (Yd.not rfl) ?_
   first | refine SL.nil_then ?_ | refine SL.nil ?_
   repeat (refine CW.seq ?_)
   refine CW.cond rfl (fun hmb => ?_) (fun hmb => ?_)
   ·have hmb : mayB ts (sF x) k = false := by simpa using hmb
    refine CW.exit ?_
    repeat (first | refine EX.then_exit ?_ | refine EX.in_exit rfl ?_ | refine EX.in_exit_ne rfl ?_)
    first | refine EX.then_normal ?_ | skip
    repeat (refine CW.seq ?_)
    refine CW.region ?_
    refine SL.val rfl rfl (Gd.g0 rfl) (Yd.move rfl) ?_
    refine SL.val rfl rfl (Gd.g0 rfl) ((by first | exact Yd.inc rfl (by omega) | exact Yd.add rfl rfl (by omega) | exact Yd.addW rfl rfl)) ?_
    refine SL.val rfl rfl (Gd.g0 rfl) (Yd.assign rfl) ?_
    first | refine SL.nil_then ?_ | refine SL.nil ?_
    refine EX.round (s := ⟨k, q', lb', lc'⟩) (σ := PO) ⟨k + 1, q', lb', lc'⟩ ⟨by dsimp only; omega, by rw [setsX_succ hset, oneX_not hmb], hWI', hal, hax⟩ (by dsimp only; omega) (Sub.cons rfl rfl (Sub.cons rfl rfl (Sub.cons rfl rfl (Sub.cons rfl rfl (Sub.cons rfl rfl (Sub.cons rfl rfl Sub.nil)))))) (fun w2 h => h)
   have hmb : mayB ts (sF x) k = true := by simpa using hmb
   refine CW.skip ?_
   repeat (first | refine EX.in_normal ?_)
   first | refine EX.then_normal ?_ | skip
   repeat (refine CW.seq ?_)
   refine CW.region ?_
   refine SL.val rfl rfl (Gd.g0 rfl) (Yd.move rfl) ?_
   refine SL.val rfl rfl (Gd.g0 rfl) (Yd.move rfl) ?_
   refine SL.val rfl rfl (Gd.g0 rfl) (Yd.move rfl) ?_
   refine SL.val rfl rfl (Gd.g0 rfl) ((by first | exact Yd.indexSlN rfl rfl sl_58 (by omega) | exact Yd.indexSl rfl rfl sl_58 (by omega))) ?_
   refine SL.val rfl rfl (Gd.g0 rfl) (Yd.loadO (k := a) (cs := lS (sF x) (lF x)) rfl ag_55 hld hal rfl (by show lS (sF (q'.list.getD a [])) (lF (q'.list.getD a [])) = _; rw [hax]) (lS_len _ _)) ?_
   refine SL.val rfl rfl (Gd.g0 rfl) (Yd.move rfl) ?_
   refine SL.callB rfl rfl (Gd.g0 rfl) (Cll.func rfl cf_22) (fun w hw => htk w hw.below) ?_
   refine SL.val rfl rfl (Gd.g0 rfl) (Yd.move rfl) ?_
   refine SL.val rfl rfl (Gd.g0 rfl) (Yd.extract rfl rfl) ?_
   refine SL.val rfl rfl (Gd.g0 rfl) (Yd.extract rfl rfl) ?_
   refine SL.efD rfl rfl (Gd.g0 rfl) (Ef.alloc zl_55) (fun b12 => ?_)
   try dsimp only [Value.cells, List.flatMap_cons, List.flatMap_nil]
   refine SL.ef0 rfl (Gd.g0 rfl) (Ef0.storeA (i := 0) rfl rfl rfl ag_55 (lS_len _ _) rfl (by rw [lS_len]; simp)) ?_
   try dsimp only [setR]
   rw [setRow2_all (by rw [lS_len]; rfl)]
   refine SL.val rfl rfl (Gd.g0 rfl) (Yd.assign rfl) ?_
   first | refine SL.nil_then ?_ | refine SL.nil ?_
   repeat (refine CW.seq ?_)
   refine CW.region ?_
   refine SL.val rfl rfl (Gd.g0 rfl) (Yd.move rfl) ?_
   refine SL.val rfl rfl (Gd.g0 rfl) ((by first | exact Yd.loadR (i := 0) rfl ag_55 rfl rfl | exact Yd.loadR (i := 1) rfl ag_55 rfl rfl | exact Yd.loadR (i := 2) rfl ag_55 rfl rfl | exact Yd.loadR (i := 3) rfl ag_55 rfl rfl | exact Yd.loadR (i := 4) rfl ag_55 rfl rfl | exact Yd.loadR (i := 5) rfl ag_55 rfl rfl)) ?_
   refine SL.callB rfl rfl (Gd.g0 rfl) (Cll.func rfl cf_23) (fun w hw => hms w hw.below) ?_
   first | refine SL.nil_then ?_ | refine SL.nil ?_
   repeat (refine CW.seq ?_)
   refine CW.cond rfl (fun hmis => ?_) (fun hmis => ?_)
   ·repeat (refine CW.seq ?_)
    refine CW.region ?_
    refine SL.val rfl rfl (Gd.g0 rfl) (Yd.assign rfl) ?_
    refine SL.val rfl rfl (Gd.g0 rfl) (Yd.assign rfl) ?_
    refine SL.val rfl rfl (Gd.g0 rfl) (Yd.assign rfl) ?_
    refine SL.val rfl rfl (Gd.g0 rfl) (Yd.assign rfl) ?_
    first | refine SL.nil_then ?_ | refine SL.nil ?_
    refine CW.ret ?_
    repeat (first | refine EX.then_ret ?_ | refine EX.in_ret ?_)
    refine EX.out (rs := _) rfl (ResA.tmp rfl (ResA.tmp rfl (ResA.tmp rfl (ResA.tmp rfl ResA.nil)))) (fun w2 hw => ?_) (by first | exact Or.inl rfl | exact Or.inr rfl)
    skip
    refine ⟨hw.drop.below, .inr (.inr ⟨hlong, ?_, hpos, hvl, ?_⟩)⟩
    ·simpa using hns
    rw [hEnd k q' .no trivial hklt hset (oneX_no hmb hmis)]; exact rfl
   have hmis : ¬ misB ts (tkS ts (sF x) k) (tkL ts (lF x) k) = true := by rw [hmis]; decide
   refine CW.skip ?_
   repeat (first | refine EX.in_normal ?_)
   first | refine EX.then_normal ?_ | skip
   refine CW.cut (σ := Unit) (fun _ => True) (fun _ => [(0, .slice ao ts.length cap), (7, .map (some b21)), (8, .slice (some ⟨lb', 0, none⟩) q'.list.length lc'), (9, .slice (some ⟨b30, 0, none⟩) ts.length ts.length), (10, .int .i64 (a : Int)), (11, .int .i64 (k : Int)), (12, .pointer (some ⟨b12, 0, none⟩))])
    (fun _ => Wd w [] (Rs.row b12 (lS (sF y) (lF y)) 55 :: HsR b21 b30 ⟨q'.list, wrX ts x k q'.worst⟩ lb' lc')) ?_ (fun _ _ => ?_)
   ·rcases tkR_is (ts := ts) (lF x) k with hR | ⟨j, hj, hR⟩
    ·have hwr : wrX ts x k q'.worst = q'.worst := by unfold wrX; rw [if_neg (by rw [hR]; omega)]
     rw [hR]
     repeat (refine CW.seq ?_)
     refine CW.region ?_
     refine SL.val rfl rfl (Gd.g0 rfl) (Yd.move rfl) ?_
     refine SL.val rfl rfl (Gd.g0 rfl) (Yd.no (p := (0 : Int) ≤ -1) (by omega) (Yd.geq rfl rfl)) ?_
     refine SL.val rfl rfl (Gd.g0 rfl) (Yd.move rfl) ?_
     refine SL.unw rfl rfl (Gd.no rfl rfl rfl rfl) ?_
     refine SL.unw rfl rfl (Gd.no rfl rfl rfl rfl) ?_
     refine SL.unw rfl rfl (Gd.no rfl rfl rfl rfl) ?_
     refine SL.unw rfl rfl (Gd.no rfl rfl rfl rfl) ?_
     refine SL.unw rfl rfl (Gd.no rfl rfl rfl rfl) ?_
     refine SL.val rfl rfl (Gd.g0 rfl) ((by first | exact Yd.pickT rfl rfl | exact Yd.pickF rfl rfl | exact Yd.pickB rfl rfl rfl)) ?_
     first | refine SL.nil_then ?_ | refine SL.nil ?_
     repeat (refine CW.seq ?_)
     refine CW.condF rfl ?_
     refine CW.skip ?_
     repeat (first | refine EX.in_normal ?_)
     exact EX.cut () trivial (Sub.cons rfl rfl (Sub.cons rfl rfl (Sub.cons rfl rfl (Sub.cons rfl rfl (Sub.cons rfl rfl (Sub.cons rfl rfl (Sub.cons rfl rfl Sub.nil))))))) (fun w2 h => by rw [hwr]; exact h)
    have hj8 : j < 8 := by omega
    have hwr : tkL ts (lF x) k j = 0 → (q'.worst.map (Value.int .i64)).set j (.int .i64 (max (gi q'.worst j) (tkS ts (sF x) k j))) = (wrX ts x k q'.worst).map (Value.int .i64) := fun h => by
     unfold wrX; rw [hR, Int.toNat_natCast, if_pos ⟨by omega, h⟩, List.map_set]
    have hwn : ¬ tkL ts (lF x) k j = 0 → wrX ts x k q'.worst = q'.worst := fun h => by
     unfold wrX; rw [hR, Int.toNat_natCast, if_neg (fun q => h q.2)]
    have hwl := hWI'.wl
    have hwj : (q'.worst.map (Value.int .i64))[j]? = some (.int .i64 (gi q'.worst j)) := by
     rw [List.getElem?_map, List.getElem?_eq_getElem (by omega)]
     show some (Value.int .i64 q'.worst[j]) = _
     unfold gi; rw [List.getD_eq_getElem?_getD, List.getElem?_eq_getElem (by omega)]; rfl
    have hSj := (tkS_ok hok hxg.s k).1 j hj8
    rw [hR]
    repeat (refine CW.seq ?_)
    refine CW.region ?_
    refine SL.val rfl rfl (Gd.g0 rfl) (Yd.move rfl) ?_
    refine SL.val rfl rfl (Gd.g0 rfl) (Yd.yes (p := (0 : Int) ≤ (j : Int)) (by omega) (Yd.geq rfl rfl)) ?_
    refine SL.val rfl rfl (Gd.g0 rfl) (Yd.move rfl) ?_
    refine SL.val rfl rfl (Gd.yes rfl rfl rfl) (Yd.move rfl) ?_
    refine SL.val rfl rfl (Gd.yes rfl rfl rfl) (Yd.fieldAddr rfl fo_55_1) ?_
    refine SL.val rfl rfl (Gd.yes rfl rfl rfl) ((by first | exact Yd.indexArN rfl rfl ar_53 (by omega) | exact Yd.indexAr rfl rfl ar_53 (by omega))) ?_
    refine SL.val rfl rfl (Gd.yes rfl rfl rfl) (Yd.load rfl ag_2 (Wd.cell (i := 0) rfl (by rw [show 0 + 8 + j * 1 = 8 + j by omega, lS_left _ _ hj8, hyl j hj8]))) ?_
    refine SL.val rfl rfl (Gd.yes rfl rfl rfl) (Yd.eql rfl rfl) ?_
    refine SL.val rfl rfl (Gd.g0 rfl) ((by first | exact Yd.pickT rfl rfl | exact Yd.pickF rfl rfl | exact Yd.pickB rfl rfl rfl)) ?_
    first | refine SL.nil_then ?_ | refine SL.nil ?_
    repeat (refine CW.seq ?_)
    refine CW.condD rfl (fun hz => ?_) (fun hz => ?_)
    ·skip
     repeat (refine CW.seq ?_)
     refine CW.draw [(Tb w [], []), ((Rs.row b30 (q'.worst.map (Value.int .i64)) 2).ok, [12]), ((Rs.row b12 (lS (sF y) (lF y)) 55).ok, [])] mixed (fun w hw => hw.drew) (fun w hw => ⟨(by first | exact fun _ => hw.tb | exact fun _ => hw.ok 0 _ rfl | exact fun _ => hw.ok 1 _ rfl | exact fun _ => hw.ok 2 _ rfl | exact fun _ => hw.ok 3 _ rfl | exact fun _ => hw.ok 4 _ rfl | exact fun _ => hw.ok 5 _ rfl | exact SG.gone (by kernel_rfl)), (by first | exact fun _ => hw.tb | exact fun _ => hw.ok 0 _ rfl | exact fun _ => hw.ok 1 _ rfl | exact fun _ => hw.ok 2 _ rfl | exact fun _ => hw.ok 3 _ rfl | exact fun _ => hw.ok 4 _ rfl | exact fun _ => hw.ok 5 _ rfl | exact SG.gone (by kernel_rfl)), (by first | exact fun _ => hw.tb | exact fun _ => hw.ok 0 _ rfl | exact fun _ => hw.ok 1 _ rfl | exact fun _ => hw.ok 2 _ rfl | exact fun _ => hw.ok 3 _ rfl | exact fun _ => hw.ok 4 _ rfl | exact fun _ => hw.ok 5 _ rfl | exact SG.gone (by kernel_rfl)), trivial⟩) ?_
     refine DL.take 0 rfl (by kernel_rfl) (by kernel_rfl) (by kernel_rfl) (by kernel_rfl) (by kernel_rfl) rfl rfl (Gd.g0 rfl) (heldN 0) (Yd.move rfl) ?_
     refine DL.take 1 rfl (by kernel_rfl) (by kernel_rfl) (by kernel_rfl) (by kernel_rfl) (by kernel_rfl) rfl rfl (Gd.g0 rfl) (heldN 1) (Yd.move rfl) ?_
     refine DL.take 2 rfl (by kernel_rfl) (by kernel_rfl) (by kernel_rfl) (by kernel_rfl) (by kernel_rfl) rfl rfl (Gd.g0 rfl) (heldN 2) (Yd.move rfl) ?_
     refine DL.take 3 rfl (by kernel_rfl) (by kernel_rfl) (by kernel_rfl) (by kernel_rfl) (by kernel_rfl) rfl rfl (Gd.g0 rfl) (heldN 3) (Yd.move rfl) ?_
     refine DL.take 4 rfl (by kernel_rfl) (by kernel_rfl) (by kernel_rfl) (by kernel_rfl) (by kernel_rfl) rfl rfl (Gd.g0 rfl) (heldN 4) ((by first | exact Yd.indexSlN rfl rfl sl_25 (by omega) | exact Yd.indexSl rfl rfl sl_25 (by omega))) ?_
     refine DL.take 5 rfl (by kernel_rfl) (by kernel_rfl) (by kernel_rfl) (by kernel_rfl) (by kernel_rfl) rfl rfl (Gd.g0 rfl) (held 5 1 rfl (by kernel_rfl)) (Yd.load rfl ag_2 (row_cell (by rw [show 0 + j * 1 = j by omega]; exact hwj))) ?_
     refine DL.take 6 rfl (by kernel_rfl) (by kernel_rfl) (by kernel_rfl) (by kernel_rfl) (by kernel_rfl) rfl rfl (Gd.g0 rfl) (heldN 6) (Yd.move rfl) ?_
     refine DL.take 7 rfl (by kernel_rfl) (by kernel_rfl) (by kernel_rfl) (by kernel_rfl) (by kernel_rfl) rfl rfl (Gd.g0 rfl) (heldN 7) (Yd.fieldAddr rfl fo_55_0) ?_
     refine DL.take 8 rfl (by kernel_rfl) (by kernel_rfl) (by kernel_rfl) (by kernel_rfl) (by kernel_rfl) rfl rfl (Gd.g0 rfl) (heldN 8) ((by first | exact Yd.indexArN rfl rfl ar_53 (by omega) | exact Yd.indexAr rfl rfl ar_53 (by omega))) ?_
     refine DL.take 9 rfl (by kernel_rfl) (by kernel_rfl) (by kernel_rfl) (by kernel_rfl) (by kernel_rfl) rfl rfl (Gd.g0 rfl) (held 9 2 rfl (by kernel_rfl)) (Yd.load rfl ag_2 (row_cell (by rw [show 0 + 0 + j * 1 = j by omega, lS_since _ _ hj8, hys j hj8]))) ?_
     refine DL.take 10 rfl (by kernel_rfl) (by kernel_rfl) (by kernel_rfl) (by kernel_rfl) (by kernel_rfl) rfl rfl (Gd.g0 rfl) (heldN 10) (Yd.max2 rfl rfl) ?_
     refine DL.take 11 rfl (by kernel_rfl) (by kernel_rfl) (by kernel_rfl) (by kernel_rfl) (by kernel_rfl) rfl rfl (Gd.g0 rfl) (heldN 11) ((by first | exact Yd.indexSlN rfl rfl sl_25 (by omega) | exact Yd.indexSl rfl rfl sl_25 (by omega))) ?_
     refine DL.ready1 (i := 12) (by kernel_rfl) ?_
     refine D1.ef0 rfl rfl (Gd.g0 rfl) (Ef0.store (i := 3) rfl rfl rfl ag_2 rfl (by rw [List.length_map]; omega)) (fun w hw => ⟨(by first | exact fun _ => hw.tb | exact fun _ => hw.ok 0 _ rfl | exact fun _ => hw.ok 1 _ rfl | exact fun _ => hw.ok 2 _ rfl | exact fun _ => hw.ok 3 _ rfl | exact fun _ => hw.ok 4 _ rfl | exact fun _ => hw.ok 5 _ rfl | exact SG.gone (by kernel_rfl)), (by first | exact fun _ => hw.tb | exact fun _ => hw.ok 0 _ rfl | exact fun _ => hw.ok 1 _ rfl | exact fun _ => hw.ok 2 _ rfl | exact fun _ => hw.ok 3 _ rfl | exact fun _ => hw.ok 4 _ rfl | exact fun _ => hw.ok 5 _ rfl | exact SG.gone (by kernel_rfl)), (by first | exact fun _ => hw.tb | exact fun _ => hw.ok 0 _ rfl | exact fun _ => hw.ok 1 _ rfl | exact fun _ => hw.ok 2 _ rfl | exact fun _ => hw.ok 3 _ rfl | exact fun _ => hw.ok 4 _ rfl | exact fun _ => hw.ok 5 _ rfl | exact SG.gone (by kernel_rfl)), trivial⟩) ?_
     try dsimp only [setR]
     rw [show 0 + j * 1 = j by omega, hwr hz]
     refine DL.done (by kernel_rfl) ?_
     first | refine EX.then_normal ?_ | skip
     exact EX.cut () trivial (Sub.cons rfl rfl (Sub.cons rfl rfl (Sub.cons rfl rfl (Sub.cons rfl rfl (Sub.cons rfl rfl (Sub.cons rfl rfl (Sub.cons rfl rfl Sub.nil))))))) (fun w2 h => h)
    refine CW.skip ?_
    repeat (first | refine EX.in_normal ?_)
    exact EX.cut () trivial (Sub.cons rfl rfl (Sub.cons rfl rfl (Sub.cons rfl rfl (Sub.cons rfl rfl (Sub.cons rfl rfl (Sub.cons rfl rfl (Sub.cons rfl rfl Sub.nil))))))) (fun w2 h => by rw [hwn hz]; exact h)
   dsimp only [HsR]
   have hWo := hWI'.old x k
   repeat (refine CW.seq ?_)
   refine CW.region ?_
   refine SL.val rfl rfl (Gd.g0 rfl) (Yd.move rfl) ?_
   refine SL.val rfl rfl (Gd.g0 rfl) ((by first | exact Yd.loadR (i := 0) rfl ag_55 rfl rfl | exact Yd.loadR (i := 1) rfl ag_55 rfl rfl | exact Yd.loadR (i := 2) rfl ag_55 rfl rfl | exact Yd.loadR (i := 3) rfl ag_55 rfl rfl | exact Yd.loadR (i := 4) rfl ag_55 rfl rfl | exact Yd.loadR (i := 5) rfl ag_55 rfl rfl)) ?_
   refine SL.val rfl rfl (Gd.g0 rfl) (Yd.inSet (i := 2) (k := y) (ek_ref hok) mt_57 z1_4 rfl rfl rfl hWI'.good hyg) ?_
   first | refine SL.nil_then ?_ | refine SL.nil ?_
   repeat (refine CW.seq ?_)
   refine CW.cond rfl (fun hin0 => ?_) (fun hin0 => ?_)
   ·have hin : y ∈ q'.list := by simpa using hin0
    refine CW.exit ?_
    repeat (first | refine EX.then_exit ?_ | refine EX.in_exit rfl ?_ | refine EX.in_exit_ne rfl ?_)
    first | refine EX.then_normal ?_ | skip
    repeat (refine CW.seq ?_)
    refine CW.region ?_
    refine SL.val rfl rfl (Gd.g0 rfl) (Yd.move rfl) ?_
    refine SL.val rfl rfl (Gd.g0 rfl) ((by first | exact Yd.inc rfl (by omega) | exact Yd.add rfl rfl (by omega) | exact Yd.addW rfl rfl)) ?_
    refine SL.val rfl rfl (Gd.g0 rfl) (Yd.assign rfl) ?_
    first | refine SL.nil_then ?_ | refine SL.nil ?_
    refine EX.round (s := ⟨k, q', lb', lc'⟩) (σ := PO) ⟨k + 1, ⟨q'.list, wrX ts x k q'.worst⟩, lb', lc'⟩ ⟨by dsimp only; omega, by rw [setsX_succ hset, oneX_old hmb hmis (by rw [hy]; exact hin)], hWo, hal, hax⟩ (by dsimp only; omega) (Sub.cons rfl rfl (Sub.cons rfl rfl (Sub.cons rfl rfl (Sub.cons rfl rfl (Sub.cons rfl rfl (Sub.cons rfl rfl Sub.nil)))))) (fun w2 h => h.pick [1, 2, 3] rfl rfl)
   have hin : ¬ y ∈ q'.list := by simpa using hin0
   refine CW.skip ?_
   repeat (first | refine EX.in_normal ?_)
   first | refine EX.then_normal ?_ | skip
   have hlen20' := hWI'.len
   repeat (refine CW.seq ?_)
   refine CW.region ?_
   refine SL.val rfl rfl (Gd.g0 rfl) (Yd.move rfl) ?_
   refine SL.val rfl rfl (Gd.g0 rfl) (Yd.lenSl rfl isl_58) ?_
   refine SL.val rfl rfl (Gd.g0 rfl) (Yd.eql rfl rfl) ?_
   first | refine SL.nil_then ?_ | refine SL.nil ?_
   repeat (refine CW.seq ?_)
   refine CW.condD rfl (fun h20 => ?_) (fun h20 => ?_)
   ·repeat (refine CW.seq ?_)
    refine CW.region ?_
    refine SL.val rfl rfl (Gd.g0 rfl) (Yd.assign rfl) ?_
    refine SL.val rfl rfl (Gd.g0 rfl) (Yd.assign rfl) ?_
    refine SL.val rfl rfl (Gd.g0 rfl) (Yd.assign rfl) ?_
    refine SL.val rfl rfl (Gd.g0 rfl) (Yd.assign rfl) ?_
    first | refine SL.nil_then ?_ | refine SL.nil ?_
    refine CW.ret ?_
    repeat (first | refine EX.then_ret ?_ | refine EX.in_ret ?_)
    refine EX.out (rs := _) rfl (ResA.tmp rfl (ResA.tmp rfl (ResA.tmp rfl (ResA.tmp rfl ResA.nil)))) (fun w2 hw => ?_) (by first | exact Or.inl rfl | exact Or.inr rfl)
    skip
    refine ⟨hw.drop.below, .inr (.inr ⟨hlong, ?_, hpos, hvl, ?_⟩)⟩
    ·simpa using hns
    rw [hEnd k q' .long trivial hklt hset (oneX_long hmb hmis (by rw [hy]; exact hin) (by omega))]; exact rfl
   refine CW.skip ?_
   repeat (first | refine EX.in_normal ?_)
   first | refine EX.then_normal ?_ | skip
   have hWn := hWI'.new hok hxg k (by rw [hy]; exact hin) (by omega)
   rw [hy] at hWn
   repeat (refine CW.seq ?_)
   refine CW.region ?_
   refine SL.val rfl rfl (Gd.g0 rfl) (Yd.move rfl) ?_
   refine SL.val rfl rfl (Gd.g0 rfl) ((by first | exact Yd.loadR (i := 0) rfl ag_55 rfl rfl | exact Yd.loadR (i := 1) rfl ag_55 rfl rfl | exact Yd.loadR (i := 2) rfl ag_55 rfl rfl | exact Yd.loadR (i := 3) rfl ag_55 rfl rfl | exact Yd.loadR (i := 4) rfl ag_55 rfl rfl | exact Yd.loadR (i := 5) rfl ag_55 rfl rfl)) ?_
   refine SL.ef0 rfl (Gd.g0 rfl) (Ef0.addSet (i := 2) (k := y) (ek_ref hok) mt_57 rfl rfl rfl rfl hWI'.good hyg hin) ?_
   try dsimp only [setR]
   first | refine SL.nil_then ?_ | refine SL.nil ?_
   have hlapp : (q'.list ++ [y]).length = q'.list.length + 1 := by simp
   repeat (refine CW.seq ?_)
   refine CW.region ?_
   refine SL.val rfl rfl (Gd.g0 rfl) (Yd.move rfl) ?_
   refine SL.val rfl rfl (Gd.g0 rfl) ((by first | exact Yd.loadR (i := 0) rfl ag_55 rfl rfl | exact Yd.loadR (i := 1) rfl ag_55 rfl rfl | exact Yd.loadR (i := 2) rfl ag_55 rfl rfl | exact Yd.loadR (i := 3) rfl ag_55 rfl rfl | exact Yd.loadR (i := 4) rfl ag_55 rfl rfl | exact Yd.loadR (i := 5) rfl ag_55 rfl rfl)) ?_
   refine SL.efD rfl rfl (Gd.g0 rfl) (Ef.buildSlice rfl se_58 rfl rfl rfl rfl) (fun b97 => ?_)
   try dsimp only [Value.cells, List.flatMap_cons, List.flatMap_nil]
   refine SL.efD rfl rfl (Gd.g0 rfl) (Ef.append1 (i := 2) (c := cdR) (y := y) rfl rfl se_58 rfl rfl (fun w hw j u hj => by rw [Nat.zero_add]; exact Wd.cell (i := 0) rfl (by simpa [cdR] using hj) w hw) rfl (by omega) (by simp only [maxLen]; omega)) (fun b98 => ?_)
   try dsimp only [setR]
   refine SL.val rfl rfl (Gd.g0 rfl) (Yd.assign rfl) ?_
   first | refine SL.nil_then ?_ | refine SL.nil ?_
   repeat (first | refine EX.in_normal ?_)
   first | refine EX.then_normal ?_ | skip
   repeat (refine CW.seq ?_)
   refine CW.region ?_
   refine SL.val rfl rfl (Gd.g0 rfl) (Yd.move rfl) ?_
   refine SL.val rfl rfl (Gd.g0 rfl) ((by first | exact Yd.inc rfl (by omega) | exact Yd.add rfl rfl (by omega) | exact Yd.addW rfl rfl)) ?_
   refine SL.val rfl rfl (Gd.g0 rfl) (Yd.assign rfl) ?_
   first | refine SL.nil_then ?_ | refine SL.nil ?_
   refine EX.round (s := ⟨k, q', lb', lc'⟩) (σ := PO) ⟨k + 1, ⟨q'.list ++ [y], wrX ts x k q'.worst⟩, b98.1, b98.2⟩ ⟨by dsimp only; omega, by rw [setsX_succ hset, oneX_new hmb hmis (by rw [hy]; exact hin) (by omega), hy], hWn, by dsimp only; omega, by dsimp only; rw [getD_app hal]; exact hax⟩ (by dsimp only; omega) (by dsimp only; rw [hlapp]; exact (Sub.cons rfl rfl (Sub.cons rfl rfl (Sub.cons rfl rfl (Sub.cons rfl rfl (Sub.cons rfl rfl (Sub.cons rfl rfl Sub.nil))))))) (fun w2 h => by
    dsimp only [HsR]
    rw [hlapp]
    exact h.pick [2, 3, 4] rfl rfl)
  refine CW.exit ?_
  repeat (first | refine EX.then_exit ?_ | refine EX.in_exit rfl ?_ | refine EX.in_exit_ne rfl ?_)
  first | refine EX.then_normal ?_ | skip
  rw [pow_shl (by omega)] at hkn
  obtain rfl : k = 2 ^ ts.length := by
   have : ¬ k < 2 ^ ts.length := fun q => hkn (by exact_mod_cast q)
   omega
  repeat (first | refine EX.in_normal ?_)
  first | refine EX.then_normal ?_ | skip
  repeat (refine CW.seq ?_)
  refine CW.region ?_
  refine SL.val rfl rfl (Gd.g0 rfl) (Yd.move rfl) ?_
  refine SL.val rfl rfl (Gd.g0 rfl) ((by first | exact Yd.inc rfl (by omega) | exact Yd.add rfl rfl (by omega) | exact Yd.addW rfl rfl)) ?_
  refine SL.val rfl rfl (Gd.g0 rfl) (Yd.assign rfl) ?_
  first | refine SL.nil_then ?_ | refine SL.nil ?_
  refine EX.round (s := ⟨a, q, lb, lc⟩) (σ := PO) ⟨a + 1, q', lb', lc'⟩ ⟨hWI', by dsimp only; omega, ?_⟩ (by dsimp only; omega) (Sub.cons rfl rfl (Sub.cons rfl rfl (Sub.cons rfl rfl (Sub.cons rfl rfl (Sub.cons rfl rfl Sub.nil))))) (fun w2 h => h)
  rw [hout, show 20001 - a = (20001 - (a + 1)) + 1 by omega]
  exact outX_go halt (by rw [hx]; exact hset)
 refine CW.exit ?_
 repeat (first | refine EX.then_exit ?_ | refine EX.in_exit rfl ?_ | refine EX.in_exit_ne rfl ?_)
 first | refine EX.then_normal ?_ | skip
 have hdone := outX_done (ts := ts) (f := 20001 - a) (a := a) (q := q) (by omega)
 repeat (refine CW.seq ?_)
 refine CW.region ?_
 refine SL.val rfl rfl (Gd.g0 rfl) (Yd.move rfl) ?_
 refine SL.val rfl rfl (Gd.g0 rfl) (Yd.move rfl) ?_
 refine SL.val rfl rfl (Gd.g0 rfl) (Yd.lenSl rfl isl_58) ?_
 refine SL.val rfl rfl (Gd.g0 rfl) (Yd.assign rfl) ?_
 refine SL.val rfl rfl (Gd.g0 rfl) (Yd.assign rfl) ?_
 refine SL.val rfl rfl (Gd.g0 rfl) (Yd.assign rfl) ?_
 refine SL.val rfl rfl (Gd.g0 rfl) (Yd.assign rfl) ?_
 first | refine SL.nil_then ?_ | refine SL.nil ?_
 refine CW.ret ?_
 repeat (first | refine EX.then_ret ?_ | refine EX.in_ret ?_)
 refine EX.out (rs := _) rfl (ResA.tmp rfl (ResA.tmp rfl (ResA.tmp rfl (ResA.tmp rfl ResA.nil)))) (fun w2 hw => ?_) (by first | exact Or.inl rfl | exact Or.inr rfl)
 skip
 refine ⟨hw.drop.below, .inr (.inr ⟨hlong, by simpa using hns, hpos, hvl, ?_⟩)⟩
 rw [hout, hdone]
 refine ⟨_, rfl, ?_⟩
 have hcv : q.worst.map (Value.int .i64) = q.worst.flatMap cdI.cells := by induction q.worst with
  | nil => rfl
  | cons v vs ih => rw [List.map_cons, List.flatMap_cons, ih]; rfl
 have h2 := (hw.recast (i := 2) (Rs.own cdI 2 (.slice (some ⟨b30, 0, none⟩) q.worst.length q.worst.length) q.worst) rfl (fun b hb => hb) (row_own cdI q.worst hcv (by rw [hWI.wl]; simp only [maxLen]; omega))).ownBase (i := 2) rfl
 rw [hWI.wl] at h2
 exact h2
end Go.Proofs.Ytokljoajalmkfaa
