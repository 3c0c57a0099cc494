/- Part of the proof of stopwatch_explores_proved: Sww. -/
import Derived.Test.YtokljoajalmkfaaXeSxn
import Derived.Test.YtokljoajalmkfaaXeSxt
import Derived.Test.YtokljoajalmkfaaXeSwk
namespace Go.Proofs.Ytokljoajalmkfaa
open Go Go.RowKit
set_option linter.unusedVariables false
set_option linter.unusedSimpArgs false
set_option linter.unnecessarySimpa false
structure Q4 where
 T : Int
 D : Int
 C : Int
 pr : Int
def cd4 : Cd Q4 := ⟨4, fun x => [.int .i64 x.T, .int .i64 x.D, .int .i64 x.C, .int .i64 x.pr], fun _ => rfl, ⟨0, 0, 0, 0⟩⟩
def plN (xs : List Q4) (k : Nat) : Tk := ⟨⟨[UInt8.ofNat (97 + k)].toArray⟩, (ge cd4 xs k).T, 0, (ge cd4 xs k).D, (ge cd4 xs k).C, (ge cd4 xs k).pr, .slice none 0 0, []⟩
def plX (xs : List Q4) (k : Nat) : List Tk := (List.range k).map (plN xs)
theorem plX_succ (xs : List Q4) (k : Nat) : plX xs (k + 1) = plX xs k ++ [plN xs k] := by unfold plX; rw [List.range_succ, List.map_append]; rfl
theorem plX_len (xs : List Q4) (k : Nat) : (plX xs k).length = k := by simp [plX]
theorem plX_ts {xs : List Q4} {k t base : Nat} {v : Value} {w : World} (h : OE cdTk t base w v (plX xs k)) : TsR w v (plX xs k) := by
 refine ⟨OE.re (by decide) h, fun x hx => ?_⟩
 obtain ⟨j, _, rfl⟩ := List.mem_map.1 hx
 exact RX.nil cdSc _ _
set_option maxRecDepth 20000 in
set_option maxHeartbeats 4000000 in
theorem law_plain (v : Value) (xs : List Q4) (w : World) (hv : RX cd4 w.heap.size w v xs) (h8 : xs.length ≤ 8) : Calls Try.prog 14 #[v] w fun e w' => ∃ v', e = .returned v' ∧ OE cdTk 37 w.heap.size w' v' (plX xs xs.length) ∧ Below w.heap.size w w' := by
 obtain ⟨ao, cap, rfl, hle, h0⟩ := hv.cells
 refine calls_open Try.func14 rfl Try.ntmps14 rfl ?_
 dsimp only [argK]
 repeat (refine CW.seq ?_)
 refine CW.region ?_
 refine SL.val rfl rfl (Gd.g0 rfl) (Yd.assign rfl) ?_
 first | refine SL.nil_then ?_ | refine SL.nil ?_
 repeat (refine CW.seq ?_)
 refine CW.region ?_
 refine SL.val rfl rfl (Gd.g0 rfl) (Yd.assign rfl) ?_
 first | refine SL.nil_then ?_ | refine SL.nil ?_
 repeat (refine CW.seq ?_)
 refine CW.region ?_
 refine SL.val rfl rfl (Gd.g0 rfl) (Yd.assign rfl) ?_
 first | refine SL.nil_then ?_ | refine SL.nil ?_
 repeat (refine CW.seq ?_)
 refine CW.block ?_
 refine CW.loop (σ := Nat × Value) (fun s => s.1 ≤ xs.length) (fun s => [(0, .slice ao xs.length cap), (3, s.2), (4, .int .i64 (s.1 : Int))]) (fun s => Wd w [] [Rs.own cdTk 37 s.2 (plX xs s.1)]) (fun s => xs.length - s.1) (0, .slice none 0 0) (Nat.zero_le _) (Sub.cons rfl rfl (Sub.cons rfl rfl (Sub.cons rfl rfl Sub.nil))) (fun w2 h => h.own0 _ _) ?_
 rintro ⟨k, u⟩ hk
 dsimp only at hk ⊢
 repeat (refine CW.seq ?_)
 refine CW.region ?_
 refine SL.val rfl rfl (Gd.g0 rfl) (Yd.move rfl) ?_
 refine SL.val rfl rfl (Gd.g0 rfl) (Yd.move rfl) ?_
 refine SL.val rfl rfl (Gd.g0 rfl) (Yd.lenSl rfl isl_68) ?_
 refine SL.val rfl rfl (Gd.g0 rfl) (Yd.lss rfl rfl) ?_
 first | refine SL.nil_then ?_ | refine SL.nil ?_
 repeat (refine CW.seq ?_)
 refine CW.condD rfl (fun hkn => ?_) (fun hkn => ?_)
 ·refine CW.skip ?_
  repeat (first | refine EX.in_normal ?_)
  first | refine EX.then_normal ?_ | skip
  have hlt : k < xs.length := by omega
  obtain ⟨b, off, rfl, hb, hc⟩ := h0 (by omega)
  have hcs := hc k hlt
  have hbw : IntKind.u8.wrap (97 + (k : Int)) = 97 + (k : Int) := by rw [IntKind.wrap_u8']; omega
  have hb1 : ((UInt8.ofNat (97 + k)).toNat : Int) = 97 + (k : Int) := by
   rw [UInt8.toNat_ofNat_of_lt' (by show 97 + k < 256; omega)]; push_cast; rfl
  have hpl : plN xs k = ⟨⟨[UInt8.ofNat (97 + k)].toArray⟩, (ge cd4 xs k).T, 0, (ge cd4 xs k).D, (ge cd4 xs k).C, (ge cd4 xs k).pr, .slice none 0 0, []⟩ := rfl
  obtain ⟨t, ht⟩ : ∃ t, ge cd4 xs k = t := ⟨_, rfl⟩
  rw [ht] at hpl
  obtain ⟨T, D, C, pr⟩ := t
  dsimp only at hpl
  have hcs' : ∀ j v, [Value.int .i64 T, .int .i64 D, .int .i64 C, .int .i64 pr][j]? = some v → w.cell? ⟨b, off + k * 4 + j, none⟩ = some v := fun j v h => hcs j v (by rw [ht]; exact h)
  have hstr : ∀ (w2 : World) (b' : Nat), w2.cell? ⟨b', 0, none⟩ = some (.int .u8 (97 + (k : Int))) → ∀ j (hj : j < [UInt8.ofNat (97 + k)].length), w2.cell? ⟨b', 0 + j, none⟩ = some (.int .u8 (([UInt8.ofNat (97 + k)][j].toNat : Nat) : Int)) := fun w2 b' h j hj => by
   obtain rfl : j = 0 := by simpa using hj
   show w2.cell? ⟨b', 0 + 0, none⟩ = some (.int .u8 ((UInt8.ofNat (97 + k)).toNat : Int))
   rw [hb1]; exact h
  repeat (refine CW.seq ?_)
  refine CW.block ?_
  repeat (refine CW.seq ?_)
  refine CW.draw [(Tb _ [], [])] mixed (fun w hw => hw.drew) (fun w hw => ⟨(by first | exact fun _ => hw.tb | exact fun _ => hw.ok 0 _ rfl | exact fun _ => hw.ok 1 _ rfl | exact fun _ => hw.ok 2 _ rfl | exact fun _ => hw.ok 3 _ rfl | exact fun _ => hw.ok 4 _ rfl | exact fun _ => hw.ok 5 _ rfl | exact SG.gone (by kernel_rfl)), trivial⟩) ?_
  refine DL.take 0 rfl (by kernel_rfl) (by kernel_rfl) (by kernel_rfl) (by kernel_rfl) (by kernel_rfl) rfl rfl (Gd.g0 rfl) (heldN 0) (Yd.move rfl) ?_
  refine DL.take 1 rfl (by kernel_rfl) (by kernel_rfl) (by kernel_rfl) (by kernel_rfl) (by kernel_rfl) rfl rfl (Gd.g0 rfl) (heldN 1) (Yd.move rfl) ?_
  refine DL.take 2 rfl (by kernel_rfl) (by kernel_rfl) (by kernel_rfl) (by kernel_rfl) (by kernel_rfl) rfl rfl (Gd.g0 rfl) (heldN 2) ((by first | exact Yd.inc rfl (by omega) | exact Yd.add rfl rfl (by omega) | exact Yd.addW rfl rfl)) ?_
  refine DL.take 3 rfl (by kernel_rfl) (by kernel_rfl) (by kernel_rfl) (by kernel_rfl) (by kernel_rfl) rfl rfl (Gd.g0 rfl) (heldN 3) ((by first | exact Yd.convK rfl un_3 ik_5 rfl | exact Yd.convK rfl un_3 ik_5 (by assumption) | exact Yd.conv rfl un_3 ik_5)) ?_
  refine DL.take 6 rfl (by kernel_rfl) (by kernel_rfl) (by kernel_rfl) (by kernel_rfl) (by kernel_rfl) rfl rfl (Gd.g0 rfl) (heldN 6) (Yd.move rfl) ?_
  refine DL.take 7 rfl (by kernel_rfl) (by kernel_rfl) (by kernel_rfl) (by kernel_rfl) (by kernel_rfl) rfl rfl (Gd.g0 rfl) (heldN 7) (Yd.move rfl) ?_
  refine DL.take 8 rfl (by kernel_rfl) (by kernel_rfl) (by kernel_rfl) (by kernel_rfl) (by kernel_rfl) rfl rfl (Gd.g0 rfl) (heldN 8) ((by first | exact Yd.indexSlN rfl rfl sl_68 (by omega) | exact Yd.indexSl rfl rfl sl_68 (by omega))) ?_
  refine DL.take 9 rfl (by kernel_rfl) (by kernel_rfl) (by kernel_rfl) (by kernel_rfl) (by kernel_rfl) rfl rfl (Gd.g0 rfl) (heldN 9) ((by first | exact Yd.indexArN rfl rfl ar_34 (by omega) | exact Yd.indexAr rfl rfl ar_34 (by omega))) ?_
  first | refine DL.take 10 rfl (by kernel_rfl) (by kernel_rfl) (by kernel_rfl) (by kernel_rfl) (by kernel_rfl) rfl rfl (Gd.g0 rfl) (held 10 1 rfl (by kernel_rfl)) (Yd.load rfl ag_2 (row_cell rfl)) ?_ | refine DL.take 10 rfl (by kernel_rfl) (by kernel_rfl) (by kernel_rfl) (by kernel_rfl) (by kernel_rfl) rfl rfl (Gd.g0 rfl) (held 10 2 rfl (by kernel_rfl)) (Yd.load rfl ag_2 (row_cell rfl)) ?_ | refine DL.take 10 rfl (by kernel_rfl) (by kernel_rfl) (by kernel_rfl) (by kernel_rfl) (by kernel_rfl) rfl rfl (Gd.g0 rfl) (held 10 3 rfl (by kernel_rfl)) (Yd.load rfl ag_2 (row_cell rfl)) ?_ | refine DL.take 10 rfl (by kernel_rfl) (by kernel_rfl) (by kernel_rfl) (by kernel_rfl) (by kernel_rfl) rfl rfl (Gd.g0 rfl) (held 10 4 rfl (by kernel_rfl)) (Yd.load rfl ag_2 (row_cell rfl)) ?_ | refine DL.take 10 rfl (by kernel_rfl) (by kernel_rfl) (by kernel_rfl) (by kernel_rfl) (by kernel_rfl) rfl rfl (Gd.g0 rfl) (held 10 5 rfl (by kernel_rfl)) (Yd.load rfl ag_2 (row_cell rfl)) ?_ | refine DL.take 10 rfl (by kernel_rfl) (by kernel_rfl) (by kernel_rfl) (by kernel_rfl) (by kernel_rfl) rfl rfl (Gd.g0 rfl) (held 10 0 rfl (by kernel_rfl)) (Yd.load rfl ag_2 (Tb.inp hb (by simp) (hcs' 0 _ rfl))) ?_ | refine DL.take 10 rfl (by kernel_rfl) (by kernel_rfl) (by kernel_rfl) (by kernel_rfl) (by kernel_rfl) rfl rfl (Gd.g0 rfl) (held 10 0 rfl (by kernel_rfl)) (Yd.load rfl ag_2 (Tb.inp hb (by simp) (hcs' 1 _ rfl))) ?_ | refine DL.take 10 rfl (by kernel_rfl) (by kernel_rfl) (by kernel_rfl) (by kernel_rfl) (by kernel_rfl) rfl rfl (Gd.g0 rfl) (held 10 0 rfl (by kernel_rfl)) (Yd.load rfl ag_2 (Tb.inp hb (by simp) (hcs' 2 _ rfl))) ?_ | refine DL.take 10 rfl (by kernel_rfl) (by kernel_rfl) (by kernel_rfl) (by kernel_rfl) (by kernel_rfl) rfl rfl (Gd.g0 rfl) (held 10 0 rfl (by kernel_rfl)) (Yd.load rfl ag_2 (Tb.inp hb (by simp) (hcs' 3 _ rfl))) ?_
  refine DL.take 11 rfl (by kernel_rfl) (by kernel_rfl) (by kernel_rfl) (by kernel_rfl) (by kernel_rfl) rfl rfl (Gd.g0 rfl) (heldN 11) (Yd.move rfl) ?_
  refine DL.take 12 rfl (by kernel_rfl) (by kernel_rfl) (by kernel_rfl) (by kernel_rfl) (by kernel_rfl) rfl rfl (Gd.g0 rfl) (heldN 12) (Yd.move rfl) ?_
  refine DL.take 13 rfl (by kernel_rfl) (by kernel_rfl) (by kernel_rfl) (by kernel_rfl) (by kernel_rfl) rfl rfl (Gd.g0 rfl) (heldN 13) ((by first | exact Yd.indexSlN rfl rfl sl_68 (by omega) | exact Yd.indexSl rfl rfl sl_68 (by omega))) ?_
  refine DL.take 14 rfl (by kernel_rfl) (by kernel_rfl) (by kernel_rfl) (by kernel_rfl) (by kernel_rfl) rfl rfl (Gd.g0 rfl) (heldN 14) ((by first | exact Yd.indexArN rfl rfl ar_34 (by omega) | exact Yd.indexAr rfl rfl ar_34 (by omega))) ?_
  first | refine DL.take 15 rfl (by kernel_rfl) (by kernel_rfl) (by kernel_rfl) (by kernel_rfl) (by kernel_rfl) rfl rfl (Gd.g0 rfl) (held 15 1 rfl (by kernel_rfl)) (Yd.load rfl ag_2 (row_cell rfl)) ?_ | refine DL.take 15 rfl (by kernel_rfl) (by kernel_rfl) (by kernel_rfl) (by kernel_rfl) (by kernel_rfl) rfl rfl (Gd.g0 rfl) (held 15 2 rfl (by kernel_rfl)) (Yd.load rfl ag_2 (row_cell rfl)) ?_ | refine DL.take 15 rfl (by kernel_rfl) (by kernel_rfl) (by kernel_rfl) (by kernel_rfl) (by kernel_rfl) rfl rfl (Gd.g0 rfl) (held 15 3 rfl (by kernel_rfl)) (Yd.load rfl ag_2 (row_cell rfl)) ?_ | refine DL.take 15 rfl (by kernel_rfl) (by kernel_rfl) (by kernel_rfl) (by kernel_rfl) (by kernel_rfl) rfl rfl (Gd.g0 rfl) (held 15 4 rfl (by kernel_rfl)) (Yd.load rfl ag_2 (row_cell rfl)) ?_ | refine DL.take 15 rfl (by kernel_rfl) (by kernel_rfl) (by kernel_rfl) (by kernel_rfl) (by kernel_rfl) rfl rfl (Gd.g0 rfl) (held 15 5 rfl (by kernel_rfl)) (Yd.load rfl ag_2 (row_cell rfl)) ?_ | refine DL.take 15 rfl (by kernel_rfl) (by kernel_rfl) (by kernel_rfl) (by kernel_rfl) (by kernel_rfl) rfl rfl (Gd.g0 rfl) (held 15 0 rfl (by kernel_rfl)) (Yd.load rfl ag_2 (Tb.inp hb (by simp) (hcs' 0 _ rfl))) ?_ | refine DL.take 15 rfl (by kernel_rfl) (by kernel_rfl) (by kernel_rfl) (by kernel_rfl) (by kernel_rfl) rfl rfl (Gd.g0 rfl) (held 15 0 rfl (by kernel_rfl)) (Yd.load rfl ag_2 (Tb.inp hb (by simp) (hcs' 1 _ rfl))) ?_ | refine DL.take 15 rfl (by kernel_rfl) (by kernel_rfl) (by kernel_rfl) (by kernel_rfl) (by kernel_rfl) rfl rfl (Gd.g0 rfl) (held 15 0 rfl (by kernel_rfl)) (Yd.load rfl ag_2 (Tb.inp hb (by simp) (hcs' 2 _ rfl))) ?_ | refine DL.take 15 rfl (by kernel_rfl) (by kernel_rfl) (by kernel_rfl) (by kernel_rfl) (by kernel_rfl) rfl rfl (Gd.g0 rfl) (held 15 0 rfl (by kernel_rfl)) (Yd.load rfl ag_2 (Tb.inp hb (by simp) (hcs' 3 _ rfl))) ?_
  refine DL.take 16 rfl (by kernel_rfl) (by kernel_rfl) (by kernel_rfl) (by kernel_rfl) (by kernel_rfl) rfl rfl (Gd.g0 rfl) (heldN 16) (Yd.move rfl) ?_
  refine DL.take 17 rfl (by kernel_rfl) (by kernel_rfl) (by kernel_rfl) (by kernel_rfl) (by kernel_rfl) rfl rfl (Gd.g0 rfl) (heldN 17) (Yd.move rfl) ?_
  refine DL.take 18 rfl (by kernel_rfl) (by kernel_rfl) (by kernel_rfl) (by kernel_rfl) (by kernel_rfl) rfl rfl (Gd.g0 rfl) (heldN 18) ((by first | exact Yd.indexSlN rfl rfl sl_68 (by omega) | exact Yd.indexSl rfl rfl sl_68 (by omega))) ?_
  refine DL.take 19 rfl (by kernel_rfl) (by kernel_rfl) (by kernel_rfl) (by kernel_rfl) (by kernel_rfl) rfl rfl (Gd.g0 rfl) (heldN 19) ((by first | exact Yd.indexArN rfl rfl ar_34 (by omega) | exact Yd.indexAr rfl rfl ar_34 (by omega))) ?_
  first | refine DL.take 20 rfl (by kernel_rfl) (by kernel_rfl) (by kernel_rfl) (by kernel_rfl) (by kernel_rfl) rfl rfl (Gd.g0 rfl) (held 20 1 rfl (by kernel_rfl)) (Yd.load rfl ag_2 (row_cell rfl)) ?_ | refine DL.take 20 rfl (by kernel_rfl) (by kernel_rfl) (by kernel_rfl) (by kernel_rfl) (by kernel_rfl) rfl rfl (Gd.g0 rfl) (held 20 2 rfl (by kernel_rfl)) (Yd.load rfl ag_2 (row_cell rfl)) ?_ | refine DL.take 20 rfl (by kernel_rfl) (by kernel_rfl) (by kernel_rfl) (by kernel_rfl) (by kernel_rfl) rfl rfl (Gd.g0 rfl) (held 20 3 rfl (by kernel_rfl)) (Yd.load rfl ag_2 (row_cell rfl)) ?_ | refine DL.take 20 rfl (by kernel_rfl) (by kernel_rfl) (by kernel_rfl) (by kernel_rfl) (by kernel_rfl) rfl rfl (Gd.g0 rfl) (held 20 4 rfl (by kernel_rfl)) (Yd.load rfl ag_2 (row_cell rfl)) ?_ | refine DL.take 20 rfl (by kernel_rfl) (by kernel_rfl) (by kernel_rfl) (by kernel_rfl) (by kernel_rfl) rfl rfl (Gd.g0 rfl) (held 20 5 rfl (by kernel_rfl)) (Yd.load rfl ag_2 (row_cell rfl)) ?_ | refine DL.take 20 rfl (by kernel_rfl) (by kernel_rfl) (by kernel_rfl) (by kernel_rfl) (by kernel_rfl) rfl rfl (Gd.g0 rfl) (held 20 0 rfl (by kernel_rfl)) (Yd.load rfl ag_2 (Tb.inp hb (by simp) (hcs' 0 _ rfl))) ?_ | refine DL.take 20 rfl (by kernel_rfl) (by kernel_rfl) (by kernel_rfl) (by kernel_rfl) (by kernel_rfl) rfl rfl (Gd.g0 rfl) (held 20 0 rfl (by kernel_rfl)) (Yd.load rfl ag_2 (Tb.inp hb (by simp) (hcs' 1 _ rfl))) ?_ | refine DL.take 20 rfl (by kernel_rfl) (by kernel_rfl) (by kernel_rfl) (by kernel_rfl) (by kernel_rfl) rfl rfl (Gd.g0 rfl) (held 20 0 rfl (by kernel_rfl)) (Yd.load rfl ag_2 (Tb.inp hb (by simp) (hcs' 2 _ rfl))) ?_ | refine DL.take 20 rfl (by kernel_rfl) (by kernel_rfl) (by kernel_rfl) (by kernel_rfl) (by kernel_rfl) rfl rfl (Gd.g0 rfl) (held 20 0 rfl (by kernel_rfl)) (Yd.load rfl ag_2 (Tb.inp hb (by simp) (hcs' 3 _ rfl))) ?_
  refine DL.take 21 rfl (by kernel_rfl) (by kernel_rfl) (by kernel_rfl) (by kernel_rfl) (by kernel_rfl) rfl rfl (Gd.g0 rfl) (heldN 21) (Yd.move rfl) ?_
  refine DL.take 22 rfl (by kernel_rfl) (by kernel_rfl) (by kernel_rfl) (by kernel_rfl) (by kernel_rfl) rfl rfl (Gd.g0 rfl) (heldN 22) (Yd.move rfl) ?_
  refine DL.take 23 rfl (by kernel_rfl) (by kernel_rfl) (by kernel_rfl) (by kernel_rfl) (by kernel_rfl) rfl rfl (Gd.g0 rfl) (heldN 23) ((by first | exact Yd.indexSlN rfl rfl sl_68 (by omega) | exact Yd.indexSl rfl rfl sl_68 (by omega))) ?_
  refine DL.take 24 rfl (by kernel_rfl) (by kernel_rfl) (by kernel_rfl) (by kernel_rfl) (by kernel_rfl) rfl rfl (Gd.g0 rfl) (heldN 24) ((by first | exact Yd.indexArN rfl rfl ar_34 (by omega) | exact Yd.indexAr rfl rfl ar_34 (by omega))) ?_
  first | refine DL.take 25 rfl (by kernel_rfl) (by kernel_rfl) (by kernel_rfl) (by kernel_rfl) (by kernel_rfl) rfl rfl (Gd.g0 rfl) (held 25 1 rfl (by kernel_rfl)) (Yd.load rfl ag_2 (row_cell rfl)) ?_ | refine DL.take 25 rfl (by kernel_rfl) (by kernel_rfl) (by kernel_rfl) (by kernel_rfl) (by kernel_rfl) rfl rfl (Gd.g0 rfl) (held 25 2 rfl (by kernel_rfl)) (Yd.load rfl ag_2 (row_cell rfl)) ?_ | refine DL.take 25 rfl (by kernel_rfl) (by kernel_rfl) (by kernel_rfl) (by kernel_rfl) (by kernel_rfl) rfl rfl (Gd.g0 rfl) (held 25 3 rfl (by kernel_rfl)) (Yd.load rfl ag_2 (row_cell rfl)) ?_ | refine DL.take 25 rfl (by kernel_rfl) (by kernel_rfl) (by kernel_rfl) (by kernel_rfl) (by kernel_rfl) rfl rfl (Gd.g0 rfl) (held 25 4 rfl (by kernel_rfl)) (Yd.load rfl ag_2 (row_cell rfl)) ?_ | refine DL.take 25 rfl (by kernel_rfl) (by kernel_rfl) (by kernel_rfl) (by kernel_rfl) (by kernel_rfl) rfl rfl (Gd.g0 rfl) (held 25 5 rfl (by kernel_rfl)) (Yd.load rfl ag_2 (row_cell rfl)) ?_ | refine DL.take 25 rfl (by kernel_rfl) (by kernel_rfl) (by kernel_rfl) (by kernel_rfl) (by kernel_rfl) rfl rfl (Gd.g0 rfl) (held 25 0 rfl (by kernel_rfl)) (Yd.load rfl ag_2 (Tb.inp hb (by simp) (hcs' 0 _ rfl))) ?_ | refine DL.take 25 rfl (by kernel_rfl) (by kernel_rfl) (by kernel_rfl) (by kernel_rfl) (by kernel_rfl) rfl rfl (Gd.g0 rfl) (held 25 0 rfl (by kernel_rfl)) (Yd.load rfl ag_2 (Tb.inp hb (by simp) (hcs' 1 _ rfl))) ?_ | refine DL.take 25 rfl (by kernel_rfl) (by kernel_rfl) (by kernel_rfl) (by kernel_rfl) (by kernel_rfl) rfl rfl (Gd.g0 rfl) (held 25 0 rfl (by kernel_rfl)) (Yd.load rfl ag_2 (Tb.inp hb (by simp) (hcs' 2 _ rfl))) ?_ | refine DL.take 25 rfl (by kernel_rfl) (by kernel_rfl) (by kernel_rfl) (by kernel_rfl) (by kernel_rfl) rfl rfl (Gd.g0 rfl) (held 25 0 rfl (by kernel_rfl)) (Yd.load rfl ag_2 (Tb.inp hb (by simp) (hcs' 3 _ rfl))) ?_
  refine DL.ready1 (i := 4) (by kernel_rfl) ?_
  refine D1.ef rfl rfl rfl (Gd.g0 rfl) (Ef.buildSlice rfl se_69 rfl rfl rfl rfl) (fun _ w hw => ⟨(by first | exact fun _ => hw.tb | exact fun _ => hw.ok 0 _ rfl | exact fun _ => hw.ok 1 _ rfl | exact fun _ => hw.ok 2 _ rfl | exact fun _ => hw.ok 3 _ rfl | exact fun _ => hw.ok 4 _ rfl | exact fun _ => hw.ok 5 _ rfl | exact SG.gone (by kernel_rfl)), trivial⟩) (fun b15 => ?_)
  try dsimp only [Value.cells, List.flatMap_cons, List.flatMap_nil]
  refine DL.ready1 (i := 5) (by kernel_rfl) ?_
  refine D1.val rfl rfl rfl (Gd.g0 rfl) (Yd.strOf (e := 5) [UInt8.ofNat (97 + k)] rfl rfl (by kernel_rfl) (by kernel_rfl) (by kernel_rfl) (fun w hw j hj => hstr w _ (Wd.cell (i := 0) rfl rfl w hw) j hj)) (fun w hw => ⟨(by first | exact fun _ => hw.tb | exact fun _ => hw.ok 0 _ rfl | exact fun _ => hw.ok 1 _ rfl | exact fun _ => hw.ok 2 _ rfl | exact fun _ => hw.ok 3 _ rfl | exact fun _ => hw.ok 4 _ rfl | exact fun _ => hw.ok 5 _ rfl | exact SG.gone (by kernel_rfl)), trivial⟩) ?_
  refine DL.take 26 rfl (by kernel_rfl) (by kernel_rfl) (by kernel_rfl) (by kernel_rfl) (by kernel_rfl) rfl rfl (Gd.g0 rfl) (heldN 26) (Yd.build rfl (by rfl)) ?_
  refine DL.ready1 (i := 27) (by kernel_rfl) ?_
  refine D1.ef rfl rfl rfl (Gd.g0 rfl) (Ef.buildSlice rfl se_22 rfl rfl rfl rfl) (fun _ w hw => ⟨(by first | exact fun _ => hw.tb | exact fun _ => hw.ok 0 _ rfl | exact fun _ => hw.ok 1 _ rfl | exact fun _ => hw.ok 2 _ rfl | exact fun _ => hw.ok 3 _ rfl | exact fun _ => hw.ok 4 _ rfl | exact fun _ => hw.ok 5 _ rfl | exact SG.gone (by kernel_rfl)), trivial⟩) (fun b38 => ?_)
  try dsimp only [Value.cells, List.flatMap_cons, List.flatMap_nil]
  refine DL.ready1 (i := 28) (by kernel_rfl) ?_
  refine D1.ef rfl rfl rfl (Gd.g0 rfl) (Ef.append1 (i := 2) (c := cdTk) (y := plN xs k) rfl rfl se_22 rfl rfl (fun w hw j u hj => by rw [Nat.zero_add]; exact Wd.cell (i := 0) rfl (by rw [hpl] at hj; simpa [cdTk] using hj) w hw) (by rw [hpl]; rfl) (by rw [plX_len]; omega) (by rw [plX_len]; simp only [maxLen]; omega)) (fun _ w hw => ⟨(by first | exact fun _ => hw.tb | exact fun _ => hw.ok 0 _ rfl | exact fun _ => hw.ok 1 _ rfl | exact fun _ => hw.ok 2 _ rfl | exact fun _ => hw.ok 3 _ rfl | exact fun _ => hw.ok 4 _ rfl | exact fun _ => hw.ok 5 _ rfl | exact SG.gone (by kernel_rfl)), trivial⟩) (fun b39 => ?_)
  try dsimp only [setR]
  refine DL.take 29 rfl (by kernel_rfl) (by kernel_rfl) (by kernel_rfl) (by kernel_rfl) (by kernel_rfl) rfl rfl (Gd.g0 rfl) (heldN 29) (Yd.assign rfl) ?_
  refine DL.done (by kernel_rfl) ?_
  first | refine EX.then_normal ?_ | skip
  repeat (first | refine EX.in_normal ?_)
  first | refine EX.then_normal ?_ | skip
  repeat (refine CW.seq ?_)
  refine CW.region ?_
  refine SL.val rfl rfl (Gd.g0 rfl) (Yd.move rfl) ?_
  refine SL.val rfl rfl (Gd.g0 rfl) ((by first | exact Yd.inc rfl (by omega) | exact Yd.add rfl rfl (by omega) | exact Yd.addW rfl rfl)) ?_
  refine SL.val rfl rfl (Gd.g0 rfl) (Yd.assign rfl) ?_
  first | refine SL.nil_then ?_ | refine SL.nil ?_
  refine EX.round (s := (k, u)) (k + 1, _) (by dsimp only; omega) (by dsimp only; omega) (Sub.cons rfl rfl (Sub.cons rfl rfl (Sub.cons rfl rfl Sub.nil))) (fun w2 h => by
   dsimp only
   rw [plX_succ]
   exact h.pick [2] rfl rfl)
 refine CW.exit ?_
 repeat (first | refine EX.then_exit ?_ | refine EX.in_exit rfl ?_ | refine EX.in_exit_ne rfl ?_)
 first | refine EX.then_normal ?_ | skip
 obtain rfl : k = xs.length := by omega
 repeat (refine CW.seq ?_)
 refine CW.region ?_
 refine SL.val rfl rfl (Gd.g0 rfl) (Yd.move rfl) ?_
 refine SL.val rfl rfl (Gd.g0 rfl) (Yd.assign rfl) ?_
 first | refine SL.nil_then ?_ | refine SL.nil ?_
 refine CW.ret ?_
 repeat (first | refine EX.then_ret ?_ | refine EX.in_ret ?_)
 refine EX.out (rs := _) rfl (ResA.tmp rfl ResA.nil) (fun w2 hw => ?_) (by first | exact Or.inl rfl | exact Or.inr rfl)
 skip
 exact ⟨_, rfl, hw.ownBase (i := 0) rfl, hw.drop.below⟩
end Go.Proofs.Ytokljoajalmkfaa
