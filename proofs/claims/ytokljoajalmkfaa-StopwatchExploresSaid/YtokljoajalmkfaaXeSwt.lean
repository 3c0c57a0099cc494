/- Part of the proof of stopwatch_explores_proved: Swt. -/
import Derived.Test.YtokljoajalmkfaaXeSwf
import Derived.Test.YtokljoajalmkfaaXeSxt
namespace Go.Proofs.Ytokljoajalmkfaa
open Go Go.RowKit
set_option linter.unusedVariables false
set_option linter.unusedSimpArgs false
set_option linter.unnecessarySimpa false
def cdI : Cd Int := ⟨1, fun x => [.int .i64 x], fun _ => rfl, 0⟩
set_option maxRecDepth 20000 in
/-- The closure: has the task ticks left? -/
theorem prog_tk1 (i b : Nat) (hi : i < 8) (x : Int) (w : World) (hb : b < w.heap.size) (hc : w.cell? ⟨b, 2 * i + 1, none⟩ = some (.int .i16 x)) : Calls Try.prog 32 #[.int .i64 (i : Int), .pointer (some ⟨b, 0, none⟩)] w fun e w' => e = .returned (.bool (decide (0 < x))) ∧ Below w.heap.size w w' := by
 have hc' : w.cell? ⟨b, 0 + (2 * i + 1) * 1, none⟩ = some (.int .i16 x) := by rw [Nat.zero_add, Nat.mul_one]; exact hc
 refine calls_open Try.func32 rfl Try.ntmps32 rfl ?_
 dsimp only [argK]
 repeat (refine CW.seq ?_)
 refine CW.region ?_
 refine SL.val rfl rfl (Gd.g0 rfl) (Yd.assign rfl) ?_
 first | refine SL.nil_then ?_ | refine SL.nil ?_
 repeat (refine CW.seq ?_)
 refine CW.region ?_
 refine SL.val rfl rfl (Gd.g0 rfl) (Yd.move rfl) ?_
 refine SL.val rfl rfl (Gd.g0 rfl) ((by first | exact Yd.mulC 2 rfl rfl (by omega) | exact Yd.mul rfl rfl (by omega) | exact Yd.mulW rfl rfl)) ?_
 refine SL.val rfl rfl (Gd.g0 rfl) ((by first | exact Yd.inc rfl (by omega) | exact Yd.add rfl rfl (by omega) | exact Yd.addW rfl rfl)) ?_
 refine SL.val rfl rfl (Gd.g0 rfl) ((by first | exact Yd.indexArN rfl rfl ar_44 (by omega) | exact Yd.indexAr rfl rfl ar_44 (by omega))) ?_
 refine SL.val rfl rfl (Gd.g0 rfl) ((by first | exact Yd.load rfl ag_42 (Wd.cell (i := 0) rfl rfl) | exact Yd.load rfl ag_42 (Wd.cell (i := 1) rfl rfl) | exact Yd.load rfl ag_42 (Wd.cell (i := 2) rfl rfl) | exact Yd.load rfl ag_42 (Wd.cell (i := 3) rfl rfl) | exact Yd.load rfl ag_42 (Wd.cell (i := 4) rfl rfl) | exact Yd.load rfl ag_42 (Wd.cell (i := 5) rfl rfl) | exact Yd.load rfl ag_42 (Wd.inp hb (by simp) hc'))) ?_
 refine SL.val rfl rfl (Gd.g0 rfl) (Yd.gtr rfl rfl) ?_
 refine SL.val rfl rfl (Gd.g0 rfl) (Yd.assign rfl) ?_
 first | refine SL.nil_then ?_ | refine SL.nil ?_
 refine CW.ret ?_
 repeat (first | refine EX.then_ret ?_ | refine EX.in_ret ?_)
 refine EX.out (rs := _) rfl (ResA.tmp rfl ResA.nil) (fun w2 hw => ?_) (by first | exact Or.inl rfl | exact Or.inr rfl)
 exact ⟨rfl, hw.below⟩
def idxF (p : Nat → Bool) : Nat → Nat → Int
 | 0, _ => -1
 | f + 1, k => if p k = true then (k : Int) else idxF p f (k + 1)
set_option maxRecDepth 20000 in
/-- slices.IndexFunc of a list of ints. -/
theorem prog_index (v : Value) (xs : List Int) (p : Nat → Bool) (g : Nat) (cb : List Value) (w : World) (hg : callable Try.prog g = true) (hv : RX cdI w.heap.size w v xs) (hcall : ∀ k, k < xs.length → ∀ w2, Wd w [] [] w2 → Calls Try.prog g (.int .i64 (ge cdI xs k) :: cb).toArray w2 fun e w' => e = .returned (.bool (p k)) ∧ Below w2.heap.size w2 w') :
  Calls Try.prog 31 #[v, .func (.func g) #[] cb.toArray] w fun e w' => e = .returned (.int .i64 (idxF p xs.length 0)) ∧ Below w.heap.size w w' := by
 obtain ⟨ao, cap, rfl, hle, h0⟩ := hv.cells
 refine calls_open Try.func31 rfl Try.ntmps31 rfl ?_
 dsimp only [argK]
 repeat (refine CW.seq ?_)
 refine CW.region ?_
 refine SL.val rfl rfl (Gd.g0 rfl) (Yd.assign rfl) ?_
 first | refine SL.nil_then ?_ | refine SL.nil ?_
 repeat (refine CW.seq ?_)
 refine CW.region ?_
 refine SL.val rfl rfl (Gd.g0 rfl) (Yd.move rfl) ?_
 refine SL.val rfl rfl (Gd.g0 rfl) (Yd.lenSl rfl isl_39) ?_
 refine SL.val rfl rfl (Gd.g0 rfl) (Yd.move rfl) ?_
 first | refine SL.nil_then ?_ | refine SL.nil ?_
 repeat (refine CW.seq ?_)
 refine CW.block ?_
 refine CW.loop (σ := Nat) (fun k => k ≤ xs.length ∧ idxF p xs.length 0 = idxF p (xs.length - k) k) (fun k => [(0, .slice ao xs.length cap), (1, .func (.func g) #[] cb.toArray), (7, .int .i64 (xs.length : Int)), (8, .int .i64 (k : Int))]) (fun _ => Wd w [] []) (fun k => xs.length - k) 0 ⟨by omega, rfl⟩ (Sub.cons rfl rfl (Sub.cons rfl rfl (Sub.cons rfl rfl (Sub.cons rfl rfl Sub.nil)))) (fun _ h => h) ?_
 intro k ⟨hk, hix⟩
 repeat (refine CW.seq ?_)
 refine CW.region ?_
 refine SL.val rfl rfl (Gd.g0 rfl) (Yd.lss rfl rfl) ?_
 first | refine SL.nil_then ?_ | refine SL.nil ?_
 repeat (refine CW.seq ?_)
 refine CW.condD rfl (fun hkn => ?_) (fun hkn => ?_)
 ·refine CW.skip ?_
  repeat (first | refine EX.in_normal ?_)
  first | refine EX.then_normal ?_ | skip
  have hlt : k < xs.length := by omega
  obtain ⟨b, off, rfl, hb, hc⟩ := h0 (by omega)
  repeat (refine CW.seq ?_)
  refine CW.block ?_
  repeat (refine CW.seq ?_)
  refine CW.region ?_
  refine SL.val rfl rfl (Gd.g0 rfl) (Yd.move rfl) ?_
  refine SL.val rfl rfl (Gd.g0 rfl) (Yd.assign rfl) ?_
  first | refine SL.nil_then ?_ | refine SL.nil ?_
  repeat (refine CW.seq ?_)
  refine CW.region ?_
  refine SL.val rfl rfl (Gd.g0 rfl) (Yd.move rfl) ?_
  refine SL.val rfl rfl (Gd.g0 rfl) (Yd.move rfl) ?_
  refine SL.val rfl rfl (Gd.g0 rfl) (Yd.move rfl) ?_
  refine SL.val rfl rfl (Gd.g0 rfl) ((by first | exact Yd.indexSlN rfl rfl sl_39 (by omega) | exact Yd.indexSl rfl rfl sl_39 (by omega))) ?_
  refine SL.val rfl rfl (Gd.g0 rfl) ((by first | exact Yd.load rfl ag_3 (Wd.cell (i := 0) rfl rfl) | exact Yd.load rfl ag_3 (Wd.cell (i := 1) rfl rfl) | exact Yd.load rfl ag_3 (Wd.cell (i := 2) rfl rfl) | exact Yd.load rfl ag_3 (Wd.cell (i := 3) rfl rfl) | exact Yd.load rfl ag_3 (Wd.cell (i := 4) rfl rfl) | exact Yd.load rfl ag_3 (Wd.cell (i := 5) rfl rfl) | exact Yd.load rfl ag_3 (Wd.inp hb (by simp) (hc k hlt 0 _ rfl)))) ?_
  refine SL.callB rfl rfl (Gd.g0 rfl) (Cll.value (fs := []) (cs := cb) rfl rfl rfl hg) (hcall k hlt) ?_
  first | refine SL.nil_then ?_ | refine SL.nil ?_
  obtain ⟨m, hm⟩ : ∃ m, xs.length - k = m + 1 := ⟨xs.length - k - 1, by omega⟩
  rw [hm] at hix
  repeat (refine CW.seq ?_)
  refine CW.cond rfl (fun hp => ?_) (fun hp => ?_)
  ·repeat (refine CW.seq ?_)
   refine CW.region ?_
   refine SL.val rfl rfl (Gd.g0 rfl) (Yd.move rfl) ?_
   refine SL.val rfl rfl (Gd.g0 rfl) (Yd.assign rfl) ?_
   first | refine SL.nil_then ?_ | refine SL.nil ?_
   refine CW.ret ?_
   repeat (first | refine EX.then_ret ?_ | refine EX.in_ret ?_)
   refine EX.out (rs := _) rfl (ResA.tmp rfl ResA.nil) (fun w2 hw => ?_) (by first | exact Or.inl rfl | exact Or.inr rfl)
   exact ⟨by rw [hix]; unfold idxF; rw [if_pos hp]; rfl, hw.below⟩
  refine CW.skip ?_
  repeat (first | refine EX.in_normal ?_)
  first | refine EX.then_normal ?_ | skip
  repeat (first | refine EX.in_normal ?_)
  first | refine EX.then_normal ?_ | skip
  repeat (refine CW.seq ?_)
  refine CW.region ?_
  refine SL.val rfl rfl (Gd.g0 rfl) ((by first | exact Yd.inc rfl (by omega) | exact Yd.add rfl rfl (by omega) | exact Yd.addW rfl rfl)) ?_
  refine SL.val rfl rfl (Gd.g0 rfl) (Yd.move rfl) ?_
  first | refine SL.nil_then ?_ | refine SL.nil ?_
  refine EX.round (k + 1) ⟨by omega, by rw [hix, show xs.length - (k + 1) = m by omega]; show (if p k = true then _ else _) = _; rw [if_neg (by rw [hp]; decide)]⟩ (by omega) (Sub.cons rfl rfl (Sub.cons rfl rfl (Sub.cons rfl rfl (Sub.cons rfl rfl Sub.nil)))) (fun _ h => h)
 refine CW.exit ?_
 repeat (first | refine EX.then_exit ?_ | refine EX.in_exit rfl ?_ | refine EX.in_exit_ne rfl ?_)
 first | refine EX.then_normal ?_ | skip
 repeat (refine CW.seq ?_)
 refine CW.region ?_
 refine SL.val rfl rfl (Gd.g0 rfl) (Yd.assign rfl) ?_
 first | refine SL.nil_then ?_ | refine SL.nil ?_
 refine CW.ret ?_
 repeat (first | refine EX.then_ret ?_ | refine EX.in_ret ?_)
 refine EX.out (rs := _) rfl (ResA.tmp rfl ResA.nil) (fun w2 hw => ?_) (by first | exact Or.inl rfl | exact Or.inr rfl)
 exact ⟨by rw [hix, show xs.length - k = 0 by omega]; rfl, hw.below⟩
end Go.Proofs.Ytokljoajalmkfaa
