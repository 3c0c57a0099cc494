/- Part of the proof of stopwatch_explores_proved: Swn, Swo, Swq. -/
import Derived.Test.YtokljoajalmkfaaXeSwi
import Derived.Test.YtokljoajalmkfaaXeSwj
import Derived.Test.YtokljoajalmkfaaXeSwv
namespace Go.Proofs.Ytokljoajalmkfaa
open Go Go.RowKit
set_option linter.unusedVariables false
set_option linter.unusedSimpArgs false
set_option linter.unnecessarySimpa false
theorem ChkE.num {ts : List Tk} {e : Ending} (h : ChkE ts e) : ∃ i : Int, True ∧ e = .returned (.int .i64 i) := by
 rcases h with ⟨_, rfl⟩ | ⟨_, ⟨rfl, _⟩ | ⟨rfl, _⟩⟩
 ·exact ⟨3, trivial, rfl⟩
 ·exact ⟨2, trivial, rfl⟩
 ·exact ⟨0, trivial, rfl⟩
set_option maxRecDepth 20000 in
set_option maxHeartbeats 8000000 in
theorem law_large (v : Value) (ts : List Tk) (w : World) (hv : TsR w v ts) : Calls Try.prog 7 #[v] w (SomB w) := by
 have hck : ∀ w2, Wd w [] [] w2 → Calls Try.prog 11 #[v] w2 fun e w' => (∃ i : Int, True ∧ e = .returned (.int .i64 i)) ∧ Below w2.heap.size w2 w' := fun w2 hw => (ref_check v ts w2 (hv.keepb hw.below)).mono fun e w' ⟨h, hb⟩ => ⟨h.num, hb⟩
 obtain ⟨ao, cap, rfl, hle, h0⟩ := hv.1.cells
 refine calls_open Try.func7 rfl Try.ntmps7 rfl ?_
 dsimp only [argK]
 repeat (refine CW.seq ?_)
 refine CW.region ?_
 refine SL.val rfl rfl (Gd.g0 rfl) (Yd.assign rfl) ?_
 first | refine SL.nil_then ?_ | refine SL.nil ?_
 repeat (refine CW.seq ?_)
 refine CW.region ?_
 refine SL.val rfl rfl (Gd.g0 rfl) (Yd.move rfl) ?_
 refine SL.val rfl rfl (Gd.g0 rfl) (Yd.lenSl rfl isl_22) ?_
 refine SL.val rfl rfl (Gd.g0 rfl) (Yd.gtr rfl rfl) ?_
 first | refine SL.nil_then ?_ | refine SL.nil ?_
 repeat (refine CW.seq ?_)
 refine CW.condD rfl (fun h4 => ?_) (fun h4 => ?_)
 ·repeat (refine CW.seq ?_)
  refine CW.region ?_
  refine SL.val rfl rfl (Gd.g0 rfl) (Yd.move rfl) ?_
  refine SL.callX rfl rfl (Gd.g0 rfl) (Cll.func rfl cf_11) hck (fun en _ => ?_)
  refine SL.val rfl rfl (Gd.g0 rfl) (Yd.eql rfl rfl) ?_
  refine SL.val rfl rfl (Gd.g0 rfl) (Yd.assign rfl) ?_
  first | refine SL.nil_then ?_ | refine SL.nil ?_
  refine CW.ret ?_
  repeat (first | refine EX.then_ret ?_ | refine EX.in_ret ?_)
  refine EX.out (rs := _) rfl (ResA.tmp rfl ResA.nil) (fun w2 hw => ?_) (by first | exact Or.inl rfl | exact Or.inr rfl)
  exact ⟨⟨_, trivial, rfl⟩, hw.below⟩
 refine CW.skip ?_
 repeat (first | refine EX.in_normal ?_)
 first | refine EX.then_normal ?_ | skip
 repeat (refine CW.seq ?_)
 refine CW.region ?_
 refine SL.val rfl rfl (Gd.g0 rfl) (Yd.assign rfl) ?_
 first | refine SL.nil_then ?_ | refine SL.nil ?_
 repeat (refine CW.seq ?_)
 refine CW.region ?_
 refine SL.val rfl rfl (Gd.g0 rfl) (Yd.assign rfl) ?_
 first | refine SL.nil_then ?_ | refine SL.nil ?_
 repeat (refine CW.seq ?_)
 refine CW.block ?_
 refine CW.loop (σ := Nat × Int) (fun s => s.1 ≤ ts.length) (fun s => [(0, .slice ao ts.length cap), (3, .int .i64 s.2), (4, .int .i64 (s.1 : Int))]) (fun _ => Wd w [] []) (fun s => ts.length - s.1) (0, 1) (by dsimp only; omega) (Sub.cons rfl rfl (Sub.cons rfl rfl (Sub.cons rfl rfl Sub.nil))) (fun _ h => h) ?_
 intro ⟨k, p⟩ hk
 dsimp only at hk ⊢
 repeat (refine CW.seq ?_)
 refine CW.region ?_
 refine SL.val rfl rfl (Gd.g0 rfl) (Yd.move rfl) ?_
 refine SL.val rfl rfl (Gd.g0 rfl) (Yd.move rfl) ?_
 refine SL.val rfl rfl (Gd.g0 rfl) (Yd.lenSl rfl isl_22) ?_
 refine SL.val rfl rfl (Gd.g0 rfl) (Yd.lss rfl rfl) ?_
 first | refine SL.nil_then ?_ | refine SL.nil ?_
 repeat (refine CW.seq ?_)
 refine CW.condD rfl (fun hkn => ?_) (fun hkn => ?_)
 ·refine CW.skip ?_
  repeat (first | refine EX.in_normal ?_)
  first | refine EX.then_normal ?_ | skip
  have hlt : k < ts.length := by omega
  obtain ⟨b, off, rfl, hb, hc⟩ := h0 (by omega)
  obtain ⟨t, ht⟩ : ∃ t, ge cdTk ts k = t := ⟨_, rfl⟩
  have hcs := hc k hlt
  rw [ht] at hcs
  repeat (refine CW.seq ?_)
  refine CW.block ?_
  repeat (refine CW.seq ?_)
  refine CW.region ?_
  refine SL.val rfl rfl (Gd.g0 rfl) (Yd.move rfl) ?_
  refine SL.val rfl rfl (Gd.g0 rfl) (Yd.move rfl) ?_
  refine SL.val rfl rfl (Gd.g0 rfl) ((by first | exact Yd.indexSlN rfl rfl sl_22 (by omega) | exact Yd.indexSl rfl rfl sl_22 (by omega))) ?_
  refine SL.val rfl rfl (Gd.g0 rfl) (Yd.fieldAddr rfl fo_37_1) ?_
  refine SL.val rfl rfl (Gd.g0 rfl) ((by first | exact Yd.load rfl ag_2 (Wd.cell (i := 0) rfl rfl) | exact Yd.load rfl ag_2 (Wd.cell (i := 1) rfl rfl) | exact Yd.load rfl ag_2 (Wd.cell (i := 2) rfl rfl) | exact Yd.load rfl ag_2 (Wd.cell (i := 3) rfl rfl) | exact Yd.load rfl ag_2 (Wd.cell (i := 4) rfl rfl) | exact Yd.load rfl ag_2 (Wd.cell (i := 5) rfl rfl) | exact Yd.load rfl ag_2 (Wd.inp hb (by simp) (hcs _ _ rfl)))) ?_
  refine SL.val rfl rfl (Gd.g0 rfl) (Yd.gtr rfl rfl) ?_
  first | refine SL.nil_then ?_ | refine SL.nil ?_
  repeat (refine CW.seq ?_)
  refine CW.condD rfl (fun h100 => ?_) (fun h100 => ?_)
  ·repeat (refine CW.seq ?_)
   refine CW.region ?_
   refine SL.val rfl rfl (Gd.g0 rfl) (Yd.move rfl) ?_
   refine SL.callX rfl rfl (Gd.g0 rfl) (Cll.func rfl cf_11) hck (fun en _ => ?_)
   refine SL.val rfl rfl (Gd.g0 rfl) (Yd.eql rfl rfl) ?_
   refine SL.val rfl rfl (Gd.g0 rfl) (Yd.assign rfl) ?_
   first | refine SL.nil_then ?_ | refine SL.nil ?_
   refine CW.ret ?_
   repeat (first | refine EX.then_ret ?_ | refine EX.in_ret ?_)
   refine EX.out (rs := _) rfl (ResA.tmp rfl ResA.nil) (fun w2 hw => ?_) (by first | exact Or.inl rfl | exact Or.inr rfl)
   exact ⟨⟨_, trivial, rfl⟩, hw.below⟩
  refine CW.skip ?_
  repeat (first | refine EX.in_normal ?_)
  first | refine EX.then_normal ?_ | skip
  repeat (refine CW.seq ?_)
  refine CW.region ?_
  refine SL.val rfl rfl (Gd.g0 rfl) (Yd.move rfl) ?_
  refine SL.val rfl rfl (Gd.g0 rfl) (Yd.move rfl) ?_
  refine SL.val rfl rfl (Gd.g0 rfl) (Yd.move rfl) ?_
  refine SL.val rfl rfl (Gd.g0 rfl) ((by first | exact Yd.indexSlN rfl rfl sl_22 (by omega) | exact Yd.indexSl rfl rfl sl_22 (by omega))) ?_
  refine SL.val rfl rfl (Gd.g0 rfl) (Yd.fieldAddr rfl fo_37_1) ?_
  refine SL.val rfl rfl (Gd.g0 rfl) ((by first | exact Yd.load rfl ag_2 (Wd.cell (i := 0) rfl rfl) | exact Yd.load rfl ag_2 (Wd.cell (i := 1) rfl rfl) | exact Yd.load rfl ag_2 (Wd.cell (i := 2) rfl rfl) | exact Yd.load rfl ag_2 (Wd.cell (i := 3) rfl rfl) | exact Yd.load rfl ag_2 (Wd.cell (i := 4) rfl rfl) | exact Yd.load rfl ag_2 (Wd.cell (i := 5) rfl rfl) | exact Yd.load rfl ag_2 (Wd.inp hb (by simp) (hcs _ _ rfl)))) ?_
  refine SL.val rfl rfl (Gd.g0 rfl) ((by first | exact Yd.inc rfl (by omega) | exact Yd.add rfl rfl (by omega) | exact Yd.addW rfl rfl)) ?_
  refine SL.val rfl rfl (Gd.g0 rfl) ((by first | exact Yd.mul rfl rfl (by omega) | exact Yd.mulW rfl rfl)) ?_
  refine SL.val rfl rfl (Gd.g0 rfl) (Yd.assign rfl) ?_
  first | refine SL.nil_then ?_ | refine SL.nil ?_
  repeat (first | refine EX.in_normal ?_)
  first | refine EX.then_normal ?_ | skip
  repeat (refine CW.seq ?_)
  refine CW.region ?_
  refine SL.val rfl rfl (Gd.g0 rfl) (Yd.move rfl) ?_
  refine SL.val rfl rfl (Gd.g0 rfl) ((by first | exact Yd.inc rfl (by omega) | exact Yd.add rfl rfl (by omega) | exact Yd.addW rfl rfl)) ?_
  refine SL.val rfl rfl (Gd.g0 rfl) (Yd.assign rfl) ?_
  first | refine SL.nil_then ?_ | refine SL.nil ?_
  refine EX.round (s := (k, p)) (k + 1, _) (by dsimp only; omega) (by dsimp only; omega) (Sub.cons rfl rfl (Sub.cons rfl rfl (Sub.cons rfl rfl Sub.nil))) (fun _ h => h)
 refine CW.exit ?_
 repeat (first | refine EX.then_exit ?_ | refine EX.in_exit rfl ?_ | refine EX.in_exit_ne rfl ?_)
 first | refine EX.then_normal ?_ | skip
 repeat (refine CW.seq ?_)
 refine CW.region ?_
 refine SL.val rfl rfl (Gd.g0 rfl) (Yd.move rfl) ?_
 refine SL.val rfl rfl (Gd.g0 rfl) (Yd.gtr rfl rfl) ?_
 refine SL.val rfl rfl (Gd.g0 rfl) (Yd.move rfl) ?_
 refine SL.splitD (dj := 36) rfl (fun hg36 => ?_) (fun hg36 => ?_)
 refine SL.val rfl rfl (Gd.yes rfl rfl rfl) (Yd.move rfl) ?_
 refine SL.callX rfl rfl (Gd.yes rfl rfl rfl) (Cll.func rfl cf_11) hck (fun en _ => ?_)
 refine SL.val rfl rfl (Gd.yes rfl rfl rfl) (Yd.eql rfl rfl) ?_
 refine SL.val rfl rfl (Gd.g0 rfl) ((by first | exact Yd.pickT rfl rfl | exact Yd.pickF rfl rfl | exact Yd.pickB rfl rfl rfl)) ?_
 refine SL.val rfl rfl (Gd.g0 rfl) (Yd.assign rfl) ?_
 first | refine SL.nil_then ?_ | refine SL.nil ?_
 rotate_left
 refine SL.unw rfl rfl (Gd.no rfl rfl rfl rfl) ?_
 refine SL.unw rfl rfl (Gd.no rfl rfl rfl rfl) ?_
 refine SL.unw rfl rfl (Gd.no rfl rfl rfl rfl) ?_
 refine SL.val rfl rfl (Gd.g0 rfl) ((by first | exact Yd.pickT rfl rfl | exact Yd.pickF rfl rfl | exact Yd.pickB rfl rfl rfl)) ?_
 refine SL.val rfl rfl (Gd.g0 rfl) (Yd.assign rfl) ?_
 first | refine SL.nil_then ?_ | refine SL.nil ?_
 rotate_left
 all_goals
  refine CW.ret ?_
  repeat (first | refine EX.then_ret ?_ | refine EX.in_ret ?_)
  refine EX.out (rs := _) rfl (ResA.tmp rfl ResA.nil) (fun w2 hw => ?_) (by first | exact Or.inl rfl | exact Or.inr rfl)
  exact ⟨⟨_, trivial, rfl⟩, hw.below⟩
end Go.Proofs.Ytokljoajalmkfaa
namespace Go.Proofs.Ytokljoajalmkfaa
open Go Go.RowKit
set_option linter.unusedVariables false
set_option linter.unusedSimpArgs false
set_option linter.unnecessarySimpa false
def cdN : Cd Nat := ⟨1, fun x => [.int .i64 (x : Int)], fun _ => rfl, 0⟩
set_option maxRecDepth 20000 in
theorem prog_len64 (n : Nat) (hn : n < 256) (w : World) : Calls Try.prog 50 #[.int .u64 (n : Int)] w fun e w' => (∃ i : Int, True ∧ e = .returned (.int .i64 i)) ∧ Below w.heap.size w w' := by
 have hw8 : IntKind.u8.wrap (n : Int) = (n : Int) := IntWalk.u8_in _ (by omega)
 have hsz : ∀ (s : ByteArray), s.size = 256 → n < s.size := fun s h => by omega
 refine calls_open Try.func50 rfl Try.ntmps50 rfl ?_
 dsimp only [argK]
 repeat (refine CW.seq ?_)
 refine CW.region ?_
 refine SL.val rfl rfl (Gd.g0 rfl) (Yd.assign rfl) ?_
 first | refine SL.nil_then ?_ | refine SL.nil ?_
 repeat (refine CW.seq ?_)
 refine CW.region ?_
 refine SL.val rfl rfl (Gd.g0 rfl) (Yd.move rfl) ?_
 refine SL.val rfl rfl (Gd.g0 rfl) (Yd.geq rfl rfl) ?_
 first | refine SL.nil_then ?_ | refine SL.nil ?_
 repeat (refine CW.seq ?_)
 refine CW.condD rfl (fun h1 => ?_) (fun h1 => ?_)
 ·omega
 refine CW.skip ?_
 repeat (first | refine EX.in_normal ?_)
 first | refine EX.then_normal ?_ | skip
 repeat (refine CW.seq ?_)
 refine CW.region ?_
 refine SL.val rfl rfl (Gd.g0 rfl) (Yd.move rfl) ?_
 refine SL.val rfl rfl (Gd.g0 rfl) (Yd.geq rfl rfl) ?_
 first | refine SL.nil_then ?_ | refine SL.nil ?_
 repeat (refine CW.seq ?_)
 refine CW.condD rfl (fun h2 => ?_) (fun h2 => ?_)
 ·omega
 refine CW.skip ?_
 repeat (first | refine EX.in_normal ?_)
 first | refine EX.then_normal ?_ | skip
 repeat (refine CW.seq ?_)
 refine CW.region ?_
 refine SL.val rfl rfl (Gd.g0 rfl) (Yd.move rfl) ?_
 refine SL.val rfl rfl (Gd.g0 rfl) (Yd.geq rfl rfl) ?_
 first | refine SL.nil_then ?_ | refine SL.nil ?_
 repeat (refine CW.seq ?_)
 refine CW.condD rfl (fun h3 => ?_) (fun h3 => ?_)
 ·omega
 refine CW.skip ?_
 repeat (first | refine EX.in_normal ?_)
 first | refine EX.then_normal ?_ | skip
 repeat (refine CW.seq ?_)
 refine CW.region ?_
 refine SL.val rfl rfl (Gd.g0 rfl) (Yd.move rfl) ?_
 refine SL.val rfl rfl (Gd.g0 rfl) (Yd.move rfl) ?_
 refine SL.val rfl rfl (Gd.g0 rfl) ((by first | exact Yd.convK rfl un_98 ik_5 rfl | exact Yd.convK rfl un_98 ik_5 (by assumption) | exact Yd.conv rfl un_98 ik_5)) ?_
 refine SL.val rfl rfl (Gd.g0 rfl) (Yd.byteAt rfl rfl istr_9 (hsz _ rfl)) ?_
 refine SL.val rfl rfl (Gd.g0 rfl) ((by first | exact Yd.convK rfl un_5 ik_3 rfl | exact Yd.convK rfl un_5 ik_3 (by assumption) | exact Yd.conv rfl un_5 ik_3)) ?_
 refine SL.val rfl rfl (Gd.g0 rfl) ((by first | exact Yd.inc rfl (by omega) | exact Yd.add rfl rfl (by omega) | exact Yd.addW rfl rfl)) ?_
 refine SL.val rfl rfl (Gd.g0 rfl) (Yd.assign rfl) ?_
 first | refine SL.nil_then ?_ | refine SL.nil ?_
 refine CW.ret ?_
 repeat (first | refine EX.then_ret ?_ | refine EX.in_ret ?_)
 refine EX.out (rs := _) rfl (ResA.tmp rfl ResA.nil) (fun w2 hw => ?_) (by first | exact Or.inl rfl | exact Or.inr rfl)
 exact ⟨⟨_, trivial, rfl⟩, hw.below⟩
set_option maxRecDepth 20000 in
theorem prog_len (n : Nat) (hn : n < 256) (w : World) : Calls Try.prog 29 #[.int .u64 (n : Int)] w fun e w' => (∃ i : Int, True ∧ e = .returned (.int .i64 i)) ∧ Below w.heap.size w w' := by
 refine calls_open Try.func29 rfl Try.ntmps29 rfl ?_
 dsimp only [argK]
 repeat (refine CW.seq ?_)
 refine CW.region ?_
 refine SL.val rfl rfl (Gd.g0 rfl) (Yd.assign rfl) ?_
 first | refine SL.nil_then ?_ | refine SL.nil ?_
 repeat (refine CW.seq ?_)
 refine CW.condF rfl ?_
 refine CW.skip ?_
 repeat (first | refine EX.in_normal ?_)
 first | refine EX.then_normal ?_ | skip
 repeat (refine CW.seq ?_)
 refine CW.region ?_
 refine SL.val rfl rfl (Gd.g0 rfl) (Yd.move rfl) ?_
 refine SL.callX rfl rfl (Gd.g0 rfl) (Cll.func rfl cf_50) (fun w2 hw => prog_len64 n hn w2) (fun q _ => ?_)
 refine SL.val rfl rfl (Gd.g0 rfl) (Yd.assign rfl) ?_
 first | refine SL.nil_then ?_ | refine SL.nil ?_
 refine CW.ret ?_
 repeat (first | refine EX.then_ret ?_ | refine EX.in_ret ?_)
 refine EX.out (rs := _) rfl (ResA.tmp rfl ResA.nil) (fun w2 hw => ?_) (by first | exact Or.inl rfl | exact Or.inr rfl)
 exact ⟨⟨_, trivial, rfl⟩, hw.below⟩
def SrtTo (key : Nat → Int) (xs : List Nat) (m : Nat) : Prop := ∀ a b, a < b → b < m → key (xs.getD b 0) < key (xs.getD a 0)
def SrtJ (key : Nat → Int) (xs : List Nat) (i j : Nat) : Prop := (∀ a b, a < b → b ≤ i → a ≠ j → b ≠ j → key (xs.getD b 0) < key (xs.getD a 0)) ∧ ∀ b, j < b → b ≤ i → key (xs.getD b 0) < key (xs.getD j 0)
theorem getD_mem {xs : List Nat} {k : Nat} (h : k < xs.length) : xs.getD k 0 ∈ xs := by
 rw [List.getD_eq_getElem?_getD, List.getElem?_eq_getElem h]; exact List.getElem_mem h
theorem getD_inj {xs : List Nat} (hn : xs.Nodup) {a b : Nat} (ha : a < xs.length) (hb : b < xs.length) (e : xs.getD a 0 = xs.getD b 0) : a = b := by
 rw [List.getD_eq_getElem?_getD, List.getElem?_eq_getElem ha, List.getD_eq_getElem?_getD, List.getElem?_eq_getElem hb] at e
 exact (List.getElem_inj hn).1 e
structure SrtI (key : Nat → Int) (xs0 xs : List Nat) : Prop where
 perm : xs.Perm xs0
 nodup : xs.Nodup
 inj : ∀ x, x ∈ xs → ∀ y, y ∈ xs → key x = key y → x = y
theorem swap_getD {xs : List Nat} {j k : Nat} (hj : 0 < j) (hl : j < xs.length) : ((xs.set j (xs.getD (j - 1) 0)).set (j - 1) (xs.getD j 0)).getD k 0 = if k = j - 1 then xs.getD j 0 else if k = j then xs.getD (j - 1) 0 else xs.getD k 0 := by
 rw [List.getD_eq_getElem?_getD, List.getElem?_set]
 by_cases h1 : j - 1 = k
 ·rw [if_pos h1, if_pos h1.symm, if_pos (by simp; omega)]; rfl
 ·rw [if_neg h1, if_neg (Ne.symm h1), List.getElem?_set]
  by_cases h2 : j = k
  ·rw [if_pos h2, if_pos h2.symm, if_pos (by omega)]; simp
  ·rw [if_neg h2, if_neg (Ne.symm h2)]; simp [List.getD_eq_getElem?_getD]
theorem SrtI.swap {key : Nat → Int} {xs0 xs : List Nat} (h : SrtI key xs0 xs) {j : Nat} (hj : 0 < j) (hl : j < xs.length) : SrtI key xs0 ((xs.set j (xs.getD (j - 1) 0)).set (j - 1) (xs.getD j 0)) := by
 have hp : ((xs.set j (xs.getD (j - 1) 0)).set (j - 1) (xs.getD j 0)).Perm xs := by
  have := List.set_set_perm hl (show j - 1 < xs.length by omega)
  rw [show xs.getD (j - 1) 0 = xs[j - 1] by rw [List.getD_eq_getElem?_getD, List.getElem?_eq_getElem (by omega)]; rfl, show xs.getD j 0 = xs[j] by rw [List.getD_eq_getElem?_getD, List.getElem?_eq_getElem hl]; rfl]
  exact this
 exact ⟨hp.trans h.perm, hp.nodup_iff.2 h.nodup, fun x hx y hy e => h.inj x (hp.mem_iff.1 hx) y (hp.mem_iff.1 hy) e⟩
theorem SrtJ.swap {key : Nat → Int} {xs : List Nat} {i j : Nat} (h : SrtJ key xs i j) (hj : 0 < j) (hji : j ≤ i) (hl : i < xs.length) (hk : key (xs.getD (j - 1) 0) < key (xs.getD j 0)) : SrtJ key ((xs.set j (xs.getD (j - 1) 0)).set (j - 1) (xs.getD j 0)) i (j - 1) := by
 have g := fun k => swap_getD (xs := xs) (k := k) hj (by omega)
 refine ⟨fun a b hab hb ha1 hb1 => ?_, fun b hb1 hb2 => ?_⟩
 ·rw [g, g, if_neg ha1, if_neg hb1]
  by_cases ea : a = j
  ·rw [if_pos ea, if_neg (by omega)]
   exact h.1 (j - 1) b (by omega) hb (by omega) (by omega)
  ·rw [if_neg ea]
   by_cases eb : b = j
   ·rw [if_pos eb]; exact h.1 a (j - 1) (by omega) (by omega) ea (by omega)
   ·rw [if_neg eb]; exact h.1 a b hab hb ea eb
 ·rw [g, g, if_neg (by omega), if_pos rfl]
  by_cases eb : b = j
  ·rw [if_pos eb]; exact hk
  ·rw [if_neg eb]; exact h.2 b (by omega) hb2
theorem SrtJ.start {key : Nat → Int} {xs : List Nat} {i : Nat} (h : SrtTo key xs i) : SrtJ key xs i i :=
 ⟨fun a b hab hb ha hb1 => h a b hab (by omega), fun b h1 h2 => by omega⟩
theorem SrtJ.stop {key : Nat → Int} {xs0 xs : List Nat} {i j : Nat} (hI : SrtI key xs0 xs) (h : SrtJ key xs i j) (hji : j ≤ i) (hl : i < xs.length) (hs : j = 0 ∨ ¬ key (xs.getD (j - 1) 0) < key (xs.getD j 0)) : SrtTo key xs (i + 1) := by
 intro a b hab hb
 have below : ∀ a, a < j → key (xs.getD j 0) < key (xs.getD a 0) := fun a ha => by
  have h1 : ¬ key (xs.getD (j - 1) 0) < key (xs.getD j 0) := hs.resolve_left (by omega)
  have hne : key (xs.getD (j - 1) 0) ≠ key (xs.getD j 0) := fun e => by
   have := hI.inj _ (getD_mem (show j - 1 < xs.length by omega)) _ (getD_mem (show j < xs.length by omega)) e
   have := getD_inj hI.nodup (show j - 1 < xs.length by omega) (show j < xs.length by omega) this
   omega
  by_cases e : a = j - 1
  ·rw [e]; omega
  ·have := h.1 a (j - 1) (by omega) (by omega) (by omega) (by omega); omega
 by_cases eb : b = j
 ·rw [eb]; exact below a (by omega)
 ·by_cases ea : a = j
  ·rw [ea]; exact h.2 b (by omega) (by omega)
  ·exact h.1 a b hab (by omega) ea eb
set_option maxRecDepth 20000 in
set_option maxHeartbeats 4000000 in
theorem ins_sort (bo cap : Nat) (xs0 : List Nat) (key : Nat → Int) (g : Nat) (cb : List Value) (w : World) (hown : (Rs.own cdN 3 (.slice (some ⟨bo, 0, none⟩) xs0.length cap) xs0).ok w) (hlen : xs0.length ≤ 12) (hI0 : SrtI key xs0 xs0) (hkey : ∀ x, x ∈ xs0 → -4611686018427387904 ≤ key x ∧ key x ≤ 9223372036854775807) (hg : callable Try.prog g = true)
  (hcmp : ∀ x, x ∈ xs0 → ∀ y, y ∈ xs0 → ∀ w2, Wd w [bo] [] w2 → Calls Try.prog g (.int .i64 (x : Int) :: .int .i64 (y : Int) :: cb).toArray w2 fun e w' => e = .returned (.int .i64 (key y - key x)) ∧ Below w2.heap.size w2 w') :
  Calls Try.prog 41 #[.slice (some ⟨bo, 0, none⟩) xs0.length cap, .int .i64 0, .int .i64 (xs0.length : Int), .func (.func g) #[] cb.toArray] w fun e w' => ∃ xs, (SrtI key xs0 xs ∧ SrtTo key xs xs0.length) ∧ e = .returned (.tuple #[]) ∧ Wd w [bo] [Rs.own cdN 3 (.slice (some ⟨bo, 0, none⟩) xs0.length cap) xs] w' := by
 have hst : Wd w [bo] [Rs.own cdN 3 (.slice (some ⟨bo, 0, none⟩) xs0.length cap) xs0] w := Wd.start1 hown
 refine calls_openD Try.func41 rfl Try.ntmps41 rfl hst ?_
 dsimp only [argK]
 repeat (refine CW.seq ?_)
 refine CW.region ?_
 refine SL.val rfl rfl (Gd.g0 rfl) (Yd.move rfl) ?_
 refine SL.val rfl rfl (Gd.g0 rfl) ((by first | exact Yd.inc rfl (by omega) | exact Yd.add rfl rfl (by omega) | exact Yd.addW rfl rfl)) ?_
 refine SL.val rfl rfl (Gd.g0 rfl) (Yd.assign rfl) ?_
 first | refine SL.nil_then ?_ | refine SL.nil ?_
 repeat (refine CW.seq ?_)
 refine CW.block ?_
 refine CW.loop (σ := Nat × List Nat) (fun s => SrtI key xs0 s.2 ∧ SrtTo key s.2 (min s.1 xs0.length) ∧ 1 ≤ s.1 ∧ s.1 ≤ xs0.length + 1) (fun s => [(0, .slice (some ⟨bo, 0, none⟩) xs0.length cap), (1, .int .i64 0), (2, .int .i64 (xs0.length : Int)), (3, .func (.func g) #[] cb.toArray), (8, .int .i64 (s.1 : Int))]) (fun s => Wd w [bo] [Rs.own cdN 3 (.slice (some ⟨bo, 0, none⟩) xs0.length cap) s.2]) (fun s => xs0.length + 1 - s.1) (1, xs0) ⟨hI0, fun a b h1 h2 => by dsimp only at h2; omega, by dsimp only; omega, by dsimp only; omega⟩ (Sub.cons rfl rfl (Sub.cons rfl rfl (Sub.cons rfl rfl (Sub.cons rfl rfl (Sub.cons rfl rfl Sub.nil))))) (fun _ h => h) ?_
 intro ⟨i, xs⟩ ⟨hI, hS, hi1, hi2⟩
 dsimp only at hI hS hi1 hi2 ⊢
 repeat (refine CW.seq ?_)
 refine CW.region ?_
 refine SL.val rfl rfl (Gd.g0 rfl) (Yd.move rfl) ?_
 refine SL.val rfl rfl (Gd.g0 rfl) (Yd.move rfl) ?_
 refine SL.val rfl rfl (Gd.g0 rfl) (Yd.lss rfl rfl) ?_
 first | refine SL.nil_then ?_ | refine SL.nil ?_
 repeat (refine CW.seq ?_)
 refine CW.condD rfl (fun hin => ?_) (fun hin => ?_)
 ·refine CW.skip ?_
  repeat (first | refine EX.in_normal ?_)
  first | refine EX.then_normal ?_ | skip
  have hii : min i xs0.length = i := by omega
  rw [hii] at hS
  repeat (refine CW.seq ?_)
  refine CW.block ?_
  repeat (refine CW.seq ?_)
  refine CW.region ?_
  refine SL.val rfl rfl (Gd.g0 rfl) (Yd.move rfl) ?_
  refine SL.val rfl rfl (Gd.g0 rfl) (Yd.assign rfl) ?_
  first | refine SL.nil_then ?_ | refine SL.nil ?_
  repeat (refine CW.seq ?_)
  refine CW.block ?_
  refine CW.loop (σ := Nat × List Nat) (fun s => SrtI key xs0 s.2 ∧ SrtJ key s.2 i s.1 ∧ s.1 ≤ i) (fun s => [(0, .slice (some ⟨bo, 0, none⟩) xs0.length cap), (1, .int .i64 0), (2, .int .i64 (xs0.length : Int)), (3, .func (.func g) #[] cb.toArray), (8, .int .i64 (i : Int)), (9, .int .i64 (s.1 : Int))]) (fun s => Wd w [bo] [Rs.own cdN 3 (.slice (some ⟨bo, 0, none⟩) xs0.length cap) s.2]) (fun s => s.1) (i, xs) ⟨hI, SrtJ.start hS, by dsimp only; omega⟩ (Sub.cons rfl rfl (Sub.cons rfl rfl (Sub.cons rfl rfl (Sub.cons rfl rfl (Sub.cons rfl rfl (Sub.cons rfl rfl Sub.nil)))))) (fun _ h => h) ?_
  intro ⟨j, ys⟩ ⟨hJI, hJ, hji⟩
  dsimp only at hJI hJ hji ⊢
  have hyl : ys.length = xs0.length := hJI.perm.length_eq
  have hjl : j < ys.length := by omega
  have hmem : ∀ k, k < ys.length → ys.getD k 0 ∈ xs0 := fun k hk => hJI.perm.mem_iff.1 (getD_mem hk)
  have hk1 := hkey _ (hmem j hjl)
  have hk2 := hkey _ (hmem (j - 1) (by omega))
  repeat (refine CW.seq ?_)
  refine CW.draw [(Tb w [bo], []), ((Rs.own cdN 3 (.slice (some ⟨bo, 0, none⟩) xs0.length cap) ys).ok, [])] mixed (fun w hw => hw.drew) (fun w hw => ⟨(by first | exact fun _ => hw.tb | exact fun _ => hw.ok 0 _ rfl | exact fun _ => hw.ok 1 _ rfl | exact fun _ => hw.ok 2 _ rfl | exact fun _ => hw.ok 3 _ rfl | exact fun _ => hw.ok 4 _ rfl | exact fun _ => hw.ok 5 _ rfl | exact SG.gone (by kernel_rfl)), (by first | exact fun _ => hw.tb | exact fun _ => hw.ok 0 _ rfl | exact fun _ => hw.ok 1 _ rfl | exact fun _ => hw.ok 2 _ rfl | exact fun _ => hw.ok 3 _ rfl | exact fun _ => hw.ok 4 _ rfl | exact fun _ => hw.ok 5 _ rfl | exact SG.gone (by kernel_rfl)), trivial⟩) ?_
  refine DL.take 0 rfl (by kernel_rfl) (by kernel_rfl) (by kernel_rfl) (by kernel_rfl) (by kernel_rfl) rfl rfl (Gd.g0 rfl) (heldN 0) (Yd.move rfl) ?_
  refine DL.take 1 rfl (by kernel_rfl) (by kernel_rfl) (by kernel_rfl) (by kernel_rfl) (by kernel_rfl) rfl rfl (Gd.g0 rfl) (heldN 1) (Yd.move rfl) ?_
  refine DL.take 2 rfl (by kernel_rfl) (by kernel_rfl) (by kernel_rfl) (by kernel_rfl) (by kernel_rfl) rfl rfl (Gd.g0 rfl) (heldN 2) (Yd.gtr rfl rfl) ?_
  refine DL.take 3 rfl (by kernel_rfl) (by kernel_rfl) (by kernel_rfl) (by kernel_rfl) (by kernel_rfl) rfl rfl (Gd.g0 rfl) (heldN 3) (Yd.move rfl) ?_
  refine DL.splitD (dj := 21) rfl (fun hg21 => ?_) (fun hg21 => ?_)
  refine DL.take 4 rfl (by kernel_rfl) (by kernel_rfl) (by kernel_rfl) (by kernel_rfl) (by kernel_rfl) rfl rfl (Gd.yes rfl rfl rfl) (heldN 4) (Yd.move rfl) ?_
  refine DL.take 5 rfl (by kernel_rfl) (by kernel_rfl) (by kernel_rfl) (by kernel_rfl) (by kernel_rfl) rfl rfl (Gd.yes rfl rfl rfl) (heldN 5) (Yd.move rfl) ?_
  refine DL.take 6 rfl (by kernel_rfl) (by kernel_rfl) (by kernel_rfl) (by kernel_rfl) (by kernel_rfl) rfl rfl (Gd.yes rfl rfl rfl) (heldN 6) (Yd.move rfl) ?_
  refine DL.take 7 rfl (by kernel_rfl) (by kernel_rfl) (by kernel_rfl) (by kernel_rfl) (by kernel_rfl) rfl rfl (Gd.yes rfl rfl rfl) (heldN 7) ((by first | exact Yd.indexSlN rfl rfl sl_39 (by omega) | exact Yd.indexSl rfl rfl sl_39 (by omega))) ?_
  refine DL.take 8 rfl (by kernel_rfl) (by kernel_rfl) (by kernel_rfl) (by kernel_rfl) (by kernel_rfl) rfl rfl (Gd.yes rfl rfl rfl) (held 8 1 rfl (by kernel_rfl)) (Yd.load rfl ag_3 (own_at1 rfl hjl (u := .int .i64 ((ys.getD j 0 : Nat) : Int)) rfl)) ?_
  refine DL.take 9 rfl (by kernel_rfl) (by kernel_rfl) (by kernel_rfl) (by kernel_rfl) (by kernel_rfl) rfl rfl (Gd.yes rfl rfl rfl) (heldN 9) (Yd.move rfl) ?_
  refine DL.take 10 rfl (by kernel_rfl) (by kernel_rfl) (by kernel_rfl) (by kernel_rfl) (by kernel_rfl) rfl rfl (Gd.yes rfl rfl rfl) (heldN 10) (Yd.move rfl) ?_
  refine DL.take 11 rfl (by kernel_rfl) (by kernel_rfl) (by kernel_rfl) (by kernel_rfl) (by kernel_rfl) rfl rfl (Gd.yes rfl rfl rfl) (heldN 11) (Yd.subC 1 rfl rfl (by omega) (by omega)) ?_
  refine DL.take 12 rfl (by kernel_rfl) (by kernel_rfl) (by kernel_rfl) (by kernel_rfl) (by kernel_rfl) rfl rfl (Gd.yes rfl rfl rfl) (heldN 12) ((by first | exact Yd.indexSlN rfl rfl sl_39 (by omega) | exact Yd.indexSl rfl rfl sl_39 (by omega))) ?_
  refine DL.take 13 rfl (by kernel_rfl) (by kernel_rfl) (by kernel_rfl) (by kernel_rfl) (by kernel_rfl) rfl rfl (Gd.yes rfl rfl rfl) (held 13 1 rfl (by kernel_rfl)) (Yd.load rfl ag_3 (own_at1 rfl (show j - 1 < ys.length by omega) (u := .int .i64 ((ys.getD (j - 1) 0 : Nat) : Int)) rfl)) ?_
  refine DL.ready1 (i := 14) (by kernel_rfl) ?_
  refine D1.callB rfl rfl rfl (Gd.yes rfl rfl rfl) (Cll.value (fs := []) (cs := cb) rfl rfl rfl hg) (fun w2 h => hcmp _ (hmem j hjl) _ (hmem (j - 1) (by omega)) w2 h.drop) (fun w hw => ⟨(by first | exact fun _ => hw.tb | exact fun _ => hw.ok 0 _ rfl | exact fun _ => hw.ok 1 _ rfl | exact fun _ => hw.ok 2 _ rfl | exact fun _ => hw.ok 3 _ rfl | exact fun _ => hw.ok 4 _ rfl | exact fun _ => hw.ok 5 _ rfl | exact SG.gone (by kernel_rfl)), (by first | exact fun _ => hw.tb | exact fun _ => hw.ok 0 _ rfl | exact fun _ => hw.ok 1 _ rfl | exact fun _ => hw.ok 2 _ rfl | exact fun _ => hw.ok 3 _ rfl | exact fun _ => hw.ok 4 _ rfl | exact fun _ => hw.ok 5 _ rfl | exact SG.gone (by kernel_rfl)), trivial⟩) ?_
  refine DL.take 15 rfl (by kernel_rfl) (by kernel_rfl) (by kernel_rfl) (by kernel_rfl) (by kernel_rfl) rfl rfl (Gd.yes rfl rfl rfl) (heldN 15) (Yd.lss rfl rfl) ?_
  refine DL.take 16 rfl (by kernel_rfl) (by kernel_rfl) (by kernel_rfl) (by kernel_rfl) (by kernel_rfl) rfl rfl (Gd.g0 rfl) (heldN 16) ((by first | exact Yd.pickT rfl rfl | exact Yd.pickF rfl rfl | exact Yd.pickB rfl rfl rfl)) ?_
  refine DL.done (by kernel_rfl) ?_
  first | refine EX.then_normal ?_ | skip
  rotate_left
  refine DL.takeN 4 rfl (by kernel_rfl) (by kernel_rfl) (by kernel_rfl) (by kernel_rfl) (by kernel_rfl) rfl rfl (Gd.no rfl rfl rfl rfl) ?_
  refine DL.takeN 5 rfl (by kernel_rfl) (by kernel_rfl) (by kernel_rfl) (by kernel_rfl) (by kernel_rfl) rfl rfl (Gd.no rfl rfl rfl rfl) ?_
  refine DL.takeN 6 rfl (by kernel_rfl) (by kernel_rfl) (by kernel_rfl) (by kernel_rfl) (by kernel_rfl) rfl rfl (Gd.no rfl rfl rfl rfl) ?_
  refine DL.takeN 7 rfl (by kernel_rfl) (by kernel_rfl) (by kernel_rfl) (by kernel_rfl) (by kernel_rfl) rfl rfl (Gd.no rfl rfl rfl rfl) ?_
  refine DL.takeN 8 rfl (by kernel_rfl) (by kernel_rfl) (by kernel_rfl) (by kernel_rfl) (by kernel_rfl) rfl rfl (Gd.no rfl rfl rfl rfl) ?_
  refine DL.takeN 9 rfl (by kernel_rfl) (by kernel_rfl) (by kernel_rfl) (by kernel_rfl) (by kernel_rfl) rfl rfl (Gd.no rfl rfl rfl rfl) ?_
  refine DL.takeN 10 rfl (by kernel_rfl) (by kernel_rfl) (by kernel_rfl) (by kernel_rfl) (by kernel_rfl) rfl rfl (Gd.no rfl rfl rfl rfl) ?_
  refine DL.takeN 11 rfl (by kernel_rfl) (by kernel_rfl) (by kernel_rfl) (by kernel_rfl) (by kernel_rfl) rfl rfl (Gd.no rfl rfl rfl rfl) ?_
  refine DL.takeN 12 rfl (by kernel_rfl) (by kernel_rfl) (by kernel_rfl) (by kernel_rfl) (by kernel_rfl) rfl rfl (Gd.no rfl rfl rfl rfl) ?_
  refine DL.takeN 13 rfl (by kernel_rfl) (by kernel_rfl) (by kernel_rfl) (by kernel_rfl) (by kernel_rfl) rfl rfl (Gd.no rfl rfl rfl rfl) ?_
  refine DL.takeN 14 rfl (by kernel_rfl) (by kernel_rfl) (by kernel_rfl) (by kernel_rfl) (by kernel_rfl) rfl rfl (Gd.no rfl rfl rfl rfl) ?_
  refine DL.takeN 15 rfl (by kernel_rfl) (by kernel_rfl) (by kernel_rfl) (by kernel_rfl) (by kernel_rfl) rfl rfl (Gd.no rfl rfl rfl rfl) ?_
  refine DL.take 16 rfl (by kernel_rfl) (by kernel_rfl) (by kernel_rfl) (by kernel_rfl) (by kernel_rfl) rfl rfl (Gd.g0 rfl) (heldN 16) ((by first | exact Yd.pickT rfl rfl | exact Yd.pickF rfl rfl | exact Yd.pickB rfl rfl rfl)) ?_
  refine DL.done (by kernel_rfl) ?_
  first | refine EX.then_normal ?_ | skip
  rotate_left
  ·repeat (refine CW.seq ?_)
   refine CW.condD rfl (fun hlt => ?_) (fun hlt => ?_)
   ·refine CW.skip ?_
    repeat (first | refine EX.in_normal ?_)
    first | refine EX.then_normal ?_ | skip
    repeat (refine CW.seq ?_)
    refine CW.block ?_
    repeat (refine CW.seq ?_)
    refine CW.draw [(Tb w [bo], []), ((Rs.own cdN 3 (.slice (some ⟨bo, 0, none⟩) xs0.length cap) ys).ok, [15])] mixed (fun w hw => hw.drew) (fun w hw => ⟨(by first | exact fun _ => hw.tb | exact fun _ => hw.ok 0 _ rfl | exact fun _ => hw.ok 1 _ rfl | exact fun _ => hw.ok 2 _ rfl | exact fun _ => hw.ok 3 _ rfl | exact fun _ => hw.ok 4 _ rfl | exact fun _ => hw.ok 5 _ rfl | exact SG.gone (by kernel_rfl)), (by first | exact fun _ => hw.tb | exact fun _ => hw.ok 0 _ rfl | exact fun _ => hw.ok 1 _ rfl | exact fun _ => hw.ok 2 _ rfl | exact fun _ => hw.ok 3 _ rfl | exact fun _ => hw.ok 4 _ rfl | exact fun _ => hw.ok 5 _ rfl | exact SG.gone (by kernel_rfl)), trivial⟩) ?_
    refine DL.take 0 rfl (by kernel_rfl) (by kernel_rfl) (by kernel_rfl) (by kernel_rfl) (by kernel_rfl) rfl rfl (Gd.g0 rfl) (heldN 0) (Yd.move rfl) ?_
    refine DL.take 1 rfl (by kernel_rfl) (by kernel_rfl) (by kernel_rfl) (by kernel_rfl) (by kernel_rfl) rfl rfl (Gd.g0 rfl) (heldN 1) (Yd.move rfl) ?_
    refine DL.take 2 rfl (by kernel_rfl) (by kernel_rfl) (by kernel_rfl) (by kernel_rfl) (by kernel_rfl) rfl rfl (Gd.g0 rfl) (heldN 2) (Yd.move rfl) ?_
    refine DL.take 3 rfl (by kernel_rfl) (by kernel_rfl) (by kernel_rfl) (by kernel_rfl) (by kernel_rfl) rfl rfl (Gd.g0 rfl) (heldN 3) (Yd.move rfl) ?_
    refine DL.take 4 rfl (by kernel_rfl) (by kernel_rfl) (by kernel_rfl) (by kernel_rfl) (by kernel_rfl) rfl rfl (Gd.g0 rfl) (heldN 4) ((by first | exact Yd.subC 1 rfl rfl (by omega) (by omega) | exact Yd.sub rfl rfl (by omega) | exact Yd.subW rfl rfl)) ?_
    refine DL.take 5 rfl (by kernel_rfl) (by kernel_rfl) (by kernel_rfl) (by kernel_rfl) (by kernel_rfl) rfl rfl (Gd.g0 rfl) (heldN 5) (Yd.move rfl) ?_
    refine DL.take 6 rfl (by kernel_rfl) (by kernel_rfl) (by kernel_rfl) (by kernel_rfl) (by kernel_rfl) rfl rfl (Gd.g0 rfl) (heldN 6) (Yd.move rfl) ?_
    refine DL.take 7 rfl (by kernel_rfl) (by kernel_rfl) (by kernel_rfl) (by kernel_rfl) (by kernel_rfl) rfl rfl (Gd.g0 rfl) (heldN 7) ((by first | exact Yd.subC 1 rfl rfl (by omega) (by omega) | exact Yd.sub rfl rfl (by omega) | exact Yd.subW rfl rfl)) ?_
    refine DL.take 8 rfl (by kernel_rfl) (by kernel_rfl) (by kernel_rfl) (by kernel_rfl) (by kernel_rfl) rfl rfl (Gd.g0 rfl) (heldN 8) ((by first | exact Yd.indexSlN rfl rfl sl_39 (by omega) | exact Yd.indexSl rfl rfl sl_39 (by omega))) ?_
    refine DL.take 9 rfl (by kernel_rfl) (by kernel_rfl) (by kernel_rfl) (by kernel_rfl) (by kernel_rfl) rfl rfl (Gd.g0 rfl) (held 9 1 rfl (by kernel_rfl)) (Yd.load rfl ag_3 (own_at1 rfl (show j - 1 < ys.length by omega) (u := .int .i64 ((ys.getD (j - 1) 0 : Nat) : Int)) rfl)) ?_
    refine DL.take 10 rfl (by kernel_rfl) (by kernel_rfl) (by kernel_rfl) (by kernel_rfl) (by kernel_rfl) rfl rfl (Gd.g0 rfl) (heldN 10) (Yd.move rfl) ?_
    refine DL.take 11 rfl (by kernel_rfl) (by kernel_rfl) (by kernel_rfl) (by kernel_rfl) (by kernel_rfl) rfl rfl (Gd.g0 rfl) (heldN 11) (Yd.move rfl) ?_
    refine DL.take 12 rfl (by kernel_rfl) (by kernel_rfl) (by kernel_rfl) (by kernel_rfl) (by kernel_rfl) rfl rfl (Gd.g0 rfl) (heldN 12) ((by first | exact Yd.indexSlN rfl rfl sl_39 (by omega) | exact Yd.indexSl rfl rfl sl_39 (by omega))) ?_
    refine DL.take 13 rfl (by kernel_rfl) (by kernel_rfl) (by kernel_rfl) (by kernel_rfl) (by kernel_rfl) rfl rfl (Gd.g0 rfl) (held 13 1 rfl (by kernel_rfl)) (Yd.load rfl ag_3 (own_at1 rfl hjl (u := .int .i64 ((ys.getD j 0 : Nat) : Int)) rfl)) ?_
    refine DL.take 14 rfl (by kernel_rfl) (by kernel_rfl) (by kernel_rfl) (by kernel_rfl) (by kernel_rfl) rfl rfl (Gd.g0 rfl) (heldN 14) ((by first | exact Yd.indexSlN rfl rfl sl_39 (by omega) | exact Yd.indexSl rfl rfl sl_39 (by omega))) ?_
    refine DL.ready1 (i := 15) (by kernel_rfl) ?_
    refine D1.ef0 rfl rfl (Gd.g0 rfl) (Ef0.storeOwn (i := 0) (k := j) (z := ys.getD (j - 1) 0) rfl rfl ag_3 rfl rfl rfl rfl (by omega) hjl) (fun w hw => ⟨(by first | exact fun _ => hw.tb | exact fun _ => hw.ok 0 _ rfl | exact fun _ => hw.ok 1 _ rfl | exact fun _ => hw.ok 2 _ rfl | exact fun _ => hw.ok 3 _ rfl | exact fun _ => hw.ok 4 _ rfl | exact fun _ => hw.ok 5 _ rfl | exact SG.gone (by kernel_rfl)), (by first | exact fun _ => hw.tb | exact fun _ => hw.ok 0 _ rfl | exact fun _ => hw.ok 1 _ rfl | exact fun _ => hw.ok 2 _ rfl | exact fun _ => hw.ok 3 _ rfl | exact fun _ => hw.ok 4 _ rfl | exact fun _ => hw.ok 5 _ rfl | exact SG.gone (by kernel_rfl)), trivial⟩) ?_
    try dsimp only [setR]
    refine DL.take 16 rfl (by kernel_rfl) (by kernel_rfl) (by kernel_rfl) (by kernel_rfl) (by kernel_rfl) rfl rfl (Gd.g0 rfl) (heldN 16) ((by first | exact Yd.indexSlN rfl rfl sl_39 (by omega) | exact Yd.indexSl rfl rfl sl_39 (by omega))) ?_
    refine DL.ready1 (i := 17) (by kernel_rfl) ?_
    refine D1.ef0 rfl rfl (Gd.g0 rfl) (Ef0.storeOwn (i := 0) (k := j - 1) (z := ys.getD j 0) rfl rfl ag_3 rfl rfl rfl rfl (by omega) (by rw [List.length_set]; omega)) (fun w hw => ⟨(by first | exact fun _ => hw.tb | exact fun _ => hw.ok 0 _ rfl | exact fun _ => hw.ok 1 _ rfl | exact fun _ => hw.ok 2 _ rfl | exact fun _ => hw.ok 3 _ rfl | exact fun _ => hw.ok 4 _ rfl | exact fun _ => hw.ok 5 _ rfl | exact SG.gone (by kernel_rfl)), (by first | exact fun _ => hw.tb | exact fun _ => hw.ok 0 _ rfl | exact fun _ => hw.ok 1 _ rfl | exact fun _ => hw.ok 2 _ rfl | exact fun _ => hw.ok 3 _ rfl | exact fun _ => hw.ok 4 _ rfl | exact fun _ => hw.ok 5 _ rfl | exact SG.gone (by kernel_rfl)), trivial⟩) ?_
    try dsimp only [setR]
    refine DL.done (by kernel_rfl) ?_
    first | refine EX.then_normal ?_ | skip
    repeat (first | refine EX.in_normal ?_)
    first | refine EX.then_normal ?_ | skip
    repeat (refine CW.seq ?_)
    refine CW.region ?_
    refine SL.val rfl rfl (Gd.g0 rfl) (Yd.move rfl) ?_
    refine SL.val rfl rfl (Gd.g0 rfl) ((by first | exact Yd.subC 1 rfl rfl (by omega) (by omega) | exact Yd.sub rfl rfl (by omega) | exact Yd.subW rfl rfl)) ?_
    refine SL.val rfl rfl (Gd.g0 rfl) (Yd.assign rfl) ?_
    first | refine SL.nil_then ?_ | refine SL.nil ?_
    refine EX.round (s := (j, ys)) (j - 1, (ys.set j (ys.getD (j - 1) 0)).set (j - 1) (ys.getD j 0)) ⟨hJI.swap (by omega) hjl, hJ.swap (by omega) hji (by omega) (by omega), by dsimp only; omega⟩ (by dsimp only; omega) (Sub.cons rfl rfl (Sub.cons rfl rfl (Sub.cons rfl rfl (Sub.cons rfl rfl (Sub.cons rfl rfl (Sub.cons rfl rfl Sub.nil)))))) (fun _ h => h)
   refine CW.exit ?_
   repeat (first | refine EX.then_exit ?_ | refine EX.in_exit rfl ?_ | refine EX.in_exit_ne rfl ?_)
   first | refine EX.then_normal ?_ | skip
   repeat (first | refine EX.in_normal ?_)
   first | refine EX.then_normal ?_ | skip
   repeat (refine CW.seq ?_)
   refine CW.region ?_
   refine SL.val rfl rfl (Gd.g0 rfl) (Yd.move rfl) ?_
   refine SL.val rfl rfl (Gd.g0 rfl) ((by first | exact Yd.inc rfl (by omega) | exact Yd.add rfl rfl (by omega) | exact Yd.addW rfl rfl)) ?_
   refine SL.val rfl rfl (Gd.g0 rfl) (Yd.assign rfl) ?_
   first | refine SL.nil_then ?_ | refine SL.nil ?_
   refine EX.round (s := (i, xs)) (i + 1, ys) ⟨hJI, by dsimp only; rw [show min (i + 1) xs0.length = i + 1 by omega]; exact hJ.stop hJI hji (by omega) (.inr (by omega)), by dsimp only; omega, by dsimp only; omega⟩ (by dsimp only; omega) (Sub.cons rfl rfl (Sub.cons rfl rfl (Sub.cons rfl rfl (Sub.cons rfl rfl (Sub.cons rfl rfl Sub.nil))))) (fun _ h => h)
  ·repeat (refine CW.seq ?_)
   refine CW.condF rfl ?_
   refine CW.exit ?_
   repeat (first | refine EX.then_exit ?_ | refine EX.in_exit rfl ?_ | refine EX.in_exit_ne rfl ?_)
   first | refine EX.then_normal ?_ | skip
   repeat (first | refine EX.in_normal ?_)
   first | refine EX.then_normal ?_ | skip
   repeat (refine CW.seq ?_)
   refine CW.region ?_
   refine SL.val rfl rfl (Gd.g0 rfl) (Yd.move rfl) ?_
   refine SL.val rfl rfl (Gd.g0 rfl) ((by first | exact Yd.inc rfl (by omega) | exact Yd.add rfl rfl (by omega) | exact Yd.addW rfl rfl)) ?_
   refine SL.val rfl rfl (Gd.g0 rfl) (Yd.assign rfl) ?_
   first | refine SL.nil_then ?_ | refine SL.nil ?_
   refine EX.round (s := (i, xs)) (i + 1, ys) ⟨hJI, by dsimp only; rw [show min (i + 1) xs0.length = i + 1 by omega]; exact hJ.stop hJI hji (by omega) (.inl (by omega)), by dsimp only; omega, by dsimp only; omega⟩ (by dsimp only; omega) (Sub.cons rfl rfl (Sub.cons rfl rfl (Sub.cons rfl rfl (Sub.cons rfl rfl (Sub.cons rfl rfl Sub.nil))))) (fun _ h => h)
 refine CW.exit ?_
 repeat (first | refine EX.then_exit ?_ | refine EX.in_exit rfl ?_ | refine EX.in_exit_ne rfl ?_)
 first | refine EX.then_normal ?_ | skip
 refine EX.out (rs := []) rfl ResA.nil (fun w2 hw => ?_) (by first | exact Or.inl rfl | exact Or.inr rfl)
 exact ⟨xs, ⟨hI, by rw [show min i xs0.length = xs0.length by omega] at hS; exact hS⟩, rfl, hw⟩
end Go.Proofs.Ytokljoajalmkfaa
namespace Go.Proofs.Ytokljoajalmkfaa
open Go Go.RowKit
set_option linter.unusedVariables false
set_option linter.unusedSimpArgs false
set_option linter.unnecessarySimpa false
set_option maxRecDepth 20000 in
set_option maxHeartbeats 4000000 in
theorem pdq_sort (bo cap : Nat) (xs0 : List Nat) (key : Nat → Int) (g : Nat) (cb : List Value) (lim : Int) (w : World) (hown : (Rs.own cdN 3 (.slice (some ⟨bo, 0, none⟩) xs0.length cap) xs0).ok w) (hlen : xs0.length ≤ 12) (hI0 : SrtI key xs0 xs0) (hkey : ∀ x, x ∈ xs0 → -4611686018427387904 ≤ key x ∧ key x ≤ 9223372036854775807) (hg : callable Try.prog g = true)
  (hcmp : ∀ x, x ∈ xs0 → ∀ y, y ∈ xs0 → ∀ w2, Wd w [bo] [] w2 → Calls Try.prog g (.int .i64 (x : Int) :: .int .i64 (y : Int) :: cb).toArray w2 fun e w' => e = .returned (.int .i64 (key y - key x)) ∧ Below w2.heap.size w2 w') :
  Calls Try.prog 28 #[.slice (some ⟨bo, 0, none⟩) xs0.length cap, .int .i64 0, .int .i64 (xs0.length : Int), .int .i64 lim, .func (.func g) #[] cb.toArray] w fun e w' => ∃ xs, (SrtI key xs0 xs ∧ SrtTo key xs xs0.length) ∧ e = .returned (.tuple #[]) ∧ Wd w [bo] [Rs.own cdN 3 (.slice (some ⟨bo, 0, none⟩) xs0.length cap) xs] w' := by
 have hst : Wd w [bo] [Rs.own cdN 3 (.slice (some ⟨bo, 0, none⟩) xs0.length cap) xs0] w := Wd.start1 hown
 refine calls_openD Try.func28 rfl Try.ntmps28 rfl hst ?_
 dsimp only [argK]
 repeat (refine CW.seq ?_)
 refine CW.region ?_
 refine SL.val rfl rfl (Gd.g0 rfl) (Yd.assign rfl) ?_
 first | refine SL.nil_then ?_ | refine SL.nil ?_
 repeat (refine CW.seq ?_)
 refine CW.region ?_
 refine SL.val rfl rfl (Gd.g0 rfl) (Yd.assign rfl) ?_
 first | refine SL.nil_then ?_ | refine SL.nil ?_
 repeat (refine CW.seq ?_)
 refine CW.block ?_
 refine CW.loop (σ := Unit) (fun _ => True) (fun _ => [(0, .slice (some ⟨bo, 0, none⟩) xs0.length cap), (1, .int .i64 0), (2, .int .i64 (xs0.length : Int)), (4, .func (.func g) #[] cb.toArray)]) (fun _ => Wd w [bo] [Rs.own cdN 3 (.slice (some ⟨bo, 0, none⟩) xs0.length cap) xs0]) (fun _ => 0) () trivial (Sub.cons rfl rfl (Sub.cons rfl rfl (Sub.cons rfl rfl (Sub.cons rfl rfl Sub.nil)))) (fun _ h => h) ?_
 intro _ _
 repeat (refine CW.seq ?_)
 refine CW.block ?_
 repeat (refine CW.seq ?_)
 refine CW.region ?_
 refine SL.val rfl rfl (Gd.g0 rfl) (Yd.move rfl) ?_
 refine SL.val rfl rfl (Gd.g0 rfl) (Yd.move rfl) ?_
 refine SL.val rfl rfl (Gd.g0 rfl) ((by first | exact Yd.sub rfl rfl (by omega) | exact Yd.subW rfl rfl)) ?_
 refine SL.val rfl rfl (Gd.g0 rfl) (Yd.assign rfl) ?_
 first | refine SL.nil_then ?_ | refine SL.nil ?_
 repeat (refine CW.seq ?_)
 refine CW.region ?_
 refine SL.val rfl rfl (Gd.g0 rfl) (Yd.move rfl) ?_
 refine SL.val rfl rfl (Gd.g0 rfl) (Yd.leq rfl rfl) ?_
 first | refine SL.nil_then ?_ | refine SL.nil ?_
 repeat (refine CW.seq ?_)
 refine CW.condD rfl (fun h12 => ?_) (fun h12 => ?_)
 ·repeat (refine CW.seq ?_)
  refine CW.region ?_
  refine SL.val rfl rfl (Gd.g0 rfl) (Yd.move rfl) ?_
  refine SL.val rfl rfl (Gd.g0 rfl) (Yd.move rfl) ?_
  refine SL.val rfl rfl (Gd.g0 rfl) (Yd.move rfl) ?_
  refine SL.val rfl rfl (Gd.g0 rfl) (Yd.move rfl) ?_
  refine SL.callG (σ := {xs : List Nat // SrtI key xs0 xs ∧ SrtTo key xs xs0.length}) (V := fun _ => .tuple #[]) (S' := fun xs => Wd w [bo] [Rs.own cdN 3 (.slice (some ⟨bo, 0, none⟩) xs0.length cap) xs.1]) rfl rfl (Gd.g0 rfl) (Cll.func rfl cf_41) (fun w2 hw => (ins_sort bo cap xs0 key g cb w2 (hw.ok 0 _ rfl) hlen hI0 hkey hg (fun x hx y hy w3 h3 => hcmp x hx y hy w3 (hw.trans0 h3))).mono fun e w' ⟨xs, h1, h2, h3⟩ => ⟨⟨xs, h1⟩, h2, hw.after (i := 0) rfl h3⟩) (fun xs => ?_)
  first | refine SL.nil_then ?_ | refine SL.nil ?_
  refine CW.ret ?_
  repeat (first | refine EX.then_ret ?_ | refine EX.in_ret ?_)
  refine EX.out (rs := []) rfl ResA.nil (fun w2 hw => ?_) (Or.inl rfl)
  exact ⟨xs.1, xs.2, rfl, hw⟩
 ·omega
set_option maxRecDepth 20000 in
set_option maxHeartbeats 4000000 in
theorem prog_sort (bo cap : Nat) (xs0 : List Nat) (key : Nat → Int) (g : Nat) (cb : List Value) (w : World) (hown : (Rs.own cdN 3 (.slice (some ⟨bo, 0, none⟩) xs0.length cap) xs0).ok w) (hlen : xs0.length ≤ 12) (hI0 : SrtI key xs0 xs0) (hkey : ∀ x, x ∈ xs0 → -4611686018427387904 ≤ key x ∧ key x ≤ 9223372036854775807) (hg : callable Try.prog g = true)
  (hcmp : ∀ x, x ∈ xs0 → ∀ y, y ∈ xs0 → ∀ w2, Wd w [bo] [] w2 → Calls Try.prog g (.int .i64 (x : Int) :: .int .i64 (y : Int) :: cb).toArray w2 fun e w' => e = .returned (.int .i64 (key y - key x)) ∧ Below w2.heap.size w2 w') :
  Calls Try.prog 16 #[.slice (some ⟨bo, 0, none⟩) xs0.length cap, .func (.func g) #[] cb.toArray] w fun e w' => ∃ xs, (SrtI key xs0 xs ∧ SrtTo key xs xs0.length) ∧ e = .returned (.tuple #[]) ∧ Wd w [bo] [Rs.own cdN 3 (.slice (some ⟨bo, 0, none⟩) xs0.length cap) xs] w' := by
 have hst : Wd w [bo] [Rs.own cdN 3 (.slice (some ⟨bo, 0, none⟩) xs0.length cap) xs0] w := Wd.start1 hown
 have hu64 : IntKind.u64.wrap (xs0.length : Int) = (xs0.length : Int) := IntWalk.u64_in _ (by omega)
 refine calls_openD Try.func16 rfl Try.ntmps16 rfl hst ?_
 dsimp only [argK]
 repeat (refine CW.seq ?_)
 refine CW.region ?_
 refine SL.val rfl rfl (Gd.g0 rfl) (Yd.move rfl) ?_
 refine SL.val rfl rfl (Gd.g0 rfl) (Yd.lenSl rfl isl_39) ?_
 refine SL.val rfl rfl (Gd.g0 rfl) (Yd.assign rfl) ?_
 first | refine SL.nil_then ?_ | refine SL.nil ?_
 repeat (refine CW.seq ?_)
 refine CW.region ?_
 refine SL.val rfl rfl (Gd.g0 rfl) (Yd.move rfl) ?_
 refine SL.val rfl rfl (Gd.g0 rfl) (Yd.move rfl) ?_
 refine SL.val rfl rfl (Gd.g0 rfl) (Yd.move rfl) ?_
 refine SL.val rfl rfl (Gd.g0 rfl) ((by first | exact Yd.convK rfl un_3 ik_59 rfl | exact Yd.convK rfl un_3 ik_59 (by assumption) | exact Yd.conv rfl un_3 ik_59)) ?_
 refine SL.callX rfl rfl (Gd.g0 rfl) (Cll.func rfl cf_29) (fun w2 hw => prog_len xs0.length (by omega) w2) (fun lim _ => ?_)
 refine SL.val rfl rfl (Gd.g0 rfl) (Yd.move rfl) ?_
 refine SL.callG (σ := {xs : List Nat // SrtI key xs0 xs ∧ SrtTo key xs xs0.length}) (V := fun _ => .tuple #[]) (S' := fun xs => Wd w [bo] [Rs.own cdN 3 (.slice (some ⟨bo, 0, none⟩) xs0.length cap) xs.1]) rfl rfl (Gd.g0 rfl) (Cll.func rfl cf_28) (fun w2 hw => (pdq_sort bo cap xs0 key g cb lim w2 (hw.ok 0 _ rfl) hlen hI0 hkey hg (fun x hx y hy w3 h3 => hcmp x hx y hy w3 (hw.trans0 h3))).mono fun e w' ⟨xs, h1, h2, h3⟩ => ⟨⟨xs, h1⟩, h2, hw.after (i := 0) rfl h3⟩) (fun xs => ?_)
 first | refine SL.nil_then ?_ | refine SL.nil ?_
 refine EX.out (rs := []) rfl ResA.nil (fun w2 hw => ?_) (Or.inr rfl)
 exact ⟨xs.1, xs.2, rfl, hw⟩
set_option maxRecDepth 20000 in
/-- The comparison: by priority. -/
theorem prog_cmp (v : Value) (ts : List Tk) (b1 x y : Nat) (w : World) (hv : TsR w v ts) (hb1 : b1 < w.heap.size) (hc1 : w.cell? ⟨b1, 0, none⟩ = some v) (hx : x < ts.length) (hy : y < ts.length) (hpx : 1 ≤ (tk ts x).pr ∧ (tk ts x).pr ≤ 9223372036854775807) (hpy : 1 ≤ (tk ts y).pr ∧ (tk ts y).pr ≤ 9223372036854775807) :
  Calls Try.prog 17 #[.int .i64 (x : Int), .int .i64 (y : Int), .pointer (some ⟨b1, 0, none⟩)] w fun e w' => e = .returned (.int .i64 ((tk ts y).pr - (tk ts x).pr)) ∧ Below w.heap.size w w' := by
 obtain ⟨ao, cap, rfl, hle, h0⟩ := hv.1.cells
 obtain ⟨b, off, rfl, hb, hc⟩ := h0 (by omega)
 have h5x : w.cell? ⟨b, off + x * 7 + 5, none⟩ = some (.int .i64 (tk ts x).pr) := hc x hx 5 _ rfl
 have h5y : w.cell? ⟨b, off + y * 7 + 5, none⟩ = some (.int .i64 (tk ts y).pr) := hc y hy 5 _ rfl
 refine calls_open Try.func17 rfl Try.ntmps17 rfl ?_
 dsimp only [argK]
 repeat (refine CW.seq ?_)
 refine CW.region ?_
 refine SL.val rfl rfl (Gd.g0 rfl) (Yd.assign rfl) ?_
 first | refine SL.nil_then ?_ | refine SL.nil ?_
 repeat (refine CW.seq ?_)
 refine CW.draw [(Tb w [], [])] mixed (fun w hw => hw.drew) (fun w hw => ⟨(by first | exact fun _ => hw.tb | exact fun _ => hw.ok 0 _ rfl | exact fun _ => hw.ok 1 _ rfl | exact fun _ => hw.ok 2 _ rfl | exact fun _ => hw.ok 3 _ rfl | exact fun _ => hw.ok 4 _ rfl | exact fun _ => hw.ok 5 _ rfl | exact SG.gone (by kernel_rfl)), trivial⟩) ?_
 first | refine DL.take 0 rfl (by kernel_rfl) (by kernel_rfl) (by kernel_rfl) (by kernel_rfl) (by kernel_rfl) rfl rfl (Gd.g0 rfl) (held 0 1 rfl (by kernel_rfl)) (Yd.load rfl ag_22 (row_cell rfl)) ?_ | refine DL.take 0 rfl (by kernel_rfl) (by kernel_rfl) (by kernel_rfl) (by kernel_rfl) (by kernel_rfl) rfl rfl (Gd.g0 rfl) (held 0 2 rfl (by kernel_rfl)) (Yd.load rfl ag_22 (row_cell rfl)) ?_ | refine DL.take 0 rfl (by kernel_rfl) (by kernel_rfl) (by kernel_rfl) (by kernel_rfl) (by kernel_rfl) rfl rfl (Gd.g0 rfl) (held 0 3 rfl (by kernel_rfl)) (Yd.load rfl ag_22 (row_cell rfl)) ?_ | refine DL.take 0 rfl (by kernel_rfl) (by kernel_rfl) (by kernel_rfl) (by kernel_rfl) (by kernel_rfl) rfl rfl (Gd.g0 rfl) (held 0 4 rfl (by kernel_rfl)) (Yd.load rfl ag_22 (row_cell rfl)) ?_ | refine DL.take 0 rfl (by kernel_rfl) (by kernel_rfl) (by kernel_rfl) (by kernel_rfl) (by kernel_rfl) rfl rfl (Gd.g0 rfl) (held 0 5 rfl (by kernel_rfl)) (Yd.load rfl ag_22 (row_cell rfl)) ?_ | refine DL.take 0 rfl (by kernel_rfl) (by kernel_rfl) (by kernel_rfl) (by kernel_rfl) (by kernel_rfl) rfl rfl (Gd.g0 rfl) (held 0 0 rfl (by kernel_rfl)) (Yd.load rfl ag_22 (Tb.inp hb1 (by simp) hc1)) ?_ | refine DL.take 0 rfl (by kernel_rfl) (by kernel_rfl) (by kernel_rfl) (by kernel_rfl) (by kernel_rfl) rfl rfl (Gd.g0 rfl) (held 0 0 rfl (by kernel_rfl)) (Yd.load rfl ag_22 (Tb.inp hb (by simp) h5x)) ?_ | refine DL.take 0 rfl (by kernel_rfl) (by kernel_rfl) (by kernel_rfl) (by kernel_rfl) (by kernel_rfl) rfl rfl (Gd.g0 rfl) (held 0 0 rfl (by kernel_rfl)) (Yd.load rfl ag_22 (Tb.inp hb (by simp) h5y)) ?_
 refine DL.take 1 rfl (by kernel_rfl) (by kernel_rfl) (by kernel_rfl) (by kernel_rfl) (by kernel_rfl) rfl rfl (Gd.g0 rfl) (heldN 1) (Yd.move rfl) ?_
 refine DL.take 2 rfl (by kernel_rfl) (by kernel_rfl) (by kernel_rfl) (by kernel_rfl) (by kernel_rfl) rfl rfl (Gd.g0 rfl) (heldN 2) ((by first | exact Yd.indexSlN rfl rfl sl_22 (by omega) | exact Yd.indexSl rfl rfl sl_22 (by omega))) ?_
 refine DL.take 3 rfl (by kernel_rfl) (by kernel_rfl) (by kernel_rfl) (by kernel_rfl) (by kernel_rfl) rfl rfl (Gd.g0 rfl) (heldN 3) (Yd.fieldAddr rfl fo_37_5) ?_
 first | refine DL.take 4 rfl (by kernel_rfl) (by kernel_rfl) (by kernel_rfl) (by kernel_rfl) (by kernel_rfl) rfl rfl (Gd.g0 rfl) (held 4 1 rfl (by kernel_rfl)) (Yd.load rfl ag_3 (row_cell rfl)) ?_ | refine DL.take 4 rfl (by kernel_rfl) (by kernel_rfl) (by kernel_rfl) (by kernel_rfl) (by kernel_rfl) rfl rfl (Gd.g0 rfl) (held 4 2 rfl (by kernel_rfl)) (Yd.load rfl ag_3 (row_cell rfl)) ?_ | refine DL.take 4 rfl (by kernel_rfl) (by kernel_rfl) (by kernel_rfl) (by kernel_rfl) (by kernel_rfl) rfl rfl (Gd.g0 rfl) (held 4 3 rfl (by kernel_rfl)) (Yd.load rfl ag_3 (row_cell rfl)) ?_ | refine DL.take 4 rfl (by kernel_rfl) (by kernel_rfl) (by kernel_rfl) (by kernel_rfl) (by kernel_rfl) rfl rfl (Gd.g0 rfl) (held 4 4 rfl (by kernel_rfl)) (Yd.load rfl ag_3 (row_cell rfl)) ?_ | refine DL.take 4 rfl (by kernel_rfl) (by kernel_rfl) (by kernel_rfl) (by kernel_rfl) (by kernel_rfl) rfl rfl (Gd.g0 rfl) (held 4 5 rfl (by kernel_rfl)) (Yd.load rfl ag_3 (row_cell rfl)) ?_ | refine DL.take 4 rfl (by kernel_rfl) (by kernel_rfl) (by kernel_rfl) (by kernel_rfl) (by kernel_rfl) rfl rfl (Gd.g0 rfl) (held 4 0 rfl (by kernel_rfl)) (Yd.load rfl ag_3 (Tb.inp hb1 (by simp) hc1)) ?_ | refine DL.take 4 rfl (by kernel_rfl) (by kernel_rfl) (by kernel_rfl) (by kernel_rfl) (by kernel_rfl) rfl rfl (Gd.g0 rfl) (held 4 0 rfl (by kernel_rfl)) (Yd.load rfl ag_3 (Tb.inp hb (by simp) h5x)) ?_ | refine DL.take 4 rfl (by kernel_rfl) (by kernel_rfl) (by kernel_rfl) (by kernel_rfl) (by kernel_rfl) rfl rfl (Gd.g0 rfl) (held 4 0 rfl (by kernel_rfl)) (Yd.load rfl ag_3 (Tb.inp hb (by simp) h5y)) ?_
 first | refine DL.take 5 rfl (by kernel_rfl) (by kernel_rfl) (by kernel_rfl) (by kernel_rfl) (by kernel_rfl) rfl rfl (Gd.g0 rfl) (held 5 1 rfl (by kernel_rfl)) (Yd.load rfl ag_22 (row_cell rfl)) ?_ | refine DL.take 5 rfl (by kernel_rfl) (by kernel_rfl) (by kernel_rfl) (by kernel_rfl) (by kernel_rfl) rfl rfl (Gd.g0 rfl) (held 5 2 rfl (by kernel_rfl)) (Yd.load rfl ag_22 (row_cell rfl)) ?_ | refine DL.take 5 rfl (by kernel_rfl) (by kernel_rfl) (by kernel_rfl) (by kernel_rfl) (by kernel_rfl) rfl rfl (Gd.g0 rfl) (held 5 3 rfl (by kernel_rfl)) (Yd.load rfl ag_22 (row_cell rfl)) ?_ | refine DL.take 5 rfl (by kernel_rfl) (by kernel_rfl) (by kernel_rfl) (by kernel_rfl) (by kernel_rfl) rfl rfl (Gd.g0 rfl) (held 5 4 rfl (by kernel_rfl)) (Yd.load rfl ag_22 (row_cell rfl)) ?_ | refine DL.take 5 rfl (by kernel_rfl) (by kernel_rfl) (by kernel_rfl) (by kernel_rfl) (by kernel_rfl) rfl rfl (Gd.g0 rfl) (held 5 5 rfl (by kernel_rfl)) (Yd.load rfl ag_22 (row_cell rfl)) ?_ | refine DL.take 5 rfl (by kernel_rfl) (by kernel_rfl) (by kernel_rfl) (by kernel_rfl) (by kernel_rfl) rfl rfl (Gd.g0 rfl) (held 5 0 rfl (by kernel_rfl)) (Yd.load rfl ag_22 (Tb.inp hb1 (by simp) hc1)) ?_ | refine DL.take 5 rfl (by kernel_rfl) (by kernel_rfl) (by kernel_rfl) (by kernel_rfl) (by kernel_rfl) rfl rfl (Gd.g0 rfl) (held 5 0 rfl (by kernel_rfl)) (Yd.load rfl ag_22 (Tb.inp hb (by simp) h5x)) ?_ | refine DL.take 5 rfl (by kernel_rfl) (by kernel_rfl) (by kernel_rfl) (by kernel_rfl) (by kernel_rfl) rfl rfl (Gd.g0 rfl) (held 5 0 rfl (by kernel_rfl)) (Yd.load rfl ag_22 (Tb.inp hb (by simp) h5y)) ?_
 refine DL.take 6 rfl (by kernel_rfl) (by kernel_rfl) (by kernel_rfl) (by kernel_rfl) (by kernel_rfl) rfl rfl (Gd.g0 rfl) (heldN 6) (Yd.move rfl) ?_
 refine DL.take 7 rfl (by kernel_rfl) (by kernel_rfl) (by kernel_rfl) (by kernel_rfl) (by kernel_rfl) rfl rfl (Gd.g0 rfl) (heldN 7) ((by first | exact Yd.indexSlN rfl rfl sl_22 (by omega) | exact Yd.indexSl rfl rfl sl_22 (by omega))) ?_
 refine DL.take 8 rfl (by kernel_rfl) (by kernel_rfl) (by kernel_rfl) (by kernel_rfl) (by kernel_rfl) rfl rfl (Gd.g0 rfl) (heldN 8) (Yd.fieldAddr rfl fo_37_5) ?_
 first | refine DL.take 9 rfl (by kernel_rfl) (by kernel_rfl) (by kernel_rfl) (by kernel_rfl) (by kernel_rfl) rfl rfl (Gd.g0 rfl) (held 9 1 rfl (by kernel_rfl)) (Yd.load rfl ag_3 (row_cell rfl)) ?_ | refine DL.take 9 rfl (by kernel_rfl) (by kernel_rfl) (by kernel_rfl) (by kernel_rfl) (by kernel_rfl) rfl rfl (Gd.g0 rfl) (held 9 2 rfl (by kernel_rfl)) (Yd.load rfl ag_3 (row_cell rfl)) ?_ | refine DL.take 9 rfl (by kernel_rfl) (by kernel_rfl) (by kernel_rfl) (by kernel_rfl) (by kernel_rfl) rfl rfl (Gd.g0 rfl) (held 9 3 rfl (by kernel_rfl)) (Yd.load rfl ag_3 (row_cell rfl)) ?_ | refine DL.take 9 rfl (by kernel_rfl) (by kernel_rfl) (by kernel_rfl) (by kernel_rfl) (by kernel_rfl) rfl rfl (Gd.g0 rfl) (held 9 4 rfl (by kernel_rfl)) (Yd.load rfl ag_3 (row_cell rfl)) ?_ | refine DL.take 9 rfl (by kernel_rfl) (by kernel_rfl) (by kernel_rfl) (by kernel_rfl) (by kernel_rfl) rfl rfl (Gd.g0 rfl) (held 9 5 rfl (by kernel_rfl)) (Yd.load rfl ag_3 (row_cell rfl)) ?_ | refine DL.take 9 rfl (by kernel_rfl) (by kernel_rfl) (by kernel_rfl) (by kernel_rfl) (by kernel_rfl) rfl rfl (Gd.g0 rfl) (held 9 0 rfl (by kernel_rfl)) (Yd.load rfl ag_3 (Tb.inp hb1 (by simp) hc1)) ?_ | refine DL.take 9 rfl (by kernel_rfl) (by kernel_rfl) (by kernel_rfl) (by kernel_rfl) (by kernel_rfl) rfl rfl (Gd.g0 rfl) (held 9 0 rfl (by kernel_rfl)) (Yd.load rfl ag_3 (Tb.inp hb (by simp) h5x)) ?_ | refine DL.take 9 rfl (by kernel_rfl) (by kernel_rfl) (by kernel_rfl) (by kernel_rfl) (by kernel_rfl) rfl rfl (Gd.g0 rfl) (held 9 0 rfl (by kernel_rfl)) (Yd.load rfl ag_3 (Tb.inp hb (by simp) h5y)) ?_
 refine DL.take 10 rfl (by kernel_rfl) (by kernel_rfl) (by kernel_rfl) (by kernel_rfl) (by kernel_rfl) rfl rfl (Gd.g0 rfl) (heldN 10) ((by first | exact Yd.sub rfl rfl (by omega) | exact Yd.subW rfl rfl)) ?_
 refine DL.take 11 rfl (by kernel_rfl) (by kernel_rfl) (by kernel_rfl) (by kernel_rfl) (by kernel_rfl) rfl rfl (Gd.g0 rfl) (heldN 11) (Yd.assign rfl) ?_
 refine DL.done (by kernel_rfl) ?_
 first | refine EX.then_normal ?_ | skip
 refine CW.ret ?_
 repeat (first | refine EX.then_ret ?_ | refine EX.in_ret ?_)
 refine EX.out (rs := _) rfl (ResA.tmp rfl ResA.nil) (fun w2 hw => ?_) (by first | exact Or.inl rfl | exact Or.inr rfl)
 exact ⟨rfl, hw.below⟩
end Go.Proofs.Ytokljoajalmkfaa
