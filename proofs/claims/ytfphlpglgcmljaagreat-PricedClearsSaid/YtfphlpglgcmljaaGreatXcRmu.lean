/- Part of the proof of priced_clears_proved: Prat, Rmu. -/
import Derived.Deep.RegionHeld3
import Derived.Laws.EntriesVeiled
import Derived.Deep.DeepCutAuto
import Derived.Test.YtfphlpglgcmljaaGreatXcWid1
import Derived.Test.YtfphlpglgcmljaaGreatXcRat
namespace Go.Proofs.YtfphlpglgcmljaaGreat
open Go.RowKit
set_option linter.unusedVariables false
set_option linter.unusedVariables false
end Go.Proofs.YtfphlpglgcmljaaGreat
namespace Go.Proofs.YtfphlpglgcmljaaGreat
open Go.RowKit
set_option linter.unusedVariables false
def I64 (n : Int) : Prop := -9223372036854775808 ≤ n ∧ n ≤ 9223372036854775807
set_option linter.unusedVariables false
def sbR (a b c d : Int) : (Int × Int) × Int := if vr a b = true ∧ vr c d = true then mkR (a * d - c * b) (b * d) else ((0, 0), 2)
theorem sbR_yes {a b c d : Int} (h : (vr a b && vr c d) = true) : sbR a b c d = mkR (a * d - c * b) (b * d) := by unfold sbR; rw [if_pos (by simpa using h)]
theorem adR_no {a b c d : Int} (h : (vr a b && vr c d) = false) : addR a b c d = ((0, 0), 2) := addR_no (by intro e; rw [e.1, e.2] at h; cases h)
theorem adR_yes {a b c d : Int} (h : (vr a b && vr c d) = true) : addR a b c d = mkR (a * d + c * b) (b * d) := addR_yes (by simpa using h)
def cmR (a b c d : Int) : Int × Int := if vr a b = true ∧ vr c d = true then (if a * d - c * b < 0 then -1 else if 0 < a * d - c * b then 1 else 0, 0) else (0, 2)
theorem vr_bd {a b : Int} (h : vr a b = true) : 1 ≤ b ∧ b ≤ 2147483647 ∧ -2147483647 ≤ a ∧ a ≤ 2147483647 := by
 obtain ⟨h1, h2, h3, h4, _⟩ := (vr_iff a b).1 h; exact ⟨h1, h2, h3, h4⟩
def NE (r : Int × Int) (e : Ending) : Prop := e = .returned (.tuple #[.int .i64 r.1, .int .i64 r.2])
theorem NE.of {r : Int × Int} {b x : Int} (h : r = (b, x)) : NE r (.returned (.tuple #[.int .i64 b, .int .i64 x])) := by subst h; rfl
set_option linter.unusedVariables false
def mulR (a b c d : Int) : (Int × Int) × Int := if vr a b = true ∧ vr c d = true then mkR (a * c) (b * d) else ((0, 0), 2)
theorem mulR_no2 {a b c d : Int} (h : ¬(vr a b = true ∧ vr c d = true)) : mulR a b c d = ((0, 0), 2) := by unfold mulR; rw [if_neg h]
theorem mulR_yes2 {a b c d : Int} (h : vr a b = true ∧ vr c d = true) : mulR a b c d = mkR (a * c) (b * d) := by unfold mulR; rw [if_pos h]
set_option maxRecDepth 100000 in
set_option maxHeartbeats 1000000 in
theorem r1_mul (a b c d : Int) (w : World) :
  Calls Tryz.prog 92 #[.agg #[.int .i64 a, .int .i64 b], .agg #[.int .i64 c, .int .i64 d]] w fun e w' => RE (mulR a b c d) e ∧ Below w.heap.size w w' := by
 have hloc0 := Loc.three w (.cells #[.int .i64 a, .int .i64 b] 56) (.cells #[.int .i64 c, .int .i64 d] 56) (.cells #[.int .i64 0, .int .i64 0] 56) none
 cases h1 : vr a b
 ·have H := Lib.hid (mulR_no2 (a := a) (b := b) (c := c) (d := d) (fun h => by rw [h1] at h; cases h.1))
  go_enter Tryz.func92, Tryz.ntmps92
  go_wp2_with fail
  refine (r1_valid_no _ _ _ h1).mono ?_
  rintro e w1 ⟨rfl, hb1⟩
  have hloc1 := hloc0.next (grownBy_below hb1 none) (fun _ h => by cases h)
  have r0 : w1.cell? ⟨w.heap.size + 1 + 1, 0, none⟩ = some (.int .i64 0) := hloc1.cell 2 rfl 0
  have r1 : w1.cell? ⟨w.heap.size + 1 + 1, 1, none⟩ = some (.int .i64 0) := hloc1.cell 2 rfl 1
  have r2 : w1.frozen? ⟨w.heap.size + 1 + 1, 0, none⟩ = false := hloc1.free 2 rfl 0
  have r3 : w1.frozen? ⟨w.heap.size + 1 + 1, 1, none⟩ = false := hloc1.free 2 rfl 1
  have Hb := Lib.hid (below_grownBy hloc1.grown)
  clear hb1 hloc0 hloc1 h1
  go_wp2_with fail
  refine bodyPost_ret (v := .tuple #[.agg #[.int .i64 0, .int .i64 0], .int .i64 2]) (by simp [results, Tryz.results92, go_sem, r0, r1]) rfl ⟨RE.of H.out, ?_⟩
  exact (Hb.out.setCell (by simp; omega) _).setCell (by simp; omega) _
 ·cases h2 : vr c d
  ·have H := Lib.hid (mulR_no2 (a := a) (b := b) (c := c) (d := d) (fun h => by rw [h2] at h; cases h.2))
   go_enter Tryz.func92, Tryz.ntmps92
   go_wp2_with fail
   refine (r1_valid_yes _ _ _ h1).mono ?_
   rintro e w1 ⟨rfl, hb1⟩
   have hloc1 := hloc0.next (grownBy_below hb1 none) (fun _ h => by cases h)
   have k0 : w1.cell? ⟨w.heap.size + 1, 0, none⟩ = some (.int .i64 c) := hloc1.cell 1 rfl 0
   have k1 : w1.cell? ⟨w.heap.size + 1, 1, none⟩ = some (.int .i64 d) := hloc1.cell 1 rfl 1
   clear hb1 hloc0 h1
   go_wp2_with fail
   refine (r1_valid_no _ _ _ h2).mono ?_
   rintro e w2 ⟨rfl, hb2⟩
   have hloc2 := hloc1.next (grownBy_below hb2 none) (fun _ h => by cases h)
   have r0 : w2.cell? ⟨w.heap.size + 1 + 1, 0, none⟩ = some (.int .i64 0) := hloc2.cell 2 rfl 0
   have r1 : w2.cell? ⟨w.heap.size + 1 + 1, 1, none⟩ = some (.int .i64 0) := hloc2.cell 2 rfl 1
   have r2 : w2.frozen? ⟨w.heap.size + 1 + 1, 0, none⟩ = false := hloc2.free 2 rfl 0
   have r3 : w2.frozen? ⟨w.heap.size + 1 + 1, 1, none⟩ = false := hloc2.free 2 rfl 1
   have Hb := Lib.hid (below_grownBy hloc2.grown)
   clear hb2 hloc1 hloc2 h2 k0 k1
   go_wp2_with fail
   refine bodyPost_ret (v := .tuple #[.agg #[.int .i64 0, .int .i64 0], .int .i64 2]) (by simp [results, Tryz.results92, go_sem, r0, r1]) rfl ⟨RE.of H.out, ?_⟩
   exact (Hb.out.setCell (by simp; omega) _).setCell (by simp; omega) _
  ·have H := Lib.hid (mulR_yes2 (a := a) (b := b) (c := c) (d := d) ⟨h1, h2⟩)
   obtain ⟨p1, p2, p3, p4, _⟩ := (vr_iff a b).1 h1
   obtain ⟨q1, q2, q3, q4, _⟩ := (vr_iff c d).1 h2
   obtain ⟨m1, m2⟩ := mul_bd (a := a) (b := c) p3 p4 q3 q4
   obtain ⟨m5, m6⟩ := mul_bd (a := b) (b := d) (by omega) p2 (by omega) q2
   go_enter Tryz.func92, Tryz.ntmps92
   go_wp2_with fail
   refine (r1_valid_yes _ _ _ h1).mono ?_
   rintro e w1 ⟨rfl, hb1⟩
   have hloc1 := hloc0.next (grownBy_below hb1 none) (fun _ h => by cases h)
   have k0 : w1.cell? ⟨w.heap.size + 1, 0, none⟩ = some (.int .i64 c) := hloc1.cell 1 rfl 0
   have k1 : w1.cell? ⟨w.heap.size + 1, 1, none⟩ = some (.int .i64 d) := hloc1.cell 1 rfl 1
   clear hb1 hloc0 h1
   go_wp2_with fail
   refine (r1_valid_yes _ _ _ h2).mono ?_
   rintro e w2 ⟨rfl, hb2⟩
   have hloc2 := hloc1.next (grownBy_below hb2 none) (fun _ h => by cases h)
   have l0 : w2.cell? ⟨w.heap.size, 0, none⟩ = some (.int .i64 a) := hloc2.cell 0 rfl 0
   have l1 : w2.cell? ⟨w.heap.size, 1, none⟩ = some (.int .i64 b) := hloc2.cell 0 rfl 1
   have l2 : w2.cell? ⟨w.heap.size + 1, 0, none⟩ = some (.int .i64 c) := hloc2.cell 1 rfl 0
   have l3 : w2.cell? ⟨w.heap.size + 1, 1, none⟩ = some (.int .i64 d) := hloc2.cell 1 rfl 1
   clear hb2 hloc1 h2 k0 k1
   go_wp2_with fail
   refine (r1_make _ _ _ (by omega) (by omega) (by omega) (by omega)).mono ?_
   generalize hR : mkR (a * c) (b * d) = R at *
   obtain ⟨⟨p, q⟩, x⟩ := R
   have HR := Lib.hid H.out
   rintro e w3 ⟨he, hb3⟩
   obtain rfl : e = .returned (.tuple #[.agg #[.int .i64 p, .int .i64 q], .int .i64 x]) := he
   have hloc3 := hloc2.next (grownBy_below hb3 none) (fun _ h => by cases h)
   have r0 : w3.cell? ⟨w.heap.size + 1 + 1, 0, none⟩ = some (.int .i64 0) := hloc3.cell 2 rfl 0
   have r1 : w3.cell? ⟨w.heap.size + 1 + 1, 1, none⟩ = some (.int .i64 0) := hloc3.cell 2 rfl 1
   have r2 : w3.frozen? ⟨w.heap.size + 1 + 1, 0, none⟩ = false := hloc3.free 2 rfl 0
   have r3 : w3.frozen? ⟨w.heap.size + 1 + 1, 1, none⟩ = false := hloc3.free 2 rfl 1
   have Hb := Lib.hid (below_grownBy hloc3.grown)
   clear hb3 hloc2 hloc3 l0 l1 l2 l3 hR
   go_wp2_with fail
   refine bodyPost_ret (v := .tuple #[.agg #[.int .i64 p, .int .i64 q], .int .i64 x]) (by simp [results, Tryz.results92, go_sem, r0, r1]) rfl ⟨RE.of HR.out, ?_⟩
   exact (Hb.out.setCell (by simp; omega) _).setCell (by simp; omega) _
set_option maxRecDepth 100000 in
set_option maxHeartbeats 2000000 in
theorem r1_of (n : Int) (w : World) (hn : I64 n) :
  Calls Tryz.prog 90 #[.int .i64 n] w fun e w' => RE (mkR n 1) e ∧ Below w.heap.size w w' := by
 have hloc0 := Loc.one w (.cells #[.int .i64 0, .int .i64 0] 56) none
 have h1 := hn.1
 have h2 := hn.2
 go_enter Tryz.func90, Tryz.ntmps90
 go_wp2_with fail
 refine (r1_make n 1 _ (by omega) (by omega) (by omega) (by omega)).mono ?_
 generalize hR : mkR n 1 = R at *
 obtain ⟨⟨p, q⟩, x⟩ := R
 have HR := Lib.hid hR
 rintro e w3 ⟨he, hb3⟩
 obtain rfl : e = .returned (.tuple #[.agg #[.int .i64 p, .int .i64 q], .int .i64 x]) := he
 have hloc3 := hloc0.next (grownBy_below hb3 none) (fun _ h => by cases h)
 have r0 : w3.cell? ⟨w.heap.size, 0, none⟩ = some (.int .i64 0) := hloc3.cell 0 rfl 0
 have r1 : w3.cell? ⟨w.heap.size, 1, none⟩ = some (.int .i64 0) := hloc3.cell 0 rfl 1
 have r2 : w3.frozen? ⟨w.heap.size, 0, none⟩ = false := hloc3.free 0 rfl 0
 have r3 : w3.frozen? ⟨w.heap.size, 1, none⟩ = false := hloc3.free 0 rfl 1
 have Hb := Lib.hid (below_grownBy hloc3.grown)
 clear hb3 hloc0 hloc3 hR
 go_wp2_with fail
 refine bodyPost_ret (v := .tuple #[.agg #[.int .i64 p, .int .i64 q], .int .i64 x]) (by simp [results, Tryz.results90, go_sem, r0, r1]) rfl ⟨RE.of HR.out, ?_⟩
 exact (Hb.out.setCell (by simp) _).setCell (by simp) _
end Go.Proofs.YtfphlpglgcmljaaGreat
