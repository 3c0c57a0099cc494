/- Contracts of the program's ratios: Add, Sub, Cmp, Neg. -/
import Derived.Test.YtkgaipcgdldfdaaPrat3
namespace Go.Proofs.Ytkgaipcgdldfdaa
open Go.RowKit
set_option linter.unusedVariables false

/-- The difference, as the program reckons it. -/
def sbR (a b c d : Int) : (Int × Int) × Int := if vr a b = true ∧ vr c d = true then mkR (a * d - c * b) (b * d) else ((0, 0), 2)
theorem sbR_no {a b c d : Int} (h : (vr a b && vr c d) = false) : sbR a b c d = ((0, 0), 2) := by unfold sbR; rw [if_neg (by intro e; rw [e.1, e.2] at h; cases h)]
theorem sbR_yes {a b c d : Int} (h : (vr a b && vr c d) = true) : sbR a b c d = mkR (a * d - c * b) (b * d) := by unfold sbR; rw [if_pos (by simpa using h)]
theorem adR_no {a b c d : Int} (h : (vr a b && vr c d) = false) : addR a b c d = ((0, 0), 2) := addR_no (by intro e; rw [e.1, e.2] at h; cases h)
theorem adR_yes {a b c d : Int} (h : (vr a b && vr c d) = true) : addR a b c d = mkR (a * d + c * b) (b * d) := addR_yes (by simpa using h)
/-- Compared. -/
def cmR (a b c d : Int) : Int × Int := if vr a b = true ∧ vr c d = true then (if a * d - c * b < 0 then -1 else if 0 < a * d - c * b then 1 else 0, 0) else (0, 2)
theorem cmR_no {a b c d : Int} (h : (vr a b && vr c d) = false) : cmR a b c d = (0, 2) := by unfold cmR; rw [if_neg (by intro e; rw [e.1, e.2] at h; cases h)]
theorem cmR_yes {a b c d : Int} (h : (vr a b && vr c d) = true) : cmR a b c d = (if a * d - c * b < 0 then -1 else if 0 < a * d - c * b then 1 else 0, 0) := by unfold cmR; rw [if_pos (by simpa using h)]
theorem vr_bd {a b : Int} (h : vr a b = true) : 1 ≤ b ∧ b ≤ 2147483647 ∧ -2147483647 ≤ a ∧ a ≤ 2147483647 := by
  obtain ⟨h1, h2, h3, h4, _⟩ := (vr_iff a b).1 h; exact ⟨h1, h2, h3, h4⟩
set_option maxRecDepth 100000 in
set_option maxHeartbeats 2000000 in
theorem pr_add (a b c d : Int) (w : World) (ha : I64 a) (hc : I64 c) :
    Calls Try.prog 95 #[.agg #[.int .i64 a, .int .i64 b], .agg #[.int .i64 c, .int .i64 d]] w fun e w' => RE (addR a b c d) e ∧ Below w.heap.size w w' := by
  have hloc0 := Loc.three w (.cells #[.int .i64 a, .int .i64 b] 48) (.cells #[.int .i64 c, .int .i64 d] 48) (.cells #[.int .i64 0, .int .i64 0] 48) none
  go_enter Try.func95, Try.ntmps95
  go_wp2_with fail
  refine (pr_valid2 a b c d _ ha hc).mono ?_
  cases h1 : (vr a b && vr c d)
  · have H := Lib.hid (adR_no h1)
    rintro e w1 ⟨rfl, hb1⟩
    have hloc1 := hloc0.next (grownBy_below hb1 none) (fun _ h => by cases h)
    have r0 : w1.cell? ⟨w.heap.size + 1 + 1, 0, none⟩ = some (.int .i64 0) := hloc1.cell 2 rfl 0
    have r1 : w1.cell? ⟨w.heap.size + 1 + 1, 1, none⟩ = some (.int .i64 0) := hloc1.cell 2 rfl 1
    have r2 : w1.frozen? ⟨w.heap.size + 1 + 1, 0, none⟩ = false := hloc1.free 2 rfl 0
    have r3 : w1.frozen? ⟨w.heap.size + 1 + 1, 1, none⟩ = false := hloc1.free 2 rfl 1
    have Hb := Lib.hid (below_grownBy hloc1.grown)
    clear hb1 hloc0 hloc1 h1
    go_wp2_with fail
    refine bodyPost_ret (v := .tuple #[.agg #[.int .i64 0, .int .i64 0], .int .i64 2]) (by simp [results, Try.results95, go_sem, r0, r1]) rfl ⟨RE.of H.out, ?_⟩
    exact (Hb.out.setCell (by simp; omega) _).setCell (by simp; omega) _
  · have H := Lib.hid (adR_yes h1)
    have hv : vr a b = true ∧ vr c d = true := by simpa using h1
    obtain ⟨p1, p2, p3, p4⟩ := vr_bd hv.1
    obtain ⟨q1, q2, q3, q4⟩ := vr_bd hv.2
    obtain ⟨m1, m2⟩ := mul_bd (a := a) (b := d) p3 p4 (by omega) q2
    obtain ⟨m3, m4⟩ := mul_bd (a := c) (b := b) q3 q4 (by omega) p2
    obtain ⟨m5, m6⟩ := mul_bd (a := b) (b := d) (by omega) p2 (by omega) q2
    rintro e w2 ⟨rfl, hb2⟩
    have hloc2 := hloc0.next (grownBy_below hb2 none) (fun _ h => by cases h)
    have l0 : w2.cell? ⟨w.heap.size, 0, none⟩ = some (.int .i64 a) := hloc2.cell 0 rfl 0
    have l1 : w2.cell? ⟨w.heap.size, 1, none⟩ = some (.int .i64 b) := hloc2.cell 0 rfl 1
    have l2 : w2.cell? ⟨w.heap.size + 1, 0, none⟩ = some (.int .i64 c) := hloc2.cell 1 rfl 0
    have l3 : w2.cell? ⟨w.heap.size + 1, 1, none⟩ = some (.int .i64 d) := hloc2.cell 1 rfl 1
    clear hb2 hloc0 h1 hv
    go_wp2_with fail
    refine (pr_make _ _ _ (by omega) (by omega) (by omega) (by omega)).mono ?_
    generalize hR : mkR (a * d + c * b) (b * d) = R at *
    obtain ⟨⟨p, q⟩, x⟩ := R
    have HR := Lib.hid H.out
    rintro e w3 ⟨he, hb3⟩
    obtain rfl : e = .returned (.tuple #[.agg #[.int .i64 p, .int .i64 q], .int .i64 x]) := he
    have hloc3 := hloc2.next (grownBy_below hb3 none) (fun _ h => by cases h)
    have r0 : w3.cell? ⟨w.heap.size + 1 + 1, 0, none⟩ = some (.int .i64 0) := hloc3.cell 2 rfl 0
    have r1 : w3.cell? ⟨w.heap.size + 1 + 1, 1, none⟩ = some (.int .i64 0) := hloc3.cell 2 rfl 1
    have r2 : w3.frozen? ⟨w.heap.size + 1 + 1, 0, none⟩ = false := hloc3.free 2 rfl 0
    have r3 : w3.frozen? ⟨w.heap.size + 1 + 1, 1, none⟩ = false := hloc3.free 2 rfl 1
    have Hb := Lib.hid (below_grownBy hloc3.grown)
    clear hb3 hloc2 hloc3 l0 l1 l2 l3 hR
    go_wp2_with fail
    refine bodyPost_ret (v := .tuple #[.agg #[.int .i64 p, .int .i64 q], .int .i64 x]) (by simp [results, Try.results95, go_sem, r0, r1]) rfl ⟨RE.of HR.out, ?_⟩
    exact (Hb.out.setCell (by simp; omega) _).setCell (by simp; omega) _
set_option maxRecDepth 100000 in
set_option maxHeartbeats 2000000 in
theorem pr_sub (a b c d : Int) (w : World) (ha : I64 a) (hc : I64 c) :
    Calls Try.prog 129 #[.agg #[.int .i64 a, .int .i64 b], .agg #[.int .i64 c, .int .i64 d]] w fun e w' => RE (sbR a b c d) e ∧ Below w.heap.size w w' := by
  have hloc0 := Loc.three w (.cells #[.int .i64 a, .int .i64 b] 48) (.cells #[.int .i64 c, .int .i64 d] 48) (.cells #[.int .i64 0, .int .i64 0] 48) none
  go_enter Try.func129, Try.ntmps129
  go_wp2_with fail
  refine (pr_valid2 a b c d _ ha hc).mono ?_
  cases h1 : (vr a b && vr c d)
  · have H := Lib.hid (sbR_no h1)
    rintro e w1 ⟨rfl, hb1⟩
    have hloc1 := hloc0.next (grownBy_below hb1 none) (fun _ h => by cases h)
    have r0 : w1.cell? ⟨w.heap.size + 1 + 1, 0, none⟩ = some (.int .i64 0) := hloc1.cell 2 rfl 0
    have r1 : w1.cell? ⟨w.heap.size + 1 + 1, 1, none⟩ = some (.int .i64 0) := hloc1.cell 2 rfl 1
    have r2 : w1.frozen? ⟨w.heap.size + 1 + 1, 0, none⟩ = false := hloc1.free 2 rfl 0
    have r3 : w1.frozen? ⟨w.heap.size + 1 + 1, 1, none⟩ = false := hloc1.free 2 rfl 1
    have Hb := Lib.hid (below_grownBy hloc1.grown)
    clear hb1 hloc0 hloc1 h1
    go_wp2_with fail
    refine bodyPost_ret (v := .tuple #[.agg #[.int .i64 0, .int .i64 0], .int .i64 2]) (by simp [results, Try.results129, go_sem, r0, r1]) rfl ⟨RE.of H.out, ?_⟩
    exact (Hb.out.setCell (by simp; omega) _).setCell (by simp; omega) _
  · have H := Lib.hid (sbR_yes h1)
    have hv : vr a b = true ∧ vr c d = true := by simpa using h1
    obtain ⟨p1, p2, p3, p4⟩ := vr_bd hv.1
    obtain ⟨q1, q2, q3, q4⟩ := vr_bd hv.2
    obtain ⟨m1, m2⟩ := mul_bd (a := a) (b := d) p3 p4 (by omega) q2
    obtain ⟨m3, m4⟩ := mul_bd (a := c) (b := b) q3 q4 (by omega) p2
    obtain ⟨m5, m6⟩ := mul_bd (a := b) (b := d) (by omega) p2 (by omega) q2
    rintro e w2 ⟨rfl, hb2⟩
    have hloc2 := hloc0.next (grownBy_below hb2 none) (fun _ h => by cases h)
    have l0 : w2.cell? ⟨w.heap.size, 0, none⟩ = some (.int .i64 a) := hloc2.cell 0 rfl 0
    have l1 : w2.cell? ⟨w.heap.size, 1, none⟩ = some (.int .i64 b) := hloc2.cell 0 rfl 1
    have l2 : w2.cell? ⟨w.heap.size + 1, 0, none⟩ = some (.int .i64 c) := hloc2.cell 1 rfl 0
    have l3 : w2.cell? ⟨w.heap.size + 1, 1, none⟩ = some (.int .i64 d) := hloc2.cell 1 rfl 1
    clear hb2 hloc0 h1 hv
    go_wp2_with fail
    refine (pr_make _ _ _ (by omega) (by omega) (by omega) (by omega)).mono ?_
    generalize hR : mkR (a * d - c * b) (b * d) = R at *
    obtain ⟨⟨p, q⟩, x⟩ := R
    have HR := Lib.hid H.out
    rintro e w3 ⟨he, hb3⟩
    obtain rfl : e = .returned (.tuple #[.agg #[.int .i64 p, .int .i64 q], .int .i64 x]) := he
    have hloc3 := hloc2.next (grownBy_below hb3 none) (fun _ h => by cases h)
    have r0 : w3.cell? ⟨w.heap.size + 1 + 1, 0, none⟩ = some (.int .i64 0) := hloc3.cell 2 rfl 0
    have r1 : w3.cell? ⟨w.heap.size + 1 + 1, 1, none⟩ = some (.int .i64 0) := hloc3.cell 2 rfl 1
    have r2 : w3.frozen? ⟨w.heap.size + 1 + 1, 0, none⟩ = false := hloc3.free 2 rfl 0
    have r3 : w3.frozen? ⟨w.heap.size + 1 + 1, 1, none⟩ = false := hloc3.free 2 rfl 1
    have Hb := Lib.hid (below_grownBy hloc3.grown)
    clear hb3 hloc2 hloc3 l0 l1 l2 l3 hR
    go_wp2_with fail
    refine bodyPost_ret (v := .tuple #[.agg #[.int .i64 p, .int .i64 q], .int .i64 x]) (by simp [results, Try.results129, go_sem, r0, r1]) rfl ⟨RE.of HR.out, ?_⟩
    exact (Hb.out.setCell (by simp; omega) _).setCell (by simp; omega) _
/-- What a function that returns a number and an error returns. -/
def NE (r : Int × Int) (e : Ending) : Prop := e = .returned (.tuple #[.int .i64 r.1, .int .i64 r.2])
theorem NE.of {r : Int × Int} {b x : Int} (h : r = (b, x)) : NE r (.returned (.tuple #[.int .i64 b, .int .i64 x])) := by subst h; rfl
set_option maxRecDepth 100000 in
set_option maxHeartbeats 2000000 in
theorem pr_cmp (a b c d : Int) (w : World) (ha : I64 a) (hc : I64 c) :
    Calls Try.prog 89 #[.agg #[.int .i64 a, .int .i64 b], .agg #[.int .i64 c, .int .i64 d]] w fun e w' => NE (cmR a b c d) e ∧ Below w.heap.size w w' := by
  have hloc0 := Loc.two w (.cells #[.int .i64 a, .int .i64 b] 48) (.cells #[.int .i64 c, .int .i64 d] 48) none
  go_enter Try.func89, Try.ntmps89
  go_wp2_with fail
  refine (pr_valid2 a b c d _ ha hc).mono ?_
  cases h1 : (vr a b && vr c d)
  · have H := Lib.hid (cmR_no h1)
    rintro e w1 ⟨rfl, hb1⟩
    have Hb := Lib.hid (below_grownBy (hloc0.next (grownBy_below hb1 none) (fun _ h => by cases h)).grown)
    clear hb1 hloc0 h1
    go_wp2_with fail
    go_ret2
    exact ⟨NE.of H.out, Hb.out⟩
  · have H := Lib.hid (cmR_yes h1)
    have hv : vr a b = true ∧ vr c d = true := by simpa using h1
    obtain ⟨p1, p2, p3, p4⟩ := vr_bd hv.1
    obtain ⟨q1, q2, q3, q4⟩ := vr_bd hv.2
    obtain ⟨m1, m2⟩ := mul_bd (a := a) (b := d) p3 p4 (by omega) q2
    obtain ⟨m3, m4⟩ := mul_bd (a := c) (b := b) q3 q4 (by omega) p2
    rintro e w2 ⟨rfl, hb2⟩
    have hloc2 := hloc0.next (grownBy_below hb2 none) (fun _ h => by cases h)
    have l0 : w2.cell? ⟨w.heap.size, 0, none⟩ = some (.int .i64 a) := hloc2.cell 0 rfl 0
    have l1 : w2.cell? ⟨w.heap.size, 1, none⟩ = some (.int .i64 b) := hloc2.cell 0 rfl 1
    have l2 : w2.cell? ⟨w.heap.size + 1, 0, none⟩ = some (.int .i64 c) := hloc2.cell 1 rfl 0
    have l3 : w2.cell? ⟨w.heap.size + 1, 1, none⟩ = some (.int .i64 d) := hloc2.cell 1 rfl 1
    have Hb := Lib.hid (below_grownBy hloc2.grown)
    clear hb2 hloc0 hloc2 h1 hv
    by_cases n0 : a * d - c * b < 0
    · have H' := Lib.hid (show cmR a b c d = (-1, 0) by rw [H.out, if_pos n0])
      have t0 : decide (a * d - c * b < 0) = true := by simpa using n0
      clear n0
      go_wp2_with fail
      go_ret2
      exact ⟨NE.of H'.out, Hb.out⟩
    · have t0 : decide (a * d - c * b < 0) = false := by simpa using n0
      by_cases n1 : 0 < a * d - c * b
      · have H' := Lib.hid (show cmR a b c d = (1, 0) by rw [H.out, if_neg n0, if_pos n1])
        have t1 : decide (c * b < a * d) = true := by simp; omega
        clear n0 n1
        go_wp2_with fail
        go_ret2
        exact ⟨NE.of H'.out, Hb.out⟩
      · have H' := Lib.hid (show cmR a b c d = (0, 0) by rw [H.out, if_neg n0, if_neg n1])
        have t1 : decide (c * b < a * d) = false := by simp; omega
        clear n0 n1
        go_wp2_with fail
        go_ret2
        exact ⟨NE.of H'.out, Hb.out⟩
/-- The negative. -/
def ngR (a b : Int) : (Int × Int) × Int := if vr a b = true then ((-a, b), 0) else ((0, 0), 2)
set_option maxRecDepth 100000 in
set_option maxHeartbeats 2000000 in
theorem pr_neg (a b : Int) (w : World) (ha : I64 a) :
    Calls Try.prog 87 #[.agg #[.int .i64 a, .int .i64 b]] w fun e w' => RE (ngR a b) e ∧ Below w.heap.size w w' := by
  have hloc0 := Loc.two w (.cells #[.int .i64 a, .int .i64 b] 48) (.cells #[.int .i64 0, .int .i64 0] 48) none
  go_enter Try.func87, Try.ntmps87
  go_wp2_with fail
  refine (pr_valid a b _ ha.1 ha.2).mono ?_
  cases h1 : vr a b
  · have H := Lib.hid (show ngR a b = ((0, 0), 2) by unfold ngR; rw [h1]; simp)
    rintro e w1 ⟨rfl, hb1⟩
    have hloc1 := hloc0.next (grownBy_below hb1 none) (fun _ h => by cases h)
    have r0 : w1.cell? ⟨w.heap.size + 1, 0, none⟩ = some (.int .i64 0) := hloc1.cell 1 rfl 0
    have r1 : w1.cell? ⟨w.heap.size + 1, 1, none⟩ = some (.int .i64 0) := hloc1.cell 1 rfl 1
    have r2 : w1.frozen? ⟨w.heap.size + 1, 0, none⟩ = false := hloc1.free 1 rfl 0
    have r3 : w1.frozen? ⟨w.heap.size + 1, 1, none⟩ = false := hloc1.free 1 rfl 1
    have Hb := Lib.hid (below_grownBy hloc1.grown)
    clear hb1 hloc0 hloc1 h1
    go_wp2_with fail
    refine bodyPost_ret (v := .tuple #[.agg #[.int .i64 0, .int .i64 0], .int .i64 2]) (by simp [results, Try.results87, go_sem, r0, r1]) rfl ⟨RE.of H.out, ?_⟩
    exact (Hb.out.setCell (by simp) _).setCell (by simp) _
  · have H := Lib.hid (show ngR a b = ((-a, b), 0) by unfold ngR; rw [h1]; simp)
    obtain ⟨p1, p2, p3, p4⟩ := vr_bd h1
    rintro e w2 ⟨rfl, hb2⟩
    have hloc2 := hloc0.next (grownBy_below hb2 none) (fun _ h => by cases h)
    have l0 : w2.cell? ⟨w.heap.size, 0, none⟩ = some (.int .i64 a) := hloc2.cell 0 rfl 0
    have l1 : w2.cell? ⟨w.heap.size, 1, none⟩ = some (.int .i64 b) := hloc2.cell 0 rfl 1
    have l2 : w2.frozen? ⟨w.heap.size, 0, none⟩ = false := hloc2.free 0 rfl 0
    have r0 : w2.cell? ⟨w.heap.size + 1, 0, none⟩ = some (.int .i64 0) := hloc2.cell 1 rfl 0
    have r1 : w2.cell? ⟨w.heap.size + 1, 1, none⟩ = some (.int .i64 0) := hloc2.cell 1 rfl 1
    have r2 : w2.frozen? ⟨w.heap.size + 1, 0, none⟩ = false := hloc2.free 1 rfl 0
    have r3 : w2.frozen? ⟨w.heap.size + 1, 1, none⟩ = false := hloc2.free 1 rfl 1
    have Hb := Lib.hid (below_grownBy hloc2.grown)
    clear hb2 hloc0 hloc2 h1
    go_wp2_with fail
    refine bodyPost_ret (v := .tuple #[.agg #[.int .i64 (-a), .int .i64 b], .int .i64 0]) (by simp [results, Try.results87, go_sem, r0, r1]) rfl ⟨RE.of H.out, ?_⟩
    exact ((Hb.out.setCell (by simp) _).setCell (by simp) _).setCell (by simp) _
end Go.Proofs.Ytkgaipcgdldfdaa
