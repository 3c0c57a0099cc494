/- The law's lent, kept, same of layer 3. -/
import Derived.Test.YtkgaipcgdldfdaaSta
import Derived.Test.YtkgaipcgdldfdaaSame
import Derived.Test.YtkgaipcgdldfdaaLit
import Derived.Deep.RegionHeld3
namespace Go.Proofs.Ytkgaipcgdldfdaa
open Go.RowKit
set_option linter.unusedVariables false

theorem own_drew {w : World} {base e size n : Nat} {v : Value} {cs : List Value} (h : w.ownsRow base e size v n cs) : w.drew.ownsRow base e size v n cs := ⟨h.1, h.2⟩
theorem grown_lit (w : World) (o : Obj) (row : Option Nat) : w.grownBy (w.alloc o).drew row := grownBy_trans (World.grownBy_alloc w o row) (grownBy_drew _ _)
set_option maxRecDepth 100000 in
set_option maxHeartbeats 4000000 in
theorem law_lent (n : Int) (zv : Value) (xs : List Int) (w : World) (hz : RL w.heap.size w zv xs) (hl : xs.length ≤ 200) :
    Calls Try.prog 21 #[.agg #[.int .i64 n, zv]] w fun e w' => ∃ g cap, e = .returned (.agg #[.int .i64 n, .slice (some ⟨g, 0, none⟩) xs.length cap]) ∧ OL 60 w.heap.size w' (.slice (some ⟨g, 0, none⟩) (xs.length + 1) cap) (xs ++ [77]) ∧ Below w.heap.size w w' := by
  obtain ⟨aoz, capz, rfl, hlez, _⟩ := hz.open
  have hloc0 := Loc.two w (.cells #[.int .i64 n, .slice aoz xs.length capz] 24) (.cells #[.int .i64 0, .slice none 0 0] 24) none
  have Hz := Lib.hid hz
  obtain ⟨i0, hi, hz0, hz1, hz2⟩ := info_parts Try.infoLimit
  have Hi := Lib.hid hi
  have Hz0 := Lib.hid hz0
  have Hz1 := Lib.hid hz1
  have Hz2 := Lib.hid hz2
  have hw : IntKind.i64.wrap ((xs.length : Int) + 1) = (xs.length : Int) + 1 := IntWalk.i64_in _ (by omega)
  have Hl := Lib.hid hl
  have z0 := hloc0.cell 0 rfl 0
  have z1 := hloc0.cell 0 rfl 1
  clear hz hi hz0 hz1 hz2 hl
  go_enter Try.func21, Try.ntmps21
  go_wp2_with fail
  have e0 : ((w.alloc (.cells #[.int .i64 n, .slice aoz xs.length capz] 24)).alloc (.cells #[.int .i64 0, .slice none 0 0] 24)).heap.size = w.heap.size + 2 := by simp
  generalize World.alloc _ (Obj.cells #[.int .i64 0, .slice none 0 0] 24) = W at *
  have z0' : W.cell? ⟨w.heap.size, 0, none⟩ = some (.int .i64 n) := z0
  have z1' : W.cell? ⟨w.heap.size, 1, none⟩ = some (.slice aoz xs.length capz) := z1
  clear z0 z1
  have Hsz := Lib.hid e0
  have Hloc := Lib.hid hloc0
  have hrl := Lib.hid (show RL W.heap.size W (.slice aoz xs.length capz) xs from Hz.out.keepb (below_grownBy hloc0.grown))
  clear e0 hloc0
  obtain ⟨w1, hmk, hown1, hg1⟩ := run_make_own (P := Try.prog) W.drew (w.heap.size + 2) 22 60 i0 (.int .i64 0) 1 Try.undLimits Hi.out Hz0.out Hz1.out .i64 .i64 (xs.length + 1) (by rw [Hz2.out]; have := Hl.out; omega) (by unfold maxLen; have := Hl.out; omega) (by have := Hsz.out; show _ ≤ W.heap.size; omega)
  rw [show ((xs.length + 1 : Nat) : Int) = (xs.length : Int) + 1 by push_cast; rfl] at hmk
  have hloc1 := Lib.hid (Hloc.out.next (grownBy_trans (grownBy_drew W none) hg1) (fun _ h => by cases h))
  have y1 : w1.cell? ⟨w.heap.size, 1, none⟩ = some (.slice aoz xs.length capz) := hloc1.out.cell 0 rfl 1
  go_region_held3 (fun w' => w'.cell? ⟨w.heap.size, 1, none⟩ = some (.slice aoz xs.length capz))
    (first | assumption | go_keep)
    (first
      | (refine step_append_rs (v := .slice (some ⟨W.heap.size, 0, none⟩) 0 (xs.length + 1)) (n := 0) (xs := []) (xv := .slice aoz xs.length capz) (m := xs.length) (news := xs.map (Value.int .i64)) ?_ (.tmp 8) (.tmp 10) 22 ?_ (w.heap.size + 2) 60 i0 (.int .i64 0) 1 8 Try.undLimits Hi.out Hz0.out Hz1.out Hz2.out ?_ ?_ ?_ ?_ w1.heap.size ?_ ?_ ?_ ?_ ?_ ?_ ?_ ?_; rfl; rfl; rfl; decide; rfl; exact hown1; rfl; exact hrl.out.keepb (show Below W.heap.size W w1 from (below_grownBy (grownBy_trans (grownBy_drew W none) hg1))); (simp); exact ints_oneCell' _; (unfold maxLen; have := Hl.out; omega); (have := Hl.out; omega); (have := hg1.size; have := Hsz.out; simp at *; omega); intro v2 w2 ho2 hg2; have hloc2 := hloc1.out.anyrow hg2 (fun k e => by cases e; have := Hsz.out; show w.heap.size + 2 ≤ W.heap.size; omega); have y2 : w2.cell? ⟨w.heap.size, 1, none⟩ = some (.slice aoz xs.length capz) := hloc2.cell 0 rfl 1))
  have Hloc2 := Lib.hid hloc2
  have z2 : w2.cell? ⟨w.heap.size, 0, none⟩ = some (.int .i64 n) := hloc2.cell 0 rfl 0
  have Ho2 : w2.ownsRow (w.heap.size + 2) 60 1 v2 xs.length (xs.map (Value.int .i64)) := by simpa using ho2
  have hs2 := Lib.hid (show w.heap.size + 2 ≤ w2.heap.size from hloc2.size)
  clear ho2 hg2 hloc2 hloc1 y1 hmk hown1 hg1 Hloc hrl Hsz z0' z1'
  have HO2 := Lib.hid Ho2
  clear Ho2
  go_wp2_with fail
  go_region_held3 (fun w' => w'.cell? ⟨w.heap.size, 0, none⟩ = some (.int .i64 n) ∧ w'.cell? ⟨w.heap.size, 1, none⟩ = some (.slice aoz xs.length capz))
    (first | exact ⟨by assumption, by assumption⟩ | go_keep)
    (first
      | (refine step_append_rs (v := v2) (n := xs.length) (xs := xs.map (Value.int .i64)) (xv := .slice (some ⟨w2.heap.size, 0, none⟩) 1 1) (m := 1) (news := [.int .i64 77]) ?_ (.tmp 14) (.tmp 15) 22 ?_ (w.heap.size + 2) 60 i0 (.int .i64 0) 1 8 Try.undLimits Hi.out Hz0.out Hz1.out Hz2.out ?_ ?_ ?_ ?_ (w2.heap.size + 1) ?_ ?_ ?_ ?_ ?_ ?_ ?_ ?_; rfl; rfl; rfl; decide; rfl; exact own_drew (World.ownsRow.alloc HO2.out _); rfl; exact rs_one w2 (.int .i64 77) _; rfl; exact ints_oneCell' [77]; (unfold maxLen; have := Hl.out; omega); (have := Hl.out; omega); (have := hs2.out; simp; omega); intro v3 w3 ho3 hg3; (obtain ⟨g3, cap3, rfl, hgb3, hgs3, hgc3, hgm3⟩ := own_form ho3 (by omega)); have hloc3 := Hloc2.out.anyrow (grownBy_trans (grown_lit w2 _ _) hg3) (fun k e => (World.ownsRow.lt HO2.out k e).1); have y30 : w3.cell? ⟨w.heap.size, 0, none⟩ = some (.int .i64 n) := hloc3.cell 0 rfl 0; have y3 : w3.cell? ⟨w.heap.size, 1, none⟩ = some (.slice aoz xs.length capz) := hloc3.cell 0 rfl 1; have r0 : w3.cell? ⟨w.heap.size + 1, 0, none⟩ = some (.int .i64 0) := hloc3.cell 1 rfl 0; have r1 : w3.cell? ⟨w.heap.size + 1, 1, none⟩ = some (.slice none 0 0) := hloc3.cell 1 rfl 1; have r2 : w3.frozen? ⟨w.heap.size + 1, 0, none⟩ = false := hloc3.free 1 rfl 0; have r3 : w3.frozen? ⟨w.heap.size + 1, 1, none⟩ = false := hloc3.free 1 rfl 1; have hcc : (xs.length : Int) ≤ (cap3 : Int) := by omega))
  go_wp2_with fail
  have Ho3 := Lib.hid (show OL 60 (w.heap.size + 2) w3 (.slice (some ⟨g3, 0, none⟩) (xs.length + 1) cap3) (xs ++ [77]) by unfold OL; rw [List.length_append, List.map_append]; exact ho3)
  have HB3 := Lib.hid (below_grownBy hloc3.grown)
  refine bodyPost_ret (v := .agg #[.int .i64 n, .slice (some ⟨g3, 0, none⟩) xs.length cap3]) (by simp [results, Try.results21, go_sem, r0, r1]) rfl ⟨g3, cap3, rfl, ?_, ?_⟩
  · exact OL.mono (base := w.heap.size + 2) (own_set2 Ho3.out (by omega) _ _) (by omega)
  · exact (HB3.out.setCell (by simp) _).setCell (by simp) _
set_option maxRecDepth 100000 in
set_option maxHeartbeats 4000000 in
theorem law_kept (n : Int) (g cap : Nat) (zv : Value) (xs : List Int) (w : World) (hr : RL w.heap.size w (.slice (some ⟨g, 0, none⟩) xs.length cap) xs) (hz : RL w.heap.size w zv xs) (h7 : w.cell? ⟨g, xs.length, none⟩ = some (.int .i64 77)) (hcap : xs.length + 1 ≤ cap) (hcm : cap ≤ maxLen) (hl : xs.length ≤ 200) :
    Calls Try.prog 27 #[.agg #[.int .i64 n, .slice (some ⟨g, 0, none⟩) xs.length cap], .agg #[.int .i64 n, zv]] w fun e w' => e = .returned (.bool true) ∧ Below w.heap.size w w' := by
  obtain ⟨aoz, capz, rfl, hlez, _⟩ := hz.open
  have hloc0 := Loc.two w (.cells #[.int .i64 n, .slice (some ⟨g, 0, none⟩) xs.length cap] 24) (.cells #[.int .i64 n, .slice aoz xs.length capz] 24) none
  have hw : IntKind.i64.wrap ((xs.length : Int) + 1) = (xs.length : Int) + 1 := IntWalk.i64_in _ (by omega)
  have Hr := Lib.hid (hr.keepb (below_grownBy hloc0.grown))
  have Hz := Lib.hid (hz.keepb (below_grownBy hloc0.grown))
  have z0 := hloc0.cell 0 rfl 0
  have z1 := hloc0.cell 0 rfl 1
  have y0 := hloc0.cell 1 rfl 0
  have y1 := hloc0.cell 1 rfl 1
  have x7 := keepb h7 (below_grownBy hloc0.grown)
  have h1 : (xs.length : Int) + 1 ≤ (cap : Int) := by omega
  have h2 : (xs.length : Int) < (xs.length : Int) + 1 := by omega
  have h3 : (0 : Int) ≤ (xs.length : Int) + 1 := by omega
  have h4 : ((xs.length : Int) + 1).toNat = xs.length + 1 := by omega
  clear hr hz h7
  go_enter Try.func27, Try.ntmps27
  go_wp2_with fail
  generalize hW : World.alloc _ (Obj.cells #[.int .i64 n, .slice aoz xs.length capz] 24) = W at *
  clear hW
  have z0' : W.cell? ⟨w.heap.size, 0, none⟩ = some (.int .i64 n) := z0
  have z1' : W.cell? ⟨w.heap.size, 1, none⟩ = some (.slice (some ⟨g, 0, none⟩) xs.length cap) := z1
  have y0' : W.cell? ⟨w.heap.size + 1, 0, none⟩ = some (.int .i64 n) := y0
  have y1' : W.cell? ⟨w.heap.size + 1, 1, none⟩ = some (.slice aoz xs.length capz) := y1
  clear z0 z1 y0 y1
  have Hloc := Lib.hid hloc0
  clear hloc0
  go_region_held3 (fun w' => w'.cell? ⟨w.heap.size, 0, none⟩ = some (.int .i64 n) ∧ w'.cell? ⟨w.heap.size, 1, none⟩ = some (.slice (some ⟨g, 0, none⟩) xs.length cap) ∧ w'.cell? ⟨w.heap.size + 1, 0, none⟩ = some (.int .i64 n) ∧ w'.cell? ⟨w.heap.size + 1, 1, none⟩ = some (.slice aoz xs.length capz) ∧ w'.cell? ⟨g, xs.length, none⟩ = some (.int .i64 77))
    (first | exact ⟨z0', z1', y0', y1', x7⟩ | exact ⟨q0, q1, q2, q3, q4⟩ | go_keep)
    (first
      | (go_at_call 16; refine (ref_same n n _ _ xs xs W.drew Hr.out.drew Hz.out.drew).mono ?_; rw [sameB_refl]; rintro e w8 ⟨rfl, hb8⟩; have q0 := keepb (show W.drew.cell? _ = _ from z0') hb8; have q1 := keepb (show W.drew.cell? _ = _ from z1') hb8; have q2 := keepb (show W.drew.cell? _ = _ from y0') hb8; have q3 := keepb (show W.drew.cell? _ = _ from y1') hb8; have q4 := keepb (show W.drew.cell? _ = _ from x7) hb8))
  go_wp2_with fail
  go_ret
  exact ⟨rfl, below_grownBy (grownBy_trans Hloc.out.grown (grownBy_trans (grownBy_drew W none) (grownBy_below hb8 none)))⟩
set_option maxHeartbeats 2000000 in
theorem law_same03 (n k : Int) (v v2 : Value) (xs : List Int) (w : World) (hv : RL w.heap.size w v xs) (hv2 : RL w.heap.size w v2 xs) :
    Calls Try.prog 24 #[.agg #[.int .i64 n, v], .agg #[.int .i64 n, v2], .int .i64 k, .int .i64 k] w fun e w' => e = .returned (.bool true) ∧ Below w.heap.size w w' := by
  obtain ⟨ao, cap, rfl, hle, h0⟩ := hv.open
  obtain ⟨ao2, cap2, rfl, hle2, h02⟩ := hv2.open
  have hloc0 := Loc.two w (.cells #[.int .i64 n, (.slice ao xs.length cap)] 24) (.cells #[.int .i64 n, (.slice ao2 xs.length cap2)] 24) none
  have Hv := Lib.hid (hv.keepb (below_grownBy hloc0.grown))
  have Hv2 := Lib.hid (hv2.keepb (below_grownBy hloc0.grown))
  have hk : (k == k) = true := by simp
  clear hv hv2 h0 h02
  go_enter Try.func24, Try.ntmps24
  go_wp2_with fail
  refine (ref_same n n _ _ xs xs _ Hv.out Hv2.out).mono ?_
  rw [sameB_refl]
  rintro e w5 ⟨rfl, hb5⟩
  go_wp2_with fail
  go_ret
  exact ⟨rfl, below_grownBy (grownBy_trans hloc0.grown (grownBy_below hb5 none))⟩
end Go.Proofs.Ytkgaipcgdldfdaa
