/- Build: the program's and the reference's. -/
import Derived.Test.YtkgaipcgdldfdaaPand2
import Derived.Test.YtkgaipcgdldfdaaK3
namespace Go.Proofs.Ytkgaipcgdldfdaa
open Go.RowKit
set_option linter.unusedVariables false

/-- What Build returns. -/
noncomputable def buildF (n : Int) (cs : List (Int × Int × Int)) : Int × List Int := if (fillF n 1099511627776).1 = 0 then andF n (fillF n 1099511627776).2 cs else ((fillF n 1099511627776).1, [])
theorem buildF_yes {n : Int} {cs : List (Int × Int × Int)} (h : (fillF n 1099511627776).1 = 0) : buildF n cs = andF n (fillF n 1099511627776).2 cs := by unfold buildF; rw [if_pos h]
theorem buildF_no {n : Int} {cs : List (Int × Int × Int)} (h : (fillF n 1099511627776).1 ≠ 0) : buildF n cs = ((fillF n 1099511627776).1, []) := by unfold buildF; rw [if_neg h]
set_option maxRecDepth 100000 in
set_option maxHeartbeats 2000000 in
theorem prog_build (n : Int) (v : Value) (cs : List (Int × Int × Int)) (w : World) (hv : RK w.heap.size w v cs) :
    Calls Try.prog 17 #[.int .i64 n, v] w fun e w' => ZPost 60 w.heap.size n (buildF n cs) e w' ∧ Below w.heap.size w w' := by
  obtain ⟨ao, cap, rfl, hle, _⟩ := hv.open
  have Hv := Lib.hid hv
  have Hloc := Lib.hid (Loc.one w (.cells #[.int .i64 0, .slice none 0 0] 24) none)
  clear hv
  go_enter Try.func17, Try.ntmps17
  go_wp2_with fail
  refine (prog_all n _).mono ?_
  by_cases h0 : (fillF n 1099511627776).1 = 0
  · have Hres := Lib.hid (buildF_yes (cs := cs) h0)
    have hzd : zdim (fillF n 1099511627776) n = n := by unfold zdim; rw [if_pos h0]
    generalize fillF n 1099511627776 = r at *
    obtain ⟨r1, ys⟩ := r
    simp only at h0
    subst h0
    rintro e w1 ⟨⟨v1, rfl, ho1⟩, hb1⟩
    rw [hzd]
    obtain ⟨ao1, cap1, rfl⟩ := owns_form ho1
    have hloc1 := (Hloc.out.next (grownBy_below hb1 none) (fun _ h => by cases h)).next (World.grownBy_alloc w1 (.cells #[.int .i64 n, .slice ao1 ys.length cap1] 24) none) (fun _ h => by cases h)
    have Hs1 := Lib.hid (show w.heap.size + 1 ≤ w1.heap.size by have := hb1.size; simpa using this)
    have Hz1 := Lib.hid (show RL (w1.alloc (.cells #[.int .i64 n, .slice ao1 ys.length cap1] 24)).heap.size (w1.alloc (.cells #[.int .i64 n, .slice ao1 ys.length cap1] 24)) (.slice ao1 ys.length cap1) ys from OL.rl (World.ownsRow.alloc ho1 _))
    have Hv1 := Lib.hid (Hv.out.keepb (below_grownBy hloc1.grown))
    clear ho1 hb1
    go_wp2_with fail
    refine (prog_and n _ _ ys cs _ Hz1.out Hv1.out).mono ?_
    have Hres2 := Hres.out
    rw [show andF n ys cs = buildF n cs from Hres2.symm]
    generalize hR : buildF n cs = R
    have HR := Lib.hid hR
    clear hR Hres2 hzd
    rintro e w5 ⟨⟨v5, rfl, ho5⟩, hb5⟩
    obtain ⟨ao5, cap5, rfl⟩ := owns_form ho5
    have hloc5 := hloc1.next (grownBy_below hb5 none) (fun _ h => by cases h)
    have r0 : w5.cell? ⟨w.heap.size, 0, none⟩ = some (.int .i64 0) := hloc5.cell 0 rfl 0
    have r1 : w5.cell? ⟨w.heap.size, 1, none⟩ = some (.slice none 0 0) := hloc5.cell 0 rfl 1
    have r2 : w5.frozen? ⟨w.heap.size, 0, none⟩ = false := hloc5.free 0 rfl 0
    have r3 : w5.frozen? ⟨w.heap.size, 1, none⟩ = false := hloc5.free 0 rfl 1
    have Ho5 := Lib.hid (show OL 60 (w.heap.size + 1) w5 (.slice ao5 R.2.length cap5) R.2 from OL.mono ho5 (by have := Hs1.out; simp; omega))
    have HB5 := Lib.hid (below_grownBy hloc5.grown)
    clear ho5 hb5 hloc5 hloc1
    go_wp2_with fail
    refine bodyPost_ret (v := .tuple #[.agg #[.int .i64 (zdim R n), .slice ao5 R.2.length cap5], .int .i64 R.1]) (by simp [results, Try.results17, go_sem, r0, r1]) rfl ⟨⟨_, by rw [HR.out], ?_⟩, ?_⟩
    · rw [HR.out]; exact OL.mono (base := w.heap.size + 1) (own_set2 Ho5.out (by omega) _ _) (by omega)
    · exact (HB5.out.setCell (by simp) _).setCell (by simp) _
  · have Hres := Lib.hid (buildF_no (cs := cs) h0)
    generalize fillF n 1099511627776 = r at *
    obtain ⟨r1, ys⟩ := r
    simp only at h0
    have hne : (r1 != 0) = true := by simpa using h0
    have Hne := Lib.hid h0
    clear h0
    rintro e w1 ⟨⟨v1, rfl, ho1⟩, hb1⟩
    generalize zdim (r1, ys) n = zd
    obtain ⟨ao1, cap1, rfl⟩ := owns_form ho1
    have hloc1 := (Hloc.out.next (grownBy_below hb1 none) (fun _ h => by cases h)).next (World.grownBy_alloc w1 (.cells #[.int .i64 zd, .slice ao1 ys.length cap1] 24) none) (fun _ h => by cases h)
    have r0 : (w1.alloc (.cells #[.int .i64 zd, .slice ao1 ys.length cap1] 24)).cell? ⟨w.heap.size, 0, none⟩ = some (.int .i64 0) := hloc1.cell 0 rfl 0
    have r1 : (w1.alloc (.cells #[.int .i64 zd, .slice ao1 ys.length cap1] 24)).cell? ⟨w.heap.size, 1, none⟩ = some (.slice none 0 0) := hloc1.cell 0 rfl 1
    have r2 : (w1.alloc (.cells #[.int .i64 zd, .slice ao1 ys.length cap1] 24)).frozen? ⟨w.heap.size, 0, none⟩ = false := hloc1.free 0 rfl 0
    have r3 : (w1.alloc (.cells #[.int .i64 zd, .slice ao1 ys.length cap1] 24)).frozen? ⟨w.heap.size, 1, none⟩ = false := hloc1.free 0 rfl 1
    have HB1 := Lib.hid (below_grownBy hloc1.grown)
    clear ho1 hb1 hloc1
    go_wp2_with fail
    refine bodyPost_ret (v := .tuple #[.agg #[.int .i64 0, .slice none 0 0], .int .i64 _]) (by simp [results, Try.results17, go_sem, r0, r1]) rfl ⟨ZPost.err Hres.out Hne.out _, ?_⟩
    exact (HB1.out.setCell (by simp) _).setCell (by simp) _
set_option maxRecDepth 100000 in
set_option maxHeartbeats 2000000 in
theorem ref4_build (n : Int) (v : Value) (cs : List (Int × Int × Int)) (w : World) (hv : RK w.heap.size w v cs) :
    Calls Try.prog 18 #[.int .i64 n, v] w fun e w' => ZPost 60 w.heap.size n (buildF n cs) e w' ∧ Below w.heap.size w w' := by
  obtain ⟨ao, cap, rfl, hle, _⟩ := hv.open
  have Hv := Lib.hid hv
  have Hloc := Lib.hid (Loc.one w (.cells #[.int .i64 0, .slice none 0 0] 24) none)
  clear hv
  go_enter Try.func18, Try.ntmps18
  go_wp2_with fail
  refine (ref_all n _).mono ?_
  by_cases h0 : (fillF n 1099511627776).1 = 0
  · have Hres := Lib.hid (buildF_yes (cs := cs) h0)
    have hzd : zdim (fillF n 1099511627776) n = n := by unfold zdim; rw [if_pos h0]
    generalize fillF n 1099511627776 = r at *
    obtain ⟨r1, ys⟩ := r
    simp only at h0
    subst h0
    rintro e w1 ⟨⟨v1, rfl, ho1⟩, hb1⟩
    rw [hzd]
    obtain ⟨ao1, cap1, rfl⟩ := owns_form ho1
    have hloc1 := (Hloc.out.next (grownBy_below hb1 none) (fun _ h => by cases h)).next (World.grownBy_alloc w1 (.cells #[.int .i64 n, .slice ao1 ys.length cap1] 24) none) (fun _ h => by cases h)
    have Hs1 := Lib.hid (show w.heap.size + 1 ≤ w1.heap.size by have := hb1.size; simpa using this)
    have Hz1 := Lib.hid (show RL (w1.alloc (.cells #[.int .i64 n, .slice ao1 ys.length cap1] 24)).heap.size (w1.alloc (.cells #[.int .i64 n, .slice ao1 ys.length cap1] 24)) (.slice ao1 ys.length cap1) ys from OL.rl (World.ownsRow.alloc ho1 _))
    have Hv1 := Lib.hid (Hv.out.keepb (below_grownBy hloc1.grown))
    clear ho1 hb1
    go_wp2_with fail
    refine (ref_and n _ _ ys cs _ Hz1.out Hv1.out).mono ?_
    have Hres2 := Hres.out
    rw [show andF n ys cs = buildF n cs from Hres2.symm]
    generalize hR : buildF n cs = R
    have HR := Lib.hid hR
    clear hR Hres2 hzd
    rintro e w5 ⟨⟨v5, rfl, ho5⟩, hb5⟩
    obtain ⟨ao5, cap5, rfl⟩ := owns_form ho5
    have hloc5 := hloc1.next (grownBy_below hb5 none) (fun _ h => by cases h)
    have r0 : w5.cell? ⟨w.heap.size, 0, none⟩ = some (.int .i64 0) := hloc5.cell 0 rfl 0
    have r1 : w5.cell? ⟨w.heap.size, 1, none⟩ = some (.slice none 0 0) := hloc5.cell 0 rfl 1
    have r2 : w5.frozen? ⟨w.heap.size, 0, none⟩ = false := hloc5.free 0 rfl 0
    have r3 : w5.frozen? ⟨w.heap.size, 1, none⟩ = false := hloc5.free 0 rfl 1
    have Ho5 := Lib.hid (show OL 60 (w.heap.size + 1) w5 (.slice ao5 R.2.length cap5) R.2 from OL.mono ho5 (by have := Hs1.out; simp; omega))
    have HB5 := Lib.hid (below_grownBy hloc5.grown)
    clear ho5 hb5 hloc5 hloc1
    go_wp2_with fail
    refine bodyPost_ret (v := .tuple #[.agg #[.int .i64 (zdim R n), .slice ao5 R.2.length cap5], .int .i64 R.1]) (by simp [results, Try.results18, go_sem, r0, r1]) rfl ⟨⟨_, by rw [HR.out], ?_⟩, ?_⟩
    · rw [HR.out]; exact OL.mono (base := w.heap.size + 1) (own_set2 Ho5.out (by omega) _ _) (by omega)
    · exact (HB5.out.setCell (by simp) _).setCell (by simp) _
  · have Hres := Lib.hid (buildF_no (cs := cs) h0)
    generalize fillF n 1099511627776 = r at *
    obtain ⟨r1, ys⟩ := r
    simp only at h0
    have hne : (r1 != 0) = true := by simpa using h0
    have Hne := Lib.hid h0
    clear h0
    rintro e w1 ⟨⟨v1, rfl, ho1⟩, hb1⟩
    generalize zdim (r1, ys) n = zd
    obtain ⟨ao1, cap1, rfl⟩ := owns_form ho1
    have hloc1 := (Hloc.out.next (grownBy_below hb1 none) (fun _ h => by cases h)).next (World.grownBy_alloc w1 (.cells #[.int .i64 zd, .slice ao1 ys.length cap1] 24) none) (fun _ h => by cases h)
    have r0 : (w1.alloc (.cells #[.int .i64 zd, .slice ao1 ys.length cap1] 24)).cell? ⟨w.heap.size, 0, none⟩ = some (.int .i64 0) := hloc1.cell 0 rfl 0
    have r1 : (w1.alloc (.cells #[.int .i64 zd, .slice ao1 ys.length cap1] 24)).cell? ⟨w.heap.size, 1, none⟩ = some (.slice none 0 0) := hloc1.cell 0 rfl 1
    have r2 : (w1.alloc (.cells #[.int .i64 zd, .slice ao1 ys.length cap1] 24)).frozen? ⟨w.heap.size, 0, none⟩ = false := hloc1.free 0 rfl 0
    have r3 : (w1.alloc (.cells #[.int .i64 zd, .slice ao1 ys.length cap1] 24)).frozen? ⟨w.heap.size, 1, none⟩ = false := hloc1.free 0 rfl 1
    have HB1 := Lib.hid (below_grownBy hloc1.grown)
    clear ho1 hb1 hloc1
    go_wp2_with fail
    refine bodyPost_ret (v := .tuple #[.agg #[.int .i64 0, .slice none 0 0], .int .i64 _]) (by simp [results, Try.results18, go_sem, r0, r1]) rfl ⟨ZPost.err Hres.out Hne.out _, ?_⟩
    exact (HB1.out.setCell (by simp) _).setCell (by simp) _
end Go.Proofs.Ytkgaipcgdldfdaa
