/- The reference's Constant, is, Reset. The reference's Reset. The reference's Reset of whatever arguments. -/
import Derived.Test.YtkgaipcgdldfdaaRfr
import Derived.Test.YtkgaipcgdldfdaaSh3
import Derived.Deep.DeepCutAuto
namespace Go.Proofs.Ytkgaipcgdldfdaa
open Go.RowKit
set_option linter.unusedVariables false

theorem ref_constant (c : Int) (w : World) : Calls Try.prog 110 #[.int .i64 c] w fun e w' => e = .returned (.bool (conB c)) ∧ w = w' := by
  by_cases h : 0 ≤ c
  · have h1 : decide (0 ≤ c) = true := by simpa using h
    have h2 : conB c = decide (c ≤ 1048576) := by rw [conB]; simp [h]
    rw [h2]
    go_enter Try.func110, Try.ntmps110
    go_wp2_with fail
    go_ret
    exact ⟨rfl, rfl⟩
  · have h1 : decide (0 ≤ c) = false := by simpa using h
    have h2 : conB c = false := by rw [conB]; simp [h]
    rw [h2]
    go_enter Try.func110, Try.ntmps110
    go_wp2_with fail
    go_ret
    exact ⟨rfl, rfl⟩
/-- What 'is' returns: two constraints. -/
def isL (i j c : Int) : List (Int × Int × Int) := [(i, j, 2 * c + 1), (j, i, -2 * c + 1)]
theorem ref_is (i j c : Int) (w : World) (h0 : 0 ≤ c) (h1 : c ≤ 1048576) : Calls Try.prog 111 #[.int .i64 i, .int .i64 j, .int .i64 c] w fun e w' => (∃ v', e = .returned v' ∧ RK w'.heap.size w' v' (isL i j c)) ∧ Below w.heap.size w w' := by
  have k := rk_lit33 w #[.int .i64 i, .int .i64 j, .int .i64 (2 * c + 1), .int .i64 j, .int .i64 i, .int .i64 (-2 * c + 1)] 62 (isL i j c) 2 rfl rfl (by simp [isL])
  have e1 : IntKind.i64.wrap (2 * c) = 2 * c := IntWalk.i64_in _ (by omega)
  have e2 : IntKind.i64.wrap (-2 * c) = -2 * c := IntWalk.i64_in _ (by omega)
  have e3 : IntKind.i64.wrap (2 * c + 1) = 2 * c + 1 := IntWalk.i64_in _ (by omega)
  have e4 : IntKind.i64.wrap (-2 * c + 1) = -2 * c + 1 := IntWalk.i64_in _ (by omega)
  go_enter Try.func111, Try.ntmps111
  go_wp2_with fail
  go_ret
  exact ⟨⟨_, rfl, k⟩, b1_alloc w _⟩
end Go.Proofs.Ytkgaipcgdldfdaa
namespace Go.Proofs.Ytkgaipcgdldfdaa
open Go.RowKit
set_option linter.unusedVariables false

/-- What the reference's Reset returns. -/
noncomputable def resetRF (n : Int) (xs : List Int) (i c : Int) : Int × List Int :=
  if (freeRF n xs i).1 = 0 then andF n (freeRF n xs i).2 (isL i 0 c) else ((freeRF n xs i).1, [])

set_option maxRecDepth 100000 in
set_option maxHeartbeats 4000000 in
theorem ref_reset_in (n i c : Int) (zv : Value) (xs : List Int) (w : World) (hz : RL w.heap.size w zv xs) (hok : OkZ n xs) (hi : clkB n i = true) (hc : conB c = true) :
    Calls Try.prog 47 #[.agg #[.int .i64 n, zv], .int .i64 i, .int .i64 c] w fun e w' => ZPost 60 w.heap.size n (resetRF n xs i c) e w' ∧ Below w.heap.size w w' := by
  obtain ⟨aoz, capz, rfl, hlez, _⟩ := hz.open
  have hloc0 := Loc.two w (.cells #[.int .i64 n, .slice aoz xs.length capz] 24) (.cells #[.int .i64 0, .slice none 0 0] 24) none
  have Hz := Lib.hid hz
  have Hzw := Lib.hid (hz.keepb (below_grownBy hloc0.grown))
  have h3 : 1 ≤ i ∧ i ≤ n := by simpa [clkB] using hi
  have hd1 : decide (i < 1) = false := by simp; omega
  have hd2 : decide (n < i) = false := by simp; omega
  have h4 : 0 ≤ c ∧ c ≤ 1048576 := by simpa [conB] using hc
  have HRR := Lib.hid (show resetRF n xs i c = if (freeRF n xs i).1 = 0 then andF n (freeRF n xs i).2 (isL i 0 c) else ((freeRF n xs i).1, []) from rfl)
  have H4 := Lib.hid h4
  clear hz hi h3 h4
  go_enter Try.func47, Try.ntmps47
  go_wp2_with fail
  refine (ref_check_ok _ _ xs _ Hzw.out hok).mono ?_
  rintro e wa ⟨rfl, hba⟩
  have hloca := hloc0.next (grownBy_below hba none) (fun _ h => by cases h)
  have c0 : wa.cell? ⟨w.heap.size, 0, none⟩ = some (.int .i64 n) := hloca.cell 0 rfl 0
  have c1 : wa.cell? ⟨w.heap.size, 1, none⟩ = some (.slice aoz xs.length capz) := hloca.cell 0 rfl 1
  have Hza := Lib.hid (Hz.out.keepb (below_grownBy hloca.grown))
  clear hba hloc0 hok
  go_wp2_with (go_at_call 110; refine (ref_constant c _).mono ?_; rw [hc]; rintro e w9 ⟨rfl, rfl⟩)
  refine (ref_free n i _ xs wa Hza.out).mono ?_
  generalize freeRF n xs i = R at *
  rintro e w2 ⟨⟨v2, rfl, ho2⟩, hb2⟩
  obtain ⟨ao2, cp2, rfl⟩ := owns_form ho2
  have hloc2 := hloca.next (grownBy_below hb2 none) (fun _ h => by cases h)
  have hsz2 : w.heap.size + 2 ≤ wa.heap.size := hloca.size
  have q0 : w2.cell? ⟨w.heap.size, 0, none⟩ = some (.int .i64 n) := hloc2.cell 0 rfl 0
  have q1 : w2.cell? ⟨w.heap.size, 1, none⟩ = some (.slice aoz xs.length capz) := hloc2.cell 0 rfl 1
  have q2 : w2.frozen? ⟨w.heap.size, 0, none⟩ = false := hloc2.free 0 rfl 0
  have q3 : w2.frozen? ⟨w.heap.size, 1, none⟩ = false := hloc2.free 0 rfl 1
  have ho3 := own_set2 (w := w2) ho2 (b := w.heap.size) (by omega) (.int .i64 (zdim R n)) (.slice ao2 R.2.length cp2)
  have hloc3 := (hloc2.put 0 rfl 0 (.int .i64 (zdim R n))).put 0 rfl 1 (.slice ao2 R.2.length cp2)
  have hr0 := hloc2.cell 1 rfl 0
  have hr1 := hloc2.cell 1 rfl 1
  have hr2 := hloc2.free 1 rfl 0
  have hr3 := hloc2.free 1 rfl 1
  clear hb2 ho2 hloca hloc2 c0 c1 hd1 hd2
  by_cases he : R.1 = 0
  · have hE : (R.1 != 0) = false := by simpa using he
    have HF := Lib.hid (HRR.out.trans (if_pos he))
    have hzd : zdim R n = n := by unfold zdim; rw [if_pos he]
    generalize zdim R n = d at *
    obtain rfl : n = d := hzd.symm
    clear hzd he
    clear hr0 hr1 hr2 hr3
    have HA := Lib.hid (fun v k w hv hk => ref_and n v k R.2 (isL i 0 c) w hv hk)
    generalize andF n R.2 (isL i 0 c) = T at HF HA
    go_upto_region 6 with fail
    generalize hW3 : (w2.setCell ⟨w.heap.size, 0, none⟩ (.int .i64 n)).setCell ⟨w.heap.size, 1, none⟩ (.slice ao2 R.2.length cp2) = W3 at *
    clear q0 q1 q2 q3 hW3
    have z0 : W3.cell? ⟨w.heap.size, 0, none⟩ = some (.int .i64 n) := hloc3.cell 0 rfl 0
    have z1 : W3.cell? ⟨w.heap.size, 1, none⟩ = some (.slice ao2 R.2.length cp2) := hloc3.cell 0 rfl 1
    have Hr3 := Lib.hid (show RL W3.drew.heap.size W3.drew (.slice ao2 R.2.length cp2) R.2 from (OL.rl ho3).drew)
    have Hloc3 := Lib.hid hloc3
    clear ho3 hloc3
    have n0 : ¬ (w.heap.size = w.heap.size + 1) := by omega
    have n1 : ¬ (w.heap.size + 1 = w.heap.size) := by omega
    go_region_held3 (fun w' => w'.cell? ⟨w.heap.size, 0, none⟩ = some (.int .i64 n) ∧ w'.cell? ⟨w.heap.size, 1, none⟩ = some (.slice ao2 R.2.length cp2))
      (first | exact ⟨by assumption, by assumption⟩ | go_keep)
      (first
        | (go_at_call 111; refine (ref_is i 0 c W3.drew H4.out.1 H4.out.2).mono ?_; rintro e w7 ⟨⟨vk, rfl, hk⟩, hb7⟩; have hr7 := Hr3.out.keepb hb7; have hloc7 := Hloc3.out.next (grownBy_trans (grownBy_drew W3 none) (grownBy_below hb7 none)) (fun _ h => by cases h); have k0 := keepb (show W3.drew.cell? _ = _ from z0) hb7; have k1 := keepb (show W3.drew.cell? _ = _ from z1) hb7)
        | (have _t := hb7; go_at_call 41; refine (HA.out _ _ w7 hr7 hk).mono ?_; rintro e w5 ⟨⟨v5, rfl, ho5⟩, hb5⟩; (obtain ⟨ao5, cap5, rfl⟩ := owns_form ho5); have hloc5 := hloc7.next (grownBy_below hb5 none) (fun _ h => by cases h); have p0 := keepb k0 hb5; have p1 := keepb k1 hb5; have r0 : w5.cell? ⟨w.heap.size + 1, 0, none⟩ = some (.int .i64 0) := hloc5.cell 1 rfl 0; have r1 : w5.cell? ⟨w.heap.size + 1, 1, none⟩ = some (.slice none 0 0) := hloc5.cell 1 rfl 1; have r2 : w5.frozen? ⟨w.heap.size + 1, 0, none⟩ = false := hloc5.free 1 rfl 0; have r3 : w5.frozen? ⟨w.heap.size + 1, 1, none⟩ = false := hloc5.free 1 rfl 1))
    all_goals
      go_wp2_with fail
      have Ho5 := Lib.hid (show OL 60 (w.heap.size + 2) w5 (.slice ao5 T.2.length cap5) T.2 from OL.mono ho5 (by have := hloc7.size; simp at this; omega))
      have HB5 := Lib.hid (below_grownBy hloc5.grown)
      refine bodyPost_ret (v := .tuple #[.agg #[.int .i64 (zdim T n), .slice ao5 T.2.length cap5], .int .i64 T.1]) (by simp [results, Try.results47, go_sem, r0, r1]) rfl ⟨⟨_, by rw [HF.out], ?_⟩, ?_⟩
      · rw [HF.out]; exact OL.mono (base := w.heap.size + 2) (own_set2 Ho5.out (by omega) _ _) (by omega)
      · exact (HB5.out.setCell (by simp) _).setCell (by simp) _
  · have hE : (R.1 != 0) = true := by simpa using he
    have HF := Lib.hid (HRR.out.trans (if_neg he))
    have Hne := Lib.hid he
    clear he
    generalize hzd : zdim R n = d at *
    clear hzd
    have s0 : w2.cell? ⟨w.heap.size + 1, 0, none⟩ = some (.int .i64 0) := hr0
    have s1 : w2.cell? ⟨w.heap.size + 1, 1, none⟩ = some (.slice none 0 0) := hr1
    have f0 : w2.frozen? ⟨w.heap.size + 1, 0, none⟩ = false := hr2
    have f1 : w2.frozen? ⟨w.heap.size + 1, 1, none⟩ = false := hr3
    clear hr0 hr1 hr2 hr3
    have Hloc3 := Lib.hid hloc3
    clear hloc3 ho3
    go_wp2_with fail
    refine bodyPost_ret (v := .tuple #[.agg #[.int .i64 0, .slice none 0 0], .int .i64 R.1]) (by simp [results, Try.results47, go_sem, s0, s1]) rfl ⟨ZPost.err HF.out Hne.out _, ?_⟩
    exact ((below_grownBy Hloc3.out.grown).setCell (by simp) _).setCell (by simp) _
end Go.Proofs.Ytkgaipcgdldfdaa
namespace Go.Proofs.Ytkgaipcgdldfdaa
open Go.RowKit
set_option linter.unusedVariables false

open Classical in
/-- What the reference's Reset returns of whatever arguments. -/
noncomputable def resetRG (n : Int) (xs : List Int) (i c : Int) : Int × List Int := if OkZ n xs ∧ clkB n i = true ∧ conB c = true then resetRF n xs i c else (2, [])

set_option maxHeartbeats 2000000 in
theorem ref_reset_b1 (n i c : Int) (zv : Value) (xs : List Int) (w : World) (hz : RL w.heap.size w zv xs) (hok : ¬ OkZ n xs) :
    Calls Try.prog 47 #[.agg #[.int .i64 n, zv], .int .i64 i, .int .i64 c] w fun e w' => ZPost 60 w.heap.size n (resetRG n xs i c) e w' ∧ Below w.heap.size w w' := by
  obtain ⟨aoz, capz, rfl, hlez, _⟩ := hz.open
  have hloc0 := Loc.two w (.cells #[.int .i64 n, .slice aoz xs.length capz] 24) (.cells #[.int .i64 0, .slice none 0 0] 24) none
  have Hz := Lib.hid (hz.keepb (below_grownBy hloc0.grown))
  clear hz
  have hres := Lib.hid (show resetRG n xs i c = (2, []) from if_neg (fun h => hok h.1))

  go_enter Try.func47, Try.ntmps47
  go_wp2_with fail
  refine (ref_check_bad _ _ xs _ Hz.out hok).mono ?_
  rintro e wa ⟨rfl, hba⟩
  have hloca := hloc0.next (grownBy_below hba none) (fun _ h => by cases h)
  have c0 : wa.cell? ⟨w.heap.size, 0, none⟩ = some (.int .i64 n) := hloca.cell 0 rfl 0
  have r0 : wa.cell? ⟨w.heap.size + 1, 0, none⟩ = some (.int .i64 0) := hloca.cell 1 rfl 0
  have r1 : wa.cell? ⟨w.heap.size + 1, 1, none⟩ = some (.slice none 0 0) := hloca.cell 1 rfl 1
  have r2 : wa.frozen? ⟨w.heap.size + 1, 0, none⟩ = false := hloca.free 1 rfl 0
  have r3 : wa.frozen? ⟨w.heap.size + 1, 1, none⟩ = false := hloca.free 1 rfl 1
  clear hba hloc0 hok
  go_wp2_with fail
  refine bodyPost_ret (v := .tuple #[.agg #[.int .i64 0, .slice none 0 0], .int .i64 2]) (by simp [results, Try.results47, go_sem, r0, r1]) rfl ⟨ZPost.err hres.out (by omega) _, ?_⟩
  exact ((below_grownBy hloca.grown).setCell (by simp) _).setCell (by simp) _

set_option maxHeartbeats 2000000 in
theorem ref_reset_b2 (n i c : Int) (zv : Value) (xs : List Int) (w : World) (hz : RL w.heap.size w zv xs) (hok : OkZ n xs) (hi : i < 1) :
    Calls Try.prog 47 #[.agg #[.int .i64 n, zv], .int .i64 i, .int .i64 c] w fun e w' => ZPost 60 w.heap.size n (resetRG n xs i c) e w' ∧ Below w.heap.size w w' := by
  obtain ⟨aoz, capz, rfl, hlez, _⟩ := hz.open
  have hloc0 := Loc.two w (.cells #[.int .i64 n, .slice aoz xs.length capz] 24) (.cells #[.int .i64 0, .slice none 0 0] 24) none
  have Hz := Lib.hid (hz.keepb (below_grownBy hloc0.grown))
  clear hz
  have hres := Lib.hid (show resetRG n xs i c = (2, []) from if_neg (fun h => by have := h.2.1; simp [clkB] at this; omega))
  have hd : decide (i < 1) = true := by simpa using hi
  clear hi
  go_enter Try.func47, Try.ntmps47
  go_wp2_with fail
  refine (ref_check_ok _ _ xs _ Hz.out hok).mono ?_
  rintro e wa ⟨rfl, hba⟩
  have hloca := hloc0.next (grownBy_below hba none) (fun _ h => by cases h)
  have c0 : wa.cell? ⟨w.heap.size, 0, none⟩ = some (.int .i64 n) := hloca.cell 0 rfl 0
  have r0 : wa.cell? ⟨w.heap.size + 1, 0, none⟩ = some (.int .i64 0) := hloca.cell 1 rfl 0
  have r1 : wa.cell? ⟨w.heap.size + 1, 1, none⟩ = some (.slice none 0 0) := hloca.cell 1 rfl 1
  have r2 : wa.frozen? ⟨w.heap.size + 1, 0, none⟩ = false := hloca.free 1 rfl 0
  have r3 : wa.frozen? ⟨w.heap.size + 1, 1, none⟩ = false := hloca.free 1 rfl 1
  clear hba hloc0 hok
  go_wp2_with fail
  refine bodyPost_ret (v := .tuple #[.agg #[.int .i64 0, .slice none 0 0], .int .i64 2]) (by simp [results, Try.results47, go_sem, r0, r1]) rfl ⟨ZPost.err hres.out (by omega) _, ?_⟩
  exact ((below_grownBy hloca.grown).setCell (by simp) _).setCell (by simp) _

set_option maxHeartbeats 2000000 in
theorem ref_reset_b3 (n i c : Int) (zv : Value) (xs : List Int) (w : World) (hz : RL w.heap.size w zv xs) (hok : OkZ n xs) (hi : 1 ≤ i) (hi2 : n < i) :
    Calls Try.prog 47 #[.agg #[.int .i64 n, zv], .int .i64 i, .int .i64 c] w fun e w' => ZPost 60 w.heap.size n (resetRG n xs i c) e w' ∧ Below w.heap.size w w' := by
  obtain ⟨aoz, capz, rfl, hlez, _⟩ := hz.open
  have hloc0 := Loc.two w (.cells #[.int .i64 n, .slice aoz xs.length capz] 24) (.cells #[.int .i64 0, .slice none 0 0] 24) none
  have Hz := Lib.hid (hz.keepb (below_grownBy hloc0.grown))
  clear hz
  have hres := Lib.hid (show resetRG n xs i c = (2, []) from if_neg (fun h => by have := h.2.1; simp [clkB] at this; omega))
  have hd : decide (i < 1) = false := by simpa using hi
  have hd2 : decide (n < i) = true := by simpa using hi2
  clear hi hi2
  go_enter Try.func47, Try.ntmps47
  go_wp2_with fail
  refine (ref_check_ok _ _ xs _ Hz.out hok).mono ?_
  rintro e wa ⟨rfl, hba⟩
  have hloca := hloc0.next (grownBy_below hba none) (fun _ h => by cases h)
  have c0 : wa.cell? ⟨w.heap.size, 0, none⟩ = some (.int .i64 n) := hloca.cell 0 rfl 0
  have r0 : wa.cell? ⟨w.heap.size + 1, 0, none⟩ = some (.int .i64 0) := hloca.cell 1 rfl 0
  have r1 : wa.cell? ⟨w.heap.size + 1, 1, none⟩ = some (.slice none 0 0) := hloca.cell 1 rfl 1
  have r2 : wa.frozen? ⟨w.heap.size + 1, 0, none⟩ = false := hloca.free 1 rfl 0
  have r3 : wa.frozen? ⟨w.heap.size + 1, 1, none⟩ = false := hloca.free 1 rfl 1
  clear hba hloc0 hok
  go_wp2_with fail
  refine bodyPost_ret (v := .tuple #[.agg #[.int .i64 0, .slice none 0 0], .int .i64 2]) (by simp [results, Try.results47, go_sem, r0, r1]) rfl ⟨ZPost.err hres.out (by omega) _, ?_⟩
  exact ((below_grownBy hloca.grown).setCell (by simp) _).setCell (by simp) _

set_option maxHeartbeats 2000000 in
theorem ref_reset_b4 (n i c : Int) (zv : Value) (xs : List Int) (w : World) (hz : RL w.heap.size w zv xs) (hok : OkZ n xs) (hi : 1 ≤ i) (hi2 : i ≤ n) (hc : conB c = false) :
    Calls Try.prog 47 #[.agg #[.int .i64 n, zv], .int .i64 i, .int .i64 c] w fun e w' => ZPost 60 w.heap.size n (resetRG n xs i c) e w' ∧ Below w.heap.size w w' := by
  obtain ⟨aoz, capz, rfl, hlez, _⟩ := hz.open
  have hloc0 := Loc.two w (.cells #[.int .i64 n, .slice aoz xs.length capz] 24) (.cells #[.int .i64 0, .slice none 0 0] 24) none
  have Hz := Lib.hid (hz.keepb (below_grownBy hloc0.grown))
  clear hz
  have hres := Lib.hid (show resetRG n xs i c = (2, []) from if_neg (fun h => by have := h.2.2; rw [hc] at this; cases this))
  have hd : decide (i < 1) = false := by simpa using hi
  have hd2 : decide (n < i) = false := by simpa using hi2
  clear hi hi2
  go_enter Try.func47, Try.ntmps47
  go_wp2_with fail
  refine (ref_check_ok _ _ xs _ Hz.out hok).mono ?_
  rintro e wa ⟨rfl, hba⟩
  have hloca := hloc0.next (grownBy_below hba none) (fun _ h => by cases h)
  have c0 : wa.cell? ⟨w.heap.size, 0, none⟩ = some (.int .i64 n) := hloca.cell 0 rfl 0
  have r0 : wa.cell? ⟨w.heap.size + 1, 0, none⟩ = some (.int .i64 0) := hloca.cell 1 rfl 0
  have r1 : wa.cell? ⟨w.heap.size + 1, 1, none⟩ = some (.slice none 0 0) := hloca.cell 1 rfl 1
  have r2 : wa.frozen? ⟨w.heap.size + 1, 0, none⟩ = false := hloca.free 1 rfl 0
  have r3 : wa.frozen? ⟨w.heap.size + 1, 1, none⟩ = false := hloca.free 1 rfl 1
  clear hba hloc0 hok
  go_wp2_with (go_at_call 110; refine (ref_constant c _).mono ?_; rw [hc]; rintro e w9 ⟨rfl, rfl⟩)
  refine bodyPost_ret (v := .tuple #[.agg #[.int .i64 0, .slice none 0 0], .int .i64 2]) (by simp [results, Try.results47, go_sem, r0, r1]) rfl ⟨ZPost.err hres.out (by omega) _, ?_⟩
  exact ((below_grownBy hloca.grown).setCell (by simp) _).setCell (by simp) _
theorem ref_reset (n i c : Int) (zv : Value) (xs : List Int) (w : World) (hz : RL w.heap.size w zv xs) :
    Calls Try.prog 47 #[.agg #[.int .i64 n, zv], .int .i64 i, .int .i64 c] w fun e w' => ZPost 60 w.heap.size n (resetRG n xs i c) e w' ∧ Below w.heap.size w w' := by
  by_cases hok : OkZ n xs
  · by_cases h1 : i < 1
    · exact ref_reset_b2 n i c zv xs w hz hok h1
    · by_cases h2 : n < i
      · exact ref_reset_b3 n i c zv xs w hz hok (by omega) h2
      · cases hc : conB c with
        | false => exact ref_reset_b4 n i c zv xs w hz hok (by omega) (by omega) hc
        | true =>
          have hk : clkB n i = true := by simp [clkB]; omega
          have e : resetRG n xs i c = resetRF n xs i c := if_pos ⟨hok, hk, hc⟩
          rw [e]
          exact ref_reset_in n i c zv xs w hz hok hk hc
  · exact ref_reset_b1 n i c zv xs w hz hok
end Go.Proofs.Ytkgaipcgdldfdaa
