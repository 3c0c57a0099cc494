/- Part of the proof of priced_resets_proved: Sh3, Rrs2, Rsq. -/
import Derived.Laws.StructEq
import Derived.BigQuiet
import Derived.Deep.DeepCutAuto
import Derived.Test.YtfphlpglgcmljaaGreatXsFw
import Derived.Test.YtfphlpglgcmljaaGreatXsSta
import Derived.Test.YtfphlpglgcmljaaGreatXsUpz
import Derived.Test.YtfphlpglgcmljaaGreatXsSame
import Derived.Test.YtfphlpglgcmljaaGreatXsQ
import Derived.Test.YtfphlpglgcmljaaGreatXsZref
import Derived.Test.YtfphlpglgcmljaaGreatXsZref4
import Derived.Test.YtfphlpglgcmljaaGreatXsBox
import Derived.Test.YtfphlpglgcmljaaGreatXsK3
import Derived.Test.YtfphlpglgcmljaaGreatXsRfr
import Derived.Test.YtfphlpglgcmljaaGreatXsClx
namespace Go.Proofs.YtfphlpglgcmljaaGreat
open Go.RowKit
set_option linter.unusedVariables false
instance (n : Int) : Decidable (I64 n) := by unfold I64; exact inferInstance
set_option linter.unusedVariables false
theorem rk_lit33 (w : World) (arr : Array Value) (e : Nat) (cs : List (Int × Int × Int)) (m : Nat) (h : arr.toList = cs.flatMap cells3) (hm : m = cs.length) (hl : cs.length ≤ 1000) :
  RK (w.alloc (.cells arr e)).heap.size (w.alloc (.cells arr e)) (.slice (some ⟨w.heap.size, 0, none⟩) m m) cs := by
 have := rs_lit3 (w := w) (arr := arr) (e := e) (cs := cs) (m := m) h hm hl
 rw [show (w.alloc (.cells arr e)).heap.size = w.heap.size + 1 by simp]
 exact this
theorem b1_alloc (w : World) (o : Obj) : Below w.heap.size w (w.alloc o) := (Below.refl _ _).alloc (Nat.le_refl _) _
set_option linter.unusedVariables false
theorem ref_constant (c : Int) (w : World) : Calls Tryz.prog 138 #[.int .i64 c] w fun e w' => e = .returned (.bool (conB c)) ∧ w = w' := by
 by_cases h : 0 ≤ c
 ·have h1 : decide (0 ≤ c) = true := by simpa using h
  have h2 : conB c = decide (c ≤ 1048576) := by rw [conB]; simp [h]
  rw [h2]
  go_enter Tryz.func138, Tryz.ntmps138
  go_wp2_with fail
  go_ret
  exact ⟨rfl, rfl⟩
 ·have h1 : decide (0 ≤ c) = false := by simpa using h
  have h2 : conB c = false := by rw [conB]; simp [h]
  rw [h2]
  go_enter Tryz.func138, Tryz.ntmps138
  go_wp2_with fail
  go_ret
  exact ⟨rfl, rfl⟩
def isL (i j c : Int) : List (Int × Int × Int) := [(i, j, 2 * c + 1), (j, i, -2 * c + 1)]
theorem ref_is (i j c : Int) (w : World) (h0 : 0 ≤ c) (h1 : c ≤ 1048576) : Calls Tryz.prog 140 #[.int .i64 i, .int .i64 j, .int .i64 c] w fun e w' => (∃ v', e = .returned v' ∧ RK w'.heap.size w' v' (isL i j c)) ∧ Below w.heap.size w w' := by
 have k := rk_lit33 w #[.int .i64 i, .int .i64 j, .int .i64 (2 * c + 1), .int .i64 j, .int .i64 i, .int .i64 (-2 * c + 1)] 98 (isL i j c) 2 rfl rfl (by simp [isL])
 have e1 : IntKind.i64.wrap (2 * c) = 2 * c := IntWalk.i64_in _ (by omega)
 have e2 : IntKind.i64.wrap (-2 * c) = -2 * c := IntWalk.i64_in _ (by omega)
 have e3 : IntKind.i64.wrap (2 * c + 1) = 2 * c + 1 := IntWalk.i64_in _ (by omega)
 have e4 : IntKind.i64.wrap (-2 * c + 1) = -2 * c + 1 := IntWalk.i64_in _ (by omega)
 go_enter Tryz.func140, Tryz.ntmps140
 go_wp2_with fail
 go_ret
 exact ⟨⟨_, rfl, k⟩, b1_alloc w _⟩
set_option linter.unusedVariables false
noncomputable def resetRF (n : Int) (xs : List Int) (i c : Int) : Int × List Int :=
 if (freeRF n xs i).1 = 0 then andF n (freeRF n xs i).2 (isL i 0 c) else ((freeRF n xs i).1, [])
set_option maxRecDepth 100000 in
set_option maxHeartbeats 4000000 in
theorem ref_reset_in (n i c : Int) (zv : Value) (xs : List Int) (w : World) (hz : RL w.heap.size w zv xs) (hok : OkZ n xs) (hi : clkB n i = true) (hc : conB c = true) :
  Calls Tryz.prog 80 #[.agg #[.int .i64 n, zv], .int .i64 i, .int .i64 c] w fun e w' => ZPost 63 w.heap.size n (resetRF n xs i c) e w' ∧ Below w.heap.size w w' := by
 obtain ⟨aoz, capz, rfl, hlez, _⟩ := hz.open
 have hloc0 := Loc.two w (.cells #[.int .i64 n, .slice aoz xs.length capz] 32) (.cells #[.int .i64 0, .slice none 0 0] 32) none
 have Hz := Lib.hid hz
 have Hzw := Lib.hid (hz.keepb (below_grownBy hloc0.grown))
 have h3 : 1 ≤ i ∧ i ≤ n := by simpa [clkB] using hi
 have hd1 : decide (i < 1) = false := by simp; omega
 have hd2 : decide (n < i) = false := by simp; omega
 have h4 : 0 ≤ c ∧ c ≤ 1048576 := by simpa [conB] using hc
 have HRR := Lib.hid (show resetRF n xs i c = if (freeRF n xs i).1 = 0 then andF n (freeRF n xs i).2 (isL i 0 c) else ((freeRF n xs i).1, []) from rfl)
 have H4 := Lib.hid h4
 clear hz hi h3 h4
 go_enter Tryz.func80, Tryz.ntmps80
 go_wp2_with fail
 refine (ref_check_ok _ _ xs _ Hzw.out hok).mono ?_
 rintro e wa ⟨rfl, hba⟩
 have hloca := hloc0.next (grownBy_below hba none) (fun _ h => by cases h)
 have c0 : wa.cell? ⟨w.heap.size, 0, none⟩ = some (.int .i64 n) := hloca.cell 0 rfl 0
 have c1 : wa.cell? ⟨w.heap.size, 1, none⟩ = some (.slice aoz xs.length capz) := hloca.cell 0 rfl 1
 have Hza := Lib.hid (Hz.out.keepb (below_grownBy hloca.grown))
 clear hba hloc0 hok
 go_wp2_with (go_at_call 138; refine (ref_constant c _).mono ?_; rw [hc]; rintro e w9 ⟨rfl, rfl⟩)
 refine (ref_free n i _ xs wa Hza.out).mono ?_
 generalize freeRF n xs i = R at *
 rintro e w2 ⟨⟨v2, rfl, ho2⟩, hb2⟩
 obtain ⟨ao2, cp2, rfl⟩ := owns_form ho2
 have hloc2 := hloca.next (grownBy_below hb2 none) (fun _ h => by cases h)
 have hsz2 : w.heap.size + 2 ≤ wa.heap.size := hloca.size
 have q0 : w2.cell? ⟨w.heap.size, 0, none⟩ = some (.int .i64 n) := hloc2.cell 0 rfl 0
 have q1 : w2.cell? ⟨w.heap.size, 1, none⟩ = some (.slice aoz xs.length capz) := hloc2.cell 0 rfl 1
 have q2 : w2.frozen? ⟨w.heap.size, 0, none⟩ = false := hloc2.free 0 rfl 0
 have q3 : w2.frozen? ⟨w.heap.size, 1, none⟩ = false := hloc2.free 0 rfl 1
 have ho3 := own_set2 (w := w2) ho2 (b := w.heap.size) (by omega) (.int .i64 (zdim R n)) (.slice ao2 R.2.length cp2)
 have hloc3 := (hloc2.put 0 rfl 0 (.int .i64 (zdim R n))).put 0 rfl 1 (.slice ao2 R.2.length cp2)
 have hr0 := hloc2.cell 1 rfl 0
 have hr1 := hloc2.cell 1 rfl 1
 have hr2 := hloc2.free 1 rfl 0
 have hr3 := hloc2.free 1 rfl 1
 clear hb2 ho2 hloca hloc2 c0 c1 hd1 hd2
 by_cases he : R.1 = 0
 ·have hE : (R.1 != 0) = false := by simpa using he
  have HF := Lib.hid (HRR.out.trans (if_pos he))
  have hzd : zdim R n = n := by unfold zdim; rw [if_pos he]
  generalize zdim R n = d at *
  obtain rfl : n = d := hzd.symm
  clear hzd he
  clear hr0 hr1 hr2 hr3
  have HA := Lib.hid (fun v k w hv hk => ref_and n v k R.2 (isL i 0 c) w hv hk)
  generalize andF n R.2 (isL i 0 c) = T at HF HA
  go_upto_region 6 with fail
  generalize hW3 : (w2.setCell ⟨w.heap.size, 0, none⟩ (.int .i64 n)).setCell ⟨w.heap.size, 1, none⟩ (.slice ao2 R.2.length cp2) = W3 at *
  clear q0 q1 q2 q3 hW3
  have z0 : W3.cell? ⟨w.heap.size, 0, none⟩ = some (.int .i64 n) := hloc3.cell 0 rfl 0
  have z1 : W3.cell? ⟨w.heap.size, 1, none⟩ = some (.slice ao2 R.2.length cp2) := hloc3.cell 0 rfl 1
  have Hr3 := Lib.hid (show RL W3.drew.heap.size W3.drew (.slice ao2 R.2.length cp2) R.2 from (OL.rl ho3).drew)
  have Hloc3 := Lib.hid hloc3
  clear ho3 hloc3
  have n0 : ¬ (w.heap.size = w.heap.size + 1) := by omega
  have n1 : ¬ (w.heap.size + 1 = w.heap.size) := by omega
  go_region_held3 (fun w' => w'.cell? ⟨w.heap.size, 0, none⟩ = some (.int .i64 n) ∧ w'.cell? ⟨w.heap.size, 1, none⟩ = some (.slice ao2 R.2.length cp2))
   (first | exact ⟨by assumption, by assumption⟩ | go_keep)
   (first
    | (go_at_call 140; refine (ref_is i 0 c W3.drew H4.out.1 H4.out.2).mono ?_; rintro e w7 ⟨⟨vk, rfl, hk⟩, hb7⟩; have hr7 := Hr3.out.keepb hb7; have hloc7 := Hloc3.out.next (grownBy_trans (grownBy_drew W3 none) (grownBy_below hb7 none)) (fun _ h => by cases h); have k0 := keepb (show W3.drew.cell? _ = _ from z0) hb7; have k1 := keepb (show W3.drew.cell? _ = _ from z1) hb7)
    | (have _t := hb7; go_at_call 65; refine (HA.out _ _ w7 hr7 hk).mono ?_; rintro e w5 ⟨⟨v5, rfl, ho5⟩, hb5⟩; (obtain ⟨ao5, cap5, rfl⟩ := owns_form ho5); have hloc5 := hloc7.next (grownBy_below hb5 none) (fun _ h => by cases h); have p0 := keepb k0 hb5; have p1 := keepb k1 hb5; have r0 : w5.cell? ⟨w.heap.size + 1, 0, none⟩ = some (.int .i64 0) := hloc5.cell 1 rfl 0; have r1 : w5.cell? ⟨w.heap.size + 1, 1, none⟩ = some (.slice none 0 0) := hloc5.cell 1 rfl 1; have r2 : w5.frozen? ⟨w.heap.size + 1, 0, none⟩ = false := hloc5.free 1 rfl 0; have r3 : w5.frozen? ⟨w.heap.size + 1, 1, none⟩ = false := hloc5.free 1 rfl 1))
  all_goals
   go_wp2_with fail
   have Ho5 := Lib.hid (show OL 63 (w.heap.size + 2) w5 (.slice ao5 T.2.length cap5) T.2 from OL.mono ho5 (by have := hloc7.size; simp at this; omega))
   have HB5 := Lib.hid (below_grownBy hloc5.grown)
   refine bodyPost_ret (v := .tuple #[.agg #[.int .i64 (zdim T n), .slice ao5 T.2.length cap5], .int .i64 T.1]) (by simp [results, Tryz.results80, go_sem, r0, r1]) rfl ⟨⟨_, by rw [HF.out], ?_⟩, ?_⟩
   ·rw [HF.out]; exact OL.mono (base := w.heap.size + 2) (own_set2 Ho5.out (by omega) _ _) (by omega)
   ·exact (HB5.out.setCell (by simp) _).setCell (by simp) _
 ·have hE : (R.1 != 0) = true := by simpa using he
  have HF := Lib.hid (HRR.out.trans (if_neg he))
  have Hne := Lib.hid he
  clear he
  generalize hzd : zdim R n = d at *
  clear hzd
  have s0 : w2.cell? ⟨w.heap.size + 1, 0, none⟩ = some (.int .i64 0) := hr0
  have s1 : w2.cell? ⟨w.heap.size + 1, 1, none⟩ = some (.slice none 0 0) := hr1
  have f0 : w2.frozen? ⟨w.heap.size + 1, 0, none⟩ = false := hr2
  have f1 : w2.frozen? ⟨w.heap.size + 1, 1, none⟩ = false := hr3
  clear hr0 hr1 hr2 hr3
  have Hloc3 := Lib.hid hloc3
  clear hloc3 ho3
  go_wp2_with fail
  refine bodyPost_ret (v := .tuple #[.agg #[.int .i64 0, .slice none 0 0], .int .i64 R.1]) (by simp [results, Tryz.results80, go_sem, s0, s1]) rfl ⟨ZPost.err HF.out Hne.out _, ?_⟩
  exact ((below_grownBy Hloc3.out.grown).setCell (by simp) _).setCell (by simp) _
set_option linter.unusedVariables false
open Classical in
/-- What the reference's Reset returns of whatever arguments. -/
noncomputable def resetRG (n : Int) (xs : List Int) (i c : Int) : Int × List Int := if OkZ n xs ∧ clkB n i = true ∧ conB c = true then resetRF n xs i c else (2, [])
set_option maxHeartbeats 2000000 in
theorem ref_reset_b1 (n i c : Int) (zv : Value) (xs : List Int) (w : World) (hz : RL w.heap.size w zv xs) (hok : ¬ OkZ n xs) :
  Calls Tryz.prog 80 #[.agg #[.int .i64 n, zv], .int .i64 i, .int .i64 c] w fun e w' => ZPost 63 w.heap.size n (resetRG n xs i c) e w' ∧ Below w.heap.size w w' := by
 obtain ⟨aoz, capz, rfl, hlez, _⟩ := hz.open
 have hloc0 := Loc.two w (.cells #[.int .i64 n, .slice aoz xs.length capz] 32) (.cells #[.int .i64 0, .slice none 0 0] 32) none
 have Hz := Lib.hid (hz.keepb (below_grownBy hloc0.grown))
 clear hz
 have hres := Lib.hid (show resetRG n xs i c = (2, []) from if_neg (fun h => hok h.1))
 go_enter Tryz.func80, Tryz.ntmps80
 go_wp2_with fail
 refine (ref_check_bad _ _ xs _ Hz.out hok).mono ?_
 rintro e wa ⟨rfl, hba⟩
 have hloca := hloc0.next (grownBy_below hba none) (fun _ h => by cases h)
 have c0 : wa.cell? ⟨w.heap.size, 0, none⟩ = some (.int .i64 n) := hloca.cell 0 rfl 0
 have r0 : wa.cell? ⟨w.heap.size + 1, 0, none⟩ = some (.int .i64 0) := hloca.cell 1 rfl 0
 have r1 : wa.cell? ⟨w.heap.size + 1, 1, none⟩ = some (.slice none 0 0) := hloca.cell 1 rfl 1
 have r2 : wa.frozen? ⟨w.heap.size + 1, 0, none⟩ = false := hloca.free 1 rfl 0
 have r3 : wa.frozen? ⟨w.heap.size + 1, 1, none⟩ = false := hloca.free 1 rfl 1
 clear hba hloc0 hok
 go_wp2_with fail
 refine bodyPost_ret (v := .tuple #[.agg #[.int .i64 0, .slice none 0 0], .int .i64 2]) (by simp [results, Tryz.results80, go_sem, r0, r1]) rfl ⟨ZPost.err hres.out (by omega) _, ?_⟩
 exact ((below_grownBy hloca.grown).setCell (by simp) _).setCell (by simp) _
set_option maxHeartbeats 2000000 in
theorem ref_reset_b2 (n i c : Int) (zv : Value) (xs : List Int) (w : World) (hz : RL w.heap.size w zv xs) (hok : OkZ n xs) (hi : i < 1) :
  Calls Tryz.prog 80 #[.agg #[.int .i64 n, zv], .int .i64 i, .int .i64 c] w fun e w' => ZPost 63 w.heap.size n (resetRG n xs i c) e w' ∧ Below w.heap.size w w' := by
 obtain ⟨aoz, capz, rfl, hlez, _⟩ := hz.open
 have hloc0 := Loc.two w (.cells #[.int .i64 n, .slice aoz xs.length capz] 32) (.cells #[.int .i64 0, .slice none 0 0] 32) none
 have Hz := Lib.hid (hz.keepb (below_grownBy hloc0.grown))
 clear hz
 have hres := Lib.hid (show resetRG n xs i c = (2, []) from if_neg (fun h => by have := h.2.1; simp [clkB] at this; omega))
 have hd : decide (i < 1) = true := by simpa using hi
 clear hi
 go_enter Tryz.func80, Tryz.ntmps80
 go_wp2_with fail
 refine (ref_check_ok _ _ xs _ Hz.out hok).mono ?_
 rintro e wa ⟨rfl, hba⟩
 have hloca := hloc0.next (grownBy_below hba none) (fun _ h => by cases h)
 have c0 : wa.cell? ⟨w.heap.size, 0, none⟩ = some (.int .i64 n) := hloca.cell 0 rfl 0
 have r0 : wa.cell? ⟨w.heap.size + 1, 0, none⟩ = some (.int .i64 0) := hloca.cell 1 rfl 0
 have r1 : wa.cell? ⟨w.heap.size + 1, 1, none⟩ = some (.slice none 0 0) := hloca.cell 1 rfl 1
 have r2 : wa.frozen? ⟨w.heap.size + 1, 0, none⟩ = false := hloca.free 1 rfl 0
 have r3 : wa.frozen? ⟨w.heap.size + 1, 1, none⟩ = false := hloca.free 1 rfl 1
 clear hba hloc0 hok
 go_wp2_with fail
 refine bodyPost_ret (v := .tuple #[.agg #[.int .i64 0, .slice none 0 0], .int .i64 2]) (by simp [results, Tryz.results80, go_sem, r0, r1]) rfl ⟨ZPost.err hres.out (by omega) _, ?_⟩
 exact ((below_grownBy hloca.grown).setCell (by simp) _).setCell (by simp) _
set_option maxHeartbeats 2000000 in
theorem ref_reset_b3 (n i c : Int) (zv : Value) (xs : List Int) (w : World) (hz : RL w.heap.size w zv xs) (hok : OkZ n xs) (hi : 1 ≤ i) (hi2 : n < i) :
  Calls Tryz.prog 80 #[.agg #[.int .i64 n, zv], .int .i64 i, .int .i64 c] w fun e w' => ZPost 63 w.heap.size n (resetRG n xs i c) e w' ∧ Below w.heap.size w w' := by
 obtain ⟨aoz, capz, rfl, hlez, _⟩ := hz.open
 have hloc0 := Loc.two w (.cells #[.int .i64 n, .slice aoz xs.length capz] 32) (.cells #[.int .i64 0, .slice none 0 0] 32) none
 have Hz := Lib.hid (hz.keepb (below_grownBy hloc0.grown))
 clear hz
 have hres := Lib.hid (show resetRG n xs i c = (2, []) from if_neg (fun h => by have := h.2.1; simp [clkB] at this; omega))
 have hd : decide (i < 1) = false := by simpa using hi
 have hd2 : decide (n < i) = true := by simpa using hi2
 clear hi hi2
 go_enter Tryz.func80, Tryz.ntmps80
 go_wp2_with fail
 refine (ref_check_ok _ _ xs _ Hz.out hok).mono ?_
 rintro e wa ⟨rfl, hba⟩
 have hloca := hloc0.next (grownBy_below hba none) (fun _ h => by cases h)
 have c0 : wa.cell? ⟨w.heap.size, 0, none⟩ = some (.int .i64 n) := hloca.cell 0 rfl 0
 have r0 : wa.cell? ⟨w.heap.size + 1, 0, none⟩ = some (.int .i64 0) := hloca.cell 1 rfl 0
 have r1 : wa.cell? ⟨w.heap.size + 1, 1, none⟩ = some (.slice none 0 0) := hloca.cell 1 rfl 1
 have r2 : wa.frozen? ⟨w.heap.size + 1, 0, none⟩ = false := hloca.free 1 rfl 0
 have r3 : wa.frozen? ⟨w.heap.size + 1, 1, none⟩ = false := hloca.free 1 rfl 1
 clear hba hloc0 hok
 go_wp2_with fail
 refine bodyPost_ret (v := .tuple #[.agg #[.int .i64 0, .slice none 0 0], .int .i64 2]) (by simp [results, Tryz.results80, go_sem, r0, r1]) rfl ⟨ZPost.err hres.out (by omega) _, ?_⟩
 exact ((below_grownBy hloca.grown).setCell (by simp) _).setCell (by simp) _
set_option maxHeartbeats 2000000 in
theorem ref_reset_b4 (n i c : Int) (zv : Value) (xs : List Int) (w : World) (hz : RL w.heap.size w zv xs) (hok : OkZ n xs) (hi : 1 ≤ i) (hi2 : i ≤ n) (hc : conB c = false) :
  Calls Tryz.prog 80 #[.agg #[.int .i64 n, zv], .int .i64 i, .int .i64 c] w fun e w' => ZPost 63 w.heap.size n (resetRG n xs i c) e w' ∧ Below w.heap.size w w' := by
 obtain ⟨aoz, capz, rfl, hlez, _⟩ := hz.open
 have hloc0 := Loc.two w (.cells #[.int .i64 n, .slice aoz xs.length capz] 32) (.cells #[.int .i64 0, .slice none 0 0] 32) none
 have Hz := Lib.hid (hz.keepb (below_grownBy hloc0.grown))
 clear hz
 have hres := Lib.hid (show resetRG n xs i c = (2, []) from if_neg (fun h => by have := h.2.2; rw [hc] at this; cases this))
 have hd : decide (i < 1) = false := by simpa using hi
 have hd2 : decide (n < i) = false := by simpa using hi2
 clear hi hi2
 go_enter Tryz.func80, Tryz.ntmps80
 go_wp2_with fail
 refine (ref_check_ok _ _ xs _ Hz.out hok).mono ?_
 rintro e wa ⟨rfl, hba⟩
 have hloca := hloc0.next (grownBy_below hba none) (fun _ h => by cases h)
 have c0 : wa.cell? ⟨w.heap.size, 0, none⟩ = some (.int .i64 n) := hloca.cell 0 rfl 0
 have r0 : wa.cell? ⟨w.heap.size + 1, 0, none⟩ = some (.int .i64 0) := hloca.cell 1 rfl 0
 have r1 : wa.cell? ⟨w.heap.size + 1, 1, none⟩ = some (.slice none 0 0) := hloca.cell 1 rfl 1
 have r2 : wa.frozen? ⟨w.heap.size + 1, 0, none⟩ = false := hloca.free 1 rfl 0
 have r3 : wa.frozen? ⟨w.heap.size + 1, 1, none⟩ = false := hloca.free 1 rfl 1
 clear hba hloc0 hok
 go_wp2_with (go_at_call 138; refine (ref_constant c _).mono ?_; rw [hc]; rintro e w9 ⟨rfl, rfl⟩)
 refine bodyPost_ret (v := .tuple #[.agg #[.int .i64 0, .slice none 0 0], .int .i64 2]) (by simp [results, Tryz.results80, go_sem, r0, r1]) rfl ⟨ZPost.err hres.out (by omega) _, ?_⟩
 exact ((below_grownBy hloca.grown).setCell (by simp) _).setCell (by simp) _
theorem ref_reset (n i c : Int) (zv : Value) (xs : List Int) (w : World) (hz : RL w.heap.size w zv xs) :
  Calls Tryz.prog 80 #[.agg #[.int .i64 n, zv], .int .i64 i, .int .i64 c] w fun e w' => ZPost 63 w.heap.size n (resetRG n xs i c) e w' ∧ Below w.heap.size w w' := by
 by_cases hok : OkZ n xs
 ·by_cases h1 : i < 1
  ·exact ref_reset_b2 n i c zv xs w hz hok h1
  ·by_cases h2 : n < i
   ·exact ref_reset_b3 n i c zv xs w hz hok (by omega) h2
   ·cases hc : conB c with
    | false => exact ref_reset_b4 n i c zv xs w hz hok (by omega) (by omega) hc
    | true =>
     have hk : clkB n i = true := by simp [clkB]; omega
     have e : resetRG n xs i c = resetRF n xs i c := if_pos ⟨hok, hk, hc⟩
     rw [e]
     exact ref_reset_in n i c zv xs w hz hok hk hc
 ·exact ref_reset_b1 n i c zv xs w hz hok
set_option linter.unusedVariables false
theorem fw_eq' {N : Nat} {xs m : List Int} {D : Nat → Nat → Lm} (h : OkZ N xs) (hl : m.length = (N + 1) * (N + 1)) (eqD : ∀ i j, i ≤ N → j ≤ N → D i j = pl (ent N xs i j)) (dU : ∀ i j, i ≤ N → j ≤ N → ple (D i j) (pl (ent N (fw N m) i j)))
  (dE : ∀ i j y, i ≤ N → j ≤ N → D i j = some y → y ≤ 17179869184 → ent N (fw N m) i j = y) : fw N m = xs := by
 have hlen : xs.length = (N + 1) * (N + 1) := by have := h.len; rwa [Int.toNat_natCast] at this
 refine ext_gi (by rw [fw_len, hl, hlen]) (fun k hk => ?_)
 rw [fw_len, hl] at hk
 have hj : k % (N + 1) ≤ N := by have := Nat.mod_lt k (show 0 < N + 1 by omega); omega
 have hi : k / (N + 1) ≤ N := by have := Nat.div_lt_of_lt_mul (show k < (N + 1) * (N + 1) from hk); omega
 have hidx : k = (k / (N + 1)) * (N + 1) + k % (N + 1) := by rw [Nat.mul_comm]; exact (Nat.div_add_mod k (N + 1)).symm
 rw [hidx]
 show ent N _ _ _ = ent N xs _ _
 have ed := eqD _ _ hi hj
 have eu := dU _ _ hi hj
 have lo := h.elo hi hj
 by_cases hn : ent N xs (k / (N + 1)) (k % (N + 1)) = 1099511627776
 ·rw [ed, hn, pl_nl] at eu
  unfold pl at eu; split at eu
  ·rename_i e2; rw [e2, hn]
  ·exact absurd eu (by simp [ple])
 ·have : D (k / (N + 1)) (k % (N + 1)) = some (ent N xs (k / (N + 1)) (k % (N + 1))) := by rw [ed]; exact pl_fin hn
  exact dE _ _ _ hi hj this (by omega)
theorem closed_to {N : Nat} {xs m : List Int} (h : OkZ N xs) (hl : m.length = (N + 1) * (N + 1)) (hge : ∀ i j, i ≤ N → j ≤ N → ple (pl (ent N xs i j)) (pl (ent N m i j))) (hv : ∀ i j, i ≤ N → j ≤ N → vld (ent N m i j) = true)
  (hle : ∀ D, Cn N D → (∀ i j, i ≤ N → j ≤ N → ple (D i j) (pl (ent N m i j))) → (∀ j, j ≤ N → ple (D 0 j) (some 1)) → ∀ i j, i ≤ N → j ≤ N → ple (D i j) (pl (ent N xs i j))) : closedF N m = (0, xs) := by
 have hN : N ≤ 10 := by have := h.hi; omega
 obtain ⟨D, cD, dm, dr, dz, dU, dE, dg, hneg, _⟩ := closed_exact hN h hl hge hv
 have efw := fw_eq' h hl (fun i j hi hj => ple_anti (hle D cD dm dr i j hi hj) (dz i j hi hj)) dU dE
 unfold closedF
 rw [hneg, efw]
 have hall := (dimF_nat h.dim).2.2
 simp [hall]
theorem free1_ent {N i : Nat} {xs : List Int} (hl : xs.length = (N + 1) * (N + 1)) (hi : i ≤ N) (q : Nat) (hq : q ≤ N + 1) : ∀ a b, a ≤ N → b ≤ N →
  ent N (free1 N xs i q) a b = if (a = i ∧ b < q) ∨ (b = i ∧ a < q) then 1099511627776 else ent N xs a b := by
 induction q with
 | zero => intro a b _ _; rw [if_neg (by omega)]; rfl
 | succ q ih =>
  intro a b ha hb
  rw [free1, ent_set (by rw [List.length_set, free1_len, hl]) (by omega) hi hb, ent_set (by rw [free1_len, hl]) hi (by omega) hb, ih (by omega) a b ha hb]
  by_cases c1 : a = q ∧ b = i
  ·rw [if_pos c1, if_pos (by omega)]
  ·rw [if_neg c1]
   by_cases c2 : a = i ∧ b = q
   ·rw [if_pos c2, if_pos (by omega)]
   ·rw [if_neg c2]
    by_cases c3 : (a = i ∧ b < q) ∨ (b = i ∧ a < q)
    ·rw [if_pos c3, if_pos (by omega)]
    ·rw [if_neg c3, if_neg (by omega)]
theorem free2_ent {N i : Nat} {xs : List Int} (hl : xs.length = (N + 1) * (N + 1)) (hi : i ≤ N) (hi1 : 1 ≤ i) (q : Nat) (hq : q ≤ N + 1) : ∀ a b, a ≤ N → b ≤ N →
  ent N (free2 N xs i q) a b = if b = i ∧ a < q ∧ a ≠ i then ent N xs a 0 else ent N xs a b := by
 induction q with
 | zero => intro a b _ _; rw [if_neg (by omega)]; rfl
 | succ q ih =>
  intro a b ha hb
  rw [free2]
  by_cases e : q = i
  ·rw [if_pos e, ih (by omega) a b ha hb]
   by_cases c : b = i ∧ a < q ∧ a ≠ i
   ·rw [if_pos c, if_pos (by omega)]
   ·rw [if_neg c, if_neg (by omega)]
  ·have e0 : gi (free2 N xs i q) (q * (N + 1)) = ent N xs q 0 := by
    have := ih (by omega) q 0 (by omega) (by omega)
    rw [if_neg (by omega)] at this
    exact this
   rw [if_neg e, ent_set (by rw [free2_len, hl]) (by omega) hi hb, ih (by omega) a b ha hb, e0]
   by_cases c1 : a = q ∧ b = i
   ·rw [if_pos c1, if_pos (by omega), c1.1]
   ·rw [if_neg c1]
    by_cases c : b = i ∧ a < q ∧ a ≠ i
    ·rw [if_pos c, if_pos (by omega)]
    ·rw [if_neg c, if_neg (by omega)]
theorem freeB_ent {N i : Nat} {xs : List Int} (hl : xs.length = (N + 1) * (N + 1)) (hi : i ≤ N) (hi1 : 1 ≤ i) (a b : Nat) (ha : a ≤ N) (hb : b ≤ N) :
  ent N (freeB N xs i) a b = if a = i then (if b = i then 1 else 1099511627776) else if b = i then ent N xs a 0 else ent N xs a b := by
 have l1 : ((free1 N xs i (N + 1)).set (i * (N + 1) + i) 1).length = (N + 1) * (N + 1) := by rw [List.length_set, free1_len, hl]
 have l0 : (free1 N xs i (N + 1)).length = (N + 1) * (N + 1) := by rw [free1_len, hl]
 unfold freeB
 rw [free2_ent l1 hi hi1 _ (Nat.le_refl _) a b ha hb]
 by_cases c1 : a = i
 ·rw [if_neg (by omega), if_pos c1, ent_set l0 hi hi hb, free1_ent hl hi _ (Nat.le_refl _) a b ha hb]
  by_cases c2 : b = i
  ·rw [if_pos ⟨c1, c2⟩, if_pos c2]
  ·rw [if_neg (by omega), if_neg c2, if_pos (by omega)]
 ·rw [if_neg c1]
  by_cases c2 : b = i
  ·rw [if_pos (by omega), if_pos c2, ent_set l0 hi hi (by omega), if_neg (by omega), free1_ent hl hi _ (Nat.le_refl _) a 0 ha (by omega), if_neg (by omega)]
  ·rw [if_neg (by omega), if_neg c2, ent_set l0 hi hi hb, if_neg (by omega), free1_ent hl hi _ (Nat.le_refl _) a b ha hb, if_neg (by omega)]
theorem freeR_ent {N i : Nat} {xs : List Int} (hl : xs.length = (N + 1) * (N + 1)) (hi : i ≤ N) (q : Nat) (hq : q ≤ N + 1) : ∀ a b, a ≤ N → b ≤ N →
  ent N (freeR N xs i q) a b = if (a = i ∧ b < q ∧ b ≠ i) ∨ (b = i ∧ a < q ∧ a ≠ i) then 1099511627776 else ent N xs a b := by
 induction q with
 | zero => intro a b _ _; rw [if_neg (by omega)]; rfl
 | succ q ih =>
  intro a b ha hb
  rw [freeR]
  by_cases e : q = i
  ·rw [if_pos e, ih (by omega) a b ha hb]
   by_cases c : (a = i ∧ b < q ∧ b ≠ i) ∨ (b = i ∧ a < q ∧ a ≠ i)
   ·rw [if_pos c, if_pos (by omega)]
   ·rw [if_neg c, if_neg (by omega)]
  ·rw [if_neg e, ent_set (by rw [List.length_set, freeR_len, hl]) (by omega) hi hb, ent_set (by rw [freeR_len, hl]) hi (by omega) hb, ih (by omega) a b ha hb]
   by_cases c1 : a = q ∧ b = i
   ·rw [if_pos c1, if_pos (by omega)]
   ·rw [if_neg c1]
    by_cases c2 : a = i ∧ b = q
    ·rw [if_pos c2, if_pos (by omega)]
    ·rw [if_neg c2]
     by_cases c3 : (a = i ∧ b < q ∧ b ≠ i) ∨ (b = i ∧ a < q ∧ a ≠ i)
     ·rw [if_pos c3, if_pos (by omega)]
     ·rw [if_neg c3, if_neg (by omega)]
theorem OkZ.rg {N : Nat} {xs : List Int} (h : OkZ N xs) {i j : Nat} (hi : i ≤ N) (hj : j ≤ N) : Rg 1152921504606846976 (ent N xs i j) := by
 have := h.elo hi hj; unfold Rg; omega
theorem OkZ.top {N : Nat} {xs : List Int} (h : OkZ N xs) {i j : Nat} (hi : i ≤ N) (hj : j ≤ N) : ent N xs i j ≤ 1099511627776 := by
 have := h.elo hi hj; omega
theorem freeB_ok {N i : Nat} {xs : List Int} (h : OkZ N xs) (hi : i ≤ N) (hi1 : 1 ≤ i) : OkZ N (freeB N xs i) := by
 have hN : N ≤ 10 := by have := h.hi; omega
 have hl : xs.length = (N + 1) * (N + 1) := by have := h.len; rwa [Int.toNat_natCast] at this
 have E := fun a b ha hb => freeB_ent hl hi hi1 a b ha hb
 refine OkZ.mk' hN (by rw [freeB_len, hl]) (fun a b ha hb => ?_) (fun a b k ha hb hk => ?_)
 ·have ha' : a ≤ N := by omega
  have e := E a b ha' hb
  refine ⟨?_, fun hab => ?_, fun h0 => ?_⟩
  ·show vld (ent N (freeB N xs i) a b) = true
   rw [e]
   split
   ·split <;> decide
   ·split
    ·exact (h.el ha' (Nat.zero_le _)).val
    ·exact (h.el ha' hb).val
  ·show ent N (freeB N xs i) a b = 1
   rw [e]
   split
   ·rw [if_pos (by omega)]
   ·rw [if_neg (by omega)]; exact (h.el ha' hb).diag hab
  ·show ent N (freeB N xs i) a b ≤ 1
   rw [e, if_neg (by omega)]
   split
   ·exact (h.el ha' (Nat.zero_le _)).row h0
   ·exact (h.el ha' hb).row h0
 ·have ha' : a ≤ N := by omega
  show ent N (freeB N xs i) a b ≤ lsum (ent N (freeB N xs i) a k) (ent N (freeB N xs i) k b)
  rw [E a b ha' hb, E a k ha' hk, E k b hk hb]
  by_cases ca : a = i
  ·rw [if_pos ca, if_pos ca]
   by_cases ck : k = i
   ·rw [if_pos ck, if_pos ck]
    by_cases cb : b = i
    ·rw [if_pos cb, lsum1r (by unfold Rg; omega)]; omega
    ·rw [if_neg cb, lsum_nl _ _ (.inr rfl)]; omega
   ·rw [if_neg ck, if_neg ck, lsum_nl _ _ (.inl rfl)]; split <;> omega
  ·rw [if_neg ca, if_neg ca]
   by_cases cb : b = i
   ·rw [if_pos cb, if_pos cb]
    by_cases ck : k = i
    ·rw [if_pos ck, if_pos ck, lsum1r (h.rg ha' (Nat.zero_le _))]; exact Int.le_refl _
    ·rw [if_neg ck, if_neg ck, if_pos cb]; exact (El.gt h ha' (Nat.zero_le _) hk : Tr N xs a 0 k)
   ·rw [if_neg cb]
    by_cases ck : k = i
    ·rw [if_pos ck, if_pos ck, if_neg cb, lsum_nl _ _ (.inr rfl)]; exact h.top ha' hb
    ·rw [if_neg ck, if_neg ck, if_neg cb]; exact (El.gt h ha' hb hk : Tr N xs a b k)
theorem freeR_closed {N i : Nat} {xs : List Int} (h : OkZ N xs) (hi : i ≤ N) (hi1 : 1 ≤ i) : closedF N (freeR N xs i (N + 1)) = (0, freeB N xs i) := by
 have hl : xs.length = (N + 1) * (N + 1) := by have := h.len; rwa [Int.toNat_natCast] at this
 have E := fun a b ha hb => freeB_ent hl hi hi1 a b ha hb
 have R := freeR_ent hl hi (N + 1) (Nat.le_refl _)
 have nl : pl (1099511627776 : Int) = none := pl_nl
 have p1 : pl (1 : Int) = some 1 := pl_fin (by omega)
 refine closed_to (freeB_ok h hi hi1) (by rw [freeR_len, hl]) (fun a b ha hb => ?_) (fun a b ha hb => ?_) (fun D cD dm dr a b ha hb => ?_)
 ·rw [E a b ha hb, R a b ha hb]
  by_cases c : (a = i ∧ b < N + 1 ∧ b ≠ i) ∨ (b = i ∧ a < N + 1 ∧ a ≠ i)
  ·rw [if_pos c, nl]; exact ple_none _
  ·rw [if_neg c]
   by_cases ca : a = i
   ·have cb : b = i := by omega
    rw [if_pos ca, if_pos cb, ca, cb]
    have := (h.el hi hi).diag rfl
    rw [show ent N xs i i = 1 from this]; exact ple_refl _
   ·rw [if_neg ca, if_neg (by omega)]; exact ple_refl _
 ·rw [R a b ha hb]
  split
  ·decide
  ·exact (h.el ha hb).val
 ·rw [E a b ha hb]
  have m0 := dm a b ha hb
  rw [R a b ha hb] at m0
  by_cases ca : a = i
  ·rw [if_pos ca]
   by_cases cb : b = i
   ·rw [if_pos cb, ca, cb, cD.diag i hi, p1]; exact ple_refl _
   ·rw [if_neg cb, nl]; exact ple_none _
  ·rw [if_neg ca]
   by_cases cb : b = i
   ·rw [if_pos cb]
    have m1 := dm a 0 ha (Nat.zero_le _)
    rw [R a 0 ha (Nat.zero_le _), if_neg (by omega)] at m1
    have t := cD.tri a b 0 ha hb (Nat.zero_le _)
    have s := psum_mono m1 (dr b hb)
    rw [psum_one_r] at s
    exact ple_trans t s
   ·rw [if_neg cb]
    rw [if_neg (by omega)] at m0
    exact m0
theorem freeRF_in {N k : Nat} {xs : List Int} (h : OkZ N xs) (h1 : 1 ≤ k) (h2 : k ≤ N) : freeRF N xs k = (0, freeB N xs k) := by
 unfold freeRF
 rw [chgF_yes h (by simp [clkB]; omega), Int.toNat_natCast, Int.toNat_natCast, freeR_closed h h2 h1]
theorem andTo_is {N k j : Nat} {ys : List Int} (c : Int) : andTo N ys (isL k j c) 2 = (ys.set (k * (N + 1) + j) (imin (gi ys (k * (N + 1) + j)) (2 * c + 1))).set (j * (N + 1) + k) (imin (gi (ys.set (k * (N + 1) + j) (imin (gi ys (k * (N + 1) + j)) (2 * c + 1))) (j * (N + 1) + k)) (-2 * c + 1)) := by
 simp [andTo, isL, gk]
theorem isL_ok {N k j : Nat} {c : Int} (hk : k ≤ N) (hj : j ≤ N) (h0 : 0 ≤ c) (h1 : c ≤ 1048576) : AllK N (isL k j c) (isL k j c).length := by
 intro q hq
 have hq2 : q < 2 := hq
 have v1 : vld (2 * c + 1) = true := by rw [vld_iff]; omega
 have v2 : vld (-2 * c + 1) = true := by rw [vld_iff]; omega
 match q, hq2 with
 | 0, _ => exact (kOk_iff N k j (2 * c + 1)).2 ⟨by omega, by omega, by omega, by omega, v1⟩
 | 1, _ => exact (kOk_iff N j k (-2 * c + 1)).2 ⟨by omega, by omega, by omega, by omega, v2⟩
theorem andF_set {N k : Nat} {ys : List Int} {c : Int} (h : OkZ N ys) (hk : k ≤ N) (h0 : 0 ≤ c) (h1 : c ≤ 1048576) : andF N ys (isL k 0 c) = closedF N (setB N ys k c) := by
 have e0 : isL (k : Int) 0 c = isL (k : Int) ((0 : Nat) : Int) c := rfl
 rw [e0, andF_yes h (isL_ok hk (Nat.zero_le _) h0 h1)]
 have e : andTo N ys (isL k ((0 : Nat) : Int) c) (isL (k : Int) ((0 : Nat) : Int) c).length = setB N ys k c := by
  show andTo N ys (isL k ((0 : Nat) : Int) c) 2 = _
  rw [andTo_is]
  unfold setB
  rw [Nat.add_zero, Nat.zero_mul, Nat.zero_add, show -2 * c + 1 = 1 - 2 * c by omega]
 rw [e]
theorem reset_eq (n : Int) (xs : List Int) (i c : Int) : resetF n xs i c = resetRG n xs i c := by
 unfold resetF resetRG
 by_cases hok : OkZ n xs ∧ clkB n i = true ∧ conB c = true
 ·rw [if_pos hok]
  obtain ⟨h, hc, h4⟩ := hok
  obtain ⟨N, rfl⟩ := Int.eq_ofNat_of_zero_le h.lo
  have h3 : 1 ≤ i ∧ i ≤ N := by simpa [clkB] using hc
  have h5 : 0 ≤ c ∧ c ≤ 1048576 := by simpa [conB] using h4
  obtain ⟨k, rfl⟩ := Int.eq_ofNat_of_zero_le (show 0 ≤ i by omega)
  rw [chgF_yes h (by rw [hc, h4]; rfl), Int.toNat_natCast, Int.toNat_natCast]
  unfold resetRF
  rw [freeRF_in h (by omega) (by omega), if_pos rfl]
  show _ = andF N (freeB N xs k) (isL k 0 c)
  rw [andF_set (freeB_ok h (by omega) (by omega)) (by omega) h5.1 h5.2]
 ·rw [if_neg hok, chgF_no (fun e => hok ⟨e.1, by have := e.2; rw [Bool.and_eq_true] at this; exact this⟩)]
def mkZ (N : Nat) (f : Nat → Nat → Int) : List Int := (List.range ((N + 1) * (N + 1))).map fun p => f (p / (N + 1)) (p % (N + 1))
theorem mkZ_len (N : Nat) (f : Nat → Nat → Int) : (mkZ N f).length = (N + 1) * (N + 1) := by simp [mkZ]
theorem mkZ_ent {N : Nat} {f : Nat → Nat → Int} {i j : Nat} (hi : i ≤ N) (hj : j ≤ N) : ent N (mkZ N f) i j = f i j := by
 have hlt := idx_lt N i j hi hj
 unfold ent
 rw [gi_of (by rw [mkZ_len]; exact hlt)]
 simp only [mkZ, List.getElem_map, List.getElem_range]
 have h1 : (i * (N + 1) + j) / (N + 1) = i := by rw [Nat.mul_comm, Nat.mul_add_div (by omega), Nat.div_eq_of_lt (by omega)]; omega
 have h2 : (i * (N + 1) + j) % (N + 1) = j := by rw [Nat.mul_comm, Nat.mul_add_mod, Nat.mod_eq_of_lt (by omega)]
 rw [h1, h2]
def rsE (N : Nat) (xs : List Int) (x : Nat) (c : Int) (a b : Nat) : Int :=
 if a = x then (if b = x then 1 else 2 * c + ent N xs 0 b) else if b = x then (if ent N xs a 0 = 1099511627776 then 1099511627776 else ent N xs a 0 - 2 * c) else ent N xs a b
theorem ent_c0 {N : Nat} {xs : List Int} (h : OkZ N xs) {k : Nat} (hk : k ≤ N) : 1 ≤ ent N xs k 0 := by
 have h1 := ent_tri h (Nat.zero_le N) (Nat.zero_le N) hk (i := 0) (j := 0)
 have h2 : ent N xs 0 0 = 1 := h.diagN (Nat.zero_le _)
 have h3 := ent_row h hk
 by_cases n : ent N xs k 0 = 1099511627776
 ·omega
 ·rw [h2, lsum_val (ent_vld h (Nat.zero_le _) hk) (ent_vld h hk (Nat.zero_le _)) (by omega) n] at h1
  split at h1 <;> omega
section
variable {N x : Nat} {xs : List Int} {c : Int}
theorem rsE_vld (h : OkZ N xs) (h0 : 0 ≤ c) (h1 : c ≤ 1048576) {a b : Nat} (ha : a ≤ N) (hb : b ≤ N) : vld (rsE N xs x c a b) = true := by
 have v0 := ent_vld h (Nat.zero_le _) hb (i := 0)
 have v1 := ent_vld h ha (Nat.zero_le _) (j := 0)
 have r0 := ent_row h hb
 have c0 := ent_c0 h ha
 unfold rsE
 rw [vld_iff] at v0 v1
 split
 ·split
  ·decide
  ·rw [vld_iff]; omega
 ·split
  ·split
   ·decide
   ·rw [vld_iff]; omega
  ·exact ent_vld h ha hb
theorem rsE_tri (h : OkZ N xs) (hx1 : 1 ≤ x) (h0 : 0 ≤ c) (h1 : c ≤ 1048576) {a b k : Nat} (ha : a ≤ N) (hb : b ≤ N) (hk : k ≤ N) : rsE N xs x c a b ≤ lsum (rsE N xs x c a k) (rsE N xs x c k b) := by
 have va := rsE_vld h h0 h1 ha hk (x := x)
 have vb := rsE_vld h h0 h1 hk hb (x := x)
 have vt := rsE_vld h h0 h1 ha hb (x := x)
 by_cases na : rsE N xs x c a k = 1099511627776
 ·rw [lsum_nl _ _ (.inl na)]; exact vld_le vt
 by_cases nb : rsE N xs x c k b = 1099511627776
 ·rw [lsum_nl _ _ (.inr nb)]; exact vld_le vt
 rw [lsum_val va vb na nb]
 have d0 : ent N xs 0 0 = 1 := h.diagN (Nat.zero_le _)
 have tri : ∀ i j l, i ≤ N → j ≤ N → l ≤ N → ent N xs i l ≠ 1099511627776 → ent N xs l j ≠ 1099511627776 → ent N xs i j ≤ ent N xs i l + ent N xs l j - (if ent N xs i l % 2 = 0 ∧ ent N xs l j % 2 = 0 then 0 else 1) := fun i j l hi hj hl n1 n2 => by
  have t := ent_tri h hi hj hl
  rwa [lsum_val (ent_vld h hi hl) (ent_vld h hl hj) n1 n2] at t
 have r0 : ∀ j, j ≤ N → ent N xs 0 j ≤ 1 := fun j hj => ent_row h hj
 unfold rsE at *
 by_cases ea : a = x
 ·rw [if_pos ea] at na ⊢
  rw [if_pos ea]
  by_cases eb : b = x
  ·rw [if_pos eb]
   by_cases ek : k = x
   ·rw [if_pos ek]; rw [if_pos ek]; omega
   ·rw [if_neg ek] at na ⊢
    rw [if_neg ek, if_pos eb] at nb ⊢
    by_cases n : ent N xs k 0 = 1099511627776
    ·rw [if_pos n] at nb; exact absurd rfl nb
    ·rw [if_neg n]
     have t := tri 0 0 k (Nat.zero_le _) (Nat.zero_le _) hk (by have := r0 k hk; omega) n
     split at t <;> split <;> omega
  ·rw [if_neg eb]
   by_cases ek : k = x
   ·rw [if_pos ek]; rw [if_pos ek]; split <;> omega
   ·rw [if_neg ek] at na ⊢
    rw [if_neg ek, if_neg eb] at nb ⊢
    have t := tri 0 b k (Nat.zero_le _) hb hk (by have := r0 k hk; omega) nb
    split at t <;> split <;> omega
 ·rw [if_neg ea] at na ⊢
  rw [if_neg ea]
  by_cases eb : b = x
  ·rw [if_pos eb]
   by_cases ek : k = x
   ·rw [if_pos ek] at na ⊢
    rw [if_pos ek, if_pos eb]
    by_cases n : ent N xs a 0 = 1099511627776
    ·rw [if_pos n] at na; exact absurd rfl na
    ·rw [if_neg n]; split <;> omega
   ·rw [if_neg ek] at na ⊢
    rw [if_neg ek, if_pos eb] at nb ⊢
    by_cases n : ent N xs k 0 = 1099511627776
    ·rw [if_pos n] at nb; exact absurd rfl nb
    ·rw [if_neg n]
     have t := tri a 0 k ha (Nat.zero_le _) hk na n
     have c1 := ent_vld h ha (Nat.zero_le _) (j := 0)
     have c2 := ent_vld h ha hk
     have c3 := ent_vld h hk (Nat.zero_le _) (j := 0)
     rw [vld_iff] at c1 c2 c3
     have n2 : ent N xs a 0 ≠ 1099511627776 := by intro e; rw [e] at t; split at t <;> omega
     rw [if_neg n2]
     split at t <;> split <;> omega
  ·rw [if_neg eb]
   by_cases ek : k = x
   ·rw [if_pos ek] at na ⊢
    rw [if_pos ek, if_neg eb] at nb ⊢
    by_cases n : ent N xs a 0 = 1099511627776
    ·rw [if_pos n] at na; exact absurd rfl na
    ·rw [if_neg n]
     have t := tri a b 0 ha hb (Nat.zero_le _) n (by have := r0 b hb; omega)
     split at t <;> split <;> omega
   ·rw [if_neg ek] at na ⊢
    rw [if_neg ek, if_neg eb] at nb ⊢
    exact tri a b k ha hb hk na nb
theorem rsE_ok (h : OkZ N xs) (hx1 : 1 ≤ x) (hx : x ≤ N) (h0 : 0 ≤ c) (h1 : c ≤ 1048576) : OkZ N (mkZ N (rsE N xs x c)) := by
 refine okz_of (by have := h.hi; omega) (mkZ_len _ _) (fun i j hi hj => ?_) (fun i hi => ?_) (fun j hj => ?_) (fun i j k hi hj hk => ?_)
 ·rw [mkZ_ent hi hj]; exact rsE_vld h h0 h1 hi hj
 ·rw [mkZ_ent hi hi]; unfold rsE
  by_cases e : i = x
  ·rw [if_pos e, if_pos e]
  ·rw [if_neg e, if_neg e]; exact h.diagN hi
 ·rw [mkZ_ent (Nat.zero_le _) hj]; unfold rsE
  rw [if_neg (show ¬ (0 : Nat) = x by omega)]
  by_cases e : j = x
  ·have d0 : ent N xs 0 0 = 1 := h.diagN (Nat.zero_le _)
   rw [if_pos e, d0, if_neg (by omega)]; omega
  ·rw [if_neg e]; exact ent_row h hj
 ·rw [mkZ_ent hi hj, mkZ_ent hi hk, mkZ_ent hk hj]; exact rsE_tri h hx1 h0 h1 hi hj hk
theorem setB_ent {ys : List Int} (hl : ys.length = (N + 1) * (N + 1)) (hx1 : 1 ≤ x) (hx : x ≤ N) (c : Int) {a b : Nat} (ha : a ≤ N) (hb : b ≤ N) :
  ent N (setB N ys x c) a b = if a = 0 ∧ b = x then imin (ent N ys 0 x) (-2 * c + 1) else if a = x ∧ b = 0 then imin (ent N ys x 0) (2 * c + 1) else ent N ys a b := by
 have l1 : (ys.set (x * (N + 1) + 0) (imin (ent N ys x 0) (2 * c + 1))).length = (N + 1) * (N + 1) := by rw [List.length_set, hl]
 have e : setB N ys x c = (ys.set (x * (N + 1) + 0) (imin (ent N ys x 0) (2 * c + 1))).set (0 * (N + 1) + x) (imin (ent N (ys.set (x * (N + 1) + 0) (imin (ent N ys x 0) (2 * c + 1))) 0 x) (1 - 2 * c)) := by
  unfold setB ent
  simp only [Nat.zero_mul, Nat.zero_add, Nat.add_zero]
 rw [e, ent_set l1 (Nat.zero_le _) hx hb, ent_set hl hx (Nat.zero_le _) hb, ent_set hl hx (Nat.zero_le _) hx, if_neg (show ¬ ((0 : Nat) = x ∧ x = 0) by omega), show (1 : Int) - 2 * c = -2 * c + 1 by omega]
theorem reset_val (h : OkZ N xs) (hx1 : 1 ≤ x) (hx : x ≤ N) (h0 : 0 ≤ c) (h1 : c ≤ 1048576) : resetF N xs x c = (0, mkZ N (rsE N xs x c)) := by
 have hlen : xs.length = (N + 1) * (N + 1) := by have := h.len; rwa [Int.toNat_natCast] at this
 have hf := freeB_ok h hx hx1
 have hfl : (freeB N xs x).length = (N + 1) * (N + 1) := by have := hf.len; rwa [Int.toNat_natCast] at this
 have B := fun a b ha hb => freeB_ent hlen hx hx1 a b ha hb
 have d0 : ent N xs 0 0 = 1 := h.diagN (Nat.zero_le _)
 have E : ∀ a b, a ≤ N → b ≤ N → ent N (setB N (freeB N xs x) x c) a b = if a = 0 ∧ b = x then 1 - 2 * c else if a = x ∧ b = 0 then 2 * c + 1 else ent N (freeB N xs x) a b := fun a b ha hb => by
  rw [setB_ent hfl hx1 hx c ha hb, B 0 x (Nat.zero_le _) hx, B x 0 hx (Nat.zero_le _), if_neg (show ¬ (0 : Nat) = x by omega), if_pos rfl, if_pos rfl, if_neg (show ¬ (0 : Nat) = x by omega), d0]
  unfold imin
  by_cases c1 : a = 0 ∧ b = x
  ·rw [if_pos c1, if_pos c1]; split <;> omega
  ·rw [if_neg c1, if_neg c1]
   by_cases c2 : a = x ∧ b = 0
   ·rw [if_pos c2, if_pos c2]; split <;> omega
   ·rw [if_neg c2, if_neg c2]
 have hr : resetF N xs x c = closedF N (setB N (freeB N xs x) x c) := by
  unfold resetF
  rw [chgF_yes h (by simp [clkB, conB]; omega), Int.toNat_natCast, Int.toNat_natCast]
 rw [hr]
 have nl : pl (1099511627776 : Int) = none := pl_nl
 have V := fun a b ha hb => rsE_vld h h0 h1 ha hb (x := x) (a := a) (b := b)
 refine closed_is (rsE_ok h hx1 hx h0 h1) (by rw [setB_len, hfl]) (fun a b ha hb => ?_) (fun a b ha hb => ?_) (fun D cD dm dr a b ha hb => ?_)
 ·rw [E a b ha hb, mkZ_ent ha hb]
  by_cases c1 : a = 0 ∧ b = x
  ·rw [if_pos c1]
   obtain ⟨rfl, rfl⟩ := c1
   unfold rsE
   rw [if_neg (by omega), if_pos rfl, d0, if_neg (by omega)]
   exact ple_refl _
  ·rw [if_neg c1]
   by_cases c2 : a = x ∧ b = 0
   ·rw [if_pos c2]
    obtain ⟨rfl, rfl⟩ := c2
    unfold rsE
    rw [if_pos rfl, if_neg (by omega), d0]
    exact ple_refl _
   ·rw [if_neg c2, B a b ha hb]
    unfold rsE
    by_cases ea : a = x
    ·rw [if_pos ea, if_pos ea]
     by_cases eb : b = x
     ·rw [if_pos eb, if_pos eb]; exact ple_refl _
     ·rw [if_neg eb, if_neg eb, nl]; exact ple_none _
    ·rw [if_neg ea, if_neg ea]
     by_cases eb : b = x
     ·rw [if_pos eb, if_pos eb]
      by_cases n : ent N xs a 0 = 1099511627776
      ·rw [if_pos n, n]; exact ple_refl _
      ·rw [if_neg n, pl_fin n, pl_fin (by have := (vld_iff _).1 (ent_vld h ha (Nat.zero_le _) (j := 0)); omega)]
       show _ ≤ _
       omega
     ·rw [if_neg eb, if_neg eb]; exact ple_refl _
 ·rw [E a b ha hb]
  split
  ·rw [vld_iff]; omega
  ·split
   ·rw [vld_iff]; omega
   ·exact ent_vld hf ha hb
 ·rw [mkZ_ent ha hb]
  have m0 := dm a b ha hb
  rw [E a b ha hb] at m0
  by_cases c1 : a = 0 ∧ b = x
  ·rw [if_pos c1] at m0
   obtain ⟨rfl, rfl⟩ := c1
   unfold rsE
   rw [if_neg (by omega), if_pos rfl, d0, if_neg (by omega)]
   exact m0
  ·rw [if_neg c1] at m0
   have dx := dm 0 x (Nat.zero_le _) hx
   rw [E 0 x (Nat.zero_le _) hx, if_pos ⟨rfl, rfl⟩, pl_fin (show (1 : Int) - 2 * c ≠ 1099511627776 by omega)] at dx
   have dy := dm x 0 hx (Nat.zero_le _)
   rw [E x 0 hx (Nat.zero_le _), if_neg (by omega), if_pos ⟨rfl, rfl⟩, pl_fin (show (2 : Int) * c + 1 ≠ 1099511627776 by omega)] at dy
   by_cases ea : a = x
   ·by_cases eb : b = x
    ·subst ea
     unfold rsE
     rw [eb, if_pos rfl, if_pos rfl, cD.diag a hx, pl_fin (by decide)]
     exact ple_refl _
    ·unfold rsE
     rw [if_pos ea, if_neg eb]
     by_cases b0 : b = 0
     ·rw [if_pos ⟨ea, b0⟩] at m0
      rw [b0, d0]; rw [b0] at m0; exact m0
     ·have v := (vld_iff _).1 (ent_vld h (Nat.zero_le _) hb (i := 0))
      have r := ent_row h hb
      have d1 := dm 0 b (Nat.zero_le _) hb
      rw [E 0 b (Nat.zero_le _) hb, if_neg (by omega), if_neg (by omega), B 0 b (Nat.zero_le _) hb, if_neg (by omega), if_neg eb, pl_fin (show ent N xs 0 b ≠ 1099511627776 by omega)] at d1
      have t := ple_trans (cD.tri x b 0 hx hb (Nat.zero_le _)) (psum_mono dy d1)
      rw [ea, pl_fin (by omega)]
      refine ple_trans t ?_
      unfold psum
      show _ ≤ _
      split <;> omega
   ·by_cases eb : b = x
    ·unfold rsE
     rw [if_neg ea, if_pos eb]
     by_cases n : ent N xs a 0 = 1099511627776
     ·rw [if_pos n, nl]; exact ple_none _
     ·rw [if_neg n]
      have v := (vld_iff _).1 (ent_vld h ha (Nat.zero_le _) (j := 0))
      have c0 := ent_c0 h ha
      have d1 := dm a 0 ha (Nat.zero_le _)
      rw [E a 0 ha (Nat.zero_le _), if_neg (by omega), if_neg (by omega), B a 0 ha (Nat.zero_le _), if_neg ea, if_neg (by omega), pl_fin n] at d1
      have t := ple_trans (cD.tri a x 0 ha hx (Nat.zero_le _)) (psum_mono d1 dx)
      rw [eb, pl_fin (by omega)]
      refine ple_trans t ?_
      unfold psum
      show _ ≤ _
      split <;> omega
    ·unfold rsE
     rw [if_neg ea, if_neg eb]
     rw [if_neg (by omega), B a b ha hb, if_neg ea, if_neg eb] at m0
     exact m0
end
end Go.Proofs.YtfphlpglgcmljaaGreat
