/- The law MinimalReduces answers true for every input, and writes nothing that was there. -/
import Derived.Test.YtkgaipcgdldfdaaMrr
import Derived.Test.YtkgaipcgdldfdaaMsh
import Derived.Test.YtkgaipcgdldfdaaFrame
import Derived.Test.YtkgaipcgdldfdaaFresh
import Derived.Test.YtkgaipcgdldfdaaBox
import Derived.Deep.DeepCutAuto
import Derived.Deep.RegionHeld3
namespace Go.Proofs.Ytkgaipcgdldfdaa
open Go.RowKit
set_option linter.unusedVariables false

open Classical in
/-- What Reduce returns. -/
noncomputable def rdF (n : Int) (xs : List Int) : Int × List (Int × Int × Int) := if OkZ n xs then (0, redTo n.toNat xs (kpB n.toNat xs) (n.toNat + 1)) else (2, [])
theorem rdF_yes {N : Nat} {xs : List Int} (h : OkZ N xs) : rdF N xs = (0, redTo N xs (kpB N xs) (N + 1)) := by unfold rdF; rw [if_pos h, Int.toNat_natCast]
theorem rdF_no {n : Int} {xs : List Int} (h : ¬ OkZ n xs) : rdF n xs = (2, []) := by unfold rdF; rw [if_neg h]
theorem rk_nil (B : Nat) (w : World) : RK B w (.slice none 0 0) [] := .inl ⟨rfl, rfl, rfl⟩
def RPost (w : World) (r : Int × List (Int × Int × Int)) (e : Ending) (w' : World) : Prop := (∃ v', e = .returned (.tuple #[v', .int .i64 r.1]) ∧ RK w'.heap.size w' v' r.2) ∧ Below w.heap.size w w'
theorem prog_red (n : Int) (v : Value) (xs : List Int) (w : World) (hv : RL w.heap.size w v xs) : Calls Try.prog 13 #[.agg #[.int .i64 n, v]] w fun e w' => RPost w (rdF n xs) e w' := by
  by_cases h : OkZ n xs
  · obtain ⟨N, rfl⟩ := Int.eq_ofNat_of_zero_le h.lo
    rw [rdF_yes h, ← red_eq h (N + 1) (Nat.le_refl _)]
    exact (prog_reduce N v xs w hv h).mono fun e w' ⟨⟨v', h1, h2⟩, h3⟩ => ⟨⟨v', h1, OK3.rk h2⟩, h3⟩
  · rw [rdF_no h]
    exact (prog_reduce_bad n v xs w hv h).mono fun e w' ⟨h1, h3⟩ => ⟨⟨_, h1, rk_nil _ _⟩, h3⟩
theorem ref_red (n : Int) (v : Value) (xs : List Int) (w : World) (hv : RL w.heap.size w v xs) : Calls Try.prog 14 #[.agg #[.int .i64 n, v]] w fun e w' => RPost w (rdF n xs) e w' := by
  by_cases h : OkZ n xs
  · obtain ⟨N, rfl⟩ := Int.eq_ofNat_of_zero_le h.lo
    rw [rdF_yes h]
    exact (ref4_reduce N v xs w hv h).mono fun e w' ⟨⟨v', h1, h2⟩, h3⟩ => ⟨⟨v', h1, OK3.rk h2⟩, h3⟩
  · rw [rdF_no h]
    exact (ref4_reduce_bad n v xs w hv h).mono fun e w' ⟨h1, h3⟩ => ⟨⟨_, h1, rk_nil _ _⟩, h3⟩

set_option maxRecDepth 100000 in
set_option maxHeartbeats 4000000 in
theorem law_min_reduces (n : Int) (v : Value) (xs : List Int) (w : World) (hv : RL w.heap.size w v xs) :
    Calls Try.prog 3 #[.agg #[.int .i64 n, v]] w fun e w' => e = .returned (.bool true) ∧ Below w.heap.size w w' := by
  obtain ⟨i0, hi, hz0, hz1, hz2⟩ := info_parts Try.infoLimit
  have Hi := Lib.hid hi
  have Hz0 := Lib.hid hz0
  have Hz1 := Lib.hid hz1
  have Hz2 := Lib.hid hz2
  clear hi hz0 hz1 hz2
  obtain ⟨ao, cap, rfl, hle, _⟩ := hv.open
  have hloc0 := Loc.one w (.cells #[.int .i64 n, .slice ao xs.length cap] 24) none
  have Hv := Lib.hid (hv.keepb (below_grownBy hloc0.grown))
  have Hb0 := Lib.hid (below_grownBy hloc0.grown)
  clear hv
  by_cases hb : 200 < xs.length
  · have htb : decide ((200 : Int) < (xs.length : Int)) = true := by simp; omega
    go_enter Try.func3, Try.ntmps3
    go_wp2_with fail
    refine (law_shown04 _).mono ?_
    rintro e w1 ⟨rfl, hb1⟩
    go_wp2_with fail
    go_ret
    exact ⟨rfl, bt Hb0.out hb1⟩
  have htb : decide ((200 : Int) < (xs.length : Int)) = false := by simp; omega
  have HzB := Lib.hid (show BoxZ w.heap.size n xs (w.alloc (.cells #[.int .i64 n, .slice ao xs.length cap] 24)) from ⟨_, _, hloc0.cell 0 rfl 0, hloc0.cell 0 rfl 1, Hv.out⟩)
  have z0 : (w.alloc (.cells #[.int .i64 n, .slice ao xs.length cap] 24)).cell? ⟨w.heap.size, 0, none⟩ = some (.int .i64 n) := hloc0.cell 0 rfl 0
  have z1 : (w.alloc (.cells #[.int .i64 n, .slice ao xs.length cap] 24)).cell? ⟨w.heap.size, 1, none⟩ = some (.slice ao xs.length cap) := hloc0.cell 0 rfl 1
  have hsz : (w.alloc (.cells #[.int .i64 n, .slice ao xs.length cap] 24)).heap.size = w.heap.size + 1 := by simp
  clear hloc0
  go_enter Try.func3, Try.ntmps3
  go_upto_region 3 with fail
  generalize w.alloc (.cells #[.int .i64 n, .slice ao xs.length cap] 24) = w1 at *
  go_cut [3] (fun s3 wx => ∃ g : Nat, s3 = .pointer (some ⟨g, 0, none⟩) ∧ BoxZ g n xs wx ∧ Below w1.heap.size w1 wx)
  case first =>
    have Hm := Lib.hid (show xs.length ≤ maxLen by unfold maxLen; omega)
    have Hby := Lib.hid (show xs.length * 8 ≤ 140737488355328 by omega)
    have Hlm := Lib.hid (show (xs.map (Value.int .i64)).length = xs.length * 1 by simp)
    go_region_held3 (fun w' => w'.cell? ⟨w.heap.size, 0, none⟩ = some (.int .i64 n) ∧ w'.cell? ⟨w.heap.size, 1, none⟩ = some (.slice ao xs.length cap))
      (first | exact ⟨by assumption, by assumption⟩ | go_keep | (constructor <;> (repeat' (first | assumption | (refine (World.cell?_setCell_far _ _ _ _ (by dsimp only; simp; omega)).trans ?_)))))
      (first
        | ((refine step_append_fresh (B := w1.heap.size) (m := xs.length) (news := xs.map (Value.int .i64)) (xv := .slice ao xs.length cap) ?_ (.tmp 15) (.tmp 17) 22 ?_ 60 i0 (.int .i64 0) 1 8 Try.undLimits Hi.out Hz0.out Hz1.out Hz2.out ?_ ?_ ?_ ?_ ?_ ?_ ?_ ?_ ?_ ?_); (all_goals (first | rfl | decide | exact Hlm.out | exact Hm.out | exact Hby.out | (refine RS.keep Hv.out ?_; (repeat' (first | exact Below.refl _ _ | refine Below.drew ?_ | refine Below.alloc ?_ ?_ _ | (simp; done) | (simp; omega))); done) | skip)); (intro v' wA hrA hbA hfA; (obtain ⟨⟨aoA, cA, rfl⟩, hfA⟩ := hfA); (obtain ⟨kc, kf⟩ := bcell hbA); (have szA := hbA.size); (have kz0 := keepb (b := w.heap.size) (o := 0) (v := .int .i64 n) (by first | assumption | (go_simp; done) | go_keep) hbA); (have kz1 := keepb (b := w.heap.size) (o := 1) (v := .slice ao xs.length cap) (by first | assumption | (go_simp; done) | go_keep) hbA))))
    all_goals (go_wp2_with fail; go_meet; refine ⟨_, rfl, ?_, ?_⟩; (first | exact BoxZ.atAlloc hrA _ | exact BoxZ.stored (u0 := .int .i64 0) (u1 := .slice none 0 0) hbA (by go_simp) (by go_simp) hrA hfA); (repeat' (first | exact Below.refl _ _ | refine Below.setCell ?_ ?_ _ | refine Below.alloc ?_ ?_ _ | refine Below.drew ?_ | refine bt ?_ hbA | (simp; done) | (simp at szA ⊢; omega))))
  case rest =>
    obtain ⟨g, rfl, hz3, hbc⟩ := hcut
    obtain ⟨aog, cg, g0, g1, rg⟩ := hz3.ex
    have Hg := Lib.hid hz3
    have Hz := Lib.hid (HzB.out.keep hbc)
    have Hbc := Lib.hid (bt Hb0.out hbc)
    clear hz3 hbc z0 z1 HzB Hv Hb0
    go_wp2_with fail
    have HP := Lib.hid (fun v w hv => prog_red n v xs w hv)
    have HR := Lib.hid (fun v w hv => ref_red n v xs w hv)
    generalize rdF n xs = R at HP HR
    obtain ⟨R1, R2⟩ := R
    refine (HP.out _ _ rg).mono ?_
    rintro e w2 ⟨⟨v2, rfl, hk2⟩, hb2⟩
    have Hg2 := Lib.hid (Hg.out.keep hb2)
    obtain ⟨aoz, cz, z0, z1, rz⟩ := (Hz.out.keep hb2).ex
    have Hz2 := Lib.hid (Hz.out.keep hb2)
    have Hk2 := Lib.hid hk2
    have Hb2 := Lib.hid (bt Hbc.out hb2)
    clear rg g0 g1 hk2 hb2 Hg Hz Hbc
    go_wp2_with fail
    refine (HR.out _ _ rz).mono ?_
    rintro e w3 ⟨⟨v3, rfl, hk3⟩, hb3⟩
    have Hg3 := Lib.hid (Hg2.out.keep hb3)
    have Hz3 := Lib.hid (Hz2.out.keep hb3)
    have Hk3 := Lib.hid (Hk2.out.keepb hb3)
    have Hb3 := Lib.hid (bt Hb2.out hb3)
    clear z0 z1 rz hb3 Hg2 Hz2 Hk2 Hb2
    have heq : (R1 == R1) = true := by simp
    go_wp2_with fail
    refine (law_same3 _ _ R2 w3 Hk3.out hk3).mono ?_
    rintro e w4 ⟨rfl, hb4⟩
    obtain ⟨aog, cg, g0, g1, rg⟩ := (Hg3.out.keep hb4).ex
    obtain ⟨aoz, cz, z0, z1, rz⟩ := (Hz3.out.keep hb4).ex
    have Hrg := Lib.hid rg
    have Hrz := Lib.hid rz
    have Hb4 := Lib.hid (bt Hb3.out hb4)
    clear hk3 Hk3 hb4 rg rz Hg3 Hz3 Hb3
    go_wp2_with fail
    refine (ref_same n n _ _ xs xs _ Hrg.out Hrz.out).mono ?_
    rw [sameB_refl]
    rintro e w5 ⟨rfl, hb5⟩
    have Hb5 := Lib.hid (bt Hb4.out hb5)
    clear hb5 Hb4
    go_wp2_with fail
    refine (law_shown04 _).mono ?_
    rintro e w6 ⟨rfl, hb6⟩
    go_wp2_with fail
    go_ret
    exact ⟨rfl, bt Hb5.out hb6⟩
end Go.Proofs.Ytkgaipcgdldfdaa
