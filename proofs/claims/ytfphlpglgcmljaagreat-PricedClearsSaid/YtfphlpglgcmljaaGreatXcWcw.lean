/- Part of the proof of priced_clears_proved: Wcw. -/
import Derived.Test.YtfphlpglgcmljaaGreatXcWcu
import Derived.Test.YtfphlpglgcmljaaGreatXcWtw
import Derived.Test.YtfphlpglgcmljaaGreatXcPrs
namespace Go.Proofs.YtfphlpglgcmljaaGreat
open Go.RowKit
set_option linter.unusedVariables false
set_option linter.unusedSimpArgs false
theorem pick_rng {k n : Int} (h0 : 1 ≤ n) (h1 : n ≤ 1000) : IntKind.i64.wrap (k.tmod n + n) = k.tmod n + n ∧ 0 ≤ (k.tmod n + n).tmod n ∧ (k.tmod n + n).tmod n < n := by
 have a : -n < k.tmod n := by
  rcases Int.le_total 0 k with h | h
  ·have := Int.tmod_nonneg n h; omega
  ·have e : k = -(-k) := by omega
   rw [e, Int.neg_tmod]
   have := Int.tmod_lt_of_pos (-k) (b := n) (by omega); omega
 have b : k.tmod n < n := Int.tmod_lt_of_pos k (by omega)
 refine ⟨wr_id (by omega) (by omega), Int.tmod_nonneg n (by omega), Int.tmod_lt_of_pos _ (by omega)⟩
set_option maxHeartbeats 1000000 in
theorem law_pick (k n : Int) (w : World) (h0 : 1 ≤ n) (h1 : n ≤ 1000) : Calls Tryz.prog 28 #[.int .i64 k, .int .i64 n] w fun e w' => (∃ r : Nat, e = .returned (.int .i64 r) ∧ (r : Int) < n) ∧ w = w' := by
 obtain ⟨p1, p2, p3⟩ := pick_rng (k := k) h0 h1
 obtain ⟨m, hm⟩ : ∃ m, (k.tmod n + n).tmod n = m := ⟨_, rfl⟩
 have hne : ¬ n = 0 := by omega
 have hnb : (n == 0) = false := by simpa using hne
 rw [IntWalk.i64_left] at p1
 go_enter Tryz.func28, Tryz.ntmps28
 go_wp2_with fail
 go_ret
 refine ⟨⟨m.toNat, ?_, by rw [hm] at p2 p3; omega⟩, rfl⟩
 rw [hm] at p2
 rw [Int.toNat_of_nonneg p2, ← hm]
 rfl
theorem rat1_set {vs : List Int} {Y : Nat} (hY : Y < vs.length) (n : Int) : rat1 (vs.set Y n) = ipts (sv (pv vs 0) (Y + 1) n) vs.length := by
 apply List.ext_getElem
 ·rw [rat1_len, List.length_set, ipts_len]
 ·intro k h1 h2
  rw [rat1_len, List.length_set] at h1
  simp only [rat1, ipts, List.getElem_map, List.getElem_range]
  rw [← gi_of (by rw [List.length_set]; exact h1)]
  by_cases e : k = Y
  ·subst e; rw [sv_x, gi_set_same hY]
  ·rw [sv_ne (by omega), gi_set_ne (fun c => e c.symm), pv_s (by omega), show k + 1 - 1 = k by omega, Int.sub_zero]
set_option maxRecDepth 100000 in
set_option maxHeartbeats 16000000 in
theorem law_priced_clears (n c clock : Int) (v rv vv : Value) (xs rs vs : List Int) (w : World) (hv : RL w.heap.size w v xs) (hr : RL w.heap.size w rv rs) (hq : RL w.heap.size w vv vs) :
  Calls Tryz.prog 7 #[.agg #[.int .i64 n, v, .int .i64 c, rv], .int .i64 clock, vv] w fun e w' => e = .returned (.bool true) ∧ Below w.heap.size w w' := by
 obtain ⟨ao, cap, rfl, _, hcx⟩ := hv.open
 obtain ⟨aor, capr, rfl, _, _⟩ := hr.open
 obtain ⟨aov, capv, rfl, hlv, hcv⟩ := hq.open
 have Hcv := Lib.hid hcv
 have Hcx := Lib.hid hcx
 clear hcv hcx
 have hloc := Loc.one w (.cells #[.int .i64 n, .slice ao xs.length cap, .int .i64 c, .slice aor rs.length capr] 35) none
 have hbw := below_grownBy hloc.grown
 have hqz : (w.alloc (.cells #[.int .i64 n, .slice ao xs.length cap, .int .i64 c, .slice aor rs.length capr] 35)).heap[w.heap.size]? = some (.cells #[.int .i64 n, .slice ao xs.length cap, .int .i64 c, .slice aor rs.length capr] 35 (0, 0)) := hloc.objs 0 (by simp)
 have hvz := hv.keepb hbw
 have hrz := hr.keepb hbw
 have hqz2 := hq.keepb hbw
 clear hv hr hq hloc
 go_enter Tryz.func7, Tryz.ntmps7
 go_upto_region 1 with fail
 generalize (w.alloc (.cells #[.int .i64 n, .slice ao xs.length cap, .int .i64 c, .slice aor rs.length capr] 35)) = X1 at *
 have HW := Lib.hid hbw
 have HBz := Lib.hid hqz
 have Hvz := Lib.hid hvz
 have Hrz := Lib.hid hrz
 have Hq := Lib.hid hqz2
 clear hbw hqz hvz hrz hqz2
 have z0 : X1.cell? ⟨w.heap.size, 0, none⟩ = some (.int .i64 n) := cell_of_row _ (w.heap.size) 0 _ _ _ HBz.out
 have z1 : X1.cell? ⟨w.heap.size, 1, none⟩ = some (.slice ao xs.length cap) := cell_of_row _ (w.heap.size) 1 _ _ _ HBz.out
 have z2 : X1.cell? ⟨w.heap.size, 2, none⟩ = some (.int .i64 c) := cell_of_row _ (w.heap.size) 2 _ _ _ HBz.out
 have z3 : X1.cell? ⟨w.heap.size, 3, none⟩ = some (.slice aor rs.length capr) := cell_of_row _ (w.heap.size) 3 _ _ _ HBz.out
 go_wp2_with fail
 refine (law_large23 n c _ _ xs rs _ Hvz.out Hrz.out).mono ?_
 rintro e w1 ⟨bl, rfl, hbl, hb⟩
 clear z0 z1 z2 z3
 replace HBz := Lib.hid (hp_keep4 HBz.out hb)
 replace Hvz := Lib.hid (RL.keepb Hvz.out hb)
 replace Hrz := Lib.hid (RL.keepb Hrz.out hb)
 replace Hq := Lib.hid (RL.keepb Hq.out hb)
 replace HW := Lib.hid (bt HW.out hb)
 clear hb
 cases bl with
 | true =>
  go_wp2_with fail
  refine (law_awake _).mono ?_
  rintro e w9 ⟨rfl, hb⟩
  go_wp2_with fail
  go_ret
  exact ⟨rfl, bt HW.out hb⟩
 | false =>
  have HS := Lib.hid (hbl rfl)
  clear hbl
  have z0 : w1.cell? ⟨w.heap.size, 0, none⟩ = some (.int .i64 n) := cell_of_row _ (w.heap.size) 0 _ _ _ HBz.out
  have z1 : w1.cell? ⟨w.heap.size, 1, none⟩ = some (.slice ao xs.length cap) := cell_of_row _ (w.heap.size) 1 _ _ _ HBz.out
  have z2 : w1.cell? ⟨w.heap.size, 2, none⟩ = some (.int .i64 c) := cell_of_row _ (w.heap.size) 2 _ _ _ HBz.out
  have z3 : w1.cell? ⟨w.heap.size, 3, none⟩ = some (.slice aor rs.length capr) := cell_of_row _ (w.heap.size) 3 _ _ _ HBz.out
  go_wp2_with fail
  refine (law_small n c _ _ xs rs _ Hvz.out Hrz.out).mono ?_
  rintro e w2 ⟨⟨bs, rfl, hbs⟩, hb⟩
  clear z0 z1 z2 z3
  replace HBz := Lib.hid (hp_keep4 HBz.out hb)
  replace Hvz := Lib.hid (RL.keepb Hvz.out hb)
  replace Hrz := Lib.hid (RL.keepb Hrz.out hb)
  replace Hq := Lib.hid (RL.keepb Hq.out hb)
  replace HW := Lib.hid (bt HW.out hb)
  clear hb
  have z0 : w2.cell? ⟨w.heap.size, 0, none⟩ = some (.int .i64 n) := cell_of_row _ (w.heap.size) 0 _ _ _ HBz.out
  have z1 : w2.cell? ⟨w.heap.size, 1, none⟩ = some (.slice ao xs.length cap) := cell_of_row _ (w.heap.size) 1 _ _ _ HBz.out
  have z2 : w2.cell? ⟨w.heap.size, 2, none⟩ = some (.int .i64 c) := cell_of_row _ (w.heap.size) 2 _ _ _ HBz.out
  have z3 : w2.cell? ⟨w.heap.size, 3, none⟩ = some (.slice aor rs.length capr) := cell_of_row _ (w.heap.size) 3 _ _ _ HBz.out
  cases bs with
  | false =>
   go_wp2_with fail
   refine (law_awake _).mono ?_
   rintro e w9 ⟨rfl, hb⟩
   go_wp2_with fail
   go_ret
   exact ⟨rfl, bt HW.out hb⟩
  | true =>
   obtain ⟨N, rfl, hz⟩ := (hbs rfl).smz HS.out.1
   have HZ := Lib.hid hz
   have n1 := hz.n1
   have n3 := hz.n3
   clear hz hbs HS
   by_cases h3 : vs.length = N
   rotate_left
   ·have h3' : ((vs.length : Int) != (N : Int)) = true := by simp; omega
    go_wp2_with fail
    refine (law_awake _).mono ?_
    rintro e w9 ⟨rfl, hb⟩
    go_wp2_with fail
    go_ret
    exact ⟨rfl, bt HW.out hb⟩
   subst h3
   have h3' : ((vs.length : Int) != (vs.length : Int)) = false := by simp
   have hv100 : vs.length ≤ 100 := by omega
   go_upto_region 3 with fail
   clear z0 z1 z2 z3
   clear h3'
   go_wp2_with fail
   go_loopw [7] (fun i wr => ∃ k : Nat, k ≤ vs.length ∧ i = .int .i64 k ∧ (∀ j, j < k → 0 ≤ gi vs j ∧ gi vs j ≤ 60) ∧ wr = w2) (fun i _ => vs.length - (intOf i).toNat)
   case atStart => exact ⟨0, Nat.zero_le _, rfl, fun j hj => by omega, rfl⟩
   case round =>
    obtain ⟨k, hk, rfl, hE, hwr⟩ := hrel
    subst hwr
    have HE := Lib.hid hE
    clear hE
    by_cases hlt : k < vs.length
    ·have htk : decide ((k : Int) < (vs.length : Int)) = true := by simp; omega
     obtain ⟨b, off, rfl, hb, hc⟩ := Hcv.out (by omega)
     obtain ⟨E, hE⟩ : ∃ E, gi vs k = E := ⟨_, rfl⟩
     have x0 : wr.cell? ⟨b, off + k, none⟩ = some (.int .i64 E) := by
      have h := ((bcell HW.out).1 b (off + k) hb).trans (hc k hlt)
      rw [hE] at h
      exact h
     have k0 : (k : Int) < vs.length := by omega
     have k1 : (0 : Int) ≤ (k : Int) := by omega
     clear hc
     by_cases e3 : E < 0
     ·have e3' : decide (E < 0) = true := by simpa using e3
      go_wp2_with fail
      refine (law_awake _).mono ?_
      rintro e w9 ⟨rfl, hb⟩
      go_wp2_with fail
      go_ret
      exact ⟨rfl, bt HW.out hb⟩
     have e3' : decide (E < 0) = false := by simpa using e3
     by_cases e4 : 60 < E
     ·have e4' : decide (60 < E) = true := by simpa using e4
      go_wp2_with fail
      refine (law_awake _).mono ?_
      rintro e w9 ⟨rfl, hb⟩
      go_wp2_with fail
      go_ret
      exact ⟨rfl, bt HW.out hb⟩
     have e4' : decide (60 < E) = false := by simpa using e4
     have HN := Lib.hid (show ∀ j, j < k + 1 → 0 ≤ gi vs j ∧ gi vs j ≤ 60 from fun j hj => by
      by_cases e : j = k
      ·rw [e, hE]; omega
      ·exact HE.out j (by omega))
     go_wp2_with fail
     go_roundw
     case rel => exact ⟨k + 1, by omega, by go_num, HN.out, trivial⟩
     case measure => simp [intOf]; omega
    have htk : decide ((k : Int) < (vs.length : Int)) = false := by simp; omega
    have HV := Lib.hid (show Vs vs.length vs from ⟨rfl, fun j hj => HE.out j (by omega)⟩)
    go_upto_region 8 with fail
    clear HE hk hlt htk
    obtain ⟨w3, hw3⟩ : ∃ V, V = wr := ⟨_, rfl⟩
    subst hw3
    have s0 : w3.cell? ⟨w.heap.size, 0, none⟩ = some (.int .i64 vs.length) := cell_of_row _ (w.heap.size) 0 _ _ _ HBz.out
    have s1 : w3.cell? ⟨w.heap.size, 1, none⟩ = some (.slice ao xs.length cap) := cell_of_row _ (w.heap.size) 1 _ _ _ HBz.out
    have s2 : w3.cell? ⟨w.heap.size, 2, none⟩ = some (.int .i64 c) := cell_of_row _ (w.heap.size) 2 _ _ _ HBz.out
    have s3 : w3.cell? ⟨w.heap.size, 3, none⟩ = some (.slice aor rs.length capr) := cell_of_row _ (w.heap.size) 3 _ _ _ HBz.out
    go_cut [8] (fun s8 wx => (∃ Y : Nat, Y < vs.length ∧ s8 = .int .i64 ((Y : Int) + 1)) ∧ wx = w3)
    case first =>
     go_wp2_with fail
     refine (law_pick clock vs.length _ (by omega) (by omega)).mono ?_
     rintro e w4 ⟨⟨Y, rfl, hY⟩, rfl⟩
     go_wp2_with fail
     go_meet
     exact ⟨⟨Y, by omega, by rw [Int.add_comm]⟩, rfl⟩
    case rest =>
     obtain ⟨⟨Y, hY, rfl⟩, hwc⟩ := hcut
     subst hwc
     obtain ⟨w3, hw3⟩ : ∃ V, V = wc := ⟨_, rfl⟩
     subst hw3
     have hx : xs.length = (vs.length + 1) * (vs.length + 1) := by have := HZ.out.ok.len; rwa [Int.toNat_natCast] at this
     have hlt := idx_lt vs.length (Y + 1) 0 (by omega) (Nat.zero_le _)
     rw [Nat.add_zero] at hlt
     obtain ⟨bx0, ox0, rfl, hbx0, hcx⟩ := Hcx.out (by omega)
     obtain ⟨E, hE⟩ : ∃ E, ent vs.length xs (Y + 1) 0 = E := ⟨_, rfl⟩
     have HE := Lib.hid hE
     have m1 : w3.cell? ⟨bx0, ox0 + (Y + 1) * (vs.length + 1), none⟩ = some (.int .i64 E) := by
      have h := ((bcell HW.out).1 bx0 (ox0 + (Y + 1) * (vs.length + 1)) hbx0).trans (hcx _ (by omega))
      rw [← hE]
      exact h
     have hbd := idx_bd vs.length (Y + 1) (by omega) (by omega)
     have ecast : (((Y + 1) * (vs.length + 1) : Nat) : Int) = ((Y : Int) + 1) * ((vs.length : Int) + 1) := by push_cast; rfl
     have e1 : ((Y + 1 : Nat) : Int) = (Y : Int) + 1 := by push_cast; rfl
     rw [e1] at hbd
     have hL : ((Y : Int) + 1) * ((vs.length : Int) + 1) < xs.length := by rw [← ecast]; omega
     have hn : (((Y : Int) + 1) * ((vs.length : Int) + 1)).toNat = (Y + 1) * (vs.length + 1) := by rw [← ecast]; exact Int.toNat_natCast _
     have hzz : (0 : Int) ≤ ((Y : Int) + 1) * ((vs.length : Int) + 1) := hbd.1
     have hw1 : IntKind.i64.wrap (((Y : Int) + 1) * ((vs.length : Int) + 1)) = ((Y : Int) + 1) * ((vs.length : Int) + 1) := IntWalk.i64_in _ (by omega)
     clear hcx hE ecast e1 hlt hx
     by_cases hf : E = 1099511627776
     ·have hfb : (E == 1099511627776) = true := by simpa using hf
      clear hf
      go_wp2_with fail
      refine (law_awake _).mono ?_
      rintro e w9 ⟨rfl, hb⟩
      go_wp2_with fail
      go_ret
      exact ⟨rfl, bt HW.out hb⟩
     have hfb : (E == 1099511627776) = false := by simpa using hf
     obtain ⟨L, hL0, hT⟩ := clears_plain HZ.out HV.out (x := Y + 1) (by omega) (by omega) (by rw [HE.out]; exact hf)
     rw [show Y + 1 - 1 = Y by omega] at hL0
     obtain ⟨T, hTv⟩ : ∃ T, gi vs Y = T := ⟨_, rfl⟩
     rw [hTv] at hL0
     have HL := Lib.hid (show presetF vs.length xs c rs ((Y : Int) + 1) T = (L, 0) from hL0)
     have HT := Lib.hid (show toldF L (rat1 vs) = clrTo vs.length xs c rs (Y + 1) vs 21 by rw [← hT, rat1_pts (d := 0) rfl (fun k hk => by omega)])
     have HTv := Lib.hid hTv
     clear hL0 hT hTv hf
     go_upto_region 11 with fail
     clear hL hn hzz hw1 hbd hfb m1 HE
     obtain ⟨bv, ov, rfl, hbv, hcv⟩ := Hcv.out (by omega)
     have x0 : w3.cell? ⟨bv, ov + Y, none⟩ = some (.int .i64 T) := by
      have h := ((bcell HW.out).1 bv (ov + Y) hbv).trans (hcv Y hY)
      rw [HTv.out] at h
      exact h
     have y0 : (Y : Int) < vs.length := by omega
     have y1 : (0 : Int) ≤ (Y : Int) := by omega
     clear hcv
     have HS := Lib.hid (fun (X : World) (hX : Below w3.heap.size w3 X) => (⟨keepb s0 hX, keepb s1 hX, keepb s2 hX, keepb s3 hX, keepb x0 hX⟩ : X.cell? ⟨w.heap.size, 0, none⟩ = some (.int .i64 vs.length) ∧ X.cell? ⟨w.heap.size, 1, none⟩ = some (.slice (some ⟨bx0, ox0, none⟩) xs.length cap) ∧ X.cell? ⟨w.heap.size, 2, none⟩ = some (.int .i64 c) ∧ X.cell? ⟨w.heap.size, 3, none⟩ = some (.slice aor rs.length capr) ∧ X.cell? ⟨bv, ov + Y, none⟩ = some (.int .i64 T)))
     have HPre := Lib.hid (fun (X : World) (hX : Below w3.heap.size w3 X) => prog_preset vs.length c ((Y : Int) + 1) T _ _ xs rs X (Hvz.out.keepb hX) (Hrz.out.keepb hX))
     have HwY := Lib.hid (show IntKind.i64.wrap (Y : Int) = (Y : Int) from wr_id (by omega) (by omega))
     refine wp_region_noPanic ?_
     refine wp_region_held_drew (S := (fun w' => w'.cell? ⟨w.heap.size, 0, none⟩ = some (.int .i64 vs.length) ∧ w'.cell? ⟨w.heap.size, 1, none⟩ = some (.slice (some ⟨bx0, ox0, none⟩) xs.length cap) ∧ w'.cell? ⟨w.heap.size, 2, none⟩ = some (.int .i64 c) ∧ w'.cell? ⟨w.heap.size, 3, none⟩ = some (.slice aor rs.length capr) ∧ w'.cell? ⟨bv, ov + Y, none⟩ = some (.int .i64 T))) (by kernel_rfl) ⟨s0, s1, s2, s3, x0⟩ (fun hHeld => ?_)
     refine wpAnyH_take (i := 0) (v := ?_) rfl (by kernel_rfl) (by kernel_rfl) (by kernel_rfl) (fun _ _ _ h => h) (Or.inl ⟨by rfl, ?_⟩) (by assumption) ?_
     rotate_left
     ·intro w hSw; (try dsimp only at hSw); go_simp; (try with_reducible rfl)
     try simp only [Act.put, List.getElem_toArray, List.getElem_cons_zero, List.setIfInBounds_toArray, List.set_cons_zero, List.set_cons_succ]
     refine wpAnyH_take (i := 1) (v := ?_) rfl (by kernel_rfl) (by kernel_rfl) (by kernel_rfl) (fun _ _ _ h => h) (Or.inl ⟨by rfl, ?_⟩) (by assumption) ?_
     rotate_left
     ·intro w hSw; (try dsimp only at hSw); go_simp; (try with_reducible rfl)
     try simp only [Act.put, List.getElem_toArray, List.getElem_cons_zero, List.getElem_cons_succ, List.setIfInBounds_toArray, List.set_cons_zero, List.set_cons_succ]
     refine wpAnyH_take (i := 2) (v := ?_) rfl (by kernel_rfl) (by kernel_rfl) (by kernel_rfl) (fun _ _ _ h => h) (Or.inl ⟨by rfl, ?_⟩) (by assumption) ?_
     rotate_left
     ·intro w hSw; (try dsimp only at hSw); go_simp; (try with_reducible rfl)
     try simp only [Act.put, List.getElem_toArray, List.getElem_cons_zero, List.getElem_cons_succ, List.setIfInBounds_toArray, List.set_cons_zero, List.set_cons_succ]
     refine wpAnyH_take (i := 3) (v := ?_) rfl (by kernel_rfl) (by kernel_rfl) (by kernel_rfl) (fun _ _ _ h => h) (Or.inl ⟨by rfl, ?_⟩) (by assumption) ?_
     rotate_left
     ·intro w hSw; (try dsimp only at hSw); go_simp; (try with_reducible rfl)
     try simp only [Act.put, List.getElem_toArray, List.getElem_cons_zero, List.getElem_cons_succ, List.setIfInBounds_toArray, List.set_cons_zero, List.set_cons_succ]
     refine wpAnyH_take (i := 4) (v := ?_) rfl (by kernel_rfl) (by kernel_rfl) (by kernel_rfl) (fun _ _ _ h => h) (Or.inl ⟨by rfl, ?_⟩) (by assumption) ?_
     rotate_left
     ·intro w hSw; (try dsimp only at hSw); go_simp; (try with_reducible rfl)
     try simp only [Act.put, List.getElem_toArray, List.getElem_cons_zero, List.getElem_cons_succ, List.setIfInBounds_toArray, List.set_cons_zero, List.set_cons_succ]
     simp only [HwY.out]
     refine wpAnyH_take (i := 5) (v := ?_) rfl (by kernel_rfl) (by kernel_rfl) (by kernel_rfl) (fun _ _ _ h => h) (Or.inl ⟨by rfl, ?_⟩) (by assumption) ?_
     rotate_left
     ·intro w hSw; (try dsimp only at hSw); go_simp; (try with_reducible rfl)
     try simp only [Act.put, List.getElem_toArray, List.getElem_cons_zero, List.getElem_cons_succ, List.setIfInBounds_toArray, List.set_cons_zero, List.set_cons_succ]
     refine wpAnyH_take (i := 6) (v := ?_) rfl (by kernel_rfl) (by kernel_rfl) (by kernel_rfl) (fun _ _ _ h => h) (Or.inl ⟨by rfl, ?_⟩) (by assumption) ?_
     rotate_left
     ·intro w hSw; (try dsimp only at hSw); go_simp; (try with_reducible rfl)
     try simp only [Act.put, List.getElem_toArray, List.getElem_cons_zero, List.getElem_cons_succ, List.setIfInBounds_toArray, List.set_cons_zero, List.set_cons_succ]
     refine wpAnyH_take (i := 7) (v := ?_) rfl (by kernel_rfl) (by kernel_rfl) (by kernel_rfl) (fun _ _ _ h => h) (Or.inl ⟨by rfl, ?_⟩) (by assumption) ?_
     rotate_left
     ·intro w hSw; (try dsimp only at hSw); go_simp; (try with_reducible rfl)
     try simp only [Act.put, List.getElem_toArray, List.getElem_cons_zero, List.getElem_cons_succ, List.setIfInBounds_toArray, List.set_cons_zero, List.set_cons_succ]
     have H0 := Lib.hid (show Below w3.heap.size w3 w3.drew from (Below.refl _ _).drew)
     clear hHeld s0 s1 s2 s3 x0
     generalize w3.drew = L0 at *
     refine wpAnyH_ready (rs := [8]) (by kernel_rfl) (by simp) ?_
     refine AllReadyH.cons rfl (fun K hK => ?_) AllReadyH.nil
     go_simp
     refine (HPre.out L0 H0.out).mono ?_
     rintro e w4 ⟨h, hb⟩
     obtain ⟨va, he, hg⟩ := GaP.gr h
     rw [HL.out] at he hg
     obtain rfl : e = .returned (.tuple #[va, .int .i64 0]) := he
     have hbel := bt H0.out hb
     refine hK.out _ _ (HS.out w4 hbel) (fun hHeld2 => ?_)
     clear hK K h hb
     try simp only [Act.put, List.getElem_toArray, List.getElem_cons_zero, List.getElem_cons_succ, List.setIfInBounds_toArray, List.set_cons_zero, List.set_cons_succ]
     refine wpAnyH_take (i := 9) (v := ?_) rfl (by kernel_rfl) (by kernel_rfl) (by kernel_rfl) (fun _ _ _ h => h) (Or.inl ⟨by rfl, ?_⟩) (by assumption) ?_
     rotate_left
     ·intro w hSw; (try dsimp only at hSw); go_simp; (try with_reducible rfl)
     try simp only [Act.put, List.getElem_toArray, List.getElem_cons_zero, List.getElem_cons_succ, List.setIfInBounds_toArray, List.set_cons_zero, List.set_cons_succ]
     refine wpAnyH_take (i := 10) (v := ?_) rfl (by kernel_rfl) (by kernel_rfl) (by kernel_rfl) (fun _ _ _ h => h) (Or.inl ⟨by rfl, ?_⟩) (by assumption) ?_
     rotate_left
     ·intro w hSw; (try dsimp only at hSw); go_simp; (try with_reducible rfl)
     try simp only [Act.put, List.getElem_toArray, List.getElem_cons_zero, List.getElem_cons_succ, List.setIfInBounds_toArray, List.set_cons_zero, List.set_cons_succ]
     refine wpAnyH_take (i := 11) (v := ?_) rfl (by kernel_rfl) (by kernel_rfl) (by kernel_rfl) (fun _ _ _ h => h) (Or.inl ⟨by rfl, ?_⟩) (by assumption) ?_
     rotate_left
     ·intro w hSw; (try dsimp only at hSw); go_simp; (try with_reducible rfl)
     try simp only [Act.put, List.getElem_toArray, List.getElem_cons_zero, List.getElem_cons_succ, List.setIfInBounds_toArray, List.set_cons_zero, List.set_cons_succ]
     refine wpAnyH_take (i := 12) (v := ?_) rfl (by kernel_rfl) (by kernel_rfl) (by kernel_rfl) (fun _ _ _ h => h) (Or.inl ⟨by rfl, ?_⟩) (by assumption) ?_
     rotate_left
     ·intro w hSw; (try dsimp only at hSw); go_simp; (try with_reducible rfl)
     try simp only [Act.put, List.getElem_toArray, List.getElem_cons_zero, List.getElem_cons_succ, List.setIfInBounds_toArray, List.set_cons_zero, List.set_cons_succ]
     refine wpAnyH_take (i := 13) (v := ?_) rfl (by kernel_rfl) (by kernel_rfl) (by kernel_rfl) (fun _ _ _ h => h) (Or.inl ⟨by rfl, ?_⟩) (by assumption) ?_
     rotate_left
     ·intro w hSw; (try dsimp only at hSw); go_simp; (try with_reducible rfl)
     try simp only [Act.put, List.getElem_toArray, List.getElem_cons_zero, List.getElem_cons_succ, List.setIfInBounds_toArray, List.set_cons_zero, List.set_cons_succ]
     refine wpAnyH_done (by kernel_rfl) ?_ _
     refine NoPanic.normal ?_
     have HG := Lib.hid (show GR L va w4 from hg)
     have hb := hbel
     clear HS HPre H0 hHeld2 hg HL hbel
     replace HBz := Lib.hid (hp_keep4 HBz.out hb)
     replace Hvz := Lib.hid (RL.keepb Hvz.out hb)
     replace Hrz := Lib.hid (RL.keepb Hrz.out hb)
     replace Hq := Lib.hid (RL.keepb Hq.out hb)
     replace HW := Lib.hid (bt HW.out hb)
     clear hb
     have HWF := Lib.hid (Below.refl w4.heap.size w4)
     go_wp2_with fail
     go_loopw [11, 12, 13] (fun s10 s11 s12 wr => ∃ (d : Nat) (a : Int) (b : Bool), d ≤ 21 ∧ s10 = .int .i64 a ∧ s11 = .bool b ∧ s12 = .int .i64 d ∧ clrTo vs.length xs c rs (Y + 1) vs d = (a, b) ∧ Below w4.heap.size w4 wr) (fun _ _ s12 _ => 21 - (intOf s12).toNat)
     case atStart => exact ⟨0, 0, false, by omega, rfl, rfl, rfl, rfl, Below.refl _ _⟩
     case round =>
      obtain ⟨d, a, fd, hd, rfl, rfl, rfl, hacc, hwr⟩ := hrel
      have HA := Lib.hid hacc
      clear hacc
      obtain ⟨wa, hwa⟩ : ∃ V, V = wr := ⟨_, rfl⟩
      subst hwa
      have hb := hwr
      replace HBz := Lib.hid (hp_keep4 HBz.out hb)
      replace Hvz := Lib.hid (RL.keepb Hvz.out hb)
      replace Hrz := Lib.hid (RL.keepb Hrz.out hb)
      replace Hq := Lib.hid (RL.keepb Hq.out hb)
      replace HG := Lib.hid (GR.keepb HG.out hb)
      replace HWF := Lib.hid (bt HWF.out hb)
      replace HW := Lib.hid (bt HW.out hb)
      clear hb
      clear hwr
      by_cases hlt : d ≤ 20
      rotate_left
      ·have htk : decide ((d : Int) ≤ 20) = false := by simp; omega
       obtain rfl : d = 21 := by omega
       have HT2 := Lib.hid (show toldF L (rat1 vs) = (a, fd) by rw [HT.out]; exact HA.out)
       go_wp2_with fail
       refine (law_told va _ L vs _ HG.out Hq.out hv100 (fun k hk => by have := HV.out.2 k (by omega); omega)).mono ?_
       rintro e w6 ⟨he, hb⟩
       rw [HT2.out] at he
       obtain rfl : e = .returned (.tuple #[.int .i64 a, .bool fd]) := he
       have haa : (a == a) = true := by simp
       have hff : (fd == fd) = true := by simp
       replace HBz := Lib.hid (hp_keep4 HBz.out hb)
       replace Hvz := Lib.hid (RL.keepb Hvz.out hb)
       replace Hrz := Lib.hid (RL.keepb Hrz.out hb)
       replace Hq := Lib.hid (RL.keepb Hq.out hb)
       replace HG := Lib.hid (GR.keepb HG.out hb)
       replace HWF := Lib.hid (bt HWF.out hb)
       replace HW := Lib.hid (bt HW.out hb)
       clear hb
       go_wp2_with fail
       refine (law_awake _).mono ?_
       rintro e w7 ⟨rfl, hb⟩
       go_wp2_with fail
       go_ret
       exact ⟨rfl, bt HW.out hb⟩
      have htk : decide ((d : Int) ≤ 20) = true := by simp; omega
      have hcp := ((Below.refl _ wa).alloc (Nat.le_refl _) (.cells #[] 2))
      have HQa := Lib.hid (Hq.out.keepb hcp)
      clear hcp
      go_upto_region 18 with fail
      go_upto_region 19 with (at_builtin; (refine wpList_append_copy rfl (.tmp 93) (.tmp 94) 33 rfl 2 Tryz.undL64 Tryz.infL64 wa.heap.size rfl ?_ _ rfl vs ?_ (by omega) ?_; (exact heap_alloc_new wa _); (exact HQa.out); intro ao4 c4 w5 ho4 hg4))
      have hb := below_copy hg4
      clear hg4 HQa
      have hs5 : wa.heap.size ≤ w5.heap.size := hb.size
      obtain ⟨g4, rfl, hge, hg4l, hcc⟩ := ho4.openk (by omega)
      obtain ⟨x0, f0⟩ := hcc Y hY
      have hsd := OL.stored ho4 rfl Y d
      have Hs1 := Lib.hid hsd.1
      have Hs2 := Lib.hid (hb.grown hsd.2 hb.size (fun g e => by cases e; exact hge))
      clear hsd hcc hb ho4
      go_upto_region 20 with fail
      have hown := Hs1.out
      have hb := Hs2.out
      clear Hs1 Hs2 x0 f0 hg4l hge hs5
      generalize hgen : w5.setCell ⟨g4, Y, none⟩ (.int .i64 d) = wb at *
      clear hgen
      obtain ⟨us, hus⟩ : ∃ us, us = vs.set Y d := ⟨_, rfl⟩
      rw [← hus] at hown
      have HUl := Lib.hid (show us.length = vs.length by rw [hus, List.length_set])
      have HP := Lib.hid (show rat1 us = ipts (sv (pv vs 0) (Y + 1) d) vs.length by rw [hus]; exact rat1_set hY d)
      have HUb := Lib.hid (show ∀ k, k < us.length → -1000000 ≤ gi us k ∧ gi us k ≤ 1000000 from fun k hk => by
       rw [HUl.out] at hk
       by_cases e : k = Y
       ·subst e; rw [hus, gi_set_same hk]; omega
       ·rw [hus, gi_set_ne (fun c => e c.symm)]; have := HV.out.2 k hk; omega)
      have HU1 := Lib.hid (show us.length ≤ 100 by rw [HUl.out]; exact hv100)
      have hrl := OL.rl hown
      have Hus := Lib.hid hrl
      clear hown hus hrl
      replace HBz := Lib.hid (hp_keep4 HBz.out hb)
      replace Hvz := Lib.hid (RL.keepb Hvz.out hb)
      replace Hrz := Lib.hid (RL.keepb Hrz.out hb)
      replace Hq := Lib.hid (RL.keepb Hq.out hb)
      replace HG := Lib.hid (GR.keepb HG.out hb)
      replace HWF := Lib.hid (bt HWF.out hb)
      replace HW := Lib.hid (bt HW.out hb)
      clear hb
      obtain ⟨hh, hxe, hH⟩ : ∃ a b, hasF vs.length xs (rat1 us) = (a, b) := ⟨_, _, rfl⟩
      obtain ⟨an, ad, ae, hA⟩ : ∃ p q r, patF vs.length xs c rs (rat1 us) = ((p, q), r) := ⟨_, _, _, rfl⟩
      have HN := Lib.hid (show clrTo vs.length xs c rs (Y + 1) vs (d + 1) = if hh = true ∧ ae = 0 then (if fd = false ∨ an < a then (an, true) else (a, fd)) else (a, fd) by
       show clrS vs.length xs c rs (Y + 1) vs (clrTo vs.length xs c rs (Y + 1) vs d) d = _
       unfold clrS
       rw [HA.out, ← HP.out, hH, hA])
      have HRat := Lib.hid (fun (X : World) (hX : Below wb.heap.size wb X) => law_ratios _ us X (Hus.out.keepb hX) HU1.out HUb.out)
      have HHas := Lib.hid (fun (X : World) (qv : Value) (hX : Below wb.heap.size wb X) (hq : RQ X.heap.size X qv (rat1 us)) => ref_has vs.length _ qv xs (rat1 us) X (Hvz.out.keepb hX) hq)
      rw [hH] at HHas
      clear hH
      have z0 : wb.cell? ⟨w.heap.size, 0, none⟩ = some (.int .i64 vs.length) := cell_of_row _ (w.heap.size) 0 _ _ _ HBz.out
      have z1 : wb.cell? ⟨w.heap.size, 1, none⟩ = some (.slice (some ⟨bx0, ox0, none⟩) xs.length cap) := cell_of_row _ (w.heap.size) 1 _ _ _ HBz.out
      have z2 : wb.cell? ⟨w.heap.size, 2, none⟩ = some (.int .i64 c) := cell_of_row _ (w.heap.size) 2 _ _ _ HBz.out
      have z3 : wb.cell? ⟨w.heap.size, 3, none⟩ = some (.slice aor rs.length capr) := cell_of_row _ (w.heap.size) 3 _ _ _ HBz.out
      clear z2 z3
      have HS := Lib.hid (fun (X : World) (hX : Below wb.heap.size wb X) => (⟨keepb z0 hX, keepb z1 hX⟩ : X.cell? ⟨w.heap.size, 0, none⟩ = some (.int .i64 vs.length) ∧ X.cell? ⟨w.heap.size, 1, none⟩ = some (.slice (some ⟨bx0, ox0, none⟩) xs.length cap)))
      refine wp_region_noPanic ?_
      refine wp_region_held_drew (S := (fun w' => w'.cell? ⟨w.heap.size, 0, none⟩ = some (.int .i64 vs.length) ∧ w'.cell? ⟨w.heap.size, 1, none⟩ = some (.slice (some ⟨bx0, ox0, none⟩) xs.length cap))) (by kernel_rfl) ⟨z0, z1⟩ (fun hHeld => ?_)
      refine wpAnyH_take (i := 0) (v := ?_) rfl (by kernel_rfl) (by kernel_rfl) (by kernel_rfl) (fun _ _ _ h => h) (Or.inl ⟨by rfl, ?_⟩) (by assumption) ?_
      rotate_left
      ·intro w hSw; (try dsimp only at hSw); go_simp; (try with_reducible rfl)
      try simp only [Act.put, List.getElem_toArray, List.getElem_cons_zero, List.setIfInBounds_toArray, List.set_cons_zero, List.set_cons_succ]
      refine wpAnyH_take (i := 1) (v := ?_) rfl (by kernel_rfl) (by kernel_rfl) (by kernel_rfl) (fun _ _ _ h => h) (Or.inl ⟨by rfl, ?_⟩) (by assumption) ?_
      rotate_left
      ·intro w hSw; (try dsimp only at hSw); go_simp; (try with_reducible rfl)
      try simp only [Act.put, List.getElem_toArray, List.getElem_cons_zero, List.getElem_cons_succ, List.setIfInBounds_toArray, List.set_cons_zero, List.set_cons_succ]
      refine wpAnyH_take (i := 2) (v := ?_) rfl (by kernel_rfl) (by kernel_rfl) (by kernel_rfl) (fun _ _ _ h => h) (Or.inl ⟨by rfl, ?_⟩) (by assumption) ?_
      rotate_left
      ·intro w hSw; (try dsimp only at hSw); go_simp; (try with_reducible rfl)
      try simp only [Act.put, List.getElem_toArray, List.getElem_cons_zero, List.getElem_cons_succ, List.setIfInBounds_toArray, List.set_cons_zero, List.set_cons_succ]
      have H0 := Lib.hid (show Below wb.heap.size wb wb.drew from (Below.refl _ _).drew)
      clear hHeld
      generalize wb.drew = L0 at *
      refine wpAnyH_ready (rs := [3]) (by kernel_rfl) (by simp) ?_
      refine AllReadyH.cons rfl (fun K hK => ?_) AllReadyH.nil
      go_simp
      refine (HRat.out L0 H0.out).mono ?_
      rintro e L1 ⟨⟨qv, rfl, hq⟩, hb⟩
      have H1 := Lib.hid (bt H0.out hb)
      have Hq := Lib.hid (OQ.rq hq)
      refine hK.out _ _ (HS.out L1 H1.out) (fun hHeld2 => ?_)
      clear hK K hb hq
      try simp only [Act.put, List.getElem_toArray, List.getElem_cons_zero, List.getElem_cons_succ, List.setIfInBounds_toArray, List.set_cons_zero, List.set_cons_succ]
      refine wpAnyH_ready (rs := [4]) (by kernel_rfl) (by simp) ?_
      refine AllReadyH.cons rfl (fun K hK => ?_) AllReadyH.nil
      go_simp
      refine (HHas.out L1 _ H1.out Hq.out).mono ?_
      rintro e L2 ⟨he, hb⟩
      obtain rfl := he
      have hbel := bt H1.out hb
      refine hK.out _ _ (HS.out L2 hbel) (fun hHeld3 => ?_)
      clear hK K hb Hq
      try simp only [Act.put, List.getElem_toArray, List.getElem_cons_zero, List.getElem_cons_succ, List.setIfInBounds_toArray, List.set_cons_zero, List.set_cons_succ]
      refine wpAnyH_take (i := 5) (v := ?_) rfl (by kernel_rfl) (by kernel_rfl) (by kernel_rfl) (fun _ _ _ h => h) (Or.inl ⟨by rfl, ?_⟩) (by assumption) ?_
      rotate_left
      ·intro w hSw; (try dsimp only at hSw); go_simp; (try with_reducible rfl)
      try simp only [Act.put, List.getElem_toArray, List.getElem_cons_zero, List.getElem_cons_succ, List.setIfInBounds_toArray, List.set_cons_zero, List.set_cons_succ]
      refine wpAnyH_take (i := 6) (v := ?_) rfl (by kernel_rfl) (by kernel_rfl) (by kernel_rfl) (fun _ _ _ h => h) (Or.inl ⟨by rfl, ?_⟩) (by assumption) ?_
      rotate_left
      ·intro w hSw; (try dsimp only at hSw); go_simp; (try with_reducible rfl)
      try simp only [Act.put, List.getElem_toArray, List.getElem_cons_zero, List.getElem_cons_succ, List.setIfInBounds_toArray, List.set_cons_zero, List.set_cons_succ]
      refine wpAnyH_take (i := 7) (v := ?_) rfl (by kernel_rfl) (by kernel_rfl) (by kernel_rfl) (fun _ _ _ h => h) (Or.inl ⟨by rfl, ?_⟩) (by assumption) ?_
      rotate_left
      ·intro w hSw; (try dsimp only at hSw); go_simp; (try with_reducible rfl)
      try simp only [Act.put, List.getElem_toArray, List.getElem_cons_zero, List.getElem_cons_succ, List.setIfInBounds_toArray, List.set_cons_zero, List.set_cons_succ]
      refine wpAnyH_take (i := 8) (v := ?_) rfl (by kernel_rfl) (by kernel_rfl) (by kernel_rfl) (fun _ _ _ h => h) (Or.inl ⟨by rfl, ?_⟩) (by assumption) ?_
      rotate_left
      ·intro w hSw; (try dsimp only at hSw); go_simp; (try with_reducible rfl)
      try simp only [Act.put, List.getElem_toArray, List.getElem_cons_zero, List.getElem_cons_succ, List.setIfInBounds_toArray, List.set_cons_zero, List.set_cons_succ]
      refine wpAnyH_take (i := 9) (v := ?_) rfl (by kernel_rfl) (by kernel_rfl) (by kernel_rfl) (fun _ _ _ h => h) (Or.inl ⟨by rfl, ?_⟩) (by assumption) ?_
      rotate_left
      ·intro w hSw; (try dsimp only at hSw); go_simp; (try with_reducible rfl)
      try simp only [Act.put, List.getElem_toArray, List.getElem_cons_zero, List.getElem_cons_succ, List.setIfInBounds_toArray, List.set_cons_zero, List.set_cons_succ]
      refine wpAnyH_done (by kernel_rfl) ?_ _
      refine NoPanic.normal ?_
      clear HS HRat HHas H0 H1
      clear hHeld2 hHeld3 z0 z1
      have Hus2 := Lib.hid (Hus.out.keepb hbel)
      have hb := hbel
      clear Hus hbel
      replace HBz := Lib.hid (hp_keep4 HBz.out hb)
      replace Hvz := Lib.hid (RL.keepb Hvz.out hb)
      replace Hrz := Lib.hid (RL.keepb Hrz.out hb)
      replace Hq := Lib.hid (RL.keepb Hq.out hb)
      replace HG := Lib.hid (GR.keepb HG.out hb)
      replace HWF := Lib.hid (bt HWF.out hb)
      replace HW := Lib.hid (bt HW.out hb)
      clear hb
      have HRat := Lib.hid (fun (X : World) (hX : Below L2.heap.size L2 X) => law_ratios _ us X (Hus2.out.keepb hX) HU1.out HUb.out)
      have HAt := Lib.hid (fun (X : World) (qv : Value) (hX : Below L2.heap.size L2 X) (hq : RQ X.heap.size X qv (rat1 us)) => ref_pat vs.length c _ _ qv xs rs (rat1 us) X (Hvz.out.keepb hX) (Hrz.out.keepb hX) hq)
      rw [hA] at HAt
      clear hA
      have z0 : L2.cell? ⟨w.heap.size, 0, none⟩ = some (.int .i64 vs.length) := cell_of_row _ (w.heap.size) 0 _ _ _ HBz.out
      have z1 : L2.cell? ⟨w.heap.size, 1, none⟩ = some (.slice (some ⟨bx0, ox0, none⟩) xs.length cap) := cell_of_row _ (w.heap.size) 1 _ _ _ HBz.out
      have z2 : L2.cell? ⟨w.heap.size, 2, none⟩ = some (.int .i64 c) := cell_of_row _ (w.heap.size) 2 _ _ _ HBz.out
      have z3 : L2.cell? ⟨w.heap.size, 3, none⟩ = some (.slice aor rs.length capr) := cell_of_row _ (w.heap.size) 3 _ _ _ HBz.out
      go_upto_region 21 with fail
      have HS := Lib.hid (fun (X : World) (hX : Below L2.heap.size L2 X) => (⟨keepb z0 hX, keepb z1 hX, keepb z2 hX, keepb z3 hX⟩ : X.cell? ⟨w.heap.size, 0, none⟩ = some (.int .i64 vs.length) ∧ X.cell? ⟨w.heap.size, 1, none⟩ = some (.slice (some ⟨bx0, ox0, none⟩) xs.length cap) ∧ X.cell? ⟨w.heap.size, 2, none⟩ = some (.int .i64 c) ∧ X.cell? ⟨w.heap.size, 3, none⟩ = some (.slice aor rs.length capr)))
      go_cut [17, 18] (fun s6 s7 wx => s7 = .int .i64 ae ∧ ∃ bx, s6 = .pointer (some ⟨bx, 0, none⟩) ∧ wx.heap[bx]? = some (.cells #[.int .i64 an, .int .i64 ad] 56 (0, 0)) ∧ L2.heap.size ≤ bx ∧ Below L2.heap.size L2 wx)
      case first =>
       refine wp_region_noPanic ?_
       refine wp_region_held_drew (S := (fun w' => w'.cell? ⟨w.heap.size, 0, none⟩ = some (.int .i64 vs.length) ∧ w'.cell? ⟨w.heap.size, 1, none⟩ = some (.slice (some ⟨bx0, ox0, none⟩) xs.length cap) ∧ w'.cell? ⟨w.heap.size, 2, none⟩ = some (.int .i64 c) ∧ w'.cell? ⟨w.heap.size, 3, none⟩ = some (.slice aor rs.length capr))) (by kernel_rfl) ⟨z0, z1, z2, z3⟩ (fun hHeld => ?_)
       refine wpAnyH_take (i := 0) (v := ?_) rfl (by kernel_rfl) (by kernel_rfl) (by kernel_rfl) (fun _ _ _ h => h) (Or.inl ⟨by rfl, ?_⟩) (by assumption) ?_
       rotate_left
       ·intro w hSw; (try dsimp only at hSw); go_simp; (try with_reducible rfl)
       try simp only [Act.put, List.getElem_toArray, List.getElem_cons_zero, List.setIfInBounds_toArray, List.set_cons_zero, List.set_cons_succ]
       refine wpAnyH_take (i := 1) (v := ?_) rfl (by kernel_rfl) (by kernel_rfl) (by kernel_rfl) (fun _ _ _ h => h) (Or.inl ⟨by rfl, ?_⟩) (by assumption) ?_
       rotate_left
       ·intro w hSw; (try dsimp only at hSw); go_simp; (try with_reducible rfl)
       try simp only [Act.put, List.getElem_toArray, List.getElem_cons_zero, List.getElem_cons_succ, List.setIfInBounds_toArray, List.set_cons_zero, List.set_cons_succ]
       have H0 := Lib.hid (show Below L2.heap.size L2 L2.drew from (Below.refl _ _).drew)
       clear hHeld
       generalize L2.drew = L0 at *
       refine wpAnyH_ready (rs := [2, 7]) (by kernel_rfl) (by simp) ?_
       refine AllReadyH.cons rfl (fun K hK => ?_) (AllReadyH.cons rfl (fun K hK => ?_) (AllReadyH.nil))
       ·skip
        go_simp
        refine (HRat.out L0 H0.out).mono ?_
        rintro e L1 ⟨⟨qv, rfl, hq⟩, hb⟩
        have H1 := Lib.hid (bt H0.out hb)
        have Hq := Lib.hid (OQ.rq hq)
        refine hK.out _ _ (HS.out L1 H1.out) (fun hHeld2 => ?_)
        clear hK K hb hq
        try simp only [Act.put, List.getElem_toArray, List.getElem_cons_zero, List.getElem_cons_succ, List.setIfInBounds_toArray, List.set_cons_zero, List.set_cons_succ]
        refine wpAnyH_ready (rs := [3, 7]) (by kernel_rfl) (by simp) ?_
        refine AllReadyH.cons rfl (fun K hK => ?_) (AllReadyH.cons rfl (fun K hK => ?_) (AllReadyH.nil))
        ·skip
         go_simp
         refine (HAt.out L1 _ H1.out Hq.out).mono ?_
         rintro e L2 ⟨he, hb⟩
         obtain rfl := he
         have H2 := Lib.hid (bt H1.out hb)
         refine hK.out _ _ (HS.out L2 H2.out) (fun hHeld2 => ?_)
         clear hK K hb Hq
         try simp only [Act.put, List.getElem_toArray, List.getElem_cons_zero, List.getElem_cons_succ, List.setIfInBounds_toArray, List.set_cons_zero, List.set_cons_succ]
         refine wpAnyH_take (i := 4) (v := ?_) rfl (by kernel_rfl) (by kernel_rfl) (by kernel_rfl) (fun _ _ _ h => h) (Or.inl ⟨by rfl, ?_⟩) (by assumption) ?_
         rotate_left
         ·intro w hSw; (try dsimp only at hSw); go_simp; (try with_reducible rfl)
         try simp only [Act.put, List.getElem_toArray, List.getElem_cons_zero, List.getElem_cons_succ, List.setIfInBounds_toArray, List.set_cons_zero, List.set_cons_succ]
         refine wpAnyH_take (i := 5) (v := ?_) rfl (by kernel_rfl) (by kernel_rfl) (by kernel_rfl) (fun _ _ _ h => h) (Or.inl ⟨by rfl, ?_⟩) (by assumption) ?_
         rotate_left
         ·intro w hSw; (try dsimp only at hSw); go_simp; (try with_reducible rfl)
         try simp only [Act.put, List.getElem_toArray, List.getElem_cons_zero, List.getElem_cons_succ, List.setIfInBounds_toArray, List.set_cons_zero, List.set_cons_succ]
         refine wpAnyH_take (i := 6) (v := ?_) rfl (by kernel_rfl) (by kernel_rfl) (by kernel_rfl) (fun _ _ _ h => h) (Or.inl ⟨by rfl, ?_⟩) (by assumption) ?_
         rotate_left
         ·intro w hSw; (try dsimp only at hSw); go_simp; (try with_reducible rfl)
         try simp only [Act.put, List.getElem_toArray, List.getElem_cons_zero, List.getElem_cons_succ, List.setIfInBounds_toArray, List.set_cons_zero, List.set_cons_succ]
         refine wpAnyH_ready (rs := [7]) (by kernel_rfl) (by simp) ?_
         refine AllReadyH.cons rfl (fun K hK => ?_) (AllReadyH.nil)
         ·skip
          go_simp
          have H3' := bal H2.out (.cells #[.int .i64 0, .int .i64 0] 56)
          have Hbx' := heap_alloc_new L2 (.cells #[.int .i64 0, .int .i64 0] 56)
          have Hge' := H2.out.size
          refine hK.out _ _ (HS.out _ H3') (fun hHeld2 => ?_)
          clear hK K
          generalize hgen : World.alloc L2 _ = L3 at *
          clear hgen
          generalize L2.heap.size = bx at *
          have H3 := Lib.hid H3'
          have Hbx := Lib.hid Hbx'
          have Hge := Lib.hid Hge'
          clear H3' Hbx' Hge'
          try simp only [Act.put, List.getElem_toArray, List.getElem_cons_zero, List.getElem_cons_succ, List.setIfInBounds_toArray, List.set_cons_zero, List.set_cons_succ]
          refine wpAnyH_ready (rs := [8]) (by kernel_rfl) (by simp) ?_
          refine AllReadyH.cons rfl (fun K hK => ?_) (AllReadyH.nil)
          ·skip
           have t0 := cell_of_row _ bx 0 _ _ _ Hbx.out
           have t1 := cell_of_row _ bx 1 _ _ _ Hbx.out
           have f0 := frozen_of_row _ bx 0 _ _ Hbx.out
           have f1 := frozen_of_row _ bx 1 _ _ Hbx.out
           have HF1 := Lib.hid (heap_setCell_same _ bx 1 _ _ (.int .i64 ad) (heap_setCell_same _ bx 0 _ _ (.int .i64 an) Hbx.out))
           have HF3 := Lib.hid ((H3.out.setCell (p := ⟨bx, 0, none⟩) Hge.out (.int .i64 an)).setCell (p := ⟨bx, 1, none⟩) Hge.out (.int .i64 ad))
           go_simp
           refine hK.out _ _ (HS.out _ HF3.out) (fun hHeld2 => ?_)
           clear hK K t0 t1 f0 f1
           try simp only [Act.put, List.getElem_toArray, List.getElem_cons_zero, List.getElem_cons_succ, List.setIfInBounds_toArray, List.set_cons_zero, List.set_cons_succ]
           refine wpAnyH_take (i := 9) (v := ?_) rfl (by kernel_rfl) (by kernel_rfl) (by kernel_rfl) (fun _ _ _ h => h) (Or.inl ⟨by rfl, ?_⟩) (by assumption) ?_
           rotate_left
           ·intro w hSw; (try dsimp only at hSw); go_simp; (try with_reducible rfl)
           try simp only [Act.put, List.getElem_toArray, List.getElem_cons_zero, List.getElem_cons_succ, List.setIfInBounds_toArray, List.set_cons_zero, List.set_cons_succ]
           refine wpAnyH_done (by kernel_rfl) ?_ _
           refine NoPanic.normal ?_
           go_wp2_with fail
           go_meet
           exact ⟨rfl, bx, rfl, HF1.out, Hge.out, HF3.out⟩
        ·skip
         go_simp
         have H2' := bal H1.out (.cells #[.int .i64 0, .int .i64 0] 56)
         have Hbx' := heap_alloc_new L1 (.cells #[.int .i64 0, .int .i64 0] 56)
         have Hge' := H1.out.size
         have Hq' := RQ.keepb Hq.out ((Below.refl L1.heap.size L1).alloc (Nat.le_refl _) (.cells #[.int .i64 0, .int .i64 0] 56))
         refine hK.out _ _ (HS.out _ H2') (fun hHeld2 => ?_)
         clear hK K
         generalize hgen : World.alloc L1 _ = L2 at *
         clear hgen
         generalize L1.heap.size = bx at *
         have H2 := Lib.hid H2'
         have Hbx := Lib.hid Hbx'
         have Hge := Lib.hid Hge'
         clear Hq
         have Hq := Lib.hid Hq'
         clear Hq'
         clear H2' Hbx' Hge'
         try simp only [Act.put, List.getElem_toArray, List.getElem_cons_zero, List.getElem_cons_succ, List.setIfInBounds_toArray, List.set_cons_zero, List.set_cons_succ]
         refine wpAnyH_ready (rs := [3]) (by kernel_rfl) (by simp) ?_
         refine AllReadyH.cons rfl (fun K hK => ?_) (AllReadyH.nil)
         ·skip
          go_simp
          refine (HAt.out L2 _ H2.out Hq.out).mono ?_
          rintro e L3 ⟨he, hb⟩
          obtain rfl := he
          have H3 := Lib.hid (bt H2.out hb)
          replace Hbx := Lib.hid (hp_keep4 Hbx.out hb)
          refine hK.out _ _ (HS.out L3 H3.out) (fun hHeld2 => ?_)
          clear hK K hb Hq
          try simp only [Act.put, List.getElem_toArray, List.getElem_cons_zero, List.getElem_cons_succ, List.setIfInBounds_toArray, List.set_cons_zero, List.set_cons_succ]
          refine wpAnyH_take (i := 4) (v := ?_) rfl (by kernel_rfl) (by kernel_rfl) (by kernel_rfl) (fun _ _ _ h => h) (Or.inl ⟨by rfl, ?_⟩) (by assumption) ?_
          rotate_left
          ·intro w hSw; (try dsimp only at hSw); go_simp; (try with_reducible rfl)
          try simp only [Act.put, List.getElem_toArray, List.getElem_cons_zero, List.getElem_cons_succ, List.setIfInBounds_toArray, List.set_cons_zero, List.set_cons_succ]
          refine wpAnyH_take (i := 5) (v := ?_) rfl (by kernel_rfl) (by kernel_rfl) (by kernel_rfl) (fun _ _ _ h => h) (Or.inl ⟨by rfl, ?_⟩) (by assumption) ?_
          rotate_left
          ·intro w hSw; (try dsimp only at hSw); go_simp; (try with_reducible rfl)
          try simp only [Act.put, List.getElem_toArray, List.getElem_cons_zero, List.getElem_cons_succ, List.setIfInBounds_toArray, List.set_cons_zero, List.set_cons_succ]
          refine wpAnyH_take (i := 6) (v := ?_) rfl (by kernel_rfl) (by kernel_rfl) (by kernel_rfl) (fun _ _ _ h => h) (Or.inl ⟨by rfl, ?_⟩) (by assumption) ?_
          rotate_left
          ·intro w hSw; (try dsimp only at hSw); go_simp; (try with_reducible rfl)
          try simp only [Act.put, List.getElem_toArray, List.getElem_cons_zero, List.getElem_cons_succ, List.setIfInBounds_toArray, List.set_cons_zero, List.set_cons_succ]
          refine wpAnyH_ready (rs := [8]) (by kernel_rfl) (by simp) ?_
          refine AllReadyH.cons rfl (fun K hK => ?_) (AllReadyH.nil)
          ·skip
           have t0 := cell_of_row _ bx 0 _ _ _ Hbx.out
           have t1 := cell_of_row _ bx 1 _ _ _ Hbx.out
           have f0 := frozen_of_row _ bx 0 _ _ Hbx.out
           have f1 := frozen_of_row _ bx 1 _ _ Hbx.out
           have HF1 := Lib.hid (heap_setCell_same _ bx 1 _ _ (.int .i64 ad) (heap_setCell_same _ bx 0 _ _ (.int .i64 an) Hbx.out))
           have HF3 := Lib.hid ((H3.out.setCell (p := ⟨bx, 0, none⟩) Hge.out (.int .i64 an)).setCell (p := ⟨bx, 1, none⟩) Hge.out (.int .i64 ad))
           go_simp
           refine hK.out _ _ (HS.out _ HF3.out) (fun hHeld2 => ?_)
           clear hK K t0 t1 f0 f1
           try simp only [Act.put, List.getElem_toArray, List.getElem_cons_zero, List.getElem_cons_succ, List.setIfInBounds_toArray, List.set_cons_zero, List.set_cons_succ]
           refine wpAnyH_take (i := 9) (v := ?_) rfl (by kernel_rfl) (by kernel_rfl) (by kernel_rfl) (fun _ _ _ h => h) (Or.inl ⟨by rfl, ?_⟩) (by assumption) ?_
           rotate_left
           ·intro w hSw; (try dsimp only at hSw); go_simp; (try with_reducible rfl)
           try simp only [Act.put, List.getElem_toArray, List.getElem_cons_zero, List.getElem_cons_succ, List.setIfInBounds_toArray, List.set_cons_zero, List.set_cons_succ]
           refine wpAnyH_done (by kernel_rfl) ?_ _
           refine NoPanic.normal ?_
           go_wp2_with fail
           go_meet
           exact ⟨rfl, bx, rfl, HF1.out, Hge.out, HF3.out⟩
       ·skip
        go_simp
        have H1' := bal H0.out (.cells #[.int .i64 0, .int .i64 0] 56)
        have Hbx' := heap_alloc_new L0 (.cells #[.int .i64 0, .int .i64 0] 56)
        have Hge' := H0.out.size
        refine hK.out _ _ (HS.out _ H1') (fun hHeld2 => ?_)
        clear hK K
        generalize hgen : World.alloc L0 _ = L1 at *
        clear hgen
        generalize L0.heap.size = bx at *
        have H1 := Lib.hid H1'
        have Hbx := Lib.hid Hbx'
        have Hge := Lib.hid Hge'
        clear H1' Hbx' Hge'
        try simp only [Act.put, List.getElem_toArray, List.getElem_cons_zero, List.getElem_cons_succ, List.setIfInBounds_toArray, List.set_cons_zero, List.set_cons_succ]
        refine wpAnyH_ready (rs := [2]) (by kernel_rfl) (by simp) ?_
        refine AllReadyH.cons rfl (fun K hK => ?_) (AllReadyH.nil)
        ·skip
         go_simp
         refine (HRat.out L1 H1.out).mono ?_
         rintro e L2 ⟨⟨qv, rfl, hq⟩, hb⟩
         have H2 := Lib.hid (bt H1.out hb)
         have Hq := Lib.hid (OQ.rq hq)
         replace Hbx := Lib.hid (hp_keep4 Hbx.out hb)
         refine hK.out _ _ (HS.out L2 H2.out) (fun hHeld2 => ?_)
         clear hK K hb hq
         try simp only [Act.put, List.getElem_toArray, List.getElem_cons_zero, List.getElem_cons_succ, List.setIfInBounds_toArray, List.set_cons_zero, List.set_cons_succ]
         refine wpAnyH_ready (rs := [3]) (by kernel_rfl) (by simp) ?_
         refine AllReadyH.cons rfl (fun K hK => ?_) (AllReadyH.nil)
         ·skip
          go_simp
          refine (HAt.out L2 _ H2.out Hq.out).mono ?_
          rintro e L3 ⟨he, hb⟩
          obtain rfl := he
          have H3 := Lib.hid (bt H2.out hb)
          replace Hbx := Lib.hid (hp_keep4 Hbx.out hb)
          refine hK.out _ _ (HS.out L3 H3.out) (fun hHeld2 => ?_)
          clear hK K hb Hq
          try simp only [Act.put, List.getElem_toArray, List.getElem_cons_zero, List.getElem_cons_succ, List.setIfInBounds_toArray, List.set_cons_zero, List.set_cons_succ]
          refine wpAnyH_take (i := 4) (v := ?_) rfl (by kernel_rfl) (by kernel_rfl) (by kernel_rfl) (fun _ _ _ h => h) (Or.inl ⟨by rfl, ?_⟩) (by assumption) ?_
          rotate_left
          ·intro w hSw; (try dsimp only at hSw); go_simp; (try with_reducible rfl)
          try simp only [Act.put, List.getElem_toArray, List.getElem_cons_zero, List.getElem_cons_succ, List.setIfInBounds_toArray, List.set_cons_zero, List.set_cons_succ]
          refine wpAnyH_take (i := 5) (v := ?_) rfl (by kernel_rfl) (by kernel_rfl) (by kernel_rfl) (fun _ _ _ h => h) (Or.inl ⟨by rfl, ?_⟩) (by assumption) ?_
          rotate_left
          ·intro w hSw; (try dsimp only at hSw); go_simp; (try with_reducible rfl)
          try simp only [Act.put, List.getElem_toArray, List.getElem_cons_zero, List.getElem_cons_succ, List.setIfInBounds_toArray, List.set_cons_zero, List.set_cons_succ]
          refine wpAnyH_take (i := 6) (v := ?_) rfl (by kernel_rfl) (by kernel_rfl) (by kernel_rfl) (fun _ _ _ h => h) (Or.inl ⟨by rfl, ?_⟩) (by assumption) ?_
          rotate_left
          ·intro w hSw; (try dsimp only at hSw); go_simp; (try with_reducible rfl)
          try simp only [Act.put, List.getElem_toArray, List.getElem_cons_zero, List.getElem_cons_succ, List.setIfInBounds_toArray, List.set_cons_zero, List.set_cons_succ]
          refine wpAnyH_ready (rs := [8]) (by kernel_rfl) (by simp) ?_
          refine AllReadyH.cons rfl (fun K hK => ?_) (AllReadyH.nil)
          ·skip
           have t0 := cell_of_row _ bx 0 _ _ _ Hbx.out
           have t1 := cell_of_row _ bx 1 _ _ _ Hbx.out
           have f0 := frozen_of_row _ bx 0 _ _ Hbx.out
           have f1 := frozen_of_row _ bx 1 _ _ Hbx.out
           have HF1 := Lib.hid (heap_setCell_same _ bx 1 _ _ (.int .i64 ad) (heap_setCell_same _ bx 0 _ _ (.int .i64 an) Hbx.out))
           have HF3 := Lib.hid ((H3.out.setCell (p := ⟨bx, 0, none⟩) Hge.out (.int .i64 an)).setCell (p := ⟨bx, 1, none⟩) Hge.out (.int .i64 ad))
           go_simp
           refine hK.out _ _ (HS.out _ HF3.out) (fun hHeld2 => ?_)
           clear hK K t0 t1 f0 f1
           try simp only [Act.put, List.getElem_toArray, List.getElem_cons_zero, List.getElem_cons_succ, List.setIfInBounds_toArray, List.set_cons_zero, List.set_cons_succ]
           refine wpAnyH_take (i := 9) (v := ?_) rfl (by kernel_rfl) (by kernel_rfl) (by kernel_rfl) (fun _ _ _ h => h) (Or.inl ⟨by rfl, ?_⟩) (by assumption) ?_
           rotate_left
           ·intro w hSw; (try dsimp only at hSw); go_simp; (try with_reducible rfl)
           try simp only [Act.put, List.getElem_toArray, List.getElem_cons_zero, List.getElem_cons_succ, List.setIfInBounds_toArray, List.set_cons_zero, List.set_cons_succ]
           refine wpAnyH_done (by kernel_rfl) ?_ _
           refine NoPanic.normal ?_
           go_wp2_with fail
           go_meet
           exact ⟨rfl, bx, rfl, HF1.out, Hge.out, HF3.out⟩
      case rest =>
       obtain ⟨rfl, bx, rfl, hbx, hge, hbel⟩ := hcut
       clear HS HRat HAt
       have hb := hbel
       have t0 := cell_of_row _ bx 0 _ _ _ hbx
       have t1 := cell_of_row _ bx 1 _ _ _ hbx
       clear hbel z0 z1 z2 z3 hbx
       replace HBz := Lib.hid (hp_keep4 HBz.out hb)
       replace Hvz := Lib.hid (RL.keepb Hvz.out hb)
       replace Hrz := Lib.hid (RL.keepb Hrz.out hb)
       replace Hq := Lib.hid (RL.keepb Hq.out hb)
       replace HG := Lib.hid (GR.keepb HG.out hb)
       replace HWF := Lib.hid (bt HWF.out hb)
       replace HW := Lib.hid (bt HW.out hb)
       clear hb
       cases hh with
       | false =>
        have HN3 := Lib.hid (show clrTo vs.length xs c rs (Y + 1) vs (d + 1) = (a, fd) by rw [HN.out, if_neg (fun h => by cases h.1)])
        clear HN
        go_wp2_with fail
        go_roundw
        case rel => exact ⟨d + 1, a, fd, by omega, rfl, rfl, by go_num, HN3.out, HWF.out⟩
        case measure => simp [intOf]; omega
       | true =>
        by_cases h1 : ae = 0
        rotate_left
        ·have h1' : (ae == 0) = false := by simpa using h1
         have HN3 := Lib.hid (show clrTo vs.length xs c rs (Y + 1) vs (d + 1) = (a, fd) by rw [HN.out, if_neg (fun h => h1 h.2)])
         clear HN
         go_wp2_with fail
         go_roundw
         case rel => exact ⟨d + 1, a, fd, by omega, rfl, rfl, by go_num, HN3.out, HWF.out⟩
         case measure => simp [intOf]; omega
        have h1' : (ae == 0) = true := by simpa using h1
        cases fd with
        | false =>
         have HN3 := Lib.hid (show clrTo vs.length xs c rs (Y + 1) vs (d + 1) = (an, true) by rw [HN.out, if_pos ⟨rfl, h1⟩, if_pos (.inl rfl)])
         clear HN
         go_wp2_with fail
         go_roundw
         case rel => exact ⟨d + 1, an, true, by omega, rfl, rfl, by go_num, HN3.out, HWF.out⟩
         case measure => simp [intOf]; omega
        | true =>
         by_cases h5 : an < a
         ·have h5' : decide (an < a) = true := by simpa using h5
          have HN3 := Lib.hid (show clrTo vs.length xs c rs (Y + 1) vs (d + 1) = (an, true) by rw [HN.out, if_pos ⟨rfl, h1⟩, if_pos (.inr h5)])
          clear HN
          go_wp2_with fail
          go_roundw
          case rel => exact ⟨d + 1, an, true, by omega, rfl, rfl, by go_num, HN3.out, HWF.out⟩
          case measure => simp [intOf]; omega
         ·have h5' : decide (an < a) = false := by simpa using h5
          have HN3 := Lib.hid (show clrTo vs.length xs c rs (Y + 1) vs (d + 1) = (a, true) by rw [HN.out, if_pos ⟨rfl, h1⟩, if_neg (fun h => by rcases h with h | h <;> first | cases h | exact h5 h)])
          clear HN
          go_wp2_with fail
          go_roundw
          case rel => exact ⟨d + 1, a, true, by omega, rfl, rfl, by go_num, HN3.out, HWF.out⟩
          case measure => simp [intOf]; omega
end Go.Proofs.YtfphlpglgcmljaaGreat
