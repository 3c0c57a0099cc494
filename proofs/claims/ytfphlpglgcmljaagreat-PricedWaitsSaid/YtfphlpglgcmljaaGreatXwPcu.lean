/- Part of the proof of priced_waits_proved: Pcu. -/
import Derived.Test.YtfphlpglgcmljaaGreatXwPon
import Derived.Test.YtfphlpglgcmljaaGreatXwPct
import Derived.Test.YtfphlpglgcmljaaGreatXwClv
namespace Go.Proofs.YtfphlpglgcmljaaGreat
open Go.RowKit
set_option linter.unusedVariables false
theorem and_valid {N : Nat} {xs A : List Int} {cs : List K3} (h : andF N xs cs = (0, A)) : OkZ N A := by
 by_cases hc : OkZ N xs ∧ AllK N cs cs.length
 ·rw [andF_yes hc.1 hc.2] at h
  have hlen : xs.length = (N + 1) * (N + 1) := by have := hc.1.len; rwa [Int.toNat_natCast] at this
  have hv := andTo_vld (all_of_idx hlen (fun i j hi hj => by have := hc.1.val i j (by rw [Int.toNat_natCast]; exact hi) (by rw [Int.toNat_natCast]; exact hj); rw [Int.toNat_natCast] at this; exact this)) hlen cs.length hc.2
  refine closed_valid (by have := hc.1.hi; omega) (by rw [andTo_len]; exact hlen) (fun i j hi hj => ?_) h
  have hlt : i * (N + 1) + j < (andTo N xs cs cs.length).length := by
   rw [andTo_len, hlen]
   have := Nat.mul_le_mul_right (N + 1) (show i + 1 ≤ N + 1 by omega)
   rw [Nat.add_mul, Nat.one_mul] at this
   omega
  exact vld_gi hv hlt
 ·rw [andF_no (by rwa [Int.toNat_natCast])] at h
  simp at h
theorem onF_two (N : Nat) (xs : List Int) (c : Int) (rs zs : List Int) (more : Int) (i : Nat) (at' : Int) : (∃ C R, onF N xs c rs zs more i at' = (⟨N, zs, C, R⟩, 0)) ∨ onF N xs c rs zs more i at' = (pv0, 7) := by
 unfold onF resF
 split
 ·exact .inl ⟨_, _, rfl⟩
 ·exact .inr rfl
noncomputable def pcutF (e : Int) (N : Nat) (xs : List Int) (c : Int) (rs bs : List Int) (cs : List K3) (more : Int) (i : Nat) (at' : Int) : Pv × Int :=
 if (andF N bs cs).1 = 0 then onF N xs c rs (andF N bs cs).2 more i at' else (pv0, if e = 0 then (andF N bs cs).1 else e)
theorem pcutF_yes {e : Int} {N : Nat} {xs : List Int} {c : Int} {rs bs : List Int} {cs : List K3} {more : Int} {i : Nat} {at' : Int} {R : List Int} (h : andF N bs cs = (0, R)) : pcutF e N xs c rs bs cs more i at' = onF N xs c rs R more i at' := by
 unfold pcutF; rw [h]; rfl
theorem pcutF_no {e : Int} {N : Nat} {xs : List Int} {c : Int} {rs bs : List Int} {cs : List K3} {more : Int} {i : Nat} {at' : Int} {x : Int} {R : List Int} (h : andF N bs cs = (x, R)) (hx : x ≠ 0) : pcutF e N xs c rs bs cs more i at' = (pv0, if e = 0 then x else e) := by
 unfold pcutF; rw [h, if_neg hx]
set_option maxRecDepth 100000 in
set_option maxHeartbeats 8000000 in
theorem prog_pcut (N i : Nat) (c more at' : Int) (v rv zv lv : Value) (xs rs zs : List Int) (cs : List K3) (w : World) (hv : RL w.heap.size w v xs) (hr : RL w.heap.size w rv rs) (hz : RL w.heap.size w zv zs) (hl : RK w.heap.size w lv cs) (hok : OkZ N xs) (hlr : rs.length = N) (hi : i ≤ N)
  (hc : -9223372036854775808 ≤ c ∧ c ≤ 9223372036854775807) (h0 : i = 0 → more = 0 ∧ at' = 0) :
  Calls Tryz.prog 60 #[.agg #[.int .i64 N, v, .int .i64 c, rv], .agg #[.int .i64 N, zv], lv, .int .i64 more, .int .i64 i, .int .i64 at'] w fun e w' => PO w.heap.size (pcutF 4 N xs c rs zs cs more i at') e w' ∧ Below w.heap.size w w' := by
 have hN : N ≤ 10 := by have := hok.hi; omega
 have Hv0 := Lib.hid hv
 have Hr := Lib.hid hr
 have Hz := Lib.hid hz
 have Hl := Lib.hid hl
 obtain ⟨ao, cap, rfl, hle, _⟩ := hv.open
 obtain ⟨aor, capr, rfl, hler, _⟩ := hr.open
 obtain ⟨ao2, cap2, rfl, hle2, _⟩ := hz.open
 obtain ⟨aol, capl, rfl, hlel, _⟩ := hl.open
 have hloc := Loc.three w (.cells #[.int .i64 N, .slice ao xs.length cap, .int .i64 c, .slice aor rs.length capr] 35) (.cells #[.int .i64 N, .slice ao2 zs.length cap2] 32) (.cells #[.int .i64 0, .slice none 0 0, .int .i64 0, .slice none 0 0] 35) none
 have HP := Lib.hid (fun (X : World) (R2 : List Int) (zv' : Value) (hb : Below w.heap.size w X) (hR : OkZ N R2) (hz' : RL X.heap.size X zv' R2) => prog_on N i c more at' (.slice ao xs.length cap) (.slice aor rs.length capr) zv' xs rs R2 X (Hv0.out.keepb hb) (Hr.out.keepb hb) hz' hok hR hlr hi hc h0)
 clear hv hr hz hl hok hlr hc h0
 go_enter Tryz.func60, Tryz.ntmps60
 go_wp2_with fail
 refine (prog_and N _ _ zs cs _ (Hz.out.keepb (below_grownBy hloc.grown)) (RK.keepb Hl.out (below_grownBy hloc.grown))).mono ?_
 rintro e w1 ⟨⟨v', rfl, ho⟩, hb1⟩
 have hloc1 := hloc.next (grownBy_below hb1 none) (fun _ h => by cases h)
 have hs1 : w.heap.size + 3 ≤ w1.heap.size := hloc1.size
 obtain ⟨ao3, cap3, rfl⟩ := owns_form ho
 have e3 : (((w.alloc (.cells #[.int .i64 N, .slice ao xs.length cap, .int .i64 c, .slice aor rs.length capr] 35)).alloc (.cells #[.int .i64 N, .slice ao2 zs.length cap2] 32)).alloc (.cells #[.int .i64 0, .slice none 0 0, .int .i64 0, .slice none 0 0] 35)).heap.size = w.heap.size + 3 := by simp
 rw [e3] at ho
 have HC := Lib.hid (show pcutF 4 N xs c rs zs cs more i at' = _ from rfl)
 have Hand := Lib.hid (fun (x : Int) (R : List Int) (h : andF N zs cs = (x, R)) => (⟨fun e => pcutF_yes (by rw [h, e]), fun e => pcutF_no h e⟩ : (x = 0 → pcutF 4 N xs c rs zs cs more i at' = onF N xs c rs R more i at') ∧ (x ≠ 0 → pcutF 4 N xs c rs zs cs more i at' = (pv0, 4))))
 have Hval := Lib.hid (fun (R : List Int) (h : andF N zs cs = (0, R)) => and_valid h)
 generalize hR : andF N zs cs = R at Hval Hand ho ⊢
 obtain ⟨R1, R2⟩ := R
 have ho : OL 63 (w.heap.size + 3) w1 (.slice ao3 R2.length cap3) R2 := ho
 clear e3 hb1 hloc HC
 by_cases hR1 : R1 = 0
 ·subst hR1
  have hzd : zdim ((0 : Int), R2) (N : Int) = N := by simp [zdim]
  rw [hzd]
  have HC := Lib.hid ((Hand.out 0 R2 rfl).1 rfl)
  have hloc2 := hloc1.next (World.grownBy_alloc w1 (.cells #[.int .i64 N, .slice ao3 R2.length cap3] 32) none) (fun _ h => by cases h)
  have Ho := Lib.hid (show OL _ _ _ _ _ from World.ownsRow.alloc ho (.cells #[.int .i64 N, .slice ao3 R2.length cap3] 32))
  have z0 : (w1.alloc (.cells #[.int .i64 N, .slice ao3 R2.length cap3] 32)).cell? ⟨w.heap.size, 0, none⟩ = some (.int .i64 N) := hloc2.cell 0 rfl 0
  have z1 : (w1.alloc (.cells #[.int .i64 N, .slice ao3 R2.length cap3] 32)).cell? ⟨w.heap.size, 1, none⟩ = some (.slice ao xs.length cap) := hloc2.cell 0 rfl 1
  have z2 : (w1.alloc (.cells #[.int .i64 N, .slice ao3 R2.length cap3] 32)).cell? ⟨w.heap.size, 2, none⟩ = some (.int .i64 c) := hloc2.cell 0 rfl 2
  have z3 : (w1.alloc (.cells #[.int .i64 N, .slice ao3 R2.length cap3] 32)).cell? ⟨w.heap.size, 3, none⟩ = some (.slice aor rs.length capr) := hloc2.cell 0 rfl 3
  have HOn := Lib.hid (HP.out (w1.alloc (.cells #[.int .i64 N, .slice ao3 R2.length cap3] 32)) R2 (.slice ao3 R2.length cap3) (below_grownBy hloc2.grown) (Hval.out R2 rfl) (OL.rl Ho.out))
  clear hloc1 hR Hand Hval ho hzd
  rcases onF_two N xs c rs R2 more i at' with ⟨C, R, hQ⟩ | hQ
  ·skip
   rw [hQ] at HOn
   go_wp2_with fail
   refine HOn.out.mono ?_
   rintro e w5 ⟨⟨rv', he, hrv⟩, hb5⟩
   obtain rfl : e = .returned (.tuple #[.agg #[.int .i64 N, .slice ao3 R2.length cap3, .int .i64 C, rv'], .int .i64 0]) := he
   obtain ⟨ao4, cap4, rfl⟩ := owns_form hrv
   have hloc5 := hloc2.next (grownBy_below hb5 none) (fun _ h => by cases h)
   have hb6 := below_grownBy hloc5.grown
   have Ho5 := Lib.hid (OL.keepb Ho.out hb5)
   have Hrv := Lib.hid (show OL _ _ _ _ _ from owns_mono hrv (show w.heap.size + 3 ≤ _ by (try simp); omega))
   have HF := Lib.hid (HC.out.trans hQ)
   have t0 : w5.cell? ⟨w.heap.size + 1 + 1, 0, none⟩ = some (.int .i64 0) := hloc5.cell 2 rfl 0
   have f0 : w5.frozen? ⟨w.heap.size + 1 + 1, 0, none⟩ = false := hloc5.free 2 rfl 0
   have t1 : w5.cell? ⟨w.heap.size + 1 + 1, 1, none⟩ = some (.slice none 0 0) := hloc5.cell 2 rfl 1
   have f1 : w5.frozen? ⟨w.heap.size + 1 + 1, 1, none⟩ = false := hloc5.free 2 rfl 1
   have t2 : w5.cell? ⟨w.heap.size + 1 + 1, 2, none⟩ = some (.int .i64 0) := hloc5.cell 2 rfl 2
   have f2 : w5.frozen? ⟨w.heap.size + 1 + 1, 2, none⟩ = false := hloc5.free 2 rfl 2
   have t3 : w5.cell? ⟨w.heap.size + 1 + 1, 3, none⟩ = some (.slice none 0 0) := hloc5.cell 2 rfl 3
   have f3 : w5.frozen? ⟨w.heap.size + 1 + 1, 3, none⟩ = false := hloc5.free 2 rfl 3
   clear hb5 hrv
   go_wp2_with fail
   refine bodyPost_ret (v := .tuple #[.agg #[.int .i64 N, .slice ao3 R2.length cap3, .int .i64 C, .slice ao4 R.length cap4], .int .i64 0]) (by simp [results, Tryz.results60, go_sem, t0, t1, t2, t3]) rfl ⟨by rw [HF.out]; exact ⟨_, _, rfl, owns_mono (own_set4 Ho5.out (by omega) _ _ _ _) (by omega), owns_mono (own_set4 Hrv.out (by omega) _ _ _ _) (by omega)⟩, ?_⟩
   exact ((((hb6).setCell (by show w.heap.size ≤ w.heap.size + 1 + 1; omega) _).setCell (by show w.heap.size ≤ w.heap.size + 1 + 1; omega) _).setCell (by show w.heap.size ≤ w.heap.size + 1 + 1; omega) _).setCell (by show w.heap.size ≤ w.heap.size + 1 + 1; omega) _
  ·skip
   rw [hQ] at HOn
   go_wp2_with fail
   refine HOn.out.mono ?_
   rintro e w5 ⟨⟨rv', he, hrv⟩, hb5⟩
   obtain rfl : e = .returned (.tuple #[.agg #[.int .i64 0, .slice none 0 0, .int .i64 0, rv'], .int .i64 7]) := he
   obtain ⟨ao4, cap4, rfl⟩ := owns_form hrv
   have hloc5 := hloc2.next (grownBy_below hb5 none) (fun _ h => by cases h)
   have hb6 := below_grownBy hloc5.grown
   have HF := Lib.hid (HC.out.trans hQ)
   have Hrv := Lib.hid (show OL _ _ _ _ _ from owns_mono hrv (show w.heap.size + 3 ≤ _ by (try simp); omega))
   have t0 : w5.cell? ⟨w.heap.size + 1 + 1, 0, none⟩ = some (.int .i64 0) := hloc5.cell 2 rfl 0
   have f0 : w5.frozen? ⟨w.heap.size + 1 + 1, 0, none⟩ = false := hloc5.free 2 rfl 0
   have t1 : w5.cell? ⟨w.heap.size + 1 + 1, 1, none⟩ = some (.slice none 0 0) := hloc5.cell 2 rfl 1
   have f1 : w5.frozen? ⟨w.heap.size + 1 + 1, 1, none⟩ = false := hloc5.free 2 rfl 1
   have t2 : w5.cell? ⟨w.heap.size + 1 + 1, 2, none⟩ = some (.int .i64 0) := hloc5.cell 2 rfl 2
   have f2 : w5.frozen? ⟨w.heap.size + 1 + 1, 2, none⟩ = false := hloc5.free 2 rfl 2
   have t3 : w5.cell? ⟨w.heap.size + 1 + 1, 3, none⟩ = some (.slice none 0 0) := hloc5.cell 2 rfl 3
   have f3 : w5.frozen? ⟨w.heap.size + 1 + 1, 3, none⟩ = false := hloc5.free 2 rfl 3
   clear hb5 hrv
   go_wp2_with fail
   refine bodyPost_ret (v := .tuple #[.agg #[.int .i64 0, .slice none 0 0, .int .i64 0, .slice ao4 (pv0.rs).length cap4], .int .i64 7]) (by simp [results, Tryz.results60, go_sem, t0, t1, t2, t3]) rfl ⟨by rw [HF.out]; exact ⟨_, _, rfl, OL.nil _ _ _, owns_mono (own_set4 Hrv.out (by omega) _ _ _ _) (by omega)⟩, ?_⟩
   exact ((((hb6).setCell (by show w.heap.size ≤ w.heap.size + 1 + 1; omega) _).setCell (by show w.heap.size ≤ w.heap.size + 1 + 1; omega) _).setCell (by show w.heap.size ≤ w.heap.size + 1 + 1; omega) _).setCell (by show w.heap.size ≤ w.heap.size + 1 + 1; omega) _
 ·have hR1' : (R1 != 0) = true := by simpa using hR1
  have HF := Lib.hid ((Hand.out R1 R2 rfl).2 hR1)
  have hzd : zdim (R1, R2) (N : Int) = 0 := by simp [zdim, hR1]
  rw [hzd]
  have hloc5 := hloc1.next (World.grownBy_alloc w1 (.cells #[.int .i64 0, .slice ao3 R2.length cap3] 32) none) (fun _ h => by cases h)
  have hb6 := below_grownBy hloc5.grown
  have t0 : (w1.alloc (.cells #[.int .i64 0, .slice ao3 R2.length cap3] 32)).cell? ⟨w.heap.size + 1 + 1, 0, none⟩ = some (.int .i64 0) := hloc5.cell 2 rfl 0
  have f0 : (w1.alloc (.cells #[.int .i64 0, .slice ao3 R2.length cap3] 32)).frozen? ⟨w.heap.size + 1 + 1, 0, none⟩ = false := hloc5.free 2 rfl 0
  have t1 : (w1.alloc (.cells #[.int .i64 0, .slice ao3 R2.length cap3] 32)).cell? ⟨w.heap.size + 1 + 1, 1, none⟩ = some (.slice none 0 0) := hloc5.cell 2 rfl 1
  have f1 : (w1.alloc (.cells #[.int .i64 0, .slice ao3 R2.length cap3] 32)).frozen? ⟨w.heap.size + 1 + 1, 1, none⟩ = false := hloc5.free 2 rfl 1
  have t2 : (w1.alloc (.cells #[.int .i64 0, .slice ao3 R2.length cap3] 32)).cell? ⟨w.heap.size + 1 + 1, 2, none⟩ = some (.int .i64 0) := hloc5.cell 2 rfl 2
  have f2 : (w1.alloc (.cells #[.int .i64 0, .slice ao3 R2.length cap3] 32)).frozen? ⟨w.heap.size + 1 + 1, 2, none⟩ = false := hloc5.free 2 rfl 2
  have t3 : (w1.alloc (.cells #[.int .i64 0, .slice ao3 R2.length cap3] 32)).cell? ⟨w.heap.size + 1 + 1, 3, none⟩ = some (.slice none 0 0) := hloc5.cell 2 rfl 3
  have f3 : (w1.alloc (.cells #[.int .i64 0, .slice ao3 R2.length cap3] 32)).frozen? ⟨w.heap.size + 1 + 1, 3, none⟩ = false := hloc5.free 2 rfl 3
  clear hloc1 hR Hand Hval ho hzd hR1
  go_wp2_with fail
  refine bodyPost_ret (v := .tuple #[.agg #[.int .i64 0, .slice none 0 0, .int .i64 0, .slice none 0 0], .int .i64 4]) (by simp [results, Tryz.results60, go_sem, t0, t1, t2, t3]) rfl ⟨PO.err HF.out _, ?_⟩
  exact ((((hb6).setCell (by show w.heap.size ≤ w.heap.size + 1 + 1; omega) _).setCell (by show w.heap.size ≤ w.heap.size + 1 + 1; omega) _).setCell (by show w.heap.size ≤ w.heap.size + 1 + 1; omega) _).setCell (by show w.heap.size ≤ w.heap.size + 1 + 1; omega) _
end Go.Proofs.YtfphlpglgcmljaaGreat
