/- Part of the proof of priced_clears_proved: Rap. -/
import Derived.Deep.RegionHeld3
import Derived.Test.YtfphlpglgcmljaaGreatXcPap
namespace Go.Proofs.YtfphlpglgcmljaaGreat
open Go.RowKit
set_option linter.unusedVariables false
theorem st2_at {w : World} {b t : Nat} {u0 u1 : Value} (x y : Value) (h : w.heap[b]? = some (.cells #[u0, u1] t (0, 0))) :
  ((w.setCell ⟨b, 0, none⟩ x).setCell ⟨b, 1, none⟩ y).heap[b]? = some (.cells #[x, y] t (0, 0)) := heap_setCell_same _ _ 1 _ _ _ (heap_setCell_same _ _ 0 _ _ _ h)
theorem st2_ne {w : World} {b c : Nat} (x y : Value) (h : c ≠ b) : ((w.setCell ⟨b, 0, none⟩ x).setCell ⟨b, 1, none⟩ y).heap[c]? = w.heap[c]? := by
 rw [Below.heap_setCell _ _ _ _ h, Below.heap_setCell _ _ _ _ h]
theorem sb_sub23 {a b c d : Int} (h1 : vr a b = true) (h2 : vr c d = true) : subR a b c d = sbR a b c d := by
 have hw : wrap64 (-c) = -c := by have := (vr_iff c d).1 h2; unfold wrap64; omega
 have hv : vr (-c) d = true := by rw [vr_iff] at *; rw [Int.natAbs_neg]; omega
 unfold subR
 rw [sbR_yes (by rw [h1, h2]; rfl), hw, addR_yes ⟨h1, hv⟩]
 congr 1
 rw [Int.neg_mul]; omega
theorem low_i64 {N : Nat} {xs : List Int} (h : OkZ N xs) {j : Nat} (hj : j ≤ N) : I64 (lowF N xs j) := by
 have := ent_bd h (Nat.zero_le _) hj (i := 0)
 unfold lowF; exact ⟨by omega, by omega⟩
theorem rate_i64 {xs rs : List Int} {c : Int} (h : rngB xs c rs = true) {k : Nat} (hk : k < rs.length) : I64 (gi rs k) := by
 unfold rngB at h
 simp only [Bool.and_eq_true] at h
 have h2 := List.all_eq_true.1 h.1.2 (gi rs k) (by rw [gi_of hk]; exact List.getElem_mem hk)
 unfold slB btw at h2
 simp only [Bool.and_eq_true, decide_eq_true_eq] at h2
 exact ⟨by omega, by omega⟩
theorem re_open {r : (Int × Int) × Int} {e : Ending} (h : RE r e) : ∃ p q x, r = ((p, q), x) ∧ e = .returned (.tuple #[.agg #[.int .i64 p, .int .i64 q], .int .i64 x]) := ⟨r.1.1, r.1.2, r.2, rfl, h⟩
set_option maxRecDepth 100000 in
set_option maxHeartbeats 16000000 in
theorem ref_pat (n c : Int) (v rv lv : Value) (xs rs : List Int) (ps : List (Int × Int)) (w : World) (hv : RL w.heap.size w v xs) (hr : RL w.heap.size w rv rs) (hp : RX cdRes w.heap.size w lv ps) :
  Calls Tryz.prog 26 #[.agg #[.int .i64 n, v, .int .i64 c, rv], lv] w fun e w' => RE (patF n xs c rs ps) e ∧ Below w.heap.size w w' := by
 have Hv := Lib.hid hv
 have Hr := Lib.hid hr
 have Hp := Lib.hid hp
 obtain ⟨ao, cap, rfl, hle, _⟩ := hv.open
 obtain ⟨aor, capr, rfl, hler, hcr⟩ := (RL.re hr).open
 obtain ⟨aop, capp, rfl, hlep, hcp⟩ := hp.open
 have Hcr := Lib.hid hcr
 have Hcp := Lib.hid hcp
 clear hv hr hp hcr hcp
 have hloc := Loc.two w (.cells #[.int .i64 n, .slice ao xs.length cap, .int .i64 c, .slice aor rs.length capr] 35) (.cells #[.int .i64 0, .int .i64 0] 56) none
 go_enter Tryz.func26, Tryz.ntmps26
 go_upto_region 1 with fail
 have HW := Lib.hid (below_grownBy hloc.grown)
 have HBz := Lib.hid (show ((w.alloc (.cells #[.int .i64 n, .slice ao xs.length cap, .int .i64 c, .slice aor rs.length capr] 35)).alloc (.cells #[.int .i64 0, .int .i64 0] 56)).heap[w.heap.size]? = some (.cells #[.int .i64 n, .slice ao xs.length cap, .int .i64 c, .slice aor rs.length capr] 35 (0, 0)) from hloc.objs 0 (by simp))
 have HBr := Lib.hid (show ((w.alloc (.cells #[.int .i64 n, .slice ao xs.length cap, .int .i64 c, .slice aor rs.length capr] 35)).alloc (.cells #[.int .i64 0, .int .i64 0] 56)).heap[w.heap.size + 1]? = some (.cells #[.int .i64 0, .int .i64 0] 56 (0, 0)) from hloc.objs 1 (by simp))
 have hsz := hloc.size
 generalize (w.alloc (.cells #[.int .i64 n, .slice ao xs.length cap, .int .i64 c, .slice aor rs.length capr] 35)).alloc (.cells #[.int .i64 0, .int .i64 0] 56) = X0 at *
 clear hloc hsz
 have z0 : X0.cell? ⟨w.heap.size, 0, none⟩ = some (.int .i64 n) := cell_of_row _ (w.heap.size) 0 _ _ _ HBz.out
 have zf0 : X0.frozen? ⟨w.heap.size, 0, none⟩ = false := frozen_of_row _ (w.heap.size) 0 _ _ HBz.out
 have z1 : X0.cell? ⟨w.heap.size, 1, none⟩ = some (.slice ao xs.length cap) := cell_of_row _ (w.heap.size) 1 _ _ _ HBz.out
 have zf1 : X0.frozen? ⟨w.heap.size, 1, none⟩ = false := frozen_of_row _ (w.heap.size) 1 _ _ HBz.out
 have z2 : X0.cell? ⟨w.heap.size, 2, none⟩ = some (.int .i64 c) := cell_of_row _ (w.heap.size) 2 _ _ _ HBz.out
 have zf2 : X0.frozen? ⟨w.heap.size, 2, none⟩ = false := frozen_of_row _ (w.heap.size) 2 _ _ HBz.out
 have z3 : X0.cell? ⟨w.heap.size, 3, none⟩ = some (.slice aor rs.length capr) := cell_of_row _ (w.heap.size) 3 _ _ _ HBz.out
 have zf3 : X0.frozen? ⟨w.heap.size, 3, none⟩ = false := frozen_of_row _ (w.heap.size) 3 _ _ HBz.out
 go_wp2_with fail
 refine (ref_pcheck n c _ _ xs rs _ (Hv.out.keepb HW.out) (Hr.out.keepb HW.out)).mono ?_
 rintro e w1 ⟨rfl, hb⟩
 clear z0 zf0 z1 zf1 z2 zf2 z3 zf3
 replace HBz := Lib.hid (hp_keep4 HBz.out hb)
 replace HBr := Lib.hid (hp_keep4 HBr.out hb)
 replace HW := Lib.hid (bt HW.out hb)
 clear hb
 cases hpz : pzB n xs c rs with
 | false =>
  rw [pzE_no hpz]
  have HF := Lib.hid (show patF n xs c rs ps = ((0, 0), 2) from patF_bad (fun h => by rw [hpz] at h; exact absurd h.1 (by simp)))
  have t0 : w1.cell? ⟨w.heap.size + 1, 0, none⟩ = some (.int .i64 0) := cell_of_row _ (w.heap.size + 1) 0 _ _ _ HBr.out
  have tf0 : w1.frozen? ⟨w.heap.size + 1, 0, none⟩ = false := frozen_of_row _ (w.heap.size + 1) 0 _ _ HBr.out
  have t1 : w1.cell? ⟨w.heap.size + 1, 1, none⟩ = some (.int .i64 0) := cell_of_row _ (w.heap.size + 1) 1 _ _ _ HBr.out
  have tf1 : w1.frozen? ⟨w.heap.size + 1, 1, none⟩ = false := frozen_of_row _ (w.heap.size + 1) 1 _ _ HBr.out
  go_wp2_with fail
  refine bodyPost_ret (v := .tuple #[.agg #[.int .i64 0, .int .i64 0], .int .i64 2]) (by simp [results, Tryz.results26, go_sem, t0, t1]) rfl ⟨RE.of HF.out, ?_⟩
  exact ((HW.out).setCell (by show w.heap.size ≤ w.heap.size + 1; omega) _).setCell (by show w.heap.size ≤ w.heap.size + 1; omega) _
 | true =>
  rw [pzE_yes hpz]
  have z0 : w1.cell? ⟨w.heap.size, 0, none⟩ = some (.int .i64 n) := cell_of_row _ (w.heap.size) 0 _ _ _ HBz.out
  have zf0 : w1.frozen? ⟨w.heap.size, 0, none⟩ = false := frozen_of_row _ (w.heap.size) 0 _ _ HBz.out
  have z1 : w1.cell? ⟨w.heap.size, 1, none⟩ = some (.slice ao xs.length cap) := cell_of_row _ (w.heap.size) 1 _ _ _ HBz.out
  have zf1 : w1.frozen? ⟨w.heap.size, 1, none⟩ = false := frozen_of_row _ (w.heap.size) 1 _ _ HBz.out
  have z2 : w1.cell? ⟨w.heap.size, 2, none⟩ = some (.int .i64 c) := cell_of_row _ (w.heap.size) 2 _ _ _ HBz.out
  have zf2 : w1.frozen? ⟨w.heap.size, 2, none⟩ = false := frozen_of_row _ (w.heap.size) 2 _ _ HBz.out
  have z3 : w1.cell? ⟨w.heap.size, 3, none⟩ = some (.slice aor rs.length capr) := cell_of_row _ (w.heap.size) 3 _ _ _ HBz.out
  have zf3 : w1.frozen? ⟨w.heap.size, 3, none⟩ = false := frozen_of_row _ (w.heap.size) 3 _ _ HBz.out
  by_cases hlen : (ps.length : Int) = n
  rotate_left
  ·have hlb : ((ps.length : Int) != n) = true := by simpa using hlen
   have HF := Lib.hid (show patF n xs c rs ps = ((0, 0), 2) from patF_bad (fun h => hlen h.2.1))
   have t0 : w1.cell? ⟨w.heap.size + 1, 0, none⟩ = some (.int .i64 0) := cell_of_row _ (w.heap.size + 1) 0 _ _ _ HBr.out
   have tf0 : w1.frozen? ⟨w.heap.size + 1, 0, none⟩ = false := frozen_of_row _ (w.heap.size + 1) 0 _ _ HBr.out
   have t1 : w1.cell? ⟨w.heap.size + 1, 1, none⟩ = some (.int .i64 0) := cell_of_row _ (w.heap.size + 1) 1 _ _ _ HBr.out
   have tf1 : w1.frozen? ⟨w.heap.size + 1, 1, none⟩ = false := frozen_of_row _ (w.heap.size + 1) 1 _ _ HBr.out
   go_wp2_with fail
   refine bodyPost_ret (v := .tuple #[.agg #[.int .i64 0, .int .i64 0], .int .i64 2]) (by simp [results, Tryz.results26, go_sem, t0, t1]) rfl ⟨RE.of HF.out, ?_⟩
   exact ((HW.out).setCell (by show w.heap.size ≤ w.heap.size + 1; omega) _).setCell (by show w.heap.size ≤ w.heap.size + 1; omega) _
  have hlb : ((ps.length : Int) != n) = false := by simpa using hlen
  obtain ⟨N, rfl, hok, hlr, hc⟩ := pzB_nat hpz
  have Hrng := Lib.hid (pzB_inv hpz).2.2
  have Hok := Lib.hid hok
  have Hc := Lib.hid (show I64 c from hc)
  have HN := Lib.hid (show ps.length = N by omega)
  have Hlr := Lib.hid hlr
  have HPZ := Lib.hid (show pzB N xs c rs = true from hpz)
  clear hok hlr hc hpz hlen
  go_wp2_with fail
  go_loopw [6] (fun i wr => ∃ k : Nat, k ≤ ps.length ∧ i = .int .i64 k ∧ YesTo cdRes (fun x => vr x.1 x.2) ps k ∧ wr.heap[w.heap.size]? = some (.cells #[.int .i64 N, .slice ao xs.length cap, .int .i64 c, .slice aor rs.length capr] 35 (0, 0)) ∧ wr.heap[w.heap.size + 1]? = some (.cells #[.int .i64 0, .int .i64 0] 56 (0, 0)) ∧ Below w.heap.size w wr) (fun i _ => ps.length - (intOf i).toNat)
  case atStart => exact ⟨0, Nat.zero_le _, rfl, fun k hk => by omega, HBz.out, HBr.out, HW.out⟩
  case round =>
   clear z0 zf0 z1 zf1 z2 zf2 z3 zf3
   clear hlb HBz HBr HW
   obtain ⟨k, hk, rfl, hyes, hz, hr, hw⟩ := hrel
   have Hyes := Lib.hid hyes
   have HBz := Lib.hid hz
   have HBr := Lib.hid hr
   have HW := Lib.hid hw
   clear hyes hz hr hw
   by_cases hlt : k < ps.length
   ·have htk : decide ((k : Int) < (ps.length : Int)) = true := by simp; omega
    obtain ⟨b, off, rfl, hb, hcc⟩ := Hcp.out (by omega)
    obtain ⟨E, hE⟩ : ∃ E, ge cdRes ps k = E := ⟨_, rfl⟩
    have x0 : wr.cell? ⟨b, off + k * 2, none⟩ = some (.int .i64 E.1) := by
     have h := ((bcell HW.out).1 b (off + (k * 2 + 0)) hb).trans (hcc k 0 hlt (by decide))
     rw [hE] at h
     rw [show off + k * 2 = off + (k * 2 + 0) by omega]
     exact h
    have x1 : wr.cell? ⟨b, off + k * 2 + 1, none⟩ = some (.int .i64 E.2) := by
     have h := ((bcell HW.out).1 b (off + (k * 2 + 1)) hb).trans (hcc k 1 hlt (by decide))
     rw [hE] at h
     rw [show off + k * 2 + 1 = off + (k * 2 + 1) by omega]
     exact h
    have HNO := Lib.hid (fun (h : vr E.1 E.2 = false) => not_all_ge (c := cdRes) (p := fun x => vr x.1 x.2) (xs := ps) (q := k) hlt (by rw [hE]; exact h))
    have HYE := Lib.hid (fun (h : vr E.1 E.2 = true) => Hyes.out.succ (by rw [hE]; exact h))
    have k0 : (k : Int) < ps.length := by omega
    have k1 : (0 : Int) ≤ (k : Int) := by omega
    clear hcc hE hlt
    go_wp2_with fail
    refine (r1_valid E.1 E.2 _).mono ?_
    rintro e w2 ⟨rfl, hb2⟩
    clear x0 x1
    replace HBz := Lib.hid (hp_keep4 HBz.out hb2)
    replace HBr := Lib.hid (hp_keep4 HBr.out hb2)
    replace HW := Lib.hid (bt HW.out hb2)
    clear hb2
    cases hvE : vr E.1 E.2 with
    | false =>
     have HF := Lib.hid (show patF (N : Int) xs c rs ps = ((0, 0), 2) from patF_bad (fun h => by rw [HNO.out hvE] at h; exact absurd h.2.2 (by simp)))
     have t0 : w2.cell? ⟨w.heap.size + 1, 0, none⟩ = some (.int .i64 0) := cell_of_row _ (w.heap.size + 1) 0 _ _ _ HBr.out
     have tf0 : w2.frozen? ⟨w.heap.size + 1, 0, none⟩ = false := frozen_of_row _ (w.heap.size + 1) 0 _ _ HBr.out
     have t1 : w2.cell? ⟨w.heap.size + 1, 1, none⟩ = some (.int .i64 0) := cell_of_row _ (w.heap.size + 1) 1 _ _ _ HBr.out
     have tf1 : w2.frozen? ⟨w.heap.size + 1, 1, none⟩ = false := frozen_of_row _ (w.heap.size + 1) 1 _ _ HBr.out
     go_wp2_with fail
     refine bodyPost_ret (v := .tuple #[.agg #[.int .i64 0, .int .i64 0], .int .i64 2]) (by simp [results, Tryz.results26, go_sem, t0, t1]) rfl ⟨RE.of HF.out, ?_⟩
     exact ((HW.out).setCell (by show w.heap.size ≤ w.heap.size + 1; omega) _).setCell (by show w.heap.size ≤ w.heap.size + 1; omega) _
    | true =>
     have HQ := Lib.hid (HYE.out hvE)
     go_wp2_with fail
     go_roundw
     case rel => exact ⟨k + 1, by omega, by go_num, HQ.out, HBz.out, HBr.out, HW.out⟩
     case measure => simp [intOf]; omega
   ·have htk : decide ((k : Int) < (ps.length : Int)) = false := by simp; omega
    have HALL := Lib.hid (show pzB N xs c rs = true ∧ (ps.length : Int) = N ∧ ps.all (fun x => vr x.1 x.2) = true from ⟨HPZ.out, by have := HN.out; omega, YesTo.all (c := cdRes) (p := fun x => vr x.1 x.2) (xs := ps) (by rw [show ps.length = k by omega]; exact Hyes.out)⟩)
    have HV := Lib.hid (fun (k : Nat) (hk : k < ps.length) => (by have := List.all_eq_true.1 HALL.out.2.2 (ge cdRes ps k) (ge_mem cdRes hk); exact this : vr (ge cdRes ps k).1 (ge cdRes ps k).2 = true))
    have z0 : wr.cell? ⟨w.heap.size, 0, none⟩ = some (.int .i64 N) := cell_of_row _ (w.heap.size) 0 _ _ _ HBz.out
    have zf0 : wr.frozen? ⟨w.heap.size, 0, none⟩ = false := frozen_of_row _ (w.heap.size) 0 _ _ HBz.out
    have z1 : wr.cell? ⟨w.heap.size, 1, none⟩ = some (.slice ao xs.length cap) := cell_of_row _ (w.heap.size) 1 _ _ _ HBz.out
    have zf1 : wr.frozen? ⟨w.heap.size, 1, none⟩ = false := frozen_of_row _ (w.heap.size) 1 _ _ HBz.out
    have z2 : wr.cell? ⟨w.heap.size, 2, none⟩ = some (.int .i64 c) := cell_of_row _ (w.heap.size) 2 _ _ _ HBz.out
    have zf2 : wr.frozen? ⟨w.heap.size, 2, none⟩ = false := frozen_of_row _ (w.heap.size) 2 _ _ HBz.out
    have z3 : wr.cell? ⟨w.heap.size, 3, none⟩ = some (.slice aor rs.length capr) := cell_of_row _ (w.heap.size) 3 _ _ _ HBz.out
    have zf3 : wr.frozen? ⟨w.heap.size, 3, none⟩ = false := frozen_of_row _ (w.heap.size) 3 _ _ HBz.out
    go_wp2_with fail
    refine (r1_of c wr Hc.out).mono ?_
    rintro e w3 ⟨h, hb⟩
    obtain ⟨p0, q0, x0, h0, rfl⟩ := re_open h
    clear z0 zf0 z1 zf1 z2 zf2 z3 zf3
    replace HBz := Lib.hid (hp_keep4 HBz.out hb)
    replace HBr := Lib.hid (hp_keep4 HBr.out hb)
    replace HW := Lib.hid (bt HW.out hb)
    clear hb
    have hW3 := HW.out.size
    have hB3 : w.heap.size + 1 < w3.heap.size := hp_lt3 HBr.out
    clear h hW3
    have hq1 := hp_keep4 HBz.out ((Below.refl _ w3).alloc (Nat.le_refl _) (.cells #[.int .i64 p0, .int .i64 q0] 56))
    have hq2 := hp_keep4 HBr.out ((Below.refl _ w3).alloc (Nat.le_refl _) (.cells #[.int .i64 p0, .int .i64 q0] 56))
    have hq3 := heap_alloc_new w3 (.cells #[.int .i64 p0, .int .i64 q0] 56)
    have hq4 := bal HW.out (.cells #[.int .i64 p0, .int .i64 q0] 56)
    clear HBz HBr HW
    go_upto_region 9 with fail
    generalize w3.alloc (.cells #[.int .i64 p0, .int .i64 q0] 56) = X3 at *
    generalize w3.heap.size = B at *
    have HBz := Lib.hid hq1
    have HBr := Lib.hid hq2
    have HBs := Lib.hid hq3
    have HW := Lib.hid hq4
    clear hq1 hq2 hq3 hq4
    go_wp2_with fail
    go_loopw [9, 8] (fun i e wr => ∃ (k : Nat) (p q x : Int), k ≤ ps.length ∧ i = .int .i64 k ∧ e = .int .i64 x ∧ atTo N xs c rs ps k = ((p, q), x) ∧ wr.heap[w.heap.size]? = some (.cells #[.int .i64 N, .slice ao xs.length cap, .int .i64 c, .slice aor rs.length capr] 35 (0, 0)) ∧ wr.heap[w.heap.size + 1]? = some (.cells #[.int .i64 0, .int .i64 0] 56 (0, 0)) ∧ wr.heap[B]? = some (.cells #[.int .i64 p, .int .i64 q] 56 (0, 0)) ∧ Below w.heap.size w wr) (fun i _ _ => ps.length - (intOf i).toNat)
    case atStart => exact ⟨0, p0, q0, x0, Nat.zero_le _, rfl, rfl, h0, HBz.out, HBr.out, HBs.out, HW.out⟩
    case round =>
     clear HBz HBr HBs HW h0 Hyes htk hk
     try clear hlt
     obtain ⟨k, p, q, x, hk, rfl, rfl, hto, hz, hr, hs, hw⟩ := hrel
     have HTO := Lib.hid hto
     have HBz := Lib.hid hz
     have HBr := Lib.hid hr
     have HBs := Lib.hid hs
     have HW := Lib.hid hw
     clear hz hr hs hw hto
     have HNN : Hid ((N : Int).toNat = N) := Lib.hid (Int.toNat_natCast N)
     by_cases hlt : k < ps.length
     rotate_left
     ·have htk : decide ((k : Int) < (ps.length : Int)) = false := by simp; omega
      by_cases hx : x = 0
      ·subst hx
       have s0 : wr.cell? ⟨B, 0, none⟩ = some (.int .i64 p) := cell_of_row _ (B) 0 _ _ _ HBs.out
       have sf0 : wr.frozen? ⟨B, 0, none⟩ = false := frozen_of_row _ (B) 0 _ _ HBs.out
       have s1 : wr.cell? ⟨B, 1, none⟩ = some (.int .i64 q) := cell_of_row _ (B) 1 _ _ _ HBs.out
       have sf1 : wr.frozen? ⟨B, 1, none⟩ = false := frozen_of_row _ (B) 1 _ _ HBs.out
       have HF := Lib.hid (show patF (N : Int) xs c rs ps = ((p, q), 0) from patF_ok HALL.out (by rw [Int.toNat_natCast, show ps.length = k by omega]; exact HTO.out))
       have t0 : wr.cell? ⟨w.heap.size + 1, 0, none⟩ = some (.int .i64 0) := cell_of_row _ (w.heap.size + 1) 0 _ _ _ HBr.out
       have tf0 : wr.frozen? ⟨w.heap.size + 1, 0, none⟩ = false := frozen_of_row _ (w.heap.size + 1) 0 _ _ HBr.out
       have t1 : wr.cell? ⟨w.heap.size + 1, 1, none⟩ = some (.int .i64 0) := cell_of_row _ (w.heap.size + 1) 1 _ _ _ HBr.out
       have tf1 : wr.frozen? ⟨w.heap.size + 1, 1, none⟩ = false := frozen_of_row _ (w.heap.size + 1) 1 _ _ HBr.out
       go_wp2_with fail
       refine bodyPost_ret (v := .tuple #[.agg #[.int .i64 p, .int .i64 q], .int .i64 0]) (by simp [results, Tryz.results26, go_sem, t0, t1]) rfl ⟨RE.of HF.out, ?_⟩
       exact ((HW.out).setCell (by show w.heap.size ≤ w.heap.size + 1; omega) _).setCell (by show w.heap.size ≤ w.heap.size + 1; omega) _
      ·have hxb : (x != 0) = true := by simpa using hx
       have HF := Lib.hid (show patF (N : Int) xs c rs ps = ((0, 0), x) from patF_err HALL.out hk (by rw [Int.toNat_natCast]; exact HTO.out) hx)
       have t0 : wr.cell? ⟨w.heap.size + 1, 0, none⟩ = some (.int .i64 0) := cell_of_row _ (w.heap.size + 1) 0 _ _ _ HBr.out
       have tf0 : wr.frozen? ⟨w.heap.size + 1, 0, none⟩ = false := frozen_of_row _ (w.heap.size + 1) 0 _ _ HBr.out
       have t1 : wr.cell? ⟨w.heap.size + 1, 1, none⟩ = some (.int .i64 0) := cell_of_row _ (w.heap.size + 1) 1 _ _ _ HBr.out
       have tf1 : wr.frozen? ⟨w.heap.size + 1, 1, none⟩ = false := frozen_of_row _ (w.heap.size + 1) 1 _ _ HBr.out
       go_wp2_with fail
       refine bodyPost_ret (v := .tuple #[.agg #[.int .i64 0, .int .i64 0], .int .i64 x]) (by simp [results, Tryz.results26, go_sem, t0, t1]) rfl ⟨RE.of HF.out, ?_⟩
       exact ((HW.out).setCell (by show w.heap.size ≤ w.heap.size + 1; omega) _).setCell (by show w.heap.size ≤ w.heap.size + 1; omega) _
     have htk : decide ((k : Int) < (ps.length : Int)) = true := by simp; omega
     by_cases hx : x = 0
     rotate_left
     ·have hxb : (x != 0) = true := by simpa using hx
      have hxc : (x == 0) = false := by simpa using hx
      have HF := Lib.hid (show patF (N : Int) xs c rs ps = ((0, 0), x) from patF_err HALL.out hk (by rw [Int.toNat_natCast]; exact HTO.out) hx)
      have t0 : wr.cell? ⟨w.heap.size + 1, 0, none⟩ = some (.int .i64 0) := cell_of_row _ (w.heap.size + 1) 0 _ _ _ HBr.out
      have tf0 : wr.frozen? ⟨w.heap.size + 1, 0, none⟩ = false := frozen_of_row _ (w.heap.size + 1) 0 _ _ HBr.out
      have t1 : wr.cell? ⟨w.heap.size + 1, 1, none⟩ = some (.int .i64 0) := cell_of_row _ (w.heap.size + 1) 1 _ _ _ HBr.out
      have tf1 : wr.frozen? ⟨w.heap.size + 1, 1, none⟩ = false := frozen_of_row _ (w.heap.size + 1) 1 _ _ HBr.out
      go_wp2_with fail
      refine bodyPost_ret (v := .tuple #[.agg #[.int .i64 0, .int .i64 0], .int .i64 x]) (by simp [results, Tryz.results26, go_sem, t0, t1]) rfl ⟨RE.of HF.out, ?_⟩
      exact ((HW.out).setCell (by show w.heap.size ≤ w.heap.size + 1; omega) _).setCell (by show w.heap.size ≤ w.heap.size + 1; omega) _
     subst hx
     obtain ⟨b, off, rfl, hb, hcc⟩ := Hcp.out (by omega)
     obtain ⟨br, offr, rfl, hbr, hccr⟩ := Hcr.out (by have := HN.out; have := Hlr.out; omega)
     obtain ⟨E, hE⟩ : ∃ E, ge cdRes ps k = E := ⟨_, rfl⟩
     have HX0 := Lib.hid (fun (X : World) (h : Below w.heap.size w X) => (by
      refine ⟨?_, ?_⟩
      ·have h2 := ((bcell h).1 b (off + (k * 2 + 0)) hb).trans (hcc k 0 hlt (by decide))
       rw [hE] at h2
       rw [show off + k * 2 = off + (k * 2 + 0) by omega]
       exact h2
      ·have h2 := ((bcell h).1 b (off + (k * 2 + 1)) hb).trans (hcc k 1 hlt (by decide))
       rw [hE] at h2
       rw [show off + k * 2 + 1 = off + (k * 2 + 1) by omega]
       exact h2 : X.cell? ⟨b, off + k * 2, none⟩ = some (.int .i64 E.1) ∧ X.cell? ⟨b, off + k * 2 + 1, none⟩ = some (.int .i64 E.2)))
     have HR0 := Lib.hid (fun (X : World) (h : Below w.heap.size w X) => (by
      have h2 := ((bcell h).1 br (offr + (k * 1 + 0)) hbr).trans (hccr k 0 (by have := HN.out; have := Hlr.out; omega) (by decide))
      rw [show offr + k = offr + (k * 1 + 0) by omega]
      rw [h2]
      rfl : X.cell? ⟨br, offr + k, none⟩ = some (.int .i64 (gi rs k))))
     have HVE := Lib.hid (HV.out k hlt)
     rw [hE] at HVE
     have HNX := Lib.hid (atTo_next HTO.out)
     rw [hE] at HNX
     have HVS := Lib.hid (atTo_vr HTO.out)
     have k0 : (k : Int) < ps.length := by omega
     have k1 : (0 : Int) ≤ (k : Int) := by omega
     have k2 : (k : Int) < rs.length := by have := HN.out; have := Hlr.out; omega
     have hkN : k + 1 ≤ N := by have := HN.out; omega
     have Hlow := Lib.hid (low_i64 Hok.out hkN)
     have Hrat := Lib.hid (rate_i64 Hrng.out (k := k) (by omega))
     have Hk := Lib.hid hk
     have hBY : B < wr.heap.size := hp_lt3 HBs.out
     clear hcc hccr hE hlt hk
     have hl3 := Loc.three wr (.cells #[.int .i64 0, .int .i64 0] 56) (.cells #[.int .i64 0, .int .i64 0] 56) (.cells #[.int .i64 0, .int .i64 0] 56) none
     have hb4 := below_grownBy hl3.grown
     have hqf : (((wr.alloc (.cells #[.int .i64 0, .int .i64 0] 56)).alloc (.cells #[.int .i64 0, .int .i64 0] 56)).alloc (.cells #[.int .i64 0, .int .i64 0] 56)).heap[wr.heap.size]? = some (.cells #[.int .i64 0, .int .i64 0] 56 (0, 0)) := hl3.objs 0 (by simp)
     have hqt : (((wr.alloc (.cells #[.int .i64 0, .int .i64 0] 56)).alloc (.cells #[.int .i64 0, .int .i64 0] 56)).alloc (.cells #[.int .i64 0, .int .i64 0] 56)).heap[wr.heap.size + 1]? = some (.cells #[.int .i64 0, .int .i64 0] 56 (0, 0)) := hl3.objs 1 (by simp)
     have hqm : (((wr.alloc (.cells #[.int .i64 0, .int .i64 0] 56)).alloc (.cells #[.int .i64 0, .int .i64 0] 56)).alloc (.cells #[.int .i64 0, .int .i64 0] 56)).heap[wr.heap.size + 1 + 1]? = some (.cells #[.int .i64 0, .int .i64 0] 56 (0, 0)) := hl3.objs 2 (by simp)
     have hqz := hp_keep4 HBz.out hb4
     have hqr := hp_keep4 HBr.out hb4
     have hqs := hp_keep4 HBs.out hb4
     have hqw := bt HW.out hb4
     clear hl3 hb4 HBz HBr HBs HW
     go_upto_region 13 with fail
     generalize ((wr.alloc (.cells #[.int .i64 0, .int .i64 0] 56)).alloc (.cells #[.int .i64 0, .int .i64 0] 56)).alloc (.cells #[.int .i64 0, .int .i64 0] 56) = X4 at *
     generalize wr.heap.size = Y at *
     have HBz := Lib.hid hqz
     have HBr := Lib.hid hqr
     have HBs := Lib.hid hqs
     have HBf := Lib.hid hqf
     have HBt := Lib.hid hqt
     have HBm := Lib.hid hqm
     have HW := Lib.hid hqw
     clear hqz hqr hqs hqf hqt hqm hqw
     have z0 : X4.cell? ⟨w.heap.size, 0, none⟩ = some (.int .i64 N) := cell_of_row _ (w.heap.size) 0 _ _ _ HBz.out
     have zf0 : X4.frozen? ⟨w.heap.size, 0, none⟩ = false := frozen_of_row _ (w.heap.size) 0 _ _ HBz.out
     have z1 : X4.cell? ⟨w.heap.size, 1, none⟩ = some (.slice ao xs.length cap) := cell_of_row _ (w.heap.size) 1 _ _ _ HBz.out
     have zf1 : X4.frozen? ⟨w.heap.size, 1, none⟩ = false := frozen_of_row _ (w.heap.size) 1 _ _ HBz.out
     have z2 : X4.cell? ⟨w.heap.size, 2, none⟩ = some (.int .i64 c) := cell_of_row _ (w.heap.size) 2 _ _ _ HBz.out
     have zf2 : X4.frozen? ⟨w.heap.size, 2, none⟩ = false := frozen_of_row _ (w.heap.size) 2 _ _ HBz.out
     have z3 : X4.cell? ⟨w.heap.size, 3, none⟩ = some (.slice (some ⟨br, offr, none⟩) rs.length capr) := cell_of_row _ (w.heap.size) 3 _ _ _ HBz.out
     have zf3 : X4.frozen? ⟨w.heap.size, 3, none⟩ = false := frozen_of_row _ (w.heap.size) 3 _ _ HBz.out
     go_wp2_with fail
     refine (ref_low N _ ((k : Int) + 1) xs _ (Hv.out.keepb HW.out) Hok.out (by omega) (by omega)).mono ?_
     rintro e w5 ⟨rfl, hb5⟩
     rw [show ((k : Int) + 1).toNat = k + 1 by omega]
     clear z0 zf0 z1 zf1 z2 zf2 z3 zf3
     replace HBz := Lib.hid (hp_keep4 HBz.out hb5)
     replace HBr := Lib.hid (hp_keep4 HBr.out hb5)
     replace HBs := Lib.hid (hp_keep4 HBs.out hb5)
     replace HBf := Lib.hid (hp_keep4 HBf.out hb5)
     replace HBt := Lib.hid (hp_keep4 HBt.out hb5)
     replace HBm := Lib.hid (hp_keep4 HBm.out hb5)
     replace HW := Lib.hid (bt HW.out hb5)
     clear hb5
     go_wp2_with fail
     refine (r1_of (lowF N xs (k + 1)) _ Hlow.out).mono ?_
     rintro e w6 ⟨h, hbb⟩
     obtain ⟨fp, fq, ef, hef, rfl⟩ := re_open h
     clear h
     replace HBz := Lib.hid (hp_keep4 HBz.out hbb)
     replace HBr := Lib.hid (hp_keep4 HBr.out hbb)
     replace HBs := Lib.hid (hp_keep4 HBs.out hbb)
     replace HBf := Lib.hid (hp_keep4 HBf.out hbb)
     replace HBt := Lib.hid (hp_keep4 HBt.out hbb)
     replace HBm := Lib.hid (hp_keep4 HBm.out hbb)
     replace HW := Lib.hid (bt HW.out hbb)
     clear hbb
     have f0 : w6.cell? ⟨Y, 0, none⟩ = some (.int .i64 0) := cell_of_row _ (Y) 0 _ _ _ HBf.out
     have ff0 : w6.frozen? ⟨Y, 0, none⟩ = false := frozen_of_row _ (Y) 0 _ _ HBf.out
     have f1 : w6.cell? ⟨Y, 1, none⟩ = some (.int .i64 0) := cell_of_row _ (Y) 1 _ _ _ HBf.out
     have ff1 : w6.frozen? ⟨Y, 1, none⟩ = false := frozen_of_row _ (Y) 1 _ _ HBf.out
     skip
     go_upto_region 14 with fail
     have hqz := (st2_ne (w := w6) (b := Y) (c := w.heap.size) (.int .i64 fp) (.int .i64 fq) (by omega)).trans HBz.out
     have hqr := (st2_ne (w := w6) (b := Y) (c := w.heap.size + 1) (.int .i64 fp) (.int .i64 fq) (by omega)).trans HBr.out
     have hqs := (st2_ne (w := w6) (b := Y) (c := B) (.int .i64 fp) (.int .i64 fq) (by omega)).trans HBs.out
     have hqf := st2_at (.int .i64 fp) (.int .i64 fq) HBf.out
     have hqt := (st2_ne (w := w6) (b := Y) (c := Y + 1) (.int .i64 fp) (.int .i64 fq) (by omega)).trans HBt.out
     have hqm := (st2_ne (w := w6) (b := Y) (c := Y + 1 + 1) (.int .i64 fp) (.int .i64 fq) (by omega)).trans HBm.out
     have hqw := (HW.out.setCell (p := ⟨Y, 0, none⟩) (by show w.heap.size ≤ Y; omega) (.int .i64 fp)).setCell (p := ⟨Y, 1, none⟩) (by show w.heap.size ≤ Y; omega) (.int .i64 fq)
     clear HW HBz HBr HBs HBf HBt HBm
     generalize hgen : (w6.setCell ⟨Y, 0, none⟩ (.int .i64 fp)).setCell ⟨Y, 1, none⟩ (.int .i64 fq) = X6 at *
     clear hgen
     have HBz := Lib.hid hqz
     have HBr := Lib.hid hqr
     have HBs := Lib.hid hqs
     have HBf := Lib.hid hqf
     have HBt := Lib.hid hqt
     have HBm := Lib.hid hqm
     have HW := Lib.hid hqw
     clear hqw hqz hqr hqs hqf hqt hqm
     by_cases hx : ef = 0
     rotate_left
     ·have hxc : (ef == 0) = false := by simpa using hx
      have HQ := Lib.hid (show atTo N xs c rs ps (k + 1) = ((p, q), ef) from HNX.out.trans (at1_f (f := (fp, fq)) hef hx))
      go_wp2_with fail
      go_roundw
      case rel => exact ⟨k + 1, p, q, ef, by omega, by go_num, rfl, HQ.out, HBz.out, HBr.out, HBs.out, HW.out⟩
      case measure => simp [intOf]; omega
     subst hx
     have HVF := Lib.hid (ofR_vr (p := (fp, fq)) hef)
     have HSUB := Lib.hid (sb_sub23 HVE.out HVF.out)
     obtain ⟨e0, e1⟩ := HX0.out X6 HW.out
     have g0 : X6.cell? ⟨Y, 0, none⟩ = some (.int .i64 fp) := cell_of_row _ (Y) 0 _ _ _ HBf.out
     have gf0 : X6.frozen? ⟨Y, 0, none⟩ = false := frozen_of_row _ (Y) 0 _ _ HBf.out
     have g1 : X6.cell? ⟨Y, 1, none⟩ = some (.int .i64 fq) := cell_of_row _ (Y) 1 _ _ _ HBf.out
     have gf1 : X6.frozen? ⟨Y, 1, none⟩ = false := frozen_of_row _ (Y) 1 _ _ HBf.out
     go_upto_region 15 with fail
     refine wp_region_noPanic ?_
     refine wp_region_held_drew (S := (fun w' => (w'.cell? ⟨b, off + k * 2, none⟩ = some (.int .i64 E.1) ∧ w'.cell? ⟨b, off + k * 2 + 1, none⟩ = some (.int .i64 E.2)) ∧ w'.cell? ⟨Y, 0, none⟩ = some (.int .i64 fp) ∧ w'.cell? ⟨Y, 1, none⟩ = some (.int .i64 fq))) (by kernel_rfl) ⟨⟨e0, e1⟩, g0, g1⟩ (fun hHeld => ?_)
     refine wpAnyH_take (i := 0) (v := ?_) rfl (by kernel_rfl) (by kernel_rfl) (by kernel_rfl) (fun _ _ _ h => h) (Or.inl ⟨by rfl, ?_⟩) (by assumption) ?_
     rotate_left
     ·intro w hSw; (try dsimp only at hSw); go_simp; (try with_reducible rfl)
     try simp only [Act.put, List.getElem_toArray, List.getElem_cons_zero, List.setIfInBounds_toArray, List.set_cons_zero, List.set_cons_succ]
     refine wpAnyH_take (i := 1) (v := ?_) rfl (by kernel_rfl) (by kernel_rfl) (by kernel_rfl) (fun _ _ _ h => h) (Or.inl ⟨by rfl, ?_⟩) (by assumption) ?_
     rotate_left
     ·intro w hSw; (try dsimp only at hSw); go_simp; (try with_reducible rfl)
     try simp only [Act.put, List.getElem_toArray, List.getElem_cons_zero, List.getElem_cons_succ, List.setIfInBounds_toArray, List.set_cons_zero, List.set_cons_succ]
     refine wpAnyH_take (i := 2) (v := ?_) rfl (by kernel_rfl) (by kernel_rfl) (by kernel_rfl) (fun _ _ _ h => h) (Or.inl ⟨by rfl, ?_⟩) (by assumption) ?_
     rotate_left
     ·intro w hSw; (try dsimp only at hSw); go_simp; (try with_reducible rfl)
     try simp only [Act.put, List.getElem_toArray, List.getElem_cons_zero, List.getElem_cons_succ, List.setIfInBounds_toArray, List.set_cons_zero, List.set_cons_succ]
     refine wpAnyH_take (i := 3) (v := ?_) rfl (by kernel_rfl) (by kernel_rfl) (by kernel_rfl) (fun _ _ _ h => h) (Or.inl ⟨by rfl, ?_⟩) (by assumption) ?_
     rotate_left
     ·intro w hSw; (try dsimp only at hSw); go_simp; (try with_reducible rfl)
     try simp only [Act.put, List.getElem_toArray, List.getElem_cons_zero, List.getElem_cons_succ, List.setIfInBounds_toArray, List.set_cons_zero, List.set_cons_succ]
     refine wpAnyH_take (i := 4) (v := ?_) rfl (by kernel_rfl) (by kernel_rfl) (by kernel_rfl) (fun _ _ _ h => h) (Or.inl ⟨by rfl, ?_⟩) (by assumption) ?_
     rotate_left
     ·intro w hSw; (try dsimp only at hSw); go_simp; (try with_reducible rfl)
     try simp only [Act.put, List.getElem_toArray, List.getElem_cons_zero, List.getElem_cons_succ, List.setIfInBounds_toArray, List.set_cons_zero, List.set_cons_succ]
     clear g0 gf0 g1 gf1
     clear e0 e1
     replace HBz := Lib.hid (show X6.drew.heap[w.heap.size]? = _ from HBz.out)
     replace HBr := Lib.hid (show X6.drew.heap[w.heap.size + 1]? = _ from HBr.out)
     replace HBs := Lib.hid (show X6.drew.heap[B]? = _ from HBs.out)
     replace HBf := Lib.hid (show X6.drew.heap[Y]? = _ from HBf.out)
     replace HBt := Lib.hid (show X6.drew.heap[Y + 1]? = _ from HBt.out)
     replace HBm := Lib.hid (show X6.drew.heap[Y + 1 + 1]? = _ from HBm.out)
     replace HW := Lib.hid HW.out.drew
     clear hHeld
     generalize X6.drew = X7 at *
     refine wpAnyH_ready (rs := [5]) (by kernel_rfl) (by simp) ?_
     refine AllReadyH.cons rfl (fun K hK => ?_) AllReadyH.nil
     go_simp
     refine (r1_sub E.1 E.2 fp fq _).mono ?_
     rw [HSUB.out]
     rintro e w8 ⟨h, hbb⟩
     obtain ⟨mp, mq, em, hem, rfl⟩ := re_open h
     clear h
     replace HBz := Lib.hid (hp_keep4 HBz.out hbb)
     replace HBr := Lib.hid (hp_keep4 HBr.out hbb)
     replace HBs := Lib.hid (hp_keep4 HBs.out hbb)
     replace HBf := Lib.hid (hp_keep4 HBf.out hbb)
     replace HBt := Lib.hid (hp_keep4 HBt.out hbb)
     replace HBm := Lib.hid (hp_keep4 HBm.out hbb)
     replace HW := Lib.hid (bt HW.out hbb)
     clear hbb
     refine hK.out _ _ ⟨HX0.out w8 HW.out, cell_of_row _ Y 0 _ _ _ HBf.out, cell_of_row _ Y 1 _ _ _ HBf.out⟩ (fun hHeld2 => ?_)
     clear hK K
     try simp only [Act.put, List.getElem_toArray, List.getElem_cons_zero, List.getElem_cons_succ, List.setIfInBounds_toArray, List.set_cons_zero, List.set_cons_succ]
     refine wpAnyH_take (i := 6) (v := ?_) rfl (by kernel_rfl) (by kernel_rfl) (by kernel_rfl) (fun _ _ _ h => h) (Or.inl ⟨by rfl, ?_⟩) (by assumption) ?_
     rotate_left
     ·intro w hSw; (try dsimp only at hSw); go_simp; (try with_reducible rfl)
     try simp only [Act.put, List.getElem_toArray, List.getElem_cons_zero, List.getElem_cons_succ, List.setIfInBounds_toArray, List.set_cons_zero, List.set_cons_succ]
     refine wpAnyH_take (i := 7) (v := ?_) rfl (by kernel_rfl) (by kernel_rfl) (by kernel_rfl) (fun _ _ _ h => h) (Or.inl ⟨by rfl, ?_⟩) (by assumption) ?_
     rotate_left
     ·intro w hSw; (try dsimp only at hSw); go_simp; (try with_reducible rfl)
     try simp only [Act.put, List.getElem_toArray, List.getElem_cons_zero, List.getElem_cons_succ, List.setIfInBounds_toArray, List.set_cons_zero, List.set_cons_succ]
     refine wpAnyH_take (i := 8) (v := ?_) rfl (by kernel_rfl) (by kernel_rfl) (by kernel_rfl) (fun _ _ _ h => h) (Or.inl ⟨by rfl, ?_⟩) (by assumption) ?_
     rotate_left
     ·intro w hSw; (try dsimp only at hSw); go_simp; (try with_reducible rfl)
     try simp only [Act.put, List.getElem_toArray, List.getElem_cons_zero, List.getElem_cons_succ, List.setIfInBounds_toArray, List.set_cons_zero, List.set_cons_succ]
     have m0 : w8.cell? ⟨Y + 1 + 1, 0, none⟩ = some (.int .i64 0) := cell_of_row _ (Y + 1 + 1) 0 _ _ _ HBm.out
     have mf0 : w8.frozen? ⟨Y + 1 + 1, 0, none⟩ = false := frozen_of_row _ (Y + 1 + 1) 0 _ _ HBm.out
     have m1 : w8.cell? ⟨Y + 1 + 1, 1, none⟩ = some (.int .i64 0) := cell_of_row _ (Y + 1 + 1) 1 _ _ _ HBm.out
     have mf1 : w8.frozen? ⟨Y + 1 + 1, 1, none⟩ = false := frozen_of_row _ (Y + 1 + 1) 1 _ _ HBm.out
     have hqz := (st2_ne (w := w8) (b := Y + 1 + 1) (c := w.heap.size) (.int .i64 mp) (.int .i64 mq) (by omega)).trans HBz.out
     have hqr := (st2_ne (w := w8) (b := Y + 1 + 1) (c := w.heap.size + 1) (.int .i64 mp) (.int .i64 mq) (by omega)).trans HBr.out
     have hqs := (st2_ne (w := w8) (b := Y + 1 + 1) (c := B) (.int .i64 mp) (.int .i64 mq) (by omega)).trans HBs.out
     have hqf := (st2_ne (w := w8) (b := Y + 1 + 1) (c := Y) (.int .i64 mp) (.int .i64 mq) (by omega)).trans HBf.out
     have hqt := (st2_ne (w := w8) (b := Y + 1 + 1) (c := Y + 1) (.int .i64 mp) (.int .i64 mq) (by omega)).trans HBt.out
     have hqm := st2_at (.int .i64 mp) (.int .i64 mq) HBm.out
     have hqw := (HW.out.setCell (p := ⟨Y + 1 + 1, 0, none⟩) (by show w.heap.size ≤ Y + 1 + 1; omega) (.int .i64 mp)).setCell (p := ⟨Y + 1 + 1, 1, none⟩) (by show w.heap.size ≤ Y + 1 + 1; omega) (.int .i64 mq)
     refine wpAnyH_ready (rs := [9]) (by kernel_rfl) (by simp) ?_
     refine AllReadyH.cons rfl (fun K hK => ?_) AllReadyH.nil
     go_simp
     refine hK.out _ _ ⟨HX0.out _ hqw, cell_of_row _ Y 0 _ _ _ hqf, cell_of_row _ Y 1 _ _ _ hqf⟩ (fun hHeld2 => ?_)
     clear hK K
     try simp only [Act.put, List.getElem_toArray, List.getElem_cons_zero, List.getElem_cons_succ, List.setIfInBounds_toArray, List.set_cons_zero, List.set_cons_succ]
     refine wpAnyH_take (i := 10) (v := ?_) rfl (by kernel_rfl) (by kernel_rfl) (by kernel_rfl) (fun _ _ _ h => h) (Or.inl ⟨by rfl, ?_⟩) (by assumption) ?_
     rotate_left
     ·intro w hSw; (try dsimp only at hSw); go_simp; (try with_reducible rfl)
     try simp only [Act.put, List.getElem_toArray, List.getElem_cons_zero, List.getElem_cons_succ, List.setIfInBounds_toArray, List.set_cons_zero, List.set_cons_succ]
     refine wpAnyH_done (by kernel_rfl) ?_ _
     refine NoPanic.normal ?_
     clear HW m0 m1 mf0 mf1 HBz HBr HBs HBf HBt HBm
     try clear hHeld2
     generalize (w8.setCell ⟨Y + 1 + 1, 0, none⟩ (.int .i64 mp)).setCell ⟨Y + 1 + 1, 1, none⟩ (.int .i64 mq) = X8 at *
     have HBz := Lib.hid hqz
     have HBr := Lib.hid hqr
     have HBs := Lib.hid hqs
     have HBf := Lib.hid hqf
     have HBt := Lib.hid hqt
     have HBm := Lib.hid hqm
     have HW := Lib.hid hqw
     clear hqw hqz hqr hqs hqf hqt hqm
     by_cases hx : em = 0
     rotate_left
     ·have hxc : (em == 0) = false := by simpa using hx
      have HQ := Lib.hid (show atTo N xs c rs ps (k + 1) = ((p, q), em) from HNX.out.trans (at1_m (f := (fp, fq)) (m := (mp, mq)) hef hem hx))
      go_wp2_with fail
      go_roundw
      case rel => exact ⟨k + 1, p, q, em, by omega, by go_num, rfl, HQ.out, HBz.out, HBr.out, HBs.out, HW.out⟩
      case measure => simp [intOf]; omega
     subst hx
     have z0 : X8.cell? ⟨w.heap.size, 0, none⟩ = some (.int .i64 N) := cell_of_row _ (w.heap.size) 0 _ _ _ HBz.out
     have zf0 : X8.frozen? ⟨w.heap.size, 0, none⟩ = false := frozen_of_row _ (w.heap.size) 0 _ _ HBz.out
     have z1 : X8.cell? ⟨w.heap.size, 1, none⟩ = some (.slice ao xs.length cap) := cell_of_row _ (w.heap.size) 1 _ _ _ HBz.out
     have zf1 : X8.frozen? ⟨w.heap.size, 1, none⟩ = false := frozen_of_row _ (w.heap.size) 1 _ _ HBz.out
     have z2 : X8.cell? ⟨w.heap.size, 2, none⟩ = some (.int .i64 c) := cell_of_row _ (w.heap.size) 2 _ _ _ HBz.out
     have zf2 : X8.frozen? ⟨w.heap.size, 2, none⟩ = false := frozen_of_row _ (w.heap.size) 2 _ _ HBz.out
     have z3 : X8.cell? ⟨w.heap.size, 3, none⟩ = some (.slice (some ⟨br, offr, none⟩) rs.length capr) := cell_of_row _ (w.heap.size) 3 _ _ _ HBz.out
     have zf3 : X8.frozen? ⟨w.heap.size, 3, none⟩ = false := frozen_of_row _ (w.heap.size) 3 _ _ HBz.out
     have e0 := HR0.out X8 HW.out
     go_wp2_with fail
     refine (r1_of (gi rs k) _ Hrat.out).mono ?_
     rintro e w9 ⟨h, hbb⟩
     obtain ⟨qp, qq, eq, heq, rfl⟩ := re_open h
     clear h
     replace HBz := Lib.hid (hp_keep4 HBz.out hbb)
     replace HBr := Lib.hid (hp_keep4 HBr.out hbb)
     replace HBs := Lib.hid (hp_keep4 HBs.out hbb)
     replace HBf := Lib.hid (hp_keep4 HBf.out hbb)
     replace HBt := Lib.hid (hp_keep4 HBt.out hbb)
     replace HBm := Lib.hid (hp_keep4 HBm.out hbb)
     replace HW := Lib.hid (bt HW.out hbb)
     clear hbb
     clear e0
     clear z0 zf0 z1 zf1 z2 zf2 z3 zf3
     have t0 : w9.cell? ⟨Y + 1, 0, none⟩ = some (.int .i64 0) := cell_of_row _ (Y + 1) 0 _ _ _ HBt.out
     have tf0 : w9.frozen? ⟨Y + 1, 0, none⟩ = false := frozen_of_row _ (Y + 1) 0 _ _ HBt.out
     have t1 : w9.cell? ⟨Y + 1, 1, none⟩ = some (.int .i64 0) := cell_of_row _ (Y + 1) 1 _ _ _ HBt.out
     have tf1 : w9.frozen? ⟨Y + 1, 1, none⟩ = false := frozen_of_row _ (Y + 1) 1 _ _ HBt.out
     go_upto_region 18 with fail
     have hqz := (st2_ne (w := w9) (b := Y + 1) (c := w.heap.size) (.int .i64 qp) (.int .i64 qq) (by omega)).trans HBz.out
     have hqr := (st2_ne (w := w9) (b := Y + 1) (c := w.heap.size + 1) (.int .i64 qp) (.int .i64 qq) (by omega)).trans HBr.out
     have hqs := (st2_ne (w := w9) (b := Y + 1) (c := B) (.int .i64 qp) (.int .i64 qq) (by omega)).trans HBs.out
     have hqf := (st2_ne (w := w9) (b := Y + 1) (c := Y) (.int .i64 qp) (.int .i64 qq) (by omega)).trans HBf.out
     have hqt := st2_at (.int .i64 qp) (.int .i64 qq) HBt.out
     have hqm := (st2_ne (w := w9) (b := Y + 1) (c := Y + 1 + 1) (.int .i64 qp) (.int .i64 qq) (by omega)).trans HBm.out
     have hqw := (HW.out.setCell (p := ⟨Y + 1, 0, none⟩) (by show w.heap.size ≤ Y + 1; omega) (.int .i64 qp)).setCell (p := ⟨Y + 1, 1, none⟩) (by show w.heap.size ≤ Y + 1; omega) (.int .i64 qq)
     clear HW HBz HBr HBs HBf HBt HBm
     generalize hgen : (w9.setCell ⟨Y + 1, 0, none⟩ (.int .i64 qp)).setCell ⟨Y + 1, 1, none⟩ (.int .i64 qq) = X9 at *
     clear hgen
     have HBz := Lib.hid hqz
     have HBr := Lib.hid hqr
     have HBs := Lib.hid hqs
     have HBf := Lib.hid hqf
     have HBt := Lib.hid hqt
     have HBm := Lib.hid hqm
     have HW := Lib.hid hqw
     clear hqw hqz hqr hqs hqf hqt hqm
     try clear t0 t1 tf0 tf1
     by_cases hx : eq = 0
     rotate_left
     ·have hxc : (eq == 0) = false := by simpa using hx
      have HQ := Lib.hid (show atTo N xs c rs ps (k + 1) = ((p, q), eq) from HNX.out.trans (at1_q (f := (fp, fq)) (m := (mp, mq)) (q := (qp, qq)) hef hem heq hx))
      go_wp2_with fail
      go_roundw
      case rel => exact ⟨k + 1, p, q, eq, by omega, by go_num, rfl, HQ.out, HBz.out, HBr.out, HBs.out, HW.out⟩
      case measure => simp [intOf]; omega
     subst hx
     have t0 : X9.cell? ⟨Y + 1, 0, none⟩ = some (.int .i64 qp) := cell_of_row _ (Y + 1) 0 _ _ _ HBt.out
     have tf0 : X9.frozen? ⟨Y + 1, 0, none⟩ = false := frozen_of_row _ (Y + 1) 0 _ _ HBt.out
     have t1 : X9.cell? ⟨Y + 1, 1, none⟩ = some (.int .i64 qq) := cell_of_row _ (Y + 1) 1 _ _ _ HBt.out
     have tf1 : X9.frozen? ⟨Y + 1, 1, none⟩ = false := frozen_of_row _ (Y + 1) 1 _ _ HBt.out
     have m0 : X9.cell? ⟨Y + 1 + 1, 0, none⟩ = some (.int .i64 mp) := cell_of_row _ (Y + 1 + 1) 0 _ _ _ HBm.out
     have mf0 : X9.frozen? ⟨Y + 1 + 1, 0, none⟩ = false := frozen_of_row _ (Y + 1 + 1) 0 _ _ HBm.out
     have m1 : X9.cell? ⟨Y + 1 + 1, 1, none⟩ = some (.int .i64 mq) := cell_of_row _ (Y + 1 + 1) 1 _ _ _ HBm.out
     have mf1 : X9.frozen? ⟨Y + 1 + 1, 1, none⟩ = false := frozen_of_row _ (Y + 1 + 1) 1 _ _ HBm.out
     go_wp2_with fail
     refine (r1_mul qp qq mp mq _).mono ?_
     rintro e wA ⟨h, hbb⟩
     obtain ⟨yp, yq, ey, hey, rfl⟩ := re_open h
     clear h
     replace HBz := Lib.hid (hp_keep4 HBz.out hbb)
     replace HBr := Lib.hid (hp_keep4 HBr.out hbb)
     replace HBs := Lib.hid (hp_keep4 HBs.out hbb)
     replace HBf := Lib.hid (hp_keep4 HBf.out hbb)
     replace HBt := Lib.hid (hp_keep4 HBt.out hbb)
     replace HBm := Lib.hid (hp_keep4 HBm.out hbb)
     replace HW := Lib.hid (bt HW.out hbb)
     clear hbb
     clear t0 tf0 t1 tf1
     clear m0 mf0 m1 mf1
     have m0 : wA.cell? ⟨Y + 1 + 1, 0, none⟩ = some (.int .i64 mp) := cell_of_row _ (Y + 1 + 1) 0 _ _ _ HBm.out
     have mf0 : wA.frozen? ⟨Y + 1 + 1, 0, none⟩ = false := frozen_of_row _ (Y + 1 + 1) 0 _ _ HBm.out
     have m1 : wA.cell? ⟨Y + 1 + 1, 1, none⟩ = some (.int .i64 mq) := cell_of_row _ (Y + 1 + 1) 1 _ _ _ HBm.out
     have mf1 : wA.frozen? ⟨Y + 1 + 1, 1, none⟩ = false := frozen_of_row _ (Y + 1 + 1) 1 _ _ HBm.out
     go_upto_region 20 with fail
     have hqz := (st2_ne (w := wA) (b := Y + 1 + 1) (c := w.heap.size) (.int .i64 yp) (.int .i64 yq) (by omega)).trans HBz.out
     have hqr := (st2_ne (w := wA) (b := Y + 1 + 1) (c := w.heap.size + 1) (.int .i64 yp) (.int .i64 yq) (by omega)).trans HBr.out
     have hqs := (st2_ne (w := wA) (b := Y + 1 + 1) (c := B) (.int .i64 yp) (.int .i64 yq) (by omega)).trans HBs.out
     have hqf := (st2_ne (w := wA) (b := Y + 1 + 1) (c := Y) (.int .i64 yp) (.int .i64 yq) (by omega)).trans HBf.out
     have hqt := (st2_ne (w := wA) (b := Y + 1 + 1) (c := Y + 1) (.int .i64 yp) (.int .i64 yq) (by omega)).trans HBt.out
     have hqm := st2_at (.int .i64 yp) (.int .i64 yq) HBm.out
     have hqw := (HW.out.setCell (p := ⟨Y + 1 + 1, 0, none⟩) (by show w.heap.size ≤ Y + 1 + 1; omega) (.int .i64 yp)).setCell (p := ⟨Y + 1 + 1, 1, none⟩) (by show w.heap.size ≤ Y + 1 + 1; omega) (.int .i64 yq)
     clear HW HBz HBr HBs HBf HBt HBm
     generalize hgen : (wA.setCell ⟨Y + 1 + 1, 0, none⟩ (.int .i64 yp)).setCell ⟨Y + 1 + 1, 1, none⟩ (.int .i64 yq) = XA at *
     clear hgen
     have HBz := Lib.hid hqz
     have HBr := Lib.hid hqr
     have HBs := Lib.hid hqs
     have HBf := Lib.hid hqf
     have HBt := Lib.hid hqt
     have HBm := Lib.hid hqm
     have HW := Lib.hid hqw
     clear hqw hqz hqr hqs hqf hqt hqm
     try clear m0 m1 mf0 mf1
     by_cases hx : ey = 0
     rotate_left
     ·have hxc : (ey == 0) = false := by simpa using hx
      have HQ := Lib.hid (show atTo N xs c rs ps (k + 1) = ((p, q), ey) from HNX.out.trans (at1_y (f := (fp, fq)) (m := (mp, mq)) (q := (qp, qq)) (y := (yp, yq)) hef hem heq hey hx))
      go_wp2_with fail
      go_roundw
      case rel => exact ⟨k + 1, p, q, ey, by omega, by go_num, rfl, HQ.out, HBz.out, HBr.out, HBs.out, HW.out⟩
      case measure => simp [intOf]; omega
     subst hx
     have s0 : XA.cell? ⟨B, 0, none⟩ = some (.int .i64 p) := cell_of_row _ (B) 0 _ _ _ HBs.out
     have sf0 : XA.frozen? ⟨B, 0, none⟩ = false := frozen_of_row _ (B) 0 _ _ HBs.out
     have s1 : XA.cell? ⟨B, 1, none⟩ = some (.int .i64 q) := cell_of_row _ (B) 1 _ _ _ HBs.out
     have sf1 : XA.frozen? ⟨B, 1, none⟩ = false := frozen_of_row _ (B) 1 _ _ HBs.out
     have m0 : XA.cell? ⟨Y + 1 + 1, 0, none⟩ = some (.int .i64 yp) := cell_of_row _ (Y + 1 + 1) 0 _ _ _ HBm.out
     have mf0 : XA.frozen? ⟨Y + 1 + 1, 0, none⟩ = false := frozen_of_row _ (Y + 1 + 1) 0 _ _ HBm.out
     have m1 : XA.cell? ⟨Y + 1 + 1, 1, none⟩ = some (.int .i64 yq) := cell_of_row _ (Y + 1 + 1) 1 _ _ _ HBm.out
     have mf1 : XA.frozen? ⟨Y + 1 + 1, 1, none⟩ = false := frozen_of_row _ (Y + 1 + 1) 1 _ _ HBm.out
     go_wp2_with fail
     refine (r1_add p q yp yq _).mono ?_
     rintro e wB ⟨h, hbb⟩
     obtain ⟨np, nq, en, hen, rfl⟩ := re_open h
     clear h
     replace HBz := Lib.hid (hp_keep4 HBz.out hbb)
     replace HBr := Lib.hid (hp_keep4 HBr.out hbb)
     replace HBs := Lib.hid (hp_keep4 HBs.out hbb)
     replace HBf := Lib.hid (hp_keep4 HBf.out hbb)
     replace HBt := Lib.hid (hp_keep4 HBt.out hbb)
     replace HBm := Lib.hid (hp_keep4 HBm.out hbb)
     replace HW := Lib.hid (bt HW.out hbb)
     clear hbb
     clear s0 sf0 s1 sf1
     clear m0 mf0 m1 mf1
     have s0 : wB.cell? ⟨B, 0, none⟩ = some (.int .i64 p) := cell_of_row _ (B) 0 _ _ _ HBs.out
     have sf0 : wB.frozen? ⟨B, 0, none⟩ = false := frozen_of_row _ (B) 0 _ _ HBs.out
     have s1 : wB.cell? ⟨B, 1, none⟩ = some (.int .i64 q) := cell_of_row _ (B) 1 _ _ _ HBs.out
     have sf1 : wB.frozen? ⟨B, 1, none⟩ = false := frozen_of_row _ (B) 1 _ _ HBs.out
     go_upto_region 11 with fail
     have hqz := (st2_ne (w := wB) (b := B) (c := w.heap.size) (.int .i64 np) (.int .i64 nq) (by omega)).trans HBz.out
     have hqr := (st2_ne (w := wB) (b := B) (c := w.heap.size + 1) (.int .i64 np) (.int .i64 nq) (by omega)).trans HBr.out
     have hqs := st2_at (.int .i64 np) (.int .i64 nq) HBs.out
     have hqf := (st2_ne (w := wB) (b := B) (c := Y) (.int .i64 np) (.int .i64 nq) (by omega)).trans HBf.out
     have hqt := (st2_ne (w := wB) (b := B) (c := Y + 1) (.int .i64 np) (.int .i64 nq) (by omega)).trans HBt.out
     have hqm := (st2_ne (w := wB) (b := B) (c := Y + 1 + 1) (.int .i64 np) (.int .i64 nq) (by omega)).trans HBm.out
     have hqw := (HW.out.setCell (p := ⟨B, 0, none⟩) (by show w.heap.size ≤ B; omega) (.int .i64 np)).setCell (p := ⟨B, 1, none⟩) (by show w.heap.size ≤ B; omega) (.int .i64 nq)
     clear HW HBz HBr HBs HBf HBt HBm
     generalize hgen : (wB.setCell ⟨B, 0, none⟩ (.int .i64 np)).setCell ⟨B, 1, none⟩ (.int .i64 nq) = XB at *
     clear hgen
     have HBz := Lib.hid hqz
     have HBr := Lib.hid hqr
     have HBs := Lib.hid hqs
     have HBf := Lib.hid hqf
     have HBt := Lib.hid hqt
     have HBm := Lib.hid hqm
     have HW := Lib.hid hqw
     clear hqw hqz hqr hqs hqf hqt hqm
     try clear s0 s1 sf0 sf1
     have HQ := Lib.hid (show atTo N xs c rs ps (k + 1) = ((np, nq), en) from HNX.out.trans ((at1_ok (f := (fp, fq)) (m := (mp, mq)) (q := (qp, qq)) (y := (yp, yq)) hef hem heq hey).trans hen))
     go_wp2_with fail
     go_roundw
     case rel => exact ⟨k + 1, np, nq, en, by omega, by go_num, rfl, HQ.out, HBz.out, HBr.out, HBs.out, HW.out⟩
     case measure => simp [intOf]; omega
end Go.Proofs.YtfphlpglgcmljaaGreat
