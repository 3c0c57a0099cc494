/- Part of the proof of priced_covers_proved: Cph. -/
import Derived.Test.YtfphlpglgcmljaaGreatXvCvr
import Derived.Test.YtfphlpglgcmljaaGreatXvCpg
import Derived.Test.YtfphlpglgcmljaaGreatXvPic
namespace Go.Proofs.YtfphlpglgcmljaaGreat
open Go.RowKit
set_option linter.unusedVariables false
set_option linter.unusedSimpArgs false
set_option linter.unnecessarySimpa false
def dcT (rs2 rs : List Int) (M k : Nat) : List Int := (List.range M).map fun j => if j < k then gi rs2 j - gi rs j else gi rs2 j
theorem dcT_len (rs2 rs : List Int) (M k : Nat) : (dcT rs2 rs M k).length = M := by simp [dcT]
theorem dcT_at (rs2 rs : List Int) {M k j : Nat} (hj : j < M) : gi (dcT rs2 rs M k) j = if j < k then gi rs2 j - gi rs j else gi rs2 j := by
 unfold gi dcT; rw [List.getD_eq_getElem?_getD, List.getElem?_map, List.getElem?_range hj]; rfl
theorem dcT_next (rs2 rs : List Int) {M k : Nat} (hk : k < M) : (dcT rs2 rs M k).set k (gi rs2 k - gi rs k) = dcT rs2 rs M (k + 1) := by
 refine ext_gi (by rw [List.length_set, dcT_len, dcT_len]) (fun j hj => ?_)
 rw [List.length_set, dcT_len] at hj
 rw [dcT_at rs2 rs hj]
 by_cases e : j = k
 ·subst e; rw [gi_set_same (by rw [dcT_len]; exact hj), if_pos (by omega)]
 ·rw [gi_set_ne (fun c => e c.symm), dcT_at rs2 rs hj]
  by_cases c : j < k
  ·rw [if_pos c, if_pos (by omega)]
  ·rw [if_neg c, if_neg (by omega)]
theorem own_open2 {e base n c : Nat} {ao : Option Addr} {w : World} {xs : List Int} (h : OL e base w (.slice ao n c) xs) (hp : 0 < xs.length) :
  ∃ g, ao = some ⟨g, 0, none⟩ ∧ base ≤ g ∧ g < w.heap.size ∧ ∀ k, k < xs.length → w.cell? ⟨g, k, none⟩ = some (.int .i64 (gi xs k)) ∧ w.frozen? ⟨g, k, none⟩ = false := by
 obtain ⟨g, cap, he, h1, h2, _, h3⟩ := h.open hp
 cases he
 exact ⟨g, rfl, h1, h2, h3⟩
theorem dcT_zero (rs2 rs : List Int) {M : Nat} (h : rs2.length = M) : dcT rs2 rs M 0 = rs2 := ext_gi (by rw [dcT_len, h]) (fun j hj => by rw [dcT_len] at hj; rw [dcT_at rs2 rs hj, if_neg (by omega)])
theorem dcT_all (rs2 rs : List Int) (M : Nat) : dcT rs2 rs M M = dfT rs2 rs M M := ext_gi (by rw [dcT_len, dfT_len]) (fun j hj => by rw [dcT_len] at hj; rw [dcT_at rs2 rs hj, dfT_at rs2 rs hj, if_pos hj, if_pos hj])
set_option maxRecDepth 100000 in
set_option maxHeartbeats 16000000 in
theorem prog_covers (n c n2 c2 : Int) (v rv v2 rv2 : Value) (xs rs ys rs2 : List Int) (w : World) (hv : RL w.heap.size w v xs) (hr : RL w.heap.size w rv rs) (hv2 : RL w.heap.size w v2 ys) (hr2 : RL w.heap.size w rv2 rs2) (h3 : n ≤ 3) :
  Calls Tryz.prog 33 #[.agg #[.int .i64 n, v, .int .i64 c, rv], .agg #[.int .i64 n2, v2, .int .i64 c2, rv2]] w fun e w' => BE (covF n xs c rs n2 ys c2 rs2) e ∧ Below w.heap.size w w' := by
 obtain ⟨ao, cap, rfl, _, _⟩ := hv.open
 obtain ⟨aor, capr, rfl, _, h0r⟩ := hr.open
 obtain ⟨ao2, cap2, rfl, _, _⟩ := hv2.open
 obtain ⟨aor2, capr2, rfl, _, h0r2⟩ := hr2.open
 have H0r := Lib.hid h0r
 have H0r2 := Lib.hid h0r2
 have Hv0 := Lib.hid hv
 have Hr0 := Lib.hid hr
 have Hv20 := Lib.hid hv2
 have Hr20 := Lib.hid hr2
 clear h0r h0r2
 have hloc := Loc.two w (.cells #[.int .i64 n, .slice ao xs.length cap, .int .i64 c, .slice aor rs.length capr] 35) (.cells #[.int .i64 n2, .slice ao2 ys.length cap2, .int .i64 c2, .slice aor2 rs2.length capr2] 35) none
 have hbw := below_grownBy hloc.grown
 have hqa : ((w.alloc (.cells #[.int .i64 n, .slice ao xs.length cap, .int .i64 c, .slice aor rs.length capr] 35)).alloc (.cells #[.int .i64 n2, .slice ao2 ys.length cap2, .int .i64 c2, .slice aor2 rs2.length capr2] 35)).heap[w.heap.size]? = some (.cells #[.int .i64 n, .slice ao xs.length cap, .int .i64 c, .slice aor rs.length capr] 35 (0, 0)) := hloc.objs 0 (by simp)
 have hqb : ((w.alloc (.cells #[.int .i64 n, .slice ao xs.length cap, .int .i64 c, .slice aor rs.length capr] 35)).alloc (.cells #[.int .i64 n2, .slice ao2 ys.length cap2, .int .i64 c2, .slice aor2 rs2.length capr2] 35)).heap[w.heap.size + 1]? = some (.cells #[.int .i64 n2, .slice ao2 ys.length cap2, .int .i64 c2, .slice aor2 rs2.length capr2] 35 (0, 0)) := hloc.objs 1 (by simp)
 have hva := hv.keepb hbw
 have hra := hr.keepb hbw
 have hvb := hv2.keepb hbw
 have hrb := hr2.keepb hbw
 clear hv hr hv2 hr2 hloc
 go_enter Tryz.func33, Tryz.ntmps33
 go_upto_region 1 with fail
 generalize ((w.alloc (.cells #[.int .i64 n, .slice ao xs.length cap, .int .i64 c, .slice aor rs.length capr] 35)).alloc (.cells #[.int .i64 n2, .slice ao2 ys.length cap2, .int .i64 c2, .slice aor2 rs2.length capr2] 35)) = X1 at *
 have HW := Lib.hid hbw
 have HBa := Lib.hid hqa
 have HBb := Lib.hid hqb
 have Hva := Lib.hid hva
 have Hra := Lib.hid hra
 have Hvb := Lib.hid hvb
 have Hrb := Lib.hid hrb
 clear hbw hqa hqb hva hra hvb hrb
 have p0 : X1.cell? ⟨w.heap.size, 0, none⟩ = some (.int .i64 n) := cell_of_row _ (w.heap.size) 0 _ _ _ HBa.out
 have p1 : X1.cell? ⟨w.heap.size, 1, none⟩ = some (.slice ao xs.length cap) := cell_of_row _ (w.heap.size) 1 _ _ _ HBa.out
 have p2 : X1.cell? ⟨w.heap.size, 2, none⟩ = some (.int .i64 c) := cell_of_row _ (w.heap.size) 2 _ _ _ HBa.out
 have p3 : X1.cell? ⟨w.heap.size, 3, none⟩ = some (.slice aor rs.length capr) := cell_of_row _ (w.heap.size) 3 _ _ _ HBa.out
 go_wp2_with fail
 refine (prog_pcheck n c _ _ xs rs _ Hva.out Hra.out).mono ?_
 rintro e w1 ⟨rfl, hb⟩
 clear p0 p1 p2 p3
 replace HBa := Lib.hid (hp_keep4 HBa.out hb)
 replace HBb := Lib.hid (hp_keep4 HBb.out hb)
 replace Hva := Lib.hid (RL.keepb Hva.out hb)
 replace Hra := Lib.hid (RL.keepb Hra.out hb)
 replace Hvb := Lib.hid (RL.keepb Hvb.out hb)
 replace Hrb := Lib.hid (RL.keepb Hrb.out hb)
 replace HW := Lib.hid (bt HW.out hb)
 clear hb
 cases hpz : pzB n xs c rs with
 | false =>
  rw [pzE_no hpz]
  have HF := Lib.hid (show covF n xs c rs n2 ys c2 rs2 = (false, 2) by unfold covF; rw [if_neg]; intro q; rw [hpz] at q; cases q.1)
  go_wp2_with fail
  go_ret2
  exact ⟨by rw [HF.out]; rfl, HW.out⟩
 | true =>
  rw [pzE_yes hpz]
  have q0 : w1.cell? ⟨w.heap.size + 1, 0, none⟩ = some (.int .i64 n2) := cell_of_row _ (w.heap.size + 1) 0 _ _ _ HBb.out
  have q1 : w1.cell? ⟨w.heap.size + 1, 1, none⟩ = some (.slice ao2 ys.length cap2) := cell_of_row _ (w.heap.size + 1) 1 _ _ _ HBb.out
  have q2 : w1.cell? ⟨w.heap.size + 1, 2, none⟩ = some (.int .i64 c2) := cell_of_row _ (w.heap.size + 1) 2 _ _ _ HBb.out
  have q3 : w1.cell? ⟨w.heap.size + 1, 3, none⟩ = some (.slice aor2 rs2.length capr2) := cell_of_row _ (w.heap.size + 1) 3 _ _ _ HBb.out
  go_wp2_with fail
  refine (prog_pcheck n2 c2 _ _ ys rs2 _ Hvb.out Hrb.out).mono ?_
  rintro e w2 ⟨rfl, hb⟩
  clear q0 q1 q2 q3
  replace HBa := Lib.hid (hp_keep4 HBa.out hb)
  replace HBb := Lib.hid (hp_keep4 HBb.out hb)
  replace Hva := Lib.hid (RL.keepb Hva.out hb)
  replace Hra := Lib.hid (RL.keepb Hra.out hb)
  replace Hvb := Lib.hid (RL.keepb Hvb.out hb)
  replace Hrb := Lib.hid (RL.keepb Hrb.out hb)
  replace HW := Lib.hid (bt HW.out hb)
  clear hb
  cases hpz2 : pzB n2 ys c2 rs2 with
  | false =>
   rw [pzE_no hpz2]
   have HF := Lib.hid (show covF n xs c rs n2 ys c2 rs2 = (false, 2) by unfold covF; rw [if_neg]; intro q; rw [hpz2] at q; cases q.2.1)
   go_wp2_with fail
   go_ret2
   exact ⟨by rw [HF.out]; rfl, HW.out⟩
  | true =>
   rw [pzE_yes hpz2]
   have p0 : w2.cell? ⟨w.heap.size, 0, none⟩ = some (.int .i64 n) := cell_of_row _ (w.heap.size) 0 _ _ _ HBa.out
   have p1 : w2.cell? ⟨w.heap.size, 1, none⟩ = some (.slice ao xs.length cap) := cell_of_row _ (w.heap.size) 1 _ _ _ HBa.out
   have p2 : w2.cell? ⟨w.heap.size, 2, none⟩ = some (.int .i64 c) := cell_of_row _ (w.heap.size) 2 _ _ _ HBa.out
   have p3 : w2.cell? ⟨w.heap.size, 3, none⟩ = some (.slice aor rs.length capr) := cell_of_row _ (w.heap.size) 3 _ _ _ HBa.out
   have q0 : w2.cell? ⟨w.heap.size + 1, 0, none⟩ = some (.int .i64 n2) := cell_of_row _ (w.heap.size + 1) 0 _ _ _ HBb.out
   have q1 : w2.cell? ⟨w.heap.size + 1, 1, none⟩ = some (.slice ao2 ys.length cap2) := cell_of_row _ (w.heap.size + 1) 1 _ _ _ HBb.out
   have q2 : w2.cell? ⟨w.heap.size + 1, 2, none⟩ = some (.int .i64 c2) := cell_of_row _ (w.heap.size + 1) 2 _ _ _ HBb.out
   have q3 : w2.cell? ⟨w.heap.size + 1, 3, none⟩ = some (.slice aor2 rs2.length capr2) := cell_of_row _ (w.heap.size + 1) 3 _ _ _ HBb.out
   by_cases hnn : n = n2
   rotate_left
   ·have hnb : (n != n2) = true := by simpa using hnn
    have HF := Lib.hid (show covF n xs c rs n2 ys c2 rs2 = (false, 2) by unfold covF; rw [if_neg]; intro q; exact hnn q.2.2)
    go_wp2_with fail
    go_ret2
    exact ⟨by rw [HF.out]; rfl, HW.out⟩
   subst hnn
   have hnb : (n != n) = false := by simp
   obtain ⟨N, rfl, ok1, hl1, _⟩ := pzB_nat hpz
   obtain ⟨-, -, n1, cb1, rb1⟩ := pz_parts hpz
   obtain ⟨ok2, hl2, nn2, cb2, rb2⟩ := pz_parts hpz2
   have hN : N ≤ 3 := by omega
   have HP := Lib.hid (And.intro hpz hpz2)
   have HL := Lib.hid (And.intro hl1 hl2)
   have HCB := Lib.hid (cst0_bd hN ok1 ok2 n1 nn2 cb1 rb1)
   clear hpz hpz2 hl1 hl2
   obtain ⟨ib, ie, hinc⟩ : ∃ b e, incF N N xs ys = (b, e) := ⟨_, _, rfl⟩
   obtain rfl : ie = 0 := by
    unfold incF at hinc
    rw [if_pos ⟨ok1, ok2, rfl⟩] at hinc
    exact (congrArg Prod.snd hinc).symm
   have HI := Lib.hid hinc
   clear hinc
   go_upto_region 3 with fail
   go_wp2_with fail
   refine (prog_includes N N _ _ xs ys _ Hva.out Hvb.out).mono ?_
   rintro e w3 ⟨he, hb⟩
   rw [HI.out] at he
   obtain rfl : e = .returned (.tuple #[.bool ib, .int .i64 0]) := he
   clear p0 p1 p2 p3
   clear q0 q1 q2 q3
   replace HBa := Lib.hid (hp_keep4 HBa.out hb)
   replace HBb := Lib.hid (hp_keep4 HBb.out hb)
   replace Hva := Lib.hid (RL.keepb Hva.out hb)
   replace Hra := Lib.hid (RL.keepb Hra.out hb)
   replace Hvb := Lib.hid (RL.keepb Hvb.out hb)
   replace Hrb := Lib.hid (RL.keepb Hrb.out hb)
   replace HW := Lib.hid (bt HW.out hb)
   clear hb
   cases ib with
   | false =>
    have HF := Lib.hid (show covF N xs c rs N ys c2 rs2 = (false, 0) by unfold covF; rw [if_pos ⟨HP.out.1, HP.out.2, rfl⟩, HI.out]; rfl)
    go_wp2_with fail
    go_ret2
    exact ⟨by rw [HF.out]; rfl, HW.out⟩
   | true =>
    obtain ⟨M, hM⟩ : ∃ M, rs.length = M := ⟨_, rfl⟩
    have hM2 : rs2.length = M := by have := HL.out; omega
    have HMN := Lib.hid (show M = N from hM.symm.trans HL.out.1)
    have HM1 := Lib.hid hM
    have HM2 := Lib.hid hM2
    have HM3 := Lib.hid (show M ≤ 3 by have := HL.out.1; omega)
    have hBa2 := HBa.out
    rw [hM] at hBa2
    have hBb2 := HBb.out
    rw [hM2] at hBb2
    have hwz := hp_lt3 HBb.out
    clear HBa HBb hM hM2
    have HBa := Lib.hid hBa2
    have HBb := Lib.hid hBb2
    clear hBa2 hBb2
    have hM3 := HM3.out
    replace Hra := Lib.hid (show RL w3.heap.size w3 (.slice aor M capr) rs by have q := Hra.out; rwa [HM1.out] at q)
    replace Hrb := Lib.hid (show RL w3.heap.size w3 (.slice aor2 M capr2) rs2 by have q := Hrb.out; rwa [HM2.out] at q)
    have q0 : w3.cell? ⟨w.heap.size + 1, 0, none⟩ = some (.int .i64 N) := cell_of_row _ (w.heap.size + 1) 0 _ _ _ HBb.out
    have q1 : w3.cell? ⟨w.heap.size + 1, 1, none⟩ = some (.slice ao2 ys.length cap2) := cell_of_row _ (w.heap.size + 1) 1 _ _ _ HBb.out
    have q2 : w3.cell? ⟨w.heap.size + 1, 2, none⟩ = some (.int .i64 c2) := cell_of_row _ (w.heap.size + 1) 2 _ _ _ HBb.out
    have q3 : w3.cell? ⟨w.heap.size + 1, 3, none⟩ = some (.slice aor2 M capr2) := cell_of_row _ (w.heap.size + 1) 3 _ _ _ HBb.out
    go_upto_region 6 with fail
    go_wp2_with fail
    refine (clone64 _ rs2 _ Hrb.out (by have := HM2.out; omega)).mono ?_
    rintro e w4 ⟨⟨cv, rfl, hcv⟩, hb⟩
    have hcv2 : OL 2 (w.heap.size + 2) w4 cv (dcT rs2 rs M 0) := by
     rw [dcT_zero rs2 rs HM2.out]; exact OL.mono hcv (by omega)
    clear hcv
    obtain ⟨aoc, capc, rfl⟩ := owns_form hcv2
    have hln : (dcT rs2 rs M 0).length = M := dcT_len _ _ _ _
    rw [hln]
    rw [hln] at hcv2
    clear hln
    clear q0 q1 q2 q3
    replace HBa := Lib.hid (hp_keep4 HBa.out hb)
    replace HBb := Lib.hid (hp_keep4 HBb.out hb)
    replace Hva := Lib.hid (RL.keepb Hva.out hb)
    replace Hra := Lib.hid (RL.keepb Hra.out hb)
    replace Hvb := Lib.hid (RL.keepb Hvb.out hb)
    replace Hrb := Lib.hid (RL.keepb Hrb.out hb)
    replace HW := Lib.hid (bt HW.out hb)
    clear hb
    have HOw := Lib.hid hcv2
    clear hcv2
    have p0 : w4.cell? ⟨w.heap.size, 0, none⟩ = some (.int .i64 N) := cell_of_row _ (w.heap.size) 0 _ _ _ HBa.out
    have p1 : w4.cell? ⟨w.heap.size, 1, none⟩ = some (.slice ao xs.length cap) := cell_of_row _ (w.heap.size) 1 _ _ _ HBa.out
    have p2 : w4.cell? ⟨w.heap.size, 2, none⟩ = some (.int .i64 c) := cell_of_row _ (w.heap.size) 2 _ _ _ HBa.out
    have p3 : w4.cell? ⟨w.heap.size, 3, none⟩ = some (.slice aor M capr) := cell_of_row _ (w.heap.size) 3 _ _ _ HBa.out
    go_wp2_with fail
    clear p0 p1 p2 p3
    go_loopw [51] (fun s wr => ∃ k : Nat, k ≤ M ∧ s = .int .i64 k ∧ OL 2 (w.heap.size + 2) wr (.slice aoc M capc) (dcT rs2 rs M k) ∧ wr.heap[w.heap.size]? = some (.cells #[.int .i64 N, .slice ao xs.length cap, .int .i64 c, .slice aor M capr] 35 (0, 0)) ∧ wr.heap[w.heap.size + 1]? = some (.cells #[.int .i64 N, .slice ao2 ys.length cap2, .int .i64 c2, .slice aor2 M capr2] 35 (0, 0)) ∧ Below w.heap.size w wr) (fun s _ => M - (intOf s).toNat)
    case atStart => exact ⟨0, Nat.zero_le _, rfl, HOw.out, HBa.out, HBb.out, HW.out⟩
    case round =>
     clear HOw HBa HBb
     obtain ⟨k, hk, rfl, h1, h2, h4, h5⟩ := hrel
     have HOw := Lib.hid h1
     have HBa := Lib.hid h2
     have HBb := Lib.hid h4
     have HWn := Lib.hid h5
     clear h1 h2 h4 h5
     obtain ⟨wa, hwa⟩ : ∃ V, V = wr := ⟨_, rfl⟩
     subst hwa
     by_cases hlt : k < M
     ·skip
      have htk : decide ((k : Int) < (M : Int)) = true := by simp; omega
      obtain ⟨b1, o1, rfl, hb1, hc1⟩ := H0r.out (by have := HM1.out; omega)
      obtain ⟨g, rfl, hgb, hgl, hgc⟩ := own_open2 HOw.out (by rw [dcT_len]; omega)
      obtain ⟨E1, hE1⟩ : ∃ E, gi rs k = E := ⟨_, rfl⟩
      obtain ⟨E2, hE2⟩ : ∃ E, gi rs2 k = E := ⟨_, rfl⟩
      have e1b := rb1 k (by have := HMN.out; omega)
      have e2b := rb2 k (by have := HMN.out; omega)
      rw [hE1] at e1b
      rw [hE2] at e2b
      have x1 : wa.cell? ⟨b1, o1 + k, none⟩ = some (.int .i64 E1) := by
       have h := ((bcell HWn.out).1 b1 (o1 + k) hb1).trans (hc1 k (by have := HM1.out; omega))
       rw [hE1] at h
       exact h
      have x2 : wa.cell? ⟨g, k, none⟩ = some (.int .i64 E2) := by
       have h := (hgc k (by rw [dcT_len]; exact hlt)).1
       rw [dcT_at rs2 rs hlt, if_neg (by omega), hE2] at h
       exact h
      have xf : wa.frozen? ⟨g, k, none⟩ = false := (hgc k (by rw [dcT_len]; exact hlt)).2
      have k0 : (k : Int) < M := by omega
      have k1 : (0 : Int) ≤ (k : Int) := by omega
      have HwS : IntKind.i64.wrap (E2 - E1) = E2 - E1 := wr_id (by omega) (by omega)
      have hsd := (OL.stored HOw.out (dcT_len rs2 rs M k).symm k (E2 - E1)).1
      rw [show (dcT rs2 rs M k).set k (E2 - E1) = dcT rs2 rs M (k + 1) by rw [← hE1, ← hE2]; exact dcT_next rs2 rs hlt] at hsd
      have HS1 := Lib.hid hsd
      have HS2 := Lib.hid (show (wa.setCell ⟨g, k, none⟩ (.int .i64 (E2 - E1))).heap[w.heap.size]? = _ from (st1k_ne (w := wa) (b := g) (i := k) (c := w.heap.size) (.int .i64 (E2 - E1)) (by omega)).trans HBa.out)
      have HS3 := Lib.hid (show (wa.setCell ⟨g, k, none⟩ (.int .i64 (E2 - E1))).heap[w.heap.size + 1]? = _ from (st1k_ne (w := wa) (b := g) (i := k) (c := w.heap.size + 1) (.int .i64 (E2 - E1)) (by omega)).trans HBb.out)
      have HS4 := Lib.hid (HWn.out.setCell (p := ⟨g, k, none⟩) (by show w.heap.size ≤ g; omega) (.int .i64 (E2 - E1)))
      clear hc1 hgc hE1 hE2 hsd
      go_wp2_with fail
      go_roundw
      case rel => exact ⟨k + 1, by omega, by go_num, HS1.out, HS2.out, HS3.out, HS4.out⟩
      case measure => simp [intOf]; omega
     ·skip
      have htk : decide ((k : Int) < (M : Int)) = false := by simp; omega
      obtain rfl : M = k := by omega
      have HOw2 := Lib.hid (show OL 2 (w.heap.size + 2) wa (.slice aoc M capc) (dfT rs2 rs M M) by rw [← dcT_all]; exact HOw.out)
      clear HOw
      have HOw := Lib.hid HOw2.out
      clear HOw2
      have Hr1 := Lib.hid (show RL w.heap.size w (.slice aor M capr) rs by have q := Hr0.out; rwa [HM1.out] at q)
      have HOk2 := Lib.hid ok2
      have HOk1 := Lib.hid ok1
      have HNn := Lib.hid nn2
      have HR1 := Lib.hid rb1
      have HR2 := Lib.hid rb2
      have HC2 := Lib.hid cb2
      clear ok1 ok2 nn2 rb1 rb2 cb2 n1 cb1
      have HDf := Lib.hid (show ∀ k, k < N → -33554432 ≤ gi (dfT rs2 rs M M) k ∧ gi (dfT rs2 rs M M) k ≤ 33554432 from fun k hk => by
       have hkM : k < M := by have := HMN.out; omega
       rw [dfT_at rs2 rs hkM, if_pos hkM]
       have := HR1.out k hk
       have := HR2.out k hk
       omega)
      have HS := Lib.hid (fun (X : World) (hX : Below wa.heap.size wa X) => (⟨cell_of_row _ (w.heap.size) 0 _ _ _ (hp_keep4 HBa.out hX), cell_of_row _ (w.heap.size) 1 _ _ _ (hp_keep4 HBa.out hX), cell_of_row _ (w.heap.size) 2 _ _ _ (hp_keep4 HBa.out hX), cell_of_row _ (w.heap.size) 3 _ _ _ (hp_keep4 HBa.out hX), cell_of_row _ (w.heap.size + 1) 0 _ _ _ (hp_keep4 HBb.out hX), cell_of_row _ (w.heap.size + 1) 1 _ _ _ (hp_keep4 HBb.out hX), cell_of_row _ (w.heap.size + 1) 2 _ _ _ (hp_keep4 HBb.out hX)⟩ : X.cell? ⟨w.heap.size, 0, none⟩ = some (.int .i64 N) ∧ X.cell? ⟨w.heap.size, 1, none⟩ = some (.slice ao xs.length cap) ∧ X.cell? ⟨w.heap.size, 2, none⟩ = some (.int .i64 c) ∧ X.cell? ⟨w.heap.size, 3, none⟩ = some (.slice aor M capr) ∧ X.cell? ⟨w.heap.size + 1, 0, none⟩ = some (.int .i64 N) ∧ X.cell? ⟨w.heap.size + 1, 1, none⟩ = some (.slice ao2 ys.length cap2) ∧ X.cell? ⟨w.heap.size + 1, 2, none⟩ = some (.int .i64 c2)))
      have p0 : wa.cell? ⟨w.heap.size, 0, none⟩ = some (.int .i64 N) := cell_of_row _ (w.heap.size) 0 _ _ _ HBa.out
      have p1 : wa.cell? ⟨w.heap.size, 1, none⟩ = some (.slice ao xs.length cap) := cell_of_row _ (w.heap.size) 1 _ _ _ HBa.out
      have p2 : wa.cell? ⟨w.heap.size, 2, none⟩ = some (.int .i64 c) := cell_of_row _ (w.heap.size) 2 _ _ _ HBa.out
      have p3 : wa.cell? ⟨w.heap.size, 3, none⟩ = some (.slice aor M capr) := cell_of_row _ (w.heap.size) 3 _ _ _ HBa.out
      have q0 : wa.cell? ⟨w.heap.size + 1, 0, none⟩ = some (.int .i64 N) := cell_of_row _ (w.heap.size + 1) 0 _ _ _ HBb.out
      have q1 : wa.cell? ⟨w.heap.size + 1, 1, none⟩ = some (.slice ao2 ys.length cap2) := cell_of_row _ (w.heap.size + 1) 1 _ _ _ HBb.out
      have q2 : wa.cell? ⟨w.heap.size + 1, 2, none⟩ = some (.int .i64 c2) := cell_of_row _ (w.heap.size + 1) 2 _ _ _ HBb.out
      go_upto_region 12 with fail
      refine wp_region_noPanic ?_
      refine wp_region_held_drew (S := (fun w' => w'.cell? ⟨w.heap.size, 0, none⟩ = some (.int .i64 N) ∧ w'.cell? ⟨w.heap.size, 1, none⟩ = some (.slice ao xs.length cap) ∧ w'.cell? ⟨w.heap.size, 2, none⟩ = some (.int .i64 c) ∧ w'.cell? ⟨w.heap.size, 3, none⟩ = some (.slice aor M capr) ∧ w'.cell? ⟨w.heap.size + 1, 0, none⟩ = some (.int .i64 N) ∧ w'.cell? ⟨w.heap.size + 1, 1, none⟩ = some (.slice ao2 ys.length cap2) ∧ w'.cell? ⟨w.heap.size + 1, 2, none⟩ = some (.int .i64 c2))) (by kernel_rfl) ⟨p0, p1, p2, p3, q0, q1, q2⟩ (fun hHeld => ?_)
      refine wpAnyH_take (i := 0) (v := ?_) rfl (by kernel_rfl) (by kernel_rfl) (by kernel_rfl) (fun _ _ _ h => h) (Or.inl ⟨by rfl, ?_⟩) (by assumption) ?_
      rotate_left
      ·intro w hSw; (try dsimp only at hSw); go_simp; (try with_reducible rfl)
      try simp only [Act.put, List.getElem_toArray, List.getElem_cons_zero, List.setIfInBounds_toArray, List.set_cons_zero, List.set_cons_succ]
      refine wpAnyH_take (i := 1) (v := ?_) rfl (by kernel_rfl) (by kernel_rfl) (by kernel_rfl) (fun _ _ _ h => h) (Or.inl ⟨by rfl, ?_⟩) (by assumption) ?_
      rotate_left
      ·intro w hSw; (try dsimp only at hSw); go_simp; (try with_reducible rfl)
      try simp only [Act.put, List.getElem_toArray, List.getElem_cons_zero, List.getElem_cons_succ, List.setIfInBounds_toArray, List.set_cons_zero, List.set_cons_succ]
      refine wpAnyH_take (i := 2) (v := ?_) rfl (by kernel_rfl) (by kernel_rfl) (by kernel_rfl) (fun _ _ _ h => h) (Or.inl ⟨by rfl, ?_⟩) (by assumption) ?_
      rotate_left
      ·intro w hSw; (try dsimp only at hSw); go_simp; (try with_reducible rfl)
      try simp only [Act.put, List.getElem_toArray, List.getElem_cons_zero, List.getElem_cons_succ, List.setIfInBounds_toArray, List.set_cons_zero, List.set_cons_succ]
      refine wpAnyH_take (i := 3) (v := ?_) rfl (by kernel_rfl) (by kernel_rfl) (by kernel_rfl) (fun _ _ _ h => h) (Or.inl ⟨by rfl, ?_⟩) (by assumption) ?_
      rotate_left
      ·intro w hSw; (try dsimp only at hSw); go_simp; (try with_reducible rfl)
      try simp only [Act.put, List.getElem_toArray, List.getElem_cons_zero, List.getElem_cons_succ, List.setIfInBounds_toArray, List.set_cons_zero, List.set_cons_succ]
      refine wpAnyH_take (i := 4) (v := ?_) rfl (by kernel_rfl) (by kernel_rfl) (by kernel_rfl) (fun _ _ _ h => h) (Or.inl ⟨by rfl, ?_⟩) (by assumption) ?_
      rotate_left
      ·intro w hSw; (try dsimp only at hSw); go_simp; (try with_reducible rfl)
      try simp only [Act.put, List.getElem_toArray, List.getElem_cons_zero, List.getElem_cons_succ, List.setIfInBounds_toArray, List.set_cons_zero, List.set_cons_succ]
      refine wpAnyH_take (i := 5) (v := ?_) rfl (by kernel_rfl) (by kernel_rfl) (by kernel_rfl) (fun _ _ _ h => h) (Or.inl ⟨by rfl, ?_⟩) (by assumption) ?_
      rotate_left
      ·intro w hSw; (try dsimp only at hSw); go_simp; (try with_reducible rfl)
      try simp only [Act.put, List.getElem_toArray, List.getElem_cons_zero, List.getElem_cons_succ, List.setIfInBounds_toArray, List.set_cons_zero, List.set_cons_succ]
      refine wpAnyH_take (i := 6) (v := ?_) rfl (by kernel_rfl) (by kernel_rfl) (by kernel_rfl) (fun _ _ _ h => h) (Or.inl ⟨by rfl, ?_⟩) (by assumption) ?_
      rotate_left
      ·intro w hSw; (try dsimp only at hSw); go_simp; (try with_reducible rfl)
      try simp only [Act.put, List.getElem_toArray, List.getElem_cons_zero, List.getElem_cons_succ, List.setIfInBounds_toArray, List.set_cons_zero, List.set_cons_succ]
      refine wpAnyH_take (i := 10) (v := ?_) rfl (by kernel_rfl) (by kernel_rfl) (by kernel_rfl) (fun _ _ _ h => h) (Or.inl ⟨by rfl, ?_⟩) (by assumption) ?_
      rotate_left
      ·intro w hSw; (try dsimp only at hSw); go_simp; (try with_reducible rfl)
      try simp only [Act.put, List.getElem_toArray, List.getElem_cons_zero, List.getElem_cons_succ, List.setIfInBounds_toArray, List.set_cons_zero, List.set_cons_succ]
      have H0 := Lib.hid (show Below wa.heap.size wa wa.drew from (Below.refl _ _).drew)
      clear hHeld p0 p1 p2 p3 q0 q1 q2
      generalize wa.drew = L0 at *
      refine wpAnyH_ready (rs := [7]) (by kernel_rfl) (by simp) ?_
      refine AllReadyH.cons rfl (fun K hK => ?_) AllReadyH.nil
      go_simp
      refine (prog_corner N _ ys _ (Hv20.out.keepb (bt HWn.out H0.out)) HOk2.out).mono ?_
      rintro e L1 ⟨⟨cv, rfl, hcv⟩, hb⟩
      obtain ⟨aoc, capc, rfl⟩ := owns_form hcv
      have H1 := Lib.hid (bt H0.out hb)
      refine hK.out _ _ (HS.out L1 H1.out) (fun hHeld2 => ?_)
      clear hK K
      try simp only [Act.put, List.getElem_toArray, List.getElem_cons_zero, List.getElem_cons_succ, List.setIfInBounds_toArray, List.set_cons_zero, List.set_cons_succ]
      have Hcv := Lib.hid (OL.rl hcv)
      clear hcv hb
      refine wpAnyH_ready (rs := [8]) (by kernel_rfl) (by simp) ?_
      refine AllReadyH.cons rfl (fun K hK => ?_) AllReadyH.nil
      go_simp
      refine (prog_cost N c _ _ _ xs rs (crTo N ys N) _ (Hv0.out.keepb (bt HWn.out H1.out)) (Hr1.out.keepb (bt HWn.out H1.out)) Hcv.out HOk1.out HL.out.1 (crTo_len _ _ _)).mono ?_
      rintro e L2 ⟨he, hb⟩
      rw [cst_P] at he
      obtain rfl := he
      have H2 := Lib.hid (bt H1.out hb)
      refine hK.out _ _ (HS.out L2 H2.out) (fun hHeld2 => ?_)
      clear hK K
      try simp only [Act.put, List.getElem_toArray, List.getElem_cons_zero, List.getElem_cons_succ, List.setIfInBounds_toArray, List.set_cons_zero, List.set_cons_succ]
      clear hb
      refine wpAnyH_take (i := 9) (v := ?_) rfl (by kernel_rfl) (by kernel_rfl) (by kernel_rfl) (fun _ _ _ h => h) (Or.inl ⟨by rfl, ?_⟩) (by assumption) ?_
      rotate_left
      ·intro w hSw; (try dsimp only at hSw); go_simp; (try with_reducible rfl)
      try simp only [Act.put, List.getElem_toArray, List.getElem_cons_zero, List.getElem_cons_succ, List.setIfInBounds_toArray, List.set_cons_zero, List.set_cons_succ]
      rw [wr_id (by have := HC2.out; have := HCB.out; omega) (by have := HC2.out; have := HCB.out; omega)]
      refine wpAnyH_ready (rs := [11]) (by kernel_rfl) (by simp) ?_
      refine AllReadyH.cons rfl (fun K hK => ?_) AllReadyH.nil
      go_simp
      refine (prog_least23 N (c2 - cst0 N xs c rs ys) _ _ ys (dfT rs2 rs M M) _ (Hv20.out.keepb (bt HWn.out H2.out)) ((OL.rl HOw.out).keepb H2.out) HOk2.out (by have := HM3.out; have := HMN.out; omega) HNn.out ((dfT_len _ _ _ _).trans HMN.out) HDf.out (by have := HC2.out; have := HCB.out; omega)).mono ?_
      rintro e L3 ⟨⟨ln, lb, rfl, hlr⟩, hb⟩
      have HLr := Lib.hid hlr
      clear hlr
      have H3 := Lib.hid (bt H2.out hb)
      refine hK.out _ _ (HS.out L3 H3.out) (fun hHeld2 => ?_)
      clear hK K
      try simp only [Act.put, List.getElem_toArray, List.getElem_cons_zero, List.getElem_cons_succ, List.setIfInBounds_toArray, List.set_cons_zero, List.set_cons_succ]
      clear hb
      refine wpAnyH_take (i := 12) (v := ?_) rfl (by kernel_rfl) (by kernel_rfl) (by kernel_rfl) (fun _ _ _ h => h) (Or.inl ⟨by rfl, ?_⟩) (by assumption) ?_
      rotate_left
      ·intro w hSw; (try dsimp only at hSw); go_simp; (try with_reducible rfl)
      try simp only [Act.put, List.getElem_toArray, List.getElem_cons_zero, List.getElem_cons_succ, List.setIfInBounds_toArray, List.set_cons_zero, List.set_cons_succ]
      refine wpAnyH_take (i := 13) (v := ?_) rfl (by kernel_rfl) (by kernel_rfl) (by kernel_rfl) (fun _ _ _ h => h) (Or.inl ⟨by rfl, ?_⟩) (by assumption) ?_
      rotate_left
      ·intro w hSw; (try dsimp only at hSw); go_simp; (try with_reducible rfl)
      try simp only [Act.put, List.getElem_toArray, List.getElem_cons_zero, List.getElem_cons_succ, List.setIfInBounds_toArray, List.set_cons_zero, List.set_cons_succ]
      refine wpAnyH_take (i := 14) (v := ?_) rfl (by kernel_rfl) (by kernel_rfl) (by kernel_rfl) (fun _ _ _ h => h) (Or.inl ⟨by rfl, ?_⟩) (by assumption) ?_
      rotate_left
      ·intro w hSw; (try dsimp only at hSw); go_simp; (try with_reducible rfl)
      try simp only [Act.put, List.getElem_toArray, List.getElem_cons_zero, List.getElem_cons_succ, List.setIfInBounds_toArray, List.set_cons_zero, List.set_cons_succ]
      refine wpAnyH_take (i := 15) (v := ?_) rfl (by kernel_rfl) (by kernel_rfl) (by kernel_rfl) (fun _ _ _ h => h) (Or.inl ⟨by rfl, ?_⟩) (by assumption) ?_
      rotate_left
      ·intro w hSw; (try dsimp only at hSw); go_simp; (try with_reducible rfl)
      try simp only [Act.put, List.getElem_toArray, List.getElem_cons_zero, List.getElem_cons_succ, List.setIfInBounds_toArray, List.set_cons_zero, List.set_cons_succ]
      refine wpAnyH_take (i := 16) (v := ?_) rfl (by kernel_rfl) (by kernel_rfl) (by kernel_rfl) (fun _ _ _ h => h) (Or.inl ⟨by rfl, ?_⟩) (by assumption) ?_
      rotate_left
      ·intro w hSw; (try dsimp only at hSw); go_simp; (try with_reducible rfl)
      try simp only [Act.put, List.getElem_toArray, List.getElem_cons_zero, List.getElem_cons_succ, List.setIfInBounds_toArray, List.set_cons_zero, List.set_cons_succ]
      refine wpAnyH_done (by kernel_rfl) ?_ _
      refine NoPanic.normal ?_
      clear HS H0 H1 H2 Hcv
      have HF := Lib.hid (show covF N xs c rs N ys c2 rs2 = (lb && decide (0 ≤ ln), 0) by
       unfold covF
       rw [if_pos ⟨HP.out.1, HP.out.2, rfl⟩, HI.out]
       simp only [if_true, Int.toNat_natCast]
       refine Prod.ext (covF_dec ?_) rfl
       have q := HLr.out
       rw [HMN.out] at q
       exact q)
      have HE := Lib.hid (show Below w.heap.size w L3 from bt HWn.out H3.out)
      cases lb with
      | false =>
       go_wp2_with fail
       go_ret2
       exact ⟨by rw [HF.out]; rfl, HE.out⟩
      | true =>
       by_cases hge : (0 : Int) ≤ ln
       ·have hgb : decide (ln ≥ 0) = true := by simpa using hge
        go_wp2_with fail
        go_ret2
        exact ⟨by rw [HF.out, decide_eq_true hge]; rfl, HE.out⟩
       ·have hgb : decide (ln ≥ 0) = false := by simpa using hge
        go_wp2_with fail
        go_ret2
        exact ⟨by rw [HF.out, decide_eq_false (show ¬ 0 ≤ ln by omega)]; rfl, HE.out⟩
end Go.Proofs.YtfphlpglgcmljaaGreat
