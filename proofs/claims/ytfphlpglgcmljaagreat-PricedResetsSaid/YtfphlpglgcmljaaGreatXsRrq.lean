/- Part of the proof of priced_resets_proved: Rrq. -/
import Derived.Test.YtfphlpglgcmljaaGreatXsPrs
import Derived.Test.YtfphlpglgcmljaaGreatXsRag
namespace Go.Proofs.YtfphlpglgcmljaaGreat
open Go.RowKit
set_option linter.unusedVariables false
def anyK (N : Nat) (xs : List Int) (x : Nat) (s : Int) (q : Nat) : Bool := (List.range q).any fun j => isF N xs x s j
theorem anyK_succ (N : Nat) (xs : List Int) (x : Nat) (s : Int) (q : Nat) : anyK N xs x s (q + 1) = (anyK N xs x s q || isF N xs x s q) := by
 unfold anyK; rw [List.range_succ, List.any_append]; simp
theorem rC_eqR {N : Nat} {xs : List Int} {c : Int} {rs os : List Int} {x j y : Nat} {s Q : Int} (hQ : IntKind.i64.wrap (lowZ N os j + atF N xs x s j) = Q) (hy : x - 1 = y) (hx : 1 ≤ x) (hyN : y < N) (hl : (crR N os N).length = N) :
  rC N xs c rs os x j s = cstTo N xs c rs (fun k => gi ((crR N os N).set y Q) (k - 1)) N := by
 unfold rC
 refine cstTo_congr N fun k k1 k2 => ?_
 by_cases e : k = x
 ·rw [if_pos e, e, hy, gi_set_same (by rw [hl]; exact hyN), hQ]
 ·rw [if_neg e, gi_set_ne (fun h => e (by omega)), crR_at (by omega), show k - 1 + 1 = k by omega]
set_option maxRecDepth 100000 in
set_option maxHeartbeats 16000000 in
theorem ref_preset_neg (n c x tv : Int) (v rv : Value) (xs rs : List Int) (w : World) (hv : RL w.heap.size w v xs) (hr : RL w.heap.size w rv rs) (hcase : gi rs (x.toNat - 1) < 0) :
  Calls Tryz.prog 22 #[.agg #[.int .i64 n, v, .int .i64 c, rv], .agg #[.int .i64 x, .int .i64 tv]] w fun e w' => GaP w.heap.size (presetF n xs c rs x tv) e w' ∧ Below w.heap.size w w' := by
 have Hcase := Lib.hid hcase
 have Hv := Lib.hid hv
 have Hr := Lib.hid hr
 obtain ⟨ao, cap, rfl, hle, _⟩ := hv.open
 obtain ⟨aor, capr, rfl, hler, hcr⟩ := (RL.re hr).open
 have Hcr := Lib.hid hcr
 clear hv hr hcr hcase
 have hloc := Loc.two w (.cells #[.int .i64 n, .slice ao xs.length cap, .int .i64 c, .slice aor rs.length capr] 35) (.cells #[.int .i64 x, .int .i64 tv] 48) none
 have hbw := below_grownBy hloc.grown
 have hqz : ((w.alloc (.cells #[.int .i64 n, .slice ao xs.length cap, .int .i64 c, .slice aor rs.length capr] 35)).alloc (.cells #[.int .i64 x, .int .i64 tv] 48)).heap[w.heap.size]? = some (.cells #[.int .i64 n, .slice ao xs.length cap, .int .i64 c, .slice aor rs.length capr] 35 (0, 0)) := hloc.objs 0 (by simp)
 have hqq : ((w.alloc (.cells #[.int .i64 n, .slice ao xs.length cap, .int .i64 c, .slice aor rs.length capr] 35)).alloc (.cells #[.int .i64 x, .int .i64 tv] 48)).heap[w.heap.size + 1]? = some (.cells #[.int .i64 x, .int .i64 tv] 48 (0, 0)) := hloc.objs 1 (by simp)
 clear hloc
 go_enter Tryz.func22, Tryz.ntmps22
 go_upto_region 1 with fail
 generalize ((w.alloc (.cells #[.int .i64 n, .slice ao xs.length cap, .int .i64 c, .slice aor rs.length capr] 35)).alloc (.cells #[.int .i64 x, .int .i64 tv] 48)) = X1 at *
 have HW := Lib.hid hbw
 have HBz := Lib.hid hqz
 have HBq := Lib.hid hqq
 clear hbw hqz hqq
 have z0 : X1.cell? ⟨w.heap.size, 0, none⟩ = some (.int .i64 n) := cell_of_row _ (w.heap.size) 0 _ _ _ HBz.out
 have z1 : X1.cell? ⟨w.heap.size, 1, none⟩ = some (.slice ao xs.length cap) := cell_of_row _ (w.heap.size) 1 _ _ _ HBz.out
 have z2 : X1.cell? ⟨w.heap.size, 2, none⟩ = some (.int .i64 c) := cell_of_row _ (w.heap.size) 2 _ _ _ HBz.out
 have z3 : X1.cell? ⟨w.heap.size, 3, none⟩ = some (.slice aor rs.length capr) := cell_of_row _ (w.heap.size) 3 _ _ _ HBz.out
 go_wp2_with fail
 refine (ref_pcheck n c _ _ xs rs _ (Hv.out.keepb HW.out) (Hr.out.keepb HW.out)).mono ?_
 rintro e w1 ⟨rfl, hb⟩
 clear z0 z1 z2 z3
 replace HBz := Lib.hid (hp_keep4 HBz.out hb)
 replace HBq := Lib.hid (hp_keep4 HBq.out hb)
 replace HW := Lib.hid (bt HW.out hb)
 clear hb
 cases hpz : pzB n xs c rs with
 | false =>
  rw [pzE_no hpz]
  have HF := Lib.hid (preset_bad (fun h => by rw [hpz] at h; exact absurd h.1 (by simp)) : presetF n xs c rs x tv = ([], 2))
  go_wp2_with fail
  exact bodyPost_ret (v := .tuple #[.slice none 0 0, .int .i64 2]) (by simp [results, Tryz.results22, go_sem]) rfl ⟨GaP.err HF.out _, HW.out⟩
 | true =>
  rw [pzE_yes hpz]
  obtain ⟨N, rfl, hok, hlr, hc⟩ := pzB_nat hpz
  have hN : N ≤ 10 := by have := hok.hi; omega
  have Hok := Lib.hid hok
  have Hc := Lib.hid hc
  have Hlr := Lib.hid hlr
  have HPZ := Lib.hid (show pzB N xs c rs = true from hpz)
  clear hok hlr hc hpz
  have z0 : w1.cell? ⟨w.heap.size, 0, none⟩ = some (.int .i64 N) := cell_of_row _ (w.heap.size) 0 _ _ _ HBz.out
  have z1 : w1.cell? ⟨w.heap.size, 1, none⟩ = some (.slice ao xs.length cap) := cell_of_row _ (w.heap.size) 1 _ _ _ HBz.out
  have z2 : w1.cell? ⟨w.heap.size, 2, none⟩ = some (.int .i64 c) := cell_of_row _ (w.heap.size) 2 _ _ _ HBz.out
  have z3 : w1.cell? ⟨w.heap.size, 3, none⟩ = some (.slice aor rs.length capr) := cell_of_row _ (w.heap.size) 3 _ _ _ HBz.out
  have q0 : w1.cell? ⟨w.heap.size + 1, 0, none⟩ = some (.int .i64 x) := cell_of_row _ (w.heap.size + 1) 0 _ _ _ HBq.out
  have q1 : w1.cell? ⟨w.heap.size + 1, 1, none⟩ = some (.int .i64 tv) := cell_of_row _ (w.heap.size + 1) 1 _ _ _ HBq.out
  have hba := (Below.refl _ w1).alloc (Nat.le_refl _) (.cells #[.int .i64 x, .int .i64 tv] 48)
  have HRX := Lib.hid (show RX cdRes (w1.alloc (.cells #[.int .i64 x, .int .i64 tv] 48)).heap.size (w1.alloc (.cells #[.int .i64 x, .int .i64 tv] 48)) (.slice (some ⟨w1.heap.size, 0, none⟩) 1 1) [(x, tv)] from by rw [World.size_alloc]; exact rx_lit)
  go_wp2_with fail
  refine (ref_resets N _ [(x, tv)] _ HRX.out).mono ?_
  rw [rssB_one]
  rintro e w2 ⟨rfl, hb⟩
  replace hb := bt hba hb
  clear hba HRX
  clear z0 z1 z2 z3
  clear q0 q1
  replace HBz := Lib.hid (hp_keep4 HBz.out hb)
  replace HBq := Lib.hid (hp_keep4 HBq.out hb)
  replace HW := Lib.hid (bt HW.out hb)
  clear hb
  cases hrs : rsB N (x, tv) with
  | false =>
   have HF := Lib.hid (preset_bad (fun h => by rw [hrs] at h; exact absurd h.2 (by simp)) : presetF N xs c rs x tv = ([], 2))
   go_wp2_with fail
   exact bodyPost_ret (v := .tuple #[.slice none 0 0, .int .i64 2]) (by simp [results, Tryz.results22, go_sem]) rfl ⟨GaP.err HF.out _, HW.out⟩
  | true =>
   obtain ⟨hx1, hx2, ht1, ht2⟩ : 1 ≤ x ∧ x ≤ N ∧ 0 ≤ tv ∧ tv ≤ 1048576 := by
    unfold rsB btw at hrs
    simp only [Bool.and_eq_true, decide_eq_true_eq] at hrs
    exact ⟨hrs.1.1, hrs.1.2, hrs.2.1, hrs.2.2⟩
   obtain ⟨u, rfl⟩ := Int.eq_ofNat_of_zero_le (show 0 ≤ x by omega)
   have hu1 : 1 ≤ u := by omega
   have hu2 : u ≤ N := by omega
   have HPRE := Lib.hid (show pzB N xs c rs = true ∧ rsB N ((u : Int), tv) = true from ⟨HPZ.out, hrs⟩)
   have HRV := Lib.hid (reset_val Hok.out hu1 hu2 ht1 ht2)
   have HWS := Lib.hid (rsE_ok Hok.out hu1 hu2 ht1 ht2)
   generalize mkZ N (rsE N xs u tv) = ws at *
   clear hrs hx1 hx2 ht1 ht2
   have z0 : w2.cell? ⟨w.heap.size, 0, none⟩ = some (.int .i64 N) := cell_of_row _ (w.heap.size) 0 _ _ _ HBz.out
   have z1 : w2.cell? ⟨w.heap.size, 1, none⟩ = some (.slice ao xs.length cap) := cell_of_row _ (w.heap.size) 1 _ _ _ HBz.out
   have z2 : w2.cell? ⟨w.heap.size, 2, none⟩ = some (.int .i64 c) := cell_of_row _ (w.heap.size) 2 _ _ _ HBz.out
   have z3 : w2.cell? ⟨w.heap.size, 3, none⟩ = some (.slice aor rs.length capr) := cell_of_row _ (w.heap.size) 3 _ _ _ HBz.out
   have q0 : w2.cell? ⟨w.heap.size + 1, 0, none⟩ = some (.int .i64 (u : Int)) := cell_of_row _ (w.heap.size + 1) 0 _ _ _ HBq.out
   have q1 : w2.cell? ⟨w.heap.size + 1, 1, none⟩ = some (.int .i64 tv) := cell_of_row _ (w.heap.size + 1) 1 _ _ _ HBq.out
   go_wp2_with fail
   refine (ref_reset N u tv _ xs _ (Hv.out.keepb HW.out)).mono ?_
   rw [← reset_eq, HRV.out]
   rintro e w3 ⟨⟨va, he, hoa⟩, hb⟩
   obtain rfl : e = .returned (.tuple #[.agg #[.int .i64 N, va], .int .i64 0]) := he
   have hoa : OL _ _ _ _ ws := hoa
   obtain ⟨aoa, capa, rfl⟩ := owns_form hoa
   have HA := Lib.hid (OL.mono hoa (Nat.zero_le _))
   clear hoa
   clear z0 z1 z2 z3
   clear q0 q1
   replace HBz := Lib.hid (hp_keep4 HBz.out hb)
   replace HBq := Lib.hid (hp_keep4 HBq.out hb)
   replace HW := Lib.hid (bt HW.out hb)
   clear hb
   have hba := (Below.refl _ w3).alloc (Nat.le_refl _) (.cells #[.int .i64 N, .slice aoa ws.length capa] 32)
   have hqn := heap_alloc_new w3 (.cells #[.int .i64 N, .slice aoa ws.length capa] 32)
   have hqW := HW.out.size
   have hlz : w.heap.size < w3.heap.size := hp_lt3 HBz.out
   have hqz := hp_keep4 HBz.out hba
   have hlq : w.heap.size + 1 < w3.heap.size := hp_lt3 HBq.out
   have hqq := hp_keep4 HBq.out hba
   have hqHA := OL.keepb HA.out hba
   have hqw := bt HW.out hba
   clear hba HW HBz HBq HA
   go_upto_region 5 with fail
   generalize hgen : w3.alloc (.cells #[.int .i64 N, .slice aoa ws.length capa] 32) = X3 at *
   clear hgen
   generalize hgen : w3.heap.size = A at *
   clear hgen
   have HBa := Lib.hid hqn
   have HBz := Lib.hid hqz
   have HBq := Lib.hid hqq
   have HA := Lib.hid hqHA
   have HW := Lib.hid hqw
   clear hqn hqw hqz hqq hqHA
   obtain ⟨y, hy⟩ : ∃ y, u = y + 1 := ⟨u - 1, (Nat.succ_pred_eq_of_pos hu1).symm⟩
   have hxy : (u : Int) - 1 = (y : Int) := by omega
   have hyx : u - 1 = y := by omega
   have y0 : (y : Int) < (rs.length : Int) := by have := Hlr.out; omega
   have y1 : (0 : Int) ≤ (y : Int) := by omega
   obtain ⟨br, offr, rfl, hbr, hccr⟩ := Hcr.out (by have := Hlr.out; omega)
   obtain ⟨s, hs⟩ : ∃ s, gi rs y = s := ⟨_, rfl⟩
   have HSL := Lib.hid (show gi rs (u - 1) = s by rw [hyx]; exact hs)
   have hcs := Hcase.out
   rw [Int.toNat_natCast, HSL.out] at hcs
   have e0 : X3.cell? ⟨br, offr + y, none⟩ = some (.int .i64 s) := by
    have h2 := ((bcell HW.out).1 br (offr + (y * 1 + 0)) hbr).trans (hccr y 0 (by omega) (by decide))
    rw [show offr + y = offr + (y * 1 + 0) by omega]
    rw [h2, ← hs]
    rfl
   clear hccr hs hy
   have z0 : X3.cell? ⟨w.heap.size, 0, none⟩ = some (.int .i64 N) := cell_of_row _ (w.heap.size) 0 _ _ _ HBz.out
   have z1 : X3.cell? ⟨w.heap.size, 1, none⟩ = some (.slice ao xs.length cap) := cell_of_row _ (w.heap.size) 1 _ _ _ HBz.out
   have z2 : X3.cell? ⟨w.heap.size, 2, none⟩ = some (.int .i64 c) := cell_of_row _ (w.heap.size) 2 _ _ _ HBz.out
   have z3 : X3.cell? ⟨w.heap.size, 3, none⟩ = some (.slice (some ⟨br, offr, none⟩) rs.length capr) := cell_of_row _ (w.heap.size) 3 _ _ _ HBz.out
   go_upto_region 6 with fail
   clear z0 z1 z2 z3 e0
   have hsb : (s == 0) = false := by simp; omega
   have HS0 := Lib.hid (show s ≠ 0 by omega)
   have HCS := Lib.hid hcs
   have hsb2 : decide (s < 0) = true := by simp; omega
   have HAG := Lib.hid (fun (j : Nat) => (by have h := agA_is N xs u j s; rwa [hsb2] at h : agA N xs u j true = atF N xs u s j))
   have HBG := Lib.hid (fun (j : Nat) => (by have h := agB_is N xs u j s; rwa [hsb2] at h : agB N xs u j true = !noF N xs u s j))
   have HSG := Lib.hid (show s < 0 from HCS.out)
   have hBz : w.heap.size < X3.heap.size := hp_lt3 HBz.out
   have hBq : w.heap.size + 1 < X3.heap.size := hp_lt3 HBq.out
   have hBa : A < X3.heap.size := hp_lt3 HBa.out
   have hBW : w.heap.size ≤ X3.heap.size := HW.out.size
   go_wp2_with fail
   go_loopw [14, 12, 13] (fun i u1 sm wa => ∃ (q : Nat) (els : List Pz) (l : List Pv), q ≤ N + 1 ∧ i = .int .i64 q ∧ sm = .bool (anyK N xs u s q) ∧ gaTo (rG N xs c rs ws u s) 0 q = (l, 0) ∧ OE cdPz 35 X3.heap.size wa u1 els ∧ LZ wa els ∧ els.map pvOf = l ∧ els.length ≤ q ∧ X3.heap.size ≤ wa.heap.size ∧ wa.heap[w.heap.size]? = some (.cells #[.int .i64 N, .slice ao xs.length cap, .int .i64 c, .slice (some ⟨br, offr, none⟩) rs.length capr] 35 (0, 0)) ∧ wa.heap[w.heap.size + 1]? = some (.cells #[.int .i64 (u : Int), .int .i64 tv] 48 (0, 0)) ∧ wa.heap[A]? = some (.cells #[.int .i64 N, .slice aoa ws.length capa] 32 (0, 0)) ∧ OL 63 0 wa (.slice aoa ws.length capa) ws ∧ Below w.heap.size w wa) (fun i _ _ _ => N + 2 - (intOf i).toNat)
   case atStart => exact ⟨0, [], [], Nat.zero_le _, rfl, rfl, rfl, OE.nil _ _ _ _, LZ.nil _, rfl, by simp, Nat.le_refl _, HBz.out, HBq.out, HBa.out, HA.out, HW.out⟩
   case round =>
    obtain ⟨wa, hwa⟩ : ∃ V, V = wr := ⟨_, rfl⟩
    subst hwa
    clear HW HA HBz HBq HBa
    obtain ⟨q, els, l, hq, rfl, rfl, hga, hoe, hlz, hmp, hln, hba9, hz, hq, ha, ha1, hw⟩ := hrel
    have HW := Lib.hid hw
    have HA := Lib.hid ha1
    have HBz := Lib.hid hz
    have HBq := Lib.hid hq
    have HBa := Lib.hid ha
    have HGA := Lib.hid hga
    have HE := Lib.hid hoe
    have HZ := Lib.hid hlz
    have HMP := Lib.hid hmp
    obtain ⟨aou9, nu, capu9, rfl⟩ : ∃ ao n cap, u12 = .slice ao n cap := by obtain ⟨a, b, h⟩ := owns_form hoe; exact ⟨a, _, b, h⟩
    have HI := Lib.hid (Below.refl wa.heap.size wa)
    clear hw ha1 hga hoe hlz hmp hz hq ha
    obtain ⟨AK, hAK⟩ : ∃ A, anyK N xs u s q = A := ⟨_, rfl⟩
    have HAK := Lib.hid hAK
    rw [hAK]
    clear hAK
    by_cases hlt : q < N + 1
    rotate_left
    ·have htk : decide ((q : Int) ≤ (N : Int)) = false := by simp; omega
     have hNq : q = N + 1 := by omega
     have z0 : wa.cell? ⟨w.heap.size, 0, none⟩ = some (.int .i64 N) := cell_of_row _ (w.heap.size) 0 _ _ _ (hp_keep4 HBz.out HI.out)
     have z1 : wa.cell? ⟨w.heap.size, 1, none⟩ = some (.slice ao xs.length cap) := cell_of_row _ (w.heap.size) 1 _ _ _ (hp_keep4 HBz.out HI.out)
     cases AK with
     | false =>
      have HF := Lib.hid (preset_down HPRE.out HSL.out HS0.out (show anyF N xs u s = false by have h := HAK.out; rw [hNq] at h; exact h))
      have HQ := Lib.hid (show GaP w.heap.size (presetF N xs c rs u tv) (.returned (.tuple #[.slice none 0 0, .int .i64 9])) wa from GaP.err HF.out wa)
      clear hNq
      go_wp2_with fail
      exact bodyPost_ret (v := .tuple #[.slice none 0 0, .int .i64 9]) (by simp [results, Tryz.results22, go_sem]) rfl ⟨HQ.out, HW.out⟩
     | true =>
      have hgq : gaTo (rG N xs c rs ws u s) 0 (N + 1) = (l, 0) := by
       have h := HGA.out
       rw [hNq] at h
       exact h
      have HF := Lib.hid ((preset_ga HPRE.out HSL.out HS0.out (show anyF N xs u s = true by have h := HAK.out; rw [hNq] at h; exact h) HRV.out).trans (gaF_ok (pre := []) hgq))
      have HQ := Lib.hid (show GaP w.heap.size (presetF N xs c rs u tv) (.returned (.tuple #[.slice aou9 nu capu9, .int .i64 0])) wa from GaP.ok HF.out (OE.lower HE.out hBW) HZ.out (by rw [HMP.out]; rfl))
      clear hNq hgq
      go_wp2_with fail
      exact bodyPost_ret (v := .tuple #[.slice aou9 nu capu9, .int .i64 0]) (by simp [results, Tryz.results22, go_sem]) rfl ⟨HQ.out, HW.out⟩
    have htk : decide ((q : Int) ≤ (N : Int)) = true := by simp; omega
    have z0 : wa.cell? ⟨w.heap.size, 0, none⟩ = some (.int .i64 N) := cell_of_row _ (w.heap.size) 0 _ _ _ (hp_keep4 HBz.out HI.out)
    have z1 : wa.cell? ⟨w.heap.size, 1, none⟩ = some (.slice ao xs.length cap) := cell_of_row _ (w.heap.size) 1 _ _ _ (hp_keep4 HBz.out HI.out)
    go_wp2_with fail
    refine (ref_against N u q _ xs true _ (Hv.out.keepb (bt HW.out HI.out)) Hok.out hu2 (by omega)).mono ?_
    rw [HAG.out, HBG.out]
    rintro e w3 ⟨rfl, hb⟩
    clear z0 z1
    replace HI := Lib.hid (bt HI.out hb)
    clear hb
    by_cases hqu : q = u
    ·have hqe : ((q : Int) == (u : Int)) = true := by simp; omega
     have HIF := Lib.hid (show isF N xs u s q = false from by unfold isF; simp [hqu])
     have HAK2 := Lib.hid (show anyK N xs u s (q + 1) = AK from by rw [anyK_succ, HAK.out, HIF.out, Bool.or_false])
     generalize (!noF N xs u s q) = isb
     generalize atF N xs u s q = atv
     clear hqu
     have HQ := Lib.hid (show gaTo (rG N xs c rs ws u s) 0 (q + 1) = (l, 0) from gaTo_none HGA.out (by omega) (rG_no HIF.out))
     go_wp2_with fail
     go_roundw
     case rel => exact ⟨q + 1, els, l, by omega, by go_num, by rw [HAK2.out], HQ.out, (OE.keepw HE.out HI.out), (LZ.keepb HZ.out HI.out), HMP.out, by omega, (Nat.le_trans hba9 HI.out.size), (hp_keep4 HBz.out HI.out), (hp_keep4 HBq.out HI.out), (hp_keep4 HBa.out HI.out), (OL.keepb HA.out HI.out), (bt HW.out HI.out)⟩
     case measure => simp [intOf]; omega
    have hqe : ((q : Int) == (u : Int)) = false := by simp; omega
    cases hno : noF N xs u s q with
    | true =>
     have HIF := Lib.hid (show isF N xs u s q = false from by unfold isF; rw [hno]; rfl)
     have HAK2 := Lib.hid (show anyK N xs u s (q + 1) = AK from by rw [anyK_succ, HAK.out, HIF.out, Bool.or_false])
     generalize atF N xs u s q = atv
     rw [show (!true) = false from rfl]
     clear hno
     have HQ := Lib.hid (show gaTo (rG N xs c rs ws u s) 0 (q + 1) = (l, 0) from gaTo_none HGA.out (by omega) (rG_no HIF.out))
     go_wp2_with fail
     go_roundw
     case rel => exact ⟨q + 1, els, l, by omega, by go_num, by rw [HAK2.out], HQ.out, (OE.keepw HE.out HI.out), (LZ.keepb HZ.out HI.out), HMP.out, by omega, (Nat.le_trans hba9 HI.out.size), (hp_keep4 HBz.out HI.out), (hp_keep4 HBq.out HI.out), (hp_keep4 HBa.out HI.out), (OL.keepb HA.out HI.out), (bt HW.out HI.out)⟩
     case measure => simp [intOf]; omega
    | false =>
     have HIF := Lib.hid (show isF N xs u s q = true from by unfold isF; rw [hno]; simp [hqu])
     have HAK2 := Lib.hid (show anyK N xs u s (q + 1) = true from by rw [anyK_succ, HIF.out, Bool.or_true])
     rw [show (!false) = true from rfl]
     clear hno
     have bj := at_bd Hok.out (x := u) (j := q) hu2 (by omega) s
     obtain ⟨Aj, hAj⟩ : ∃ A, atF N xs u s q = A := ⟨_, rfl⟩
     rw [hAj] at bj
     rw [hAj]
     have HAj := Lib.hid hAj
     clear hAj
     go_wp2_with fail
     go_loopw [18, 17] (fun i u1 wb => ∃ p : Nat, p ≤ N + 1 ∧ i = .int .i64 p ∧ OK3 98 wa.heap.size wb u1 (rkTo N xs u s q p) ∧ Below wa.heap.size wa wb) (fun i _ _ => N + 2 - (intOf i).toNat)
     case atStart => exact ⟨0, Nat.zero_le _, rfl, ⟨rfl, .inl ⟨rfl, rfl⟩⟩, HI.out⟩
     case round =>
      obtain ⟨wb, hwb⟩ : ∃ V, V = wr := ⟨_, rfl⟩
      subst hwb
      clear HI
      obtain ⟨p, hp, rfl, hk3, hi⟩ := hrel
      have HK := Lib.hid hk3
      have HI := Lib.hid hi
      obtain ⟨aok, nk, capk, rfl⟩ := owns_form3n hk3
      clear hk3 hi
      by_cases hlp : p < N + 1
      ·have htp : decide ((p : Int) ≤ (N : Int)) = true := by simp; omega
       have z0 : wb.cell? ⟨w.heap.size, 0, none⟩ = some (.int .i64 N) := cell_of_row _ (w.heap.size) 0 _ _ _ (hp_keep4 HBz.out HI.out)
       have z1 : wb.cell? ⟨w.heap.size, 1, none⟩ = some (.slice ao xs.length cap) := cell_of_row _ (w.heap.size) 1 _ _ _ (hp_keep4 HBz.out HI.out)
       go_wp2_with fail
       refine (ref_against N u p _ xs true _ (Hv.out.keepb (bt HW.out HI.out)) Hok.out hu2 (by omega)).mono ?_
       rw [HAG.out, HBG.out]
       rintro e w7 ⟨rfl, hb⟩
       clear z0 z1
       replace HK := Lib.hid (OK3.keepw HK.out hb)
       replace HI := Lib.hid (bt HI.out hb)
       clear hb
       by_cases hpu : p = u
       ·have hpe : ((p : Int) == (u : Int)) = true := by simp; omega
        have HK2 := HK
        rw [← rkTo_same (.inr (show isF N xs u s p = false from by unfold isF; simp [hpu]))] at HK2
        generalize (!noF N xs u s p) = isb
        generalize atF N xs u s p = atv
        clear hpu
        go_wp2_with fail
        go_roundw
        case rel => exact ⟨p + 1, by omega, by go_num, HK2.out, HI.out⟩
        case measure => simp [intOf]; omega
       have hpe : ((p : Int) == (u : Int)) = false := by simp; omega
       by_cases hpq : p = q
       ·have hpf : ((p : Int) == (q : Int)) = true := by simp; omega
        have HK2 := HK
        rw [← rkTo_same (.inl hpq)] at HK2
        generalize (!noF N xs u s p) = isb
        generalize atF N xs u s p = atv
        clear hpq
        go_wp2_with fail
        go_roundw
        case rel => exact ⟨p + 1, by omega, by go_num, HK2.out, HI.out⟩
        case measure => simp [intOf]; omega
       have hpf : ((p : Int) == (q : Int)) = false := by simp; omega
       cases hno2 : noF N xs u s p with
       | true =>
        have HK2 := HK
        rw [← rkTo_same (.inr (show isF N xs u s p = false from by unfold isF; rw [hno2]; rfl))] at HK2
        generalize atF N xs u s p = atv
        rw [show (!true) = false from rfl]
        clear hno2
        go_wp2_with fail
        go_roundw
        case rel => exact ⟨p + 1, by omega, by go_num, HK2.out, HI.out⟩
        case measure => simp [intOf]; omega
       | false =>
        have HM := Lib.hid (rkTo_neg (N := N) (xs := xs) (x := u) hpq (show isF N xs u s p = true from by unfold isF; rw [hno2]; simp [hpu]) HSG.out)
        rw [show (!false) = true from rfl]
        clear hno2
        have bp := at_bd Hok.out (x := u) (j := p) hu2 (by omega) s
        obtain ⟨Ap, hAp⟩ : ∃ A, atF N xs u s p = A := ⟨_, rfl⟩
        rw [hAp, HAj.out] at HM
        rw [hAp] at bp
        rw [hAp]
        clear hAp
        go_wp2_with fail
        refine (ref_weak q p (Ap - Aj) _ (by omega) (by omega)).mono ?_
        rintro e w8 ⟨rfl, hb⟩
        replace HK := Lib.hid (OK3.keepw HK.out hb)
        replace HI := Lib.hid (bt HI.out hb)
        clear hb
        have hsz := HI.out.size
        go_wp2_with (at_builtin; go_loud (refine wpList_append_k rfl (.tmp 126) (.tmp 133) 96 rfl 98 Tryz.undKs Tryz.infoK wa.heap.size (.slice aok nk capk) rfl (rkTo N xs u s q p) (World.ownsRow.alloc HK.out _) (by simp; omega) (.slice (some ⟨w8.heap.size, 0, none⟩) 1 1) rfl [wk q p (Ap - Aj)] (w8.heap.size + 1) (rs_lit3 (w := w8) rfl rfl (by simp)) (by have := rkTo_len N xs u s q p; simp only [List.length_cons, List.length_nil]; omega) ?_; intro v' w9 ho' hg'))
        replace HI := Lib.hid (bw_app HI.out hg' (fun g e => (World.ownsRow.lt HK.out g e).1) (Nat.le_refl _))
        have HK2 := Lib.hid ho'
        rw [← HM.out] at HK2
        clear ho' hg' hsz
        go_wp2_with fail
        go_roundw
        case rel => exact ⟨p + 1, by omega, by go_num, HK2.out, HI.out⟩
        case measure => simp [intOf]; omega
      have htp : decide ((p : Int) ≤ (N : Int)) = false := by simp; omega
      have hpN : p = N + 1 := by omega
      rw [hpN] at HK
      have z0 : wb.cell? ⟨w.heap.size, 0, none⟩ = some (.int .i64 N) := cell_of_row _ (w.heap.size) 0 _ _ _ (hp_keep4 HBz.out HI.out)
      have z1 : wb.cell? ⟨w.heap.size, 1, none⟩ = some (.slice ao xs.length cap) := cell_of_row _ (w.heap.size) 1 _ _ _ (hp_keep4 HBz.out HI.out)
      have a0 : wb.cell? ⟨A, 0, none⟩ = some (.int .i64 N) := cell_of_row _ A 0 _ _ _ (hp_keep4 HBa.out HI.out)
      have a1 : wb.cell? ⟨A, 1, none⟩ = some (.slice aoa ws.length capa) := cell_of_row _ A 1 _ _ _ (hp_keep4 HBa.out HI.out)
      clear hpN
      go_wp2_with fail
      refine (ref_and N _ _ ws (rkTo N xs u s q (N + 1)) _ (OL.rl (OL.keepb HA.out HI.out)) (OK3.rk HK.out)).mono ?_
      rintro e w8 ⟨⟨vo, he, hoo⟩, hb⟩
      obtain ⟨⟨x2, os⟩, hO⟩ : ∃ Q, andF N ws (rkTo N xs u s q (N + 1)) = Q := ⟨_, rfl⟩
      rw [hO] at he hoo
      obtain rfl : e = .returned (.tuple #[.agg #[.int .i64 (zdim (x2, os) N), vo], .int .i64 x2]) := he
      have hoo : OL _ _ _ _ os := hoo
      obtain ⟨aoo, capo, rfl⟩ := owns_form hoo
      have HO := Lib.hid (OL.mono hoo (Nat.zero_le _))
      have HOF := Lib.hid hO
      clear hoo hO a0 a1 HK z0 z1
      replace HI := Lib.hid (bt HI.out hb)
      clear hb
      obtain ⟨D, hD⟩ : ∃ D, zdim (x2, os) (N : Int) = D := ⟨_, rfl⟩
      rw [hD]
      have hba := (Below.refl _ w8).alloc (Nat.le_refl _) (.cells #[.int .i64 D, .slice aoo os.length capo] 32)
      have hq1 := heap_alloc_new w8 (.cells #[.int .i64 D, .slice aoo os.length capo] 32)
      have hq2 := bt HI.out hba
      have hq3 := OL.keepb HO.out hba
      clear hba HI HO
      go_upto_region 29 with fail
      generalize w8.alloc (.cells #[.int .i64 D, .slice aoo os.length capo] 32) = Xo at *
      generalize w8.heap.size = OO at *
      have HBo := Lib.hid hq1
      have HI := Lib.hid hq2
      have HO := Lib.hid hq3
      clear hq1 hq2 hq3
      by_cases hx2 : x2 = 0
      rotate_left
      ·have hxb : (x2 != 0) = true := by simpa using hx2
       have HGq := Lib.hid (rG_none (c := c) (rs := rs) HIF.out HOF.out hx2)
       have HQ := Lib.hid (show gaTo (rG N xs c rs ws u s) 0 (q + 1) = (l, 0) from gaTo_none HGA.out (by omega) HGq.out)
       go_wp2_with fail
       go_roundw
       case rel => exact ⟨q + 1, els, l, by omega, by go_num, by rw [HAK2.out], HQ.out, (OE.keepw HE.out HI.out), (LZ.keepb HZ.out HI.out), HMP.out, by omega, (Nat.le_trans hba9 HI.out.size), (hp_keep4 HBz.out HI.out), (hp_keep4 HBq.out HI.out), (hp_keep4 HBa.out HI.out), (OL.keepb HA.out HI.out), (bt HW.out HI.out)⟩
       case measure => simp [intOf]; omega
      subst hx2
      obtain rfl : (N : Int) = D := by rw [← hD]; simp [zdim]
      have HGy := Lib.hid (rG_yes (c := c) (rs := rs) HIF.out HOF.out)
      have HOK := Lib.hid (and_valid HOF.out)
      clear hD
      have o0 : Xo.cell? ⟨OO, 0, none⟩ = some (.int .i64 N) := cell_of_row _ OO 0 _ _ _ HBo.out
      have o1 : Xo.cell? ⟨OO, 1, none⟩ = some (.slice aoo os.length capo) := cell_of_row _ OO 1 _ _ _ HBo.out
      have hOl : OO < Xo.heap.size := hp_lt3 HBo.out
      go_wp2_with fail
      refine (ref_corner N _ os _ (OL.rl HO.out) HOK.out).mono ?_
      rintro e w9 ⟨⟨vv, rfl, hov⟩, hb⟩
      obtain ⟨gv, capv, rfl, hgv, _, _, hcz⟩ := hov.open (by rw [crR_len]; omega)
      clear hcz
      have hvl : (crR N os N).length = N := crR_len _ _ _
      rw [hvl] at hov
      rw [hvl]
      have HV := Lib.hid hov
      have hwX := HI.out.size
      replace HO := Lib.hid (OL.keepb HO.out hb)
      replace HBo := Lib.hid (hp_keep4 HBo.out hb)
      clear hov o0 o1
      replace HI := Lib.hid (bt HI.out hb)
      clear hb
      have yN : y < N := by omega
      have y2 : (y : Int) < (N : Int) := by omega
      have vc := own_cell HV.out (k := y) (by rw [hvl]; exact yN)
      have vf := own_fro HV.out (k := y) (by rw [hvl]; exact yN)
      obtain ⟨i9, hi9, hz90, hz91, hz92⟩ := info_parts Tryz.infL64
      have Hi9 := Lib.hid hi9
      have Hz90 := Lib.hid hz90
      have Hz91 := Lib.hid hz91
      have Hz92 := Lib.hid hz92
      clear hi9 hz90 hz91 hz92
      by_cases hq0 : q = 0
      ·skip
       have bq := low_bd HOK.out (show q ≤ N by omega)
       have hqb : decide ((q : Int) > 0) = false := by simp; omega
       have hqc : decide (0 < (q : Int)) = false := by simp; omega
       have HQV := Lib.hid (show IntKind.i64.wrap (lowZ N os q + atF N xs u s q) = Aj from by rw [HAj.out, show lowZ N os q = 0 from by unfold lowZ; rw [if_neg (by omega)], Int.zero_add]; exact wrap_self (by omega))
       have HST := Lib.hid (OL.stored HV.out hvl.symm y Aj)
       go_upto_region 35 with fail
       have hgw : wa.heap.size ≤ gv := Nat.le_trans hwX hgv
       have hqI := HI.out.setCell (p := ⟨gv, y, none⟩) hgw (.int .i64 Aj)
       have hqo := (st1k_ne (w := w9) (b := gv) (i := y) (c := OO) (.int .i64 Aj) (Nat.ne_of_lt (Nat.lt_of_lt_of_le hOl hgv))).trans HBo.out
       have hqO := OL.kept HO.out HST.out.2 (own_apart HO.out HV.out (by decide))
       have hqv := HST.out.1
       clear HI HBo HO HV HST vc vf
       generalize hgen : w9.setCell ⟨gv, y, none⟩ (.int .i64 Aj) = Y1 at *
       clear hgen
       have HI := Lib.hid hqI
       have HBo := Lib.hid hqo
       have HO := Lib.hid hqO
       have HV := Lib.hid hqv
       clear hqI hqo hqO hqv
       have z0 : Y1.cell? ⟨w.heap.size, 0, none⟩ = some (.int .i64 N) := cell_of_row _ (w.heap.size) 0 _ _ _ (hp_keep4 HBz.out HI.out)
       have z1 : Y1.cell? ⟨w.heap.size, 1, none⟩ = some (.slice ao xs.length cap) := cell_of_row _ (w.heap.size) 1 _ _ _ (hp_keep4 HBz.out HI.out)
       have z2 : Y1.cell? ⟨w.heap.size, 2, none⟩ = some (.int .i64 c) := cell_of_row _ (w.heap.size) 2 _ _ _ (hp_keep4 HBz.out HI.out)
       have z3 : Y1.cell? ⟨w.heap.size, 3, none⟩ = some (.slice (some ⟨br, offr, none⟩) rs.length capr) := cell_of_row _ (w.heap.size) 3 _ _ _ (hp_keep4 HBz.out HI.out)
       have hvl2 : ((crR N os N).set y Aj).length = N := by rw [List.length_set, hvl]
       obtain ⟨T, hT⟩ : ∃ T, cstTo N xs c rs (fun j => gi ((crR N os N).set y Aj) (j - 1)) N = T := ⟨_, rfl⟩
       have HTT := Lib.hid (show rC N xs c rs os u q s = T from (rC_eqR HQV.out hyx hu1 yN hvl).trans hT)
       have HCo := Lib.hid (ref_cost N c (.slice ao xs.length cap) (.slice (some ⟨br, offr, none⟩) rs.length capr) (.slice (some ⟨gv, 0, none⟩) N capv) xs rs ((crR N os N).set y Aj) Y1 (Hv.out.keepb (bt HW.out HI.out)) (Hr.out.keepb (bt HW.out HI.out)) (OL.rl HV.out) Hok.out Hlr.out hvl2)
       rw [hT] at HCo
       clear hT
       go_wp2_with fail
       refine HCo.out.mono ?_
       rintro e w10 ⟨rfl, hb⟩
       clear HCo HV
       replace HO := Lib.hid (OL.keepb HO.out hb)
       replace HBo := Lib.hid (hp_keep4 HBo.out hb)
       clear z0 z1 z2 z3
       replace HI := Lib.hid (bt HI.out hb)
       clear hb
       have hba := (Below.refl _ w10).alloc (Nat.le_refl _) (.cells #[] 2)
       have z3 : (w10.alloc (.cells #[] 2)).cell? ⟨w.heap.size, 3, none⟩ = some (.slice (some ⟨br, offr, none⟩) rs.length capr) := cell_of_row _ w.heap.size 3 _ _ _ (hp_keep4 (hp_keep4 HBz.out HI.out) hba)
       have Hv9 := Lib.hid (show RL w10.heap.size (w10.alloc (.cells #[] 2)) (.slice (some ⟨br, offr, none⟩) rs.length capr) rs from RS.keep (Hr.out.keepb (bt HW.out HI.out)) hba)
       have Ho9 : Hid ((w10.alloc (.cells #[] 2)).ownsRow w10.heap.size 2 1 (.slice (some ⟨w10.heap.size, 0, none⟩) 0 0) 0 []) := Lib.hid (owns_empty (heap_alloc_new w10 _) (Nat.le_refl _))
       have Hm9 := Lib.hid (show 0 + rs.length ≤ maxLen by have := Hlr.out; unfold maxLen; omega)
       have Hby9 := Lib.hid (show (0 + rs.length) * 8 ≤ 140737488355328 by have := Hlr.out; omega)
       have Hba9 := Lib.hid (show w10.heap.size ≤ (w10.alloc (.cells #[] 2)).heap.size by simp)
       have Hl9 := Lib.hid (show (rs.map (Value.int .i64)).length = rs.length * 1 by simp)
       go_upto_region 37 with (at_builtin; go_loud (refine wpList_append_rs (v := .slice (some ⟨w10.heap.size, 0, none⟩) 0 0) (n := 0) (xs := []) (xv := .slice (some ⟨br, offr, none⟩) rs.length capr) (m := rs.length) (news := rs.map (Value.int .i64)) ?_ (.tmp 171) (.tmp 173) 33 ?_ w10.heap.size 2 i9 (.int .i64 0) 1 8 Tryz.undL64 Hi9.out Hz90.out Hz91.out Hz92.out ?_ ?_ ?_ ?_ w10.heap.size ?_ ?_ ?_ ?_ ?_ ?_ ?_ ?_; rfl; rfl; rfl; decide; rfl; exact Ho9.out; rfl; exact Hv9.out; exact Hl9.out; exact ints_oneCell' _; exact Hm9.out; exact Hby9.out; exact Hba9.out; intro v' w11 hown1 hg1; obtain ⟨ao1, cap1, rfl⟩ := owns_form hown1))
       have hn : 0 + rs.length = rs.length := Nat.zero_add _
       rw [hn] at hown1
       simp only [List.nil_append] at hown1
       have hb2 : Below w10.heap.size w10 w11 := (Loc.one w10 (.cells #[] 2) none).below0 hg1
       have HCl0 : OL 2 w10.heap.size w11 (.slice ao1 rs.length cap1) rs := hown1
       obtain ⟨g1, cap1', e1, hg1b, _, _, hcz⟩ := HCl0.open (by have := Hlr.out; omega)
       simp only [Value.slice.injEq, true_and] at e1
       obtain ⟨rfl, rfl⟩ := e1
       clear hcz
       have HCl := Lib.hid HCl0
       have hOl2 : OO < w10.heap.size := hp_lt3 HBo.out
       have hgw1 : wa.heap.size ≤ g1 := Nat.le_trans HI.out.size hg1b
       replace HO := Lib.hid (OL.keepb HO.out hb2)
       replace HBo := Lib.hid (hp_keep4 HBo.out hb2)
       replace HI := Lib.hid (bt HI.out hb2)
       clear HCl0 hb2 hown1 hg1 hn z3 hba Hv9 Ho9 Hm9 Hby9 Hba9 Hl9
       have yc2 := own_cell HCl.out (k := y) (by have := Hlr.out; omega)
       have yf2 := own_fro HCl.out (k := y) (by have := Hlr.out; omega)
       have HST := Lib.hid (OL.stored HCl.out rfl y 0)
       go_upto_region 38 with fail
       have hqI := HI.out.setCell (p := ⟨g1, y, none⟩) hgw1 (.int .i64 0)
       have hqo := (st1k_ne (w := w11) (b := g1) (i := y) (c := OO) (.int .i64 0) (Nat.ne_of_lt (Nat.lt_of_lt_of_le hOl2 hg1b))).trans HBo.out
       have hqO := OL.kept HO.out HST.out.2 (own_apart HO.out HCl.out (by decide))
       have hqv := HST.out.1
       clear HI HBo HO HCl HST yc2 yf2
       generalize hgen : w11.setCell ⟨g1, y, none⟩ (.int .i64 0) = Y2 at *
       clear hgen
       have HI := Lib.hid hqI
       have HBo := Lib.hid hqo
       have HO := Lib.hid hqO
       have HCl := Lib.hid hqv
       clear hqI hqo hqO hqv
       have hrl0 : (rs.set y 0).length = rs.length := by simp
       have HRR := Lib.hid (show rR rs u q s = rs.set y 0 from by rw [rR_zero hq0, hyx])
       go_upto_region 40 with fail
       have hrl : (rs.set y 0).length = rs.length := by simp
       have HRes := Lib.hid (ref_result N T (.slice aoo os.length capo) (.slice (some ⟨g1, 0, none⟩) rs.length cap1) os (rs.set y 0) Y2 (OL.rl HO.out) (OL.rl HCl.out))
       generalize rs.set y 0 = RR at *
       have hany : anyF N xs u s = true := List.any_eq_true.2 ⟨q, List.mem_range.2 hlt, HIF.out⟩
       have HPG := Lib.hid (preset_ga HPRE.out HSL.out HS0.out hany HRV.out)
       clear hany
       have o0 : Y2.cell? ⟨OO, 0, none⟩ = some (.int .i64 N) := cell_of_row _ OO 0 _ _ _ HBo.out
       have o1 : Y2.cell? ⟨OO, 1, none⟩ = some (.slice aoo os.length capo) := cell_of_row _ OO 1 _ _ _ HBo.out
       cases hg : rngB os T RR with
       | false =>
        rw [hg] at HRes
        have HGx := Lib.hid (show rG N xs c rs ws u s q = (pv0, 7) from HGy.out.trans (by rw [HTT.out, HRR.out]; exact resF_bad hg))
        have HF := Lib.hid (HPG.out.trans (gaF_err (pre := []) (by omega) (gaTo_bad HGA.out (by omega) HGx.out (by decide) (by decide)) (by decide)))
        clear hg
        go_wp2_with fail
        refine HRes.out.mono ?_
        rintro e w12 ⟨he, hb⟩
        obtain rfl : e = .returned (.tuple #[.agg #[.int .i64 0, .slice none 0 0, .int .i64 0, .slice none 0 0], .int .i64 7]) := he
        clear HRes o0 o1 HO HCl HBo
        replace HI := Lib.hid (bt HI.out hb)
        clear hb
        have hq2 := bal HI.out (.cells #[.int .i64 0, .slice none 0 0, .int .i64 0, .slice none 0 0] 35)
        clear HI
        go_upto_region 41 with fail
        generalize w12.alloc (.cells #[.int .i64 0, .slice none 0 0, .int .i64 0, .slice none 0 0] 35) = X9 at *
        have HI := Lib.hid hq2
        clear hq2
        have HF2 := Lib.hid (show GaP w.heap.size (presetF N xs c rs u tv) (.returned (.tuple #[.slice none 0 0, .int .i64 7])) X9 from GaP.err HF.out X9)
        go_wp2_with fail
        exact bodyPost_ret (v := .tuple #[.slice none 0 0, .int .i64 7]) (by simp [results, Tryz.results22, go_sem]) rfl ⟨HF2.out, (bt HW.out HI.out)⟩
       | true =>
        rw [hg] at HRes
        have HGx := Lib.hid (show rG N xs c rs ws u s q = (⟨N, os, T, RR⟩, 0) from HGy.out.trans (by rw [HTT.out, HRR.out]; exact resF_ok hg))
        clear hg
        go_wp2_with fail
        refine HRes.out.mono ?_
        rintro e w12 ⟨he, hb⟩
        obtain rfl : e = .returned (.tuple #[.agg #[.int .i64 N, .slice aoo os.length capo, .int .i64 T, .slice (some ⟨g1, 0, none⟩) rs.length cap1], .int .i64 0]) := he
        replace HO := Lib.hid (OL.keepb HO.out hb)
        replace HCl := Lib.hid (OL.mono (OL.keepb HCl.out hb) (Nat.zero_le _))
        clear HRes o0 o1 HBo
        replace HI := Lib.hid (bt HI.out hb)
        clear hb
        have hba := (Below.refl _ w12).alloc (Nat.le_refl _) (.cells #[.int .i64 N, .slice aoo os.length capo, .int .i64 T, .slice (some ⟨g1, 0, none⟩) rs.length cap1] 35)
        have hq1 := heap_alloc_new w12 (.cells #[.int .i64 N, .slice aoo os.length capo, .int .i64 T, .slice (some ⟨g1, 0, none⟩) rs.length cap1] 35)
        have hq2 := bt HI.out hba
        have hq3 := OL.keepb HO.out hba
        have hq4 := OL.keepb HCl.out hba
        clear hba HI HO HCl
        go_upto_region 43 with fail
        generalize w12.alloc (.cells #[.int .i64 N, .slice aoo os.length capo, .int .i64 T, .slice (some ⟨g1, 0, none⟩) rs.length cap1] 35) = Xx at *
        generalize w12.heap.size = XX at *
        have HBx := Lib.hid hq1
        have HI := Lib.hid hq2
        have HO := Lib.hid hq3
        have HR := Lib.hid hq4
        clear hq1 hq2 hq3 hq4
        have x0 : Xx.cell? ⟨XX, 0, none⟩ = some (.int .i64 N) := cell_of_row _ (XX) 0 _ _ _ HBx.out
        have x1 : Xx.cell? ⟨XX, 1, none⟩ = some (.slice aoo os.length capo) := cell_of_row _ (XX) 1 _ _ _ HBx.out
        have x2 : Xx.cell? ⟨XX, 2, none⟩ = some (.int .i64 T) := cell_of_row _ (XX) 2 _ _ _ HBx.out
        have x3 : Xx.cell? ⟨XX, 3, none⟩ = some (.slice (some ⟨g1, 0, none⟩) rs.length cap1) := cell_of_row _ (XX) 3 _ _ _ HBx.out
        have hsz := HI.out.size
        have hs0 : X3.heap.size ≤ Xx.heap.size := Nat.le_trans hba9 hsz
        have Hown := Lib.hid (show OE cdPz 35 X3.heap.size (Xx.alloc (.cells #[.int .i64 N, .slice aoo os.length capo, .int .i64 T, .slice (some ⟨g1, 0, none⟩) rs.length cap1] 35)) (.slice aou9 nu capu9) els from World.ownsRow.alloc (OE.keepw HE.out HI.out) _)
        have HbA := Lib.hid ((Below.refl Xx.heap.size Xx).alloc (Nat.le_refl _) (.cells #[.int .i64 N, .slice aoo os.length capo, .int .i64 T, .slice (some ⟨g1, 0, none⟩) rs.length cap1] 35))
        have Hlit := Lib.hid (show RS (Xx.heap.size + 1) (Xx.alloc (.cells #[.int .i64 N, .slice aoo os.length capo, .int .i64 T, .slice (some ⟨g1, 0, none⟩) rs.length cap1] 35)) (.slice (some ⟨Xx.heap.size, 0, none⟩) 1 1) 1 (cdPz.cells ⟨N, .slice aoo os.length capo, os, T, .slice (some ⟨g1, 0, none⟩) rs.length cap1, RR⟩) from rs_litz rfl)
        go_upto_region 15 with (at_builtin; go_loud (refine wpList_append_pz rfl (.tmp 203) (.tmp 205) 41 rfl 35 Tryz.undPz Tryz.infoPz X3.heap.size (.slice aou9 nu capu9) rfl els Hown.out (by simp; omega) (.slice (some ⟨Xx.heap.size, 0, none⟩) 1 1) rfl ⟨N, .slice aoo os.length capo, os, T, .slice (some ⟨g1, 0, none⟩) rs.length cap1, RR⟩ rfl rfl (Xx.heap.size + 1) Hlit.out (by omega) ?_; intro v' wz ho' hg' hk'))
        have hgb := fun g e => (World.ownsRow.lt Hown.out g e).1
        have hsz9 : X3.heap.size ≤ wz.heap.size := by have := hg'.size; simp at this; omega
        have Hx1 := OL.kept (OL.keepb HO.out HbA.out) hg' (own_apart (OL.keepb HO.out HbA.out) Hown.out (by decide))
        have Hx2 := OL.kept (OL.keepb HR.out HbA.out) hg' (own_apart (OL.keepb HR.out HbA.out) Hown.out (by decide))
        have HAz := OL.keepb (OL.keepb HA.out HI.out) HbA.out
        have HAq := Lib.hid (OL.kept HAz hg' (own_apart HAz Hown.out (by decide)))
        have Hx2' : OL 2 0 wz (.slice (some ⟨g1, 0, none⟩) rs.length cap1) RR := Hx2
        have HZq := Lib.hid (LZ.snoc (x := ⟨N, .slice aoo os.length capo, os, T, .slice (some ⟨g1, 0, none⟩) rs.length cap1, RR⟩) (LZ.grown (LZ.keepb (LZ.keepb HZ.out HI.out) HbA.out) Hown.out hg') Hx1 Hx2')
        have HEq := Lib.hid ho'
        have HMq := Lib.hid (show (els ++ [(⟨N, .slice aoo os.length capo, os, T, .slice (some ⟨g1, 0, none⟩) rs.length cap1, RR⟩ : Pz)]).map pvOf = l ++ [(⟨N, os, T, RR⟩ : Pv)] by rw [List.map_append, HMP.out]; rfl)
        have HWq := Lib.hid (bw_app (bt HW.out HI.out) hg' hgb (by omega))
        have HQz := Lib.hid (hp_app (hp_keep4 HBz.out HI.out) hg' hgb (by have := hBz; omega))
        have HQq := Lib.hid (hp_app (hp_keep4 HBq.out HI.out) hg' hgb (by have := hBq; omega))
        have HQa := Lib.hid (hp_app (hp_keep4 HBa.out HI.out) hg' hgb (by have := hBa; omega))
        clear x0 x1 x2 x3 Hx1 Hx2 Hx2' HAz hgb hg' hk' ho' Hown HbA Hlit
        have HQ := Lib.hid (show gaTo (rG N xs c rs ws u s) 0 (q + 1) = ((l ++ [(⟨N, os, T, RR⟩ : Pv)]), 0) from gaTo_one HGA.out (by omega) HGx.out)
        go_wp2_with fail
        go_roundw
        case rel => exact ⟨q + 1, els ++ [⟨N, .slice aoo os.length capo, os, T, .slice (some ⟨g1, 0, none⟩) rs.length cap1, RR⟩], (l ++ [(⟨N, os, T, RR⟩ : Pv)]), by omega, by go_num, by rw [HAK2.out], HQ.out, HEq.out, HZq.out, HMq.out, by simp; omega, hsz9, HQz.out, HQq.out, HQa.out, HAq.out, HWq.out⟩
        case measure => simp [intOf]; omega
      have bq := low_bd HOK.out (show q ≤ N by omega)
      have hqb : decide ((q : Int) > 0) = true := by simp; omega
      have hqc : decide (0 < (q : Int)) = true := by simp; omega
      obtain ⟨i, hi⟩ : ∃ i, q = i + 1 := ⟨q - 1, by omega⟩
      have hqi : (q : Int) - 1 = (i : Int) := by omega
      have hqi2 : q - 1 = i := by omega
      have iN : i < N := by omega
      have i0 : (i : Int) < (N : Int) := by omega
      have i1 : (0 : Int) ≤ (i : Int) := by omega
      obtain ⟨FR, hFR⟩ : ∃ F, lowF N os q = F := ⟨_, rfl⟩
      rw [hFR] at bq
      have ic := own_cell HV.out (k := i) (by rw [hvl]; exact iN)
      rw [crR_at iN, ← hi, hFR] at ic
      have hws : IntKind.i64.wrap (FR + Aj) = FR + Aj := wrap_self (by omega)
      have hws2 : wrap64 (FR + Aj) = FR + Aj := (wrap_w64 _).trans hws
      have HQV := Lib.hid (show IntKind.i64.wrap (lowZ N os q + atF N xs u s q) = FR + Aj from by rw [HAj.out, show lowZ N os q = FR from by unfold lowZ; rw [if_pos (by omega), hFR], hws])
      clear hi hFR
      have HST := Lib.hid (OL.stored HV.out hvl.symm y (FR + Aj))
      go_upto_region 35 with fail
      have hgw : wa.heap.size ≤ gv := Nat.le_trans hwX hgv
      have hqI := HI.out.setCell (p := ⟨gv, y, none⟩) hgw (.int .i64 (FR + Aj))
      have hqo := (st1k_ne (w := w9) (b := gv) (i := y) (c := OO) (.int .i64 (FR + Aj)) (Nat.ne_of_lt (Nat.lt_of_lt_of_le hOl hgv))).trans HBo.out
      have hqO := OL.kept HO.out HST.out.2 (own_apart HO.out HV.out (by decide))
      have hqv := HST.out.1
      clear HI HBo HO HV HST vc vf ic
      generalize hgen : w9.setCell ⟨gv, y, none⟩ (.int .i64 (FR + Aj)) = Y1 at *
      clear hgen
      have HI := Lib.hid hqI
      have HBo := Lib.hid hqo
      have HO := Lib.hid hqO
      have HV := Lib.hid hqv
      clear hqI hqo hqO hqv
      have z0 : Y1.cell? ⟨w.heap.size, 0, none⟩ = some (.int .i64 N) := cell_of_row _ (w.heap.size) 0 _ _ _ (hp_keep4 HBz.out HI.out)
      have z1 : Y1.cell? ⟨w.heap.size, 1, none⟩ = some (.slice ao xs.length cap) := cell_of_row _ (w.heap.size) 1 _ _ _ (hp_keep4 HBz.out HI.out)
      have z2 : Y1.cell? ⟨w.heap.size, 2, none⟩ = some (.int .i64 c) := cell_of_row _ (w.heap.size) 2 _ _ _ (hp_keep4 HBz.out HI.out)
      have z3 : Y1.cell? ⟨w.heap.size, 3, none⟩ = some (.slice (some ⟨br, offr, none⟩) rs.length capr) := cell_of_row _ (w.heap.size) 3 _ _ _ (hp_keep4 HBz.out HI.out)
      have hvl2 : ((crR N os N).set y (FR + Aj)).length = N := by rw [List.length_set, hvl]
      obtain ⟨T, hT⟩ : ∃ T, cstTo N xs c rs (fun j => gi ((crR N os N).set y (FR + Aj)) (j - 1)) N = T := ⟨_, rfl⟩
      have HTT := Lib.hid (show rC N xs c rs os u q s = T from (rC_eqR HQV.out hyx hu1 yN hvl).trans hT)
      have HCo := Lib.hid (ref_cost N c (.slice ao xs.length cap) (.slice (some ⟨br, offr, none⟩) rs.length capr) (.slice (some ⟨gv, 0, none⟩) N capv) xs rs ((crR N os N).set y (FR + Aj)) Y1 (Hv.out.keepb (bt HW.out HI.out)) (Hr.out.keepb (bt HW.out HI.out)) (OL.rl HV.out) Hok.out Hlr.out hvl2)
      rw [hT] at HCo
      clear hT
      go_wp2_with fail
      refine HCo.out.mono ?_
      rintro e w10 ⟨rfl, hb⟩
      clear HCo HV
      replace HO := Lib.hid (OL.keepb HO.out hb)
      replace HBo := Lib.hid (hp_keep4 HBo.out hb)
      clear z0 z1 z2 z3
      replace HI := Lib.hid (bt HI.out hb)
      clear hb
      have hba := (Below.refl _ w10).alloc (Nat.le_refl _) (.cells #[] 2)
      have z3 : (w10.alloc (.cells #[] 2)).cell? ⟨w.heap.size, 3, none⟩ = some (.slice (some ⟨br, offr, none⟩) rs.length capr) := cell_of_row _ w.heap.size 3 _ _ _ (hp_keep4 (hp_keep4 HBz.out HI.out) hba)
      have Hv9 := Lib.hid (show RL w10.heap.size (w10.alloc (.cells #[] 2)) (.slice (some ⟨br, offr, none⟩) rs.length capr) rs from RS.keep (Hr.out.keepb (bt HW.out HI.out)) hba)
      have Ho9 : Hid ((w10.alloc (.cells #[] 2)).ownsRow w10.heap.size 2 1 (.slice (some ⟨w10.heap.size, 0, none⟩) 0 0) 0 []) := Lib.hid (owns_empty (heap_alloc_new w10 _) (Nat.le_refl _))
      have Hm9 := Lib.hid (show 0 + rs.length ≤ maxLen by have := Hlr.out; unfold maxLen; omega)
      have Hby9 := Lib.hid (show (0 + rs.length) * 8 ≤ 140737488355328 by have := Hlr.out; omega)
      have Hba9 := Lib.hid (show w10.heap.size ≤ (w10.alloc (.cells #[] 2)).heap.size by simp)
      have Hl9 := Lib.hid (show (rs.map (Value.int .i64)).length = rs.length * 1 by simp)
      go_upto_region 37 with (at_builtin; go_loud (refine wpList_append_rs (v := .slice (some ⟨w10.heap.size, 0, none⟩) 0 0) (n := 0) (xs := []) (xv := .slice (some ⟨br, offr, none⟩) rs.length capr) (m := rs.length) (news := rs.map (Value.int .i64)) ?_ (.tmp 171) (.tmp 173) 33 ?_ w10.heap.size 2 i9 (.int .i64 0) 1 8 Tryz.undL64 Hi9.out Hz90.out Hz91.out Hz92.out ?_ ?_ ?_ ?_ w10.heap.size ?_ ?_ ?_ ?_ ?_ ?_ ?_ ?_; rfl; rfl; rfl; decide; rfl; exact Ho9.out; rfl; exact Hv9.out; exact Hl9.out; exact ints_oneCell' _; exact Hm9.out; exact Hby9.out; exact Hba9.out; intro v' w11 hown1 hg1; obtain ⟨ao1, cap1, rfl⟩ := owns_form hown1))
      have hn : 0 + rs.length = rs.length := Nat.zero_add _
      rw [hn] at hown1
      simp only [List.nil_append] at hown1
      have hb2 : Below w10.heap.size w10 w11 := (Loc.one w10 (.cells #[] 2) none).below0 hg1
      have HCl0 : OL 2 w10.heap.size w11 (.slice ao1 rs.length cap1) rs := hown1
      obtain ⟨g1, cap1', e1, hg1b, _, _, hcz⟩ := HCl0.open (by have := Hlr.out; omega)
      simp only [Value.slice.injEq, true_and] at e1
      obtain ⟨rfl, rfl⟩ := e1
      clear hcz
      have HCl := Lib.hid HCl0
      have hOl2 : OO < w10.heap.size := hp_lt3 HBo.out
      have hgw1 : wa.heap.size ≤ g1 := Nat.le_trans HI.out.size hg1b
      replace HO := Lib.hid (OL.keepb HO.out hb2)
      replace HBo := Lib.hid (hp_keep4 HBo.out hb2)
      replace HI := Lib.hid (bt HI.out hb2)
      clear HCl0 hb2 hown1 hg1 hn z3 hba Hv9 Ho9 Hm9 Hby9 Hba9 Hl9
      have yc2 := own_cell HCl.out (k := y) (by have := Hlr.out; omega)
      have yf2 := own_fro HCl.out (k := y) (by have := Hlr.out; omega)
      have HST := Lib.hid (OL.stored HCl.out rfl y 0)
      go_upto_region 38 with fail
      have hqI := HI.out.setCell (p := ⟨g1, y, none⟩) hgw1 (.int .i64 0)
      have hqo := (st1k_ne (w := w11) (b := g1) (i := y) (c := OO) (.int .i64 0) (Nat.ne_of_lt (Nat.lt_of_lt_of_le hOl2 hg1b))).trans HBo.out
      have hqO := OL.kept HO.out HST.out.2 (own_apart HO.out HCl.out (by decide))
      have hqv := HST.out.1
      clear HI HBo HO HCl HST yc2 yf2
      generalize hgen : w11.setCell ⟨g1, y, none⟩ (.int .i64 0) = Y2 at *
      clear hgen
      have HI := Lib.hid hqI
      have HBo := Lib.hid hqo
      have HO := Lib.hid hqO
      have HCl := Lib.hid hqv
      clear hqI hqo hqO hqv
      have hrl0 : (rs.set y 0).length = rs.length := by simp
      have i9' : (i : Int) < (rs.length : Int) := by have := Hlr.out; omega
      have yc2 := own_cell HCl.out (k := i) (by rw [List.length_set]; have := Hlr.out; omega)
      have yf2 := own_fro HCl.out (k := i) (by rw [List.length_set]; have := Hlr.out; omega)
      have HST := Lib.hid (OL.stored HCl.out hrl0.symm i (IntKind.i64.wrap (gi (rs.set y 0) i + s)))
      obtain ⟨RI, hRI⟩ : ∃ A, gi (rs.set y 0) i = A := ⟨_, rfl⟩
      obtain ⟨Q3, hQ3⟩ : ∃ Q, IntKind.i64.wrap (RI + s) = Q := ⟨_, rfl⟩
      have hQ4 : wrap64 (RI + s) = Q3 := (wrap_w64 _).trans hQ3
      rw [hRI] at yc2 HST
      rw [hQ3] at HST
      have HRR := Lib.hid (show rR rs u q s = (rs.set y 0).set i Q3 from by rw [rR_pos (show 0 < q from by omega), hyx, hqi2, hRI, hQ3])
      clear hRI
      go_upto_region 40 with fail
      have hqI := HI.out.setCell (p := ⟨g1, i, none⟩) hgw1 (.int .i64 Q3)
      have hqo := (st1k_ne (w := Y2) (b := g1) (i := i) (c := OO) (.int .i64 Q3) (Nat.ne_of_lt (Nat.lt_of_lt_of_le hOl2 hg1b))).trans HBo.out
      have hqO := OL.kept HO.out HST.out.2 (own_apart HO.out HCl.out (by decide))
      have hqv := HST.out.1
      clear HI HBo HO HCl HST yc2 yf2
      generalize hgen : Y2.setCell ⟨g1, i, none⟩ (.int .i64 Q3) = Y3 at *
      clear hgen
      have HI := Lib.hid hqI
      have HBo := Lib.hid hqo
      have HO := Lib.hid hqO
      have HCl := Lib.hid hqv
      clear hqI hqo hqO hqv
      have hrl : ((rs.set y 0).set i Q3).length = rs.length := by simp
      have HRes := Lib.hid (ref_result N T (.slice aoo os.length capo) (.slice (some ⟨g1, 0, none⟩) rs.length cap1) os ((rs.set y 0).set i Q3) Y3 (OL.rl HO.out) (OL.rl HCl.out))
      generalize (rs.set y 0).set i Q3 = RR at *
      have hany : anyF N xs u s = true := List.any_eq_true.2 ⟨q, List.mem_range.2 hlt, HIF.out⟩
      have HPG := Lib.hid (preset_ga HPRE.out HSL.out HS0.out hany HRV.out)
      clear hany
      have o0 : Y3.cell? ⟨OO, 0, none⟩ = some (.int .i64 N) := cell_of_row _ OO 0 _ _ _ HBo.out
      have o1 : Y3.cell? ⟨OO, 1, none⟩ = some (.slice aoo os.length capo) := cell_of_row _ OO 1 _ _ _ HBo.out
      cases hg : rngB os T RR with
      | false =>
       rw [hg] at HRes
       have HGx := Lib.hid (show rG N xs c rs ws u s q = (pv0, 7) from HGy.out.trans (by rw [HTT.out, HRR.out]; exact resF_bad hg))
       have HF := Lib.hid (HPG.out.trans (gaF_err (pre := []) (by omega) (gaTo_bad HGA.out (by omega) HGx.out (by decide) (by decide)) (by decide)))
       clear hg
       go_wp2_with fail
       refine HRes.out.mono ?_
       rintro e w12 ⟨he, hb⟩
       obtain rfl : e = .returned (.tuple #[.agg #[.int .i64 0, .slice none 0 0, .int .i64 0, .slice none 0 0], .int .i64 7]) := he
       clear HRes o0 o1 HO HCl HBo
       replace HI := Lib.hid (bt HI.out hb)
       clear hb
       have hq2 := bal HI.out (.cells #[.int .i64 0, .slice none 0 0, .int .i64 0, .slice none 0 0] 35)
       clear HI
       go_upto_region 41 with fail
       generalize w12.alloc (.cells #[.int .i64 0, .slice none 0 0, .int .i64 0, .slice none 0 0] 35) = X9 at *
       have HI := Lib.hid hq2
       clear hq2
       have HF2 := Lib.hid (show GaP w.heap.size (presetF N xs c rs u tv) (.returned (.tuple #[.slice none 0 0, .int .i64 7])) X9 from GaP.err HF.out X9)
       go_wp2_with fail
       exact bodyPost_ret (v := .tuple #[.slice none 0 0, .int .i64 7]) (by simp [results, Tryz.results22, go_sem]) rfl ⟨HF2.out, (bt HW.out HI.out)⟩
      | true =>
       rw [hg] at HRes
       have HGx := Lib.hid (show rG N xs c rs ws u s q = (⟨N, os, T, RR⟩, 0) from HGy.out.trans (by rw [HTT.out, HRR.out]; exact resF_ok hg))
       clear hg
       go_wp2_with fail
       refine HRes.out.mono ?_
       rintro e w12 ⟨he, hb⟩
       obtain rfl : e = .returned (.tuple #[.agg #[.int .i64 N, .slice aoo os.length capo, .int .i64 T, .slice (some ⟨g1, 0, none⟩) rs.length cap1], .int .i64 0]) := he
       replace HO := Lib.hid (OL.keepb HO.out hb)
       replace HCl := Lib.hid (OL.mono (OL.keepb HCl.out hb) (Nat.zero_le _))
       clear HRes o0 o1 HBo
       replace HI := Lib.hid (bt HI.out hb)
       clear hb
       have hba := (Below.refl _ w12).alloc (Nat.le_refl _) (.cells #[.int .i64 N, .slice aoo os.length capo, .int .i64 T, .slice (some ⟨g1, 0, none⟩) rs.length cap1] 35)
       have hq1 := heap_alloc_new w12 (.cells #[.int .i64 N, .slice aoo os.length capo, .int .i64 T, .slice (some ⟨g1, 0, none⟩) rs.length cap1] 35)
       have hq2 := bt HI.out hba
       have hq3 := OL.keepb HO.out hba
       have hq4 := OL.keepb HCl.out hba
       clear hba HI HO HCl
       go_upto_region 43 with fail
       generalize w12.alloc (.cells #[.int .i64 N, .slice aoo os.length capo, .int .i64 T, .slice (some ⟨g1, 0, none⟩) rs.length cap1] 35) = Xx at *
       generalize w12.heap.size = XX at *
       have HBx := Lib.hid hq1
       have HI := Lib.hid hq2
       have HO := Lib.hid hq3
       have HR := Lib.hid hq4
       clear hq1 hq2 hq3 hq4
       have x0 : Xx.cell? ⟨XX, 0, none⟩ = some (.int .i64 N) := cell_of_row _ (XX) 0 _ _ _ HBx.out
       have x1 : Xx.cell? ⟨XX, 1, none⟩ = some (.slice aoo os.length capo) := cell_of_row _ (XX) 1 _ _ _ HBx.out
       have x2 : Xx.cell? ⟨XX, 2, none⟩ = some (.int .i64 T) := cell_of_row _ (XX) 2 _ _ _ HBx.out
       have x3 : Xx.cell? ⟨XX, 3, none⟩ = some (.slice (some ⟨g1, 0, none⟩) rs.length cap1) := cell_of_row _ (XX) 3 _ _ _ HBx.out
       have hsz := HI.out.size
       have hs0 : X3.heap.size ≤ Xx.heap.size := Nat.le_trans hba9 hsz
       have Hown := Lib.hid (show OE cdPz 35 X3.heap.size (Xx.alloc (.cells #[.int .i64 N, .slice aoo os.length capo, .int .i64 T, .slice (some ⟨g1, 0, none⟩) rs.length cap1] 35)) (.slice aou9 nu capu9) els from World.ownsRow.alloc (OE.keepw HE.out HI.out) _)
       have HbA := Lib.hid ((Below.refl Xx.heap.size Xx).alloc (Nat.le_refl _) (.cells #[.int .i64 N, .slice aoo os.length capo, .int .i64 T, .slice (some ⟨g1, 0, none⟩) rs.length cap1] 35))
       have Hlit := Lib.hid (show RS (Xx.heap.size + 1) (Xx.alloc (.cells #[.int .i64 N, .slice aoo os.length capo, .int .i64 T, .slice (some ⟨g1, 0, none⟩) rs.length cap1] 35)) (.slice (some ⟨Xx.heap.size, 0, none⟩) 1 1) 1 (cdPz.cells ⟨N, .slice aoo os.length capo, os, T, .slice (some ⟨g1, 0, none⟩) rs.length cap1, RR⟩) from rs_litz rfl)
       go_upto_region 15 with (at_builtin; go_loud (refine wpList_append_pz rfl (.tmp 203) (.tmp 205) 41 rfl 35 Tryz.undPz Tryz.infoPz X3.heap.size (.slice aou9 nu capu9) rfl els Hown.out (by simp; omega) (.slice (some ⟨Xx.heap.size, 0, none⟩) 1 1) rfl ⟨N, .slice aoo os.length capo, os, T, .slice (some ⟨g1, 0, none⟩) rs.length cap1, RR⟩ rfl rfl (Xx.heap.size + 1) Hlit.out (by omega) ?_; intro v' wz ho' hg' hk'))
       have hgb := fun g e => (World.ownsRow.lt Hown.out g e).1
       have hsz9 : X3.heap.size ≤ wz.heap.size := by have := hg'.size; simp at this; omega
       have Hx1 := OL.kept (OL.keepb HO.out HbA.out) hg' (own_apart (OL.keepb HO.out HbA.out) Hown.out (by decide))
       have Hx2 := OL.kept (OL.keepb HR.out HbA.out) hg' (own_apart (OL.keepb HR.out HbA.out) Hown.out (by decide))
       have HAz := OL.keepb (OL.keepb HA.out HI.out) HbA.out
       have HAq := Lib.hid (OL.kept HAz hg' (own_apart HAz Hown.out (by decide)))
       have Hx2' : OL 2 0 wz (.slice (some ⟨g1, 0, none⟩) rs.length cap1) RR := Hx2
       have HZq := Lib.hid (LZ.snoc (x := ⟨N, .slice aoo os.length capo, os, T, .slice (some ⟨g1, 0, none⟩) rs.length cap1, RR⟩) (LZ.grown (LZ.keepb (LZ.keepb HZ.out HI.out) HbA.out) Hown.out hg') Hx1 Hx2')
       have HEq := Lib.hid ho'
       have HMq := Lib.hid (show (els ++ [(⟨N, .slice aoo os.length capo, os, T, .slice (some ⟨g1, 0, none⟩) rs.length cap1, RR⟩ : Pz)]).map pvOf = l ++ [(⟨N, os, T, RR⟩ : Pv)] by rw [List.map_append, HMP.out]; rfl)
       have HWq := Lib.hid (bw_app (bt HW.out HI.out) hg' hgb (by omega))
       have HQz := Lib.hid (hp_app (hp_keep4 HBz.out HI.out) hg' hgb (by have := hBz; omega))
       have HQq := Lib.hid (hp_app (hp_keep4 HBq.out HI.out) hg' hgb (by have := hBq; omega))
       have HQa := Lib.hid (hp_app (hp_keep4 HBa.out HI.out) hg' hgb (by have := hBa; omega))
       clear x0 x1 x2 x3 Hx1 Hx2 Hx2' HAz hgb hg' hk' ho' Hown HbA Hlit
       have HQ := Lib.hid (show gaTo (rG N xs c rs ws u s) 0 (q + 1) = ((l ++ [(⟨N, os, T, RR⟩ : Pv)]), 0) from gaTo_one HGA.out (by omega) HGx.out)
       go_wp2_with fail
       go_roundw
       case rel => exact ⟨q + 1, els ++ [⟨N, .slice aoo os.length capo, os, T, .slice (some ⟨g1, 0, none⟩) rs.length cap1, RR⟩], (l ++ [(⟨N, os, T, RR⟩ : Pv)]), by omega, by go_num, by rw [HAK2.out], HQ.out, HEq.out, HZq.out, HMq.out, by simp; omega, hsz9, HQz.out, HQq.out, HQa.out, HAq.out, HWq.out⟩
       case measure => simp [intOf]; omega
end Go.Proofs.YtfphlpglgcmljaaGreat
