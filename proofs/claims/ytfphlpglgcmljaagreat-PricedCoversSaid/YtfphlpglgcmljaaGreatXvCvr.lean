/- Part of the proof of priced_covers_proved: Cvr. -/
import Derived.Test.YtfphlpglgcmljaaGreatXvCrl
import Derived.Test.YtfphlpglgcmljaaGreatXvInc
namespace Go.Proofs.YtfphlpglgcmljaaGreat
open Go.RowKit
set_option linter.unusedVariables false
set_option linter.unusedSimpArgs false
set_option linter.unnecessarySimpa false
def dfT (rs2 rs : List Int) (M k : Nat) : List Int := (List.range M).map fun j => if j < k then gi rs2 j - gi rs j else 0
theorem dfT_len (rs2 rs : List Int) (M k : Nat) : (dfT rs2 rs M k).length = M := by simp [dfT]
theorem dfT_at (rs2 rs : List Int) {M k j : Nat} (hj : j < M) : gi (dfT rs2 rs M k) j = if j < k then gi rs2 j - gi rs j else 0 := by
 unfold gi dfT; rw [List.getD_eq_getElem?_getD, List.getElem?_map, List.getElem?_range hj]; rfl
theorem dfT_next (rs2 rs : List Int) {M k : Nat} (hk : k < M) : (dfT rs2 rs M k).set k (gi rs2 k - gi rs k) = dfT rs2 rs M (k + 1) := by
 refine ext_gi (by rw [List.length_set, dfT_len, dfT_len]) (fun j hj => ?_)
 rw [List.length_set, dfT_len] at hj
 rw [dfT_at rs2 rs hj]
 by_cases e : j = k
 ·subst e; rw [gi_set_same (by rw [dfT_len]; exact hj), if_pos (by omega)]
 ·rw [gi_set_ne (fun c => e c.symm), dfT_at rs2 rs hj]
  by_cases c : j < k
  ·rw [if_pos c, if_pos (by omega)]
  ·rw [if_neg c, if_neg (by omega)]
theorem dfT_zero (rs2 rs : List Int) (M : Nat) : dfT rs2 rs M 0 = List.replicate M 0 := by unfold dfT; simp only [Nat.not_lt_zero, if_false]; rw [List.map_const']; simp
open Classical in
/-- What Covers answers. -/
noncomputable def covF (n : Int) (xs : List Int) (c : Int) (rs : List Int) (n2 : Int) (ys : List Int) (c2 : Int) (rs2 : List Int) : Bool × Int :=
 if pzB n xs c rs = true ∧ pzB n2 ys c2 rs2 = true ∧ n = n2 then
  (if (incF n n2 xs ys).1 = true then (decide (∀ u, PI n.toNat ys u → 0 ≤ cS n.toNat ys (c2 - cst0 n.toNat xs c rs ys) (dfT rs2 rs n.toNat n.toNat) u n.toNat), 0) else (false, 0))
 else (false, 2)
open Classical in
theorem covF_dec {P : Prop} {b : Bool} {n : Int} (q : (b = true ∧ 0 ≤ n) ↔ P) : decide P = (b && decide (0 ≤ n)) := by
 by_cases h : P
 ·have := q.2 h
  rw [decide_eq_true h, this.1, decide_eq_true this.2]; rfl
 ·rw [decide_eq_false h]
  cases b with
  | false => rfl
  | true => rw [decide_eq_false (fun d => h (q.1 ⟨rfl, d⟩))]; rfl
theorem pz_parts {N : Nat} {xs rs : List Int} {c : Int} (h : pzB N xs c rs = true) : OkZ N xs ∧ rs.length = N ∧ Near N xs ∧ (-1152921504606846976 ≤ c ∧ c ≤ 1152921504606846976) ∧ ∀ k, k < N → -16777216 ≤ gi rs k ∧ gi rs k ≤ 16777216 := by
 unfold pzB rngB at h
 simp only [Bool.and_eq_true, decide_eq_true_eq] at h
 obtain ⟨⟨h1, h2⟩, ⟨h3, h4⟩, h5⟩ := h
 have hl : rs.length = N := by omega
 refine ⟨h1, hl, fun i j hi hj hf => ?_, by unfold cstB btw at h3; simp at h3; exact h3, fun k hk => ?_⟩
 ·have hx : xs.length = (N + 1) * (N + 1) := by have := h1.len; rwa [Int.toNat_natCast] at this
  have hlt := idx_lt N i j hi hj
  have m := List.all_eq_true.1 h5 (ent N xs i j) (by unfold ent; rw [gi_of (by rw [hx]; exact hlt)]; exact List.getElem_mem _)
  unfold fnF at hf
  unfold frB btw at m
  simp [hf] at m
  unfold bF; exact m
 ·have m := List.all_eq_true.1 h4 (gi rs k) (by rw [gi_of (by omega)]; exact List.getElem_mem _)
  unfold slB btw at m
  simpa using m
theorem near_low {N : Nat} {xs : List Int} (h : OkZ N xs) (hn : Near N xs) {k : Nat} (hk : k ≤ N) : 0 ≤ lowF N xs k ∧ lowF N xs k ≤ 67108864 := by
 have n := hn 0 k (Nat.zero_le _) hk (b_low h hk).1
 have l := (b_low h hk).2
 unfold bF at n l; unfold lowF; omega
theorem cst0_bd {N : Nat} {xs ys rs : List Int} {c : Int} (hN : N ≤ 3) (hx : OkZ N xs) (hy : OkZ N ys) (nx : Near N xs) (ny : Near N ys) (hc : -1152921504606846976 ≤ c ∧ c ≤ 1152921504606846976) (hr : ∀ k, k < N → -16777216 ≤ gi rs k ∧ gi rs k ≤ 16777216) : -1156300000000000000 ≤ cst0 N xs c rs ys ∧ cst0 N xs c rs ys ≤ 1156300000000000000 := by
 have hd : ∀ k, 1 ≤ k → k ≤ N → -67108864 ≤ lowF N ys k - lowF N xs k ∧ lowF N ys k - lowF N xs k ≤ 67108864 := fun k _ k2 => by
  have := near_low hx nx k2; have := near_low hy ny k2; omega
 have e : cst0 N xs c rs ys = cS N xs c rs (fun j => lowF N ys j) N := cst_big hN (by omega) (fun k hk => by have := hr k hk; omega) (fun k k1 k2 => by have := hd k k1 k2; show _ ≤ lowF N ys k - _ ∧ lowF N ys k - _ ≤ _; omega) N (Nat.le_refl _)
 have b := cS_bd (c := c) (xs := xs) (p := fun j => lowF N ys j) hr hd N (Nat.le_refl _)
 rw [e]
 have : (N : Int) ≤ 3 := by omega
 omega
set_option maxRecDepth 100000 in
set_option maxHeartbeats 16000000 in
theorem ref_covers (n c n2 c2 : Int) (v rv v2 rv2 : Value) (xs rs ys rs2 : List Int) (w : World) (hv : RL w.heap.size w v xs) (hr : RL w.heap.size w rv rs) (hv2 : RL w.heap.size w v2 ys) (hr2 : RL w.heap.size w rv2 rs2) (h3 : n ≤ 3) :
  Calls Tryz.prog 34 #[.agg #[.int .i64 n, v, .int .i64 c, rv], .agg #[.int .i64 n2, v2, .int .i64 c2, rv2]] w fun e w' => BE (covF n xs c rs n2 ys c2 rs2) e ∧ Below w.heap.size w w' := by
 obtain ⟨ao, cap, rfl, _, _⟩ := hv.open
 obtain ⟨aor, capr, rfl, _, h0r⟩ := hr.open
 obtain ⟨ao2, cap2, rfl, _, _⟩ := hv2.open
 obtain ⟨aor2, capr2, rfl, _, h0r2⟩ := hr2.open
 have H0r := Lib.hid h0r
 have H0r2 := Lib.hid h0r2
 have Hv0 := Lib.hid hv
 have Hr0 := Lib.hid hr
 have Hv20 := Lib.hid hv2
 have Hr20 := Lib.hid hr2
 clear h0r h0r2
 have hloc := Loc.two w (.cells #[.int .i64 n, .slice ao xs.length cap, .int .i64 c, .slice aor rs.length capr] 35) (.cells #[.int .i64 n2, .slice ao2 ys.length cap2, .int .i64 c2, .slice aor2 rs2.length capr2] 35) none
 have hbw := below_grownBy hloc.grown
 have hqa : ((w.alloc (.cells #[.int .i64 n, .slice ao xs.length cap, .int .i64 c, .slice aor rs.length capr] 35)).alloc (.cells #[.int .i64 n2, .slice ao2 ys.length cap2, .int .i64 c2, .slice aor2 rs2.length capr2] 35)).heap[w.heap.size]? = some (.cells #[.int .i64 n, .slice ao xs.length cap, .int .i64 c, .slice aor rs.length capr] 35 (0, 0)) := hloc.objs 0 (by simp)
 have hqb : ((w.alloc (.cells #[.int .i64 n, .slice ao xs.length cap, .int .i64 c, .slice aor rs.length capr] 35)).alloc (.cells #[.int .i64 n2, .slice ao2 ys.length cap2, .int .i64 c2, .slice aor2 rs2.length capr2] 35)).heap[w.heap.size + 1]? = some (.cells #[.int .i64 n2, .slice ao2 ys.length cap2, .int .i64 c2, .slice aor2 rs2.length capr2] 35 (0, 0)) := hloc.objs 1 (by simp)
 have hva := hv.keepb hbw
 have hra := hr.keepb hbw
 have hvb := hv2.keepb hbw
 have hrb := hr2.keepb hbw
 clear hv hr hv2 hr2 hloc
 go_enter Tryz.func34, Tryz.ntmps34
 go_upto_region 1 with fail
 generalize ((w.alloc (.cells #[.int .i64 n, .slice ao xs.length cap, .int .i64 c, .slice aor rs.length capr] 35)).alloc (.cells #[.int .i64 n2, .slice ao2 ys.length cap2, .int .i64 c2, .slice aor2 rs2.length capr2] 35)) = X1 at *
 have HW := Lib.hid hbw
 have HBa := Lib.hid hqa
 have HBb := Lib.hid hqb
 have Hva := Lib.hid hva
 have Hra := Lib.hid hra
 have Hvb := Lib.hid hvb
 have Hrb := Lib.hid hrb
 clear hbw hqa hqb hva hra hvb hrb
 have p0 : X1.cell? ⟨w.heap.size, 0, none⟩ = some (.int .i64 n) := cell_of_row _ (w.heap.size) 0 _ _ _ HBa.out
 have p1 : X1.cell? ⟨w.heap.size, 1, none⟩ = some (.slice ao xs.length cap) := cell_of_row _ (w.heap.size) 1 _ _ _ HBa.out
 have p2 : X1.cell? ⟨w.heap.size, 2, none⟩ = some (.int .i64 c) := cell_of_row _ (w.heap.size) 2 _ _ _ HBa.out
 have p3 : X1.cell? ⟨w.heap.size, 3, none⟩ = some (.slice aor rs.length capr) := cell_of_row _ (w.heap.size) 3 _ _ _ HBa.out
 go_wp2_with fail
 refine (ref_pcheck n c _ _ xs rs _ Hva.out Hra.out).mono ?_
 rintro e w1 ⟨rfl, hb⟩
 clear p0 p1 p2 p3
 replace HBa := Lib.hid (hp_keep4 HBa.out hb)
 replace HBb := Lib.hid (hp_keep4 HBb.out hb)
 replace Hva := Lib.hid (RL.keepb Hva.out hb)
 replace Hra := Lib.hid (RL.keepb Hra.out hb)
 replace Hvb := Lib.hid (RL.keepb Hvb.out hb)
 replace Hrb := Lib.hid (RL.keepb Hrb.out hb)
 replace HW := Lib.hid (bt HW.out hb)
 clear hb
 cases hpz : pzB n xs c rs with
 | false =>
  rw [pzE_no hpz]
  have HF := Lib.hid (show covF n xs c rs n2 ys c2 rs2 = (false, 2) by unfold covF; rw [if_neg]; intro q; rw [hpz] at q; cases q.1)
  go_wp2_with fail
  go_ret2
  exact ⟨by rw [HF.out]; rfl, HW.out⟩
 | true =>
  rw [pzE_yes hpz]
  have q0 : w1.cell? ⟨w.heap.size + 1, 0, none⟩ = some (.int .i64 n2) := cell_of_row _ (w.heap.size + 1) 0 _ _ _ HBb.out
  have q1 : w1.cell? ⟨w.heap.size + 1, 1, none⟩ = some (.slice ao2 ys.length cap2) := cell_of_row _ (w.heap.size + 1) 1 _ _ _ HBb.out
  have q2 : w1.cell? ⟨w.heap.size + 1, 2, none⟩ = some (.int .i64 c2) := cell_of_row _ (w.heap.size + 1) 2 _ _ _ HBb.out
  have q3 : w1.cell? ⟨w.heap.size + 1, 3, none⟩ = some (.slice aor2 rs2.length capr2) := cell_of_row _ (w.heap.size + 1) 3 _ _ _ HBb.out
  go_wp2_with fail
  refine (ref_pcheck n2 c2 _ _ ys rs2 _ Hvb.out Hrb.out).mono ?_
  rintro e w2 ⟨rfl, hb⟩
  clear q0 q1 q2 q3
  replace HBa := Lib.hid (hp_keep4 HBa.out hb)
  replace HBb := Lib.hid (hp_keep4 HBb.out hb)
  replace Hva := Lib.hid (RL.keepb Hva.out hb)
  replace Hra := Lib.hid (RL.keepb Hra.out hb)
  replace Hvb := Lib.hid (RL.keepb Hvb.out hb)
  replace Hrb := Lib.hid (RL.keepb Hrb.out hb)
  replace HW := Lib.hid (bt HW.out hb)
  clear hb
  cases hpz2 : pzB n2 ys c2 rs2 with
  | false =>
   rw [pzE_no hpz2]
   have HF := Lib.hid (show covF n xs c rs n2 ys c2 rs2 = (false, 2) by unfold covF; rw [if_neg]; intro q; rw [hpz2] at q; cases q.2.1)
   go_wp2_with fail
   go_ret2
   exact ⟨by rw [HF.out]; rfl, HW.out⟩
  | true =>
   rw [pzE_yes hpz2]
   have p0 : w2.cell? ⟨w.heap.size, 0, none⟩ = some (.int .i64 n) := cell_of_row _ (w.heap.size) 0 _ _ _ HBa.out
   have p1 : w2.cell? ⟨w.heap.size, 1, none⟩ = some (.slice ao xs.length cap) := cell_of_row _ (w.heap.size) 1 _ _ _ HBa.out
   have p2 : w2.cell? ⟨w.heap.size, 2, none⟩ = some (.int .i64 c) := cell_of_row _ (w.heap.size) 2 _ _ _ HBa.out
   have p3 : w2.cell? ⟨w.heap.size, 3, none⟩ = some (.slice aor rs.length capr) := cell_of_row _ (w.heap.size) 3 _ _ _ HBa.out
   have q0 : w2.cell? ⟨w.heap.size + 1, 0, none⟩ = some (.int .i64 n2) := cell_of_row _ (w.heap.size + 1) 0 _ _ _ HBb.out
   have q1 : w2.cell? ⟨w.heap.size + 1, 1, none⟩ = some (.slice ao2 ys.length cap2) := cell_of_row _ (w.heap.size + 1) 1 _ _ _ HBb.out
   have q2 : w2.cell? ⟨w.heap.size + 1, 2, none⟩ = some (.int .i64 c2) := cell_of_row _ (w.heap.size + 1) 2 _ _ _ HBb.out
   have q3 : w2.cell? ⟨w.heap.size + 1, 3, none⟩ = some (.slice aor2 rs2.length capr2) := cell_of_row _ (w.heap.size + 1) 3 _ _ _ HBb.out
   by_cases hnn : n = n2
   rotate_left
   ·have hnb : (n != n2) = true := by simpa using hnn
    have HF := Lib.hid (show covF n xs c rs n2 ys c2 rs2 = (false, 2) by unfold covF; rw [if_neg]; intro q; exact hnn q.2.2)
    go_wp2_with fail
    go_ret2
    exact ⟨by rw [HF.out]; rfl, HW.out⟩
   subst hnn
   have hnb : (n != n) = false := by simp
   obtain ⟨N, rfl, ok1, hl1, _⟩ := pzB_nat hpz
   obtain ⟨-, -, n1, cb1, rb1⟩ := pz_parts hpz
   obtain ⟨ok2, hl2, nn2, cb2, rb2⟩ := pz_parts hpz2
   have hN : N ≤ 3 := by omega
   have HP := Lib.hid (And.intro hpz hpz2)
   have HL := Lib.hid (And.intro hl1 hl2)
   have HCB := Lib.hid (cst0_bd hN ok1 ok2 n1 nn2 cb1 rb1)
   clear hpz hpz2 hl1 hl2
   obtain ⟨ib, ie, hinc⟩ : ∃ b e, incF N N xs ys = (b, e) := ⟨_, _, rfl⟩
   have HI := Lib.hid hinc
   clear hinc
   go_upto_region 3 with fail
   go_wp2_with fail
   refine (ref_includes N N _ _ xs ys _ Hva.out Hvb.out).mono ?_
   rintro e w3 ⟨he, hb⟩
   rw [HI.out] at he
   obtain rfl : e = .returned (.tuple #[.bool ib, .int .i64 ie]) := he
   clear p0 p1 p2 p3
   clear q0 q1 q2 q3
   replace HBa := Lib.hid (hp_keep4 HBa.out hb)
   replace HBb := Lib.hid (hp_keep4 HBb.out hb)
   replace Hva := Lib.hid (RL.keepb Hva.out hb)
   replace Hra := Lib.hid (RL.keepb Hra.out hb)
   replace Hvb := Lib.hid (RL.keepb Hvb.out hb)
   replace Hrb := Lib.hid (RL.keepb Hrb.out hb)
   replace HW := Lib.hid (bt HW.out hb)
   clear hb
   cases ib with
   | false =>
    have HF := Lib.hid (show covF N xs c rs N ys c2 rs2 = (false, 0) by unfold covF; rw [if_pos ⟨HP.out.1, HP.out.2, rfl⟩, HI.out]; rfl)
    go_wp2_with fail
    go_ret2
    exact ⟨by rw [HF.out]; rfl, HW.out⟩
   | true =>
    obtain ⟨i0, hi, hz0, hz1, hz2⟩ := info_parts Tryz.infL64
    have Hi := Lib.hid hi
    have Hz0 := Lib.hid hz0
    have Hz1 := Lib.hid hz1
    have Hz2 := Lib.hid hz2
    have hwz := hp_lt3 HBb.out
    clear hi hz0 hz1 hz2
    obtain ⟨M, hM⟩ : ∃ M, rs2.length = M := ⟨_, rfl⟩
    have HMN := Lib.hid (show M = N from hM.symm.trans HL.out.2)
    have HM1 := Lib.hid hM
    have HM3 := Lib.hid (show M ≤ 3 by have := HL.out.2; omega)
    have q0 : w3.cell? ⟨w.heap.size + 1, 0, none⟩ = some (.int .i64 N) := cell_of_row _ (w.heap.size + 1) 0 _ _ _ HBb.out
    have q1 : w3.cell? ⟨w.heap.size + 1, 1, none⟩ = some (.slice ao2 ys.length cap2) := cell_of_row _ (w.heap.size + 1) 1 _ _ _ HBb.out
    have q2 : w3.cell? ⟨w.heap.size + 1, 2, none⟩ = some (.int .i64 c2) := cell_of_row _ (w.heap.size + 1) 2 _ _ _ HBb.out
    have q3 : w3.cell? ⟨w.heap.size + 1, 3, none⟩ = some (.slice aor2 rs2.length capr2) := cell_of_row _ (w.heap.size + 1) 3 _ _ _ HBb.out
    rw [hM] at q3
    clear hM
    have hM3 := HM3.out
    have hBb2 := HBb.out
    rw [HM1.out] at hBb2
    clear HBb
    go_upto_region 6 with fail
    go_upto_region 7 with (refine wpList_make_full _ rfl (.tmp 41) (.tmp 41) 33 rfl (w.heap.size + 2) 2 i0 (.int .i64 0) 1 Tryz.undL64 Hi.out Hz0.out Hz1.out .i64 .i64 M M M rfl rfl rfl rfl ?_ ?_ ?_ ?_; (rw [Hz2.out]; omega); (unfold maxLen; omega); omega; (intro w4 hown hg))
    have hown2 : OL 2 (w.heap.size + 2) w4 (.slice (some ⟨w3.heap.size, 0, none⟩) M M) (dfT rs2 rs M 0) := by
     have e : (madeCells (Value.int .i64 0).cells (M * 1)).toList = (dfT rs2 rs M 0).map (Value.int .i64) := by
      rw [Nat.mul_one]; show (madeCells #[Value.int .i64 0] M).toList = _
      rw [toList_madeCells_one, dfT_zero, List.map_replicate]
     rw [e] at hown
     unfold OL
     rw [dfT_len]
     simpa using hown
    have hb := below_grownBy hg
    have hgw : w.heap.size + 2 ≤ w3.heap.size := by omega
    clear hown hg hwz
    have HBb := Lib.hid hBb2
    clear hBb2
    clear q0 q1 q2 q3
    replace Hrb := Lib.hid (show RL w3.heap.size w3 (.slice aor2 M capr2) rs2 by have q := Hrb.out; rwa [HM1.out] at q)
    replace HBa := Lib.hid (hp_keep4 HBa.out hb)
    replace HBb := Lib.hid (hp_keep4 HBb.out hb)
    replace Hva := Lib.hid (RL.keepb Hva.out hb)
    replace Hra := Lib.hid (RL.keepb Hra.out hb)
    replace Hvb := Lib.hid (RL.keepb Hvb.out hb)
    replace Hrb := Lib.hid (RL.keepb Hrb.out hb)
    replace HW := Lib.hid (bt HW.out hb)
    clear hb
    generalize hG : w3.heap.size = g at *
    clear hG
    have HOw := Lib.hid hown2
    clear hown2
    go_wp2_with fail
    go_loopw [9] (fun s wr => ∃ k : Nat, k ≤ M ∧ s = .int .i64 k ∧ OL 2 (w.heap.size + 2) wr (.slice (some ⟨g, 0, none⟩) M M) (dfT rs2 rs M k) ∧ wr.heap[w.heap.size]? = some (.cells #[.int .i64 N, .slice ao xs.length cap, .int .i64 c, .slice aor rs.length capr] 35 (0, 0)) ∧ wr.heap[w.heap.size + 1]? = some (.cells #[.int .i64 N, .slice ao2 ys.length cap2, .int .i64 c2, .slice aor2 M capr2] 35 (0, 0)) ∧ Below w.heap.size w wr) (fun s _ => M - (intOf s).toNat)
    case atStart => exact ⟨0, Nat.zero_le _, rfl, HOw.out, HBa.out, HBb.out, HW.out⟩
    case round =>
     clear HOw HBa HBb
     obtain ⟨k, hk, rfl, h1, h2, h4, h5⟩ := hrel
     have HOw := Lib.hid h1
     have HBa := Lib.hid h2
     have HBb := Lib.hid h4
     have HWn := Lib.hid h5
     clear h1 h2 h4 h5
     obtain ⟨wa, hwa⟩ : ∃ V, V = wr := ⟨_, rfl⟩
     subst hwa
     by_cases hlt : k < M
     ·skip
      have htk : decide ((k : Int) < (M : Int)) = true := by simp; omega
      have hlr1 : rs.length = N := HL.out.1
      have HL1 := Lib.hid hlr1
      clear hlr1
      obtain ⟨b1, o1, rfl, hb1, hc1⟩ := H0r.out (by have := HL1.out; have := HMN.out; omega)
      obtain ⟨b2, o2, rfl, hb2, hc2⟩ := H0r2.out (by have := HM1.out; omega)
      obtain ⟨E1, hE1⟩ : ∃ E, gi rs k = E := ⟨_, rfl⟩
      obtain ⟨E2, hE2⟩ : ∃ E, gi rs2 k = E := ⟨_, rfl⟩
      have e1b := rb1 k (by have := HMN.out; omega)
      have e2b := rb2 k (by have := HMN.out; omega)
      rw [hE1] at e1b
      rw [hE2] at e2b
      have x1 : wa.cell? ⟨b1, o1 + k, none⟩ = some (.int .i64 E1) := by
       have h := ((bcell HWn.out).1 b1 (o1 + k) hb1).trans (hc1 k (by have := HL1.out; have := HMN.out; omega))
       rw [hE1] at h
       exact h
      have x2 : wa.cell? ⟨b2, o2 + k, none⟩ = some (.int .i64 E2) := by
       have h := ((bcell HWn.out).1 b2 (o2 + k) hb2).trans (hc2 k (by have := HM1.out; omega))
       rw [hE2] at h
       exact h
      have k0 : (k : Int) < M := by omega
      have k1 : (0 : Int) ≤ (k : Int) := by omega
      have k2 : (k : Int) < rs.length := by have := HL1.out; have := HMN.out; omega
      have HwS := Lib.hid (show IntKind.i64.wrap (E2 - E1) = E2 - E1 from wr_id (by omega) (by omega))
      have HNx := Lib.hid (show (dfT rs2 rs M k).set k (E2 - E1) = dfT rs2 rs M (k + 1) by rw [← hE1, ← hE2]; exact dfT_next rs2 rs hlt)
      clear hc1 hc2 hE1 hE2
      have p3 : wa.cell? ⟨w.heap.size, 3, none⟩ = some (.slice (some ⟨b1, o1, none⟩) rs.length capr) := cell_of_row _ (w.heap.size) 3 _ _ _ HBa.out
      have q3 : wa.cell? ⟨w.heap.size + 1, 3, none⟩ = some (.slice (some ⟨b2, o2, none⟩) M capr2) := cell_of_row _ (w.heap.size + 1) 3 _ _ _ HBb.out
      go_upto_region 10 with fail
      refine wp_region_noPanic ?_
      refine wp_region_held_drew (S := (fun w' => w'.cell? ⟨w.heap.size + 1, 3, none⟩ = some (.slice (some ⟨b2, o2, none⟩) M capr2) ∧ w'.cell? ⟨w.heap.size, 3, none⟩ = some (.slice (some ⟨b1, o1, none⟩) rs.length capr) ∧ w'.cell? ⟨b2, o2 + k, none⟩ = some (.int .i64 E2) ∧ w'.cell? ⟨b1, o1 + k, none⟩ = some (.int .i64 E1))) (by kernel_rfl) ⟨q3, p3, x2, x1⟩ (fun hHeld => ?_)
      refine wpAnyH_take (i := 0) (v := ?_) rfl (by kernel_rfl) (by kernel_rfl) (by kernel_rfl) (fun _ _ _ h => h) (Or.inl ⟨by rfl, ?_⟩) (by assumption) ?_
      rotate_left
      ·intro w hSw; (try dsimp only at hSw); go_simp; (try with_reducible rfl)
      try simp only [Act.put, List.getElem_toArray, List.getElem_cons_zero, List.setIfInBounds_toArray, List.set_cons_zero, List.set_cons_succ]
      refine wpAnyH_take (i := 1) (v := ?_) rfl (by kernel_rfl) (by kernel_rfl) (by kernel_rfl) (fun _ _ _ h => h) (Or.inl ⟨by rfl, ?_⟩) (by assumption) ?_
      rotate_left
      ·intro w hSw; (try dsimp only at hSw); go_simp; (try with_reducible rfl)
      try simp only [Act.put, List.getElem_toArray, List.getElem_cons_zero, List.getElem_cons_succ, List.setIfInBounds_toArray, List.set_cons_zero, List.set_cons_succ]
      refine wpAnyH_take (i := 2) (v := ?_) rfl (by kernel_rfl) (by kernel_rfl) (by kernel_rfl) (fun _ _ _ h => h) (Or.inl ⟨by rfl, ?_⟩) (by assumption) ?_
      rotate_left
      ·intro w hSw; (try dsimp only at hSw); go_simp; (try with_reducible rfl)
      try simp only [Act.put, List.getElem_toArray, List.getElem_cons_zero, List.getElem_cons_succ, List.setIfInBounds_toArray, List.set_cons_zero, List.set_cons_succ]
      refine wpAnyH_take (i := 3) (v := ?_) rfl (by kernel_rfl) (by kernel_rfl) (by kernel_rfl) (fun _ _ _ h => h) (Or.inl ⟨by rfl, ?_⟩) (by assumption) ?_
      rotate_left
      ·intro w hSw; (try dsimp only at hSw); go_simp; (try with_reducible rfl)
      try simp only [Act.put, List.getElem_toArray, List.getElem_cons_zero, List.getElem_cons_succ, List.setIfInBounds_toArray, List.set_cons_zero, List.set_cons_succ]
      refine wpAnyH_take (i := 4) (v := ?_) rfl (by kernel_rfl) (by kernel_rfl) (by kernel_rfl) (fun _ _ _ h => h) (Or.inl ⟨by rfl, ?_⟩) (by assumption) ?_
      rotate_left
      ·intro w hSw; (try dsimp only at hSw); go_simp; (try with_reducible rfl)
      try simp only [Act.put, List.getElem_toArray, List.getElem_cons_zero, List.getElem_cons_succ, List.setIfInBounds_toArray, List.set_cons_zero, List.set_cons_succ]
      refine wpAnyH_take (i := 5) (v := ?_) rfl (by kernel_rfl) (by kernel_rfl) (by kernel_rfl) (fun _ _ _ h => h) (Or.inl ⟨by rfl, ?_⟩) (by assumption) ?_
      rotate_left
      ·intro w hSw; (try dsimp only at hSw); go_simp; (try with_reducible rfl)
      try simp only [Act.put, List.getElem_toArray, List.getElem_cons_zero, List.getElem_cons_succ, List.setIfInBounds_toArray, List.set_cons_zero, List.set_cons_succ]
      refine wpAnyH_take (i := 6) (v := ?_) rfl (by kernel_rfl) (by kernel_rfl) (by kernel_rfl) (fun _ _ _ h => h) (Or.inl ⟨by rfl, ?_⟩) (by assumption) ?_
      rotate_left
      ·intro w hSw; (try dsimp only at hSw); go_simp; (try with_reducible rfl)
      try simp only [Act.put, List.getElem_toArray, List.getElem_cons_zero, List.getElem_cons_succ, List.setIfInBounds_toArray, List.set_cons_zero, List.set_cons_succ]
      refine wpAnyH_take (i := 7) (v := ?_) rfl (by kernel_rfl) (by kernel_rfl) (by kernel_rfl) (fun _ _ _ h => h) (Or.inl ⟨by rfl, ?_⟩) (by assumption) ?_
      rotate_left
      ·intro w hSw; (try dsimp only at hSw); go_simp; (try with_reducible rfl)
      try simp only [Act.put, List.getElem_toArray, List.getElem_cons_zero, List.getElem_cons_succ, List.setIfInBounds_toArray, List.set_cons_zero, List.set_cons_succ]
      refine wpAnyH_take (i := 8) (v := ?_) rfl (by kernel_rfl) (by kernel_rfl) (by kernel_rfl) (fun _ _ _ h => h) (Or.inl ⟨by rfl, ?_⟩) (by assumption) ?_
      rotate_left
      ·intro w hSw; (try dsimp only at hSw); go_simp; (try with_reducible rfl)
      try simp only [Act.put, List.getElem_toArray, List.getElem_cons_zero, List.getElem_cons_succ, List.setIfInBounds_toArray, List.set_cons_zero, List.set_cons_succ]
      refine wpAnyH_take (i := 9) (v := ?_) rfl (by kernel_rfl) (by kernel_rfl) (by kernel_rfl) (fun _ _ _ h => h) (Or.inl ⟨by rfl, ?_⟩) (by assumption) ?_
      rotate_left
      ·intro w hSw; (try dsimp only at hSw); go_simp; (try with_reducible rfl)
      try simp only [Act.put, List.getElem_toArray, List.getElem_cons_zero, List.getElem_cons_succ, List.setIfInBounds_toArray, List.set_cons_zero, List.set_cons_succ]
      refine wpAnyH_take (i := 10) (v := ?_) rfl (by kernel_rfl) (by kernel_rfl) (by kernel_rfl) (fun _ _ _ h => h) (Or.inl ⟨by rfl, ?_⟩) (by assumption) ?_
      rotate_left
      ·intro w hSw; (try dsimp only at hSw); go_simp; (try with_reducible rfl)
      try simp only [Act.put, List.getElem_toArray, List.getElem_cons_zero, List.getElem_cons_succ, List.setIfInBounds_toArray, List.set_cons_zero, List.set_cons_succ]
      refine wpAnyH_take (i := 11) (v := ?_) rfl (by kernel_rfl) (by kernel_rfl) (by kernel_rfl) (fun _ _ _ h => h) (Or.inl ⟨by rfl, ?_⟩) (by assumption) ?_
      rotate_left
      ·intro w hSw; (try dsimp only at hSw); go_simp; (try with_reducible rfl)
      try simp only [Act.put, List.getElem_toArray, List.getElem_cons_zero, List.getElem_cons_succ, List.setIfInBounds_toArray, List.set_cons_zero, List.set_cons_succ]
      refine wpAnyH_take (i := 12) (v := ?_) rfl (by kernel_rfl) (by kernel_rfl) (by kernel_rfl) (fun _ _ _ h => h) (Or.inl ⟨by rfl, ?_⟩) (by assumption) ?_
      rotate_left
      ·intro w hSw; (try dsimp only at hSw); go_simp; (try with_reducible rfl)
      try simp only [Act.put, List.getElem_toArray, List.getElem_cons_zero, List.getElem_cons_succ, List.setIfInBounds_toArray, List.set_cons_zero, List.set_cons_succ]
      simp only [HwS.out]
      refine wpAnyH_take (i := 13) (v := ?_) rfl (by kernel_rfl) (by kernel_rfl) (by kernel_rfl) (fun _ _ _ h => h) (Or.inl ⟨by rfl, ?_⟩) (by assumption) ?_
      rotate_left
      ·intro w hSw; (try dsimp only at hSw); go_simp; (try with_reducible rfl)
      try simp only [Act.put, List.getElem_toArray, List.getElem_cons_zero, List.getElem_cons_succ, List.setIfInBounds_toArray, List.set_cons_zero, List.set_cons_succ]
      have hd := OL.drew HOw.out
      have hsd := OL.stored hd (dfT_len rs2 rs M k).symm k (E2 - E1)
      have hfr : wa.drew.frozen? ⟨g, k, none⟩ = false := own_fro hd (by rw [dfT_len]; exact hlt)
      have hcl := own_cell hd (by rw [dfT_len]; exact hlt) (k := k)
      have HS1 := Lib.hid (show OL 2 (w.heap.size + 2) (wa.drew.setCell ⟨g, k, none⟩ (.int .i64 (E2 - E1))) (.slice (some ⟨g, 0, none⟩) M M) (dfT rs2 rs M (k + 1)) by have q := hsd.1; rw [HNx.out] at q; exact q)
      have HS2 := Lib.hid (show (wa.drew.setCell ⟨g, k, none⟩ (.int .i64 (E2 - E1))).heap[w.heap.size]? = some (.cells #[.int .i64 N, .slice ao xs.length cap, .int .i64 c, .slice (some ⟨b1, o1, none⟩) rs.length capr] 35 (0, 0)) from (st1k_ne (w := wa.drew) (b := g) (i := k) (c := w.heap.size) (.int .i64 (E2 - E1)) (by omega)).trans HBa.out)
      have HS3 := Lib.hid (show (wa.drew.setCell ⟨g, k, none⟩ (.int .i64 (E2 - E1))).heap[w.heap.size + 1]? = some (.cells #[.int .i64 N, .slice ao2 ys.length cap2, .int .i64 c2, .slice (some ⟨b2, o2, none⟩) M capr2] 35 (0, 0)) from (st1k_ne (w := wa.drew) (b := g) (i := k) (c := w.heap.size + 1) (.int .i64 (E2 - E1)) (by omega)).trans HBb.out)
      have HS4 := Lib.hid (HWn.out.drew.setCell (p := ⟨g, k, none⟩) (by show w.heap.size ≤ g; omega) (.int .i64 (E2 - E1)))
      have y3 : (wa.drew.setCell ⟨g, k, none⟩ (.int .i64 (E2 - E1))).cell? ⟨w.heap.size, 3, none⟩ = some (.slice (some ⟨b1, o1, none⟩) rs.length capr) := cell_of_row _ (w.heap.size) 3 _ _ _ HS2.out
      have z3 : (wa.drew.setCell ⟨g, k, none⟩ (.int .i64 (E2 - E1))).cell? ⟨w.heap.size + 1, 3, none⟩ = some (.slice (some ⟨b2, o2, none⟩) M capr2) := cell_of_row _ (w.heap.size + 1) 3 _ _ _ HS3.out
      have y1 : (wa.drew.setCell ⟨g, k, none⟩ (.int .i64 (E2 - E1))).cell? ⟨b1, o1 + k, none⟩ = some (.int .i64 E1) := ((HWn.out.drew.setCell (p := ⟨g, k, none⟩) (by show w.heap.size ≤ g; omega) (.int .i64 (E2 - E1))).cell (p := ⟨b1, o1 + k, none⟩) hb1).trans ((HWn.out.cell (p := ⟨b1, o1 + k, none⟩) hb1).symm.trans x1)
      have y2 : (wa.drew.setCell ⟨g, k, none⟩ (.int .i64 (E2 - E1))).cell? ⟨b2, o2 + k, none⟩ = some (.int .i64 E2) := ((HWn.out.drew.setCell (p := ⟨g, k, none⟩) (by show w.heap.size ≤ g; omega) (.int .i64 (E2 - E1))).cell (p := ⟨b2, o2 + k, none⟩) hb2).trans ((HWn.out.cell (p := ⟨b2, o2 + k, none⟩) hb2).symm.trans x2)
      clear hd hsd
      refine wpAnyH_ready (rs := [14]) (by kernel_rfl) (by simp) ?_
      refine AllReadyH.cons rfl (fun K hK => ?_) AllReadyH.nil
      go_simp
      refine hK.out _ _ ⟨z3, y3, y2, y1⟩ (fun hHeld2 => ?_)
      clear hK K y1 y2 y3 z3
      try simp only [Act.put, List.getElem_toArray, List.getElem_cons_zero, List.getElem_cons_succ, List.setIfInBounds_toArray, List.set_cons_zero, List.set_cons_succ]
      refine wpAnyH_done (by kernel_rfl) ?_ _
      refine NoPanic.normal ?_
      go_wp2_with fail
      go_roundw
      case rel => exact ⟨k + 1, by omega, by go_num, HS1.out, HS2.out, HS3.out, HS4.out⟩
      case measure => simp [intOf]; omega
     ·skip
      have htk : decide ((k : Int) < (M : Int)) = false := by simp; omega
      obtain rfl : M = k := by omega
      have HOk2 := Lib.hid ok2
      have HOk1 := Lib.hid ok1
      have HNn := Lib.hid nn2
      have HR1 := Lib.hid rb1
      have HR2 := Lib.hid rb2
      have HC2 := Lib.hid cb2
      clear ok1 ok2 nn2 rb1 rb2 cb2 n1 cb1
      have HDf := Lib.hid (show ∀ k, k < N → -33554432 ≤ gi (dfT rs2 rs M M) k ∧ gi (dfT rs2 rs M M) k ≤ 33554432 from fun k hk => by
       have hkM : k < M := by have := HMN.out; omega
       rw [dfT_at rs2 rs hkM, if_pos hkM]
       have := HR1.out k hk
       have := HR2.out k hk
       omega)
      have HS := Lib.hid (fun (X : World) (hX : Below wa.heap.size wa X) => (⟨cell_of_row _ (w.heap.size) 0 _ _ _ (hp_keep4 HBa.out hX), cell_of_row _ (w.heap.size) 1 _ _ _ (hp_keep4 HBa.out hX), cell_of_row _ (w.heap.size) 2 _ _ _ (hp_keep4 HBa.out hX), cell_of_row _ (w.heap.size) 3 _ _ _ (hp_keep4 HBa.out hX), cell_of_row _ (w.heap.size + 1) 0 _ _ _ (hp_keep4 HBb.out hX), cell_of_row _ (w.heap.size + 1) 1 _ _ _ (hp_keep4 HBb.out hX), cell_of_row _ (w.heap.size + 1) 2 _ _ _ (hp_keep4 HBb.out hX)⟩ : X.cell? ⟨w.heap.size, 0, none⟩ = some (.int .i64 N) ∧ X.cell? ⟨w.heap.size, 1, none⟩ = some (.slice ao xs.length cap) ∧ X.cell? ⟨w.heap.size, 2, none⟩ = some (.int .i64 c) ∧ X.cell? ⟨w.heap.size, 3, none⟩ = some (.slice aor rs.length capr) ∧ X.cell? ⟨w.heap.size + 1, 0, none⟩ = some (.int .i64 N) ∧ X.cell? ⟨w.heap.size + 1, 1, none⟩ = some (.slice ao2 ys.length cap2) ∧ X.cell? ⟨w.heap.size + 1, 2, none⟩ = some (.int .i64 c2)))
      have p0 : wa.cell? ⟨w.heap.size, 0, none⟩ = some (.int .i64 N) := cell_of_row _ (w.heap.size) 0 _ _ _ HBa.out
      have p1 : wa.cell? ⟨w.heap.size, 1, none⟩ = some (.slice ao xs.length cap) := cell_of_row _ (w.heap.size) 1 _ _ _ HBa.out
      have p2 : wa.cell? ⟨w.heap.size, 2, none⟩ = some (.int .i64 c) := cell_of_row _ (w.heap.size) 2 _ _ _ HBa.out
      have p3 : wa.cell? ⟨w.heap.size, 3, none⟩ = some (.slice aor rs.length capr) := cell_of_row _ (w.heap.size) 3 _ _ _ HBa.out
      have q0 : wa.cell? ⟨w.heap.size + 1, 0, none⟩ = some (.int .i64 N) := cell_of_row _ (w.heap.size + 1) 0 _ _ _ HBb.out
      have q1 : wa.cell? ⟨w.heap.size + 1, 1, none⟩ = some (.slice ao2 ys.length cap2) := cell_of_row _ (w.heap.size + 1) 1 _ _ _ HBb.out
      have q2 : wa.cell? ⟨w.heap.size + 1, 2, none⟩ = some (.int .i64 c2) := cell_of_row _ (w.heap.size + 1) 2 _ _ _ HBb.out
      go_upto_region 11 with fail
      refine wp_region_noPanic ?_
      refine wp_region_held_drew (S := (fun w' => w'.cell? ⟨w.heap.size, 0, none⟩ = some (.int .i64 N) ∧ w'.cell? ⟨w.heap.size, 1, none⟩ = some (.slice ao xs.length cap) ∧ w'.cell? ⟨w.heap.size, 2, none⟩ = some (.int .i64 c) ∧ w'.cell? ⟨w.heap.size, 3, none⟩ = some (.slice aor rs.length capr) ∧ w'.cell? ⟨w.heap.size + 1, 0, none⟩ = some (.int .i64 N) ∧ w'.cell? ⟨w.heap.size + 1, 1, none⟩ = some (.slice ao2 ys.length cap2) ∧ w'.cell? ⟨w.heap.size + 1, 2, none⟩ = some (.int .i64 c2))) (by kernel_rfl) ⟨p0, p1, p2, p3, q0, q1, q2⟩ (fun hHeld => ?_)
      refine wpAnyH_take (i := 0) (v := ?_) rfl (by kernel_rfl) (by kernel_rfl) (by kernel_rfl) (fun _ _ _ h => h) (Or.inl ⟨by rfl, ?_⟩) (by assumption) ?_
      rotate_left
      ·intro w hSw; (try dsimp only at hSw); go_simp; (try with_reducible rfl)
      try simp only [Act.put, List.getElem_toArray, List.getElem_cons_zero, List.setIfInBounds_toArray, List.set_cons_zero, List.set_cons_succ]
      refine wpAnyH_take (i := 1) (v := ?_) rfl (by kernel_rfl) (by kernel_rfl) (by kernel_rfl) (fun _ _ _ h => h) (Or.inl ⟨by rfl, ?_⟩) (by assumption) ?_
      rotate_left
      ·intro w hSw; (try dsimp only at hSw); go_simp; (try with_reducible rfl)
      try simp only [Act.put, List.getElem_toArray, List.getElem_cons_zero, List.getElem_cons_succ, List.setIfInBounds_toArray, List.set_cons_zero, List.set_cons_succ]
      refine wpAnyH_take (i := 2) (v := ?_) rfl (by kernel_rfl) (by kernel_rfl) (by kernel_rfl) (fun _ _ _ h => h) (Or.inl ⟨by rfl, ?_⟩) (by assumption) ?_
      rotate_left
      ·intro w hSw; (try dsimp only at hSw); go_simp; (try with_reducible rfl)
      try simp only [Act.put, List.getElem_toArray, List.getElem_cons_zero, List.getElem_cons_succ, List.setIfInBounds_toArray, List.set_cons_zero, List.set_cons_succ]
      refine wpAnyH_take (i := 3) (v := ?_) rfl (by kernel_rfl) (by kernel_rfl) (by kernel_rfl) (fun _ _ _ h => h) (Or.inl ⟨by rfl, ?_⟩) (by assumption) ?_
      rotate_left
      ·intro w hSw; (try dsimp only at hSw); go_simp; (try with_reducible rfl)
      try simp only [Act.put, List.getElem_toArray, List.getElem_cons_zero, List.getElem_cons_succ, List.setIfInBounds_toArray, List.set_cons_zero, List.set_cons_succ]
      refine wpAnyH_take (i := 4) (v := ?_) rfl (by kernel_rfl) (by kernel_rfl) (by kernel_rfl) (fun _ _ _ h => h) (Or.inl ⟨by rfl, ?_⟩) (by assumption) ?_
      rotate_left
      ·intro w hSw; (try dsimp only at hSw); go_simp; (try with_reducible rfl)
      try simp only [Act.put, List.getElem_toArray, List.getElem_cons_zero, List.getElem_cons_succ, List.setIfInBounds_toArray, List.set_cons_zero, List.set_cons_succ]
      refine wpAnyH_take (i := 5) (v := ?_) rfl (by kernel_rfl) (by kernel_rfl) (by kernel_rfl) (fun _ _ _ h => h) (Or.inl ⟨by rfl, ?_⟩) (by assumption) ?_
      rotate_left
      ·intro w hSw; (try dsimp only at hSw); go_simp; (try with_reducible rfl)
      try simp only [Act.put, List.getElem_toArray, List.getElem_cons_zero, List.getElem_cons_succ, List.setIfInBounds_toArray, List.set_cons_zero, List.set_cons_succ]
      refine wpAnyH_take (i := 6) (v := ?_) rfl (by kernel_rfl) (by kernel_rfl) (by kernel_rfl) (fun _ _ _ h => h) (Or.inl ⟨by rfl, ?_⟩) (by assumption) ?_
      rotate_left
      ·intro w hSw; (try dsimp only at hSw); go_simp; (try with_reducible rfl)
      try simp only [Act.put, List.getElem_toArray, List.getElem_cons_zero, List.getElem_cons_succ, List.setIfInBounds_toArray, List.set_cons_zero, List.set_cons_succ]
      refine wpAnyH_take (i := 10) (v := ?_) rfl (by kernel_rfl) (by kernel_rfl) (by kernel_rfl) (fun _ _ _ h => h) (Or.inl ⟨by rfl, ?_⟩) (by assumption) ?_
      rotate_left
      ·intro w hSw; (try dsimp only at hSw); go_simp; (try with_reducible rfl)
      try simp only [Act.put, List.getElem_toArray, List.getElem_cons_zero, List.getElem_cons_succ, List.setIfInBounds_toArray, List.set_cons_zero, List.set_cons_succ]
      have H0 := Lib.hid (show Below wa.heap.size wa wa.drew from (Below.refl _ _).drew)
      clear hHeld p0 p1 p2 p3 q0 q1 q2
      generalize wa.drew = L0 at *
      refine wpAnyH_ready (rs := [7]) (by kernel_rfl) (by simp) ?_
      refine AllReadyH.cons rfl (fun K hK => ?_) AllReadyH.nil
      go_simp
      refine (ref_corner N _ ys _ (Hv20.out.keepb (bt HWn.out H0.out)) HOk2.out).mono ?_
      rintro e L1 ⟨⟨cv, rfl, hcv⟩, hb⟩
      obtain ⟨aoc, capc, rfl⟩ := owns_form hcv
      have H1 := Lib.hid (bt H0.out hb)
      refine hK.out _ _ (HS.out L1 H1.out) (fun hHeld2 => ?_)
      clear hK K
      try simp only [Act.put, List.getElem_toArray, List.getElem_cons_zero, List.getElem_cons_succ, List.setIfInBounds_toArray, List.set_cons_zero, List.set_cons_succ]
      have Hcv := Lib.hid (OL.rl hcv)
      clear hcv hb
      refine wpAnyH_ready (rs := [8]) (by kernel_rfl) (by simp) ?_
      refine AllReadyH.cons rfl (fun K hK => ?_) AllReadyH.nil
      go_simp
      refine (ref_cost N c _ _ _ xs rs (crR N ys N) _ (Hv0.out.keepb (bt HWn.out H1.out)) (Hr0.out.keepb (bt HWn.out H1.out)) Hcv.out HOk1.out HL.out.1 (crR_len _ _ _)).mono ?_
      rintro e L2 ⟨he, hb⟩
      rw [cst_R] at he
      obtain rfl := he
      have H2 := Lib.hid (bt H1.out hb)
      refine hK.out _ _ (HS.out L2 H2.out) (fun hHeld2 => ?_)
      clear hK K
      try simp only [Act.put, List.getElem_toArray, List.getElem_cons_zero, List.getElem_cons_succ, List.setIfInBounds_toArray, List.set_cons_zero, List.set_cons_succ]
      clear hb
      refine wpAnyH_take (i := 9) (v := ?_) rfl (by kernel_rfl) (by kernel_rfl) (by kernel_rfl) (fun _ _ _ h => h) (Or.inl ⟨by rfl, ?_⟩) (by assumption) ?_
      rotate_left
      ·intro w hSw; (try dsimp only at hSw); go_simp; (try with_reducible rfl)
      try simp only [Act.put, List.getElem_toArray, List.getElem_cons_zero, List.getElem_cons_succ, List.setIfInBounds_toArray, List.set_cons_zero, List.set_cons_succ]
      rw [wr_id (by have := HC2.out; have := HCB.out; omega) (by have := HC2.out; have := HCB.out; omega)]
      refine wpAnyH_ready (rs := [11]) (by kernel_rfl) (by simp) ?_
      refine AllReadyH.cons rfl (fun K hK => ?_) AllReadyH.nil
      go_simp
      refine (ref_least23 N (c2 - cst0 N xs c rs ys) _ _ ys (dfT rs2 rs M M) _ (Hv20.out.keepb (bt HWn.out H2.out)) ((OL.rl HOw.out).keepb H2.out) HOk2.out (by have := HM3.out; have := HMN.out; omega) HNn.out ((dfT_len _ _ _ _).trans HMN.out) HDf.out (by have := HC2.out; have := HCB.out; omega)).mono ?_
      rintro e L3 ⟨⟨ln, lb, rfl, hlr⟩, hb⟩
      have HLr := Lib.hid hlr
      clear hlr
      have H3 := Lib.hid (bt H2.out hb)
      refine hK.out _ _ (HS.out L3 H3.out) (fun hHeld2 => ?_)
      clear hK K
      try simp only [Act.put, List.getElem_toArray, List.getElem_cons_zero, List.getElem_cons_succ, List.setIfInBounds_toArray, List.set_cons_zero, List.set_cons_succ]
      clear hb
      refine wpAnyH_take (i := 12) (v := ?_) rfl (by kernel_rfl) (by kernel_rfl) (by kernel_rfl) (fun _ _ _ h => h) (Or.inl ⟨by rfl, ?_⟩) (by assumption) ?_
      rotate_left
      ·intro w hSw; (try dsimp only at hSw); go_simp; (try with_reducible rfl)
      try simp only [Act.put, List.getElem_toArray, List.getElem_cons_zero, List.getElem_cons_succ, List.setIfInBounds_toArray, List.set_cons_zero, List.set_cons_succ]
      refine wpAnyH_take (i := 13) (v := ?_) rfl (by kernel_rfl) (by kernel_rfl) (by kernel_rfl) (fun _ _ _ h => h) (Or.inl ⟨by rfl, ?_⟩) (by assumption) ?_
      rotate_left
      ·intro w hSw; (try dsimp only at hSw); go_simp; (try with_reducible rfl)
      try simp only [Act.put, List.getElem_toArray, List.getElem_cons_zero, List.getElem_cons_succ, List.setIfInBounds_toArray, List.set_cons_zero, List.set_cons_succ]
      refine wpAnyH_take (i := 14) (v := ?_) rfl (by kernel_rfl) (by kernel_rfl) (by kernel_rfl) (fun _ _ _ h => h) (Or.inl ⟨by rfl, ?_⟩) (by assumption) ?_
      rotate_left
      ·intro w hSw; (try dsimp only at hSw); go_simp; (try with_reducible rfl)
      try simp only [Act.put, List.getElem_toArray, List.getElem_cons_zero, List.getElem_cons_succ, List.setIfInBounds_toArray, List.set_cons_zero, List.set_cons_succ]
      refine wpAnyH_take (i := 15) (v := ?_) rfl (by kernel_rfl) (by kernel_rfl) (by kernel_rfl) (fun _ _ _ h => h) (Or.inl ⟨by rfl, ?_⟩) (by assumption) ?_
      rotate_left
      ·intro w hSw; (try dsimp only at hSw); go_simp; (try with_reducible rfl)
      try simp only [Act.put, List.getElem_toArray, List.getElem_cons_zero, List.getElem_cons_succ, List.setIfInBounds_toArray, List.set_cons_zero, List.set_cons_succ]
      refine wpAnyH_take (i := 16) (v := ?_) rfl (by kernel_rfl) (by kernel_rfl) (by kernel_rfl) (fun _ _ _ h => h) (Or.inl ⟨by rfl, ?_⟩) (by assumption) ?_
      rotate_left
      ·intro w hSw; (try dsimp only at hSw); go_simp; (try with_reducible rfl)
      try simp only [Act.put, List.getElem_toArray, List.getElem_cons_zero, List.getElem_cons_succ, List.setIfInBounds_toArray, List.set_cons_zero, List.set_cons_succ]
      refine wpAnyH_done (by kernel_rfl) ?_ _
      refine NoPanic.normal ?_
      clear HS H0 H1 H2 Hcv
      have HF := Lib.hid (show covF N xs c rs N ys c2 rs2 = (lb && decide (0 ≤ ln), 0) by
       unfold covF
       rw [if_pos ⟨HP.out.1, HP.out.2, rfl⟩, HI.out]
       simp only [if_true, Int.toNat_natCast]
       refine Prod.ext (covF_dec ?_) rfl
       have q := HLr.out
       rw [HMN.out] at q
       exact q)
      have HE := Lib.hid (show Below w.heap.size w L3 from bt HWn.out H3.out)
      cases lb with
      | false =>
       go_wp2_with fail
       go_ret2
       exact ⟨by rw [HF.out]; rfl, HE.out⟩
      | true =>
       by_cases hge : (0 : Int) ≤ ln
       ·have hgb : decide (ln ≥ 0) = true := by simpa using hge
        go_wp2_with fail
        go_ret2
        exact ⟨by rw [HF.out, decide_eq_true hge]; rfl, HE.out⟩
       ·have hgb : decide (ln ≥ 0) = false := by simpa using hge
        go_wp2_with fail
        go_ret2
        exact ⟨by rw [HF.out, decide_eq_false (show ¬ 0 ≤ ln by omega)]; rfl, HE.out⟩
end Go.Proofs.YtfphlpglgcmljaaGreat
