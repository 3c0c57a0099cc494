/- Part of the proof of priced_covers_proved: Crl. -/
import Derived.Deep.RegionHeld3
import Derived.Test.YtfphlpglgcmljaaGreatXvCco
import Derived.Test.YtfphlpglgcmljaaGreatXvCre
namespace Go.Proofs.YtfphlpglgcmljaaGreat
open Go.RowKit
set_option linter.unusedVariables false
set_option linter.unusedSimpArgs false
set_option linter.unnecessarySimpa false
theorem cst_big {N : Nat} {xs : List Int} {c : Int} {rs : List Int} {q : Nat → Int} (hN : N ≤ 3) (hc : -4611686018427387904 ≤ c ∧ c ≤ 4611686018427387904) (hr : ∀ k, k < N → -33554432 ≤ gi rs k ∧ gi rs k ≤ 33554432)
    (hd : ∀ k, 1 ≤ k → k ≤ N → -2147483648 ≤ q k - lowF N xs k ∧ q k - lowF N xs k ≤ 2147483648) : ∀ k, k ≤ N → cstTo N xs c rs q k = cS N xs c rs q k
  | 0, _ => rfl
  | k + 1, hk => by
    show IntKind.i64.wrap (cstTo N xs c rs q k + IntKind.i64.wrap (gi rs k * IntKind.i64.wrap (q (k + 1) - lowF N xs (k + 1)))) = cS N xs c rs q k + gi rs k * (q (k + 1) - lowF N xs (k + 1))
    rw [cst_big hN hc hr hd k (by omega)]
    have h1 := hr k (by omega)
    have h2 := hd (k + 1) (by omega) hk
    have h3 := mul_rng h1.1 h1.2 h2.1 h2.2
    have h4 := cS_bd (c := c) hr hd k (by omega)
    rw [wr_id (x := q (k + 1) - lowF N xs (k + 1)) (by omega) (by omega)]
    generalize gi rs k * (q (k + 1) - lowF N xs (k + 1)) = Y at *
    rw [wr_id (x := Y) (by omega) (by omega), wr_id (by omega) (by omega)]
theorem rep_next {l : List Int} {i : Nat} {x : Int} (h : l.take i = List.replicate i x) (hi : i < l.length) (hx : gi l i = x) : l.take (i + 1) = List.replicate (i + 1) x := by
 rw [List.take_succ_eq_append_getElem hi, h, List.replicate_succ', ← gi_of hi, hx]
theorem zero_next {l : List Int} {i : Nat} (hi : i < l.length) : (List.replicate i (0 : Int) ++ l.drop i).set i 0 = List.replicate (i + 1) 0 ++ l.drop (i + 1) := by
 rw [List.set_append_right _ _ (by simp)]
 simp only [List.length_replicate, Nat.sub_self]
 rw [List.drop_eq_getElem_cons hi, List.set_cons_zero, List.replicate_succ', List.append_assoc]
 rfl
theorem gi_app {l : List Int} {i k : Nat} (hk : i ≤ k) : gi (List.replicate i (0 : Int) ++ l.drop i) k = gi l k := by
 unfold gi
 rw [List.getD_eq_getElem?_getD, List.getD_eq_getElem?_getD, List.getElem?_append_right (by simp; exact hk), List.getElem?_drop]
 simp only [List.length_replicate]
 rw [show i + (k - i) = k by omega]
theorem cho_inc {N : Nat} {ch : List Int} {i : Nat} (hc : Cho N ch) (hi : i < N) (ht : ch.take i = List.replicate i (2 * (N : Int) + 1)) (hx : gi ch i ≠ 2 * (N : Int) + 1) :
  Cho N ((List.replicate i (0 : Int) ++ ch.drop i).set i (gi ch i + 1)) ∧ vl (2 * N + 2) ((List.replicate i (0 : Int) ++ ch.drop i).set i (gi ch i + 1)) = vl (2 * N + 2) ch + 1 := by
 have hl : i < ch.length := by rw [hc.1]; exact hi
 have hd := hc.2 (gi ch i) (by rw [gi_of hl]; exact List.getElem_mem _)
 have e : (List.replicate i (0 : Int) ++ ch.drop i).set i (gi ch i + 1) = List.replicate i 0 ++ (gi ch i + 1) :: ch.drop (i + 1) := by
  rw [List.set_append_right _ _ (by simp)]
  simp only [List.length_replicate, Nat.sub_self]
  rw [List.drop_eq_getElem_cons hl, List.set_cons_zero]
 have e2 : ch = List.replicate i (2 * (N : Int) + 2 - 1) ++ gi ch i :: ch.drop (i + 1) := by
  rw [show 2 * (N : Int) + 2 - 1 = 2 * N + 1 by omega, ← ht, gi_of hl, ← List.drop_eq_getElem_cons hl, List.take_append_drop]
 rw [e]
 refine ⟨⟨by have := hc.1; simp; omega, fun x hx => ?_⟩, ?_⟩
 ·rw [List.mem_append] at hx
  rcases hx with hx | hx
  ·rw [List.mem_replicate] at hx; omega
  ·cases hx with
   | head => omega
   | tail _ hx => exact hc.2 x (List.mem_of_mem_drop hx)
 ·rw [vl_inc]
  have c := vl_carry (M := 2 * N + 2) i (gi ch i :: ch.drop (i + 1))
  rw [← e2] at c
  omega
theorem cho_last {N : Nat} {ch : List Int} (hc : Cho N ch) (ht : ch.take N = List.replicate N (2 * (N : Int) + 1)) : ∀ ch', Cho N ch' → vl (2 * N + 2) ch' < vl (2 * N + 2) ch + 1 := fun ch' h => by
 have e : ch = List.replicate N (2 * (N : Int) + 2 - 1) ++ [] := by
  rw [List.append_nil, show 2 * (N : Int) + 2 - 1 = 2 * N + 1 by omega, ← ht, List.take_of_length_le (by rw [hc.1]; exact Nat.le_refl _)]
 have c := vl_carry (M := 2 * N + 2) N []
 rw [← e] at c
 have z : ∀ k, vl (2 * (N : Int) + 2) (List.replicate k 0 ++ []) = 0 := by
  intro k
  induction k with
  | zero => rfl
  | succ k ih => show 0 + (2 * (N : Int) + 2) * vl (2 * (N : Int) + 2) (List.replicate k 0 ++ []) = 0; rw [ih]; omega
 rw [z] at c
 have l := vl_lt (M := 2 * N + 2) (by omega) ch' h.2
 rw [h.1] at l
 omega
def rdI (X : World) (g n : Nat) : List Int := (List.range n).map fun k => match X.cell? ⟨g, k, none⟩ with
 | some (.int _ x) => x
 | _ => 0
theorem rd_own {e base g n cap : Nat} {X : World} {l : List Int} (h : OL e base X (.slice (some ⟨g, 0, none⟩) n cap) l) (hn : l.length = n) : rdI X g n = l := by
 apply List.ext_getElem
 ·simp [rdI, hn]
 ·intro k h1 h2
  have hc := own_cell h h2
  simp only [rdI, List.getElem_map, List.getElem_range]
  rw [hc]
  exact gi_of h2
def LeR (P : Prop) (e : Ending) : Prop := ∃ (n : Int) (b : Bool), e = .returned (.tuple #[.int .i64 n, .bool b]) ∧ ((b = true ∧ 0 ≤ n) ↔ P)
theorem LeR.mk {P : Prop} {n : Int} {b : Bool} (h : (b = true ∧ 0 ≤ n) ↔ P) : LeR P (.returned (.tuple #[.int .i64 n, .bool b])) := ⟨n, b, rfl, h⟩
theorem Tryz.undInt : Tryz.prog.underlying 160 = some (.slice 3) := by kernel_rfl
theorem Tryz.infInt : (Tryz.prog.info? 3).map (fun i => (i.zero, i.size, i.bytes)) = some (some (.int .i64 0), 1, 8) := by kernel_rfl
theorem cho_zero (N : Nat) : Cho N (List.replicate N 0) := ⟨by simp, fun x hx => by rw [List.mem_replicate] at hx; omega⟩
set_option maxRecDepth 100000 in
set_option maxHeartbeats 16000000 in
theorem ref_least23 (N : Nat) (c : Int) (v rv : Value) (xs rs : List Int) (w : World) (hv : RL w.heap.size w v xs) (hr : RL w.heap.size w rv rs) (hok : OkZ N xs) (hN : N ≤ 3) (hnear : Near N xs) (hlr : rs.length = N) (hrb : ∀ k, k < N → -33554432 ≤ gi rs k ∧ gi rs k ≤ 33554432) (hcb : -4611686018427387904 ≤ c ∧ c ≤ 4611686018427387904) :
  Calls Tryz.prog 97 #[.agg #[.int .i64 N, v], .int .i64 c, rv] w fun e w' => LeR (∀ u, PI N xs u → 0 ≤ cS N xs c rs u N) e ∧ Below w.heap.size w w' := by
 obtain ⟨ao, cap, rfl, hle, _⟩ := hv.open
 obtain ⟨aor, capr, rfl, hler, _⟩ := hr.open
 have Hv := Lib.hid hv
 have Hr := Lib.hid hr
 have Hlr := Lib.hid hlr
 have Hnear := Lib.hid hnear
 have hloc := Loc.one w (.cells #[.int .i64 N, .slice ao xs.length cap] 32) none
 have HBz := Lib.hid (show (w.alloc (.cells #[.int .i64 N, .slice ao xs.length cap] 32)).heap[w.heap.size]? = some (.cells #[.int .i64 N, .slice ao xs.length cap] 32 (0, 0)) from hloc.objs 0 (by simp))
 have HW := Lib.hid (below_grownBy hloc.grown)
 clear hv hr hlr hnear hloc
 go_enter Tryz.func97, Tryz.ntmps97
 go_upto_region 1 with fail
 generalize w.alloc (.cells #[.int .i64 N, .slice ao xs.length cap] 32) = X1 at *
 have z0 : X1.cell? ⟨w.heap.size, 0, none⟩ = some (.int .i64 N) := cell_of_row _ (w.heap.size) 0 _ _ _ HBz.out
 have z1 : X1.cell? ⟨w.heap.size, 1, none⟩ = some (.slice ao xs.length cap) := cell_of_row _ (w.heap.size) 1 _ _ _ HBz.out
 go_wp2_with fail
 refine (ref_endless N _ _ xs rs _ (Hv.out.keepb HW.out) (Hr.out.keepb HW.out) hok hN Hlr.out hrb).mono ?_
 rintro e w1 ⟨he, hb⟩
 clear z0 z1
 replace HBz := Lib.hid (hp_keep4 HBz.out hb)
 replace HW := Lib.hid (bt HW.out hb)
 clear hb
 rcases he with ⟨rfl, hf⟩ | ⟨rfl, hf⟩
 ·have HF := Lib.hid (fall_no (c := c) hok hf)
  clear hf
  go_wp2_with fail
  go_ret2
  exact ⟨LeR.mk ⟨(fun h => by cases h.1), fun h => absurd h HF.out⟩, HW.out⟩
 have Hnf := Lib.hid hf
 clear hf
 obtain ⟨i0, hi, hz0, hz1, hz2⟩ := info_parts Tryz.infInt
 have Hi := Lib.hid hi
 have Hz0 := Lib.hid hz0
 have Hz1 := Lib.hid hz1
 have Hz2 := Lib.hid hz2
 have hwz := HW.out.size
 have hzl := hp_lt3 HBz.out
 clear hi hz0 hz1 hz2
 have z0 : w1.cell? ⟨w.heap.size, 0, none⟩ = some (.int .i64 N) := cell_of_row _ (w.heap.size) 0 _ _ _ HBz.out
 go_upto_region 5 with fail
 go_wp2_with (refine wpList_make_full _ rfl (.tmp 19) (.tmp 19) 160 rfl (w.heap.size + 1) 3 i0 (.int .i64 0) 1 Tryz.undInt Hi.out Hz0.out Hz1.out .i64 .i64 N N N rfl rfl rfl rfl ?_ ?_ ?_ ?_; (rw [Hz2.out]; omega); (unfold maxLen; omega); omega; (intro w2 hown hg))
 have hown2 : OL 3 (w.heap.size + 1) w2 (.slice (some ⟨w1.heap.size, 0, none⟩) N N) (List.replicate N 0) := by
  have e : (madeCells (Value.int .i64 0).cells (N * 1)).toList = (List.replicate N (0 : Int)).map (Value.int .i64) := by
   rw [Nat.mul_one]; show (madeCells #[Value.int .i64 0] N).toList = _
   rw [toList_madeCells_one, List.map_replicate]
  rw [e] at hown
  unfold OL
  simpa using hown
 have hb := below_grownBy hg
 have hgw : w.heap.size < w1.heap.size := by omega
 have hzz := hp_keep4 HBz.out hb
 have hww := bt HW.out hb
 clear hown hg z0 hwz hzl hb HBz HW
 generalize hG : w1.heap.size = g at *
 clear hG
 have HBz := Lib.hid hzz
 have HW := Lib.hid hww
 have HOw := Lib.hid hown2
 clear hown2 hzz hww
 have HM0 := Lib.hid (show Mn (fun y => ∃ ch', Cho N ch' ∧ vl (2 * N + 2) ch' < vl (2 * N + 2) (List.replicate N 0) ∧ CorOk N xs ch' ∧ y = cS N xs c rs (cornV N xs ch') N) (0, false) from Mn.none.congr (fun y => ⟨fun h => h.elim, fun ⟨ch', a, b, _⟩ => by
  have z : ∀ k, vl (2 * (N : Int) + 2) (List.replicate k 0) = 0 := by
   intro k
   induction k with
   | zero => rfl
   | succ k ih => show 0 + (2 * (N : Int) + 2) * vl (2 * (N : Int) + 2) (List.replicate k 0) = 0; rw [ih]; omega
  have := vl_nonneg (M := 2 * N + 2) (by omega) ch' a.2
  rw [z] at b
  omega⟩))
 go_loopw [8, 9] (fun s8 s9 wr => ∃ (chl : List Int) (a : Int) (f : Bool), Cho N chl ∧ s8 = .int .i64 a ∧ s9 = .bool f ∧ OL 3 (w.heap.size + 1) wr (.slice (some ⟨g, 0, none⟩) N N) chl ∧ Mn (fun y => ∃ ch', Cho N ch' ∧ vl (2 * N + 2) ch' < vl (2 * N + 2) chl ∧ CorOk N xs ch' ∧ y = cS N xs c rs (cornV N xs ch') N) (a, f) ∧ wr.heap[w.heap.size]? = some (.cells #[.int .i64 N, .slice ao xs.length cap] 32 (0, 0)) ∧ Below w.heap.size w wr) (fun _ _ wr => ((2 * (N : Int) + 2) ^ N - vl (2 * N + 2) (rdI wr g N)).toNat)
 case atStart => exact ⟨_, 0, false, cho_zero N, rfl, rfl, HOw.out, HM0.out, HBz.out, HW.out⟩
 case round =>
  clear HBz HW HOw HM0
  obtain ⟨chl, a, f, hcho, rfl, rfl, hown, hmn, h1, h2⟩ := hrel
  have Hcho := Lib.hid hcho
  have HOw := Lib.hid hown
  have HMn := Lib.hid hmn
  have HBz := Lib.hid h1
  have HW := Lib.hid h2
  have HRd := Lib.hid (rd_own hown hcho.1)
  clear hcho hown hmn h1 h2
  obtain ⟨wa, hwa⟩ : ∃ V, V = wr := ⟨_, rfl⟩
  subst hwa
  have HCr := Lib.hid (show RL wa.heap.size wa (.slice (some ⟨g, 0, none⟩) N N) chl from OL.rl HOw.out)
  have z0 : wa.cell? ⟨w.heap.size, 0, none⟩ = some (.int .i64 N) := cell_of_row _ (w.heap.size) 0 _ _ _ HBz.out
  have z1 : wa.cell? ⟨w.heap.size, 1, none⟩ = some (.slice ao xs.length cap) := cell_of_row _ (w.heap.size) 1 _ _ _ HBz.out
  go_wp2_with fail
  refine (ref_corner23 N _ (.slice (some ⟨g, 0, none⟩) N N) xs chl _ (Hv.out.keepb HW.out) HCr.out hok hN Hnear.out Hcho.out).mono ?_
  rintro e w3 ⟨⟨vv, he⟩, hb⟩
  clear HCr
  have HOw3 := Lib.hid (OL.keepb HOw.out hb)
  have HW3 := Lib.hid (bt HW.out hb)
  have HBz3 := Lib.hid (hp_keep4 HBz.out hb)
  clear z0 z1 hb HOw HW HBz
  obtain ⟨wb, hwb⟩ : ∃ V, V = w3 := ⟨_, rfl⟩
  subst hwb
  rcases he with ⟨rfl, hok2, hvv⟩ | ⟨rfl, hno⟩
  ·skip
   have HVV := Lib.hid hvv
   obtain ⟨V, hV⟩ : ∃ V, (cnR N xs (dgL chl) N).1 = V := ⟨_, rfl⟩
   have HVb := Lib.hid (show ∀ k, 1 ≤ k → k ≤ N → -1073741824 ≤ V k ∧ V k ≤ 1073741824 from fun k k1 k2 => by
    have q := Kb.all (dg := dgL chl) hN Hnear.out N (Nat.le_refl _) k k1 k2 (hok2.1 k k1 k2)
    rw [hV] at q
    have q2 : -((N : Int) * 201326592) ≤ V k ∧ V k ≤ (N : Int) * 201326592 := q
    omega)
   have HCo := Lib.hid (show cstTo N xs c rs (fun j => gi (lZ (cnR N xs (dgL chl) N).1 N) (j - 1)) N = cS N xs c rs (cornV N xs chl) N by
    have e : ∀ j, 1 ≤ j → j ≤ N → gi (lZ (cnR N xs (dgL chl) N).1 N) (j - 1) = cornV N xs chl j := fun j j1 j2 => by
     rw [lZ_at _ (by omega), show j - 1 + 1 = j by omega]; unfold cornV; rw [if_neg (by omega)]
    rw [cst_big hN hcb hrb (fun k k1 k2 => by
     have q := HVb.out k k1 k2
     rw [show gi (lZ (cnR N xs (dgL chl) N).1 N) (k - 1) = V k by rw [lZ_at _ (by omega), show k - 1 + 1 = k by omega, hV]]
     have l : -67108864 ≤ lowF N xs k ∧ lowF N xs k ≤ 67108864 := by
      have n := Hnear.out 0 k (Nat.zero_le _) k2 (b_low hok k2).1
      unfold bF at n; unfold lowF; omega
     omega) N (Nat.le_refl _)]
    exact cS_congr N (fun j j1 j2 => e j j1 j2))
   have HOk2 := Lib.hid hok2
   have HLn := Lib.hid (lZ_len (cnR N xs (dgL chl) N).1 N)
   clear hvv hok2 HVb hV
   have HBz := Lib.hid HBz3.out
   have z0 : wb.cell? ⟨w.heap.size, 0, none⟩ = some (.int .i64 N) := cell_of_row _ (w.heap.size) 0 _ _ _ HBz.out
   have z1 : wb.cell? ⟨w.heap.size, 1, none⟩ = some (.slice ao xs.length cap) := cell_of_row _ (w.heap.size) 1 _ _ _ HBz.out
   clear HBz
   go_wp2_with fail
   refine (ref_cost N c _ _ vv xs rs (lZ (cnR N xs (dgL chl) N).1 N) _ (Hv.out.keepb HW3.out) (Hr.out.keepb HW3.out) HVV.out hok Hlr.out HLn.out).mono ?_
   rintro e w4 ⟨he, hb⟩
   rw [HCo.out] at he
   obtain rfl := he
   obtain ⟨n, hn⟩ : ∃ n, cS N xs c rs (cornV N xs chl) N = n := ⟨_, rfl⟩
   rw [hn]
   have Hn := Lib.hid hn
   clear hn HVV HCo z0 z1
   replace HOw3 := Lib.hid (OL.keepb HOw3.out hb)
   replace HBz3 := Lib.hid (hp_keep4 HBz3.out hb)
   replace HW3 := Lib.hid (bt HW3.out hb)
   clear hb
   obtain ⟨wb, hwb⟩ : ∃ V, V = w4 := ⟨_, rfl⟩
   subst hwb
   cases f with
   | false =>
    have HMn2 := Lib.hid (show Mn (fun y => ∃ ch', Cho N ch' ∧ vl (2 * N + 2) ch' < vl (2 * N + 2) chl + 1 ∧ CorOk N xs ch' ∧ y = cS N xs c rs (cornV N xs ch') N) (n, true) by
     have q := cho_next Hcho.out HMn.out
     rw [if_pos HOk2.out, Hn.out, if_pos (.inl rfl)] at q
     exact q)
    clear HMn HOk2
    go_upto_region 11 with fail
    have hN10 : N ≤ 10 := by omega
    go_wp2_with fail
    go_loopw [14] (fun s wr2 => ∃ i : Nat, i ≤ N ∧ s = .int .i64 i ∧ chl.take i = List.replicate i (2 * (N : Int) + 1) ∧ OL 3 (w.heap.size + 1) wr2 (.slice (some ⟨g, 0, none⟩) N N) (List.replicate i 0 ++ chl.drop i) ∧ wr2.heap[w.heap.size]? = some (.cells #[.int .i64 N, .slice ao xs.length cap] 32 (0, 0)) ∧ Below w.heap.size w wr2) (fun s _ => N - (intOf s).toNat)
    case atStart => exact ⟨0, Nat.zero_le _, rfl, by rw [List.take_zero]; rfl, by rw [List.drop_zero]; exact HOw3.out, HBz3.out, HW3.out⟩
    case round =>
     clear HOw3 HBz3 HW3
     obtain ⟨i, hi, rfl, htake, hown, h1, h2⟩ := hrel
     have HTk := Lib.hid htake
     have HOw := Lib.hid hown
     have HBz := Lib.hid h1
     have HW := Lib.hid h2
     clear htake hown h1 h2
     obtain ⟨wd, hwd⟩ : ∃ V, V = wr := ⟨_, rfl⟩
     subst hwd
     have hll := Hcho.out.1
     have z0 : wd.cell? ⟨w.heap.size, 0, none⟩ = some (.int .i64 N) := cell_of_row _ (w.heap.size) 0 _ _ _ HBz.out
     by_cases hlt : i < N
     ·skip
      have hti : decide ((i : Int) < (N : Int)) = true := by simp; omega
      obtain ⟨x, hx⟩ : ∃ x, gi chl i = x := ⟨_, rfl⟩
      have hlen : (List.replicate i (0 : Int) ++ chl.drop i).length = N := by simp; omega
      have Hlen := Lib.hid hlen
      have Hll := Lib.hid hll
      clear hll
      have c0 : wd.cell? ⟨g, i, none⟩ = some (.int .i64 x) := by
       rw [← hx, ← gi_app (l := chl) (Nat.le_refl i)]
       exact own_cell HOw.out (by rw [hlen]; exact hlt)
      have f0 : wd.frozen? ⟨g, i, none⟩ = false := own_fro HOw.out (by rw [hlen]; exact hlt)
      have hxb := Hcho.out.2 (gi chl i) (by rw [gi_of (by have := Hll.out; omega)]; exact List.getElem_mem _)
      rw [hx] at hxb
      have Hx := Lib.hid hx
      have k0 : (i : Int) < N := by omega
      have k1 : (0 : Int) ≤ (i : Int) := by omega
      have Hw2 := Lib.hid (show IntKind.i64.wrap (2 * (N : Int)) = 2 * (N : Int) from wr_id (by omega) (by omega))
      have Hw3 := Lib.hid (show IntKind.i64.wrap (2 * (N : Int) + 1) = 2 * (N : Int) + 1 from wr_id (by omega) (by omega))
      clear hx hlen f0
      go_upto_region 12 with fail
      go_cut [56] (fun s wx => s = .bool (x == 2 * (N : Int) + 1) ∧ wx = wd.drew)
      case first =>
       refine wp_region_noPanic ?_
       refine wp_region_held_drew (S := (fun w' => w'.cell? ⟨w.heap.size, 0, none⟩ = some (.int .i64 N) ∧ w'.cell? ⟨g, i, none⟩ = some (.int .i64 x))) (by kernel_rfl) ⟨z0, c0⟩ (fun hHeld => ?_)
       refine wpAnyH_take (i := 0) (v := ?_) rfl (by kernel_rfl) (by kernel_rfl) (by kernel_rfl) (fun _ _ _ h => h) (Or.inl ⟨by rfl, ?_⟩) (by assumption) ?_
       rotate_left
       ·intro w hSw; (try dsimp only at hSw); go_simp; (try with_reducible rfl)
       try simp only [Act.put, List.getElem_toArray, List.getElem_cons_zero, List.setIfInBounds_toArray, List.set_cons_zero, List.set_cons_succ]
       refine wpAnyH_take (i := 1) (v := ?_) rfl (by kernel_rfl) (by kernel_rfl) (by kernel_rfl) (fun _ _ _ h => h) (Or.inl ⟨by rfl, ?_⟩) (by assumption) ?_
       rotate_left
       ·intro w hSw; (try dsimp only at hSw); go_simp; (try with_reducible rfl)
       try simp only [Act.put, List.getElem_toArray, List.getElem_cons_zero, List.getElem_cons_succ, List.setIfInBounds_toArray, List.set_cons_zero, List.set_cons_succ]
       refine wpAnyH_take (i := 2) (v := ?_) rfl (by kernel_rfl) (by kernel_rfl) (by kernel_rfl) (fun _ _ _ h => h) (Or.inl ⟨by rfl, ?_⟩) (by assumption) ?_
       rotate_left
       ·intro w hSw; (try dsimp only at hSw); go_simp; (try with_reducible rfl)
       try simp only [Act.put, List.getElem_toArray, List.getElem_cons_zero, List.getElem_cons_succ, List.setIfInBounds_toArray, List.set_cons_zero, List.set_cons_succ]
       refine wpAnyH_take (i := 3) (v := ?_) rfl (by kernel_rfl) (by kernel_rfl) (by kernel_rfl) (fun _ _ _ h => h) (Or.inl ⟨by rfl, ?_⟩) (by assumption) ?_
       rotate_left
       ·intro w hSw; (try dsimp only at hSw); go_simp; (try with_reducible rfl)
       try simp only [Act.put, List.getElem_toArray, List.getElem_cons_zero, List.getElem_cons_succ, List.setIfInBounds_toArray, List.set_cons_zero, List.set_cons_succ]
       try simp only [hti]
       refine wpAnyH_take (i := 4) (v := ?_) rfl (by kernel_rfl) (by kernel_rfl) (by kernel_rfl) (fun _ _ _ h => h) (Or.inl ⟨by rfl, ?_⟩) (by assumption) ?_
       rotate_left
       ·intro w hSw; (try dsimp only at hSw); go_simp; (try with_reducible rfl)
       try simp only [Act.put, List.getElem_toArray, List.getElem_cons_zero, List.getElem_cons_succ, List.setIfInBounds_toArray, List.set_cons_zero, List.set_cons_succ]
       refine wpAnyH_take (i := 5) (v := ?_) rfl (by kernel_rfl) (by kernel_rfl) (by kernel_rfl) (fun _ _ _ h => h) (Or.inl ⟨by rfl, ?_⟩) (by assumption) ?_
       rotate_left
       ·intro w hSw; (try dsimp only at hSw); go_simp; (try with_reducible rfl)
       try simp only [Act.put, List.getElem_toArray, List.getElem_cons_zero, List.getElem_cons_succ, List.setIfInBounds_toArray, List.set_cons_zero, List.set_cons_succ]
       refine wpAnyH_take (i := 6) (v := ?_) rfl (by kernel_rfl) (by kernel_rfl) (by kernel_rfl) (fun _ _ _ h => h) (Or.inl ⟨by rfl, ?_⟩) (by assumption) ?_
       rotate_left
       ·intro w hSw; (try dsimp only at hSw); go_simp; (try with_reducible rfl)
       try simp only [Act.put, List.getElem_toArray, List.getElem_cons_zero, List.getElem_cons_succ, List.setIfInBounds_toArray, List.set_cons_zero, List.set_cons_succ]
       refine wpAnyH_take (i := 7) (v := ?_) rfl (by kernel_rfl) (by kernel_rfl) (by kernel_rfl) (fun _ _ _ h => h) (Or.inl ⟨by rfl, ?_⟩) (by assumption) ?_
       rotate_left
       ·intro w hSw; (try dsimp only at hSw); go_simp; (try with_reducible rfl)
       try simp only [Act.put, List.getElem_toArray, List.getElem_cons_zero, List.getElem_cons_succ, List.setIfInBounds_toArray, List.set_cons_zero, List.set_cons_succ]
       refine wpAnyH_take (i := 8) (v := ?_) rfl (by kernel_rfl) (by kernel_rfl) (by kernel_rfl) (fun _ _ _ h => h) (Or.inl ⟨by rfl, ?_⟩) (by assumption) ?_
       rotate_left
       ·intro w hSw; (try dsimp only at hSw); go_simp; (try with_reducible rfl)
       try simp only [Act.put, List.getElem_toArray, List.getElem_cons_zero, List.getElem_cons_succ, List.setIfInBounds_toArray, List.set_cons_zero, List.set_cons_succ]
       refine wpAnyH_take (i := 9) (v := ?_) rfl (by kernel_rfl) (by kernel_rfl) (by kernel_rfl) (fun _ _ _ h => h) (Or.inl ⟨by rfl, ?_⟩) (by assumption) ?_
       rotate_left
       ·intro w hSw; (try dsimp only at hSw); go_simp; (try with_reducible rfl)
       try simp only [Act.put, List.getElem_toArray, List.getElem_cons_zero, List.getElem_cons_succ, List.setIfInBounds_toArray, List.set_cons_zero, List.set_cons_succ]
       refine wpAnyH_take (i := 10) (v := ?_) rfl (by kernel_rfl) (by kernel_rfl) (by kernel_rfl) (fun _ _ _ h => h) (Or.inl ⟨by rfl, ?_⟩) (by assumption) ?_
       rotate_left
       ·intro w hSw; (try dsimp only at hSw); go_simp; (try with_reducible rfl)
       try simp only [Act.put, List.getElem_toArray, List.getElem_cons_zero, List.getElem_cons_succ, List.setIfInBounds_toArray, List.set_cons_zero, List.set_cons_succ]
       refine wpAnyH_take (i := 11) (v := ?_) rfl (by kernel_rfl) (by kernel_rfl) (by kernel_rfl) (fun _ _ _ h => h) (Or.inl ⟨by rfl, ?_⟩) (by assumption) ?_
       rotate_left
       ·intro w hSw; (try dsimp only at hSw); go_simp; (try with_reducible rfl)
       try simp only [Act.put, List.getElem_toArray, List.getElem_cons_zero, List.getElem_cons_succ, List.setIfInBounds_toArray, List.set_cons_zero, List.set_cons_succ]
       try simp only [Hw2.out, Hw3.out]
       refine wpAnyH_take (i := 12) (v := ?_) rfl (by kernel_rfl) (by kernel_rfl) (by kernel_rfl) (fun _ _ _ h => h) (Or.inl ⟨by rfl, ?_⟩) (by assumption) ?_
       rotate_left
       ·intro w hSw; (try dsimp only at hSw); go_simp; (try with_reducible rfl)
       try simp only [Act.put, List.getElem_toArray, List.getElem_cons_zero, List.getElem_cons_succ, List.setIfInBounds_toArray, List.set_cons_zero, List.set_cons_succ]
       try simp only [Hw2.out, Hw3.out]
       refine wpAnyH_take (i := 13) (v := ?_) rfl (by kernel_rfl) (by kernel_rfl) (by kernel_rfl) (fun _ _ _ h => h) (Or.inl ⟨by rfl, ?_⟩) (by assumption) ?_
       rotate_left
       ·intro w hSw; (try dsimp only at hSw); go_simp; (try with_reducible rfl)
       try simp only [Act.put, List.getElem_toArray, List.getElem_cons_zero, List.getElem_cons_succ, List.setIfInBounds_toArray, List.set_cons_zero, List.set_cons_succ]
       refine wpAnyH_take (i := 14) (v := ?_) rfl (by kernel_rfl) (by kernel_rfl) (by kernel_rfl) (fun _ _ _ h => h) (Or.inl ⟨by rfl, ?_⟩) (by assumption) ?_
       rotate_left
       ·intro w hSw; (try dsimp only at hSw); go_simp; (try with_reducible rfl)
       try simp only [Act.put, List.getElem_toArray, List.getElem_cons_zero, List.getElem_cons_succ, List.setIfInBounds_toArray, List.set_cons_zero, List.set_cons_succ]
       refine wpAnyH_done (by kernel_rfl) ?_ _
       refine NoPanic.normal ?_
       go_wp2_with fail
       go_meet
       exact ⟨by first | rfl | simp, rfl⟩
      case rest =>
       obtain ⟨rfl, hwc⟩ := hcut
       subst hwc
       have h1 : wd.drew.heap[w.heap.size]? = some (.cells #[.int .i64 N, .slice ao xs.length cap] 32 (0, 0)) := HBz.out
       have h2 : OL 3 (w.heap.size + 1) wd.drew (.slice (some ⟨g, 0, none⟩) N N) (List.replicate i 0 ++ chl.drop i) := OL.drew HOw.out
       have h3 : Below w.heap.size w wd.drew := HW.out.drew
       clear z0 HBz HOw HW
       try clear c0
       generalize wd.drew = wd at *
       have HBz := Lib.hid h1
       have HOw := Lib.hid h2
       have HW := Lib.hid h3
       clear h1 h2 h3
       have z0 : wd.cell? ⟨w.heap.size, 0, none⟩ = some (.int .i64 N) := cell_of_row _ (w.heap.size) 0 _ _ _ HBz.out
       have c0 : wd.cell? ⟨g, i, none⟩ = some (.int .i64 x) := by
        rw [← Hx.out, ← gi_app (l := chl) (Nat.le_refl i)]
        exact own_cell HOw.out (by rw [Hlen.out]; exact hlt)
       have f0 : wd.frozen? ⟨g, i, none⟩ = false := own_fro HOw.out (by rw [Hlen.out]; exact hlt)
       by_cases hxe : x = 2 * (N : Int) + 1
       ·skip
        have hxb2 : (x == 2 * (N : Int) + 1) = true := by simpa using hxe
        have HT2 := Lib.hid (rep_next HTk.out (by have := Hll.out; omega) (Hx.out.trans hxe))
        have hsd := OL.stored HOw.out Hlen.out.symm i 0
        have HS1 := Lib.hid (show OL 3 (w.heap.size + 1) _ (.slice (some ⟨g, 0, none⟩) N N) (List.replicate (i + 1) 0 ++ chl.drop (i + 1)) by
         have q := hsd.1
         rw [zero_next (by have := Hll.out; omega)] at q
         exact q)
        have HS2 := Lib.hid ((st1k_ne (w := wd) (b := g) (i := i) (c := w.heap.size) (.int .i64 0) (by omega)).trans HBz.out)
        have HS3 := Lib.hid (HW.out.setCell (p := ⟨g, i, none⟩) (by show w.heap.size ≤ g; omega) (.int .i64 0))
        clear hsd HOw HBz HW hxe hxb
        go_wp2_with fail
        go_roundw
        case rel => exact ⟨i + 1, by omega, by go_num, HT2.out, HS1.out, HS2.out, HS3.out⟩
        case measure => simp [intOf]; omega
       ·skip
        have hxb2 : (x == 2 * (N : Int) + 1) = false := by simpa using hxe
        have hiN : ((i : Int) == (N : Int)) = false := by simp; omega
        have HCi := Lib.hid (cho_inc Hcho.out hlt HTk.out (by rw [Hx.out]; exact hxe))
        have hsd := OL.stored HOw.out Hlen.out.symm i (x + 1)
        rw [Hx.out] at HCi
        have HS1 := Lib.hid hsd.1
        have HS2 := Lib.hid ((st1k_ne (w := wd) (b := g) (i := i) (c := w.heap.size) (.int .i64 (x + 1)) (by omega)).trans HBz.out)
        have HS3 := Lib.hid (HW.out.setCell (p := ⟨g, i, none⟩) (by show w.heap.size ≤ g; omega) (.int .i64 (x + 1)))
        have HM3 := Lib.hid (show Mn (fun y => ∃ ch', Cho N ch' ∧ vl (2 * N + 2) ch' < vl (2 * N + 2) ((List.replicate i (0 : Int) ++ chl.drop i).set i (x + 1)) ∧ CorOk N xs ch' ∧ y = cS N xs c rs (cornV N xs ch') N) (n, true) by rw [HCi.out.2]; exact HMn2.out)
        have HMe := Lib.hid (show ((2 * (N : Int) + 2) ^ N - vl (2 * N + 2) (rdI (wd.setCell ⟨g, i, none⟩ (.int .i64 (x + 1))) g N)).toNat < ((2 * (N : Int) + 2) ^ N - vl (2 * N + 2) (rdI wa g N)).toNat by
         rw [HRd.out, rd_own HS1.out (by rw [List.length_set]; exact Hlen.out), HCi.out.2]
         have q := vl_lt (M := 2 * N + 2) (by omega) chl Hcho.out.2
         rw [Hcho.out.1] at q
         omega)
        clear hsd HOw HBz HW hxe
        go_wp2_with fail
        go_roundw
        case rel => exact ⟨_, n, true, HCi.out.1, rfl, rfl, HS1.out, HM3.out, HS2.out, HS3.out⟩
        case measure => exact HMe.out
     ·skip
      have hti : decide ((i : Int) < (N : Int)) = false := by simp; omega
      obtain rfl : N = i := by omega
      go_upto_region 12 with fail
      go_cut [56] (fun s wx => s = .bool false ∧ wx = wd.drew)
      case first =>
       refine wp_region_noPanic ?_
       refine wp_region_held_drew (S := (fun w' => w'.cell? ⟨w.heap.size, 0, none⟩ = some (.int .i64 N))) (by kernel_rfl) z0 (fun hHeld => ?_)
       refine wpAnyH_take (i := 0) (v := ?_) rfl (by kernel_rfl) (by kernel_rfl) (by kernel_rfl) (fun _ _ _ h => h) (Or.inl ⟨by rfl, ?_⟩) (by assumption) ?_
       rotate_left
       ·intro w hSw; (try dsimp only at hSw); go_simp; (try with_reducible rfl)
       try simp only [Act.put, List.getElem_toArray, List.getElem_cons_zero, List.setIfInBounds_toArray, List.set_cons_zero, List.set_cons_succ]
       refine wpAnyH_take (i := 1) (v := ?_) rfl (by kernel_rfl) (by kernel_rfl) (by kernel_rfl) (fun _ _ _ h => h) (Or.inl ⟨by rfl, ?_⟩) (by assumption) ?_
       rotate_left
       ·intro w hSw; (try dsimp only at hSw); go_simp; (try with_reducible rfl)
       try simp only [Act.put, List.getElem_toArray, List.getElem_cons_zero, List.getElem_cons_succ, List.setIfInBounds_toArray, List.set_cons_zero, List.set_cons_succ]
       refine wpAnyH_take (i := 2) (v := ?_) rfl (by kernel_rfl) (by kernel_rfl) (by kernel_rfl) (fun _ _ _ h => h) (Or.inl ⟨by rfl, ?_⟩) (by assumption) ?_
       rotate_left
       ·intro w hSw; (try dsimp only at hSw); go_simp; (try with_reducible rfl)
       try simp only [Act.put, List.getElem_toArray, List.getElem_cons_zero, List.getElem_cons_succ, List.setIfInBounds_toArray, List.set_cons_zero, List.set_cons_succ]
       refine wpAnyH_take (i := 3) (v := ?_) rfl (by kernel_rfl) (by kernel_rfl) (by kernel_rfl) (fun _ _ _ h => h) (Or.inl ⟨by rfl, ?_⟩) (by assumption) ?_
       rotate_left
       ·intro w hSw; (try dsimp only at hSw); go_simp; (try with_reducible rfl)
       try simp only [Act.put, List.getElem_toArray, List.getElem_cons_zero, List.getElem_cons_succ, List.setIfInBounds_toArray, List.set_cons_zero, List.set_cons_succ]
       try simp only [hti]
       refine wpAnyH_take (i := 4) (v := ?_) rfl (by kernel_rfl) (by kernel_rfl) (by kernel_rfl) (fun _ _ _ h => h) (Or.inl ⟨by rfl, ?_⟩) (by assumption) ?_
       rotate_left
       ·intro w hSw; (try dsimp only at hSw); go_simp; (try with_reducible rfl)
       try simp only [Act.put, List.getElem_toArray, List.getElem_cons_zero, List.getElem_cons_succ, List.setIfInBounds_toArray, List.set_cons_zero, List.set_cons_succ]
       refine wpAnyH_take (i := 5) rfl (by kernel_rfl) (by kernel_rfl) (by kernel_rfl) (fun _ _ _ h => h) (Or.inr ⟨by rfl, rfl⟩) (by assumption) ?_
       try simp only [Act.put, List.getElem_toArray, List.getElem_cons_zero, List.getElem_cons_succ, List.setIfInBounds_toArray, List.set_cons_zero, List.set_cons_succ]
       refine wpAnyH_take (i := 6) rfl (by kernel_rfl) (by kernel_rfl) (by kernel_rfl) (fun _ _ _ h => h) (Or.inr ⟨by rfl, rfl⟩) (by assumption) ?_
       try simp only [Act.put, List.getElem_toArray, List.getElem_cons_zero, List.getElem_cons_succ, List.setIfInBounds_toArray, List.set_cons_zero, List.set_cons_succ]
       refine wpAnyH_take (i := 7) rfl (by kernel_rfl) (by kernel_rfl) (by kernel_rfl) (fun _ _ _ h => h) (Or.inr ⟨by rfl, rfl⟩) (by assumption) ?_
       try simp only [Act.put, List.getElem_toArray, List.getElem_cons_zero, List.getElem_cons_succ, List.setIfInBounds_toArray, List.set_cons_zero, List.set_cons_succ]
       refine wpAnyH_take (i := 8) rfl (by kernel_rfl) (by kernel_rfl) (by kernel_rfl) (fun _ _ _ h => h) (Or.inr ⟨by rfl, rfl⟩) (by assumption) ?_
       try simp only [Act.put, List.getElem_toArray, List.getElem_cons_zero, List.getElem_cons_succ, List.setIfInBounds_toArray, List.set_cons_zero, List.set_cons_succ]
       refine wpAnyH_take (i := 9) rfl (by kernel_rfl) (by kernel_rfl) (by kernel_rfl) (fun _ _ _ h => h) (Or.inr ⟨by rfl, rfl⟩) (by assumption) ?_
       try simp only [Act.put, List.getElem_toArray, List.getElem_cons_zero, List.getElem_cons_succ, List.setIfInBounds_toArray, List.set_cons_zero, List.set_cons_succ]
       refine wpAnyH_take (i := 10) rfl (by kernel_rfl) (by kernel_rfl) (by kernel_rfl) (fun _ _ _ h => h) (Or.inr ⟨by rfl, rfl⟩) (by assumption) ?_
       try simp only [Act.put, List.getElem_toArray, List.getElem_cons_zero, List.getElem_cons_succ, List.setIfInBounds_toArray, List.set_cons_zero, List.set_cons_succ]
       refine wpAnyH_take (i := 11) rfl (by kernel_rfl) (by kernel_rfl) (by kernel_rfl) (fun _ _ _ h => h) (Or.inr ⟨by rfl, rfl⟩) (by assumption) ?_
       try simp only [Act.put, List.getElem_toArray, List.getElem_cons_zero, List.getElem_cons_succ, List.setIfInBounds_toArray, List.set_cons_zero, List.set_cons_succ]
       refine wpAnyH_take (i := 12) rfl (by kernel_rfl) (by kernel_rfl) (by kernel_rfl) (fun _ _ _ h => h) (Or.inr ⟨by rfl, rfl⟩) (by assumption) ?_
       try simp only [Act.put, List.getElem_toArray, List.getElem_cons_zero, List.getElem_cons_succ, List.setIfInBounds_toArray, List.set_cons_zero, List.set_cons_succ]
       refine wpAnyH_take (i := 13) rfl (by kernel_rfl) (by kernel_rfl) (by kernel_rfl) (fun _ _ _ h => h) (Or.inr ⟨by rfl, rfl⟩) (by assumption) ?_
       try simp only [Act.put, List.getElem_toArray, List.getElem_cons_zero, List.getElem_cons_succ, List.setIfInBounds_toArray, List.set_cons_zero, List.set_cons_succ]
       refine wpAnyH_take (i := 14) (v := ?_) rfl (by kernel_rfl) (by kernel_rfl) (by kernel_rfl) (fun _ _ _ h => h) (Or.inl ⟨by rfl, ?_⟩) (by assumption) ?_
       rotate_left
       ·intro w hSw; (try dsimp only at hSw); go_simp; (try with_reducible rfl)
       try simp only [Act.put, List.getElem_toArray, List.getElem_cons_zero, List.getElem_cons_succ, List.setIfInBounds_toArray, List.set_cons_zero, List.set_cons_succ]
       refine wpAnyH_done (by kernel_rfl) ?_ _
       refine NoPanic.normal ?_
       go_wp2_with fail
       go_meet
       exact ⟨by first | rfl | simp, rfl⟩
      case rest =>
       obtain ⟨rfl, hwc⟩ := hcut
       subst hwc
       have h3 : Below w.heap.size w wd.drew := HW.out.drew
       have z1 : wd.drew.cell? ⟨w.heap.size, 0, none⟩ = some (.int .i64 N) := z0
       clear z0 HBz HOw HW
       generalize wd.drew = wd at *
       have HW := Lib.hid h3
       clear h3
       have hNN : ((N : Int) == (N : Int)) = true := by simp
       have HAll := Lib.hid (corners_all (c := c) hok Hnf.out (r := (n, true)) (HMn2.out.congr (fun y => ⟨fun ⟨ch', p, _, q, r⟩ => ⟨ch', p, q, r⟩, fun ⟨ch', p, q, r⟩ => ⟨ch', p, cho_last Hcho.out HTk.out ch' p, q, r⟩⟩)))
       go_wp2_with fail
       go_ret2
       exact ⟨LeR.mk ⟨fun h => HAll.out.2.1 h.2, fun h => ⟨(by first | rfl | exact HAll.out.1), HAll.out.2.2 h⟩⟩, HW.out⟩
   | true =>
    by_cases h3 : n < a
    ·have h3' : decide (n < a) = true := by simpa using h3
     have HMn2 := Lib.hid (show Mn (fun y => ∃ ch', Cho N ch' ∧ vl (2 * N + 2) ch' < vl (2 * N + 2) chl + 1 ∧ CorOk N xs ch' ∧ y = cS N xs c rs (cornV N xs ch') N) (n, true) by
      have q := cho_next Hcho.out HMn.out
      rw [if_pos HOk2.out, Hn.out, if_pos (.inr h3)] at q
      exact q)
     clear HMn HOk2
     go_upto_region 11 with fail
     have hN10 : N ≤ 10 := by omega
     go_wp2_with fail
     go_loopw [14] (fun s wr2 => ∃ i : Nat, i ≤ N ∧ s = .int .i64 i ∧ chl.take i = List.replicate i (2 * (N : Int) + 1) ∧ OL 3 (w.heap.size + 1) wr2 (.slice (some ⟨g, 0, none⟩) N N) (List.replicate i 0 ++ chl.drop i) ∧ wr2.heap[w.heap.size]? = some (.cells #[.int .i64 N, .slice ao xs.length cap] 32 (0, 0)) ∧ Below w.heap.size w wr2) (fun s _ => N - (intOf s).toNat)
     case atStart => exact ⟨0, Nat.zero_le _, rfl, by rw [List.take_zero]; rfl, by rw [List.drop_zero]; exact HOw3.out, HBz3.out, HW3.out⟩
     case round =>
      clear HOw3 HBz3 HW3
      obtain ⟨i, hi, rfl, htake, hown, h1, h2⟩ := hrel
      have HTk := Lib.hid htake
      have HOw := Lib.hid hown
      have HBz := Lib.hid h1
      have HW := Lib.hid h2
      clear htake hown h1 h2
      obtain ⟨wd, hwd⟩ : ∃ V, V = wr := ⟨_, rfl⟩
      subst hwd
      have hll := Hcho.out.1
      have z0 : wd.cell? ⟨w.heap.size, 0, none⟩ = some (.int .i64 N) := cell_of_row _ (w.heap.size) 0 _ _ _ HBz.out
      by_cases hlt : i < N
      ·skip
       have hti : decide ((i : Int) < (N : Int)) = true := by simp; omega
       obtain ⟨x, hx⟩ : ∃ x, gi chl i = x := ⟨_, rfl⟩
       have hlen : (List.replicate i (0 : Int) ++ chl.drop i).length = N := by simp; omega
       have Hlen := Lib.hid hlen
       have Hll := Lib.hid hll
       clear hll
       have c0 : wd.cell? ⟨g, i, none⟩ = some (.int .i64 x) := by
        rw [← hx, ← gi_app (l := chl) (Nat.le_refl i)]
        exact own_cell HOw.out (by rw [hlen]; exact hlt)
       have f0 : wd.frozen? ⟨g, i, none⟩ = false := own_fro HOw.out (by rw [hlen]; exact hlt)
       have hxb := Hcho.out.2 (gi chl i) (by rw [gi_of (by have := Hll.out; omega)]; exact List.getElem_mem _)
       rw [hx] at hxb
       have Hx := Lib.hid hx
       have k0 : (i : Int) < N := by omega
       have k1 : (0 : Int) ≤ (i : Int) := by omega
       have Hw2 := Lib.hid (show IntKind.i64.wrap (2 * (N : Int)) = 2 * (N : Int) from wr_id (by omega) (by omega))
       have Hw3 := Lib.hid (show IntKind.i64.wrap (2 * (N : Int) + 1) = 2 * (N : Int) + 1 from wr_id (by omega) (by omega))
       clear hx hlen f0
       go_upto_region 12 with fail
       go_cut [56] (fun s wx => s = .bool (x == 2 * (N : Int) + 1) ∧ wx = wd.drew)
       case first =>
        refine wp_region_noPanic ?_
        refine wp_region_held_drew (S := (fun w' => w'.cell? ⟨w.heap.size, 0, none⟩ = some (.int .i64 N) ∧ w'.cell? ⟨g, i, none⟩ = some (.int .i64 x))) (by kernel_rfl) ⟨z0, c0⟩ (fun hHeld => ?_)
        refine wpAnyH_take (i := 0) (v := ?_) rfl (by kernel_rfl) (by kernel_rfl) (by kernel_rfl) (fun _ _ _ h => h) (Or.inl ⟨by rfl, ?_⟩) (by assumption) ?_
        rotate_left
        ·intro w hSw; (try dsimp only at hSw); go_simp; (try with_reducible rfl)
        try simp only [Act.put, List.getElem_toArray, List.getElem_cons_zero, List.setIfInBounds_toArray, List.set_cons_zero, List.set_cons_succ]
        refine wpAnyH_take (i := 1) (v := ?_) rfl (by kernel_rfl) (by kernel_rfl) (by kernel_rfl) (fun _ _ _ h => h) (Or.inl ⟨by rfl, ?_⟩) (by assumption) ?_
        rotate_left
        ·intro w hSw; (try dsimp only at hSw); go_simp; (try with_reducible rfl)
        try simp only [Act.put, List.getElem_toArray, List.getElem_cons_zero, List.getElem_cons_succ, List.setIfInBounds_toArray, List.set_cons_zero, List.set_cons_succ]
        refine wpAnyH_take (i := 2) (v := ?_) rfl (by kernel_rfl) (by kernel_rfl) (by kernel_rfl) (fun _ _ _ h => h) (Or.inl ⟨by rfl, ?_⟩) (by assumption) ?_
        rotate_left
        ·intro w hSw; (try dsimp only at hSw); go_simp; (try with_reducible rfl)
        try simp only [Act.put, List.getElem_toArray, List.getElem_cons_zero, List.getElem_cons_succ, List.setIfInBounds_toArray, List.set_cons_zero, List.set_cons_succ]
        refine wpAnyH_take (i := 3) (v := ?_) rfl (by kernel_rfl) (by kernel_rfl) (by kernel_rfl) (fun _ _ _ h => h) (Or.inl ⟨by rfl, ?_⟩) (by assumption) ?_
        rotate_left
        ·intro w hSw; (try dsimp only at hSw); go_simp; (try with_reducible rfl)
        try simp only [Act.put, List.getElem_toArray, List.getElem_cons_zero, List.getElem_cons_succ, List.setIfInBounds_toArray, List.set_cons_zero, List.set_cons_succ]
        try simp only [hti]
        refine wpAnyH_take (i := 4) (v := ?_) rfl (by kernel_rfl) (by kernel_rfl) (by kernel_rfl) (fun _ _ _ h => h) (Or.inl ⟨by rfl, ?_⟩) (by assumption) ?_
        rotate_left
        ·intro w hSw; (try dsimp only at hSw); go_simp; (try with_reducible rfl)
        try simp only [Act.put, List.getElem_toArray, List.getElem_cons_zero, List.getElem_cons_succ, List.setIfInBounds_toArray, List.set_cons_zero, List.set_cons_succ]
        refine wpAnyH_take (i := 5) (v := ?_) rfl (by kernel_rfl) (by kernel_rfl) (by kernel_rfl) (fun _ _ _ h => h) (Or.inl ⟨by rfl, ?_⟩) (by assumption) ?_
        rotate_left
        ·intro w hSw; (try dsimp only at hSw); go_simp; (try with_reducible rfl)
        try simp only [Act.put, List.getElem_toArray, List.getElem_cons_zero, List.getElem_cons_succ, List.setIfInBounds_toArray, List.set_cons_zero, List.set_cons_succ]
        refine wpAnyH_take (i := 6) (v := ?_) rfl (by kernel_rfl) (by kernel_rfl) (by kernel_rfl) (fun _ _ _ h => h) (Or.inl ⟨by rfl, ?_⟩) (by assumption) ?_
        rotate_left
        ·intro w hSw; (try dsimp only at hSw); go_simp; (try with_reducible rfl)
        try simp only [Act.put, List.getElem_toArray, List.getElem_cons_zero, List.getElem_cons_succ, List.setIfInBounds_toArray, List.set_cons_zero, List.set_cons_succ]
        refine wpAnyH_take (i := 7) (v := ?_) rfl (by kernel_rfl) (by kernel_rfl) (by kernel_rfl) (fun _ _ _ h => h) (Or.inl ⟨by rfl, ?_⟩) (by assumption) ?_
        rotate_left
        ·intro w hSw; (try dsimp only at hSw); go_simp; (try with_reducible rfl)
        try simp only [Act.put, List.getElem_toArray, List.getElem_cons_zero, List.getElem_cons_succ, List.setIfInBounds_toArray, List.set_cons_zero, List.set_cons_succ]
        refine wpAnyH_take (i := 8) (v := ?_) rfl (by kernel_rfl) (by kernel_rfl) (by kernel_rfl) (fun _ _ _ h => h) (Or.inl ⟨by rfl, ?_⟩) (by assumption) ?_
        rotate_left
        ·intro w hSw; (try dsimp only at hSw); go_simp; (try with_reducible rfl)
        try simp only [Act.put, List.getElem_toArray, List.getElem_cons_zero, List.getElem_cons_succ, List.setIfInBounds_toArray, List.set_cons_zero, List.set_cons_succ]
        refine wpAnyH_take (i := 9) (v := ?_) rfl (by kernel_rfl) (by kernel_rfl) (by kernel_rfl) (fun _ _ _ h => h) (Or.inl ⟨by rfl, ?_⟩) (by assumption) ?_
        rotate_left
        ·intro w hSw; (try dsimp only at hSw); go_simp; (try with_reducible rfl)
        try simp only [Act.put, List.getElem_toArray, List.getElem_cons_zero, List.getElem_cons_succ, List.setIfInBounds_toArray, List.set_cons_zero, List.set_cons_succ]
        refine wpAnyH_take (i := 10) (v := ?_) rfl (by kernel_rfl) (by kernel_rfl) (by kernel_rfl) (fun _ _ _ h => h) (Or.inl ⟨by rfl, ?_⟩) (by assumption) ?_
        rotate_left
        ·intro w hSw; (try dsimp only at hSw); go_simp; (try with_reducible rfl)
        try simp only [Act.put, List.getElem_toArray, List.getElem_cons_zero, List.getElem_cons_succ, List.setIfInBounds_toArray, List.set_cons_zero, List.set_cons_succ]
        refine wpAnyH_take (i := 11) (v := ?_) rfl (by kernel_rfl) (by kernel_rfl) (by kernel_rfl) (fun _ _ _ h => h) (Or.inl ⟨by rfl, ?_⟩) (by assumption) ?_
        rotate_left
        ·intro w hSw; (try dsimp only at hSw); go_simp; (try with_reducible rfl)
        try simp only [Act.put, List.getElem_toArray, List.getElem_cons_zero, List.getElem_cons_succ, List.setIfInBounds_toArray, List.set_cons_zero, List.set_cons_succ]
        try simp only [Hw2.out, Hw3.out]
        refine wpAnyH_take (i := 12) (v := ?_) rfl (by kernel_rfl) (by kernel_rfl) (by kernel_rfl) (fun _ _ _ h => h) (Or.inl ⟨by rfl, ?_⟩) (by assumption) ?_
        rotate_left
        ·intro w hSw; (try dsimp only at hSw); go_simp; (try with_reducible rfl)
        try simp only [Act.put, List.getElem_toArray, List.getElem_cons_zero, List.getElem_cons_succ, List.setIfInBounds_toArray, List.set_cons_zero, List.set_cons_succ]
        try simp only [Hw2.out, Hw3.out]
        refine wpAnyH_take (i := 13) (v := ?_) rfl (by kernel_rfl) (by kernel_rfl) (by kernel_rfl) (fun _ _ _ h => h) (Or.inl ⟨by rfl, ?_⟩) (by assumption) ?_
        rotate_left
        ·intro w hSw; (try dsimp only at hSw); go_simp; (try with_reducible rfl)
        try simp only [Act.put, List.getElem_toArray, List.getElem_cons_zero, List.getElem_cons_succ, List.setIfInBounds_toArray, List.set_cons_zero, List.set_cons_succ]
        refine wpAnyH_take (i := 14) (v := ?_) rfl (by kernel_rfl) (by kernel_rfl) (by kernel_rfl) (fun _ _ _ h => h) (Or.inl ⟨by rfl, ?_⟩) (by assumption) ?_
        rotate_left
        ·intro w hSw; (try dsimp only at hSw); go_simp; (try with_reducible rfl)
        try simp only [Act.put, List.getElem_toArray, List.getElem_cons_zero, List.getElem_cons_succ, List.setIfInBounds_toArray, List.set_cons_zero, List.set_cons_succ]
        refine wpAnyH_done (by kernel_rfl) ?_ _
        refine NoPanic.normal ?_
        go_wp2_with fail
        go_meet
        exact ⟨by first | rfl | simp, rfl⟩
       case rest =>
        obtain ⟨rfl, hwc⟩ := hcut
        subst hwc
        have h1 : wd.drew.heap[w.heap.size]? = some (.cells #[.int .i64 N, .slice ao xs.length cap] 32 (0, 0)) := HBz.out
        have h2 : OL 3 (w.heap.size + 1) wd.drew (.slice (some ⟨g, 0, none⟩) N N) (List.replicate i 0 ++ chl.drop i) := OL.drew HOw.out
        have h3 : Below w.heap.size w wd.drew := HW.out.drew
        clear z0 HBz HOw HW
        try clear c0
        generalize wd.drew = wd at *
        have HBz := Lib.hid h1
        have HOw := Lib.hid h2
        have HW := Lib.hid h3
        clear h1 h2 h3
        have z0 : wd.cell? ⟨w.heap.size, 0, none⟩ = some (.int .i64 N) := cell_of_row _ (w.heap.size) 0 _ _ _ HBz.out
        have c0 : wd.cell? ⟨g, i, none⟩ = some (.int .i64 x) := by
         rw [← Hx.out, ← gi_app (l := chl) (Nat.le_refl i)]
         exact own_cell HOw.out (by rw [Hlen.out]; exact hlt)
        have f0 : wd.frozen? ⟨g, i, none⟩ = false := own_fro HOw.out (by rw [Hlen.out]; exact hlt)
        by_cases hxe : x = 2 * (N : Int) + 1
        ·skip
         have hxb2 : (x == 2 * (N : Int) + 1) = true := by simpa using hxe
         have HT2 := Lib.hid (rep_next HTk.out (by have := Hll.out; omega) (Hx.out.trans hxe))
         have hsd := OL.stored HOw.out Hlen.out.symm i 0
         have HS1 := Lib.hid (show OL 3 (w.heap.size + 1) _ (.slice (some ⟨g, 0, none⟩) N N) (List.replicate (i + 1) 0 ++ chl.drop (i + 1)) by
          have q := hsd.1
          rw [zero_next (by have := Hll.out; omega)] at q
          exact q)
         have HS2 := Lib.hid ((st1k_ne (w := wd) (b := g) (i := i) (c := w.heap.size) (.int .i64 0) (by omega)).trans HBz.out)
         have HS3 := Lib.hid (HW.out.setCell (p := ⟨g, i, none⟩) (by show w.heap.size ≤ g; omega) (.int .i64 0))
         clear hsd HOw HBz HW hxe hxb
         go_wp2_with fail
         go_roundw
         case rel => exact ⟨i + 1, by omega, by go_num, HT2.out, HS1.out, HS2.out, HS3.out⟩
         case measure => simp [intOf]; omega
        ·skip
         have hxb2 : (x == 2 * (N : Int) + 1) = false := by simpa using hxe
         have hiN : ((i : Int) == (N : Int)) = false := by simp; omega
         have HCi := Lib.hid (cho_inc Hcho.out hlt HTk.out (by rw [Hx.out]; exact hxe))
         have hsd := OL.stored HOw.out Hlen.out.symm i (x + 1)
         rw [Hx.out] at HCi
         have HS1 := Lib.hid hsd.1
         have HS2 := Lib.hid ((st1k_ne (w := wd) (b := g) (i := i) (c := w.heap.size) (.int .i64 (x + 1)) (by omega)).trans HBz.out)
         have HS3 := Lib.hid (HW.out.setCell (p := ⟨g, i, none⟩) (by show w.heap.size ≤ g; omega) (.int .i64 (x + 1)))
         have HM3 := Lib.hid (show Mn (fun y => ∃ ch', Cho N ch' ∧ vl (2 * N + 2) ch' < vl (2 * N + 2) ((List.replicate i (0 : Int) ++ chl.drop i).set i (x + 1)) ∧ CorOk N xs ch' ∧ y = cS N xs c rs (cornV N xs ch') N) (n, true) by rw [HCi.out.2]; exact HMn2.out)
         have HMe := Lib.hid (show ((2 * (N : Int) + 2) ^ N - vl (2 * N + 2) (rdI (wd.setCell ⟨g, i, none⟩ (.int .i64 (x + 1))) g N)).toNat < ((2 * (N : Int) + 2) ^ N - vl (2 * N + 2) (rdI wa g N)).toNat by
          rw [HRd.out, rd_own HS1.out (by rw [List.length_set]; exact Hlen.out), HCi.out.2]
          have q := vl_lt (M := 2 * N + 2) (by omega) chl Hcho.out.2
          rw [Hcho.out.1] at q
          omega)
         clear hsd HOw HBz HW hxe
         go_wp2_with fail
         go_roundw
         case rel => exact ⟨_, n, true, HCi.out.1, rfl, rfl, HS1.out, HM3.out, HS2.out, HS3.out⟩
         case measure => exact HMe.out
      ·skip
       have hti : decide ((i : Int) < (N : Int)) = false := by simp; omega
       obtain rfl : N = i := by omega
       go_upto_region 12 with fail
       go_cut [56] (fun s wx => s = .bool false ∧ wx = wd.drew)
       case first =>
        refine wp_region_noPanic ?_
        refine wp_region_held_drew (S := (fun w' => w'.cell? ⟨w.heap.size, 0, none⟩ = some (.int .i64 N))) (by kernel_rfl) z0 (fun hHeld => ?_)
        refine wpAnyH_take (i := 0) (v := ?_) rfl (by kernel_rfl) (by kernel_rfl) (by kernel_rfl) (fun _ _ _ h => h) (Or.inl ⟨by rfl, ?_⟩) (by assumption) ?_
        rotate_left
        ·intro w hSw; (try dsimp only at hSw); go_simp; (try with_reducible rfl)
        try simp only [Act.put, List.getElem_toArray, List.getElem_cons_zero, List.setIfInBounds_toArray, List.set_cons_zero, List.set_cons_succ]
        refine wpAnyH_take (i := 1) (v := ?_) rfl (by kernel_rfl) (by kernel_rfl) (by kernel_rfl) (fun _ _ _ h => h) (Or.inl ⟨by rfl, ?_⟩) (by assumption) ?_
        rotate_left
        ·intro w hSw; (try dsimp only at hSw); go_simp; (try with_reducible rfl)
        try simp only [Act.put, List.getElem_toArray, List.getElem_cons_zero, List.getElem_cons_succ, List.setIfInBounds_toArray, List.set_cons_zero, List.set_cons_succ]
        refine wpAnyH_take (i := 2) (v := ?_) rfl (by kernel_rfl) (by kernel_rfl) (by kernel_rfl) (fun _ _ _ h => h) (Or.inl ⟨by rfl, ?_⟩) (by assumption) ?_
        rotate_left
        ·intro w hSw; (try dsimp only at hSw); go_simp; (try with_reducible rfl)
        try simp only [Act.put, List.getElem_toArray, List.getElem_cons_zero, List.getElem_cons_succ, List.setIfInBounds_toArray, List.set_cons_zero, List.set_cons_succ]
        refine wpAnyH_take (i := 3) (v := ?_) rfl (by kernel_rfl) (by kernel_rfl) (by kernel_rfl) (fun _ _ _ h => h) (Or.inl ⟨by rfl, ?_⟩) (by assumption) ?_
        rotate_left
        ·intro w hSw; (try dsimp only at hSw); go_simp; (try with_reducible rfl)
        try simp only [Act.put, List.getElem_toArray, List.getElem_cons_zero, List.getElem_cons_succ, List.setIfInBounds_toArray, List.set_cons_zero, List.set_cons_succ]
        try simp only [hti]
        refine wpAnyH_take (i := 4) (v := ?_) rfl (by kernel_rfl) (by kernel_rfl) (by kernel_rfl) (fun _ _ _ h => h) (Or.inl ⟨by rfl, ?_⟩) (by assumption) ?_
        rotate_left
        ·intro w hSw; (try dsimp only at hSw); go_simp; (try with_reducible rfl)
        try simp only [Act.put, List.getElem_toArray, List.getElem_cons_zero, List.getElem_cons_succ, List.setIfInBounds_toArray, List.set_cons_zero, List.set_cons_succ]
        refine wpAnyH_take (i := 5) rfl (by kernel_rfl) (by kernel_rfl) (by kernel_rfl) (fun _ _ _ h => h) (Or.inr ⟨by rfl, rfl⟩) (by assumption) ?_
        try simp only [Act.put, List.getElem_toArray, List.getElem_cons_zero, List.getElem_cons_succ, List.setIfInBounds_toArray, List.set_cons_zero, List.set_cons_succ]
        refine wpAnyH_take (i := 6) rfl (by kernel_rfl) (by kernel_rfl) (by kernel_rfl) (fun _ _ _ h => h) (Or.inr ⟨by rfl, rfl⟩) (by assumption) ?_
        try simp only [Act.put, List.getElem_toArray, List.getElem_cons_zero, List.getElem_cons_succ, List.setIfInBounds_toArray, List.set_cons_zero, List.set_cons_succ]
        refine wpAnyH_take (i := 7) rfl (by kernel_rfl) (by kernel_rfl) (by kernel_rfl) (fun _ _ _ h => h) (Or.inr ⟨by rfl, rfl⟩) (by assumption) ?_
        try simp only [Act.put, List.getElem_toArray, List.getElem_cons_zero, List.getElem_cons_succ, List.setIfInBounds_toArray, List.set_cons_zero, List.set_cons_succ]
        refine wpAnyH_take (i := 8) rfl (by kernel_rfl) (by kernel_rfl) (by kernel_rfl) (fun _ _ _ h => h) (Or.inr ⟨by rfl, rfl⟩) (by assumption) ?_
        try simp only [Act.put, List.getElem_toArray, List.getElem_cons_zero, List.getElem_cons_succ, List.setIfInBounds_toArray, List.set_cons_zero, List.set_cons_succ]
        refine wpAnyH_take (i := 9) rfl (by kernel_rfl) (by kernel_rfl) (by kernel_rfl) (fun _ _ _ h => h) (Or.inr ⟨by rfl, rfl⟩) (by assumption) ?_
        try simp only [Act.put, List.getElem_toArray, List.getElem_cons_zero, List.getElem_cons_succ, List.setIfInBounds_toArray, List.set_cons_zero, List.set_cons_succ]
        refine wpAnyH_take (i := 10) rfl (by kernel_rfl) (by kernel_rfl) (by kernel_rfl) (fun _ _ _ h => h) (Or.inr ⟨by rfl, rfl⟩) (by assumption) ?_
        try simp only [Act.put, List.getElem_toArray, List.getElem_cons_zero, List.getElem_cons_succ, List.setIfInBounds_toArray, List.set_cons_zero, List.set_cons_succ]
        refine wpAnyH_take (i := 11) rfl (by kernel_rfl) (by kernel_rfl) (by kernel_rfl) (fun _ _ _ h => h) (Or.inr ⟨by rfl, rfl⟩) (by assumption) ?_
        try simp only [Act.put, List.getElem_toArray, List.getElem_cons_zero, List.getElem_cons_succ, List.setIfInBounds_toArray, List.set_cons_zero, List.set_cons_succ]
        refine wpAnyH_take (i := 12) rfl (by kernel_rfl) (by kernel_rfl) (by kernel_rfl) (fun _ _ _ h => h) (Or.inr ⟨by rfl, rfl⟩) (by assumption) ?_
        try simp only [Act.put, List.getElem_toArray, List.getElem_cons_zero, List.getElem_cons_succ, List.setIfInBounds_toArray, List.set_cons_zero, List.set_cons_succ]
        refine wpAnyH_take (i := 13) rfl (by kernel_rfl) (by kernel_rfl) (by kernel_rfl) (fun _ _ _ h => h) (Or.inr ⟨by rfl, rfl⟩) (by assumption) ?_
        try simp only [Act.put, List.getElem_toArray, List.getElem_cons_zero, List.getElem_cons_succ, List.setIfInBounds_toArray, List.set_cons_zero, List.set_cons_succ]
        refine wpAnyH_take (i := 14) (v := ?_) rfl (by kernel_rfl) (by kernel_rfl) (by kernel_rfl) (fun _ _ _ h => h) (Or.inl ⟨by rfl, ?_⟩) (by assumption) ?_
        rotate_left
        ·intro w hSw; (try dsimp only at hSw); go_simp; (try with_reducible rfl)
        try simp only [Act.put, List.getElem_toArray, List.getElem_cons_zero, List.getElem_cons_succ, List.setIfInBounds_toArray, List.set_cons_zero, List.set_cons_succ]
        refine wpAnyH_done (by kernel_rfl) ?_ _
        refine NoPanic.normal ?_
        go_wp2_with fail
        go_meet
        exact ⟨by first | rfl | simp, rfl⟩
       case rest =>
        obtain ⟨rfl, hwc⟩ := hcut
        subst hwc
        have h3 : Below w.heap.size w wd.drew := HW.out.drew
        have z1 : wd.drew.cell? ⟨w.heap.size, 0, none⟩ = some (.int .i64 N) := z0
        clear z0 HBz HOw HW
        generalize wd.drew = wd at *
        have HW := Lib.hid h3
        clear h3
        have hNN : ((N : Int) == (N : Int)) = true := by simp
        have HAll := Lib.hid (corners_all (c := c) hok Hnf.out (r := (n, true)) (HMn2.out.congr (fun y => ⟨fun ⟨ch', p, _, q, r⟩ => ⟨ch', p, q, r⟩, fun ⟨ch', p, q, r⟩ => ⟨ch', p, cho_last Hcho.out HTk.out ch' p, q, r⟩⟩)))
        go_wp2_with fail
        go_ret2
        exact ⟨LeR.mk ⟨fun h => HAll.out.2.1 h.2, fun h => ⟨(by first | rfl | exact HAll.out.1), HAll.out.2.2 h⟩⟩, HW.out⟩
    ·have h3' : decide (n < a) = false := by simpa using h3
     have HMn2 := Lib.hid (show Mn (fun y => ∃ ch', Cho N ch' ∧ vl (2 * N + 2) ch' < vl (2 * N + 2) chl + 1 ∧ CorOk N xs ch' ∧ y = cS N xs c rs (cornV N xs ch') N) (a, true) by
      have q := cho_next Hcho.out HMn.out
      rw [if_pos HOk2.out, Hn.out, if_neg (fun h => by rcases h with h | h; cases h; exact h3 h)] at q
      exact q)
     clear HMn HOk2
     go_upto_region 11 with fail
     have hN10 : N ≤ 10 := by omega
     go_wp2_with fail
     go_loopw [14] (fun s wr2 => ∃ i : Nat, i ≤ N ∧ s = .int .i64 i ∧ chl.take i = List.replicate i (2 * (N : Int) + 1) ∧ OL 3 (w.heap.size + 1) wr2 (.slice (some ⟨g, 0, none⟩) N N) (List.replicate i 0 ++ chl.drop i) ∧ wr2.heap[w.heap.size]? = some (.cells #[.int .i64 N, .slice ao xs.length cap] 32 (0, 0)) ∧ Below w.heap.size w wr2) (fun s _ => N - (intOf s).toNat)
     case atStart => exact ⟨0, Nat.zero_le _, rfl, by rw [List.take_zero]; rfl, by rw [List.drop_zero]; exact HOw3.out, HBz3.out, HW3.out⟩
     case round =>
      clear HOw3 HBz3 HW3
      obtain ⟨i, hi, rfl, htake, hown, h1, h2⟩ := hrel
      have HTk := Lib.hid htake
      have HOw := Lib.hid hown
      have HBz := Lib.hid h1
      have HW := Lib.hid h2
      clear htake hown h1 h2
      obtain ⟨wd, hwd⟩ : ∃ V, V = wr := ⟨_, rfl⟩
      subst hwd
      have hll := Hcho.out.1
      have z0 : wd.cell? ⟨w.heap.size, 0, none⟩ = some (.int .i64 N) := cell_of_row _ (w.heap.size) 0 _ _ _ HBz.out
      by_cases hlt : i < N
      ·skip
       have hti : decide ((i : Int) < (N : Int)) = true := by simp; omega
       obtain ⟨x, hx⟩ : ∃ x, gi chl i = x := ⟨_, rfl⟩
       have hlen : (List.replicate i (0 : Int) ++ chl.drop i).length = N := by simp; omega
       have Hlen := Lib.hid hlen
       have Hll := Lib.hid hll
       clear hll
       have c0 : wd.cell? ⟨g, i, none⟩ = some (.int .i64 x) := by
        rw [← hx, ← gi_app (l := chl) (Nat.le_refl i)]
        exact own_cell HOw.out (by rw [hlen]; exact hlt)
       have f0 : wd.frozen? ⟨g, i, none⟩ = false := own_fro HOw.out (by rw [hlen]; exact hlt)
       have hxb := Hcho.out.2 (gi chl i) (by rw [gi_of (by have := Hll.out; omega)]; exact List.getElem_mem _)
       rw [hx] at hxb
       have Hx := Lib.hid hx
       have k0 : (i : Int) < N := by omega
       have k1 : (0 : Int) ≤ (i : Int) := by omega
       have Hw2 := Lib.hid (show IntKind.i64.wrap (2 * (N : Int)) = 2 * (N : Int) from wr_id (by omega) (by omega))
       have Hw3 := Lib.hid (show IntKind.i64.wrap (2 * (N : Int) + 1) = 2 * (N : Int) + 1 from wr_id (by omega) (by omega))
       clear hx hlen f0
       go_upto_region 12 with fail
       go_cut [56] (fun s wx => s = .bool (x == 2 * (N : Int) + 1) ∧ wx = wd.drew)
       case first =>
        refine wp_region_noPanic ?_
        refine wp_region_held_drew (S := (fun w' => w'.cell? ⟨w.heap.size, 0, none⟩ = some (.int .i64 N) ∧ w'.cell? ⟨g, i, none⟩ = some (.int .i64 x))) (by kernel_rfl) ⟨z0, c0⟩ (fun hHeld => ?_)
        refine wpAnyH_take (i := 0) (v := ?_) rfl (by kernel_rfl) (by kernel_rfl) (by kernel_rfl) (fun _ _ _ h => h) (Or.inl ⟨by rfl, ?_⟩) (by assumption) ?_
        rotate_left
        ·intro w hSw; (try dsimp only at hSw); go_simp; (try with_reducible rfl)
        try simp only [Act.put, List.getElem_toArray, List.getElem_cons_zero, List.setIfInBounds_toArray, List.set_cons_zero, List.set_cons_succ]
        refine wpAnyH_take (i := 1) (v := ?_) rfl (by kernel_rfl) (by kernel_rfl) (by kernel_rfl) (fun _ _ _ h => h) (Or.inl ⟨by rfl, ?_⟩) (by assumption) ?_
        rotate_left
        ·intro w hSw; (try dsimp only at hSw); go_simp; (try with_reducible rfl)
        try simp only [Act.put, List.getElem_toArray, List.getElem_cons_zero, List.getElem_cons_succ, List.setIfInBounds_toArray, List.set_cons_zero, List.set_cons_succ]
        refine wpAnyH_take (i := 2) (v := ?_) rfl (by kernel_rfl) (by kernel_rfl) (by kernel_rfl) (fun _ _ _ h => h) (Or.inl ⟨by rfl, ?_⟩) (by assumption) ?_
        rotate_left
        ·intro w hSw; (try dsimp only at hSw); go_simp; (try with_reducible rfl)
        try simp only [Act.put, List.getElem_toArray, List.getElem_cons_zero, List.getElem_cons_succ, List.setIfInBounds_toArray, List.set_cons_zero, List.set_cons_succ]
        refine wpAnyH_take (i := 3) (v := ?_) rfl (by kernel_rfl) (by kernel_rfl) (by kernel_rfl) (fun _ _ _ h => h) (Or.inl ⟨by rfl, ?_⟩) (by assumption) ?_
        rotate_left
        ·intro w hSw; (try dsimp only at hSw); go_simp; (try with_reducible rfl)
        try simp only [Act.put, List.getElem_toArray, List.getElem_cons_zero, List.getElem_cons_succ, List.setIfInBounds_toArray, List.set_cons_zero, List.set_cons_succ]
        try simp only [hti]
        refine wpAnyH_take (i := 4) (v := ?_) rfl (by kernel_rfl) (by kernel_rfl) (by kernel_rfl) (fun _ _ _ h => h) (Or.inl ⟨by rfl, ?_⟩) (by assumption) ?_
        rotate_left
        ·intro w hSw; (try dsimp only at hSw); go_simp; (try with_reducible rfl)
        try simp only [Act.put, List.getElem_toArray, List.getElem_cons_zero, List.getElem_cons_succ, List.setIfInBounds_toArray, List.set_cons_zero, List.set_cons_succ]
        refine wpAnyH_take (i := 5) (v := ?_) rfl (by kernel_rfl) (by kernel_rfl) (by kernel_rfl) (fun _ _ _ h => h) (Or.inl ⟨by rfl, ?_⟩) (by assumption) ?_
        rotate_left
        ·intro w hSw; (try dsimp only at hSw); go_simp; (try with_reducible rfl)
        try simp only [Act.put, List.getElem_toArray, List.getElem_cons_zero, List.getElem_cons_succ, List.setIfInBounds_toArray, List.set_cons_zero, List.set_cons_succ]
        refine wpAnyH_take (i := 6) (v := ?_) rfl (by kernel_rfl) (by kernel_rfl) (by kernel_rfl) (fun _ _ _ h => h) (Or.inl ⟨by rfl, ?_⟩) (by assumption) ?_
        rotate_left
        ·intro w hSw; (try dsimp only at hSw); go_simp; (try with_reducible rfl)
        try simp only [Act.put, List.getElem_toArray, List.getElem_cons_zero, List.getElem_cons_succ, List.setIfInBounds_toArray, List.set_cons_zero, List.set_cons_succ]
        refine wpAnyH_take (i := 7) (v := ?_) rfl (by kernel_rfl) (by kernel_rfl) (by kernel_rfl) (fun _ _ _ h => h) (Or.inl ⟨by rfl, ?_⟩) (by assumption) ?_
        rotate_left
        ·intro w hSw; (try dsimp only at hSw); go_simp; (try with_reducible rfl)
        try simp only [Act.put, List.getElem_toArray, List.getElem_cons_zero, List.getElem_cons_succ, List.setIfInBounds_toArray, List.set_cons_zero, List.set_cons_succ]
        refine wpAnyH_take (i := 8) (v := ?_) rfl (by kernel_rfl) (by kernel_rfl) (by kernel_rfl) (fun _ _ _ h => h) (Or.inl ⟨by rfl, ?_⟩) (by assumption) ?_
        rotate_left
        ·intro w hSw; (try dsimp only at hSw); go_simp; (try with_reducible rfl)
        try simp only [Act.put, List.getElem_toArray, List.getElem_cons_zero, List.getElem_cons_succ, List.setIfInBounds_toArray, List.set_cons_zero, List.set_cons_succ]
        refine wpAnyH_take (i := 9) (v := ?_) rfl (by kernel_rfl) (by kernel_rfl) (by kernel_rfl) (fun _ _ _ h => h) (Or.inl ⟨by rfl, ?_⟩) (by assumption) ?_
        rotate_left
        ·intro w hSw; (try dsimp only at hSw); go_simp; (try with_reducible rfl)
        try simp only [Act.put, List.getElem_toArray, List.getElem_cons_zero, List.getElem_cons_succ, List.setIfInBounds_toArray, List.set_cons_zero, List.set_cons_succ]
        refine wpAnyH_take (i := 10) (v := ?_) rfl (by kernel_rfl) (by kernel_rfl) (by kernel_rfl) (fun _ _ _ h => h) (Or.inl ⟨by rfl, ?_⟩) (by assumption) ?_
        rotate_left
        ·intro w hSw; (try dsimp only at hSw); go_simp; (try with_reducible rfl)
        try simp only [Act.put, List.getElem_toArray, List.getElem_cons_zero, List.getElem_cons_succ, List.setIfInBounds_toArray, List.set_cons_zero, List.set_cons_succ]
        refine wpAnyH_take (i := 11) (v := ?_) rfl (by kernel_rfl) (by kernel_rfl) (by kernel_rfl) (fun _ _ _ h => h) (Or.inl ⟨by rfl, ?_⟩) (by assumption) ?_
        rotate_left
        ·intro w hSw; (try dsimp only at hSw); go_simp; (try with_reducible rfl)
        try simp only [Act.put, List.getElem_toArray, List.getElem_cons_zero, List.getElem_cons_succ, List.setIfInBounds_toArray, List.set_cons_zero, List.set_cons_succ]
        try simp only [Hw2.out, Hw3.out]
        refine wpAnyH_take (i := 12) (v := ?_) rfl (by kernel_rfl) (by kernel_rfl) (by kernel_rfl) (fun _ _ _ h => h) (Or.inl ⟨by rfl, ?_⟩) (by assumption) ?_
        rotate_left
        ·intro w hSw; (try dsimp only at hSw); go_simp; (try with_reducible rfl)
        try simp only [Act.put, List.getElem_toArray, List.getElem_cons_zero, List.getElem_cons_succ, List.setIfInBounds_toArray, List.set_cons_zero, List.set_cons_succ]
        try simp only [Hw2.out, Hw3.out]
        refine wpAnyH_take (i := 13) (v := ?_) rfl (by kernel_rfl) (by kernel_rfl) (by kernel_rfl) (fun _ _ _ h => h) (Or.inl ⟨by rfl, ?_⟩) (by assumption) ?_
        rotate_left
        ·intro w hSw; (try dsimp only at hSw); go_simp; (try with_reducible rfl)
        try simp only [Act.put, List.getElem_toArray, List.getElem_cons_zero, List.getElem_cons_succ, List.setIfInBounds_toArray, List.set_cons_zero, List.set_cons_succ]
        refine wpAnyH_take (i := 14) (v := ?_) rfl (by kernel_rfl) (by kernel_rfl) (by kernel_rfl) (fun _ _ _ h => h) (Or.inl ⟨by rfl, ?_⟩) (by assumption) ?_
        rotate_left
        ·intro w hSw; (try dsimp only at hSw); go_simp; (try with_reducible rfl)
        try simp only [Act.put, List.getElem_toArray, List.getElem_cons_zero, List.getElem_cons_succ, List.setIfInBounds_toArray, List.set_cons_zero, List.set_cons_succ]
        refine wpAnyH_done (by kernel_rfl) ?_ _
        refine NoPanic.normal ?_
        go_wp2_with fail
        go_meet
        exact ⟨by first | rfl | simp, rfl⟩
       case rest =>
        obtain ⟨rfl, hwc⟩ := hcut
        subst hwc
        have h1 : wd.drew.heap[w.heap.size]? = some (.cells #[.int .i64 N, .slice ao xs.length cap] 32 (0, 0)) := HBz.out
        have h2 : OL 3 (w.heap.size + 1) wd.drew (.slice (some ⟨g, 0, none⟩) N N) (List.replicate i 0 ++ chl.drop i) := OL.drew HOw.out
        have h3 : Below w.heap.size w wd.drew := HW.out.drew
        clear z0 HBz HOw HW
        try clear c0
        generalize wd.drew = wd at *
        have HBz := Lib.hid h1
        have HOw := Lib.hid h2
        have HW := Lib.hid h3
        clear h1 h2 h3
        have z0 : wd.cell? ⟨w.heap.size, 0, none⟩ = some (.int .i64 N) := cell_of_row _ (w.heap.size) 0 _ _ _ HBz.out
        have c0 : wd.cell? ⟨g, i, none⟩ = some (.int .i64 x) := by
         rw [← Hx.out, ← gi_app (l := chl) (Nat.le_refl i)]
         exact own_cell HOw.out (by rw [Hlen.out]; exact hlt)
        have f0 : wd.frozen? ⟨g, i, none⟩ = false := own_fro HOw.out (by rw [Hlen.out]; exact hlt)
        by_cases hxe : x = 2 * (N : Int) + 1
        ·skip
         have hxb2 : (x == 2 * (N : Int) + 1) = true := by simpa using hxe
         have HT2 := Lib.hid (rep_next HTk.out (by have := Hll.out; omega) (Hx.out.trans hxe))
         have hsd := OL.stored HOw.out Hlen.out.symm i 0
         have HS1 := Lib.hid (show OL 3 (w.heap.size + 1) _ (.slice (some ⟨g, 0, none⟩) N N) (List.replicate (i + 1) 0 ++ chl.drop (i + 1)) by
          have q := hsd.1
          rw [zero_next (by have := Hll.out; omega)] at q
          exact q)
         have HS2 := Lib.hid ((st1k_ne (w := wd) (b := g) (i := i) (c := w.heap.size) (.int .i64 0) (by omega)).trans HBz.out)
         have HS3 := Lib.hid (HW.out.setCell (p := ⟨g, i, none⟩) (by show w.heap.size ≤ g; omega) (.int .i64 0))
         clear hsd HOw HBz HW hxe hxb
         go_wp2_with fail
         go_roundw
         case rel => exact ⟨i + 1, by omega, by go_num, HT2.out, HS1.out, HS2.out, HS3.out⟩
         case measure => simp [intOf]; omega
        ·skip
         have hxb2 : (x == 2 * (N : Int) + 1) = false := by simpa using hxe
         have hiN : ((i : Int) == (N : Int)) = false := by simp; omega
         have HCi := Lib.hid (cho_inc Hcho.out hlt HTk.out (by rw [Hx.out]; exact hxe))
         have hsd := OL.stored HOw.out Hlen.out.symm i (x + 1)
         rw [Hx.out] at HCi
         have HS1 := Lib.hid hsd.1
         have HS2 := Lib.hid ((st1k_ne (w := wd) (b := g) (i := i) (c := w.heap.size) (.int .i64 (x + 1)) (by omega)).trans HBz.out)
         have HS3 := Lib.hid (HW.out.setCell (p := ⟨g, i, none⟩) (by show w.heap.size ≤ g; omega) (.int .i64 (x + 1)))
         have HM3 := Lib.hid (show Mn (fun y => ∃ ch', Cho N ch' ∧ vl (2 * N + 2) ch' < vl (2 * N + 2) ((List.replicate i (0 : Int) ++ chl.drop i).set i (x + 1)) ∧ CorOk N xs ch' ∧ y = cS N xs c rs (cornV N xs ch') N) (a, true) by rw [HCi.out.2]; exact HMn2.out)
         have HMe := Lib.hid (show ((2 * (N : Int) + 2) ^ N - vl (2 * N + 2) (rdI (wd.setCell ⟨g, i, none⟩ (.int .i64 (x + 1))) g N)).toNat < ((2 * (N : Int) + 2) ^ N - vl (2 * N + 2) (rdI wa g N)).toNat by
          rw [HRd.out, rd_own HS1.out (by rw [List.length_set]; exact Hlen.out), HCi.out.2]
          have q := vl_lt (M := 2 * N + 2) (by omega) chl Hcho.out.2
          rw [Hcho.out.1] at q
          omega)
         clear hsd HOw HBz HW hxe
         go_wp2_with fail
         go_roundw
         case rel => exact ⟨_, a, true, HCi.out.1, rfl, rfl, HS1.out, HM3.out, HS2.out, HS3.out⟩
         case measure => exact HMe.out
      ·skip
       have hti : decide ((i : Int) < (N : Int)) = false := by simp; omega
       obtain rfl : N = i := by omega
       go_upto_region 12 with fail
       go_cut [56] (fun s wx => s = .bool false ∧ wx = wd.drew)
       case first =>
        refine wp_region_noPanic ?_
        refine wp_region_held_drew (S := (fun w' => w'.cell? ⟨w.heap.size, 0, none⟩ = some (.int .i64 N))) (by kernel_rfl) z0 (fun hHeld => ?_)
        refine wpAnyH_take (i := 0) (v := ?_) rfl (by kernel_rfl) (by kernel_rfl) (by kernel_rfl) (fun _ _ _ h => h) (Or.inl ⟨by rfl, ?_⟩) (by assumption) ?_
        rotate_left
        ·intro w hSw; (try dsimp only at hSw); go_simp; (try with_reducible rfl)
        try simp only [Act.put, List.getElem_toArray, List.getElem_cons_zero, List.setIfInBounds_toArray, List.set_cons_zero, List.set_cons_succ]
        refine wpAnyH_take (i := 1) (v := ?_) rfl (by kernel_rfl) (by kernel_rfl) (by kernel_rfl) (fun _ _ _ h => h) (Or.inl ⟨by rfl, ?_⟩) (by assumption) ?_
        rotate_left
        ·intro w hSw; (try dsimp only at hSw); go_simp; (try with_reducible rfl)
        try simp only [Act.put, List.getElem_toArray, List.getElem_cons_zero, List.getElem_cons_succ, List.setIfInBounds_toArray, List.set_cons_zero, List.set_cons_succ]
        refine wpAnyH_take (i := 2) (v := ?_) rfl (by kernel_rfl) (by kernel_rfl) (by kernel_rfl) (fun _ _ _ h => h) (Or.inl ⟨by rfl, ?_⟩) (by assumption) ?_
        rotate_left
        ·intro w hSw; (try dsimp only at hSw); go_simp; (try with_reducible rfl)
        try simp only [Act.put, List.getElem_toArray, List.getElem_cons_zero, List.getElem_cons_succ, List.setIfInBounds_toArray, List.set_cons_zero, List.set_cons_succ]
        refine wpAnyH_take (i := 3) (v := ?_) rfl (by kernel_rfl) (by kernel_rfl) (by kernel_rfl) (fun _ _ _ h => h) (Or.inl ⟨by rfl, ?_⟩) (by assumption) ?_
        rotate_left
        ·intro w hSw; (try dsimp only at hSw); go_simp; (try with_reducible rfl)
        try simp only [Act.put, List.getElem_toArray, List.getElem_cons_zero, List.getElem_cons_succ, List.setIfInBounds_toArray, List.set_cons_zero, List.set_cons_succ]
        try simp only [hti]
        refine wpAnyH_take (i := 4) (v := ?_) rfl (by kernel_rfl) (by kernel_rfl) (by kernel_rfl) (fun _ _ _ h => h) (Or.inl ⟨by rfl, ?_⟩) (by assumption) ?_
        rotate_left
        ·intro w hSw; (try dsimp only at hSw); go_simp; (try with_reducible rfl)
        try simp only [Act.put, List.getElem_toArray, List.getElem_cons_zero, List.getElem_cons_succ, List.setIfInBounds_toArray, List.set_cons_zero, List.set_cons_succ]
        refine wpAnyH_take (i := 5) rfl (by kernel_rfl) (by kernel_rfl) (by kernel_rfl) (fun _ _ _ h => h) (Or.inr ⟨by rfl, rfl⟩) (by assumption) ?_
        try simp only [Act.put, List.getElem_toArray, List.getElem_cons_zero, List.getElem_cons_succ, List.setIfInBounds_toArray, List.set_cons_zero, List.set_cons_succ]
        refine wpAnyH_take (i := 6) rfl (by kernel_rfl) (by kernel_rfl) (by kernel_rfl) (fun _ _ _ h => h) (Or.inr ⟨by rfl, rfl⟩) (by assumption) ?_
        try simp only [Act.put, List.getElem_toArray, List.getElem_cons_zero, List.getElem_cons_succ, List.setIfInBounds_toArray, List.set_cons_zero, List.set_cons_succ]
        refine wpAnyH_take (i := 7) rfl (by kernel_rfl) (by kernel_rfl) (by kernel_rfl) (fun _ _ _ h => h) (Or.inr ⟨by rfl, rfl⟩) (by assumption) ?_
        try simp only [Act.put, List.getElem_toArray, List.getElem_cons_zero, List.getElem_cons_succ, List.setIfInBounds_toArray, List.set_cons_zero, List.set_cons_succ]
        refine wpAnyH_take (i := 8) rfl (by kernel_rfl) (by kernel_rfl) (by kernel_rfl) (fun _ _ _ h => h) (Or.inr ⟨by rfl, rfl⟩) (by assumption) ?_
        try simp only [Act.put, List.getElem_toArray, List.getElem_cons_zero, List.getElem_cons_succ, List.setIfInBounds_toArray, List.set_cons_zero, List.set_cons_succ]
        refine wpAnyH_take (i := 9) rfl (by kernel_rfl) (by kernel_rfl) (by kernel_rfl) (fun _ _ _ h => h) (Or.inr ⟨by rfl, rfl⟩) (by assumption) ?_
        try simp only [Act.put, List.getElem_toArray, List.getElem_cons_zero, List.getElem_cons_succ, List.setIfInBounds_toArray, List.set_cons_zero, List.set_cons_succ]
        refine wpAnyH_take (i := 10) rfl (by kernel_rfl) (by kernel_rfl) (by kernel_rfl) (fun _ _ _ h => h) (Or.inr ⟨by rfl, rfl⟩) (by assumption) ?_
        try simp only [Act.put, List.getElem_toArray, List.getElem_cons_zero, List.getElem_cons_succ, List.setIfInBounds_toArray, List.set_cons_zero, List.set_cons_succ]
        refine wpAnyH_take (i := 11) rfl (by kernel_rfl) (by kernel_rfl) (by kernel_rfl) (fun _ _ _ h => h) (Or.inr ⟨by rfl, rfl⟩) (by assumption) ?_
        try simp only [Act.put, List.getElem_toArray, List.getElem_cons_zero, List.getElem_cons_succ, List.setIfInBounds_toArray, List.set_cons_zero, List.set_cons_succ]
        refine wpAnyH_take (i := 12) rfl (by kernel_rfl) (by kernel_rfl) (by kernel_rfl) (fun _ _ _ h => h) (Or.inr ⟨by rfl, rfl⟩) (by assumption) ?_
        try simp only [Act.put, List.getElem_toArray, List.getElem_cons_zero, List.getElem_cons_succ, List.setIfInBounds_toArray, List.set_cons_zero, List.set_cons_succ]
        refine wpAnyH_take (i := 13) rfl (by kernel_rfl) (by kernel_rfl) (by kernel_rfl) (fun _ _ _ h => h) (Or.inr ⟨by rfl, rfl⟩) (by assumption) ?_
        try simp only [Act.put, List.getElem_toArray, List.getElem_cons_zero, List.getElem_cons_succ, List.setIfInBounds_toArray, List.set_cons_zero, List.set_cons_succ]
        refine wpAnyH_take (i := 14) (v := ?_) rfl (by kernel_rfl) (by kernel_rfl) (by kernel_rfl) (fun _ _ _ h => h) (Or.inl ⟨by rfl, ?_⟩) (by assumption) ?_
        rotate_left
        ·intro w hSw; (try dsimp only at hSw); go_simp; (try with_reducible rfl)
        try simp only [Act.put, List.getElem_toArray, List.getElem_cons_zero, List.getElem_cons_succ, List.setIfInBounds_toArray, List.set_cons_zero, List.set_cons_succ]
        refine wpAnyH_done (by kernel_rfl) ?_ _
        refine NoPanic.normal ?_
        go_wp2_with fail
        go_meet
        exact ⟨by first | rfl | simp, rfl⟩
       case rest =>
        obtain ⟨rfl, hwc⟩ := hcut
        subst hwc
        have h3 : Below w.heap.size w wd.drew := HW.out.drew
        have z1 : wd.drew.cell? ⟨w.heap.size, 0, none⟩ = some (.int .i64 N) := z0
        clear z0 HBz HOw HW
        generalize wd.drew = wd at *
        have HW := Lib.hid h3
        clear h3
        have hNN : ((N : Int) == (N : Int)) = true := by simp
        have HAll := Lib.hid (corners_all (c := c) hok Hnf.out (r := (a, true)) (HMn2.out.congr (fun y => ⟨fun ⟨ch', p, _, q, r⟩ => ⟨ch', p, q, r⟩, fun ⟨ch', p, q, r⟩ => ⟨ch', p, cho_last Hcho.out HTk.out ch' p, q, r⟩⟩)))
        go_wp2_with fail
        go_ret2
        exact ⟨LeR.mk ⟨fun h => HAll.out.2.1 h.2, fun h => ⟨(by first | rfl | exact HAll.out.1), HAll.out.2.2 h⟩⟩, HW.out⟩
  ·skip
   have HMn2 := Lib.hid (show Mn (fun y => ∃ ch', Cho N ch' ∧ vl (2 * N + 2) ch' < vl (2 * N + 2) chl + 1 ∧ CorOk N xs ch' ∧ y = cS N xs c rs (cornV N xs ch') N) (a, f) by
    have q := cho_next Hcho.out HMn.out
    rw [if_neg hno] at q
    exact q)
   clear HMn hno
   go_upto_region 11 with fail
   have hN10 : N ≤ 10 := by omega
   go_wp2_with fail
   go_loopw [14] (fun s wr2 => ∃ i : Nat, i ≤ N ∧ s = .int .i64 i ∧ chl.take i = List.replicate i (2 * (N : Int) + 1) ∧ OL 3 (w.heap.size + 1) wr2 (.slice (some ⟨g, 0, none⟩) N N) (List.replicate i 0 ++ chl.drop i) ∧ wr2.heap[w.heap.size]? = some (.cells #[.int .i64 N, .slice ao xs.length cap] 32 (0, 0)) ∧ Below w.heap.size w wr2) (fun s _ => N - (intOf s).toNat)
   case atStart => exact ⟨0, Nat.zero_le _, rfl, by rw [List.take_zero]; rfl, by rw [List.drop_zero]; exact HOw3.out, HBz3.out, HW3.out⟩
   case round =>
    clear HOw3 HBz3 HW3
    obtain ⟨i, hi, rfl, htake, hown, h1, h2⟩ := hrel
    have HTk := Lib.hid htake
    have HOw := Lib.hid hown
    have HBz := Lib.hid h1
    have HW := Lib.hid h2
    clear htake hown h1 h2
    obtain ⟨wd, hwd⟩ : ∃ V, V = wr := ⟨_, rfl⟩
    subst hwd
    have hll := Hcho.out.1
    have z0 : wd.cell? ⟨w.heap.size, 0, none⟩ = some (.int .i64 N) := cell_of_row _ (w.heap.size) 0 _ _ _ HBz.out
    by_cases hlt : i < N
    ·skip
     have hti : decide ((i : Int) < (N : Int)) = true := by simp; omega
     obtain ⟨x, hx⟩ : ∃ x, gi chl i = x := ⟨_, rfl⟩
     have hlen : (List.replicate i (0 : Int) ++ chl.drop i).length = N := by simp; omega
     have Hlen := Lib.hid hlen
     have Hll := Lib.hid hll
     clear hll
     have c0 : wd.cell? ⟨g, i, none⟩ = some (.int .i64 x) := by
      rw [← hx, ← gi_app (l := chl) (Nat.le_refl i)]
      exact own_cell HOw.out (by rw [hlen]; exact hlt)
     have f0 : wd.frozen? ⟨g, i, none⟩ = false := own_fro HOw.out (by rw [hlen]; exact hlt)
     have hxb := Hcho.out.2 (gi chl i) (by rw [gi_of (by have := Hll.out; omega)]; exact List.getElem_mem _)
     rw [hx] at hxb
     have Hx := Lib.hid hx
     have k0 : (i : Int) < N := by omega
     have k1 : (0 : Int) ≤ (i : Int) := by omega
     have Hw2 := Lib.hid (show IntKind.i64.wrap (2 * (N : Int)) = 2 * (N : Int) from wr_id (by omega) (by omega))
     have Hw3 := Lib.hid (show IntKind.i64.wrap (2 * (N : Int) + 1) = 2 * (N : Int) + 1 from wr_id (by omega) (by omega))
     clear hx hlen f0
     go_upto_region 12 with fail
     go_cut [56] (fun s wx => s = .bool (x == 2 * (N : Int) + 1) ∧ wx = wd.drew)
     case first =>
      refine wp_region_noPanic ?_
      refine wp_region_held_drew (S := (fun w' => w'.cell? ⟨w.heap.size, 0, none⟩ = some (.int .i64 N) ∧ w'.cell? ⟨g, i, none⟩ = some (.int .i64 x))) (by kernel_rfl) ⟨z0, c0⟩ (fun hHeld => ?_)
      refine wpAnyH_take (i := 0) (v := ?_) rfl (by kernel_rfl) (by kernel_rfl) (by kernel_rfl) (fun _ _ _ h => h) (Or.inl ⟨by rfl, ?_⟩) (by assumption) ?_
      rotate_left
      ·intro w hSw; (try dsimp only at hSw); go_simp; (try with_reducible rfl)
      try simp only [Act.put, List.getElem_toArray, List.getElem_cons_zero, List.setIfInBounds_toArray, List.set_cons_zero, List.set_cons_succ]
      refine wpAnyH_take (i := 1) (v := ?_) rfl (by kernel_rfl) (by kernel_rfl) (by kernel_rfl) (fun _ _ _ h => h) (Or.inl ⟨by rfl, ?_⟩) (by assumption) ?_
      rotate_left
      ·intro w hSw; (try dsimp only at hSw); go_simp; (try with_reducible rfl)
      try simp only [Act.put, List.getElem_toArray, List.getElem_cons_zero, List.getElem_cons_succ, List.setIfInBounds_toArray, List.set_cons_zero, List.set_cons_succ]
      refine wpAnyH_take (i := 2) (v := ?_) rfl (by kernel_rfl) (by kernel_rfl) (by kernel_rfl) (fun _ _ _ h => h) (Or.inl ⟨by rfl, ?_⟩) (by assumption) ?_
      rotate_left
      ·intro w hSw; (try dsimp only at hSw); go_simp; (try with_reducible rfl)
      try simp only [Act.put, List.getElem_toArray, List.getElem_cons_zero, List.getElem_cons_succ, List.setIfInBounds_toArray, List.set_cons_zero, List.set_cons_succ]
      refine wpAnyH_take (i := 3) (v := ?_) rfl (by kernel_rfl) (by kernel_rfl) (by kernel_rfl) (fun _ _ _ h => h) (Or.inl ⟨by rfl, ?_⟩) (by assumption) ?_
      rotate_left
      ·intro w hSw; (try dsimp only at hSw); go_simp; (try with_reducible rfl)
      try simp only [Act.put, List.getElem_toArray, List.getElem_cons_zero, List.getElem_cons_succ, List.setIfInBounds_toArray, List.set_cons_zero, List.set_cons_succ]
      try simp only [hti]
      refine wpAnyH_take (i := 4) (v := ?_) rfl (by kernel_rfl) (by kernel_rfl) (by kernel_rfl) (fun _ _ _ h => h) (Or.inl ⟨by rfl, ?_⟩) (by assumption) ?_
      rotate_left
      ·intro w hSw; (try dsimp only at hSw); go_simp; (try with_reducible rfl)
      try simp only [Act.put, List.getElem_toArray, List.getElem_cons_zero, List.getElem_cons_succ, List.setIfInBounds_toArray, List.set_cons_zero, List.set_cons_succ]
      refine wpAnyH_take (i := 5) (v := ?_) rfl (by kernel_rfl) (by kernel_rfl) (by kernel_rfl) (fun _ _ _ h => h) (Or.inl ⟨by rfl, ?_⟩) (by assumption) ?_
      rotate_left
      ·intro w hSw; (try dsimp only at hSw); go_simp; (try with_reducible rfl)
      try simp only [Act.put, List.getElem_toArray, List.getElem_cons_zero, List.getElem_cons_succ, List.setIfInBounds_toArray, List.set_cons_zero, List.set_cons_succ]
      refine wpAnyH_take (i := 6) (v := ?_) rfl (by kernel_rfl) (by kernel_rfl) (by kernel_rfl) (fun _ _ _ h => h) (Or.inl ⟨by rfl, ?_⟩) (by assumption) ?_
      rotate_left
      ·intro w hSw; (try dsimp only at hSw); go_simp; (try with_reducible rfl)
      try simp only [Act.put, List.getElem_toArray, List.getElem_cons_zero, List.getElem_cons_succ, List.setIfInBounds_toArray, List.set_cons_zero, List.set_cons_succ]
      refine wpAnyH_take (i := 7) (v := ?_) rfl (by kernel_rfl) (by kernel_rfl) (by kernel_rfl) (fun _ _ _ h => h) (Or.inl ⟨by rfl, ?_⟩) (by assumption) ?_
      rotate_left
      ·intro w hSw; (try dsimp only at hSw); go_simp; (try with_reducible rfl)
      try simp only [Act.put, List.getElem_toArray, List.getElem_cons_zero, List.getElem_cons_succ, List.setIfInBounds_toArray, List.set_cons_zero, List.set_cons_succ]
      refine wpAnyH_take (i := 8) (v := ?_) rfl (by kernel_rfl) (by kernel_rfl) (by kernel_rfl) (fun _ _ _ h => h) (Or.inl ⟨by rfl, ?_⟩) (by assumption) ?_
      rotate_left
      ·intro w hSw; (try dsimp only at hSw); go_simp; (try with_reducible rfl)
      try simp only [Act.put, List.getElem_toArray, List.getElem_cons_zero, List.getElem_cons_succ, List.setIfInBounds_toArray, List.set_cons_zero, List.set_cons_succ]
      refine wpAnyH_take (i := 9) (v := ?_) rfl (by kernel_rfl) (by kernel_rfl) (by kernel_rfl) (fun _ _ _ h => h) (Or.inl ⟨by rfl, ?_⟩) (by assumption) ?_
      rotate_left
      ·intro w hSw; (try dsimp only at hSw); go_simp; (try with_reducible rfl)
      try simp only [Act.put, List.getElem_toArray, List.getElem_cons_zero, List.getElem_cons_succ, List.setIfInBounds_toArray, List.set_cons_zero, List.set_cons_succ]
      refine wpAnyH_take (i := 10) (v := ?_) rfl (by kernel_rfl) (by kernel_rfl) (by kernel_rfl) (fun _ _ _ h => h) (Or.inl ⟨by rfl, ?_⟩) (by assumption) ?_
      rotate_left
      ·intro w hSw; (try dsimp only at hSw); go_simp; (try with_reducible rfl)
      try simp only [Act.put, List.getElem_toArray, List.getElem_cons_zero, List.getElem_cons_succ, List.setIfInBounds_toArray, List.set_cons_zero, List.set_cons_succ]
      refine wpAnyH_take (i := 11) (v := ?_) rfl (by kernel_rfl) (by kernel_rfl) (by kernel_rfl) (fun _ _ _ h => h) (Or.inl ⟨by rfl, ?_⟩) (by assumption) ?_
      rotate_left
      ·intro w hSw; (try dsimp only at hSw); go_simp; (try with_reducible rfl)
      try simp only [Act.put, List.getElem_toArray, List.getElem_cons_zero, List.getElem_cons_succ, List.setIfInBounds_toArray, List.set_cons_zero, List.set_cons_succ]
      try simp only [Hw2.out, Hw3.out]
      refine wpAnyH_take (i := 12) (v := ?_) rfl (by kernel_rfl) (by kernel_rfl) (by kernel_rfl) (fun _ _ _ h => h) (Or.inl ⟨by rfl, ?_⟩) (by assumption) ?_
      rotate_left
      ·intro w hSw; (try dsimp only at hSw); go_simp; (try with_reducible rfl)
      try simp only [Act.put, List.getElem_toArray, List.getElem_cons_zero, List.getElem_cons_succ, List.setIfInBounds_toArray, List.set_cons_zero, List.set_cons_succ]
      try simp only [Hw2.out, Hw3.out]
      refine wpAnyH_take (i := 13) (v := ?_) rfl (by kernel_rfl) (by kernel_rfl) (by kernel_rfl) (fun _ _ _ h => h) (Or.inl ⟨by rfl, ?_⟩) (by assumption) ?_
      rotate_left
      ·intro w hSw; (try dsimp only at hSw); go_simp; (try with_reducible rfl)
      try simp only [Act.put, List.getElem_toArray, List.getElem_cons_zero, List.getElem_cons_succ, List.setIfInBounds_toArray, List.set_cons_zero, List.set_cons_succ]
      refine wpAnyH_take (i := 14) (v := ?_) rfl (by kernel_rfl) (by kernel_rfl) (by kernel_rfl) (fun _ _ _ h => h) (Or.inl ⟨by rfl, ?_⟩) (by assumption) ?_
      rotate_left
      ·intro w hSw; (try dsimp only at hSw); go_simp; (try with_reducible rfl)
      try simp only [Act.put, List.getElem_toArray, List.getElem_cons_zero, List.getElem_cons_succ, List.setIfInBounds_toArray, List.set_cons_zero, List.set_cons_succ]
      refine wpAnyH_done (by kernel_rfl) ?_ _
      refine NoPanic.normal ?_
      go_wp2_with fail
      go_meet
      exact ⟨by first | rfl | simp, rfl⟩
     case rest =>
      obtain ⟨rfl, hwc⟩ := hcut
      subst hwc
      have h1 : wd.drew.heap[w.heap.size]? = some (.cells #[.int .i64 N, .slice ao xs.length cap] 32 (0, 0)) := HBz.out
      have h2 : OL 3 (w.heap.size + 1) wd.drew (.slice (some ⟨g, 0, none⟩) N N) (List.replicate i 0 ++ chl.drop i) := OL.drew HOw.out
      have h3 : Below w.heap.size w wd.drew := HW.out.drew
      clear z0 HBz HOw HW
      try clear c0
      generalize wd.drew = wd at *
      have HBz := Lib.hid h1
      have HOw := Lib.hid h2
      have HW := Lib.hid h3
      clear h1 h2 h3
      have z0 : wd.cell? ⟨w.heap.size, 0, none⟩ = some (.int .i64 N) := cell_of_row _ (w.heap.size) 0 _ _ _ HBz.out
      have c0 : wd.cell? ⟨g, i, none⟩ = some (.int .i64 x) := by
       rw [← Hx.out, ← gi_app (l := chl) (Nat.le_refl i)]
       exact own_cell HOw.out (by rw [Hlen.out]; exact hlt)
      have f0 : wd.frozen? ⟨g, i, none⟩ = false := own_fro HOw.out (by rw [Hlen.out]; exact hlt)
      by_cases hxe : x = 2 * (N : Int) + 1
      ·skip
       have hxb2 : (x == 2 * (N : Int) + 1) = true := by simpa using hxe
       have HT2 := Lib.hid (rep_next HTk.out (by have := Hll.out; omega) (Hx.out.trans hxe))
       have hsd := OL.stored HOw.out Hlen.out.symm i 0
       have HS1 := Lib.hid (show OL 3 (w.heap.size + 1) _ (.slice (some ⟨g, 0, none⟩) N N) (List.replicate (i + 1) 0 ++ chl.drop (i + 1)) by
        have q := hsd.1
        rw [zero_next (by have := Hll.out; omega)] at q
        exact q)
       have HS2 := Lib.hid ((st1k_ne (w := wd) (b := g) (i := i) (c := w.heap.size) (.int .i64 0) (by omega)).trans HBz.out)
       have HS3 := Lib.hid (HW.out.setCell (p := ⟨g, i, none⟩) (by show w.heap.size ≤ g; omega) (.int .i64 0))
       clear hsd HOw HBz HW hxe hxb
       go_wp2_with fail
       go_roundw
       case rel => exact ⟨i + 1, by omega, by go_num, HT2.out, HS1.out, HS2.out, HS3.out⟩
       case measure => simp [intOf]; omega
      ·skip
       have hxb2 : (x == 2 * (N : Int) + 1) = false := by simpa using hxe
       have hiN : ((i : Int) == (N : Int)) = false := by simp; omega
       have HCi := Lib.hid (cho_inc Hcho.out hlt HTk.out (by rw [Hx.out]; exact hxe))
       have hsd := OL.stored HOw.out Hlen.out.symm i (x + 1)
       rw [Hx.out] at HCi
       have HS1 := Lib.hid hsd.1
       have HS2 := Lib.hid ((st1k_ne (w := wd) (b := g) (i := i) (c := w.heap.size) (.int .i64 (x + 1)) (by omega)).trans HBz.out)
       have HS3 := Lib.hid (HW.out.setCell (p := ⟨g, i, none⟩) (by show w.heap.size ≤ g; omega) (.int .i64 (x + 1)))
       have HM3 := Lib.hid (show Mn (fun y => ∃ ch', Cho N ch' ∧ vl (2 * N + 2) ch' < vl (2 * N + 2) ((List.replicate i (0 : Int) ++ chl.drop i).set i (x + 1)) ∧ CorOk N xs ch' ∧ y = cS N xs c rs (cornV N xs ch') N) (a, f) by rw [HCi.out.2]; exact HMn2.out)
       have HMe := Lib.hid (show ((2 * (N : Int) + 2) ^ N - vl (2 * N + 2) (rdI (wd.setCell ⟨g, i, none⟩ (.int .i64 (x + 1))) g N)).toNat < ((2 * (N : Int) + 2) ^ N - vl (2 * N + 2) (rdI wa g N)).toNat by
        rw [HRd.out, rd_own HS1.out (by rw [List.length_set]; exact Hlen.out), HCi.out.2]
        have q := vl_lt (M := 2 * N + 2) (by omega) chl Hcho.out.2
        rw [Hcho.out.1] at q
        omega)
       clear hsd HOw HBz HW hxe
       go_wp2_with fail
       go_roundw
       case rel => exact ⟨_, a, f, HCi.out.1, rfl, rfl, HS1.out, HM3.out, HS2.out, HS3.out⟩
       case measure => exact HMe.out
    ·skip
     have hti : decide ((i : Int) < (N : Int)) = false := by simp; omega
     obtain rfl : N = i := by omega
     go_upto_region 12 with fail
     go_cut [56] (fun s wx => s = .bool false ∧ wx = wd.drew)
     case first =>
      refine wp_region_noPanic ?_
      refine wp_region_held_drew (S := (fun w' => w'.cell? ⟨w.heap.size, 0, none⟩ = some (.int .i64 N))) (by kernel_rfl) z0 (fun hHeld => ?_)
      refine wpAnyH_take (i := 0) (v := ?_) rfl (by kernel_rfl) (by kernel_rfl) (by kernel_rfl) (fun _ _ _ h => h) (Or.inl ⟨by rfl, ?_⟩) (by assumption) ?_
      rotate_left
      ·intro w hSw; (try dsimp only at hSw); go_simp; (try with_reducible rfl)
      try simp only [Act.put, List.getElem_toArray, List.getElem_cons_zero, List.setIfInBounds_toArray, List.set_cons_zero, List.set_cons_succ]
      refine wpAnyH_take (i := 1) (v := ?_) rfl (by kernel_rfl) (by kernel_rfl) (by kernel_rfl) (fun _ _ _ h => h) (Or.inl ⟨by rfl, ?_⟩) (by assumption) ?_
      rotate_left
      ·intro w hSw; (try dsimp only at hSw); go_simp; (try with_reducible rfl)
      try simp only [Act.put, List.getElem_toArray, List.getElem_cons_zero, List.getElem_cons_succ, List.setIfInBounds_toArray, List.set_cons_zero, List.set_cons_succ]
      refine wpAnyH_take (i := 2) (v := ?_) rfl (by kernel_rfl) (by kernel_rfl) (by kernel_rfl) (fun _ _ _ h => h) (Or.inl ⟨by rfl, ?_⟩) (by assumption) ?_
      rotate_left
      ·intro w hSw; (try dsimp only at hSw); go_simp; (try with_reducible rfl)
      try simp only [Act.put, List.getElem_toArray, List.getElem_cons_zero, List.getElem_cons_succ, List.setIfInBounds_toArray, List.set_cons_zero, List.set_cons_succ]
      refine wpAnyH_take (i := 3) (v := ?_) rfl (by kernel_rfl) (by kernel_rfl) (by kernel_rfl) (fun _ _ _ h => h) (Or.inl ⟨by rfl, ?_⟩) (by assumption) ?_
      rotate_left
      ·intro w hSw; (try dsimp only at hSw); go_simp; (try with_reducible rfl)
      try simp only [Act.put, List.getElem_toArray, List.getElem_cons_zero, List.getElem_cons_succ, List.setIfInBounds_toArray, List.set_cons_zero, List.set_cons_succ]
      try simp only [hti]
      refine wpAnyH_take (i := 4) (v := ?_) rfl (by kernel_rfl) (by kernel_rfl) (by kernel_rfl) (fun _ _ _ h => h) (Or.inl ⟨by rfl, ?_⟩) (by assumption) ?_
      rotate_left
      ·intro w hSw; (try dsimp only at hSw); go_simp; (try with_reducible rfl)
      try simp only [Act.put, List.getElem_toArray, List.getElem_cons_zero, List.getElem_cons_succ, List.setIfInBounds_toArray, List.set_cons_zero, List.set_cons_succ]
      refine wpAnyH_take (i := 5) rfl (by kernel_rfl) (by kernel_rfl) (by kernel_rfl) (fun _ _ _ h => h) (Or.inr ⟨by rfl, rfl⟩) (by assumption) ?_
      try simp only [Act.put, List.getElem_toArray, List.getElem_cons_zero, List.getElem_cons_succ, List.setIfInBounds_toArray, List.set_cons_zero, List.set_cons_succ]
      refine wpAnyH_take (i := 6) rfl (by kernel_rfl) (by kernel_rfl) (by kernel_rfl) (fun _ _ _ h => h) (Or.inr ⟨by rfl, rfl⟩) (by assumption) ?_
      try simp only [Act.put, List.getElem_toArray, List.getElem_cons_zero, List.getElem_cons_succ, List.setIfInBounds_toArray, List.set_cons_zero, List.set_cons_succ]
      refine wpAnyH_take (i := 7) rfl (by kernel_rfl) (by kernel_rfl) (by kernel_rfl) (fun _ _ _ h => h) (Or.inr ⟨by rfl, rfl⟩) (by assumption) ?_
      try simp only [Act.put, List.getElem_toArray, List.getElem_cons_zero, List.getElem_cons_succ, List.setIfInBounds_toArray, List.set_cons_zero, List.set_cons_succ]
      refine wpAnyH_take (i := 8) rfl (by kernel_rfl) (by kernel_rfl) (by kernel_rfl) (fun _ _ _ h => h) (Or.inr ⟨by rfl, rfl⟩) (by assumption) ?_
      try simp only [Act.put, List.getElem_toArray, List.getElem_cons_zero, List.getElem_cons_succ, List.setIfInBounds_toArray, List.set_cons_zero, List.set_cons_succ]
      refine wpAnyH_take (i := 9) rfl (by kernel_rfl) (by kernel_rfl) (by kernel_rfl) (fun _ _ _ h => h) (Or.inr ⟨by rfl, rfl⟩) (by assumption) ?_
      try simp only [Act.put, List.getElem_toArray, List.getElem_cons_zero, List.getElem_cons_succ, List.setIfInBounds_toArray, List.set_cons_zero, List.set_cons_succ]
      refine wpAnyH_take (i := 10) rfl (by kernel_rfl) (by kernel_rfl) (by kernel_rfl) (fun _ _ _ h => h) (Or.inr ⟨by rfl, rfl⟩) (by assumption) ?_
      try simp only [Act.put, List.getElem_toArray, List.getElem_cons_zero, List.getElem_cons_succ, List.setIfInBounds_toArray, List.set_cons_zero, List.set_cons_succ]
      refine wpAnyH_take (i := 11) rfl (by kernel_rfl) (by kernel_rfl) (by kernel_rfl) (fun _ _ _ h => h) (Or.inr ⟨by rfl, rfl⟩) (by assumption) ?_
      try simp only [Act.put, List.getElem_toArray, List.getElem_cons_zero, List.getElem_cons_succ, List.setIfInBounds_toArray, List.set_cons_zero, List.set_cons_succ]
      refine wpAnyH_take (i := 12) rfl (by kernel_rfl) (by kernel_rfl) (by kernel_rfl) (fun _ _ _ h => h) (Or.inr ⟨by rfl, rfl⟩) (by assumption) ?_
      try simp only [Act.put, List.getElem_toArray, List.getElem_cons_zero, List.getElem_cons_succ, List.setIfInBounds_toArray, List.set_cons_zero, List.set_cons_succ]
      refine wpAnyH_take (i := 13) rfl (by kernel_rfl) (by kernel_rfl) (by kernel_rfl) (fun _ _ _ h => h) (Or.inr ⟨by rfl, rfl⟩) (by assumption) ?_
      try simp only [Act.put, List.getElem_toArray, List.getElem_cons_zero, List.getElem_cons_succ, List.setIfInBounds_toArray, List.set_cons_zero, List.set_cons_succ]
      refine wpAnyH_take (i := 14) (v := ?_) rfl (by kernel_rfl) (by kernel_rfl) (by kernel_rfl) (fun _ _ _ h => h) (Or.inl ⟨by rfl, ?_⟩) (by assumption) ?_
      rotate_left
      ·intro w hSw; (try dsimp only at hSw); go_simp; (try with_reducible rfl)
      try simp only [Act.put, List.getElem_toArray, List.getElem_cons_zero, List.getElem_cons_succ, List.setIfInBounds_toArray, List.set_cons_zero, List.set_cons_succ]
      refine wpAnyH_done (by kernel_rfl) ?_ _
      refine NoPanic.normal ?_
      go_wp2_with fail
      go_meet
      exact ⟨by first | rfl | simp, rfl⟩
     case rest =>
      obtain ⟨rfl, hwc⟩ := hcut
      subst hwc
      have h3 : Below w.heap.size w wd.drew := HW.out.drew
      have z1 : wd.drew.cell? ⟨w.heap.size, 0, none⟩ = some (.int .i64 N) := z0
      clear z0 HBz HOw HW
      generalize wd.drew = wd at *
      have HW := Lib.hid h3
      clear h3
      have hNN : ((N : Int) == (N : Int)) = true := by simp
      have HAll := Lib.hid (corners_all (c := c) hok Hnf.out (r := (a, f)) (HMn2.out.congr (fun y => ⟨fun ⟨ch', p, _, q, r⟩ => ⟨ch', p, q, r⟩, fun ⟨ch', p, q, r⟩ => ⟨ch', p, cho_last Hcho.out HTk.out ch' p, q, r⟩⟩)))
      go_wp2_with fail
      go_ret2
      exact ⟨LeR.mk ⟨fun h => HAll.out.2.1 h.2, fun h => ⟨(by first | rfl | exact HAll.out.1), HAll.out.2.2 h⟩⟩, HW.out⟩
end Go.Proofs.YtfphlpglgcmljaaGreat
