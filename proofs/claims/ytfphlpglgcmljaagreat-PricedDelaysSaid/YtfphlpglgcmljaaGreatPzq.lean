/- The reference's part. -/
import Derived.Test.YtfphlpglgcmljaaGreatPzo
import Derived.Test.YtfphlpglgcmljaaGreatPand2
namespace Go.Proofs.YtfphlpglgcmljaaGreat
open Go.RowKit
set_option linter.unusedVariables false

theorem own_set4 {e base size b : Nat} {w : World} {v : Value} {n : Nat} {xs : List Value} (h : w.ownsRow base e size v n xs) (hb : b < base) (u0 u1 u2 u3 : Value) : ((((w.setCell ⟨b, 0, none⟩ u0).setCell ⟨b, 1, none⟩ u1).setCell ⟨b, 2, none⟩ u2).setCell ⟨b, 3, none⟩ u3).ownsRow base e size v n xs :=
  ownsRow_setCell_below (own_set3 h hb _ _ _) hb _
/-- The cost of the least corner of a part. -/
def cst0 (N : Nat) (xs : List Int) (c : Int) (rs zs : List Int) : Int := cstTo N xs c rs (fun j => lowF N zs j) N
def onC (N : Nat) (xs : List Int) (c : Int) (rs zs : List Int) (more : Int) (i : Nat) (at' : Int) : Int :=
  if 0 < i then IntKind.i64.wrap (cst0 N xs c rs zs + IntKind.i64.wrap (more * IntKind.i64.wrap (lowF N zs i - at'))) else cst0 N xs c rs zs
def onR (rs : List Int) (more : Int) (i : Nat) : List Int := if 0 < i then rs.set (i - 1) (IntKind.i64.wrap (gi rs (i - 1) + more)) else rs
/-- The priced zone on a part of a zone. -/
def onF (N : Nat) (xs : List Int) (c : Int) (rs zs : List Int) (more : Int) (i : Nat) (at' : Int) : Pv × Int := resF N zs (onC N xs c rs zs more i at') (onR rs more i)
theorem cst_R (N : Nat) (xs : List Int) (c : Int) (rs zs : List Int) : cstTo N xs c rs (fun j => gi (crR N zs N) (j - 1)) N = cst0 N xs c rs zs :=
  cstTo_congr N (fun j h1 h2 => by show gi (crR N zs N) (j - 1) = _; rw [crR_at (by omega), show j - 1 + 1 = j by omega])
theorem cst_P (N : Nat) (xs : List Int) (c : Int) (rs zs : List Int) : cstTo N xs c rs (fun j => gi (crTo N zs N) j) N = cst0 N xs c rs zs :=
  cstTo_congr N (fun j h1 h2 => by show gi (crTo N zs N) j = _; rw [crTo_at h2, if_pos ⟨h1, h2⟩])
set_option maxRecDepth 100000 in
set_option maxHeartbeats 8000000 in
theorem ref_part (N i : Nat) (c more at' : Int) (v rv zv : Value) (xs rs zs : List Int) (w : World) (hv : RL w.heap.size w v xs) (hr : RL w.heap.size w rv rs) (hz : RL w.heap.size w zv zs) (hok : OkZ N xs) (hokz : OkZ N zs) (hlr : rs.length = N) (hi : i ≤ N) :
    Calls Tryz.prog 67 #[.agg #[.int .i64 N, v, .int .i64 c, rv], .agg #[.int .i64 N, zv], .int .i64 more, .int .i64 i, .int .i64 at'] w fun e w' => PE zv w.heap.size (onF N xs c rs zs more i at') e w' ∧ Below w.heap.size w w' := by
  have hN : N ≤ 10 := by have := hok.hi; omega
  obtain ⟨ao, cap, rfl, hle, _⟩ := hv.open
  obtain ⟨aor, capr, rfl, hler, _⟩ := hr.open
  obtain ⟨ao2, cap2, rfl, hle2, _⟩ := hz.open
  have hloc := Loc.three w (.cells #[.int .i64 N, .slice ao xs.length cap, .int .i64 c, .slice aor rs.length capr] 35) (.cells #[.int .i64 N, .slice ao2 zs.length cap2] 32) (.cells #[.int .i64 0, .slice none 0 0, .int .i64 0, .slice none 0 0] 35) none
  have Hv0 := Lib.hid hv
  have Hr := Lib.hid hr
  have Hz := Lib.hid hz
  have HOK := Lib.hid hok
  have HOKZ := Lib.hid hokz
  have Hlr := Lib.hid hlr
  obtain ⟨i0, hi0, hz0, hz1, hz2⟩ := info_parts Tryz.infL64
  have Hi := Lib.hid hi0
  have Hz0 := Lib.hid hz0
  have Hz1 := Lib.hid hz1
  have Hz2 := Lib.hid hz2
  have HcR := Lib.hid (cst_R N xs c rs zs)
  clear hv hr hz hok hokz hlr hi0 hz0 hz1 hz2
  go_enter Tryz.func67, Tryz.ntmps67
  go_wp2_with fail
  refine (ref_corner N _ zs _ (Hz.out.keepb (below_grownBy hloc.grown)) HOKZ.out).mono ?_
  rintro e w1 ⟨⟨v1, rfl, hov⟩, hb1⟩
  have hloc1 := hloc.next (grownBy_below hb1 none) (fun _ h => by cases h)
  have hs1 : w.heap.size + 3 ≤ w1.heap.size := hloc1.size
  have e3 : (((w.alloc (.cells #[.int .i64 N, .slice ao xs.length cap, .int .i64 c, .slice aor rs.length capr] 35)).alloc (.cells #[.int .i64 N, .slice ao2 zs.length cap2] 32)).alloc (.cells #[.int .i64 0, .slice none 0 0, .int .i64 0, .slice none 0 0] 35)).heap.size = w.heap.size + 3 := by simp
  rw [e3] at hov
  have Hv1 := Lib.hid (OL.rl hov)
  have Hov := Lib.hid hov
  have z3' : True := trivial
  have z3 : (w1.alloc (.cells #[] 2)).cell? ⟨w.heap.size, 3, none⟩ = some (.slice aor rs.length capr) := keepb (hloc1.cell 0 rfl 3) ((Below.refl _ _).alloc (Nat.le_refl _) _)
  have Hv := Lib.hid (show RL w1.heap.size (w1.alloc (.cells #[] 2)) (.slice aor rs.length capr) rs from RS.keep (Hr.out.keepb (below_grownBy hloc1.grown)) ((Below.refl _ _).alloc (Nat.le_refl _) _))
  have Ho : Hid ((w1.alloc (.cells #[] 2)).ownsRow w1.heap.size 2 1 (.slice (some ⟨w1.heap.size, 0, none⟩) 0 0) 0 []) := Lib.hid (owns_empty (heap_alloc_new w1 _) (Nat.le_refl _))
  have Hm := Lib.hid (show 0 + rs.length ≤ maxLen by have := Hlr.out; unfold maxLen; omega)
  have Hby := Lib.hid (show (0 + rs.length) * 8 ≤ 140737488355328 by have := Hlr.out; omega)
  have Hba := Lib.hid (show w1.heap.size ≤ (w1.alloc (.cells #[] 2)).heap.size by simp)
  have Hl := Lib.hid (show (rs.map (Value.int .i64)).length = rs.length * 1 by simp)
  clear hb1 hloc hov e3
  go_upto_region 3 with (at_builtin; (refine wpList_append_rs (v := .slice (some ⟨w1.heap.size, 0, none⟩) 0 0) (n := 0) (xs := []) (xv := .slice aor rs.length capr) (m := rs.length) (news := rs.map (Value.int .i64)) ?_ (.tmp 17) (.tmp 19) 33 ?_ w1.heap.size 2 i0 (.int .i64 0) 1 8 Tryz.undL64 Hi.out Hz0.out Hz1.out Hz2.out ?_ ?_ ?_ ?_ w1.heap.size ?_ ?_ ?_ ?_ ?_ ?_ ?_ ?_; rfl; rfl; rfl; decide; rfl; exact Ho.out; rfl; exact Hv.out; exact Hl.out; exact ints_oneCell' _; exact Hm.out; exact Hby.out; exact Hba.out; intro v' w2 hown1 hg1; obtain ⟨ao1, cap1, rfl⟩ := owns_form hown1))
  have hn : 0 + rs.length = rs.length := Nat.zero_add _
  rw [hn] at hown1
  simp only [List.nil_append] at hown1
  have hb2 : Below w1.heap.size w1 w2 := (Loc.one w1 (.cells #[] 2) none).below0 hg1
  have hloc2 := hloc1.next (grownBy_below hb2 none) (fun _ h => by cases h)
  have HO2 := Lib.hid (show OL 2 w1.heap.size w2 (.slice ao1 rs.length cap1) rs from hown1)
  have z0 : w2.cell? ⟨w.heap.size, 0, none⟩ = some (.int .i64 N) := hloc2.cell 0 rfl 0
  have z1 : w2.cell? ⟨w.heap.size, 1, none⟩ = some (.slice ao xs.length cap) := hloc2.cell 0 rfl 1
  have z2 : w2.cell? ⟨w.heap.size, 2, none⟩ = some (.int .i64 c) := hloc2.cell 0 rfl 2
  have z3 : w2.cell? ⟨w.heap.size, 3, none⟩ = some (.slice aor rs.length capr) := hloc2.cell 0 rfl 3
  have HC := Lib.hid (ref_cost N c _ _ _ xs rs (crR N zs N) w2 (Hv0.out.keepb (below_grownBy hloc2.grown)) (Hr.out.keepb (below_grownBy hloc2.grown)) (Hv1.out.keepb hb2) HOK.out Hlr.out (crR_len _ _ _))
  rw [HcR.out] at HC
  have HovB := Lib.hid (OL.keepb Hov.out hb2)
  clear hown1 hg1 hn hb2 hloc1 Ho Hm Hby Hba Hl z3'
  by_cases hi0 : i = 0
  · subst hi0
    have HonC := Lib.hid (show onC N xs c rs zs more 0 at' = cst0 N xs c rs zs from rfl)
    have HonR := Lib.hid (show onR rs more 0 = rs from rfl)
    generalize cst0 N xs c rs zs = C at *
    go_wp2_with fail
    refine HC.out.mono ?_
    rintro e w3 ⟨rfl, hb3⟩
    have hloc3 := hloc2.next (grownBy_below hb3 none) (fun _ h => by cases h)
    have hown3 := OL.keepb HO2.out hb3
    clear hb3 hloc2 z0 z1 z2 z3 HO2
    have y0 : w3.cell? ⟨w.heap.size + 1, 0, none⟩ = some (.int .i64 N) := hloc3.cell 1 rfl 0
    have y1 : w3.cell? ⟨w.heap.size + 1, 1, none⟩ = some (.slice ao2 zs.length cap2) := hloc3.cell 1 rfl 1
    have HC2 := Lib.hid (ref_result N C _ _ zs rs w3 (Hz.out.keepb (below_grownBy hloc3.grown)) (OL.rl hown3))
    cases hg : rngB zs C rs with
    | false =>
      have HF := Lib.hid (show onF N xs c rs zs more 0 at' = (pv0, 7) by unfold onF; rw [HonC.out, HonR.out]; exact resF_bad hg)
      rw [hg] at HC2
      have Hown := Lib.hid hown3
      clear hg
      go_wp2_with fail
      refine HC2.out.mono ?_
      rintro e w5 ⟨he, hb5⟩
      obtain rfl : e = .returned (.tuple #[.agg #[.int .i64 0, .slice none 0 0, .int .i64 0, .slice none 0 0], .int .i64 7]) := he
      have hloc5 := hloc3.next (grownBy_below hb5 none) (fun _ h => by cases h)
      have hb6 := below_grownBy hloc5.grown
      have t0 : w5.cell? ⟨w.heap.size + 1 + 1, 0, none⟩ = some (.int .i64 0) := hloc5.cell 2 rfl 0
      have f0 : w5.frozen? ⟨w.heap.size + 1 + 1, 0, none⟩ = false := hloc5.free 2 rfl 0
      have t1 : w5.cell? ⟨w.heap.size + 1 + 1, 1, none⟩ = some (.slice none 0 0) := hloc5.cell 2 rfl 1
      have f1 : w5.frozen? ⟨w.heap.size + 1 + 1, 1, none⟩ = false := hloc5.free 2 rfl 1
      have t2 : w5.cell? ⟨w.heap.size + 1 + 1, 2, none⟩ = some (.int .i64 0) := hloc5.cell 2 rfl 2
      have f2 : w5.frozen? ⟨w.heap.size + 1 + 1, 2, none⟩ = false := hloc5.free 2 rfl 2
      have t3 : w5.cell? ⟨w.heap.size + 1 + 1, 3, none⟩ = some (.slice none 0 0) := hloc5.cell 2 rfl 3
      have f3 : w5.frozen? ⟨w.heap.size + 1 + 1, 3, none⟩ = false := hloc5.free 2 rfl 3
      clear hb5 y0 y1
      go_wp2_with fail
      refine bodyPost_ret (v := .tuple #[.agg #[.int .i64 0, .slice none 0 0, .int .i64 0, .slice none 0 0], .int .i64 7]) (by simp [results, Tryz.results67, go_sem, t0, t1, t2, t3]) rfl ⟨PE.err HF.out (by decide) _, ?_⟩
      exact ((((hb6).setCell (by show w.heap.size ≤ w.heap.size + 1 + 1; omega) _).setCell (by show w.heap.size ≤ w.heap.size + 1 + 1; omega) _).setCell (by show w.heap.size ≤ w.heap.size + 1 + 1; omega) _).setCell (by show w.heap.size ≤ w.heap.size + 1 + 1; omega) _
    | true =>
      have HF := Lib.hid (show onF N xs c rs zs more 0 at' = (⟨N, zs, C, rs⟩, 0) by unfold onF; rw [HonC.out, HonR.out]; exact resF_ok hg)
      rw [hg] at HC2
      have Hown := Lib.hid hown3
      clear hg
      go_wp2_with fail
      refine HC2.out.mono ?_
      rintro e w5 ⟨he, hb5⟩
      obtain rfl : e = .returned (.tuple #[.agg #[.int .i64 N, .slice ao2 zs.length cap2, .int .i64 C, .slice ao1 rs.length cap1], .int .i64 0]) := he
      have hloc5 := hloc3.next (grownBy_below hb5 none) (fun _ h => by cases h)
      have hb6 := below_grownBy hloc5.grown
      have Hown5 := Lib.hid (OL.keepb Hown.out hb5)
      have t0 : w5.cell? ⟨w.heap.size + 1 + 1, 0, none⟩ = some (.int .i64 0) := hloc5.cell 2 rfl 0
      have f0 : w5.frozen? ⟨w.heap.size + 1 + 1, 0, none⟩ = false := hloc5.free 2 rfl 0
      have t1 : w5.cell? ⟨w.heap.size + 1 + 1, 1, none⟩ = some (.slice none 0 0) := hloc5.cell 2 rfl 1
      have f1 : w5.frozen? ⟨w.heap.size + 1 + 1, 1, none⟩ = false := hloc5.free 2 rfl 1
      have t2 : w5.cell? ⟨w.heap.size + 1 + 1, 2, none⟩ = some (.int .i64 0) := hloc5.cell 2 rfl 2
      have f2 : w5.frozen? ⟨w.heap.size + 1 + 1, 2, none⟩ = false := hloc5.free 2 rfl 2
      have t3 : w5.cell? ⟨w.heap.size + 1 + 1, 3, none⟩ = some (.slice none 0 0) := hloc5.cell 2 rfl 3
      have f3 : w5.frozen? ⟨w.heap.size + 1 + 1, 3, none⟩ = false := hloc5.free 2 rfl 3
      clear hb5 y0 y1
      go_wp2_with fail
      have hb7 := ((((hb6).setCell (p := ⟨w.heap.size + 1 + 1, 0, none⟩) (by show w.heap.size ≤ w.heap.size + 1 + 1; omega) (.int .i64 N)).setCell (p := ⟨w.heap.size + 1 + 1, 1, none⟩) (by show w.heap.size ≤ w.heap.size + 1 + 1; omega) (.slice ao2 zs.length cap2)).setCell (p := ⟨w.heap.size + 1 + 1, 2, none⟩) (by show w.heap.size ≤ w.heap.size + 1 + 1; omega) (.int .i64 C)).setCell (p := ⟨w.heap.size + 1 + 1, 3, none⟩) (by show w.heap.size ≤ w.heap.size + 1 + 1; omega) (.slice ao1 rs.length cap1)
      have ho7 := own_set4 Hown5.out (show w.heap.size + 1 + 1 < w1.heap.size by omega) (.int .i64 N) (.slice ao2 zs.length cap2) (.int .i64 C) (.slice ao1 rs.length cap1)
      refine bodyPost_ret (v := .tuple #[.agg #[.int .i64 N, .slice ao2 zs.length cap2, .int .i64 C, .slice ao1 rs.length cap1], .int .i64 0]) (by simp [results, Tryz.results67, go_sem, t0, t1, t2, t3]) rfl ⟨PE.ok HF.out (owns_mono ho7 (by omega)), hb7⟩
  · have hipos : decide (0 < (i : Int)) = true := by simp; omega
    obtain ⟨m, rfl⟩ : ∃ m, i = m + 1 := ⟨i - 1, by omega⟩
    have HonC := Lib.hid (show onC N xs c rs zs more (m + 1) at' = IntKind.i64.wrap (cst0 N xs c rs zs + IntKind.i64.wrap (more * IntKind.i64.wrap (lowF N zs (m + 1) - at'))) from rfl)
    have HonR := Lib.hid (show onR rs more (m + 1) = rs.set m (IntKind.i64.wrap (gi rs m + more)) from rfl)
    have HgV := Lib.hid (show gi (crR N zs N) m = lowF N zs (m + 1) from crR_at (by omega))
    have HlV := Lib.hid (crR_len N zs N)
    generalize cst0 N xs c rs zs = C at *
    go_wp2_with fail
    refine HC.out.mono ?_
    rintro e w3 ⟨rfl, hb3⟩
    have hloc3 := hloc2.next (grownBy_below hb3 none) (fun _ h => by cases h)
    have hown3 := OL.keepb HO2.out hb3
    have hov3 := OL.keepb HovB.out hb3
    clear hb3 hloc2 z0 z1 z2 z3 HO2 HovB
    obtain ⟨gv, capv, hvf, hgb, hgs, _, hcv⟩ := hov3.open (by rw [HlV.out]; omega)
    subst hvf
    have x0 := (hcv m (by rw [HlV.out]; omega)).1
    rw [HgV.out] at x0
    obtain ⟨g1, cap1', e1, hg1b, hg1s, _, hc1⟩ := hown3.open (by have := Hlr.out; omega)
    simp only [Value.slice.injEq, true_and] at e1
    obtain ⟨rfl, rfl⟩ := e1
    obtain ⟨r0, rf0⟩ := hc1 m (by have := Hlr.out; omega)
    have Hst := Lib.hid (hown3.stored rfl m (IntKind.i64.wrap (gi rs m + more)))
    have k0 : (m : Int) < ((crR N zs N).length : Int) := by rw [HlV.out]; omega
    have k1 : (m : Int) < (rs.length : Int) := by have := Hlr.out; omega
    have k2 : (0 : Int) ≤ (m : Int) := by omega
    have k3 : ((m : Int) + 1) - 1 = (m : Int) := by omega
    clear hcv hc1 hov3 hown3
    generalize lowF N zs (m + 1) = L at *
    generalize gi rs m = R at *
    obtain ⟨D, hD⟩ : ∃ D, IntKind.i64.wrap (L - at') = D := ⟨_, rfl⟩
    obtain ⟨M, hM⟩ : ∃ M, IntKind.i64.wrap (more * D) = M := ⟨_, rfl⟩
    obtain ⟨T, hT⟩ : ∃ T, IntKind.i64.wrap (C + M) = T := ⟨_, rfl⟩
    obtain ⟨Q, hQ⟩ : ∃ Q, IntKind.i64.wrap (R + more) = Q := ⟨_, rfl⟩
    rw [hD, hM, hT] at HonC
    rw [hQ] at HonR Hst
    have hD2 : wrap64 (L - at') = D := by rw [← hD, IntKind.wrap_i64]; unfold wrap64; omega
    have hM2 : wrap64 (more * D) = M := by rw [← hM, IntKind.wrap_i64]; unfold wrap64; omega
    have hT2 : wrap64 (C + M) = T := by rw [← hT, IntKind.wrap_i64]; unfold wrap64; omega
    have hQ2 : wrap64 (R + more) = Q := by rw [← hQ, IntKind.wrap_i64]; unfold wrap64; omega
    go_upto_region 7 with fail
    have hloc4 := hloc3.anyrow Hst.out.2 (fun g' e => by cases e; show w.heap.size + 3 ≤ g1; omega)
    have hown4 : OL 2 w1.heap.size _ (.slice (some ⟨g1, 0, none⟩) rs.length cap1) (rs.set m Q) := Hst.out.1
    clear hloc3 Hst x0 r0 rf0
    generalize w3.setCell ⟨g1, m, none⟩ (.int .i64 Q) = W4 at *
    have y0 : W4.cell? ⟨w.heap.size + 1, 0, none⟩ = some (.int .i64 N) := hloc4.cell 1 rfl 0
    have y1 : W4.cell? ⟨w.heap.size + 1, 1, none⟩ = some (.slice ao2 zs.length cap2) := hloc4.cell 1 rfl 1
    have HC2 := Lib.hid (ref_result N T _ _ zs (rs.set m Q) W4 (Hz.out.keepb (below_grownBy hloc4.grown)) (OL.rl hown4))
    cases hg : rngB zs T (rs.set m Q) with
    | false =>
      have HF := Lib.hid (show onF N xs c rs zs more (m + 1) at' = (pv0, 7) by unfold onF; rw [HonC.out, HonR.out]; exact resF_bad hg)
      rw [hg] at HC2
      have Hown := Lib.hid hown4
      clear hg
      go_wp2_with fail
      refine HC2.out.mono ?_
      rintro e w5 ⟨he, hb5⟩
      obtain rfl : e = .returned (.tuple #[.agg #[.int .i64 0, .slice none 0 0, .int .i64 0, .slice none 0 0], .int .i64 7]) := he
      have hloc5 := hloc4.next (grownBy_below hb5 none) (fun _ h => by cases h)
      have hb6 := below_grownBy hloc5.grown
      have t0 : w5.cell? ⟨w.heap.size + 1 + 1, 0, none⟩ = some (.int .i64 0) := hloc5.cell 2 rfl 0
      have f0 : w5.frozen? ⟨w.heap.size + 1 + 1, 0, none⟩ = false := hloc5.free 2 rfl 0
      have t1 : w5.cell? ⟨w.heap.size + 1 + 1, 1, none⟩ = some (.slice none 0 0) := hloc5.cell 2 rfl 1
      have f1 : w5.frozen? ⟨w.heap.size + 1 + 1, 1, none⟩ = false := hloc5.free 2 rfl 1
      have t2 : w5.cell? ⟨w.heap.size + 1 + 1, 2, none⟩ = some (.int .i64 0) := hloc5.cell 2 rfl 2
      have f2 : w5.frozen? ⟨w.heap.size + 1 + 1, 2, none⟩ = false := hloc5.free 2 rfl 2
      have t3 : w5.cell? ⟨w.heap.size + 1 + 1, 3, none⟩ = some (.slice none 0 0) := hloc5.cell 2 rfl 3
      have f3 : w5.frozen? ⟨w.heap.size + 1 + 1, 3, none⟩ = false := hloc5.free 2 rfl 3
      clear hb5 y0 y1
      go_wp2_with fail
      refine bodyPost_ret (v := .tuple #[.agg #[.int .i64 0, .slice none 0 0, .int .i64 0, .slice none 0 0], .int .i64 7]) (by simp [results, Tryz.results67, go_sem, t0, t1, t2, t3]) rfl ⟨PE.err HF.out (by decide) _, ?_⟩
      exact ((((hb6).setCell (by show w.heap.size ≤ w.heap.size + 1 + 1; omega) _).setCell (by show w.heap.size ≤ w.heap.size + 1 + 1; omega) _).setCell (by show w.heap.size ≤ w.heap.size + 1 + 1; omega) _).setCell (by show w.heap.size ≤ w.heap.size + 1 + 1; omega) _
    | true =>
      have HF := Lib.hid (show onF N xs c rs zs more (m + 1) at' = (⟨N, zs, T, rs.set m Q⟩, 0) by unfold onF; rw [HonC.out, HonR.out]; exact resF_ok hg)
      rw [hg] at HC2
      have Hown := Lib.hid hown4
      clear hg
      go_wp2_with fail
      refine HC2.out.mono ?_
      rintro e w5 ⟨he, hb5⟩
      obtain rfl : e = .returned (.tuple #[.agg #[.int .i64 N, .slice ao2 zs.length cap2, .int .i64 T, .slice (some ⟨g1, 0, none⟩) rs.length cap1], .int .i64 0]) := he
      have hloc5 := hloc4.next (grownBy_below hb5 none) (fun _ h => by cases h)
      have hb6 := below_grownBy hloc5.grown
      have Hown5 := Lib.hid (OL.keepb Hown.out hb5)
      have t0 : w5.cell? ⟨w.heap.size + 1 + 1, 0, none⟩ = some (.int .i64 0) := hloc5.cell 2 rfl 0
      have f0 : w5.frozen? ⟨w.heap.size + 1 + 1, 0, none⟩ = false := hloc5.free 2 rfl 0
      have t1 : w5.cell? ⟨w.heap.size + 1 + 1, 1, none⟩ = some (.slice none 0 0) := hloc5.cell 2 rfl 1
      have f1 : w5.frozen? ⟨w.heap.size + 1 + 1, 1, none⟩ = false := hloc5.free 2 rfl 1
      have t2 : w5.cell? ⟨w.heap.size + 1 + 1, 2, none⟩ = some (.int .i64 0) := hloc5.cell 2 rfl 2
      have f2 : w5.frozen? ⟨w.heap.size + 1 + 1, 2, none⟩ = false := hloc5.free 2 rfl 2
      have t3 : w5.cell? ⟨w.heap.size + 1 + 1, 3, none⟩ = some (.slice none 0 0) := hloc5.cell 2 rfl 3
      have f3 : w5.frozen? ⟨w.heap.size + 1 + 1, 3, none⟩ = false := hloc5.free 2 rfl 3
      clear hb5 y0 y1
      go_wp2_with fail
      have hb7 := ((((hb6).setCell (p := ⟨w.heap.size + 1 + 1, 0, none⟩) (by show w.heap.size ≤ w.heap.size + 1 + 1; omega) (.int .i64 N)).setCell (p := ⟨w.heap.size + 1 + 1, 1, none⟩) (by show w.heap.size ≤ w.heap.size + 1 + 1; omega) (.slice ao2 zs.length cap2)).setCell (p := ⟨w.heap.size + 1 + 1, 2, none⟩) (by show w.heap.size ≤ w.heap.size + 1 + 1; omega) (.int .i64 T)).setCell (p := ⟨w.heap.size + 1 + 1, 3, none⟩) (by show w.heap.size ≤ w.heap.size + 1 + 1; omega) (.slice (some ⟨g1, 0, none⟩) rs.length cap1)
      have ho7 := own_set4 Hown5.out (show w.heap.size + 1 + 1 < w1.heap.size by omega) (.int .i64 N) (.slice ao2 zs.length cap2) (.int .i64 T) (.slice (some ⟨g1, 0, none⟩) rs.length cap1)
      refine bodyPost_ret (v := .tuple #[.agg #[.int .i64 N, .slice ao2 zs.length cap2, .int .i64 T, .slice (some ⟨g1, 0, none⟩) rs.length cap1], .int .i64 0]) (by simp [results, Tryz.results67, go_sem, t0, t1, t2, t3]) rfl ⟨PE.ok HF.out (owns_mono ho7 (by omega)), hb7⟩
end Go.Proofs.YtfphlpglgcmljaaGreat
