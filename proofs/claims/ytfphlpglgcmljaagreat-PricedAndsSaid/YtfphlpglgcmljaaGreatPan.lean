/- And of both sides. -/
import Derived.Test.YtfphlpglgcmljaaGreatPcu
import Derived.Test.YtfphlpglgcmljaaGreatPzc
import Derived.Test.YtfphlpglgcmljaaGreatPzq
namespace Go.Proofs.YtfphlpglgcmljaaGreat
open Go.RowKit
set_option linter.unusedVariables false

theorem pzE_no {n c : Int} {xs rs : List Int} (h : pzB n xs c rs = false) : pzE n xs c rs = 2 := by unfold pzE; rw [h]; rfl
theorem pzE_yes {n c : Int} {xs rs : List Int} (h : pzB n xs c rs = true) : pzE n xs c rs = 0 := by unfold pzE; rw [h]; rfl
theorem pzB_inv {n c : Int} {xs rs : List Int} (h : pzB n xs c rs = true) : OkZ n xs ∧ (rs.length : Int) = n ∧ rngB xs c rs = true := by
  unfold pzB at h
  simp only [Bool.and_eq_true, decide_eq_true_eq] at h
  exact ⟨h.1.1, h.1.2, h.2⟩
theorem rngB_c {xs rs : List Int} {c : Int} (h : rngB xs c rs = true) : -9223372036854775808 ≤ c ∧ c ≤ 9223372036854775807 := by
  unfold rngB cstB btw at h
  simp only [Bool.and_eq_true, decide_eq_true_eq] at h
  omega
theorem pzB_nat {n c : Int} {xs rs : List Int} (h : pzB n xs c rs = true) : ∃ N : Nat, n = N ∧ OkZ N xs ∧ rs.length = N ∧ -9223372036854775808 ≤ c ∧ c ≤ 9223372036854775807 := by
  obtain ⟨h1, h2, h3⟩ := pzB_inv h
  exact ⟨rs.length, h2.symm, by rw [h2]; exact h1, rfl, rngB_c h3⟩
/-- What And answers. -/
noncomputable def pandF (n : Int) (xs : List Int) (c : Int) (rs : List Int) (cs : List Kc) : Pv × Int :=
  if pzB n xs c rs = true ∧ cnsB n cs = true then pcutF 0 n.toNat xs c rs xs (cs.map con3) 0 0 0 else (pv0, 2)
set_option maxRecDepth 100000 in
set_option maxHeartbeats 8000000 in
theorem prog_pand (n c : Int) (v rv lv : Value) (xs rs : List Int) (cs : List Kc) (w : World) (hv : RL w.heap.size w v xs) (hr : RL w.heap.size w rv rs) (hl : RX cdCon w.heap.size w lv cs) (hn : cs.length ≤ 1000) :
    Calls Tryz.prog 29 #[.agg #[.int .i64 n, v, .int .i64 c, rv], lv] w fun e w' => PO w.heap.size (pandF n xs c rs cs) e w' ∧ Below w.heap.size w w' := by
  have Hv0 := Lib.hid hv
  have Hr := Lib.hid hr
  have Hl := Lib.hid hl
  obtain ⟨ao, cap, rfl, hle, _⟩ := hv.open
  obtain ⟨aor, capr, rfl, hler, _⟩ := hr.open
  obtain ⟨aol, capl, rfl, hlel, _⟩ := hl.open
  have hloc := Loc.two w (.cells #[.int .i64 n, .slice ao xs.length cap, .int .i64 c, .slice aor rs.length capr] 35) (.cells #[.int .i64 0, .slice none 0 0, .int .i64 0, .slice none 0 0] 35) none
  have HK := Lib.hid (fun X (hb : Below w.heap.size w X) => prog_pcheck n c _ _ xs rs X (Hv0.out.keepb hb) (Hr.out.keepb hb))
  clear hv hr hl
  go_enter Tryz.func29, Tryz.ntmps29
  go_wp2_with fail
  refine (HK.out _ (below_grownBy hloc.grown)).mono ?_
  rintro e w1 ⟨rfl, hb1⟩
  have hloc1 := hloc.next (grownBy_below hb1 none) (fun _ h => by cases h)
  clear hb1 hloc HK
  cases hpz : pzB n xs c rs with
  | false =>
    rw [pzE_no hpz]
    have HF := Lib.hid (show pandF n xs c rs cs = (pv0, 2) by unfold pandF; rw [if_neg (by rw [hpz]; simp)])
    have hb6 := below_grownBy hloc1.grown
    clear hpz
    have t0 : w1.cell? ⟨w.heap.size + 1, 0, none⟩ = some (.int .i64 0) := hloc1.cell 1 rfl 0
    have f0 : w1.frozen? ⟨w.heap.size + 1, 0, none⟩ = false := hloc1.free 1 rfl 0
    have t1 : w1.cell? ⟨w.heap.size + 1, 1, none⟩ = some (.slice none 0 0) := hloc1.cell 1 rfl 1
    have f1 : w1.frozen? ⟨w.heap.size + 1, 1, none⟩ = false := hloc1.free 1 rfl 1
    have t2 : w1.cell? ⟨w.heap.size + 1, 2, none⟩ = some (.int .i64 0) := hloc1.cell 1 rfl 2
    have f2 : w1.frozen? ⟨w.heap.size + 1, 2, none⟩ = false := hloc1.free 1 rfl 2
    have t3 : w1.cell? ⟨w.heap.size + 1, 3, none⟩ = some (.slice none 0 0) := hloc1.cell 1 rfl 3
    have f3 : w1.frozen? ⟨w.heap.size + 1, 3, none⟩ = false := hloc1.free 1 rfl 3
    clear hloc1
    go_wp2_with fail
    refine bodyPost_ret (v := .tuple #[.agg #[.int .i64 0, .slice none 0 0, .int .i64 0, .slice none 0 0], .int .i64 2]) (by simp [results, Tryz.results29, go_sem, t0, t1, t2, t3]) rfl ⟨PO.err HF.out _, ?_⟩
    exact ((((hb6).setCell (by show w.heap.size ≤ w.heap.size + 1; omega) _).setCell (by show w.heap.size ≤ w.heap.size + 1; omega) _).setCell (by show w.heap.size ≤ w.heap.size + 1; omega) _).setCell (by show w.heap.size ≤ w.heap.size + 1; omega) _
  | true =>
    rw [pzE_yes hpz]
    have HK := Lib.hid (fun X (hb : Below w.heap.size w X) => prog_constraints n _ cs X (RX.keepb Hl.out hb))
    have z0 : w1.cell? ⟨w.heap.size, 0, none⟩ = some (.int .i64 n) := hloc1.cell 0 rfl 0
    have z1 : w1.cell? ⟨w.heap.size, 1, none⟩ = some (.slice ao xs.length cap) := hloc1.cell 0 rfl 1
    have z2 : w1.cell? ⟨w.heap.size, 2, none⟩ = some (.int .i64 c) := hloc1.cell 0 rfl 2
    have z3 : w1.cell? ⟨w.heap.size, 3, none⟩ = some (.slice aor rs.length capr) := hloc1.cell 0 rfl 3
    go_wp2_with fail
    refine (HK.out _ (below_grownBy hloc1.grown)).mono ?_
    rintro e w2 ⟨rfl, hb2⟩
    have hloc2 := hloc1.next (grownBy_below hb2 none) (fun _ h => by cases h)
    clear hb2 hloc1 HK z0 z1 z2 z3
    cases hcn : cnsB n cs with
    | false =>
      have HF := Lib.hid (show pandF n xs c rs cs = (pv0, 2) by unfold pandF; rw [if_neg (by rw [hcn]; simp)])
      have hb6 := below_grownBy hloc2.grown
      clear hpz hcn
      have t0 : w2.cell? ⟨w.heap.size + 1, 0, none⟩ = some (.int .i64 0) := hloc2.cell 1 rfl 0
      have f0 : w2.frozen? ⟨w.heap.size + 1, 0, none⟩ = false := hloc2.free 1 rfl 0
      have t1 : w2.cell? ⟨w.heap.size + 1, 1, none⟩ = some (.slice none 0 0) := hloc2.cell 1 rfl 1
      have f1 : w2.frozen? ⟨w.heap.size + 1, 1, none⟩ = false := hloc2.free 1 rfl 1
      have t2 : w2.cell? ⟨w.heap.size + 1, 2, none⟩ = some (.int .i64 0) := hloc2.cell 1 rfl 2
      have f2 : w2.frozen? ⟨w.heap.size + 1, 2, none⟩ = false := hloc2.free 1 rfl 2
      have t3 : w2.cell? ⟨w.heap.size + 1, 3, none⟩ = some (.slice none 0 0) := hloc2.cell 1 rfl 3
      have f3 : w2.frozen? ⟨w.heap.size + 1, 3, none⟩ = false := hloc2.free 1 rfl 3
      clear hloc2
      go_wp2_with fail
      refine bodyPost_ret (v := .tuple #[.agg #[.int .i64 0, .slice none 0 0, .int .i64 0, .slice none 0 0], .int .i64 2]) (by simp [results, Tryz.results29, go_sem, t0, t1, t2, t3]) rfl ⟨PO.err HF.out _, ?_⟩
      exact ((((hb6).setCell (by show w.heap.size ≤ w.heap.size + 1; omega) _).setCell (by show w.heap.size ≤ w.heap.size + 1; omega) _).setCell (by show w.heap.size ≤ w.heap.size + 1; omega) _).setCell (by show w.heap.size ≤ w.heap.size + 1; omega) _
    | true =>
      obtain ⟨N, rfl, hok, hlr, hc⟩ := pzB_nat hpz
      have HC0 := Lib.hid (show pandF N xs c rs cs = pcutF 0 N xs c rs xs (cs.map con3) 0 0 0 by unfold pandF; rw [if_pos ⟨hpz, hcn⟩, Int.toNat_natCast])
      have HP := Lib.hid (fun (X : World) (R2 : List Int) (zv' : Value) (hb : Below w.heap.size w X) (hR : OkZ N R2) (hz' : RL X.heap.size X zv' R2) => prog_on N 0 c 0 0 (.slice ao xs.length cap) (.slice aor rs.length capr) zv' xs rs R2 X (Hv0.out.keepb hb) (Hr.out.keepb hb) hz' hok hR hlr (Nat.zero_le _) hc (fun _ => ⟨rfl, rfl⟩))
      have HM := Lib.hid (prog_meet_cons N _ _ xs cs w2 (Hv0.out.keepb (below_grownBy hloc2.grown)) (RX.keepb Hl.out (below_grownBy hloc2.grown)) hn)
      have z0 : w2.cell? ⟨w.heap.size, 0, none⟩ = some (.int .i64 N) := hloc2.cell 0 rfl 0
      have z1 : w2.cell? ⟨w.heap.size, 1, none⟩ = some (.slice ao xs.length cap) := hloc2.cell 0 rfl 1
      have z2 : w2.cell? ⟨w.heap.size, 2, none⟩ = some (.int .i64 c) := hloc2.cell 0 rfl 2
      have z3 : w2.cell? ⟨w.heap.size, 3, none⟩ = some (.slice aor rs.length capr) := hloc2.cell 0 rfl 3
      clear hpz hcn hok hlr hc
      go_wp2_with fail
      refine HM.out.mono ?_
      rintro e w3 ⟨⟨v', rfl, ho⟩, hb3⟩
      have hloc3 := hloc2.next (grownBy_below hb3 none) (fun _ h => by cases h)
      have hs1 : w.heap.size + 2 ≤ w2.heap.size := hloc2.size
      have hs3 : w.heap.size + 2 ≤ w3.heap.size := hloc3.size
      obtain ⟨ao3, cap3, rfl⟩ := owns_form ho
      have Hand := Lib.hid (fun (x : Int) (R : List Int) (h : andF N xs (cs.map con3) = (x, R)) => (⟨fun e => HC0.out.trans (pcutF_yes (by rw [h, e])), fun e => HC0.out.trans (pcutF_no h e)⟩ : (x = 0 → pandF N xs c rs cs = onF N xs c rs R 0 0 0) ∧ (x ≠ 0 → pandF N xs c rs cs = (pv0, x))))
      have Hval := Lib.hid (fun (R : List Int) (h : andF N xs (cs.map con3) = (0, R)) => and_valid h)
      generalize hR : andF N xs (cs.map con3) = R at Hval Hand ho ⊢
      obtain ⟨R1, R2⟩ := R
      have ho : OL 63 (w.heap.size + 2) w3 (.slice ao3 R2.length cap3) R2 := owns_mono ho (by omega)
      clear hb3 hloc2 HC0 z0 z1 z2 z3
      by_cases hR1 : R1 = 0
      · subst hR1
        have hzd : zdim ((0 : Int), R2) (N : Int) = N := by simp [zdim]
        rw [hzd]
        have HC := Lib.hid ((Hand.out 0 R2 rfl).1 rfl)
        have hloc2 := hloc3.next (World.grownBy_alloc w3 (.cells #[.int .i64 N, .slice ao3 R2.length cap3] 32) none) (fun _ h => by cases h)
        have Ho := Lib.hid (show OL _ _ _ _ _ from World.ownsRow.alloc ho (.cells #[.int .i64 N, .slice ao3 R2.length cap3] 32))
        have z0 : (w3.alloc (.cells #[.int .i64 N, .slice ao3 R2.length cap3] 32)).cell? ⟨w.heap.size, 0, none⟩ = some (.int .i64 N) := hloc2.cell 0 rfl 0
        have z1 : (w3.alloc (.cells #[.int .i64 N, .slice ao3 R2.length cap3] 32)).cell? ⟨w.heap.size, 1, none⟩ = some (.slice ao xs.length cap) := hloc2.cell 0 rfl 1
        have z2 : (w3.alloc (.cells #[.int .i64 N, .slice ao3 R2.length cap3] 32)).cell? ⟨w.heap.size, 2, none⟩ = some (.int .i64 c) := hloc2.cell 0 rfl 2
        have z3 : (w3.alloc (.cells #[.int .i64 N, .slice ao3 R2.length cap3] 32)).cell? ⟨w.heap.size, 3, none⟩ = some (.slice aor rs.length capr) := hloc2.cell 0 rfl 3
        have HOn := Lib.hid (HP.out (w3.alloc (.cells #[.int .i64 N, .slice ao3 R2.length cap3] 32)) R2 (.slice ao3 R2.length cap3) (below_grownBy hloc2.grown) (Hval.out R2 rfl) (OL.rl Ho.out))
        clear hloc3 hR Hand Hval ho hzd
        rcases onF_two N xs c rs R2 0 0 0 with ⟨C, R, hQ⟩ | hQ
        · skip
          rw [hQ] at HOn
          go_wp2_with fail
          refine HOn.out.mono ?_
          rintro e w5 ⟨⟨rv', he, hrv⟩, hb5⟩
          obtain rfl : e = .returned (.tuple #[.agg #[.int .i64 N, .slice ao3 R2.length cap3, .int .i64 C, rv'], .int .i64 0]) := he
          obtain ⟨ao4, cap4, rfl⟩ := owns_form hrv
          have hloc5 := hloc2.next (grownBy_below hb5 none) (fun _ h => by cases h)
          have hb6 := below_grownBy hloc5.grown
          have Ho5 := Lib.hid (OL.keepb Ho.out hb5)
          have Hrv := Lib.hid (show OL _ _ _ _ _ from owns_mono hrv (show w.heap.size + 2 ≤ _ by (try simp); omega))
          have HF := Lib.hid (HC.out.trans hQ)
          have t0 : w5.cell? ⟨w.heap.size + 1, 0, none⟩ = some (.int .i64 0) := hloc5.cell 1 rfl 0
          have f0 : w5.frozen? ⟨w.heap.size + 1, 0, none⟩ = false := hloc5.free 1 rfl 0
          have t1 : w5.cell? ⟨w.heap.size + 1, 1, none⟩ = some (.slice none 0 0) := hloc5.cell 1 rfl 1
          have f1 : w5.frozen? ⟨w.heap.size + 1, 1, none⟩ = false := hloc5.free 1 rfl 1
          have t2 : w5.cell? ⟨w.heap.size + 1, 2, none⟩ = some (.int .i64 0) := hloc5.cell 1 rfl 2
          have f2 : w5.frozen? ⟨w.heap.size + 1, 2, none⟩ = false := hloc5.free 1 rfl 2
          have t3 : w5.cell? ⟨w.heap.size + 1, 3, none⟩ = some (.slice none 0 0) := hloc5.cell 1 rfl 3
          have f3 : w5.frozen? ⟨w.heap.size + 1, 3, none⟩ = false := hloc5.free 1 rfl 3
          clear hb5 hrv
          go_wp2_with fail
          refine bodyPost_ret (v := .tuple #[.agg #[.int .i64 N, .slice ao3 R2.length cap3, .int .i64 C, .slice ao4 R.length cap4], .int .i64 0]) (by simp [results, Tryz.results29, go_sem, t0, t1, t2, t3]) rfl ⟨by rw [HF.out]; exact ⟨_, _, rfl, owns_mono (own_set4 Ho5.out (by omega) _ _ _ _) (by omega), owns_mono (own_set4 Hrv.out (by omega) _ _ _ _) (by omega)⟩, ?_⟩
          exact ((((hb6).setCell (by show w.heap.size ≤ w.heap.size + 1; omega) _).setCell (by show w.heap.size ≤ w.heap.size + 1; omega) _).setCell (by show w.heap.size ≤ w.heap.size + 1; omega) _).setCell (by show w.heap.size ≤ w.heap.size + 1; omega) _
        · skip
          rw [hQ] at HOn
          go_wp2_with fail
          refine HOn.out.mono ?_
          rintro e w5 ⟨⟨rv', he, hrv⟩, hb5⟩
          obtain rfl : e = .returned (.tuple #[.agg #[.int .i64 0, .slice none 0 0, .int .i64 0, rv'], .int .i64 7]) := he
          obtain ⟨ao4, cap4, rfl⟩ := owns_form hrv
          have hloc5 := hloc2.next (grownBy_below hb5 none) (fun _ h => by cases h)
          have hb6 := below_grownBy hloc5.grown
          have HF := Lib.hid (HC.out.trans hQ)
          have Hrv := Lib.hid (show OL _ _ _ _ _ from owns_mono hrv (show w.heap.size + 2 ≤ _ by (try simp); omega))
          have t0 : w5.cell? ⟨w.heap.size + 1, 0, none⟩ = some (.int .i64 0) := hloc5.cell 1 rfl 0
          have f0 : w5.frozen? ⟨w.heap.size + 1, 0, none⟩ = false := hloc5.free 1 rfl 0
          have t1 : w5.cell? ⟨w.heap.size + 1, 1, none⟩ = some (.slice none 0 0) := hloc5.cell 1 rfl 1
          have f1 : w5.frozen? ⟨w.heap.size + 1, 1, none⟩ = false := hloc5.free 1 rfl 1
          have t2 : w5.cell? ⟨w.heap.size + 1, 2, none⟩ = some (.int .i64 0) := hloc5.cell 1 rfl 2
          have f2 : w5.frozen? ⟨w.heap.size + 1, 2, none⟩ = false := hloc5.free 1 rfl 2
          have t3 : w5.cell? ⟨w.heap.size + 1, 3, none⟩ = some (.slice none 0 0) := hloc5.cell 1 rfl 3
          have f3 : w5.frozen? ⟨w.heap.size + 1, 3, none⟩ = false := hloc5.free 1 rfl 3
          clear hb5 hrv
          go_wp2_with fail
          refine bodyPost_ret (v := .tuple #[.agg #[.int .i64 0, .slice none 0 0, .int .i64 0, .slice ao4 (pv0.rs).length cap4], .int .i64 7]) (by simp [results, Tryz.results29, go_sem, t0, t1, t2, t3]) rfl ⟨by rw [HF.out]; exact ⟨_, _, rfl, OL.nil _ _ _, owns_mono (own_set4 Hrv.out (by omega) _ _ _ _) (by omega)⟩, ?_⟩
          exact ((((hb6).setCell (by show w.heap.size ≤ w.heap.size + 1; omega) _).setCell (by show w.heap.size ≤ w.heap.size + 1; omega) _).setCell (by show w.heap.size ≤ w.heap.size + 1; omega) _).setCell (by show w.heap.size ≤ w.heap.size + 1; omega) _
      · have hR1' : (R1 != 0) = true := by simpa using hR1
        have HF := Lib.hid ((Hand.out R1 R2 rfl).2 hR1)
        have hzd : zdim (R1, R2) (N : Int) = 0 := by simp [zdim, hR1]
        rw [hzd]
        have hloc5 := hloc3.next (World.grownBy_alloc w3 (.cells #[.int .i64 0, .slice ao3 R2.length cap3] 32) none) (fun _ h => by cases h)
        have hb6 := below_grownBy hloc5.grown
        clear hloc3 hR Hand Hval ho hzd hR1
        have t0 : (w3.alloc (.cells #[.int .i64 0, .slice ao3 R2.length cap3] 32)).cell? ⟨w.heap.size + 1, 0, none⟩ = some (.int .i64 0) := hloc5.cell 1 rfl 0
        have f0 : (w3.alloc (.cells #[.int .i64 0, .slice ao3 R2.length cap3] 32)).frozen? ⟨w.heap.size + 1, 0, none⟩ = false := hloc5.free 1 rfl 0
        have t1 : (w3.alloc (.cells #[.int .i64 0, .slice ao3 R2.length cap3] 32)).cell? ⟨w.heap.size + 1, 1, none⟩ = some (.slice none 0 0) := hloc5.cell 1 rfl 1
        have f1 : (w3.alloc (.cells #[.int .i64 0, .slice ao3 R2.length cap3] 32)).frozen? ⟨w.heap.size + 1, 1, none⟩ = false := hloc5.free 1 rfl 1
        have t2 : (w3.alloc (.cells #[.int .i64 0, .slice ao3 R2.length cap3] 32)).cell? ⟨w.heap.size + 1, 2, none⟩ = some (.int .i64 0) := hloc5.cell 1 rfl 2
        have f2 : (w3.alloc (.cells #[.int .i64 0, .slice ao3 R2.length cap3] 32)).frozen? ⟨w.heap.size + 1, 2, none⟩ = false := hloc5.free 1 rfl 2
        have t3 : (w3.alloc (.cells #[.int .i64 0, .slice ao3 R2.length cap3] 32)).cell? ⟨w.heap.size + 1, 3, none⟩ = some (.slice none 0 0) := hloc5.cell 1 rfl 3
        have f3 : (w3.alloc (.cells #[.int .i64 0, .slice ao3 R2.length cap3] 32)).frozen? ⟨w.heap.size + 1, 3, none⟩ = false := hloc5.free 1 rfl 3
        clear hloc5
        go_wp2_with fail
        refine bodyPost_ret (v := .tuple #[.agg #[.int .i64 0, .slice none 0 0, .int .i64 0, .slice none 0 0], .int .i64 R1]) (by simp [results, Tryz.results29, go_sem, t0, t1, t2, t3]) rfl ⟨PO.err HF.out _, ?_⟩
        exact ((((hb6).setCell (by show w.heap.size ≤ w.heap.size + 1; omega) _).setCell (by show w.heap.size ≤ w.heap.size + 1; omega) _).setCell (by show w.heap.size ≤ w.heap.size + 1; omega) _).setCell (by show w.heap.size ≤ w.heap.size + 1; omega) _

end Go.Proofs.YtfphlpglgcmljaaGreat
