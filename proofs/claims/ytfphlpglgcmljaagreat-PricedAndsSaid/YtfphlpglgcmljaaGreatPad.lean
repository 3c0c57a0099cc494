/- Add of both sides. -/
import Derived.Test.YtfphlpglgcmljaaGreatPra
import Derived.Test.YtfphlpglgcmljaaGreatClx
namespace Go.Proofs.YtfphlpglgcmljaaGreat
open Go.RowKit
set_option linter.unusedVariables false

theorem cstTo_self {N : Nat} {xs : List Int} {c : Int} {rs : List Int} (h : -9223372036854775808 ≤ c ∧ c ≤ 9223372036854775807) : ∀ k, cstTo N xs c rs (fun j => lowF N xs j) k = c
  | 0 => rfl
  | k + 1 => by
    show IntKind.i64.wrap (cstTo N xs c rs (fun j => lowF N xs j) k + IntKind.i64.wrap (gi rs k * IntKind.i64.wrap (lowF N xs (k + 1) - lowF N xs (k + 1)))) = c
    rw [cstTo_self h k, Int.sub_self, show IntKind.i64.wrap 0 = 0 from rfl, Int.mul_zero, show IntKind.i64.wrap 0 = 0 from rfl, Int.add_zero]
    exact wrap_self h
/-- What Add answers. -/
noncomputable def paddF (n : Int) (xs : List Int) (c : Int) (rs : List Int) (m : Int) : Pv × Int :=
  if pzB n xs c rs = true ∧ btw m 0 1152921504606846976 = true then onF n.toNat xs (c + m) rs xs 0 0 0 else (pv0, 2)
theorem onF_far {N : Nat} {xs : List Int} {c : Int} {rs : List Int} (h : -9223372036854775808 ≤ c ∧ c ≤ 9223372036854775807) (h2 : 1152921504606846976 < c) : onF N xs c rs xs 0 0 0 = (pv0, 7) := by
  unfold onF
  refine resF_bad ?_
  have e : onC N xs c rs xs 0 0 0 = c := by
    show cst0 N xs c rs xs = c
    exact cstTo_self h N
  rw [e]
  have : cstB c = false := by unfold cstB btw; simp; omega
  unfold rngB
  rw [this]; rfl
theorem andF_nil {N : Nat} {xs : List Int} (h : OkZ N xs) : andF N xs [] = (0, xs) := by
  rw [andF_yes h (fun k hk => by simp at hk)]
  exact closed_ok1 h
theorem prog_and_nil {N : Nat} {v : Value} {xs : List Int} {X : World} (hv : RL X.heap.size X v xs) (hok : OkZ N xs) :
    Calls Tryz.prog 75 #[.agg #[.int .i64 N, v], .slice none 0 0] X fun e w' => (∃ ao cap, e = .returned (.tuple #[.agg #[.int .i64 N, .slice ao xs.length cap], .int .i64 0]) ∧ OL 63 X.heap.size w' (.slice ao xs.length cap) xs) ∧ Below X.heap.size X w' := by
  refine (prog_and N v _ xs [] X hv (.inl ⟨rfl, rfl, rfl⟩)).mono ?_
  rintro e w' ⟨h, hb⟩
  rw [andF_nil hok] at h
  obtain ⟨v', he, ho⟩ := h
  obtain ⟨ao, cap, rfl⟩ := owns_form ho
  exact ⟨⟨ao, cap, he, ho⟩, hb⟩
theorem padd_c {n c : Int} {xs rs : List Int} {m : Int} (h : pzB n xs c rs = true) (hm : btw m 0 1152921504606846976 = true) : -9223372036854775808 ≤ c + m ∧ c + m ≤ 9223372036854775807 := by
  have h2 := (pzB_inv h).2.2
  unfold rngB cstB btw at h2
  unfold btw at hm
  simp only [Bool.and_eq_true, decide_eq_true_eq] at h2 hm
  omega
set_option maxRecDepth 100000 in
set_option maxHeartbeats 8000000 in
theorem prog_padd (n c m : Int) (v rv : Value) (xs rs : List Int) (w : World) (hv : RL w.heap.size w v xs) (hr : RL w.heap.size w rv rs) :
    Calls Tryz.prog 31 #[.agg #[.int .i64 n, v, .int .i64 c, rv], .int .i64 m] w fun e w' => PO w.heap.size (paddF n xs c rs m) e w' ∧ Below w.heap.size w w' := by
  have Hv0 := Lib.hid hv
  have Hr := Lib.hid hr
  obtain ⟨ao, cap, rfl, hle, _⟩ := hv.open
  obtain ⟨aor, capr, rfl, hler, _⟩ := hr.open
  have hloc := Loc.two w (.cells #[.int .i64 n, .slice ao xs.length cap, .int .i64 c, .slice aor rs.length capr] 35) (.cells #[.int .i64 0, .slice none 0 0, .int .i64 0, .slice none 0 0] 35) none
  have HK := Lib.hid (fun X (hb : Below w.heap.size w X) => prog_pcheck n c _ _ xs rs X (Hv0.out.keepb hb) (Hr.out.keepb hb))
  clear hv hr
  go_enter Tryz.func31, Tryz.ntmps31
  go_wp2_with fail
  refine (HK.out _ (below_grownBy hloc.grown)).mono ?_
  rintro e w1 ⟨rfl, hb1⟩
  have hloc1 := hloc.next (grownBy_below hb1 none) (fun _ h => by cases h)
  clear hb1 hloc HK
  cases hpz : pzB n xs c rs with
  | false =>
    rw [pzE_no hpz]
    have HF := Lib.hid (show paddF n xs c rs m = (pv0, 2) by unfold paddF; rw [if_neg (by rw [hpz]; simp)])
    have hb6 := below_grownBy hloc1.grown
    clear hpz
    have t0 : w1.cell? ⟨w.heap.size + 1, 0, none⟩ = some (.int .i64 0) := hloc1.cell 1 rfl 0
    have f0 : w1.frozen? ⟨w.heap.size + 1, 0, none⟩ = false := hloc1.free 1 rfl 0
    have t1 : w1.cell? ⟨w.heap.size + 1, 1, none⟩ = some (.slice none 0 0) := hloc1.cell 1 rfl 1
    have f1 : w1.frozen? ⟨w.heap.size + 1, 1, none⟩ = false := hloc1.free 1 rfl 1
    have t2 : w1.cell? ⟨w.heap.size + 1, 2, none⟩ = some (.int .i64 0) := hloc1.cell 1 rfl 2
    have f2 : w1.frozen? ⟨w.heap.size + 1, 2, none⟩ = false := hloc1.free 1 rfl 2
    have t3 : w1.cell? ⟨w.heap.size + 1, 3, none⟩ = some (.slice none 0 0) := hloc1.cell 1 rfl 3
    have f3 : w1.frozen? ⟨w.heap.size + 1, 3, none⟩ = false := hloc1.free 1 rfl 3
    clear hloc1
    go_wp2_with fail
    refine bodyPost_ret (v := .tuple #[.agg #[.int .i64 0, .slice none 0 0, .int .i64 0, .slice none 0 0], .int .i64 2]) (by simp [results, Tryz.results31, go_sem, t0, t1, t2, t3]) rfl ⟨PO.err HF.out _, ?_⟩
    exact ((((hb6).setCell (by show w.heap.size ≤ w.heap.size + 1; omega) _).setCell (by show w.heap.size ≤ w.heap.size + 1; omega) _).setCell (by show w.heap.size ≤ w.heap.size + 1; omega) _).setCell (by show w.heap.size ≤ w.heap.size + 1; omega) _
  | true =>
    rw [pzE_yes hpz]
    have HB := Lib.hid (fun X => between_i64 m 0 1152921504606846976 X)
    have z0 : w1.cell? ⟨w.heap.size, 0, none⟩ = some (.int .i64 n) := hloc1.cell 0 rfl 0
    have z1 : w1.cell? ⟨w.heap.size, 1, none⟩ = some (.slice ao xs.length cap) := hloc1.cell 0 rfl 1
    have z2 : w1.cell? ⟨w.heap.size, 2, none⟩ = some (.int .i64 c) := hloc1.cell 0 rfl 2
    have z3 : w1.cell? ⟨w.heap.size, 3, none⟩ = some (.slice aor rs.length capr) := hloc1.cell 0 rfl 3
    go_wp2_with fail
    refine (HB.out _).mono ?_
    rintro e w2 ⟨rfl, rfl⟩
    clear HB z0 z1 z2 z3
    cases hbt : btw m 0 1152921504606846976 with
    | false =>
      have HF := Lib.hid (show paddF n xs c rs m = (pv0, 2) by unfold paddF; rw [if_neg (by rw [hbt]; simp)])
      have hb6 := below_grownBy hloc1.grown
      clear hpz hbt
      have t0 : w1.cell? ⟨w.heap.size + 1, 0, none⟩ = some (.int .i64 0) := hloc1.cell 1 rfl 0
      have f0 : w1.frozen? ⟨w.heap.size + 1, 0, none⟩ = false := hloc1.free 1 rfl 0
      have t1 : w1.cell? ⟨w.heap.size + 1, 1, none⟩ = some (.slice none 0 0) := hloc1.cell 1 rfl 1
      have f1 : w1.frozen? ⟨w.heap.size + 1, 1, none⟩ = false := hloc1.free 1 rfl 1
      have t2 : w1.cell? ⟨w.heap.size + 1, 2, none⟩ = some (.int .i64 0) := hloc1.cell 1 rfl 2
      have f2 : w1.frozen? ⟨w.heap.size + 1, 2, none⟩ = false := hloc1.free 1 rfl 2
      have t3 : w1.cell? ⟨w.heap.size + 1, 3, none⟩ = some (.slice none 0 0) := hloc1.cell 1 rfl 3
      have f3 : w1.frozen? ⟨w.heap.size + 1, 3, none⟩ = false := hloc1.free 1 rfl 3
      clear hloc1
      go_wp2_with fail
      refine bodyPost_ret (v := .tuple #[.agg #[.int .i64 0, .slice none 0 0, .int .i64 0, .slice none 0 0], .int .i64 2]) (by simp [results, Tryz.results31, go_sem, t0, t1, t2, t3]) rfl ⟨PO.err HF.out _, ?_⟩
      exact ((((hb6).setCell (by show w.heap.size ≤ w.heap.size + 1; omega) _).setCell (by show w.heap.size ≤ w.heap.size + 1; omega) _).setCell (by show w.heap.size ≤ w.heap.size + 1; omega) _).setCell (by show w.heap.size ≤ w.heap.size + 1; omega) _
    | true =>
      have HF0 := Lib.hid (show paddF n xs c rs m = onF n.toNat xs (c + m) rs xs 0 0 0 by unfold paddF; rw [if_pos ⟨hpz, hbt⟩])
      have hr2 := padd_c hpz hbt
      obtain ⟨N, rfl, hok, hlr, _⟩ := pzB_nat hpz
      obtain ⟨cm, hcm⟩ : ∃ cm, IntKind.i64.wrap (c + m) = cm := ⟨_, rfl⟩
      have hcm' : wrap64 (c + m) = cm := (wrap_w64 _).trans hcm
      have hce : c + m = cm := (wrap_self hr2).symm.trans hcm
      rw [hce] at hr2
      have HF := Lib.hid (show paddF N xs c rs m = onF N xs cm rs xs 0 0 0 by rw [HF0.out, hce, Int.toNat_natCast])
      have HP := Lib.hid (fun (X : World) (zv' : Value) (hb : Below w.heap.size w X) (hz' : RL X.heap.size X zv' xs) => prog_on N 0 cm 0 0 (.slice ao xs.length cap) (.slice aor rs.length capr) zv' xs rs xs X (Hv0.out.keepb hb) (Hr.out.keepb hb) hz' hok hok hlr (Nat.zero_le _) hr2 (fun _ => ⟨rfl, rfl⟩))
      have HA := Lib.hid (fun (X : World) (hb : Below w.heap.size w X) => prog_and_nil (Hv0.out.keepb hb) hok)
      have Hfar := Lib.hid (fun h => onF_far (N := N) (xs := xs) (rs := rs) hr2 h)
      have hlocm : Loc w (w1.setCell ⟨w.heap.size, 2, none⟩ (.int .i64 cm)) none [.cells #[.int .i64 N, .slice ao xs.length cap, .int .i64 cm, .slice aor rs.length capr] 35, .cells #[.int .i64 0, .slice none 0 0, .int .i64 0, .slice none 0 0] 35] := hloc1.put 0 rfl 2 (.int .i64 cm)
      have z0 : w1.cell? ⟨w.heap.size, 0, none⟩ = some (.int .i64 N) := hloc1.cell 0 rfl 0
      have z1 : w1.cell? ⟨w.heap.size, 1, none⟩ = some (.slice ao xs.length cap) := hloc1.cell 0 rfl 1
      have z2 : w1.cell? ⟨w.heap.size, 2, none⟩ = some (.int .i64 c) := hloc1.cell 0 rfl 2
      have z3 : w1.cell? ⟨w.heap.size, 3, none⟩ = some (.slice aor rs.length capr) := hloc1.cell 0 rfl 3
      have g2 : w1.frozen? ⟨w.heap.size, 2, none⟩ = false := hloc1.free 0 rfl 2
      clear hpz hbt hok hlr hce HF0
      by_cases hfar : 1152921504606846976 < cm
      · have HF := Lib.hid (HF.out.trans (Hfar.out hfar))
        have hb6 := below_grownBy hlocm.grown
        clear hloc1
        have t0 : (w1.setCell ⟨w.heap.size, 2, none⟩ (.int .i64 cm)).cell? ⟨w.heap.size + 1, 0, none⟩ = some (.int .i64 0) := hlocm.cell 1 rfl 0
        have f0 : (w1.setCell ⟨w.heap.size, 2, none⟩ (.int .i64 cm)).frozen? ⟨w.heap.size + 1, 0, none⟩ = false := hlocm.free 1 rfl 0
        have t1 : (w1.setCell ⟨w.heap.size, 2, none⟩ (.int .i64 cm)).cell? ⟨w.heap.size + 1, 1, none⟩ = some (.slice none 0 0) := hlocm.cell 1 rfl 1
        have f1 : (w1.setCell ⟨w.heap.size, 2, none⟩ (.int .i64 cm)).frozen? ⟨w.heap.size + 1, 1, none⟩ = false := hlocm.free 1 rfl 1
        have t2 : (w1.setCell ⟨w.heap.size, 2, none⟩ (.int .i64 cm)).cell? ⟨w.heap.size + 1, 2, none⟩ = some (.int .i64 0) := hlocm.cell 1 rfl 2
        have f2 : (w1.setCell ⟨w.heap.size, 2, none⟩ (.int .i64 cm)).frozen? ⟨w.heap.size + 1, 2, none⟩ = false := hlocm.free 1 rfl 2
        have t3 : (w1.setCell ⟨w.heap.size, 2, none⟩ (.int .i64 cm)).cell? ⟨w.heap.size + 1, 3, none⟩ = some (.slice none 0 0) := hlocm.cell 1 rfl 3
        have f3 : (w1.setCell ⟨w.heap.size, 2, none⟩ (.int .i64 cm)).frozen? ⟨w.heap.size + 1, 3, none⟩ = false := hlocm.free 1 rfl 3
        clear hlocm
        go_wp2_with fail
        refine bodyPost_ret (v := .tuple #[.agg #[.int .i64 0, .slice none 0 0, .int .i64 0, .slice none 0 0], .int .i64 7]) (by simp [results, Tryz.results31, go_sem, t0, t1, t2, t3]) rfl ⟨PO.err HF.out _, ?_⟩
        exact ((((hb6).setCell (by show w.heap.size ≤ w.heap.size + 1; omega) _).setCell (by show w.heap.size ≤ w.heap.size + 1; omega) _).setCell (by show w.heap.size ≤ w.heap.size + 1; omega) _).setCell (by show w.heap.size ≤ w.heap.size + 1; omega) _
      · skip
        go_wp2_with fail
        refine (HA.out _ (below_grownBy hlocm.grown)).mono ?_
        rintro e w3 ⟨⟨ao3, cap3, rfl, ho⟩, hb3⟩
        have hloc3 := hlocm.next (grownBy_below hb3 none) (fun _ h => by cases h)
        have hsm := hlocm.size
        have hs3 : w.heap.size + 2 ≤ w3.heap.size := hloc3.size
        have ho : OL 63 (w.heap.size + 2) w3 (.slice ao3 xs.length cap3) xs := owns_mono ho hsm
        clear hb3 hloc1 hlocm z0 z1 z2 z3 g2 hsm
        have HC := Lib.hid HF.out
        have hloc2 := hloc3.next (World.grownBy_alloc w3 (.cells #[.int .i64 N, .slice ao3 xs.length cap3] 32) none) (fun _ h => by cases h)
        have Ho := Lib.hid (show OL _ _ _ _ _ from World.ownsRow.alloc ho (.cells #[.int .i64 N, .slice ao3 xs.length cap3] 32))
        have z0 : (w3.alloc (.cells #[.int .i64 N, .slice ao3 xs.length cap3] 32)).cell? ⟨w.heap.size, 0, none⟩ = some (.int .i64 N) := hloc2.cell 0 rfl 0
        have z1 : (w3.alloc (.cells #[.int .i64 N, .slice ao3 xs.length cap3] 32)).cell? ⟨w.heap.size, 1, none⟩ = some (.slice ao xs.length cap) := hloc2.cell 0 rfl 1
        have z2 : (w3.alloc (.cells #[.int .i64 N, .slice ao3 xs.length cap3] 32)).cell? ⟨w.heap.size, 2, none⟩ = some (.int .i64 cm) := hloc2.cell 0 rfl 2
        have z3 : (w3.alloc (.cells #[.int .i64 N, .slice ao3 xs.length cap3] 32)).cell? ⟨w.heap.size, 3, none⟩ = some (.slice aor rs.length capr) := hloc2.cell 0 rfl 3
        have HOn := Lib.hid (HP.out (w3.alloc (.cells #[.int .i64 N, .slice ao3 xs.length cap3] 32)) (.slice ao3 xs.length cap3) (below_grownBy hloc2.grown) (OL.rl Ho.out))
        clear hloc3 ho HF
        rcases onF_two N xs cm rs xs 0 0 0 with ⟨C, R, hQ⟩ | hQ
        · skip
          rw [hQ] at HOn
          go_wp2_with fail
          refine HOn.out.mono ?_
          rintro e w5 ⟨⟨rv', he, hrv⟩, hb5⟩
          obtain rfl : e = .returned (.tuple #[.agg #[.int .i64 N, .slice ao3 xs.length cap3, .int .i64 C, rv'], .int .i64 0]) := he
          obtain ⟨ao4, cap4, rfl⟩ := owns_form hrv
          have hloc5 := hloc2.next (grownBy_below hb5 none) (fun _ h => by cases h)
          have hb6 := below_grownBy hloc5.grown
          have Ho5 := Lib.hid (OL.keepb Ho.out hb5)
          have Hrv := Lib.hid (show OL _ _ _ _ _ from owns_mono hrv (show w.heap.size + 2 ≤ _ by (try simp); omega))
          have HF := Lib.hid (HC.out.trans hQ)
          have t0 : w5.cell? ⟨w.heap.size + 1, 0, none⟩ = some (.int .i64 0) := hloc5.cell 1 rfl 0
          have f0 : w5.frozen? ⟨w.heap.size + 1, 0, none⟩ = false := hloc5.free 1 rfl 0
          have t1 : w5.cell? ⟨w.heap.size + 1, 1, none⟩ = some (.slice none 0 0) := hloc5.cell 1 rfl 1
          have f1 : w5.frozen? ⟨w.heap.size + 1, 1, none⟩ = false := hloc5.free 1 rfl 1
          have t2 : w5.cell? ⟨w.heap.size + 1, 2, none⟩ = some (.int .i64 0) := hloc5.cell 1 rfl 2
          have f2 : w5.frozen? ⟨w.heap.size + 1, 2, none⟩ = false := hloc5.free 1 rfl 2
          have t3 : w5.cell? ⟨w.heap.size + 1, 3, none⟩ = some (.slice none 0 0) := hloc5.cell 1 rfl 3
          have f3 : w5.frozen? ⟨w.heap.size + 1, 3, none⟩ = false := hloc5.free 1 rfl 3
          clear hb5 hrv
          go_wp2_with fail
          refine bodyPost_ret (v := .tuple #[.agg #[.int .i64 N, .slice ao3 xs.length cap3, .int .i64 C, .slice ao4 R.length cap4], .int .i64 0]) (by simp [results, Tryz.results31, go_sem, t0, t1, t2, t3]) rfl ⟨by rw [HF.out]; exact ⟨_, _, rfl, owns_mono (own_set4 Ho5.out (by omega) _ _ _ _) (by omega), owns_mono (own_set4 Hrv.out (by omega) _ _ _ _) (by omega)⟩, ?_⟩
          exact ((((hb6).setCell (by show w.heap.size ≤ w.heap.size + 1; omega) _).setCell (by show w.heap.size ≤ w.heap.size + 1; omega) _).setCell (by show w.heap.size ≤ w.heap.size + 1; omega) _).setCell (by show w.heap.size ≤ w.heap.size + 1; omega) _
        · skip
          rw [hQ] at HOn
          go_wp2_with fail
          refine HOn.out.mono ?_
          rintro e w5 ⟨⟨rv', he, hrv⟩, hb5⟩
          obtain rfl : e = .returned (.tuple #[.agg #[.int .i64 0, .slice none 0 0, .int .i64 0, rv'], .int .i64 7]) := he
          obtain ⟨ao4, cap4, rfl⟩ := owns_form hrv
          have hloc5 := hloc2.next (grownBy_below hb5 none) (fun _ h => by cases h)
          have hb6 := below_grownBy hloc5.grown
          have HF := Lib.hid (HC.out.trans hQ)
          have Hrv := Lib.hid (show OL _ _ _ _ _ from owns_mono hrv (show w.heap.size + 2 ≤ _ by (try simp); omega))
          have t0 : w5.cell? ⟨w.heap.size + 1, 0, none⟩ = some (.int .i64 0) := hloc5.cell 1 rfl 0
          have f0 : w5.frozen? ⟨w.heap.size + 1, 0, none⟩ = false := hloc5.free 1 rfl 0
          have t1 : w5.cell? ⟨w.heap.size + 1, 1, none⟩ = some (.slice none 0 0) := hloc5.cell 1 rfl 1
          have f1 : w5.frozen? ⟨w.heap.size + 1, 1, none⟩ = false := hloc5.free 1 rfl 1
          have t2 : w5.cell? ⟨w.heap.size + 1, 2, none⟩ = some (.int .i64 0) := hloc5.cell 1 rfl 2
          have f2 : w5.frozen? ⟨w.heap.size + 1, 2, none⟩ = false := hloc5.free 1 rfl 2
          have t3 : w5.cell? ⟨w.heap.size + 1, 3, none⟩ = some (.slice none 0 0) := hloc5.cell 1 rfl 3
          have f3 : w5.frozen? ⟨w.heap.size + 1, 3, none⟩ = false := hloc5.free 1 rfl 3
          clear hb5 hrv
          go_wp2_with fail
          refine bodyPost_ret (v := .tuple #[.agg #[.int .i64 0, .slice none 0 0, .int .i64 0, .slice ao4 (pv0.rs).length cap4], .int .i64 7]) (by simp [results, Tryz.results31, go_sem, t0, t1, t2, t3]) rfl ⟨by rw [HF.out]; exact ⟨_, _, rfl, OL.nil _ _ _, owns_mono (own_set4 Hrv.out (by omega) _ _ _ _) (by omega)⟩, ?_⟩
          exact ((((hb6).setCell (by show w.heap.size ≤ w.heap.size + 1; omega) _).setCell (by show w.heap.size ≤ w.heap.size + 1; omega) _).setCell (by show w.heap.size ≤ w.heap.size + 1; omega) _).setCell (by show w.heap.size ≤ w.heap.size + 1; omega) _
set_option maxRecDepth 100000 in
set_option maxHeartbeats 8000000 in
theorem ref_padd (n c m : Int) (v rv : Value) (xs rs : List Int) (w : World) (hv : RL w.heap.size w v xs) (hr : RL w.heap.size w rv rs) :
    Calls Tryz.prog 32 #[.agg #[.int .i64 n, v, .int .i64 c, rv], .int .i64 m] w fun e w' => PE v w.heap.size (paddF n xs c rs m) e w' ∧ Below w.heap.size w w' := by
  have Hv0 := Lib.hid hv
  have Hr := Lib.hid hr
  obtain ⟨ao, cap, rfl, hle, _⟩ := hv.open
  obtain ⟨aor, capr, rfl, hler, _⟩ := hr.open
  have hloc := Loc.two w (.cells #[.int .i64 n, .slice ao xs.length cap, .int .i64 c, .slice aor rs.length capr] 35) (.cells #[.int .i64 0, .slice none 0 0, .int .i64 0, .slice none 0 0] 35) none
  have HK := Lib.hid (fun X (hb : Below w.heap.size w X) => ref_pcheck n c _ _ xs rs X (Hv0.out.keepb hb) (Hr.out.keepb hb))
  clear hv hr
  go_enter Tryz.func32, Tryz.ntmps32
  go_wp2_with fail
  refine (HK.out _ (below_grownBy hloc.grown)).mono ?_
  rintro e w1 ⟨rfl, hb1⟩
  have hloc1 := hloc.next (grownBy_below hb1 none) (fun _ h => by cases h)
  clear hb1 hloc HK
  cases hpz : pzB n xs c rs with
  | false =>
    rw [pzE_no hpz]
    have HF := Lib.hid (show paddF n xs c rs m = (pv0, 2) by unfold paddF; rw [if_neg (by rw [hpz]; simp)])
    have hb6 := below_grownBy hloc1.grown
    clear hpz
    have t0 : w1.cell? ⟨w.heap.size + 1, 0, none⟩ = some (.int .i64 0) := hloc1.cell 1 rfl 0
    have f0 : w1.frozen? ⟨w.heap.size + 1, 0, none⟩ = false := hloc1.free 1 rfl 0
    have t1 : w1.cell? ⟨w.heap.size + 1, 1, none⟩ = some (.slice none 0 0) := hloc1.cell 1 rfl 1
    have f1 : w1.frozen? ⟨w.heap.size + 1, 1, none⟩ = false := hloc1.free 1 rfl 1
    have t2 : w1.cell? ⟨w.heap.size + 1, 2, none⟩ = some (.int .i64 0) := hloc1.cell 1 rfl 2
    have f2 : w1.frozen? ⟨w.heap.size + 1, 2, none⟩ = false := hloc1.free 1 rfl 2
    have t3 : w1.cell? ⟨w.heap.size + 1, 3, none⟩ = some (.slice none 0 0) := hloc1.cell 1 rfl 3
    have f3 : w1.frozen? ⟨w.heap.size + 1, 3, none⟩ = false := hloc1.free 1 rfl 3
    clear hloc1
    go_wp2_with fail
    refine bodyPost_ret (v := .tuple #[.agg #[.int .i64 0, .slice none 0 0, .int .i64 0, .slice none 0 0], .int .i64 2]) (by simp [results, Tryz.results32, go_sem, t0, t1, t2, t3]) rfl ⟨PE.err HF.out (by decide) _, ?_⟩
    exact ((((hb6).setCell (by show w.heap.size ≤ w.heap.size + 1; omega) _).setCell (by show w.heap.size ≤ w.heap.size + 1; omega) _).setCell (by show w.heap.size ≤ w.heap.size + 1; omega) _).setCell (by show w.heap.size ≤ w.heap.size + 1; omega) _
  | true =>
    rw [pzE_yes hpz]
    by_cases h0 : m < 0
    · have hbt : btw m 0 1152921504606846976 = false := by unfold btw; simp; omega
      have HF := Lib.hid (show paddF n xs c rs m = (pv0, 2) by unfold paddF; rw [if_neg (by rw [hbt]; simp)])
      have hb6 := below_grownBy hloc1.grown
      clear hpz hbt
      have t0 : w1.cell? ⟨w.heap.size + 1, 0, none⟩ = some (.int .i64 0) := hloc1.cell 1 rfl 0
      have f0 : w1.frozen? ⟨w.heap.size + 1, 0, none⟩ = false := hloc1.free 1 rfl 0
      have t1 : w1.cell? ⟨w.heap.size + 1, 1, none⟩ = some (.slice none 0 0) := hloc1.cell 1 rfl 1
      have f1 : w1.frozen? ⟨w.heap.size + 1, 1, none⟩ = false := hloc1.free 1 rfl 1
      have t2 : w1.cell? ⟨w.heap.size + 1, 2, none⟩ = some (.int .i64 0) := hloc1.cell 1 rfl 2
      have f2 : w1.frozen? ⟨w.heap.size + 1, 2, none⟩ = false := hloc1.free 1 rfl 2
      have t3 : w1.cell? ⟨w.heap.size + 1, 3, none⟩ = some (.slice none 0 0) := hloc1.cell 1 rfl 3
      have f3 : w1.frozen? ⟨w.heap.size + 1, 3, none⟩ = false := hloc1.free 1 rfl 3
      clear hloc1
      go_wp2_with fail
      refine bodyPost_ret (v := .tuple #[.agg #[.int .i64 0, .slice none 0 0, .int .i64 0, .slice none 0 0], .int .i64 2]) (by simp [results, Tryz.results32, go_sem, t0, t1, t2, t3]) rfl ⟨PE.err HF.out (by decide) _, ?_⟩
      exact ((((hb6).setCell (by show w.heap.size ≤ w.heap.size + 1; omega) _).setCell (by show w.heap.size ≤ w.heap.size + 1; omega) _).setCell (by show w.heap.size ≤ w.heap.size + 1; omega) _).setCell (by show w.heap.size ≤ w.heap.size + 1; omega) _
    · skip
      by_cases h1 : 1152921504606846976 < m
      · have hbt : btw m 0 1152921504606846976 = false := by unfold btw; simp; omega
        have HF := Lib.hid (show paddF n xs c rs m = (pv0, 2) by unfold paddF; rw [if_neg (by rw [hbt]; simp)])
        have hb6 := below_grownBy hloc1.grown
        clear hpz hbt
        have t0 : w1.cell? ⟨w.heap.size + 1, 0, none⟩ = some (.int .i64 0) := hloc1.cell 1 rfl 0
        have f0 : w1.frozen? ⟨w.heap.size + 1, 0, none⟩ = false := hloc1.free 1 rfl 0
        have t1 : w1.cell? ⟨w.heap.size + 1, 1, none⟩ = some (.slice none 0 0) := hloc1.cell 1 rfl 1
        have f1 : w1.frozen? ⟨w.heap.size + 1, 1, none⟩ = false := hloc1.free 1 rfl 1
        have t2 : w1.cell? ⟨w.heap.size + 1, 2, none⟩ = some (.int .i64 0) := hloc1.cell 1 rfl 2
        have f2 : w1.frozen? ⟨w.heap.size + 1, 2, none⟩ = false := hloc1.free 1 rfl 2
        have t3 : w1.cell? ⟨w.heap.size + 1, 3, none⟩ = some (.slice none 0 0) := hloc1.cell 1 rfl 3
        have f3 : w1.frozen? ⟨w.heap.size + 1, 3, none⟩ = false := hloc1.free 1 rfl 3
        clear hloc1
        go_wp2_with fail
        refine bodyPost_ret (v := .tuple #[.agg #[.int .i64 0, .slice none 0 0, .int .i64 0, .slice none 0 0], .int .i64 2]) (by simp [results, Tryz.results32, go_sem, t0, t1, t2, t3]) rfl ⟨PE.err HF.out (by decide) _, ?_⟩
        exact ((((hb6).setCell (by show w.heap.size ≤ w.heap.size + 1; omega) _).setCell (by show w.heap.size ≤ w.heap.size + 1; omega) _).setCell (by show w.heap.size ≤ w.heap.size + 1; omega) _).setCell (by show w.heap.size ≤ w.heap.size + 1; omega) _
      · have hbt : btw m 0 1152921504606846976 = true := by unfold btw; simp; omega
        have HF0 := Lib.hid (show paddF n xs c rs m = onF n.toNat xs (c + m) rs xs 0 0 0 by unfold paddF; rw [if_pos ⟨hpz, hbt⟩])
        have hr2 := padd_c hpz hbt
        obtain ⟨N, rfl, hok, hlr, _⟩ := pzB_nat hpz
        obtain ⟨cm, hcm⟩ : ∃ cm, IntKind.i64.wrap (c + m) = cm := ⟨_, rfl⟩
        have hcm' : wrap64 (c + m) = cm := (wrap_w64 _).trans hcm
        have hce : c + m = cm := (wrap_self hr2).symm.trans hcm
        have HC := Lib.hid (show paddF N xs c rs m = onF N xs cm rs xs 0 0 0 by rw [HF0.out, hce, Int.toNat_natCast])
        have HOn := Lib.hid (ref_part N 0 cm 0 0 (.slice ao xs.length cap) (.slice aor rs.length capr) (.slice ao xs.length cap) xs rs xs w1 (Hv0.out.keepb (below_grownBy hloc1.grown)) (Hr.out.keepb (below_grownBy hloc1.grown)) (Hv0.out.keepb (below_grownBy hloc1.grown)) hok hok hlr (Nat.zero_le _))
        have hloc2 := hloc1
        have hs3 : w.heap.size + 2 ≤ w1.heap.size := hloc2.size
        have z0 : w1.cell? ⟨w.heap.size, 0, none⟩ = some (.int .i64 N) := hloc1.cell 0 rfl 0
        have z1 : w1.cell? ⟨w.heap.size, 1, none⟩ = some (.slice ao xs.length cap) := hloc1.cell 0 rfl 1
        have z2 : w1.cell? ⟨w.heap.size, 2, none⟩ = some (.int .i64 c) := hloc1.cell 0 rfl 2
        have z3 : w1.cell? ⟨w.heap.size, 3, none⟩ = some (.slice aor rs.length capr) := hloc1.cell 0 rfl 3
        clear hpz hbt hok hlr hce HF0 hloc1 hr2
        rcases onF_two N xs cm rs xs 0 0 0 with ⟨C, R, hQ⟩ | hQ
        · skip
          rw [hQ] at HOn
          go_wp2_with fail
          refine HOn.out.mono ?_
          rintro e w5 ⟨⟨rv', he, hrv⟩, hb5⟩
          obtain rfl : e = .returned (.tuple #[.agg #[.int .i64 N, .slice ao xs.length cap, .int .i64 C, rv'], .int .i64 0]) := he
          obtain ⟨ao4, cap4, rfl⟩ := owns_form hrv
          have hloc5 := hloc2.next (grownBy_below hb5 none) (fun _ h => by cases h)
          have hb6 := below_grownBy hloc5.grown
          have Hrv := Lib.hid (show OL _ _ _ _ _ from owns_mono hrv (show w.heap.size + 2 ≤ _ by (try simp); omega))
          have HF := Lib.hid (HC.out.trans hQ)
          have t0 : w5.cell? ⟨w.heap.size + 1, 0, none⟩ = some (.int .i64 0) := hloc5.cell 1 rfl 0
          have f0 : w5.frozen? ⟨w.heap.size + 1, 0, none⟩ = false := hloc5.free 1 rfl 0
          have t1 : w5.cell? ⟨w.heap.size + 1, 1, none⟩ = some (.slice none 0 0) := hloc5.cell 1 rfl 1
          have f1 : w5.frozen? ⟨w.heap.size + 1, 1, none⟩ = false := hloc5.free 1 rfl 1
          have t2 : w5.cell? ⟨w.heap.size + 1, 2, none⟩ = some (.int .i64 0) := hloc5.cell 1 rfl 2
          have f2 : w5.frozen? ⟨w.heap.size + 1, 2, none⟩ = false := hloc5.free 1 rfl 2
          have t3 : w5.cell? ⟨w.heap.size + 1, 3, none⟩ = some (.slice none 0 0) := hloc5.cell 1 rfl 3
          have f3 : w5.frozen? ⟨w.heap.size + 1, 3, none⟩ = false := hloc5.free 1 rfl 3
          clear hb5 hrv
          go_wp2_with fail
          refine bodyPost_ret (v := .tuple #[.agg #[.int .i64 N, .slice ao xs.length cap, .int .i64 C, .slice ao4 R.length cap4], .int .i64 0]) (by simp [results, Tryz.results32, go_sem, t0, t1, t2, t3]) rfl ⟨by rw [HF.out]; exact ⟨_, rfl, owns_mono (own_set4 Hrv.out (by omega) _ _ _ _) (by omega)⟩, ?_⟩
          exact ((((hb6).setCell (by show w.heap.size ≤ w.heap.size + 1; omega) _).setCell (by show w.heap.size ≤ w.heap.size + 1; omega) _).setCell (by show w.heap.size ≤ w.heap.size + 1; omega) _).setCell (by show w.heap.size ≤ w.heap.size + 1; omega) _
        · skip
          rw [hQ] at HOn
          go_wp2_with fail
          refine HOn.out.mono ?_
          rintro e w5 ⟨⟨rv', he, hrv⟩, hb5⟩
          obtain rfl : e = .returned (.tuple #[.agg #[.int .i64 0, .slice none 0 0, .int .i64 0, rv'], .int .i64 7]) := he
          obtain ⟨ao4, cap4, rfl⟩ := owns_form hrv
          have hloc5 := hloc2.next (grownBy_below hb5 none) (fun _ h => by cases h)
          have hb6 := below_grownBy hloc5.grown
          have HF := Lib.hid (HC.out.trans hQ)
          have Hrv := Lib.hid (show OL _ _ _ _ _ from owns_mono hrv (show w.heap.size + 2 ≤ _ by (try simp); omega))
          have t0 : w5.cell? ⟨w.heap.size + 1, 0, none⟩ = some (.int .i64 0) := hloc5.cell 1 rfl 0
          have f0 : w5.frozen? ⟨w.heap.size + 1, 0, none⟩ = false := hloc5.free 1 rfl 0
          have t1 : w5.cell? ⟨w.heap.size + 1, 1, none⟩ = some (.slice none 0 0) := hloc5.cell 1 rfl 1
          have f1 : w5.frozen? ⟨w.heap.size + 1, 1, none⟩ = false := hloc5.free 1 rfl 1
          have t2 : w5.cell? ⟨w.heap.size + 1, 2, none⟩ = some (.int .i64 0) := hloc5.cell 1 rfl 2
          have f2 : w5.frozen? ⟨w.heap.size + 1, 2, none⟩ = false := hloc5.free 1 rfl 2
          have t3 : w5.cell? ⟨w.heap.size + 1, 3, none⟩ = some (.slice none 0 0) := hloc5.cell 1 rfl 3
          have f3 : w5.frozen? ⟨w.heap.size + 1, 3, none⟩ = false := hloc5.free 1 rfl 3
          clear hb5 hrv
          go_wp2_with fail
          refine bodyPost_ret (v := .tuple #[.agg #[.int .i64 0, .slice none 0 0, .int .i64 0, .slice ao4 (pv0.rs).length cap4], .int .i64 7]) (by simp [results, Tryz.results32, go_sem, t0, t1, t2, t3]) rfl ⟨by rw [HF.out]; exact ⟨_, rfl, owns_mono (own_set4 Hrv.out (by omega) _ _ _ _) (by omega)⟩, ?_⟩
          exact ((((hb6).setCell (by show w.heap.size ≤ w.heap.size + 1; omega) _).setCell (by show w.heap.size ≤ w.heap.size + 1; omega) _).setCell (by show w.heap.size ≤ w.heap.size + 1; omega) _).setCell (by show w.heap.size ≤ w.heap.size + 1; omega) _
end Go.Proofs.YtfphlpglgcmljaaGreat
