/- The reference's And. -/
import Derived.Test.YtfphlpglgcmljaaGreatPan
import Derived.Deep.RegionHeld3
import Derived.Deep.DeepCutAuto
namespace Go.Proofs.YtfphlpglgcmljaaGreat
open Go.RowKit
set_option linter.unusedVariables false
theorem own_other2 {t base bx : Nat} {w : World} {v : Value} {xs : List Int} (h : OL t base w v xs) (hn : v.ownBlock ≠ some bx) (u0 u1 : Value) : OL t base ((w.setCell ⟨bx, 0, none⟩ u0).setCell ⟨bx, 1, none⟩ u1) v xs :=
  ownsRow_other (ownsRow_other h hn) hn
theorem owns_form3 {t base : Nat} {w : World} {v : Value} {cs : List K3} (h : OK3 t base w v cs) : ∃ ao n cap, v = .slice ao n cap := by
  rcases h.2 with ⟨h1, h0⟩ | ⟨g, cap, cur, h1, _⟩
  · exact ⟨none, 0, 0, h1⟩
  · exact ⟨_, _, _, h1⟩
set_option maxRecDepth 100000 in
set_option maxHeartbeats 8000000 in
theorem ref_pand (n c : Int) (v rv lv : Value) (xs rs : List Int) (cs : List Kc) (w : World) (hv : RL w.heap.size w v xs) (hr : RL w.heap.size w rv rs) (hl : RX cdCon w.heap.size w lv cs) (hn : cs.length ≤ 1000) :
    Calls Tryz.prog 30 #[.agg #[.int .i64 n, v, .int .i64 c, rv], lv] w fun e w' => PO w.heap.size (pandF n xs c rs cs) e w' ∧ Below w.heap.size w w' := by
  have Hv0 := Lib.hid hv
  have Hr := Lib.hid hr
  have Hl := Lib.hid hl
  obtain ⟨ao, cap, rfl, hle, _⟩ := hv.open
  obtain ⟨aor, capr, rfl, hler, _⟩ := hr.open
  obtain ⟨aol, capl, rfl, hlel, _⟩ := hl.open
  have hloc := Loc.two w (.cells #[.int .i64 n, .slice ao xs.length cap, .int .i64 c, .slice aor rs.length capr] 35) (.cells #[.int .i64 0, .slice none 0 0, .int .i64 0, .slice none 0 0] 35) none
  have HK := Lib.hid (fun X (hb : Below w.heap.size w X) => ref_pcheck n c _ _ xs rs X (Hv0.out.keepb hb) (Hr.out.keepb hb))
  clear hv hr hl
  go_enter Tryz.func30, Tryz.ntmps30
  go_wp2_with fail
  refine (HK.out _ (below_grownBy hloc.grown)).mono ?_
  rintro e w1 ⟨rfl, hb1⟩
  have hloc1 := hloc.next (grownBy_below hb1 none) (fun _ h => by cases h)
  clear hb1 hloc HK
  cases hpz : pzB n xs c rs with
  | false =>
    rw [pzE_no hpz]
    have HF := Lib.hid (show pandF n xs c rs cs = (pv0, 2) by unfold pandF; rw [if_neg (by rw [hpz]; simp)])
    have hb6 := below_grownBy hloc1.grown
    clear hpz
    have t0 : w1.cell? ⟨w.heap.size + 1, 0, none⟩ = some (.int .i64 0) := hloc1.cell 1 rfl 0
    have f0 : w1.frozen? ⟨w.heap.size + 1, 0, none⟩ = false := hloc1.free 1 rfl 0
    have t1 : w1.cell? ⟨w.heap.size + 1, 1, none⟩ = some (.slice none 0 0) := hloc1.cell 1 rfl 1
    have f1 : w1.frozen? ⟨w.heap.size + 1, 1, none⟩ = false := hloc1.free 1 rfl 1
    have t2 : w1.cell? ⟨w.heap.size + 1, 2, none⟩ = some (.int .i64 0) := hloc1.cell 1 rfl 2
    have f2 : w1.frozen? ⟨w.heap.size + 1, 2, none⟩ = false := hloc1.free 1 rfl 2
    have t3 : w1.cell? ⟨w.heap.size + 1, 3, none⟩ = some (.slice none 0 0) := hloc1.cell 1 rfl 3
    have f3 : w1.frozen? ⟨w.heap.size + 1, 3, none⟩ = false := hloc1.free 1 rfl 3
    clear hloc1
    go_wp2_with fail
    refine bodyPost_ret (v := .tuple #[.agg #[.int .i64 0, .slice none 0 0, .int .i64 0, .slice none 0 0], .int .i64 2]) (by simp [results, Tryz.results30, go_sem, t0, t1, t2, t3]) rfl ⟨PO.err HF.out _, ?_⟩
    exact ((((hb6).setCell (by show w.heap.size ≤ w.heap.size + 1; omega) _).setCell (by show w.heap.size ≤ w.heap.size + 1; omega) _).setCell (by show w.heap.size ≤ w.heap.size + 1; omega) _).setCell (by show w.heap.size ≤ w.heap.size + 1; omega) _
  | true =>
    rw [pzE_yes hpz]
    have HK := Lib.hid (fun X (hb : Below w.heap.size w X) => ref_cons n _ cs X (RX.keepb Hl.out hb))
    have z0 : w1.cell? ⟨w.heap.size, 0, none⟩ = some (.int .i64 n) := hloc1.cell 0 rfl 0
    have z1 : w1.cell? ⟨w.heap.size, 1, none⟩ = some (.slice ao xs.length cap) := hloc1.cell 0 rfl 1
    have z2 : w1.cell? ⟨w.heap.size, 2, none⟩ = some (.int .i64 c) := hloc1.cell 0 rfl 2
    have z3 : w1.cell? ⟨w.heap.size, 3, none⟩ = some (.slice aor rs.length capr) := hloc1.cell 0 rfl 3
    go_wp2_with fail
    refine (HK.out _ (below_grownBy hloc1.grown)).mono ?_
    rintro e w2 ⟨rfl, hb2⟩
    have hloc2 := hloc1.next (grownBy_below hb2 none) (fun _ h => by cases h)
    clear hb2 hloc1 HK z0 z1 z2 z3
    cases hcn : cnsB n cs with
    | false =>
      have HF := Lib.hid (show pandF n xs c rs cs = (pv0, 2) by unfold pandF; rw [if_neg (by rw [hcn]; simp)])
      have hb6 := below_grownBy hloc2.grown
      clear hpz hcn
      have t0 : w2.cell? ⟨w.heap.size + 1, 0, none⟩ = some (.int .i64 0) := hloc2.cell 1 rfl 0
      have f0 : w2.frozen? ⟨w.heap.size + 1, 0, none⟩ = false := hloc2.free 1 rfl 0
      have t1 : w2.cell? ⟨w.heap.size + 1, 1, none⟩ = some (.slice none 0 0) := hloc2.cell 1 rfl 1
      have f1 : w2.frozen? ⟨w.heap.size + 1, 1, none⟩ = false := hloc2.free 1 rfl 1
      have t2 : w2.cell? ⟨w.heap.size + 1, 2, none⟩ = some (.int .i64 0) := hloc2.cell 1 rfl 2
      have f2 : w2.frozen? ⟨w.heap.size + 1, 2, none⟩ = false := hloc2.free 1 rfl 2
      have t3 : w2.cell? ⟨w.heap.size + 1, 3, none⟩ = some (.slice none 0 0) := hloc2.cell 1 rfl 3
      have f3 : w2.frozen? ⟨w.heap.size + 1, 3, none⟩ = false := hloc2.free 1 rfl 3
      clear hloc2
      go_wp2_with fail
      refine bodyPost_ret (v := .tuple #[.agg #[.int .i64 0, .slice none 0 0, .int .i64 0, .slice none 0 0], .int .i64 2]) (by simp [results, Tryz.results30, go_sem, t0, t1, t2, t3]) rfl ⟨PO.err HF.out _, ?_⟩
      exact ((((hb6).setCell (by show w.heap.size ≤ w.heap.size + 1; omega) _).setCell (by show w.heap.size ≤ w.heap.size + 1; omega) _).setCell (by show w.heap.size ≤ w.heap.size + 1; omega) _).setCell (by show w.heap.size ≤ w.heap.size + 1; omega) _
    | true =>
      obtain ⟨N, rfl, hok, hlr, hc⟩ := pzB_nat hpz
      have HC0 := Lib.hid (show pandF N xs c rs cs = pcutF 0 N xs c rs xs (cs.map con3) 0 0 0 by unfold pandF; rw [if_pos ⟨hpz, hcn⟩, Int.toNat_natCast])
      have HP := Lib.hid (fun (X : World) (R2 : List Int) (zv' : Value) (hb : Below w.heap.size w X) (hR : OkZ N R2) (hz' : RL X.heap.size X zv' R2) => ref_part N 0 c 0 0 (.slice ao xs.length cap) (.slice aor rs.length capr) zv' xs rs R2 X (Hv0.out.keepb hb) (Hr.out.keepb hb) hz' hok hR hlr (Nat.zero_le _))
      have HCons := Lib.hid (fun X (hX : Below w2.heap.size w2 X) => ref_constraints _ cs X (RX.keepb (RX.keepb Hl.out (below_grownBy hloc2.grown)) hX) hn)
      have HAnd0 := Lib.hid (fun X kv (hX : Below w2.heap.size w2 X) hk => ref_and N _ kv xs (cs.map con3) X ((Hv0.out.keepb (below_grownBy hloc2.grown)).keepb hX) hk)
      have Hand := Lib.hid (fun (x : Int) (R : List Int) (h : andF N xs (cs.map con3) = (x, R)) => (⟨fun e => HC0.out.trans (pcutF_yes (by rw [h, e])), fun e => HC0.out.trans (pcutF_no h e)⟩ : (x = 0 → pandF N xs c rs cs = onF N xs c rs R 0 0 0) ∧ (x ≠ 0 → pandF N xs c rs cs = (pv0, x))))
      have Hval := Lib.hid (fun (R : List Int) (h : andF N xs (cs.map con3) = (0, R)) => and_valid h)
      obtain ⟨R1, R2, D, hR, hD⟩ : ∃ R1 R2 D, andF N xs (cs.map con3) = (R1, R2) ∧ zdim (R1, R2) N = D := ⟨_, _, _, rfl, rfl⟩
      unfold ZPost at HAnd0
      rw [hR, hD] at HAnd0
      have HAnd := Lib.hid HAnd0.out
      have HV := Lib.hid (fun (e : R1 = 0) => Hval.out R2 (by rw [hR, e]))
      have HA2 := Lib.hid (Hand.out R1 R2 hR)
      have HD := Lib.hid hD
      have Hloc2 := Lib.hid hloc2
      have hs2 : w.heap.size + 2 ≤ w2.heap.size := hloc2.size
      have z0 : w2.cell? ⟨w.heap.size, 0, none⟩ = some (.int .i64 N) := hloc2.cell 0 rfl 0
      have z1 : w2.cell? ⟨w.heap.size, 1, none⟩ = some (.slice ao xs.length cap) := hloc2.cell 0 rfl 1
      have z2 : w2.cell? ⟨w.heap.size, 2, none⟩ = some (.int .i64 c) := hloc2.cell 0 rfl 2
      have z3 : w2.cell? ⟨w.heap.size, 3, none⟩ = some (.slice aor rs.length capr) := hloc2.cell 0 rfl 3
      have HS := Lib.hid (fun (X : World) (hX : Below w2.heap.size w2 X) => (⟨keepb z0 hX, keepb z1 hX⟩ : X.cell? ⟨w.heap.size, 0, none⟩ = some (.int .i64 N) ∧ X.cell? ⟨w.heap.size, 1, none⟩ = some (.slice ao xs.length cap)))
      clear hpz hcn hok hlr hc hloc2 HAnd0 Hand Hval hR hD HC0
      go_upto_region 3 with fail
      go_cut [6, 7] (fun s6 s7 wx => s7 = .int .i64 R1 ∧ ∃ bx ao3 cap3, s6 = .pointer (some ⟨bx, 0, none⟩) ∧ wx.heap[bx]? = some (.cells #[.int .i64 D, .slice ao3 R2.length cap3] 32 (0, 0)) ∧ OL 63 w2.heap.size wx (.slice ao3 R2.length cap3) R2 ∧ Below w2.heap.size w2 wx)
      case first =>
        refine wp_region_noPanic ?_
        refine wp_region_held_drew (S := (fun w' => w'.cell? ⟨w.heap.size, 0, none⟩ = some (.int .i64 N) ∧ w'.cell? ⟨w.heap.size, 1, none⟩ = some (.slice ao xs.length cap))) (by kernel_rfl) ⟨z0, z1⟩ (fun hHeld => ?_)
        refine wpAnyH_take (i := 0) (v := ?_) rfl (by kernel_rfl) (by kernel_rfl) (by kernel_rfl) (fun _ _ _ h => h) (Or.inl ⟨by rfl, ?_⟩) (by assumption) ?_
        rotate_left
        · intro w hSw; (try dsimp only at hSw); go_simp; (try with_reducible rfl)
        try simp only [Act.put, List.getElem_toArray, List.getElem_cons_zero, List.setIfInBounds_toArray, List.set_cons_zero, List.set_cons_succ]
        refine wpAnyH_take (i := 1) (v := ?_) rfl (by kernel_rfl) (by kernel_rfl) (by kernel_rfl) (fun _ _ _ h => h) (Or.inl ⟨by rfl, ?_⟩) (by assumption) ?_
        rotate_left
        · intro w hSw; (try dsimp only at hSw); go_simp; (try with_reducible rfl)
        try simp only [Act.put, List.getElem_toArray, List.getElem_cons_zero, List.getElem_cons_succ, List.setIfInBounds_toArray, List.set_cons_zero, List.set_cons_succ]
        refine wpAnyH_take (i := 2) (v := ?_) rfl (by kernel_rfl) (by kernel_rfl) (by kernel_rfl) (fun _ _ _ h => h) (Or.inl ⟨by rfl, ?_⟩) (by assumption) ?_
        rotate_left
        · intro w hSw; (try dsimp only at hSw); go_simp; (try with_reducible rfl)
        try simp only [Act.put, List.getElem_toArray, List.getElem_cons_zero, List.getElem_cons_succ, List.setIfInBounds_toArray, List.set_cons_zero, List.set_cons_succ]
        have H0 := Lib.hid (show Below w2.heap.size w2 w2.drew from (Below.refl _ _).drew)
        clear hHeld
        generalize w2.drew = X0 at *
        refine wpAnyH_ready (rs := [3, 8]) (by kernel_rfl) (by simp) ?_
        refine AllReadyH.cons rfl (fun K hK => ?_) (AllReadyH.cons rfl (fun K hK => ?_) (AllReadyH.nil))
        · skip
          go_simp
          refine (HCons.out X0 H0.out).mono ?_
          rintro e X1 ⟨⟨kv, rfl, hk3⟩, hb⟩
          obtain ⟨aok, nk, capk, rfl⟩ := owns_form3 hk3
          have H1 := Lib.hid (bt H0.out hb)
          have Hk := Lib.hid (OK3.rk hk3)
          refine hK.out _ _ (HS.out X1 H1.out) (fun hHeld2 => ?_)
          clear hK K hb hk3
          try simp only [Act.put, List.getElem_toArray, List.getElem_cons_zero, List.getElem_cons_succ, List.setIfInBounds_toArray, List.set_cons_zero, List.set_cons_succ]
          refine wpAnyH_ready (rs := [4, 8]) (by kernel_rfl) (by simp) ?_
          refine AllReadyH.cons rfl (fun K hK => ?_) (AllReadyH.cons rfl (fun K hK => ?_) (AllReadyH.nil))
          · skip
            go_simp
            refine (HAnd.out X1 _ H1.out Hk.out).mono ?_
            rintro e X2 ⟨⟨v', rfl, ho⟩, hb⟩
            obtain ⟨ao3, cap3, rfl⟩ := owns_form ho
            have H2 := Lib.hid (bt H1.out hb)
            have Ho := Lib.hid (show OL _ w2.heap.size _ _ _ from owns_mono ho H1.out.size)
            refine hK.out _ _ (HS.out X2 H2.out) (fun hHeld2 => ?_)
            clear hK K hb ho Hk
            try simp only [Act.put, List.getElem_toArray, List.getElem_cons_zero, List.getElem_cons_succ, List.setIfInBounds_toArray, List.set_cons_zero, List.set_cons_succ]
            refine wpAnyH_take (i := 5) (v := ?_) rfl (by kernel_rfl) (by kernel_rfl) (by kernel_rfl) (fun _ _ _ h => h) (Or.inl ⟨by rfl, ?_⟩) (by assumption) ?_
            rotate_left
            · intro w hSw; (try dsimp only at hSw); go_simp; (try with_reducible rfl)
            try simp only [Act.put, List.getElem_toArray, List.getElem_cons_zero, List.getElem_cons_succ, List.setIfInBounds_toArray, List.set_cons_zero, List.set_cons_succ]
            refine wpAnyH_take (i := 6) (v := ?_) rfl (by kernel_rfl) (by kernel_rfl) (by kernel_rfl) (fun _ _ _ h => h) (Or.inl ⟨by rfl, ?_⟩) (by assumption) ?_
            rotate_left
            · intro w hSw; (try dsimp only at hSw); go_simp; (try with_reducible rfl)
            try simp only [Act.put, List.getElem_toArray, List.getElem_cons_zero, List.getElem_cons_succ, List.setIfInBounds_toArray, List.set_cons_zero, List.set_cons_succ]
            refine wpAnyH_take (i := 7) (v := ?_) rfl (by kernel_rfl) (by kernel_rfl) (by kernel_rfl) (fun _ _ _ h => h) (Or.inl ⟨by rfl, ?_⟩) (by assumption) ?_
            rotate_left
            · intro w hSw; (try dsimp only at hSw); go_simp; (try with_reducible rfl)
            try simp only [Act.put, List.getElem_toArray, List.getElem_cons_zero, List.getElem_cons_succ, List.setIfInBounds_toArray, List.set_cons_zero, List.set_cons_succ]
            refine wpAnyH_ready (rs := [8]) (by kernel_rfl) (by simp) ?_
            refine AllReadyH.cons rfl (fun K hK => ?_) (AllReadyH.nil)
            · skip
              go_simp
              have H3' := bal H2.out (.cells #[.int .i64 0, .slice none 0 0] 32)
              have Hbx' := heap_alloc_new X2 (.cells #[.int .i64 0, .slice none 0 0] 32)
              have Hge' := H2.out.size
              have Hne' := Lib.hid (show (Value.slice ao3 R2.length cap3).ownBlock ≠ some X2.heap.size from fun e => by have h1 := (World.ownsRow.lt Ho.out X2.heap.size e).2; omega)
              have Ho' : OL _ _ (X2.alloc (.cells #[.int .i64 0, .slice none 0 0] 32)) _ R2 := World.ownsRow.alloc Ho.out _
              refine hK.out _ _ (HS.out _ H3') (fun hHeld2 => ?_)
              clear hK K
              generalize hgen : World.alloc X2 _ = X3 at *
              clear hgen
              generalize X2.heap.size = bx at *
              have H3 := Lib.hid H3'
              have Hbx := Lib.hid Hbx'
              have Hge := Lib.hid Hge'
              have Hne := Lib.hid Hne'.out
              clear Ho Hne'
              have Ho := Lib.hid Ho'
              clear Ho'
              clear H3' Hbx' Hge'
              try simp only [Act.put, List.getElem_toArray, List.getElem_cons_zero, List.getElem_cons_succ, List.setIfInBounds_toArray, List.set_cons_zero, List.set_cons_succ]
              refine wpAnyH_ready (rs := [9]) (by kernel_rfl) (by simp) ?_
              refine AllReadyH.cons rfl (fun K hK => ?_) (AllReadyH.nil)
              · skip
                have t0 := cell_of_row _ bx 0 _ _ _ Hbx.out
                have t1 := cell_of_row _ bx 1 _ _ _ Hbx.out
                have f0 := frozen_of_row _ bx 0 _ _ Hbx.out
                have f1 := frozen_of_row _ bx 1 _ _ Hbx.out
                have HF1 := Lib.hid (heap_setCell_same _ bx 1 _ _ (.slice ao3 R2.length cap3) (heap_setCell_same _ bx 0 _ _ (.int .i64 D) Hbx.out))
                have HF2 := Lib.hid (own_other2 Ho.out Hne.out (.int .i64 D) (.slice ao3 R2.length cap3))
                have HF3 := Lib.hid ((H3.out.setCell (p := ⟨bx, 0, none⟩) Hge.out (.int .i64 D)).setCell (p := ⟨bx, 1, none⟩) Hge.out (.slice ao3 R2.length cap3))
                go_simp
                refine hK.out _ _ (HS.out _ HF3.out) (fun hHeld2 => ?_)
                clear hK K t0 t1 f0 f1
                try simp only [Act.put, List.getElem_toArray, List.getElem_cons_zero, List.getElem_cons_succ, List.setIfInBounds_toArray, List.set_cons_zero, List.set_cons_succ]
                refine wpAnyH_take (i := 10) (v := ?_) rfl (by kernel_rfl) (by kernel_rfl) (by kernel_rfl) (fun _ _ _ h => h) (Or.inl ⟨by rfl, ?_⟩) (by assumption) ?_
                rotate_left
                · intro w hSw; (try dsimp only at hSw); go_simp; (try with_reducible rfl)
                try simp only [Act.put, List.getElem_toArray, List.getElem_cons_zero, List.getElem_cons_succ, List.setIfInBounds_toArray, List.set_cons_zero, List.set_cons_succ]
                refine wpAnyH_done (by kernel_rfl) ?_ _
                refine NoPanic.normal ?_
                go_wp2_with fail
                go_meet
                exact ⟨rfl, bx, ao3, cap3, rfl, HF1.out, HF2.out, HF3.out⟩
          · skip
            go_simp
            have H2' := bal H1.out (.cells #[.int .i64 0, .slice none 0 0] 32)
            have Hbx' := heap_alloc_new X1 (.cells #[.int .i64 0, .slice none 0 0] 32)
            have Hge' := H1.out.size
            have Hk' := RK.keepb Hk.out ((Below.refl X1.heap.size X1).alloc (Nat.le_refl _) (.cells #[.int .i64 0, .slice none 0 0] 32))
            refine hK.out _ _ (HS.out _ H2') (fun hHeld2 => ?_)
            clear hK K
            generalize hgen : World.alloc X1 _ = X2 at *
            clear hgen
            generalize X1.heap.size = bx at *
            have H2 := Lib.hid H2'
            have Hbx := Lib.hid Hbx'
            have Hge := Lib.hid Hge'
            clear Hk
            have Hk := Lib.hid Hk'
            clear Hk'
            clear H2' Hbx' Hge'
            try simp only [Act.put, List.getElem_toArray, List.getElem_cons_zero, List.getElem_cons_succ, List.setIfInBounds_toArray, List.set_cons_zero, List.set_cons_succ]
            refine wpAnyH_ready (rs := [4]) (by kernel_rfl) (by simp) ?_
            refine AllReadyH.cons rfl (fun K hK => ?_) (AllReadyH.nil)
            · skip
              go_simp
              refine (HAnd.out X2 _ H2.out Hk.out).mono ?_
              rintro e X3 ⟨⟨v', rfl, ho⟩, hb⟩
              obtain ⟨ao3, cap3, rfl⟩ := owns_form ho
              have H3 := Lib.hid (bt H2.out hb)
              have Ho := Lib.hid (show OL _ w2.heap.size _ _ _ from owns_mono ho H2.out.size)
              have Hne := Lib.hid (show (Value.slice ao3 R2.length cap3).ownBlock ≠ some bx from fun e => by have h1 := (World.ownsRow.lt ho bx e).1; have h2 := hp_lt3 Hbx.out; omega)
              replace Hbx := Lib.hid (hp_keep4 Hbx.out hb)
              refine hK.out _ _ (HS.out X3 H3.out) (fun hHeld2 => ?_)
              clear hK K hb ho Hk
              try simp only [Act.put, List.getElem_toArray, List.getElem_cons_zero, List.getElem_cons_succ, List.setIfInBounds_toArray, List.set_cons_zero, List.set_cons_succ]
              refine wpAnyH_take (i := 5) (v := ?_) rfl (by kernel_rfl) (by kernel_rfl) (by kernel_rfl) (fun _ _ _ h => h) (Or.inl ⟨by rfl, ?_⟩) (by assumption) ?_
              rotate_left
              · intro w hSw; (try dsimp only at hSw); go_simp; (try with_reducible rfl)
              try simp only [Act.put, List.getElem_toArray, List.getElem_cons_zero, List.getElem_cons_succ, List.setIfInBounds_toArray, List.set_cons_zero, List.set_cons_succ]
              refine wpAnyH_take (i := 6) (v := ?_) rfl (by kernel_rfl) (by kernel_rfl) (by kernel_rfl) (fun _ _ _ h => h) (Or.inl ⟨by rfl, ?_⟩) (by assumption) ?_
              rotate_left
              · intro w hSw; (try dsimp only at hSw); go_simp; (try with_reducible rfl)
              try simp only [Act.put, List.getElem_toArray, List.getElem_cons_zero, List.getElem_cons_succ, List.setIfInBounds_toArray, List.set_cons_zero, List.set_cons_succ]
              refine wpAnyH_take (i := 7) (v := ?_) rfl (by kernel_rfl) (by kernel_rfl) (by kernel_rfl) (fun _ _ _ h => h) (Or.inl ⟨by rfl, ?_⟩) (by assumption) ?_
              rotate_left
              · intro w hSw; (try dsimp only at hSw); go_simp; (try with_reducible rfl)
              try simp only [Act.put, List.getElem_toArray, List.getElem_cons_zero, List.getElem_cons_succ, List.setIfInBounds_toArray, List.set_cons_zero, List.set_cons_succ]
              refine wpAnyH_ready (rs := [9]) (by kernel_rfl) (by simp) ?_
              refine AllReadyH.cons rfl (fun K hK => ?_) (AllReadyH.nil)
              · skip
                have t0 := cell_of_row _ bx 0 _ _ _ Hbx.out
                have t1 := cell_of_row _ bx 1 _ _ _ Hbx.out
                have f0 := frozen_of_row _ bx 0 _ _ Hbx.out
                have f1 := frozen_of_row _ bx 1 _ _ Hbx.out
                have HF1 := Lib.hid (heap_setCell_same _ bx 1 _ _ (.slice ao3 R2.length cap3) (heap_setCell_same _ bx 0 _ _ (.int .i64 D) Hbx.out))
                have HF2 := Lib.hid (own_other2 Ho.out Hne.out (.int .i64 D) (.slice ao3 R2.length cap3))
                have HF3 := Lib.hid ((H3.out.setCell (p := ⟨bx, 0, none⟩) Hge.out (.int .i64 D)).setCell (p := ⟨bx, 1, none⟩) Hge.out (.slice ao3 R2.length cap3))
                go_simp
                refine hK.out _ _ (HS.out _ HF3.out) (fun hHeld2 => ?_)
                clear hK K t0 t1 f0 f1
                try simp only [Act.put, List.getElem_toArray, List.getElem_cons_zero, List.getElem_cons_succ, List.setIfInBounds_toArray, List.set_cons_zero, List.set_cons_succ]
                refine wpAnyH_take (i := 10) (v := ?_) rfl (by kernel_rfl) (by kernel_rfl) (by kernel_rfl) (fun _ _ _ h => h) (Or.inl ⟨by rfl, ?_⟩) (by assumption) ?_
                rotate_left
                · intro w hSw; (try dsimp only at hSw); go_simp; (try with_reducible rfl)
                try simp only [Act.put, List.getElem_toArray, List.getElem_cons_zero, List.getElem_cons_succ, List.setIfInBounds_toArray, List.set_cons_zero, List.set_cons_succ]
                refine wpAnyH_done (by kernel_rfl) ?_ _
                refine NoPanic.normal ?_
                go_wp2_with fail
                go_meet
                exact ⟨rfl, bx, ao3, cap3, rfl, HF1.out, HF2.out, HF3.out⟩
        · skip
          go_simp
          have H1' := bal H0.out (.cells #[.int .i64 0, .slice none 0 0] 32)
          have Hbx' := heap_alloc_new X0 (.cells #[.int .i64 0, .slice none 0 0] 32)
          have Hge' := H0.out.size
          refine hK.out _ _ (HS.out _ H1') (fun hHeld2 => ?_)
          clear hK K
          generalize hgen : World.alloc X0 _ = X1 at *
          clear hgen
          generalize X0.heap.size = bx at *
          have H1 := Lib.hid H1'
          have Hbx := Lib.hid Hbx'
          have Hge := Lib.hid Hge'
          clear H1' Hbx' Hge'
          try simp only [Act.put, List.getElem_toArray, List.getElem_cons_zero, List.getElem_cons_succ, List.setIfInBounds_toArray, List.set_cons_zero, List.set_cons_succ]
          refine wpAnyH_ready (rs := [3]) (by kernel_rfl) (by simp) ?_
          refine AllReadyH.cons rfl (fun K hK => ?_) (AllReadyH.nil)
          · skip
            go_simp
            refine (HCons.out X1 H1.out).mono ?_
            rintro e X2 ⟨⟨kv, rfl, hk3⟩, hb⟩
            obtain ⟨aok, nk, capk, rfl⟩ := owns_form3 hk3
            have H2 := Lib.hid (bt H1.out hb)
            have Hk := Lib.hid (OK3.rk hk3)
            replace Hbx := Lib.hid (hp_keep4 Hbx.out hb)
            refine hK.out _ _ (HS.out X2 H2.out) (fun hHeld2 => ?_)
            clear hK K hb hk3
            try simp only [Act.put, List.getElem_toArray, List.getElem_cons_zero, List.getElem_cons_succ, List.setIfInBounds_toArray, List.set_cons_zero, List.set_cons_succ]
            refine wpAnyH_ready (rs := [4]) (by kernel_rfl) (by simp) ?_
            refine AllReadyH.cons rfl (fun K hK => ?_) (AllReadyH.nil)
            · skip
              go_simp
              refine (HAnd.out X2 _ H2.out Hk.out).mono ?_
              rintro e X3 ⟨⟨v', rfl, ho⟩, hb⟩
              obtain ⟨ao3, cap3, rfl⟩ := owns_form ho
              have H3 := Lib.hid (bt H2.out hb)
              have Ho := Lib.hid (show OL _ w2.heap.size _ _ _ from owns_mono ho H2.out.size)
              have Hne := Lib.hid (show (Value.slice ao3 R2.length cap3).ownBlock ≠ some bx from fun e => by have h1 := (World.ownsRow.lt ho bx e).1; have h2 := hp_lt3 Hbx.out; omega)
              replace Hbx := Lib.hid (hp_keep4 Hbx.out hb)
              refine hK.out _ _ (HS.out X3 H3.out) (fun hHeld2 => ?_)
              clear hK K hb ho Hk
              try simp only [Act.put, List.getElem_toArray, List.getElem_cons_zero, List.getElem_cons_succ, List.setIfInBounds_toArray, List.set_cons_zero, List.set_cons_succ]
              refine wpAnyH_take (i := 5) (v := ?_) rfl (by kernel_rfl) (by kernel_rfl) (by kernel_rfl) (fun _ _ _ h => h) (Or.inl ⟨by rfl, ?_⟩) (by assumption) ?_
              rotate_left
              · intro w hSw; (try dsimp only at hSw); go_simp; (try with_reducible rfl)
              try simp only [Act.put, List.getElem_toArray, List.getElem_cons_zero, List.getElem_cons_succ, List.setIfInBounds_toArray, List.set_cons_zero, List.set_cons_succ]
              refine wpAnyH_take (i := 6) (v := ?_) rfl (by kernel_rfl) (by kernel_rfl) (by kernel_rfl) (fun _ _ _ h => h) (Or.inl ⟨by rfl, ?_⟩) (by assumption) ?_
              rotate_left
              · intro w hSw; (try dsimp only at hSw); go_simp; (try with_reducible rfl)
              try simp only [Act.put, List.getElem_toArray, List.getElem_cons_zero, List.getElem_cons_succ, List.setIfInBounds_toArray, List.set_cons_zero, List.set_cons_succ]
              refine wpAnyH_take (i := 7) (v := ?_) rfl (by kernel_rfl) (by kernel_rfl) (by kernel_rfl) (fun _ _ _ h => h) (Or.inl ⟨by rfl, ?_⟩) (by assumption) ?_
              rotate_left
              · intro w hSw; (try dsimp only at hSw); go_simp; (try with_reducible rfl)
              try simp only [Act.put, List.getElem_toArray, List.getElem_cons_zero, List.getElem_cons_succ, List.setIfInBounds_toArray, List.set_cons_zero, List.set_cons_succ]
              refine wpAnyH_ready (rs := [9]) (by kernel_rfl) (by simp) ?_
              refine AllReadyH.cons rfl (fun K hK => ?_) (AllReadyH.nil)
              · skip
                have t0 := cell_of_row _ bx 0 _ _ _ Hbx.out
                have t1 := cell_of_row _ bx 1 _ _ _ Hbx.out
                have f0 := frozen_of_row _ bx 0 _ _ Hbx.out
                have f1 := frozen_of_row _ bx 1 _ _ Hbx.out
                have HF1 := Lib.hid (heap_setCell_same _ bx 1 _ _ (.slice ao3 R2.length cap3) (heap_setCell_same _ bx 0 _ _ (.int .i64 D) Hbx.out))
                have HF2 := Lib.hid (own_other2 Ho.out Hne.out (.int .i64 D) (.slice ao3 R2.length cap3))
                have HF3 := Lib.hid ((H3.out.setCell (p := ⟨bx, 0, none⟩) Hge.out (.int .i64 D)).setCell (p := ⟨bx, 1, none⟩) Hge.out (.slice ao3 R2.length cap3))
                go_simp
                refine hK.out _ _ (HS.out _ HF3.out) (fun hHeld2 => ?_)
                clear hK K t0 t1 f0 f1
                try simp only [Act.put, List.getElem_toArray, List.getElem_cons_zero, List.getElem_cons_succ, List.setIfInBounds_toArray, List.set_cons_zero, List.set_cons_succ]
                refine wpAnyH_take (i := 10) (v := ?_) rfl (by kernel_rfl) (by kernel_rfl) (by kernel_rfl) (fun _ _ _ h => h) (Or.inl ⟨by rfl, ?_⟩) (by assumption) ?_
                rotate_left
                · intro w hSw; (try dsimp only at hSw); go_simp; (try with_reducible rfl)
                try simp only [Act.put, List.getElem_toArray, List.getElem_cons_zero, List.getElem_cons_succ, List.setIfInBounds_toArray, List.set_cons_zero, List.set_cons_succ]
                refine wpAnyH_done (by kernel_rfl) ?_ _
                refine NoPanic.normal ?_
                go_wp2_with fail
                go_meet
                exact ⟨rfl, bx, ao3, cap3, rfl, HF1.out, HF2.out, HF3.out⟩
      case rest =>
        obtain ⟨V, hV⟩ : ∃ V, V = wc := ⟨_, rfl⟩
        subst hV
        obtain ⟨rfl, bx, ao3, cap3, rfl, hbx, ho, hbel⟩ := hcut
        have hloc3 := Hloc2.out.next (grownBy_below hbel none) (fun _ h => by cases h)
        have Ho := Lib.hid (show OL _ _ _ _ _ from owns_mono ho hs2)
        have b0 := cell_of_row _ bx 0 _ _ _ hbx
        have b1 := cell_of_row _ bx 1 _ _ _ hbx
        have hs3 : w.heap.size + 2 ≤ V.heap.size := hloc3.size
        clear HS HCons HAnd Hloc2 z0 z1 z2 z3 hbx ho hbel
        by_cases hR1 : R1 = 0
        · subst hR1
          obtain rfl : (N : Int) = D := by have := HD.out; simpa [zdim] using this
          have HC := Lib.hid (HA2.out.1 rfl)
          have hloc2 := hloc3
          have z0 : V.cell? ⟨w.heap.size, 0, none⟩ = some (.int .i64 N) := hloc2.cell 0 rfl 0
          have z1 : V.cell? ⟨w.heap.size, 1, none⟩ = some (.slice ao xs.length cap) := hloc2.cell 0 rfl 1
          have z2 : V.cell? ⟨w.heap.size, 2, none⟩ = some (.int .i64 c) := hloc2.cell 0 rfl 2
          have z3 : V.cell? ⟨w.heap.size, 3, none⟩ = some (.slice aor rs.length capr) := hloc2.cell 0 rfl 3
          have HOn := Lib.hid (HP.out V R2 (.slice ao3 R2.length cap3) (below_grownBy hloc2.grown) (HV.out rfl) (OL.rl Ho.out))
          clear hloc3
          rcases onF_two N xs c rs R2 0 0 0 with ⟨C, R, hQ⟩ | hQ
          · skip
            rw [hQ] at HOn
            go_wp2_with fail
            refine HOn.out.mono ?_
            rintro e w5 ⟨⟨rv', he, hrv⟩, hb5⟩
            obtain rfl : e = .returned (.tuple #[.agg #[.int .i64 N, .slice ao3 R2.length cap3, .int .i64 C, rv'], .int .i64 0]) := he
            obtain ⟨ao4, cap4, rfl⟩ := owns_form hrv
            have hloc5 := hloc2.next (grownBy_below hb5 none) (fun _ h => by cases h)
            have hb6 := below_grownBy hloc5.grown
            have Ho5 := Lib.hid (OL.keepb Ho.out hb5)
            have Hrv := Lib.hid (show OL _ _ _ _ _ from owns_mono hrv (show w.heap.size + 2 ≤ _ by (try simp); omega))
            have HF := Lib.hid (HC.out.trans hQ)
            have t0 : w5.cell? ⟨w.heap.size + 1, 0, none⟩ = some (.int .i64 0) := hloc5.cell 1 rfl 0
            have f0 : w5.frozen? ⟨w.heap.size + 1, 0, none⟩ = false := hloc5.free 1 rfl 0
            have t1 : w5.cell? ⟨w.heap.size + 1, 1, none⟩ = some (.slice none 0 0) := hloc5.cell 1 rfl 1
            have f1 : w5.frozen? ⟨w.heap.size + 1, 1, none⟩ = false := hloc5.free 1 rfl 1
            have t2 : w5.cell? ⟨w.heap.size + 1, 2, none⟩ = some (.int .i64 0) := hloc5.cell 1 rfl 2
            have f2 : w5.frozen? ⟨w.heap.size + 1, 2, none⟩ = false := hloc5.free 1 rfl 2
            have t3 : w5.cell? ⟨w.heap.size + 1, 3, none⟩ = some (.slice none 0 0) := hloc5.cell 1 rfl 3
            have f3 : w5.frozen? ⟨w.heap.size + 1, 3, none⟩ = false := hloc5.free 1 rfl 3
            clear hb5 hrv
            go_wp2_with fail
            refine bodyPost_ret (v := .tuple #[.agg #[.int .i64 N, .slice ao3 R2.length cap3, .int .i64 C, .slice ao4 R.length cap4], .int .i64 0]) (by simp [results, Tryz.results30, go_sem, t0, t1, t2, t3]) rfl ⟨by rw [HF.out]; exact ⟨_, _, rfl, owns_mono (own_set4 Ho5.out (by omega) _ _ _ _) (by omega), owns_mono (own_set4 Hrv.out (by omega) _ _ _ _) (by omega)⟩, ?_⟩
            exact ((((hb6).setCell (by show w.heap.size ≤ w.heap.size + 1; omega) _).setCell (by show w.heap.size ≤ w.heap.size + 1; omega) _).setCell (by show w.heap.size ≤ w.heap.size + 1; omega) _).setCell (by show w.heap.size ≤ w.heap.size + 1; omega) _
          · skip
            rw [hQ] at HOn
            go_wp2_with fail
            refine HOn.out.mono ?_
            rintro e w5 ⟨⟨rv', he, hrv⟩, hb5⟩
            obtain rfl : e = .returned (.tuple #[.agg #[.int .i64 0, .slice none 0 0, .int .i64 0, rv'], .int .i64 7]) := he
            obtain ⟨ao4, cap4, rfl⟩ := owns_form hrv
            have hloc5 := hloc2.next (grownBy_below hb5 none) (fun _ h => by cases h)
            have hb6 := below_grownBy hloc5.grown
            have HF := Lib.hid (HC.out.trans hQ)
            have Hrv := Lib.hid (show OL _ _ _ _ _ from owns_mono hrv (show w.heap.size + 2 ≤ _ by (try simp); omega))
            have t0 : w5.cell? ⟨w.heap.size + 1, 0, none⟩ = some (.int .i64 0) := hloc5.cell 1 rfl 0
            have f0 : w5.frozen? ⟨w.heap.size + 1, 0, none⟩ = false := hloc5.free 1 rfl 0
            have t1 : w5.cell? ⟨w.heap.size + 1, 1, none⟩ = some (.slice none 0 0) := hloc5.cell 1 rfl 1
            have f1 : w5.frozen? ⟨w.heap.size + 1, 1, none⟩ = false := hloc5.free 1 rfl 1
            have t2 : w5.cell? ⟨w.heap.size + 1, 2, none⟩ = some (.int .i64 0) := hloc5.cell 1 rfl 2
            have f2 : w5.frozen? ⟨w.heap.size + 1, 2, none⟩ = false := hloc5.free 1 rfl 2
            have t3 : w5.cell? ⟨w.heap.size + 1, 3, none⟩ = some (.slice none 0 0) := hloc5.cell 1 rfl 3
            have f3 : w5.frozen? ⟨w.heap.size + 1, 3, none⟩ = false := hloc5.free 1 rfl 3
            clear hb5 hrv
            go_wp2_with fail
            refine bodyPost_ret (v := .tuple #[.agg #[.int .i64 0, .slice none 0 0, .int .i64 0, .slice ao4 (pv0.rs).length cap4], .int .i64 7]) (by simp [results, Tryz.results30, go_sem, t0, t1, t2, t3]) rfl ⟨by rw [HF.out]; exact ⟨_, _, rfl, OL.nil _ _ _, owns_mono (own_set4 Hrv.out (by omega) _ _ _ _) (by omega)⟩, ?_⟩
            exact ((((hb6).setCell (by show w.heap.size ≤ w.heap.size + 1; omega) _).setCell (by show w.heap.size ≤ w.heap.size + 1; omega) _).setCell (by show w.heap.size ≤ w.heap.size + 1; omega) _).setCell (by show w.heap.size ≤ w.heap.size + 1; omega) _
        · have hR1' : (R1 != 0) = true := by simpa using hR1
          have HF := Lib.hid (HA2.out.2 hR1)
          have hb6 := below_grownBy hloc3.grown
          clear hR1 b0 b1
          have t0 : V.cell? ⟨w.heap.size + 1, 0, none⟩ = some (.int .i64 0) := hloc3.cell 1 rfl 0
          have f0 : V.frozen? ⟨w.heap.size + 1, 0, none⟩ = false := hloc3.free 1 rfl 0
          have t1 : V.cell? ⟨w.heap.size + 1, 1, none⟩ = some (.slice none 0 0) := hloc3.cell 1 rfl 1
          have f1 : V.frozen? ⟨w.heap.size + 1, 1, none⟩ = false := hloc3.free 1 rfl 1
          have t2 : V.cell? ⟨w.heap.size + 1, 2, none⟩ = some (.int .i64 0) := hloc3.cell 1 rfl 2
          have f2 : V.frozen? ⟨w.heap.size + 1, 2, none⟩ = false := hloc3.free 1 rfl 2
          have t3 : V.cell? ⟨w.heap.size + 1, 3, none⟩ = some (.slice none 0 0) := hloc3.cell 1 rfl 3
          have f3 : V.frozen? ⟨w.heap.size + 1, 3, none⟩ = false := hloc3.free 1 rfl 3
          clear hloc3
          go_wp2_with fail
          refine bodyPost_ret (v := .tuple #[.agg #[.int .i64 0, .slice none 0 0, .int .i64 0, .slice none 0 0], .int .i64 R1]) (by simp [results, Tryz.results30, go_sem, t0, t1, t2, t3]) rfl ⟨PO.err HF.out _, ?_⟩
          exact ((((hb6).setCell (by show w.heap.size ≤ w.heap.size + 1; omega) _).setCell (by show w.heap.size ≤ w.heap.size + 1; omega) _).setCell (by show w.heap.size ≤ w.heap.size + 1; omega) _).setCell (by show w.heap.size ≤ w.heap.size + 1; omega) _
end Go.Proofs.YtfphlpglgcmljaaGreat
