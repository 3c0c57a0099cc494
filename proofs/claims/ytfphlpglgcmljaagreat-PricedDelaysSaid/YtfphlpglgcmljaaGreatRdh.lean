/- The reference's Delay, where the rest does not fall and nothing stays. -/
import Derived.Test.YtfphlpglgcmljaaGreatRdl
namespace Go.Proofs.YtfphlpglgcmljaaGreat
open Go.RowKit
set_option linter.unusedVariables false
set_option maxRecDepth 100000 in
set_option maxHeartbeats 32000000 in
theorem ref_delay_hi0 (n c rate : Int) (v rv lv : Value) (xs rs : List Int) (cs : List Kc) (w : World) (hv : RL w.heap.size w v xs) (hr : RL w.heap.size w rv rs) (hl : RX cdCon w.heap.size w lv cs) (hn : cs.length ≤ 1000) (hcm : 0 ≤ moTo rate rs rs.length) (hcn : (andF n.toNat xs (cs.map con3)).1 ≠ 0) :
    Calls Tryz.prog 18 #[.agg #[.int .i64 n, v, .int .i64 c, rv], .int .i64 rate, lv] w fun e w' => GaP w.heap.size (delayF n xs c rs rate cs) e w' ∧ Below w.heap.size w w' := by
  have Hv := Lib.hid hv
  have Hr := Lib.hid hr
  have Hl := Lib.hid hl
  obtain ⟨ao, cap, rfl, hle, _⟩ := hv.open
  obtain ⟨aor, capr, rfl, hler, hcr⟩ := (RL.re hr).open
  obtain ⟨aol, capl, rfl, hlel, _⟩ := hl.open
  have Hcr := Lib.hid hcr
  have HW := Lib.hid (Below.refl w.heap.size w)
  clear hv hr hl hcr
  have Hcm := Lib.hid hcm
  have Hcn := Lib.hid hcn
  clear hcm hcn
  go_enter Tryz.func18, Tryz.ntmps18
  have hba := (Below.refl _ w).alloc (Nat.le_refl _) (.cells #[.int .i64 n, .slice ao xs.length cap, .int .i64 c, .slice aor rs.length capr] 35)
  have hqn := heap_alloc_new w (.cells #[.int .i64 n, .slice ao xs.length cap, .int .i64 c, .slice aor rs.length capr] 35)
  have hqW := HW.out.size
  have hqw := bt HW.out hba
  clear hba HW
  go_upto_region 1 with fail
  generalize hgen : w.alloc (.cells #[.int .i64 n, .slice ao xs.length cap, .int .i64 c, .slice aor rs.length capr] 35) = X0 at *
  clear hgen
  have HBz := Lib.hid hqn
  have HW := Lib.hid hqw
  clear hqn hqw
  have z0 : X0.cell? ⟨w.heap.size, 0, none⟩ = some (.int .i64 n) := cell_of_row _ (w.heap.size) 0 _ _ _ HBz.out
  have z1 : X0.cell? ⟨w.heap.size, 1, none⟩ = some (.slice ao xs.length cap) := cell_of_row _ (w.heap.size) 1 _ _ _ HBz.out
  have z2 : X0.cell? ⟨w.heap.size, 2, none⟩ = some (.int .i64 c) := cell_of_row _ (w.heap.size) 2 _ _ _ HBz.out
  have z3 : X0.cell? ⟨w.heap.size, 3, none⟩ = some (.slice aor rs.length capr) := cell_of_row _ (w.heap.size) 3 _ _ _ HBz.out
  go_wp2_with fail
  refine (ref_pcheck n c _ _ xs rs _ (Hv.out.keepb HW.out) (Hr.out.keepb HW.out)).mono ?_
  rintro e w1 ⟨rfl, hb⟩
  clear z0 z1 z2 z3
  replace HBz := Lib.hid (hp_keep4 HBz.out hb)
  replace HW := Lib.hid (bt HW.out hb)
  clear hb
  cases hpz : pzB n xs c rs with
  | false =>
    rw [pzE_no hpz]
    have HF := Lib.hid (delay_bad (rate := rate) (inv := cs) (fun h => by rw [hpz] at h; exact absurd h.1 (by simp)) : delayF n xs c rs rate cs = ([], 2))
    go_wp2_with fail
    exact bodyPost_ret (v := .tuple #[.slice none 0 0, .int .i64 2]) (by simp [results, Tryz.results18, go_sem]) rfl ⟨GaP.err HF.out _, HW.out⟩
  | true =>
    rw [pzE_yes hpz]
    obtain ⟨N, rfl, hok, hlr, hc⟩ := pzB_nat hpz
    have hN : N ≤ 10 := by have := hok.hi; omega
    have Hok := Lib.hid hok
    have Hc := Lib.hid hc
    have Hlr := Lib.hid hlr
    have HPZ := Lib.hid (show pzB N xs c rs = true from hpz)
    clear hok hlr hc hpz
    by_cases hr0 : rate < 0
    · have hrb : decide (rate < 0) = true := by simpa using hr0
      have HF := Lib.hid (delay_bad (rate := rate) (inv := cs) (fun h => by have := h.2.1; unfold btw at this; simp at this; omega) : delayF N xs c rs rate cs = ([], 2))
      clear hr0
      go_wp2_with fail
      exact bodyPost_ret (v := .tuple #[.slice none 0 0, .int .i64 2]) (by simp [results, Tryz.results18, go_sem]) rfl ⟨GaP.err HF.out _, HW.out⟩
    have hrb : decide (rate < 0) = false := by simpa using hr0
    by_cases hr1 : 10000 < rate
    · have hrc : decide (10000 < rate) = true := by simpa using hr1
      have hrd : decide (rate > 10000) = true := by simpa using hr1
      have HF := Lib.hid (delay_bad (rate := rate) (inv := cs) (fun h => by have := h.2.1; unfold btw at this; simp at this; omega) : delayF N xs c rs rate cs = ([], 2))
      clear hr0 hr1
      go_wp2_with fail
      exact bodyPost_ret (v := .tuple #[.slice none 0 0, .int .i64 2]) (by simp [results, Tryz.results18, go_sem]) rfl ⟨GaP.err HF.out _, HW.out⟩
    have hrc : decide (10000 < rate) = false := by simpa using hr1
    have hrd : decide (rate > 10000) = false := by simpa using hr1
    have hrt : btw rate 0 10000 = true := by unfold btw; simp; omega
    clear hr0 hr1
    have z0 : w1.cell? ⟨w.heap.size, 0, none⟩ = some (.int .i64 N) := cell_of_row _ (w.heap.size) 0 _ _ _ HBz.out
    have z1 : w1.cell? ⟨w.heap.size, 1, none⟩ = some (.slice ao xs.length cap) := cell_of_row _ (w.heap.size) 1 _ _ _ HBz.out
    have z2 : w1.cell? ⟨w.heap.size, 2, none⟩ = some (.int .i64 c) := cell_of_row _ (w.heap.size) 2 _ _ _ HBz.out
    have z3 : w1.cell? ⟨w.heap.size, 3, none⟩ = some (.slice aor rs.length capr) := cell_of_row _ (w.heap.size) 3 _ _ _ HBz.out
    go_wp2_with fail
    refine (ref_invariant N _ cs _ (Hl.out.keepb HW.out)).mono ?_
    rintro e w2 ⟨rfl, hb⟩
    clear z0 z1 z2 z3
    replace HBz := Lib.hid (hp_keep4 HBz.out hb)
    replace HW := Lib.hid (bt HW.out hb)
    clear hb
    cases hiv : invB N cs with
    | false =>
      have HF := Lib.hid (delay_bad (rate := rate) (inv := cs) (fun h => by rw [hiv] at h; exact absurd h.2.2 (by simp)) : delayF N xs c rs rate cs = ([], 2))
      go_wp2_with fail
      exact bodyPost_ret (v := .tuple #[.slice none 0 0, .int .i64 2]) (by simp [results, Tryz.results18, go_sem]) rfl ⟨GaP.err HF.out _, HW.out⟩
    | true =>
      have HPRE := Lib.hid (show pzB N xs c rs = true ∧ btw rate 0 10000 = true ∧ invB N cs = true from ⟨HPZ.out, hrt, hiv⟩)
      clear hrt hiv hrb hrc hrd
      have z0 : w2.cell? ⟨w.heap.size, 0, none⟩ = some (.int .i64 N) := cell_of_row _ (w.heap.size) 0 _ _ _ HBz.out
      have z1 : w2.cell? ⟨w.heap.size, 1, none⟩ = some (.slice ao xs.length cap) := cell_of_row _ (w.heap.size) 1 _ _ _ HBz.out
      have z2 : w2.cell? ⟨w.heap.size, 2, none⟩ = some (.int .i64 c) := cell_of_row _ (w.heap.size) 2 _ _ _ HBz.out
      have z3 : w2.cell? ⟨w.heap.size, 3, none⟩ = some (.slice aor rs.length capr) := cell_of_row _ (w.heap.size) 3 _ _ _ HBz.out
      go_wp2_with fail
      refine (ref_up N _ xs _ (Hv.out.keepb HW.out)).mono ?_
      rw [up_val Hok.out]
      rintro e w3 ⟨⟨vu, he, hou⟩, hb⟩
      obtain rfl : e = .returned (.tuple #[.agg #[.int .i64 N, vu], .int .i64 0]) := he
      have hou : OL _ _ _ _ (upTo N xs N) := hou
      obtain ⟨aou, capu, rfl⟩ := owns_form hou
      have HU := Lib.hid (OL.mono hou (Nat.zero_le _))
      generalize hU : upTo N xs N = us at *
      have HUS := Lib.hid hU
      clear hou hU
      clear z0 z1 z2 z3
      replace HBz := Lib.hid (hp_keep4 HBz.out hb)
      replace HW := Lib.hid (bt HW.out hb)
      clear hb
      have hba := (Below.refl _ w3).alloc (Nat.le_refl _) (.cells #[.int .i64 N, .slice aou us.length capu] 32)
      have hqn := heap_alloc_new w3 (.cells #[.int .i64 N, .slice aou us.length capu] 32)
      have hqW := HW.out.size
      have hlz : w.heap.size < w3.heap.size := hp_lt3 HBz.out
      have hqz := hp_keep4 HBz.out hba
      have hqHU := OL.keepb HU.out hba
      have hqw := bt HW.out hba
      clear hba HW HBz HU
      go_upto_region 4 with fail
      generalize hgen : w3.alloc (.cells #[.int .i64 N, .slice aou us.length capu] 32) = X3 at *
      clear hgen
      generalize hgen : w3.heap.size = U at *
      clear hgen
      have HBu := Lib.hid hqn
      have HBz := Lib.hid hqz
      have HU := Lib.hid hqHU
      have HW := Lib.hid hqw
      clear hqn hqw hqz hqHU
      have u0 : X3.cell? ⟨U, 0, none⟩ = some (.int .i64 N) := cell_of_row _ (U) 0 _ _ _ HBu.out
      have u1 : X3.cell? ⟨U, 1, none⟩ = some (.slice aou us.length capu) := cell_of_row _ (U) 1 _ _ _ HBu.out
      obtain ⟨A1, zs, D1, hR, hD⟩ : ∃ R1 R2 D, andF N us (cs.map con3) = (R1, R2) ∧ zdim (R1, R2) (N : Int) = D := ⟨_, _, _, rfl, rfl⟩
      have HRA1 := Lib.hid hR
      have HDA1 := Lib.hid hD
      have HCons := Lib.hid (fun (X : World) (hX : Below X3.heap.size X3 X) => ref_constraints _ cs X (Hl.out.keepb (bt HW.out hX)) hn)
      have HAnd0 := Lib.hid (fun (X : World) (kv : Value) (hX : Below X3.heap.size X3 X) (hk : RK X.heap.size X kv (cs.map con3)) => ref_and N _ kv us _ X (OL.rl (OL.keepb HU.out hX)) hk)
      unfold ZPost at HAnd0
      rw [hR, hD] at HAnd0
      have HAnd := Lib.hid HAnd0.out
      clear HAnd0 hR hD
      have HS := Lib.hid (fun (X : World) (hX : Below X3.heap.size X3 X) => (⟨cell_of_row _ U 0 _ _ _ (hp_keep4 HBu.out hX), cell_of_row _ U 1 _ _ _ (hp_keep4 HBu.out hX)⟩ : X.cell? ⟨U, 0, none⟩ = some (.int .i64 N) ∧ X.cell? ⟨U, 1, none⟩ = some (.slice aou us.length capu)))
      go_upto_region 4 with fail
      go_cut [10, 11] (fun s6 s7 wx => s7 = .int .i64 A1 ∧ ∃ bx ao3 cap3, s6 = .pointer (some ⟨bx, 0, none⟩) ∧ wx.heap[bx]? = some (.cells #[.int .i64 D1, .slice ao3 zs.length cap3] 32 (0, 0)) ∧ OL 63 X3.heap.size wx (.slice ao3 zs.length cap3) zs ∧ X3.heap.size ≤ bx ∧ Below X3.heap.size X3 wx)
      case first =>
        refine wp_region_noPanic ?_
        refine wp_region_held_drew (S := (fun w' => w'.cell? ⟨U, 0, none⟩ = some (.int .i64 N) ∧ w'.cell? ⟨U, 1, none⟩ = some (.slice aou us.length capu))) (by kernel_rfl) ⟨u0, u1⟩ (fun hHeld => ?_)
        refine wpAnyH_take (i := 0) (v := ?_) rfl (by kernel_rfl) (by kernel_rfl) (by kernel_rfl) (fun _ _ _ h => h) (Or.inl ⟨by rfl, ?_⟩) (by assumption) ?_
        rotate_left
        · intro w hSw; (try dsimp only at hSw); go_simp; (try with_reducible rfl)
        try simp only [Act.put, List.getElem_toArray, List.getElem_cons_zero, List.setIfInBounds_toArray, List.set_cons_zero, List.set_cons_succ]
        refine wpAnyH_take (i := 1) (v := ?_) rfl (by kernel_rfl) (by kernel_rfl) (by kernel_rfl) (fun _ _ _ h => h) (Or.inl ⟨by rfl, ?_⟩) (by assumption) ?_
        rotate_left
        · intro w hSw; (try dsimp only at hSw); go_simp; (try with_reducible rfl)
        try simp only [Act.put, List.getElem_toArray, List.getElem_cons_zero, List.getElem_cons_succ, List.setIfInBounds_toArray, List.set_cons_zero, List.set_cons_succ]
        have H0 := Lib.hid (show Below X3.heap.size X3 X3.drew from (Below.refl _ _).drew)
        clear hHeld
        generalize X3.drew = L0 at *
        refine wpAnyH_ready (rs := [2, 7]) (by kernel_rfl) (by simp) ?_
        refine AllReadyH.cons rfl (fun K hK => ?_) (AllReadyH.cons rfl (fun K hK => ?_) (AllReadyH.nil))
        · skip
          go_simp
          refine (HCons.out L0 H0.out).mono ?_
          rintro e L1 ⟨⟨kv, rfl, hk3⟩, hb⟩
          obtain ⟨aok, nk, capk, rfl⟩ := owns_form3n hk3
          have H1 := Lib.hid (bt H0.out hb)
          have Hk := Lib.hid (OK3.rk hk3)
          refine hK.out _ _ (HS.out L1 H1.out) (fun hHeld2 => ?_)
          clear hK K hb hk3
          try simp only [Act.put, List.getElem_toArray, List.getElem_cons_zero, List.getElem_cons_succ, List.setIfInBounds_toArray, List.set_cons_zero, List.set_cons_succ]
          refine wpAnyH_ready (rs := [3, 7]) (by kernel_rfl) (by simp) ?_
          refine AllReadyH.cons rfl (fun K hK => ?_) (AllReadyH.cons rfl (fun K hK => ?_) (AllReadyH.nil))
          · skip
            go_simp
            refine (HAnd.out L1 _ H1.out Hk.out).mono ?_
            rintro e L2 ⟨⟨v', rfl, ho⟩, hb⟩
            obtain ⟨ao3, cap3, rfl⟩ := owns_form ho
            have H2 := Lib.hid (bt H1.out hb)
            have Ho := Lib.hid (show OL _ X3.heap.size _ _ _ from owns_mono ho H1.out.size)
            refine hK.out _ _ (HS.out L2 H2.out) (fun hHeld2 => ?_)
            clear hK K hb ho Hk
            refine wpAnyH_take (i := 4) (v := ?_) rfl (by kernel_rfl) (by kernel_rfl) (by kernel_rfl) (fun _ _ _ h => h) (Or.inl ⟨by rfl, ?_⟩) (by assumption) ?_
            rotate_left
            · intro w hSw; (try dsimp only at hSw); go_simp; (try with_reducible rfl)
            try simp only [Act.put, List.getElem_toArray, List.getElem_cons_zero, List.getElem_cons_succ, List.setIfInBounds_toArray, List.set_cons_zero, List.set_cons_succ]
            refine wpAnyH_take (i := 5) (v := ?_) rfl (by kernel_rfl) (by kernel_rfl) (by kernel_rfl) (fun _ _ _ h => h) (Or.inl ⟨by rfl, ?_⟩) (by assumption) ?_
            rotate_left
            · intro w hSw; (try dsimp only at hSw); go_simp; (try with_reducible rfl)
            try simp only [Act.put, List.getElem_toArray, List.getElem_cons_zero, List.getElem_cons_succ, List.setIfInBounds_toArray, List.set_cons_zero, List.set_cons_succ]
            refine wpAnyH_take (i := 6) (v := ?_) rfl (by kernel_rfl) (by kernel_rfl) (by kernel_rfl) (fun _ _ _ h => h) (Or.inl ⟨by rfl, ?_⟩) (by assumption) ?_
            rotate_left
            · intro w hSw; (try dsimp only at hSw); go_simp; (try with_reducible rfl)
            try simp only [Act.put, List.getElem_toArray, List.getElem_cons_zero, List.getElem_cons_succ, List.setIfInBounds_toArray, List.set_cons_zero, List.set_cons_succ]
            refine wpAnyH_ready (rs := [7]) (by kernel_rfl) (by simp) ?_
            refine AllReadyH.cons rfl (fun K hK => ?_) (AllReadyH.nil)
            · skip
              go_simp
              have H3' := bal H2.out (.cells #[.int .i64 0, .slice none 0 0] 32)
              have Hbx' := heap_alloc_new L2 (.cells #[.int .i64 0, .slice none 0 0] 32)
              have Hge' := H2.out.size
              have Hne' := Lib.hid (show (Value.slice ao3 zs.length cap3).ownBlock ≠ some L2.heap.size from fun e => by have h1 := (World.ownsRow.lt Ho.out L2.heap.size e).2; omega)
              have Ho' : OL _ _ (L2.alloc (.cells #[.int .i64 0, .slice none 0 0] 32)) _ zs := World.ownsRow.alloc Ho.out _
              refine hK.out _ _ (HS.out _ H3') (fun hHeld2 => ?_)
              clear hK K
              generalize hgen : World.alloc L2 _ = L3 at *
              clear hgen
              generalize L2.heap.size = bx at *
              have H3 := Lib.hid H3'
              have Hbx := Lib.hid Hbx'
              have Hge := Lib.hid Hge'
              have Hne := Lib.hid Hne'.out
              clear Ho Hne'
              have Ho := Lib.hid Ho'
              clear Ho'
              clear H3' Hbx' Hge'
              try simp only [Act.put, List.getElem_toArray, List.getElem_cons_zero, List.getElem_cons_succ, List.setIfInBounds_toArray, List.set_cons_zero, List.set_cons_succ]
              refine wpAnyH_ready (rs := [8]) (by kernel_rfl) (by simp) ?_
              refine AllReadyH.cons rfl (fun K hK => ?_) (AllReadyH.nil)
              · skip
                have t0 := cell_of_row _ bx 0 _ _ _ Hbx.out
                have t1 := cell_of_row _ bx 1 _ _ _ Hbx.out
                have f0 := frozen_of_row _ bx 0 _ _ Hbx.out
                have f1 := frozen_of_row _ bx 1 _ _ Hbx.out
                have HF1 := Lib.hid (heap_setCell_same _ bx 1 _ _ (.slice ao3 zs.length cap3) (heap_setCell_same _ bx 0 _ _ (.int .i64 D1) Hbx.out))
                have HF2 := Lib.hid (own_other2n Ho.out Hne.out (.int .i64 D1) (.slice ao3 zs.length cap3))
                have HF3 := Lib.hid ((H3.out.setCell (p := ⟨bx, 0, none⟩) Hge.out (.int .i64 D1)).setCell (p := ⟨bx, 1, none⟩) Hge.out (.slice ao3 zs.length cap3))
                go_simp
                refine hK.out _ _ (HS.out _ HF3.out) (fun hHeld2 => ?_)
                clear hK K t0 t1 f0 f1
                try simp only [Act.put, List.getElem_toArray, List.getElem_cons_zero, List.getElem_cons_succ, List.setIfInBounds_toArray, List.set_cons_zero, List.set_cons_succ]
                refine wpAnyH_take (i := 9) (v := ?_) rfl (by kernel_rfl) (by kernel_rfl) (by kernel_rfl) (fun _ _ _ h => h) (Or.inl ⟨by rfl, ?_⟩) (by assumption) ?_
                rotate_left
                · intro w hSw; (try dsimp only at hSw); go_simp; (try with_reducible rfl)
                try simp only [Act.put, List.getElem_toArray, List.getElem_cons_zero, List.getElem_cons_succ, List.setIfInBounds_toArray, List.set_cons_zero, List.set_cons_succ]
                refine wpAnyH_done (by kernel_rfl) ?_ _
                refine NoPanic.normal ?_
                go_wp2_with fail
                go_meet
                exact ⟨rfl, bx, ao3, cap3, rfl, HF1.out, HF2.out, Hge.out, HF3.out⟩
          · skip
            go_simp
            have H2' := bal H1.out (.cells #[.int .i64 0, .slice none 0 0] 32)
            have Hbx' := heap_alloc_new L1 (.cells #[.int .i64 0, .slice none 0 0] 32)
            have Hge' := H1.out.size
            have Hk' := RK.keepb Hk.out ((Below.refl L1.heap.size L1).alloc (Nat.le_refl _) (.cells #[.int .i64 0, .slice none 0 0] 32))
            refine hK.out _ _ (HS.out _ H2') (fun hHeld2 => ?_)
            clear hK K
            generalize hgen : World.alloc L1 _ = L2 at *
            clear hgen
            generalize L1.heap.size = bx at *
            have H2 := Lib.hid H2'
            have Hbx := Lib.hid Hbx'
            have Hge := Lib.hid Hge'
            clear Hk
            have Hk := Lib.hid Hk'
            clear Hk'
            clear H2' Hbx' Hge'
            try simp only [Act.put, List.getElem_toArray, List.getElem_cons_zero, List.getElem_cons_succ, List.setIfInBounds_toArray, List.set_cons_zero, List.set_cons_succ]
            refine wpAnyH_ready (rs := [3]) (by kernel_rfl) (by simp) ?_
            refine AllReadyH.cons rfl (fun K hK => ?_) (AllReadyH.nil)
            · skip
              go_simp
              refine (HAnd.out L2 _ H2.out Hk.out).mono ?_
              rintro e L3 ⟨⟨v', rfl, ho⟩, hb⟩
              obtain ⟨ao3, cap3, rfl⟩ := owns_form ho
              have H3 := Lib.hid (bt H2.out hb)
              have Ho := Lib.hid (show OL _ X3.heap.size _ _ _ from owns_mono ho H2.out.size)
              have Hne := Lib.hid (show (Value.slice ao3 zs.length cap3).ownBlock ≠ some bx from fun e => by have h1 := (World.ownsRow.lt ho bx e).1; have h2 := hp_lt3 Hbx.out; omega)
              replace Hbx := Lib.hid (hp_keep4 Hbx.out hb)
              refine hK.out _ _ (HS.out L3 H3.out) (fun hHeld2 => ?_)
              clear hK K hb ho Hk
              refine wpAnyH_take (i := 4) (v := ?_) rfl (by kernel_rfl) (by kernel_rfl) (by kernel_rfl) (fun _ _ _ h => h) (Or.inl ⟨by rfl, ?_⟩) (by assumption) ?_
              rotate_left
              · intro w hSw; (try dsimp only at hSw); go_simp; (try with_reducible rfl)
              try simp only [Act.put, List.getElem_toArray, List.getElem_cons_zero, List.getElem_cons_succ, List.setIfInBounds_toArray, List.set_cons_zero, List.set_cons_succ]
              refine wpAnyH_take (i := 5) (v := ?_) rfl (by kernel_rfl) (by kernel_rfl) (by kernel_rfl) (fun _ _ _ h => h) (Or.inl ⟨by rfl, ?_⟩) (by assumption) ?_
              rotate_left
              · intro w hSw; (try dsimp only at hSw); go_simp; (try with_reducible rfl)
              try simp only [Act.put, List.getElem_toArray, List.getElem_cons_zero, List.getElem_cons_succ, List.setIfInBounds_toArray, List.set_cons_zero, List.set_cons_succ]
              refine wpAnyH_take (i := 6) (v := ?_) rfl (by kernel_rfl) (by kernel_rfl) (by kernel_rfl) (fun _ _ _ h => h) (Or.inl ⟨by rfl, ?_⟩) (by assumption) ?_
              rotate_left
              · intro w hSw; (try dsimp only at hSw); go_simp; (try with_reducible rfl)
              try simp only [Act.put, List.getElem_toArray, List.getElem_cons_zero, List.getElem_cons_succ, List.setIfInBounds_toArray, List.set_cons_zero, List.set_cons_succ]
              refine wpAnyH_ready (rs := [8]) (by kernel_rfl) (by simp) ?_
              refine AllReadyH.cons rfl (fun K hK => ?_) (AllReadyH.nil)
              · skip
                have t0 := cell_of_row _ bx 0 _ _ _ Hbx.out
                have t1 := cell_of_row _ bx 1 _ _ _ Hbx.out
                have f0 := frozen_of_row _ bx 0 _ _ Hbx.out
                have f1 := frozen_of_row _ bx 1 _ _ Hbx.out
                have HF1 := Lib.hid (heap_setCell_same _ bx 1 _ _ (.slice ao3 zs.length cap3) (heap_setCell_same _ bx 0 _ _ (.int .i64 D1) Hbx.out))
                have HF2 := Lib.hid (own_other2n Ho.out Hne.out (.int .i64 D1) (.slice ao3 zs.length cap3))
                have HF3 := Lib.hid ((H3.out.setCell (p := ⟨bx, 0, none⟩) Hge.out (.int .i64 D1)).setCell (p := ⟨bx, 1, none⟩) Hge.out (.slice ao3 zs.length cap3))
                go_simp
                refine hK.out _ _ (HS.out _ HF3.out) (fun hHeld2 => ?_)
                clear hK K t0 t1 f0 f1
                try simp only [Act.put, List.getElem_toArray, List.getElem_cons_zero, List.getElem_cons_succ, List.setIfInBounds_toArray, List.set_cons_zero, List.set_cons_succ]
                refine wpAnyH_take (i := 9) (v := ?_) rfl (by kernel_rfl) (by kernel_rfl) (by kernel_rfl) (fun _ _ _ h => h) (Or.inl ⟨by rfl, ?_⟩) (by assumption) ?_
                rotate_left
                · intro w hSw; (try dsimp only at hSw); go_simp; (try with_reducible rfl)
                try simp only [Act.put, List.getElem_toArray, List.getElem_cons_zero, List.getElem_cons_succ, List.setIfInBounds_toArray, List.set_cons_zero, List.set_cons_succ]
                refine wpAnyH_done (by kernel_rfl) ?_ _
                refine NoPanic.normal ?_
                go_wp2_with fail
                go_meet
                exact ⟨rfl, bx, ao3, cap3, rfl, HF1.out, HF2.out, Hge.out, HF3.out⟩
        · skip
          go_simp
          have H1' := bal H0.out (.cells #[.int .i64 0, .slice none 0 0] 32)
          have Hbx' := heap_alloc_new L0 (.cells #[.int .i64 0, .slice none 0 0] 32)
          have Hge' := H0.out.size
          refine hK.out _ _ (HS.out _ H1') (fun hHeld2 => ?_)
          clear hK K
          generalize hgen : World.alloc L0 _ = L1 at *
          clear hgen
          generalize L0.heap.size = bx at *
          have H1 := Lib.hid H1'
          have Hbx := Lib.hid Hbx'
          have Hge := Lib.hid Hge'
          clear H1' Hbx' Hge'
          try simp only [Act.put, List.getElem_toArray, List.getElem_cons_zero, List.getElem_cons_succ, List.setIfInBounds_toArray, List.set_cons_zero, List.set_cons_succ]
          refine wpAnyH_ready (rs := [2]) (by kernel_rfl) (by simp) ?_
          refine AllReadyH.cons rfl (fun K hK => ?_) (AllReadyH.nil)
          · skip
            go_simp
            refine (HCons.out L1 H1.out).mono ?_
            rintro e L2 ⟨⟨kv, rfl, hk3⟩, hb⟩
            obtain ⟨aok, nk, capk, rfl⟩ := owns_form3n hk3
            have H2 := Lib.hid (bt H1.out hb)
            have Hk := Lib.hid (OK3.rk hk3)
            replace Hbx := Lib.hid (hp_keep4 Hbx.out hb)
            refine hK.out _ _ (HS.out L2 H2.out) (fun hHeld2 => ?_)
            clear hK K hb hk3
            try simp only [Act.put, List.getElem_toArray, List.getElem_cons_zero, List.getElem_cons_succ, List.setIfInBounds_toArray, List.set_cons_zero, List.set_cons_succ]
            refine wpAnyH_ready (rs := [3]) (by kernel_rfl) (by simp) ?_
            refine AllReadyH.cons rfl (fun K hK => ?_) (AllReadyH.nil)
            · skip
              go_simp
              refine (HAnd.out L2 _ H2.out Hk.out).mono ?_
              rintro e L3 ⟨⟨v', rfl, ho⟩, hb⟩
              obtain ⟨ao3, cap3, rfl⟩ := owns_form ho
              have H3 := Lib.hid (bt H2.out hb)
              have Ho := Lib.hid (show OL _ X3.heap.size _ _ _ from owns_mono ho H2.out.size)
              have Hne := Lib.hid (show (Value.slice ao3 zs.length cap3).ownBlock ≠ some bx from fun e => by have h1 := (World.ownsRow.lt ho bx e).1; have h2 := hp_lt3 Hbx.out; omega)
              replace Hbx := Lib.hid (hp_keep4 Hbx.out hb)
              refine hK.out _ _ (HS.out L3 H3.out) (fun hHeld2 => ?_)
              clear hK K hb ho Hk
              refine wpAnyH_take (i := 4) (v := ?_) rfl (by kernel_rfl) (by kernel_rfl) (by kernel_rfl) (fun _ _ _ h => h) (Or.inl ⟨by rfl, ?_⟩) (by assumption) ?_
              rotate_left
              · intro w hSw; (try dsimp only at hSw); go_simp; (try with_reducible rfl)
              try simp only [Act.put, List.getElem_toArray, List.getElem_cons_zero, List.getElem_cons_succ, List.setIfInBounds_toArray, List.set_cons_zero, List.set_cons_succ]
              refine wpAnyH_take (i := 5) (v := ?_) rfl (by kernel_rfl) (by kernel_rfl) (by kernel_rfl) (fun _ _ _ h => h) (Or.inl ⟨by rfl, ?_⟩) (by assumption) ?_
              rotate_left
              · intro w hSw; (try dsimp only at hSw); go_simp; (try with_reducible rfl)
              try simp only [Act.put, List.getElem_toArray, List.getElem_cons_zero, List.getElem_cons_succ, List.setIfInBounds_toArray, List.set_cons_zero, List.set_cons_succ]
              refine wpAnyH_take (i := 6) (v := ?_) rfl (by kernel_rfl) (by kernel_rfl) (by kernel_rfl) (fun _ _ _ h => h) (Or.inl ⟨by rfl, ?_⟩) (by assumption) ?_
              rotate_left
              · intro w hSw; (try dsimp only at hSw); go_simp; (try with_reducible rfl)
              try simp only [Act.put, List.getElem_toArray, List.getElem_cons_zero, List.getElem_cons_succ, List.setIfInBounds_toArray, List.set_cons_zero, List.set_cons_succ]
              refine wpAnyH_ready (rs := [8]) (by kernel_rfl) (by simp) ?_
              refine AllReadyH.cons rfl (fun K hK => ?_) (AllReadyH.nil)
              · skip
                have t0 := cell_of_row _ bx 0 _ _ _ Hbx.out
                have t1 := cell_of_row _ bx 1 _ _ _ Hbx.out
                have f0 := frozen_of_row _ bx 0 _ _ Hbx.out
                have f1 := frozen_of_row _ bx 1 _ _ Hbx.out
                have HF1 := Lib.hid (heap_setCell_same _ bx 1 _ _ (.slice ao3 zs.length cap3) (heap_setCell_same _ bx 0 _ _ (.int .i64 D1) Hbx.out))
                have HF2 := Lib.hid (own_other2n Ho.out Hne.out (.int .i64 D1) (.slice ao3 zs.length cap3))
                have HF3 := Lib.hid ((H3.out.setCell (p := ⟨bx, 0, none⟩) Hge.out (.int .i64 D1)).setCell (p := ⟨bx, 1, none⟩) Hge.out (.slice ao3 zs.length cap3))
                go_simp
                refine hK.out _ _ (HS.out _ HF3.out) (fun hHeld2 => ?_)
                clear hK K t0 t1 f0 f1
                try simp only [Act.put, List.getElem_toArray, List.getElem_cons_zero, List.getElem_cons_succ, List.setIfInBounds_toArray, List.set_cons_zero, List.set_cons_succ]
                refine wpAnyH_take (i := 9) (v := ?_) rfl (by kernel_rfl) (by kernel_rfl) (by kernel_rfl) (fun _ _ _ h => h) (Or.inl ⟨by rfl, ?_⟩) (by assumption) ?_
                rotate_left
                · intro w hSw; (try dsimp only at hSw); go_simp; (try with_reducible rfl)
                try simp only [Act.put, List.getElem_toArray, List.getElem_cons_zero, List.getElem_cons_succ, List.setIfInBounds_toArray, List.set_cons_zero, List.set_cons_succ]
                refine wpAnyH_done (by kernel_rfl) ?_ _
                refine NoPanic.normal ?_
                go_wp2_with fail
                go_meet
                exact ⟨rfl, bx, ao3, cap3, rfl, HF1.out, HF2.out, Hge.out, HF3.out⟩
      case rest =>
        obtain ⟨X4, hV⟩ : ∃ V, V = wc := ⟨_, rfl⟩
        subst hV
        obtain ⟨rfl, bx, ao3, cap3, rfl, hbx, ho, hge, hbel⟩ := hcut
        clear HS HCons HAnd
        clear u0 u1
        have HA := Lib.hid (OL.mono ho (Nat.zero_le _))
        have hbel2 := hbel
        replace HBz := Lib.hid (hp_keep4 HBz.out hbel)
        replace HBu := Lib.hid (hp_keep4 HBu.out hbel)
        replace HW := Lib.hid (bt HW.out hbel)
        clear hbel
        have HBa := Lib.hid hbx
        clear hbx ho HU hbel2
        have HAF := Lib.hid (show andF N (upTo N xs N) (cs.map con3) = (A1, zs) by rw [HUS.out]; exact HRA1.out)
        by_cases hx1 : A1 = 0
        rotate_left
        · have hxb : (A1 != 0) = true := by simpa using hx1
          have HF := Lib.hid (delay_none HPRE.out HAF.out hx1)
          have HF2 := Lib.hid (show GaP w.heap.size (delayF N xs c rs rate cs) (.returned (.tuple #[.slice none 0 0, .int .i64 0])) X4 from GaP.err HF.out X4)
          go_wp2_with fail
          exact bodyPost_ret (v := .tuple #[.slice none 0 0, .int .i64 0]) (by simp [results, Tryz.results18, go_sem]) rfl ⟨HF2.out, HW.out⟩
        subst hx1
        obtain rfl : (N : Int) = D1 := by have := HDA1.out; simpa [zdim] using this
        generalize ao3 = aoa at *
        generalize cap3 = capa at *
        generalize bx = A at *
        go_wp2_with fail
        go_loopw [12, 13] (fun m i wr => ∃ k : Nat, k ≤ rs.length ∧ i = .int .i64 k ∧ m = .int .i64 (moTo rate rs k) ∧ wr.heap[w.heap.size]? = some (.cells #[.int .i64 N, .slice ao xs.length cap, .int .i64 c, .slice aor rs.length capr] 35 (0, 0)) ∧ wr.heap[U]? = some (.cells #[.int .i64 N, .slice aou us.length capu] 32 (0, 0)) ∧ wr.heap[A]? = some (.cells #[.int .i64 N, .slice aoa zs.length capa] 32 (0, 0)) ∧ OL 63 0 wr (.slice aoa zs.length capa) zs ∧ Below w.heap.size w wr) (fun _ i _ => rs.length - (intOf i).toNat)
        case atStart => exact ⟨0, Nat.zero_le _, rfl, rfl, HBz.out, HBu.out, HBa.out, HA.out, HW.out⟩
        case round =>
          clear HW HA HBz HBu HBa
          obtain ⟨k, hk, rfl, rfl, hz, hu, ha, ha1, hw⟩ := hrel
          have HW := Lib.hid hw
          have HA := Lib.hid ha1
          have HBz := Lib.hid hz
          have HBu := Lib.hid hu
          have HBa := Lib.hid ha
          clear hw ha1 hz hu ha
          obtain ⟨MO, hMO⟩ : ∃ MO, moTo rate rs k = MO := ⟨_, rfl⟩
          rw [hMO]
          have z0 : wr.cell? ⟨w.heap.size, 0, none⟩ = some (.int .i64 N) := cell_of_row _ (w.heap.size) 0 _ _ _ HBz.out
          have z1 : wr.cell? ⟨w.heap.size, 1, none⟩ = some (.slice ao xs.length cap) := cell_of_row _ (w.heap.size) 1 _ _ _ HBz.out
          have z2 : wr.cell? ⟨w.heap.size, 2, none⟩ = some (.int .i64 c) := cell_of_row _ (w.heap.size) 2 _ _ _ HBz.out
          have z3 : wr.cell? ⟨w.heap.size, 3, none⟩ = some (.slice aor rs.length capr) := cell_of_row _ (w.heap.size) 3 _ _ _ HBz.out
          by_cases hlt : k < rs.length
          · have htk : decide ((k : Int) < (rs.length : Int)) = true := by simp; omega
            clear z0 z1 z2 z3
            obtain ⟨br, offr, rfl, hbr, hccr⟩ := Hcr.out (by omega)
            have z0 : wr.cell? ⟨w.heap.size, 0, none⟩ = some (.int .i64 N) := cell_of_row _ (w.heap.size) 0 _ _ _ HBz.out
            have z1 : wr.cell? ⟨w.heap.size, 1, none⟩ = some (.slice ao xs.length cap) := cell_of_row _ (w.heap.size) 1 _ _ _ HBz.out
            have z2 : wr.cell? ⟨w.heap.size, 2, none⟩ = some (.int .i64 c) := cell_of_row _ (w.heap.size) 2 _ _ _ HBz.out
            have z3 : wr.cell? ⟨w.heap.size, 3, none⟩ = some (.slice (some ⟨br, offr, none⟩) rs.length capr) := cell_of_row _ (w.heap.size) 3 _ _ _ HBz.out
            have e0 : wr.cell? ⟨br, offr + k, none⟩ = some (.int .i64 (gi rs k)) := by
              have h2 := ((bcell HW.out).1 br (offr + (k * 1 + 0)) hbr).trans (hccr k 0 hlt (by decide))
              rw [show offr + k = offr + (k * 1 + 0) by omega]
              rw [h2]
              rfl
            obtain ⟨Q, hQ⟩ : ∃ Q, IntKind.i64.wrap (MO - gi rs k) = Q := ⟨_, rfl⟩
            have hQ2 : wrap64 (MO - gi rs k) = Q := (wrap_w64 _).trans hQ
            have HQ := Lib.hid (show moTo rate rs (k + 1) = Q by show IntKind.i64.wrap (moTo rate rs k - gi rs k) = Q; rw [hMO, hQ])
            have k0 : (k : Int) < rs.length := by omega
            have k1 : (0 : Int) ≤ (k : Int) := by omega
            clear hccr hMO
            go_wp2_with fail
            go_roundw
            case rel => exact ⟨k + 1, by omega, by go_num, by rw [HQ.out], HBz.out, HBu.out, HBa.out, HA.out, HW.out⟩
            case measure => simp [intOf]; omega
          have htk : decide ((k : Int) < (rs.length : Int)) = false := by simp; omega
          have HMO := Lib.hid (show moTo rate rs rs.length = MO by rw [← hMO, show rs.length = k by omega])
          clear hMO
          have hmo : ¬ MO < 0 := by rw [← HMO.out]; exact Int.not_lt.2 Hcm.out
          have hmb : decide (0 ≤ MO) = true := by simp; omega
          have hmc : decide (MO ≥ 0) = true := by simp; omega
          have HM0 := Lib.hid (show 0 ≤ MO by omega)
          clear hmo
          obtain ⟨A2, os, D2, hR, hD⟩ : ∃ R1 R2 D, andF N xs (cs.map con3) = (R1, R2) ∧ zdim (R1, R2) (N : Int) = D := ⟨_, _, _, rfl, rfl⟩
          have HRA2 := Lib.hid hR
          have HDA2 := Lib.hid hD
          have HCons := Lib.hid (fun (X : World) (hX : Below wr.heap.size wr X) => ref_constraints _ cs X (Hl.out.keepb (bt HW.out hX)) hn)
          have HAnd0 := Lib.hid (fun (X : World) (kv : Value) (hX : Below wr.heap.size wr X) (hk : RK X.heap.size X kv (cs.map con3)) => ref_and N _ kv xs _ X (Hv.out.keepb (bt HW.out hX)) hk)
          unfold ZPost at HAnd0
          rw [hR, hD] at HAnd0
          have HAnd := Lib.hid HAnd0.out
          clear HAnd0 hR hD
          have HS := Lib.hid (fun (X : World) (hX : Below wr.heap.size wr X) => (⟨cell_of_row _ w.heap.size 0 _ _ _ (hp_keep4 HBz.out hX), cell_of_row _ w.heap.size 1 _ _ _ (hp_keep4 HBz.out hX)⟩ : X.cell? ⟨w.heap.size, 0, none⟩ = some (.int .i64 N) ∧ X.cell? ⟨w.heap.size, 1, none⟩ = some (.slice ao xs.length cap)))
          go_upto_region 14 with fail
          go_cut [15, 16] (fun s6 s7 wx => s7 = .int .i64 A2 ∧ ∃ bx ao3 cap3, s6 = .pointer (some ⟨bx, 0, none⟩) ∧ wx.heap[bx]? = some (.cells #[.int .i64 D2, .slice ao3 os.length cap3] 32 (0, 0)) ∧ OL 63 wr.heap.size wx (.slice ao3 os.length cap3) os ∧ wr.heap.size ≤ bx ∧ Below wr.heap.size wr wx)
          case first =>
            refine wp_region_noPanic ?_
            refine wp_region_held_drew (S := (fun w' => w'.cell? ⟨w.heap.size, 0, none⟩ = some (.int .i64 N) ∧ w'.cell? ⟨w.heap.size, 1, none⟩ = some (.slice ao xs.length cap))) (by kernel_rfl) ⟨z0, z1⟩ (fun hHeld => ?_)
            refine wpAnyH_take (i := 0) (v := ?_) rfl (by kernel_rfl) (by kernel_rfl) (by kernel_rfl) (fun _ _ _ h => h) (Or.inl ⟨by rfl, ?_⟩) (by assumption) ?_
            rotate_left
            · intro w hSw; (try dsimp only at hSw); go_simp; (try with_reducible rfl)
            try simp only [Act.put, List.getElem_toArray, List.getElem_cons_zero, List.setIfInBounds_toArray, List.set_cons_zero, List.set_cons_succ]
            refine wpAnyH_take (i := 1) (v := ?_) rfl (by kernel_rfl) (by kernel_rfl) (by kernel_rfl) (fun _ _ _ h => h) (Or.inl ⟨by rfl, ?_⟩) (by assumption) ?_
            rotate_left
            · intro w hSw; (try dsimp only at hSw); go_simp; (try with_reducible rfl)
            try simp only [Act.put, List.getElem_toArray, List.getElem_cons_zero, List.getElem_cons_succ, List.setIfInBounds_toArray, List.set_cons_zero, List.set_cons_succ]
            refine wpAnyH_take (i := 2) (v := ?_) rfl (by kernel_rfl) (by kernel_rfl) (by kernel_rfl) (fun _ _ _ h => h) (Or.inl ⟨by rfl, ?_⟩) (by assumption) ?_
            rotate_left
            · intro w hSw; (try dsimp only at hSw); go_simp; (try with_reducible rfl)
            try simp only [Act.put, List.getElem_toArray, List.getElem_cons_zero, List.getElem_cons_succ, List.setIfInBounds_toArray, List.set_cons_zero, List.set_cons_succ]
            have H0 := Lib.hid (show Below wr.heap.size wr wr.drew from (Below.refl _ _).drew)
            clear hHeld
            generalize wr.drew = L0 at *
            refine wpAnyH_ready (rs := [3, 8]) (by kernel_rfl) (by simp) ?_
            refine AllReadyH.cons rfl (fun K hK => ?_) (AllReadyH.cons rfl (fun K hK => ?_) (AllReadyH.nil))
            · skip
              go_simp
              refine (HCons.out L0 H0.out).mono ?_
              rintro e L1 ⟨⟨kv, rfl, hk3⟩, hb⟩
              obtain ⟨aok, nk, capk, rfl⟩ := owns_form3n hk3
              have H1 := Lib.hid (bt H0.out hb)
              have Hk := Lib.hid (OK3.rk hk3)
              refine hK.out _ _ (HS.out L1 H1.out) (fun hHeld2 => ?_)
              clear hK K hb hk3
              try simp only [Act.put, List.getElem_toArray, List.getElem_cons_zero, List.getElem_cons_succ, List.setIfInBounds_toArray, List.set_cons_zero, List.set_cons_succ]
              refine wpAnyH_ready (rs := [4, 8]) (by kernel_rfl) (by simp) ?_
              refine AllReadyH.cons rfl (fun K hK => ?_) (AllReadyH.cons rfl (fun K hK => ?_) (AllReadyH.nil))
              · skip
                go_simp
                refine (HAnd.out L1 _ H1.out Hk.out).mono ?_
                rintro e L2 ⟨⟨v', rfl, ho⟩, hb⟩
                obtain ⟨ao3, cap3, rfl⟩ := owns_form ho
                have H2 := Lib.hid (bt H1.out hb)
                have Ho := Lib.hid (show OL _ wr.heap.size _ _ _ from owns_mono ho H1.out.size)
                refine hK.out _ _ (HS.out L2 H2.out) (fun hHeld2 => ?_)
                clear hK K hb ho Hk
                refine wpAnyH_take (i := 5) (v := ?_) rfl (by kernel_rfl) (by kernel_rfl) (by kernel_rfl) (fun _ _ _ h => h) (Or.inl ⟨by rfl, ?_⟩) (by assumption) ?_
                rotate_left
                · intro w hSw; (try dsimp only at hSw); go_simp; (try with_reducible rfl)
                try simp only [Act.put, List.getElem_toArray, List.getElem_cons_zero, List.getElem_cons_succ, List.setIfInBounds_toArray, List.set_cons_zero, List.set_cons_succ]
                refine wpAnyH_take (i := 6) (v := ?_) rfl (by kernel_rfl) (by kernel_rfl) (by kernel_rfl) (fun _ _ _ h => h) (Or.inl ⟨by rfl, ?_⟩) (by assumption) ?_
                rotate_left
                · intro w hSw; (try dsimp only at hSw); go_simp; (try with_reducible rfl)
                try simp only [Act.put, List.getElem_toArray, List.getElem_cons_zero, List.getElem_cons_succ, List.setIfInBounds_toArray, List.set_cons_zero, List.set_cons_succ]
                refine wpAnyH_take (i := 7) (v := ?_) rfl (by kernel_rfl) (by kernel_rfl) (by kernel_rfl) (fun _ _ _ h => h) (Or.inl ⟨by rfl, ?_⟩) (by assumption) ?_
                rotate_left
                · intro w hSw; (try dsimp only at hSw); go_simp; (try with_reducible rfl)
                try simp only [Act.put, List.getElem_toArray, List.getElem_cons_zero, List.getElem_cons_succ, List.setIfInBounds_toArray, List.set_cons_zero, List.set_cons_succ]
                refine wpAnyH_ready (rs := [8]) (by kernel_rfl) (by simp) ?_
                refine AllReadyH.cons rfl (fun K hK => ?_) (AllReadyH.nil)
                · skip
                  go_simp
                  have H3' := bal H2.out (.cells #[.int .i64 0, .slice none 0 0] 32)
                  have Hbx' := heap_alloc_new L2 (.cells #[.int .i64 0, .slice none 0 0] 32)
                  have Hge' := H2.out.size
                  have Hne' := Lib.hid (show (Value.slice ao3 os.length cap3).ownBlock ≠ some L2.heap.size from fun e => by have h1 := (World.ownsRow.lt Ho.out L2.heap.size e).2; omega)
                  have Ho' : OL _ _ (L2.alloc (.cells #[.int .i64 0, .slice none 0 0] 32)) _ os := World.ownsRow.alloc Ho.out _
                  refine hK.out _ _ (HS.out _ H3') (fun hHeld2 => ?_)
                  clear hK K
                  generalize hgen : World.alloc L2 _ = L3 at *
                  clear hgen
                  generalize L2.heap.size = bx at *
                  have H3 := Lib.hid H3'
                  have Hbx := Lib.hid Hbx'
                  have Hge := Lib.hid Hge'
                  have Hne := Lib.hid Hne'.out
                  clear Ho Hne'
                  have Ho := Lib.hid Ho'
                  clear Ho'
                  clear H3' Hbx' Hge'
                  try simp only [Act.put, List.getElem_toArray, List.getElem_cons_zero, List.getElem_cons_succ, List.setIfInBounds_toArray, List.set_cons_zero, List.set_cons_succ]
                  refine wpAnyH_ready (rs := [9]) (by kernel_rfl) (by simp) ?_
                  refine AllReadyH.cons rfl (fun K hK => ?_) (AllReadyH.nil)
                  · skip
                    have t0 := cell_of_row _ bx 0 _ _ _ Hbx.out
                    have t1 := cell_of_row _ bx 1 _ _ _ Hbx.out
                    have f0 := frozen_of_row _ bx 0 _ _ Hbx.out
                    have f1 := frozen_of_row _ bx 1 _ _ Hbx.out
                    have HF1 := Lib.hid (heap_setCell_same _ bx 1 _ _ (.slice ao3 os.length cap3) (heap_setCell_same _ bx 0 _ _ (.int .i64 D2) Hbx.out))
                    have HF2 := Lib.hid (own_other2n Ho.out Hne.out (.int .i64 D2) (.slice ao3 os.length cap3))
                    have HF3 := Lib.hid ((H3.out.setCell (p := ⟨bx, 0, none⟩) Hge.out (.int .i64 D2)).setCell (p := ⟨bx, 1, none⟩) Hge.out (.slice ao3 os.length cap3))
                    go_simp
                    refine hK.out _ _ (HS.out _ HF3.out) (fun hHeld2 => ?_)
                    clear hK K t0 t1 f0 f1
                    try simp only [Act.put, List.getElem_toArray, List.getElem_cons_zero, List.getElem_cons_succ, List.setIfInBounds_toArray, List.set_cons_zero, List.set_cons_succ]
                    refine wpAnyH_take (i := 10) (v := ?_) rfl (by kernel_rfl) (by kernel_rfl) (by kernel_rfl) (fun _ _ _ h => h) (Or.inl ⟨by rfl, ?_⟩) (by assumption) ?_
                    rotate_left
                    · intro w hSw; (try dsimp only at hSw); go_simp; (try with_reducible rfl)
                    try simp only [Act.put, List.getElem_toArray, List.getElem_cons_zero, List.getElem_cons_succ, List.setIfInBounds_toArray, List.set_cons_zero, List.set_cons_succ]
                    refine wpAnyH_done (by kernel_rfl) ?_ _
                    refine NoPanic.normal ?_
                    go_wp2_with fail
                    go_meet
                    exact ⟨rfl, bx, ao3, cap3, rfl, HF1.out, HF2.out, Hge.out, HF3.out⟩
              · skip
                go_simp
                have H2' := bal H1.out (.cells #[.int .i64 0, .slice none 0 0] 32)
                have Hbx' := heap_alloc_new L1 (.cells #[.int .i64 0, .slice none 0 0] 32)
                have Hge' := H1.out.size
                have Hk' := RK.keepb Hk.out ((Below.refl L1.heap.size L1).alloc (Nat.le_refl _) (.cells #[.int .i64 0, .slice none 0 0] 32))
                refine hK.out _ _ (HS.out _ H2') (fun hHeld2 => ?_)
                clear hK K
                generalize hgen : World.alloc L1 _ = L2 at *
                clear hgen
                generalize L1.heap.size = bx at *
                have H2 := Lib.hid H2'
                have Hbx := Lib.hid Hbx'
                have Hge := Lib.hid Hge'
                clear Hk
                have Hk := Lib.hid Hk'
                clear Hk'
                clear H2' Hbx' Hge'
                try simp only [Act.put, List.getElem_toArray, List.getElem_cons_zero, List.getElem_cons_succ, List.setIfInBounds_toArray, List.set_cons_zero, List.set_cons_succ]
                refine wpAnyH_ready (rs := [4]) (by kernel_rfl) (by simp) ?_
                refine AllReadyH.cons rfl (fun K hK => ?_) (AllReadyH.nil)
                · skip
                  go_simp
                  refine (HAnd.out L2 _ H2.out Hk.out).mono ?_
                  rintro e L3 ⟨⟨v', rfl, ho⟩, hb⟩
                  obtain ⟨ao3, cap3, rfl⟩ := owns_form ho
                  have H3 := Lib.hid (bt H2.out hb)
                  have Ho := Lib.hid (show OL _ wr.heap.size _ _ _ from owns_mono ho H2.out.size)
                  have Hne := Lib.hid (show (Value.slice ao3 os.length cap3).ownBlock ≠ some bx from fun e => by have h1 := (World.ownsRow.lt ho bx e).1; have h2 := hp_lt3 Hbx.out; omega)
                  replace Hbx := Lib.hid (hp_keep4 Hbx.out hb)
                  refine hK.out _ _ (HS.out L3 H3.out) (fun hHeld2 => ?_)
                  clear hK K hb ho Hk
                  refine wpAnyH_take (i := 5) (v := ?_) rfl (by kernel_rfl) (by kernel_rfl) (by kernel_rfl) (fun _ _ _ h => h) (Or.inl ⟨by rfl, ?_⟩) (by assumption) ?_
                  rotate_left
                  · intro w hSw; (try dsimp only at hSw); go_simp; (try with_reducible rfl)
                  try simp only [Act.put, List.getElem_toArray, List.getElem_cons_zero, List.getElem_cons_succ, List.setIfInBounds_toArray, List.set_cons_zero, List.set_cons_succ]
                  refine wpAnyH_take (i := 6) (v := ?_) rfl (by kernel_rfl) (by kernel_rfl) (by kernel_rfl) (fun _ _ _ h => h) (Or.inl ⟨by rfl, ?_⟩) (by assumption) ?_
                  rotate_left
                  · intro w hSw; (try dsimp only at hSw); go_simp; (try with_reducible rfl)
                  try simp only [Act.put, List.getElem_toArray, List.getElem_cons_zero, List.getElem_cons_succ, List.setIfInBounds_toArray, List.set_cons_zero, List.set_cons_succ]
                  refine wpAnyH_take (i := 7) (v := ?_) rfl (by kernel_rfl) (by kernel_rfl) (by kernel_rfl) (fun _ _ _ h => h) (Or.inl ⟨by rfl, ?_⟩) (by assumption) ?_
                  rotate_left
                  · intro w hSw; (try dsimp only at hSw); go_simp; (try with_reducible rfl)
                  try simp only [Act.put, List.getElem_toArray, List.getElem_cons_zero, List.getElem_cons_succ, List.setIfInBounds_toArray, List.set_cons_zero, List.set_cons_succ]
                  refine wpAnyH_ready (rs := [9]) (by kernel_rfl) (by simp) ?_
                  refine AllReadyH.cons rfl (fun K hK => ?_) (AllReadyH.nil)
                  · skip
                    have t0 := cell_of_row _ bx 0 _ _ _ Hbx.out
                    have t1 := cell_of_row _ bx 1 _ _ _ Hbx.out
                    have f0 := frozen_of_row _ bx 0 _ _ Hbx.out
                    have f1 := frozen_of_row _ bx 1 _ _ Hbx.out
                    have HF1 := Lib.hid (heap_setCell_same _ bx 1 _ _ (.slice ao3 os.length cap3) (heap_setCell_same _ bx 0 _ _ (.int .i64 D2) Hbx.out))
                    have HF2 := Lib.hid (own_other2n Ho.out Hne.out (.int .i64 D2) (.slice ao3 os.length cap3))
                    have HF3 := Lib.hid ((H3.out.setCell (p := ⟨bx, 0, none⟩) Hge.out (.int .i64 D2)).setCell (p := ⟨bx, 1, none⟩) Hge.out (.slice ao3 os.length cap3))
                    go_simp
                    refine hK.out _ _ (HS.out _ HF3.out) (fun hHeld2 => ?_)
                    clear hK K t0 t1 f0 f1
                    try simp only [Act.put, List.getElem_toArray, List.getElem_cons_zero, List.getElem_cons_succ, List.setIfInBounds_toArray, List.set_cons_zero, List.set_cons_succ]
                    refine wpAnyH_take (i := 10) (v := ?_) rfl (by kernel_rfl) (by kernel_rfl) (by kernel_rfl) (fun _ _ _ h => h) (Or.inl ⟨by rfl, ?_⟩) (by assumption) ?_
                    rotate_left
                    · intro w hSw; (try dsimp only at hSw); go_simp; (try with_reducible rfl)
                    try simp only [Act.put, List.getElem_toArray, List.getElem_cons_zero, List.getElem_cons_succ, List.setIfInBounds_toArray, List.set_cons_zero, List.set_cons_succ]
                    refine wpAnyH_done (by kernel_rfl) ?_ _
                    refine NoPanic.normal ?_
                    go_wp2_with fail
                    go_meet
                    exact ⟨rfl, bx, ao3, cap3, rfl, HF1.out, HF2.out, Hge.out, HF3.out⟩
            · skip
              go_simp
              have H1' := bal H0.out (.cells #[.int .i64 0, .slice none 0 0] 32)
              have Hbx' := heap_alloc_new L0 (.cells #[.int .i64 0, .slice none 0 0] 32)
              have Hge' := H0.out.size
              refine hK.out _ _ (HS.out _ H1') (fun hHeld2 => ?_)
              clear hK K
              generalize hgen : World.alloc L0 _ = L1 at *
              clear hgen
              generalize L0.heap.size = bx at *
              have H1 := Lib.hid H1'
              have Hbx := Lib.hid Hbx'
              have Hge := Lib.hid Hge'
              clear H1' Hbx' Hge'
              try simp only [Act.put, List.getElem_toArray, List.getElem_cons_zero, List.getElem_cons_succ, List.setIfInBounds_toArray, List.set_cons_zero, List.set_cons_succ]
              refine wpAnyH_ready (rs := [3]) (by kernel_rfl) (by simp) ?_
              refine AllReadyH.cons rfl (fun K hK => ?_) (AllReadyH.nil)
              · skip
                go_simp
                refine (HCons.out L1 H1.out).mono ?_
                rintro e L2 ⟨⟨kv, rfl, hk3⟩, hb⟩
                obtain ⟨aok, nk, capk, rfl⟩ := owns_form3n hk3
                have H2 := Lib.hid (bt H1.out hb)
                have Hk := Lib.hid (OK3.rk hk3)
                replace Hbx := Lib.hid (hp_keep4 Hbx.out hb)
                refine hK.out _ _ (HS.out L2 H2.out) (fun hHeld2 => ?_)
                clear hK K hb hk3
                try simp only [Act.put, List.getElem_toArray, List.getElem_cons_zero, List.getElem_cons_succ, List.setIfInBounds_toArray, List.set_cons_zero, List.set_cons_succ]
                refine wpAnyH_ready (rs := [4]) (by kernel_rfl) (by simp) ?_
                refine AllReadyH.cons rfl (fun K hK => ?_) (AllReadyH.nil)
                · skip
                  go_simp
                  refine (HAnd.out L2 _ H2.out Hk.out).mono ?_
                  rintro e L3 ⟨⟨v', rfl, ho⟩, hb⟩
                  obtain ⟨ao3, cap3, rfl⟩ := owns_form ho
                  have H3 := Lib.hid (bt H2.out hb)
                  have Ho := Lib.hid (show OL _ wr.heap.size _ _ _ from owns_mono ho H2.out.size)
                  have Hne := Lib.hid (show (Value.slice ao3 os.length cap3).ownBlock ≠ some bx from fun e => by have h1 := (World.ownsRow.lt ho bx e).1; have h2 := hp_lt3 Hbx.out; omega)
                  replace Hbx := Lib.hid (hp_keep4 Hbx.out hb)
                  refine hK.out _ _ (HS.out L3 H3.out) (fun hHeld2 => ?_)
                  clear hK K hb ho Hk
                  refine wpAnyH_take (i := 5) (v := ?_) rfl (by kernel_rfl) (by kernel_rfl) (by kernel_rfl) (fun _ _ _ h => h) (Or.inl ⟨by rfl, ?_⟩) (by assumption) ?_
                  rotate_left
                  · intro w hSw; (try dsimp only at hSw); go_simp; (try with_reducible rfl)
                  try simp only [Act.put, List.getElem_toArray, List.getElem_cons_zero, List.getElem_cons_succ, List.setIfInBounds_toArray, List.set_cons_zero, List.set_cons_succ]
                  refine wpAnyH_take (i := 6) (v := ?_) rfl (by kernel_rfl) (by kernel_rfl) (by kernel_rfl) (fun _ _ _ h => h) (Or.inl ⟨by rfl, ?_⟩) (by assumption) ?_
                  rotate_left
                  · intro w hSw; (try dsimp only at hSw); go_simp; (try with_reducible rfl)
                  try simp only [Act.put, List.getElem_toArray, List.getElem_cons_zero, List.getElem_cons_succ, List.setIfInBounds_toArray, List.set_cons_zero, List.set_cons_succ]
                  refine wpAnyH_take (i := 7) (v := ?_) rfl (by kernel_rfl) (by kernel_rfl) (by kernel_rfl) (fun _ _ _ h => h) (Or.inl ⟨by rfl, ?_⟩) (by assumption) ?_
                  rotate_left
                  · intro w hSw; (try dsimp only at hSw); go_simp; (try with_reducible rfl)
                  try simp only [Act.put, List.getElem_toArray, List.getElem_cons_zero, List.getElem_cons_succ, List.setIfInBounds_toArray, List.set_cons_zero, List.set_cons_succ]
                  refine wpAnyH_ready (rs := [9]) (by kernel_rfl) (by simp) ?_
                  refine AllReadyH.cons rfl (fun K hK => ?_) (AllReadyH.nil)
                  · skip
                    have t0 := cell_of_row _ bx 0 _ _ _ Hbx.out
                    have t1 := cell_of_row _ bx 1 _ _ _ Hbx.out
                    have f0 := frozen_of_row _ bx 0 _ _ Hbx.out
                    have f1 := frozen_of_row _ bx 1 _ _ Hbx.out
                    have HF1 := Lib.hid (heap_setCell_same _ bx 1 _ _ (.slice ao3 os.length cap3) (heap_setCell_same _ bx 0 _ _ (.int .i64 D2) Hbx.out))
                    have HF2 := Lib.hid (own_other2n Ho.out Hne.out (.int .i64 D2) (.slice ao3 os.length cap3))
                    have HF3 := Lib.hid ((H3.out.setCell (p := ⟨bx, 0, none⟩) Hge.out (.int .i64 D2)).setCell (p := ⟨bx, 1, none⟩) Hge.out (.slice ao3 os.length cap3))
                    go_simp
                    refine hK.out _ _ (HS.out _ HF3.out) (fun hHeld2 => ?_)
                    clear hK K t0 t1 f0 f1
                    try simp only [Act.put, List.getElem_toArray, List.getElem_cons_zero, List.getElem_cons_succ, List.setIfInBounds_toArray, List.set_cons_zero, List.set_cons_succ]
                    refine wpAnyH_take (i := 10) (v := ?_) rfl (by kernel_rfl) (by kernel_rfl) (by kernel_rfl) (fun _ _ _ h => h) (Or.inl ⟨by rfl, ?_⟩) (by assumption) ?_
                    rotate_left
                    · intro w hSw; (try dsimp only at hSw); go_simp; (try with_reducible rfl)
                    try simp only [Act.put, List.getElem_toArray, List.getElem_cons_zero, List.getElem_cons_succ, List.setIfInBounds_toArray, List.set_cons_zero, List.set_cons_succ]
                    refine wpAnyH_done (by kernel_rfl) ?_ _
                    refine NoPanic.normal ?_
                    go_wp2_with fail
                    go_meet
                    exact ⟨rfl, bx, ao3, cap3, rfl, HF1.out, HF2.out, Hge.out, HF3.out⟩
          case rest =>
            obtain ⟨X5, hV⟩ : ∃ V, V = wc := ⟨_, rfl⟩
            subst hV
            obtain ⟨rfl, bx, ao3, cap3, rfl, hbx, ho, hge, hbel⟩ := hcut
            clear HS HCons HAnd
            clear z0 z1 z2 z3
            have HO := Lib.hid (OL.mono ho (Nat.zero_le _))
            clear ho hge
            replace HBz := Lib.hid (hp_keep4 HBz.out hbel)
            replace HBu := Lib.hid (hp_keep4 HBu.out hbel)
            replace HBa := Lib.hid (hp_keep4 HBa.out hbel)
            replace HA := Lib.hid (OL.keepb HA.out hbel)
            replace HW := Lib.hid (bt HW.out hbel)
            clear hbel
            generalize ao3 = aoo at *
            generalize cap3 = capo at *
            generalize bx = OB at *
            have HBo := Lib.hid hbx
            clear hbx
            have hx2 : A2 ≠ 0 := by have h := Hcn.out; rw [Int.toNat_natCast, HRA2.out] at h; exact h
            have hxb : (A2 == 0) = false := by simpa using hx2
            have HNW := Lib.hid (dNow_none (c := c) (rs := rs) (Int.not_lt.2 HM0.out) HRA2.out hx2)
            have hBBz : w.heap.size < X5.heap.size := hp_lt3 HBz.out
            have hBBu : U < X5.heap.size := hp_lt3 HBu.out
            have hBBa : A < X5.heap.size := hp_lt3 HBa.out
            have hBW : w.heap.size ≤ X5.heap.size := HW.out.size
            have hBA : X5.heap.size ≤ X5.heap.size := Nat.le_refl _
            have HE0 := Lib.hid (OE.nil cdPz 35 X5.heap.size X5)
            have HZ0 := Lib.hid (LZ.nil X5)
            clear HO HBo hx2
            have HDL := Lib.hid (show delayF N xs c rs rate cs = gaF [] (dG N xs c rs zs MO) 1 N by rw [← HMO.out]; exact delay_ga (l := []) HPRE.out HAF.out (by rw [HMO.out]; exact HNW.out))
            have hBz : w.heap.size < X5.heap.size := hBBz
            have hBu : U < X5.heap.size := hBBu
            have hBa : A < X5.heap.size := hBBa
            go_wp2_with fail
            go_loopw [19, 14] (fun i u wa => ∃ (q : Nat) (els : List Pz) (l : List Pv), q ≤ N ∧ i = .int .i64 ((q : Int) + 1) ∧ gaTo (dG N xs c rs zs MO) 1 (q + 1) = (l, 0) ∧ OE cdPz 35 X5.heap.size wa u els ∧ LZ wa els ∧ els.map pvOf = [] ++ l ∧ els.length ≤ 1 + q ∧ X5.heap.size ≤ wa.heap.size ∧ wa.heap[w.heap.size]? = some (.cells #[.int .i64 N, .slice ao xs.length cap, .int .i64 c, .slice aor rs.length capr] 35 (0, 0)) ∧ wa.heap[U]? = some (.cells #[.int .i64 N, .slice aou us.length capu] 32 (0, 0)) ∧ wa.heap[A]? = some (.cells #[.int .i64 N, .slice aoa zs.length capa] 32 (0, 0)) ∧ OL 63 0 wa (.slice aoa zs.length capa) zs ∧ Below w.heap.size w wa) (fun i _ _ => N + 1 - (intOf i).toNat)
            case atStart => exact ⟨0, [], [], Nat.zero_le _, by simp, gaTo_less rfl (by omega), HE0.out, HZ0.out, rfl, by simp, hBA, HBz.out, HBu.out, HBa.out, HA.out, HW.out⟩
            case round =>
              try clear HE0 HZ0
              try clear z0 z1 z2 z3
              obtain ⟨wa, hwa⟩ : ∃ V, V = wr := ⟨_, rfl⟩
              subst hwa
              clear HW HA HBz HBu HBa
              obtain ⟨q, els, l, hq, rfl, hga, hoe, hlz, hmp, hln, hba9, hz, hu, ha, ha1, hw⟩ := hrel
              have HW := Lib.hid hw
              have HA := Lib.hid ha1
              have HBz := Lib.hid hz
              have HBu := Lib.hid hu
              have HBa := Lib.hid ha
              clear hw ha1 hz hu ha
              have HGA := Lib.hid hga
              have HE := Lib.hid hoe
              have HZ := Lib.hid hlz
              have HMP := Lib.hid hmp
              obtain ⟨aou9, nu, capu9, rfl⟩ : ∃ ao n cap, u14 = .slice ao n cap := by obtain ⟨a, b, h⟩ := owns_form hoe; exact ⟨a, _, b, h⟩
              have HI := Lib.hid (Below.refl wa.heap.size wa)
              clear hga hoe hlz hmp
              by_cases hlt : q < N
              rotate_left
              · have htk : decide ((q : Int) + 1 ≤ (N : Int)) = false := by simp; omega
                have hNq : q = N := by omega
                have hgq : gaTo (dG N xs c rs zs MO) 1 (N + 1) = (l, 0) := by
                  have h := HGA.out
                  rw [hNq] at h
                  exact h
                have HF := Lib.hid (HDL.out.trans (gaF_ok (pre := []) hgq))
                clear hNq hgq
                have z0 : wa.cell? ⟨w.heap.size, 0, none⟩ = some (.int .i64 N) := cell_of_row _ (w.heap.size) 0 _ _ _ (hp_keep4 HBz.out HI.out)
                have z1 : wa.cell? ⟨w.heap.size, 1, none⟩ = some (.slice ao xs.length cap) := cell_of_row _ (w.heap.size) 1 _ _ _ (hp_keep4 HBz.out HI.out)
                have HQ := Lib.hid (show GaP w.heap.size (delayF N xs c rs rate cs) (.returned (.tuple #[.slice aou9 nu capu9, .int .i64 0])) wa from GaP.ok HF.out (OE.lower HE.out hBW) HZ.out HMP.out)
                go_wp2_with fail
                exact bodyPost_ret (v := .tuple #[.slice aou9 nu capu9, .int .i64 0]) (by simp [results, Tryz.results18, go_sem]) rfl ⟨HQ.out, HW.out⟩
              have htk : decide ((q : Int) + 1 ≤ (N : Int)) = true := by simp; omega
              have z0 : wa.cell? ⟨w.heap.size, 0, none⟩ = some (.int .i64 N) := cell_of_row _ (w.heap.size) 0 _ _ _ (hp_keep4 HBz.out HI.out)
              have z1 : wa.cell? ⟨w.heap.size, 1, none⟩ = some (.slice ao xs.length cap) := cell_of_row _ (w.heap.size) 1 _ _ _ (hp_keep4 HBz.out HI.out)
              go_wp2_with fail
              refine (ref_bound N _ ((q : Int) + 1) 0 xs _ (Hv.out.keepb (bt HW.out HI.out)) Hok.out (by omega) (by omega) (by omega) (by omega)).mono ?_
              rintro e w3 ⟨rfl, hb⟩
              rw [show (0 : Int).toNat = 0 from rfl, show ((q : Int) + 1).toNat = q + 1 by omega]
              clear z0 z1
              replace HI := Lib.hid (bt HI.out hb)
              clear hb
              by_cases hn : ent N xs (q + 1) 0 = 1099511627776
              · have hnb : decide (ent N xs (q + 1) 0 ≠ 1099511627776) = false := by simpa using hn
                have HD := Lib.hid (dG_none (xs := xs) (c := c) (rs := rs) (all := zs) (Int.not_lt.2 HM0.out) hn (N := N))
                rw [hnb]
                clear hn hnb
                have HQ := Lib.hid (show gaTo (dG N xs c rs zs MO) 1 (q + 1 + 1) = (l, 0) from gaTo_none HGA.out (by omega) HD.out)
                go_wp2_with fail
                go_roundw
                case rel => exact ⟨q + 1, els, l, by omega, by go_num, HQ.out, (OE.keepw HE.out HI.out), (LZ.keepb HZ.out HI.out), HMP.out, by omega, (Nat.le_trans hba9 HI.out.size), (hp_keep4 HBz.out HI.out), (hp_keep4 HBu.out HI.out), (hp_keep4 HBa.out HI.out), (OL.keepb HA.out HI.out), (bt HW.out HI.out)⟩
                case measure => simp [intOf]; omega
              have hnb : decide (ent N xs (q + 1) 0 ≠ 1099511627776) = true := by simpa using hn
              have HD := Lib.hid (dG_high (xs := xs) (c := c) (rs := rs) (all := zs) (Int.not_lt.2 HM0.out) hn (N := N))
              rw [hnb]
              clear hn hnb
              have hbd := hi_bd Hok.out (show q + 1 ≤ N by omega)
              have HS := Lib.hid (fun (p : Nat) (h : p + 1 = q + 1 ∨ ent N xs (p + 1) 0 = 1099511627776) => dhTo_same (N := N) h)
              have HM := Lib.hid (fun (p : Nat) (h : p + 1 ≠ q + 1) (h2 : ent N xs (p + 1) 0 ≠ 1099511627776) => dhTo_more (N := N) h h2)
              have HL := Lib.hid (dhTo_len N xs (q + 1))
              have HL0 := Lib.hid (show dhTo N xs (q + 1) 0 = [wk 0 ((q + 1 : Nat) : Int) (-hiF N xs (q + 1))] from rfl)
              obtain ⟨T, hT⟩ : ∃ T, hiF N xs (q + 1) = T := ⟨_, rfl⟩
              have hT2 : ent N xs (q + 1) 0 / 2 = T := hT
              rw [hT] at hbd HD HL0
              have HT := Lib.hid hT
              rw [hT2]
              clear hT hT2
              have z0 : w3.cell? ⟨w.heap.size, 0, none⟩ = some (.int .i64 N) := cell_of_row _ (w.heap.size) 0 _ _ _ (hp_keep4 HBz.out HI.out)
              have z1 : w3.cell? ⟨w.heap.size, 1, none⟩ = some (.slice ao xs.length cap) := cell_of_row _ (w.heap.size) 1 _ _ _ (hp_keep4 HBz.out HI.out)
              go_wp2_with fail
              refine (ref_low N _ ((q : Int) + 1) xs _ (Hv.out.keepb (bt HW.out HI.out)) Hok.out (by omega) (by omega)).mono ?_
              rw [show ((q : Int) + 1).toNat = q + 1 by omega]
              rintro e w4 ⟨rfl, hb⟩
              clear z0 z1
              replace HI := Lib.hid (bt HI.out hb)
              clear hb
              go_wp2_with fail
              refine (ref_weak 0 ((q : Int) + 1) (-T) _ (by omega) (by omega)).mono ?_
              rintro e w5 ⟨rfl, hb⟩
              replace HI := Lib.hid (bt HI.out hb)
              clear hb
              have hsz := HI.out.size
              go_upto_region 30 with (at_builtin; go_loud (refine wpList_append_k rfl (.tmp 132) (.tmp 137) 96 rfl 98 Tryz.undKs Tryz.infoK wa.heap.size (.slice none 0 0) rfl [] ⟨rfl, .inl ⟨rfl, rfl⟩⟩ (by simp; omega) (.slice (some ⟨w5.heap.size, 0, none⟩) 1 1) rfl [wk 0 ((q + 1 : Nat) : Int) (-T)] (w5.heap.size + 1) (rs_lit3 (w := w5) rfl rfl (by simp)) (by simp) ?_; intro v' w6 ho' hg'))
              have Hlit := Lib.hid (show OK3 98 wa.heap.size w6 v' (dhTo N xs (q + 1) 0) by rw [HL0.out]; exact ho')
              replace HI := Lib.hid (bw_app HI.out hg' (fun g e => by simp [Value.ownBlock] at e) (Nat.le_refl _))
              clear ho' hg' hsz
              go_wp2_with fail
              go_loopw [24, 22] (fun j u wb => ∃ p : Nat, p ≤ N ∧ j = .int .i64 ((p : Int) + 1) ∧ OK3 98 wa.heap.size wb u (dhTo N xs (q + 1) p) ∧ Below wa.heap.size wa wb) (fun j _ _ => N + 1 - (intOf j).toNat)
              case atStart => exact ⟨0, Nat.zero_le _, by simp, Hlit.out, HI.out⟩
              case round =>
                try clear Hlit
                clear HI
                obtain ⟨wb, hwb⟩ : ∃ V, V = wr := ⟨_, rfl⟩
                subst hwb
                obtain ⟨p, hp, rfl, hk3, hi⟩ := hrel
                have HK := Lib.hid hk3
                have HI := Lib.hid hi
                obtain ⟨aok, nk, capk, rfl⟩ := owns_form3n hk3
                clear hk3 hi
                by_cases hlp : p < N
                · have htp : decide ((p : Int) + 1 ≤ (N : Int)) = true := by simp; omega
                  have z0 : wb.cell? ⟨w.heap.size, 0, none⟩ = some (.int .i64 N) := cell_of_row _ (w.heap.size) 0 _ _ _ (hp_keep4 HBz.out HI.out)
                  have z1 : wb.cell? ⟨w.heap.size, 1, none⟩ = some (.slice ao xs.length cap) := cell_of_row _ (w.heap.size) 1 _ _ _ (hp_keep4 HBz.out HI.out)
                  go_wp2_with fail
                  refine (ref_bound N _ ((p : Int) + 1) 0 xs _ (Hv.out.keepb (bt HW.out HI.out)) Hok.out (by omega) (by omega) (by omega) (by omega)).mono ?_
                  rintro e w7 ⟨rfl, hb⟩
                  rw [show (0 : Int).toNat = 0 from rfl, show ((p : Int) + 1).toNat = p + 1 by omega]
                  clear z0 z1
                  replace HK := Lib.hid (OK3.keepw HK.out hb)
                  replace HI := Lib.hid (bt HI.out hb)
                  clear hb
                  by_cases hpq : p = q
                  · subst hpq
                    have heq : (((p : Int) + 1) == ((p : Int) + 1)) = true := by simp
                    have HK2 := HK
                    rw [← HS.out p (.inl rfl)] at HK2
                    generalize decide (ent N xs (p + 1) 0 ≠ 1099511627776) = isb2
                    generalize ent N xs (p + 1) 0 / 2 = topv2
                    go_wp2_with fail
                    go_roundw
                    case rel => exact ⟨p + 1, by omega, by go_num, HK2.out, HI.out⟩
                    case measure => simp [intOf]; omega
                  have heq : (((p : Int) + 1) == ((q : Int) + 1)) = false := by simp; omega
                  by_cases hn2 : ent N xs (p + 1) 0 = 1099511627776
                  · have hnb : decide (ent N xs (p + 1) 0 ≠ 1099511627776) = false := by simpa using hn2
                    have HK2 := HK
                    rw [← HS.out p (.inr hn2)] at HK2
                    rw [hnb]
                    generalize ent N xs (p + 1) 0 / 2 = topv2
                    clear hnb hn2
                    go_wp2_with fail
                    go_roundw
                    case rel => exact ⟨p + 1, by omega, by go_num, HK2.out, HI.out⟩
                    case measure => simp [intOf]; omega
                  have hnb : decide (ent N xs (p + 1) 0 ≠ 1099511627776) = true := by simpa using hn2
                  rw [hnb]
                  clear hnb
                  have hbq := hi_bd Hok.out (show p + 1 ≤ N by omega)
                  have HMp := Lib.hid (HM.out p (by omega) hn2)
                  obtain ⟨T2, hT2⟩ : ∃ T2, hiF N xs (p + 1) = T2 := ⟨_, rfl⟩
                  have hT3 : ent N xs (p + 1) 0 / 2 = T2 := hT2
                  rw [hT2, HT.out] at HMp
                  rw [hT2] at hbq
                  rw [hT3]
                  clear hT2 hT3 hn2
                  go_wp2_with fail
                  refine (ref_weak ((p : Int) + 1) ((q : Int) + 1) (T2 - T) _ (by omega) (by omega)).mono ?_
                  rintro e w8 ⟨rfl, hb⟩
                  replace HK := Lib.hid (OK3.keepw HK.out hb)
                  replace HI := Lib.hid (bt HI.out hb)
                  clear hb
                  have hsz := HI.out.size
                  go_wp2_with (at_builtin; go_loud (refine wpList_append_k rfl (.tmp 166) (.tmp 173) 96 rfl 98 Tryz.undKs Tryz.infoK wa.heap.size (.slice aok nk capk) rfl (dhTo N xs (q + 1) p) (World.ownsRow.alloc HK.out _) (by simp; omega) (.slice (some ⟨w8.heap.size, 0, none⟩) 1 1) rfl [wk ((p + 1 : Nat) : Int) ((q + 1 : Nat) : Int) (T2 - T)] (w8.heap.size + 1) (rs_lit3 (w := w8) rfl rfl (by simp)) (by have := HL.out p; simp only [List.length_cons, List.length_nil]; omega) ?_; intro v' w9 ho' hg'))
                  replace HI := Lib.hid (bw_app HI.out hg' (fun g e => (World.ownsRow.lt HK.out g e).1) (Nat.le_refl _))
                  have HK2 := Lib.hid ho'
                  rw [← HMp.out] at HK2
                  clear ho' hg' hsz
                  go_wp2_with fail
                  go_roundw
                  case rel => exact ⟨p + 1, by omega, by go_num, HK2.out, HI.out⟩
                  case measure => simp [intOf]; omega
                have htp : decide ((p : Int) + 1 ≤ (N : Int)) = false := by simp; omega
                have hpN : p = N := by omega
                rw [hpN] at HK
                have z0 : wb.cell? ⟨w.heap.size, 0, none⟩ = some (.int .i64 N) := cell_of_row _ (w.heap.size) 0 _ _ _ (hp_keep4 HBz.out HI.out)
                have z1 : wb.cell? ⟨w.heap.size, 1, none⟩ = some (.slice ao xs.length cap) := cell_of_row _ (w.heap.size) 1 _ _ _ (hp_keep4 HBz.out HI.out)
                have a0 : wb.cell? ⟨A, 0, none⟩ = some (.int .i64 N) := cell_of_row _ A 0 _ _ _ (hp_keep4 HBa.out HI.out)
                have a1 : wb.cell? ⟨A, 1, none⟩ = some (.slice aoa zs.length capa) := cell_of_row _ A 1 _ _ _ (hp_keep4 HBa.out HI.out)
                clear hpN
                go_wp2_with fail
                refine (ref_and N _ _ zs (dhTo N xs (q + 1) N) _ (OL.rl (OL.keepb HA.out HI.out)) (OK3.rk HK.out)).mono ?_
                rintro e w8 ⟨⟨vo, he, hoo⟩, hb⟩
                obtain ⟨⟨x2, os⟩, hO⟩ : ∃ Q, andF N zs (dhTo N xs (q + 1) N) = Q := ⟨_, rfl⟩
                rw [hO] at he hoo
                obtain rfl : e = .returned (.tuple #[.agg #[.int .i64 (zdim (x2, os) N), vo], .int .i64 x2]) := he
                have hoo : OL _ _ _ _ os := hoo
                obtain ⟨aoo, capo, rfl⟩ := owns_form hoo
                have HO := Lib.hid (OL.mono hoo (Nat.zero_le _))
                have HOF := Lib.hid hO
                clear hoo hO a0 a1
                clear z0 z1
                replace HI := Lib.hid (bt HI.out hb)
                clear hb HK
                obtain ⟨D, hD⟩ : ∃ D, zdim (x2, os) (N : Int) = D := ⟨_, rfl⟩
                rw [hD]
                have hba := (Below.refl _ w8).alloc (Nat.le_refl _) (.cells #[.int .i64 D, .slice aoo os.length capo] 32)
                have hq1 := heap_alloc_new w8 (.cells #[.int .i64 D, .slice aoo os.length capo] 32)
                have hq2 := bt HI.out hba
                have hq3 := OL.keepb HO.out hba
                clear hba HI HO
                go_upto_region 39 with fail
                generalize w8.alloc (.cells #[.int .i64 D, .slice aoo os.length capo] 32) = Xo at *
                generalize w8.heap.size = OO at *
                have HBo := Lib.hid hq1
                have HI := Lib.hid hq2
                have HO := Lib.hid hq3
                clear hq1 hq2 hq3
                by_cases hx2 : x2 = 0
                rotate_left
                · have hxb : (x2 != 0) = true := by simpa using hx2
                  have HGq := Lib.hid (show dG N xs c rs zs MO (q + 1) = (pv0, 4) from HD.out.trans (pcutF_no HOF.out hx2))
                  have HQ := Lib.hid (show gaTo (dG N xs c rs zs MO) 1 (q + 1 + 1) = (l, 0) from gaTo_none HGA.out (by omega) HGq.out)
                  go_wp2_with fail
                  go_roundw
                  case rel => exact ⟨q + 1, els, l, by omega, by go_num, HQ.out, (OE.keepw HE.out HI.out), (LZ.keepb HZ.out HI.out), HMP.out, by omega, (Nat.le_trans hba9 HI.out.size), (hp_keep4 HBz.out HI.out), (hp_keep4 HBu.out HI.out), (hp_keep4 HBa.out HI.out), (OL.keepb HA.out HI.out), (bt HW.out HI.out)⟩
                  case measure => simp [intOf]; omega
                subst hx2
                obtain rfl : (N : Int) = D := by rw [← hD]; simp [zdim]
                have HGq := Lib.hid (fun (P : Pv × Int) (h : onF N xs c rs os MO (q + 1) T = P) => (HD.out.trans ((pcutF_yes HOF.out).trans h) : dG N xs c rs zs MO (q + 1) = P))
                clear hD
                have z0 : Xo.cell? ⟨w.heap.size, 0, none⟩ = some (.int .i64 N) := cell_of_row _ (w.heap.size) 0 _ _ _ (hp_keep4 HBz.out HI.out)
                have z1 : Xo.cell? ⟨w.heap.size, 1, none⟩ = some (.slice ao xs.length cap) := cell_of_row _ (w.heap.size) 1 _ _ _ (hp_keep4 HBz.out HI.out)
                have z2 : Xo.cell? ⟨w.heap.size, 2, none⟩ = some (.int .i64 c) := cell_of_row _ (w.heap.size) 2 _ _ _ (hp_keep4 HBz.out HI.out)
                have z3 : Xo.cell? ⟨w.heap.size, 3, none⟩ = some (.slice aor rs.length capr) := cell_of_row _ (w.heap.size) 3 _ _ _ (hp_keep4 HBz.out HI.out)
                have o0 : Xo.cell? ⟨OO, 0, none⟩ = some (.int .i64 N) := cell_of_row _ OO 0 _ _ _ HBo.out
                have o1 : Xo.cell? ⟨OO, 1, none⟩ = some (.slice aoo os.length capo) := cell_of_row _ OO 1 _ _ _ HBo.out
                go_wp2_with fail
                have HPt := Lib.hid (ref_part N (q + 1) c MO T (.slice ao xs.length cap) (.slice aor rs.length capr) (.slice aoo os.length capo) xs rs os Xo (Hv.out.keepb (bt HW.out HI.out)) (Hr.out.keepb (bt HW.out HI.out)) (OL.rl HO.out) Hok.out (and_valid HOF.out) Hlr.out (by omega))
                rw [show ((q + 1 : Nat) : Int) = (q : Int) + 1 by simp] at HPt
                refine HPt.out.mono ?_
                clear HPt
                rintro e w9 ⟨⟨rv', he, hrv⟩, hb⟩
                replace HO := Lib.hid (OL.keepb HO.out hb)
                clear o0 o1 HBo
                clear z0 z1 z2 z3
                replace HI := Lib.hid (bt HI.out hb)
                clear hb
                rcases onF_two N xs c rs os MO (q + 1) T with ⟨C, R, hQ⟩ | hQ
                rotate_left
                · rw [hQ] at he hrv
                  obtain rfl : e = .returned (.tuple #[.agg #[.int .i64 0, .slice none 0 0, .int .i64 0, rv'], .int .i64 7]) := he
                  obtain ⟨ao9, cap9, rfl⟩ := owns_form hrv
                  have HF := Lib.hid (HDL.out.trans (gaF_err (by omega) (gaTo_bad HGA.out (by omega) (HGq.out _ hQ) (by decide) (by decide)) (by decide)))
                  clear hrv hQ
                  have hba := (Below.refl _ w9).alloc (Nat.le_refl _) (.cells #[.int .i64 0, .slice none 0 0, .int .i64 0, .slice ao9 (pv0.rs).length cap9] 35)
                  have hq1 := heap_alloc_new w9 (.cells #[.int .i64 0, .slice none 0 0, .int .i64 0, .slice ao9 (pv0.rs).length cap9] 35)
                  have hq2 := bt HI.out hba
                  have hq3 := OL.keepb HO.out hba
                  clear hba HI HO
                  go_upto_region 41 with fail
                  generalize w9.alloc (.cells #[.int .i64 0, .slice none 0 0, .int .i64 0, .slice ao9 (pv0.rs).length cap9] 35) = Xx at *
                  generalize w9.heap.size = XX at *
                  have HBx := Lib.hid hq1
                  have HI := Lib.hid hq2
                  have HO := Lib.hid hq3
                  clear hq1 hq2 hq3
                  have HF2 := Lib.hid (show GaP w.heap.size (delayF N xs c rs rate cs) (.returned (.tuple #[.slice none 0 0, .int .i64 7])) Xx from GaP.err HF.out Xx)
                  go_wp2_with fail
                  exact bodyPost_ret (v := .tuple #[.slice none 0 0, .int .i64 7]) (by simp [results, Tryz.results18, go_sem]) rfl ⟨HF2.out, (bt HW.out HI.out)⟩
                rw [hQ] at he hrv
                obtain rfl : e = .returned (.tuple #[.agg #[.int .i64 N, .slice aoo os.length capo, .int .i64 C, rv'], .int .i64 0]) := he
                have hrv : OL _ _ _ rv' R := hrv
                obtain ⟨ao9, cap9, rfl⟩ := owns_form hrv
                have HGx := Lib.hid (HGq.out _ hQ)
                have HR := Lib.hid (OL.mono hrv (Nat.zero_le _))
                clear hrv hQ
                have hba := (Below.refl _ w9).alloc (Nat.le_refl _) (.cells #[.int .i64 N, .slice aoo os.length capo, .int .i64 C, .slice ao9 R.length cap9] 35)
                have hq1 := heap_alloc_new w9 (.cells #[.int .i64 N, .slice aoo os.length capo, .int .i64 C, .slice ao9 R.length cap9] 35)
                have hq2 := bt HI.out hba
                have hq3 := OL.keepb HO.out hba
                have hq4 := OL.keepb HR.out hba
                clear HR
                clear hba HI HO
                go_upto_region 43 with fail
                generalize w9.alloc (.cells #[.int .i64 N, .slice aoo os.length capo, .int .i64 C, .slice ao9 R.length cap9] 35) = Xx at *
                generalize w9.heap.size = XX at *
                have HBx := Lib.hid hq1
                have HI := Lib.hid hq2
                have HO := Lib.hid hq3
                clear hq1 hq2 hq3
                have HR := Lib.hid hq4
                clear hq4
                have x0 : Xx.cell? ⟨XX, 0, none⟩ = some (.int .i64 N) := cell_of_row _ (XX) 0 _ _ _ HBx.out
                have x1 : Xx.cell? ⟨XX, 1, none⟩ = some (.slice aoo os.length capo) := cell_of_row _ (XX) 1 _ _ _ HBx.out
                have x2 : Xx.cell? ⟨XX, 2, none⟩ = some (.int .i64 C) := cell_of_row _ (XX) 2 _ _ _ HBx.out
                have x3 : Xx.cell? ⟨XX, 3, none⟩ = some (.slice ao9 R.length cap9) := cell_of_row _ (XX) 3 _ _ _ HBx.out
                have hsz := HI.out.size
                have hs0 : X5.heap.size ≤ Xx.heap.size := Nat.le_trans hba9 hsz
                have Hown := Lib.hid (show OE cdPz 35 X5.heap.size (Xx.alloc (.cells #[.int .i64 N, .slice aoo os.length capo, .int .i64 C, .slice ao9 R.length cap9] 35)) (.slice aou9 nu capu9) els from World.ownsRow.alloc (OE.keepw HE.out HI.out) _)
                have HbA := Lib.hid ((Below.refl Xx.heap.size Xx).alloc (Nat.le_refl _) (.cells #[.int .i64 N, .slice aoo os.length capo, .int .i64 C, .slice ao9 R.length cap9] 35))
                have Hlit := Lib.hid (show RS (Xx.heap.size + 1) (Xx.alloc (.cells #[.int .i64 N, .slice aoo os.length capo, .int .i64 C, .slice ao9 R.length cap9] 35)) (.slice (some ⟨Xx.heap.size, 0, none⟩) 1 1) 1 (cdPz.cells ⟨N, .slice aoo os.length capo, os, C, .slice ao9 R.length cap9, R⟩) from rs_litz rfl)
                go_upto_region 22 with (at_builtin; go_loud (refine wpList_append_pz rfl (.tmp 207) (.tmp 209) 41 rfl 35 Tryz.undPz Tryz.infoPz X5.heap.size (.slice aou9 nu capu9) rfl els Hown.out (by simp; omega) (.slice (some ⟨Xx.heap.size, 0, none⟩) 1 1) rfl ⟨N, .slice aoo os.length capo, os, C, .slice ao9 R.length cap9, R⟩ rfl rfl (Xx.heap.size + 1) Hlit.out (by omega) ?_; intro v' wz ho' hg' hk'))
                have hgb := fun g e => (World.ownsRow.lt Hown.out g e).1
                have hsz9 : X5.heap.size ≤ wz.heap.size := by have := hg'.size; simp at this; omega
                have Hx1 := OL.kept (OL.keepb HO.out HbA.out) hg' (own_apart (OL.keepb HO.out HbA.out) Hown.out (by decide))
                have Hx2 := OL.kept (OL.keepb HR.out HbA.out) hg' (own_apart (OL.keepb HR.out HbA.out) Hown.out (by decide))
                have HAz := OL.keepb (OL.keepb HA.out HI.out) HbA.out
                have HAq := Lib.hid (OL.kept HAz hg' (own_apart HAz Hown.out (by decide)))
                have HZq := Lib.hid (LZ.snoc (x := ⟨N, .slice aoo os.length capo, os, C, .slice ao9 R.length cap9, R⟩) (LZ.grown (LZ.keepb (LZ.keepb HZ.out HI.out) HbA.out) Hown.out hg') Hx1 Hx2)
                have HEq := Lib.hid ho'
                have HMq := Lib.hid (show (els ++ [(⟨N, .slice aoo os.length capo, os, C, .slice ao9 R.length cap9, R⟩ : Pz)]).map pvOf = [] ++ (l ++ [(⟨N, os, C, R⟩ : Pv)]) by rw [List.map_append, HMP.out, List.append_assoc]; rfl)
                have HWq := Lib.hid (bw_app (bt HW.out HI.out) hg' hgb (by omega))
                have HQz := Lib.hid (hp_app (hp_keep4 HBz.out HI.out) hg' hgb (by omega))
                have HQu := Lib.hid (hp_app (hp_keep4 HBu.out HI.out) hg' hgb (by omega))
                have HQa := Lib.hid (hp_app (hp_keep4 HBa.out HI.out) hg' hgb (by omega))
                clear x0 x1 x2 x3 Hx1 Hx2 HAz hgb hg' hk' ho' Hown HbA Hlit
                have HQ := Lib.hid (show gaTo (dG N xs c rs zs MO) 1 (q + 1 + 1) = ((l ++ [(⟨N, os, C, R⟩ : Pv)]), 0) from gaTo_one HGA.out (by omega) HGx.out)
                go_wp2_with fail
                go_roundw
                case rel => exact ⟨q + 1, els ++ [⟨N, .slice aoo os.length capo, os, C, .slice ao9 R.length cap9, R⟩], (l ++ [(⟨N, os, C, R⟩ : Pv)]), by omega, by go_num, HQ.out, HEq.out, HZq.out, HMq.out, by simp; omega, hsz9, HQz.out, HQu.out, HQa.out, HAq.out, HWq.out⟩
                case measure => simp [intOf]; omega
end Go.Proofs.YtfphlpglgcmljaaGreat
