/- The law ZoneTwos answers true for every input, and writes nothing that was there (under way). -/
import Derived.Test.YtkgaipcgdldfdaaLaw3
import Derived.Test.YtkgaipcgdldfdaaRmh
import Derived.Deep.DeepCutAuto
namespace Go.Proofs.Ytkgaipcgdldfdaa
open Go.RowKit
set_option linter.unusedVariables false

set_option maxRecDepth 100000 in
set_option maxHeartbeats 8000000 in
theorem law_zone_twos (n n2 : Int) (v v2 : Value) (xs ys : List Int) (w : World) (hv : RL w.heap.size w v xs) (hv2 : RL w.heap.size w v2 ys) :
    Calls Try.prog 11 #[.agg #[.int .i64 n, v], .agg #[.int .i64 n2, v2]] w fun e w' => e = .returned (.bool true) ∧ Below w.heap.size w w' := by
  obtain ⟨ao, cap, rfl, hle, _⟩ := hv.open
  obtain ⟨ao2, cap2, rfl, hle2, _⟩ := hv2.open
  have hloc := Loc.two w (.cells #[.int .i64 n, .slice ao xs.length cap] 24) (.cells #[.int .i64 n2, .slice ao2 ys.length cap2] 24) none
  have Hv := Lib.hid (hv.keepb (below_grownBy hloc.grown))
  have Hv2 := Lib.hid (hv2.keepb (below_grownBy hloc.grown))
  clear hv hv2
  by_cases hb : 200 < xs.length
  · have htb : decide ((200 : Int) < (xs.length : Int)) = true := by simp; omega
    go_enter Try.func11, Try.ntmps11
    go_wp2_with fail
    refine (law_shown03 _).mono ?_
    rintro e w1 ⟨rfl, hb1⟩
    go_wp2_with fail
    go_ret
    exact ⟨rfl, below_grownBy (hloc.next (grownBy_below hb1 none) (fun _ h => by cases h)).grown⟩
  have htb : decide ((200 : Int) < (xs.length : Int)) = false := by simp; omega
  by_cases hb2 : 200 < ys.length
  · have htb2 : decide ((200 : Int) < (ys.length : Int)) = true := by simp; omega
    go_enter Try.func11, Try.ntmps11
    go_wp2_with fail
    refine (law_shown03 _).mono ?_
    rintro e w1 ⟨rfl, hb1⟩
    go_wp2_with fail
    go_ret
    exact ⟨rfl, below_grownBy (hloc.next (grownBy_below hb1 none) (fun _ h => by cases h)).grown⟩
  have htb2 : decide ((200 : Int) < (ys.length : Int)) = false := by simp; omega
  have Hl := Lib.hid (show xs.length ≤ 200 by omega)
  have Hl2 := Lib.hid (show ys.length ≤ 200 by omega)
  clear hb hb2
  go_enter Try.func11, Try.ntmps11
  go_upto_region 3 with fail
  have hz0 := hloc.cell 0 rfl 0
  have hz1 := hloc.cell 0 rfl 1
  have hy0 := hloc.cell 1 rfl 0
  have hy1 := hloc.cell 1 rfl 1
  generalize hW : World.alloc _ (Obj.cells #[.int .i64 n2, .slice ao2 ys.length cap2] 24) = W at *
  have z0 : W.cell? ⟨w.heap.size, 0, none⟩ = some (.int .i64 n) := hz0
  have z1 : W.cell? ⟨w.heap.size, 1, none⟩ = some (.slice ao xs.length cap) := hz1
  have y0 : W.cell? ⟨w.heap.size + 1, 0, none⟩ = some (.int .i64 n2) := hy0
  have y1 : W.cell? ⟨w.heap.size + 1, 1, none⟩ = some (.slice ao2 ys.length cap2) := hy1
  have Hloc := Lib.hid hloc
  clear hz0 hz1 hy0 hy1 hW hloc
  have Hs := Lib.hid (St.zero W)
  have Z0 := Lib.hid z0
  have Z1 := Lib.hid z1
  have Y0 := Lib.hid y0
  have Y1 := Lib.hid y1
  go_cut [5, 6] (fun p5 p6 wx => ∃ b5 b6 g5 c5 g6 c6, p5 = .pointer (some ⟨b5, 0, none⟩) ∧ p6 = .pointer (some ⟨b6, 0, none⟩) ∧ Lent2 W wx n n2 xs ys b5 b6 g5 c5 g6 c6)
  case first =>
    refine wp_region_noPanic ?_
    refine wp_region_held_drew (S := (fun w' => w'.cell? ⟨w.heap.size, 0, none⟩ = some (.int .i64 n) ∧ w'.cell? ⟨w.heap.size, 1, none⟩ = some (.slice ao xs.length cap) ∧ w'.cell? ⟨w.heap.size + 1, 0, none⟩ = some (.int .i64 n2) ∧ w'.cell? ⟨w.heap.size + 1, 1, none⟩ = some (.slice ao2 ys.length cap2))) (by kernel_rfl) ⟨z0, z1, y0, y1⟩ (fun hHeld => ?_)
    refine wpAnyH_take (i := 0) (v := ?_) rfl (by kernel_rfl) (by kernel_rfl) (by kernel_rfl) (fun _ _ _ h => h) (Or.inl ⟨by rfl, ?_⟩) (by assumption) ?_
    rotate_left
    · intro w hSw; (try dsimp only at hSw); go_simp; (try with_reducible rfl)
    try simp only [Act.put, List.getElem_toArray, List.getElem_cons_zero, List.setIfInBounds_toArray, List.set_cons_zero, List.set_cons_succ]
    refine wpAnyH_take (i := 2) (v := ?_) rfl (by kernel_rfl) (by kernel_rfl) (by kernel_rfl) (fun _ _ _ h => h) (Or.inl ⟨by rfl, ?_⟩) (by assumption) ?_
    rotate_left
    · intro w hSw; (try dsimp only at hSw); go_simp; (try with_reducible rfl)
    try simp only [Act.put, List.getElem_toArray, List.getElem_cons_zero, List.getElem_cons_succ, List.setIfInBounds_toArray, List.set_cons_zero, List.set_cons_succ]
    have H0 := Lib.hid Hs.out.drew
    clear hHeld
    generalize W.drew = X0 at *
    refine wpAnyH_ready (rs := [1, 4, 5]) (by kernel_rfl) (by simp) ?_
    refine AllReadyH.cons rfl (fun K hK => ?_) (AllReadyH.cons rfl (fun K hK => ?_) (AllReadyH.cons rfl (fun K hK => ?_) (AllReadyH.nil)))
    · skip
      go_simp
      refine (H0.out.lent n Hv.out Hl.out).mono ?_
      rintro e X1 ⟨g5, c5, rfl, H1'⟩
      refine hK.out _ _ ⟨keepb Z0.out H1'.bel, keepb Z1.out H1'.bel, keepb Y0.out H1'.bel, keepb Y1.out H1'.bel⟩ (fun hHeld2 => ?_)
      clear hK K
      have H1 := Lib.hid H1'
      clear H1' hHeld2
      try simp only [Act.put, List.getElem_toArray, List.getElem_cons_zero, List.getElem_cons_succ, List.setIfInBounds_toArray, List.set_cons_zero, List.set_cons_succ]
      refine wpAnyH_ready (rs := [3, 4, 5]) (by kernel_rfl) (by simp) ?_
      refine AllReadyH.cons rfl (fun K hK => ?_) (AllReadyH.cons rfl (fun K hK => ?_) (AllReadyH.cons rfl (fun K hK => ?_) (AllReadyH.nil)))
      · skip
        go_simp
        refine (H1.out.lent n2 Hv2.out Hl2.out).mono ?_
        rintro e X2 ⟨g6, c6, rfl, H2'⟩
        refine hK.out _ _ ⟨keepb Z0.out H2'.bel, keepb Z1.out H2'.bel, keepb Y0.out H2'.bel, keepb Y1.out H2'.bel⟩ (fun hHeld2 => ?_)
        clear hK K
        have H2 := Lib.hid H2'
        clear H2' hHeld2
        try simp only [Act.put, List.getElem_toArray, List.getElem_cons_zero, List.getElem_cons_succ, List.setIfInBounds_toArray, List.set_cons_zero, List.set_cons_succ]
        refine wpAnyH_ready (rs := [4, 5]) (by kernel_rfl) (by simp) ?_
        refine AllReadyH.cons rfl (fun K hK => ?_) (AllReadyH.cons rfl (fun K hK => ?_) (AllReadyH.nil))
        · skip
          go_simp
          have H3' := H2.out.alloc
          refine hK.out _ _ ⟨keepb Z0.out H3'.bel, keepb Z1.out H3'.bel, keepb Y0.out H3'.bel, keepb Y1.out H3'.bel⟩ (fun hHeld2 => ?_)
          clear hK K hHeld2
          generalize hgen3 : World.alloc X2 _ = X3 at *
          clear hgen3
          generalize X2.heap.size = b5 at *
          have H3 := Lib.hid H3'
          clear H3'
          try simp only [Act.put, List.getElem_toArray, List.getElem_cons_zero, List.getElem_cons_succ, List.setIfInBounds_toArray, List.set_cons_zero, List.set_cons_succ]
          refine wpAnyH_ready (rs := [5]) (by kernel_rfl) (by simp) ?_
          refine AllReadyH.cons rfl (fun K hK => ?_) (AllReadyH.nil)
          · skip
            go_simp
            have H4' := H3.out.alloc
            refine hK.out _ _ ⟨keepb Z0.out H4'.bel, keepb Z1.out H4'.bel, keepb Y0.out H4'.bel, keepb Y1.out H4'.bel⟩ (fun hHeld2 => ?_)
            clear hK K hHeld2
            generalize hgen4 : World.alloc X3 _ = X4 at *
            clear hgen4
            generalize X3.heap.size = b6 at *
            have H4 := Lib.hid H4'
            clear H4'
            try simp only [Act.put, List.getElem_toArray, List.getElem_cons_zero, List.getElem_cons_succ, List.setIfInBounds_toArray, List.set_cons_zero, List.set_cons_succ]
            refine wpAnyH_ready (rs := [6]) (by kernel_rfl) (by simp) ?_
            refine AllReadyH.cons rfl (fun K hK => ?_) (AllReadyH.nil)
            · skip
              obtain ⟨u0, u1, u2, u3⟩ := H4.out.c (b := b5) (by simp)
              have HB5 := (H4.out.bel.setCell (p := ⟨b5, 0, none⟩) (H4.out.box b5 (by simp)).2 (.int .i64 n)).setCell (p := ⟨b5, 1, none⟩) (H4.out.box b5 (by simp)).2 (.slice (some ⟨g5, 0, none⟩) xs.length c5)
              obtain ⟨v0, v1, v2, v3⟩ := H4.out.c2 (b := b6) (c := b5) (by simp) (by have := H4.out.nd; simp at this; omega) (.int .i64 n) (.slice (some ⟨g5, 0, none⟩) xs.length c5)
              go_simp
              refine hK.out _ _ ⟨keepb Z0.out HB5, keepb Z1.out HB5, keepb Y0.out HB5, keepb Y1.out HB5⟩ (fun hHeld2 => ?_)
              clear hK K hHeld2 u0 u1 u2 u3
              generalize hX1 : World.setCell (World.setCell X4 _ _) _ _ = XA at *
              have HX1 := Lib.hid hX1
              clear hX1
              try simp only [Act.put, List.getElem_toArray, List.getElem_cons_zero, List.getElem_cons_succ, List.setIfInBounds_toArray, List.set_cons_zero, List.set_cons_succ]
              refine wpAnyH_ready (rs := [7]) (by kernel_rfl) (by simp) ?_
              refine AllReadyH.cons rfl (fun K hK => ?_) (AllReadyH.nil)
              · skip
                have HB6 := (HB5.setCell (p := ⟨b6, 0, none⟩) (H4.out.box b6 (by simp)).2 (.int .i64 n2)).setCell (p := ⟨b6, 1, none⟩) (H4.out.box b6 (by simp)).2 (.slice (some ⟨g6, 0, none⟩) ys.length c6)
                go_simp
                refine hK.out _ _ ⟨keepb Z0.out HB6, keepb Z1.out HB6, keepb Y0.out HB6, keepb Y1.out HB6⟩ (fun hHeld2 => ?_)
                clear hK K hHeld2 v0 v1 v2 v3
                generalize hX2 : World.setCell (World.setCell XA _ _) _ _ = XB at *
                have HX2 := Lib.hid hX2
                clear hX2
                try simp only [Act.put, List.getElem_toArray, List.getElem_cons_zero, List.getElem_cons_succ, List.setIfInBounds_toArray, List.set_cons_zero, List.set_cons_succ]
                refine wpAnyH_done (by kernel_rfl) ?_ _
                refine NoPanic.normal ?_
                go_wp2_with fail
                go_meet
                exact ⟨b5, b6, g5, c5, g6, c6, rfl, rfl, HX2.out ▸ HX1.out ▸ (H4).out.fin n n2 b5 b6 (Or.inr ⟨rfl, rfl⟩)⟩
        · skip
          go_simp
          have H3' := H2.out.alloc
          refine hK.out _ _ ⟨keepb Z0.out H3'.bel, keepb Z1.out H3'.bel, keepb Y0.out H3'.bel, keepb Y1.out H3'.bel⟩ (fun hHeld2 => ?_)
          clear hK K hHeld2
          generalize hgen3 : World.alloc X2 _ = X3 at *
          clear hgen3
          generalize X2.heap.size = b6 at *
          have H3 := Lib.hid H3'
          clear H3'
          try simp only [Act.put, List.getElem_toArray, List.getElem_cons_zero, List.getElem_cons_succ, List.setIfInBounds_toArray, List.set_cons_zero, List.set_cons_succ]
          refine wpAnyH_ready (rs := [4]) (by kernel_rfl) (by simp) ?_
          refine AllReadyH.cons rfl (fun K hK => ?_) (AllReadyH.nil)
          · skip
            go_simp
            have H4' := H3.out.alloc
            refine hK.out _ _ ⟨keepb Z0.out H4'.bel, keepb Z1.out H4'.bel, keepb Y0.out H4'.bel, keepb Y1.out H4'.bel⟩ (fun hHeld2 => ?_)
            clear hK K hHeld2
            generalize hgen4 : World.alloc X3 _ = X4 at *
            clear hgen4
            generalize X3.heap.size = b5 at *
            have H4 := Lib.hid H4'
            clear H4'
            try simp only [Act.put, List.getElem_toArray, List.getElem_cons_zero, List.getElem_cons_succ, List.setIfInBounds_toArray, List.set_cons_zero, List.set_cons_succ]
            refine wpAnyH_ready (rs := [6]) (by kernel_rfl) (by simp) ?_
            refine AllReadyH.cons rfl (fun K hK => ?_) (AllReadyH.nil)
            · skip
              obtain ⟨u0, u1, u2, u3⟩ := H4.out.c (b := b5) (by simp)
              have HB5 := (H4.out.bel.setCell (p := ⟨b5, 0, none⟩) (H4.out.box b5 (by simp)).2 (.int .i64 n)).setCell (p := ⟨b5, 1, none⟩) (H4.out.box b5 (by simp)).2 (.slice (some ⟨g5, 0, none⟩) xs.length c5)
              obtain ⟨v0, v1, v2, v3⟩ := H4.out.c2 (b := b6) (c := b5) (by simp) (by have := H4.out.nd; simp at this; omega) (.int .i64 n) (.slice (some ⟨g5, 0, none⟩) xs.length c5)
              go_simp
              refine hK.out _ _ ⟨keepb Z0.out HB5, keepb Z1.out HB5, keepb Y0.out HB5, keepb Y1.out HB5⟩ (fun hHeld2 => ?_)
              clear hK K hHeld2 u0 u1 u2 u3
              generalize hX1 : World.setCell (World.setCell X4 _ _) _ _ = XA at *
              have HX1 := Lib.hid hX1
              clear hX1
              try simp only [Act.put, List.getElem_toArray, List.getElem_cons_zero, List.getElem_cons_succ, List.setIfInBounds_toArray, List.set_cons_zero, List.set_cons_succ]
              refine wpAnyH_ready (rs := [7]) (by kernel_rfl) (by simp) ?_
              refine AllReadyH.cons rfl (fun K hK => ?_) (AllReadyH.nil)
              · skip
                have HB6 := (HB5.setCell (p := ⟨b6, 0, none⟩) (H4.out.box b6 (by simp)).2 (.int .i64 n2)).setCell (p := ⟨b6, 1, none⟩) (H4.out.box b6 (by simp)).2 (.slice (some ⟨g6, 0, none⟩) ys.length c6)
                go_simp
                refine hK.out _ _ ⟨keepb Z0.out HB6, keepb Z1.out HB6, keepb Y0.out HB6, keepb Y1.out HB6⟩ (fun hHeld2 => ?_)
                clear hK K hHeld2 v0 v1 v2 v3
                generalize hX2 : World.setCell (World.setCell XA _ _) _ _ = XB at *
                have HX2 := Lib.hid hX2
                clear hX2
                try simp only [Act.put, List.getElem_toArray, List.getElem_cons_zero, List.getElem_cons_succ, List.setIfInBounds_toArray, List.set_cons_zero, List.set_cons_succ]
                refine wpAnyH_done (by kernel_rfl) ?_ _
                refine NoPanic.normal ?_
                go_wp2_with fail
                go_meet
                exact ⟨b5, b6, g5, c5, g6, c6, rfl, rfl, HX2.out ▸ HX1.out ▸ (H4).out.fin n n2 b5 b6 (Or.inl ⟨rfl, rfl⟩)⟩
      · skip
        go_simp
        have H2' := H1.out.alloc
        refine hK.out _ _ ⟨keepb Z0.out H2'.bel, keepb Z1.out H2'.bel, keepb Y0.out H2'.bel, keepb Y1.out H2'.bel⟩ (fun hHeld2 => ?_)
        clear hK K hHeld2
        generalize hgen2 : World.alloc X1 _ = X2 at *
        clear hgen2
        generalize X1.heap.size = b5 at *
        have H2 := Lib.hid H2'
        clear H2'
        try simp only [Act.put, List.getElem_toArray, List.getElem_cons_zero, List.getElem_cons_succ, List.setIfInBounds_toArray, List.set_cons_zero, List.set_cons_succ]
        refine wpAnyH_ready (rs := [3, 5]) (by kernel_rfl) (by simp) ?_
        refine AllReadyH.cons rfl (fun K hK => ?_) (AllReadyH.cons rfl (fun K hK => ?_) (AllReadyH.nil))
        · skip
          go_simp
          refine (H2.out.lent n2 Hv2.out Hl2.out).mono ?_
          rintro e X3 ⟨g6, c6, rfl, H3'⟩
          refine hK.out _ _ ⟨keepb Z0.out H3'.bel, keepb Z1.out H3'.bel, keepb Y0.out H3'.bel, keepb Y1.out H3'.bel⟩ (fun hHeld2 => ?_)
          clear hK K
          have H3 := Lib.hid H3'
          clear H3' hHeld2
          try simp only [Act.put, List.getElem_toArray, List.getElem_cons_zero, List.getElem_cons_succ, List.setIfInBounds_toArray, List.set_cons_zero, List.set_cons_succ]
          refine wpAnyH_ready (rs := [5]) (by kernel_rfl) (by simp) ?_
          refine AllReadyH.cons rfl (fun K hK => ?_) (AllReadyH.nil)
          · skip
            go_simp
            have H4' := H3.out.alloc
            refine hK.out _ _ ⟨keepb Z0.out H4'.bel, keepb Z1.out H4'.bel, keepb Y0.out H4'.bel, keepb Y1.out H4'.bel⟩ (fun hHeld2 => ?_)
            clear hK K hHeld2
            generalize hgen4 : World.alloc X3 _ = X4 at *
            clear hgen4
            generalize X3.heap.size = b6 at *
            have H4 := Lib.hid H4'
            clear H4'
            try simp only [Act.put, List.getElem_toArray, List.getElem_cons_zero, List.getElem_cons_succ, List.setIfInBounds_toArray, List.set_cons_zero, List.set_cons_succ]
            refine wpAnyH_ready (rs := [6]) (by kernel_rfl) (by simp) ?_
            refine AllReadyH.cons rfl (fun K hK => ?_) (AllReadyH.nil)
            · skip
              obtain ⟨u0, u1, u2, u3⟩ := H4.out.c (b := b5) (by simp)
              have HB5 := (H4.out.bel.setCell (p := ⟨b5, 0, none⟩) (H4.out.box b5 (by simp)).2 (.int .i64 n)).setCell (p := ⟨b5, 1, none⟩) (H4.out.box b5 (by simp)).2 (.slice (some ⟨g5, 0, none⟩) xs.length c5)
              obtain ⟨v0, v1, v2, v3⟩ := H4.out.c2 (b := b6) (c := b5) (by simp) (by have := H4.out.nd; simp at this; omega) (.int .i64 n) (.slice (some ⟨g5, 0, none⟩) xs.length c5)
              go_simp
              refine hK.out _ _ ⟨keepb Z0.out HB5, keepb Z1.out HB5, keepb Y0.out HB5, keepb Y1.out HB5⟩ (fun hHeld2 => ?_)
              clear hK K hHeld2 u0 u1 u2 u3
              generalize hX1 : World.setCell (World.setCell X4 _ _) _ _ = XA at *
              have HX1 := Lib.hid hX1
              clear hX1
              try simp only [Act.put, List.getElem_toArray, List.getElem_cons_zero, List.getElem_cons_succ, List.setIfInBounds_toArray, List.set_cons_zero, List.set_cons_succ]
              refine wpAnyH_ready (rs := [7]) (by kernel_rfl) (by simp) ?_
              refine AllReadyH.cons rfl (fun K hK => ?_) (AllReadyH.nil)
              · skip
                have HB6 := (HB5.setCell (p := ⟨b6, 0, none⟩) (H4.out.box b6 (by simp)).2 (.int .i64 n2)).setCell (p := ⟨b6, 1, none⟩) (H4.out.box b6 (by simp)).2 (.slice (some ⟨g6, 0, none⟩) ys.length c6)
                go_simp
                refine hK.out _ _ ⟨keepb Z0.out HB6, keepb Z1.out HB6, keepb Y0.out HB6, keepb Y1.out HB6⟩ (fun hHeld2 => ?_)
                clear hK K hHeld2 v0 v1 v2 v3
                generalize hX2 : World.setCell (World.setCell XA _ _) _ _ = XB at *
                have HX2 := Lib.hid hX2
                clear hX2
                try simp only [Act.put, List.getElem_toArray, List.getElem_cons_zero, List.getElem_cons_succ, List.setIfInBounds_toArray, List.set_cons_zero, List.set_cons_succ]
                refine wpAnyH_done (by kernel_rfl) ?_ _
                refine NoPanic.normal ?_
                go_wp2_with fail
                go_meet
                exact ⟨b5, b6, g5, c5, g6, c6, rfl, rfl, HX2.out ▸ HX1.out ▸ (H4).out.fin n n2 b5 b6 (Or.inr ⟨rfl, rfl⟩)⟩
        · skip
          go_simp
          have H3' := H2.out.alloc
          refine hK.out _ _ ⟨keepb Z0.out H3'.bel, keepb Z1.out H3'.bel, keepb Y0.out H3'.bel, keepb Y1.out H3'.bel⟩ (fun hHeld2 => ?_)
          clear hK K hHeld2
          generalize hgen3 : World.alloc X2 _ = X3 at *
          clear hgen3
          generalize X2.heap.size = b6 at *
          have H3 := Lib.hid H3'
          clear H3'
          try simp only [Act.put, List.getElem_toArray, List.getElem_cons_zero, List.getElem_cons_succ, List.setIfInBounds_toArray, List.set_cons_zero, List.set_cons_succ]
          refine wpAnyH_ready (rs := [3]) (by kernel_rfl) (by simp) ?_
          refine AllReadyH.cons rfl (fun K hK => ?_) (AllReadyH.nil)
          · skip
            go_simp
            refine (H3.out.lent n2 Hv2.out Hl2.out).mono ?_
            rintro e X4 ⟨g6, c6, rfl, H4'⟩
            refine hK.out _ _ ⟨keepb Z0.out H4'.bel, keepb Z1.out H4'.bel, keepb Y0.out H4'.bel, keepb Y1.out H4'.bel⟩ (fun hHeld2 => ?_)
            clear hK K
            have H4 := Lib.hid H4'
            clear H4' hHeld2
            try simp only [Act.put, List.getElem_toArray, List.getElem_cons_zero, List.getElem_cons_succ, List.setIfInBounds_toArray, List.set_cons_zero, List.set_cons_succ]
            refine wpAnyH_ready (rs := [6]) (by kernel_rfl) (by simp) ?_
            refine AllReadyH.cons rfl (fun K hK => ?_) (AllReadyH.nil)
            · skip
              obtain ⟨u0, u1, u2, u3⟩ := H4.out.c (b := b5) (by simp)
              have HB5 := (H4.out.bel.setCell (p := ⟨b5, 0, none⟩) (H4.out.box b5 (by simp)).2 (.int .i64 n)).setCell (p := ⟨b5, 1, none⟩) (H4.out.box b5 (by simp)).2 (.slice (some ⟨g5, 0, none⟩) xs.length c5)
              obtain ⟨v0, v1, v2, v3⟩ := H4.out.c2 (b := b6) (c := b5) (by simp) (by have := H4.out.nd; simp at this; omega) (.int .i64 n) (.slice (some ⟨g5, 0, none⟩) xs.length c5)
              go_simp
              refine hK.out _ _ ⟨keepb Z0.out HB5, keepb Z1.out HB5, keepb Y0.out HB5, keepb Y1.out HB5⟩ (fun hHeld2 => ?_)
              clear hK K hHeld2 u0 u1 u2 u3
              generalize hX1 : World.setCell (World.setCell X4 _ _) _ _ = XA at *
              have HX1 := Lib.hid hX1
              clear hX1
              try simp only [Act.put, List.getElem_toArray, List.getElem_cons_zero, List.getElem_cons_succ, List.setIfInBounds_toArray, List.set_cons_zero, List.set_cons_succ]
              refine wpAnyH_ready (rs := [7]) (by kernel_rfl) (by simp) ?_
              refine AllReadyH.cons rfl (fun K hK => ?_) (AllReadyH.nil)
              · skip
                have HB6 := (HB5.setCell (p := ⟨b6, 0, none⟩) (H4.out.box b6 (by simp)).2 (.int .i64 n2)).setCell (p := ⟨b6, 1, none⟩) (H4.out.box b6 (by simp)).2 (.slice (some ⟨g6, 0, none⟩) ys.length c6)
                go_simp
                refine hK.out _ _ ⟨keepb Z0.out HB6, keepb Z1.out HB6, keepb Y0.out HB6, keepb Y1.out HB6⟩ (fun hHeld2 => ?_)
                clear hK K hHeld2 v0 v1 v2 v3
                generalize hX2 : World.setCell (World.setCell XA _ _) _ _ = XB at *
                have HX2 := Lib.hid hX2
                clear hX2
                try simp only [Act.put, List.getElem_toArray, List.getElem_cons_zero, List.getElem_cons_succ, List.setIfInBounds_toArray, List.set_cons_zero, List.set_cons_succ]
                refine wpAnyH_done (by kernel_rfl) ?_ _
                refine NoPanic.normal ?_
                go_wp2_with fail
                go_meet
                exact ⟨b5, b6, g5, c5, g6, c6, rfl, rfl, HX2.out ▸ HX1.out ▸ (H4).out.fin n n2 b5 b6 (Or.inr ⟨rfl, rfl⟩)⟩
      · skip
        go_simp
        have H2' := H1.out.alloc
        refine hK.out _ _ ⟨keepb Z0.out H2'.bel, keepb Z1.out H2'.bel, keepb Y0.out H2'.bel, keepb Y1.out H2'.bel⟩ (fun hHeld2 => ?_)
        clear hK K hHeld2
        generalize hgen2 : World.alloc X1 _ = X2 at *
        clear hgen2
        generalize X1.heap.size = b6 at *
        have H2 := Lib.hid H2'
        clear H2'
        try simp only [Act.put, List.getElem_toArray, List.getElem_cons_zero, List.getElem_cons_succ, List.setIfInBounds_toArray, List.set_cons_zero, List.set_cons_succ]
        refine wpAnyH_ready (rs := [3, 4]) (by kernel_rfl) (by simp) ?_
        refine AllReadyH.cons rfl (fun K hK => ?_) (AllReadyH.cons rfl (fun K hK => ?_) (AllReadyH.nil))
        · skip
          go_simp
          refine (H2.out.lent n2 Hv2.out Hl2.out).mono ?_
          rintro e X3 ⟨g6, c6, rfl, H3'⟩
          refine hK.out _ _ ⟨keepb Z0.out H3'.bel, keepb Z1.out H3'.bel, keepb Y0.out H3'.bel, keepb Y1.out H3'.bel⟩ (fun hHeld2 => ?_)
          clear hK K
          have H3 := Lib.hid H3'
          clear H3' hHeld2
          try simp only [Act.put, List.getElem_toArray, List.getElem_cons_zero, List.getElem_cons_succ, List.setIfInBounds_toArray, List.set_cons_zero, List.set_cons_succ]
          refine wpAnyH_ready (rs := [4]) (by kernel_rfl) (by simp) ?_
          refine AllReadyH.cons rfl (fun K hK => ?_) (AllReadyH.nil)
          · skip
            go_simp
            have H4' := H3.out.alloc
            refine hK.out _ _ ⟨keepb Z0.out H4'.bel, keepb Z1.out H4'.bel, keepb Y0.out H4'.bel, keepb Y1.out H4'.bel⟩ (fun hHeld2 => ?_)
            clear hK K hHeld2
            generalize hgen4 : World.alloc X3 _ = X4 at *
            clear hgen4
            generalize X3.heap.size = b5 at *
            have H4 := Lib.hid H4'
            clear H4'
            try simp only [Act.put, List.getElem_toArray, List.getElem_cons_zero, List.getElem_cons_succ, List.setIfInBounds_toArray, List.set_cons_zero, List.set_cons_succ]
            refine wpAnyH_ready (rs := [6]) (by kernel_rfl) (by simp) ?_
            refine AllReadyH.cons rfl (fun K hK => ?_) (AllReadyH.nil)
            · skip
              obtain ⟨u0, u1, u2, u3⟩ := H4.out.c (b := b5) (by simp)
              have HB5 := (H4.out.bel.setCell (p := ⟨b5, 0, none⟩) (H4.out.box b5 (by simp)).2 (.int .i64 n)).setCell (p := ⟨b5, 1, none⟩) (H4.out.box b5 (by simp)).2 (.slice (some ⟨g5, 0, none⟩) xs.length c5)
              obtain ⟨v0, v1, v2, v3⟩ := H4.out.c2 (b := b6) (c := b5) (by simp) (by have := H4.out.nd; simp at this; omega) (.int .i64 n) (.slice (some ⟨g5, 0, none⟩) xs.length c5)
              go_simp
              refine hK.out _ _ ⟨keepb Z0.out HB5, keepb Z1.out HB5, keepb Y0.out HB5, keepb Y1.out HB5⟩ (fun hHeld2 => ?_)
              clear hK K hHeld2 u0 u1 u2 u3
              generalize hX1 : World.setCell (World.setCell X4 _ _) _ _ = XA at *
              have HX1 := Lib.hid hX1
              clear hX1
              try simp only [Act.put, List.getElem_toArray, List.getElem_cons_zero, List.getElem_cons_succ, List.setIfInBounds_toArray, List.set_cons_zero, List.set_cons_succ]
              refine wpAnyH_ready (rs := [7]) (by kernel_rfl) (by simp) ?_
              refine AllReadyH.cons rfl (fun K hK => ?_) (AllReadyH.nil)
              · skip
                have HB6 := (HB5.setCell (p := ⟨b6, 0, none⟩) (H4.out.box b6 (by simp)).2 (.int .i64 n2)).setCell (p := ⟨b6, 1, none⟩) (H4.out.box b6 (by simp)).2 (.slice (some ⟨g6, 0, none⟩) ys.length c6)
                go_simp
                refine hK.out _ _ ⟨keepb Z0.out HB6, keepb Z1.out HB6, keepb Y0.out HB6, keepb Y1.out HB6⟩ (fun hHeld2 => ?_)
                clear hK K hHeld2 v0 v1 v2 v3
                generalize hX2 : World.setCell (World.setCell XA _ _) _ _ = XB at *
                have HX2 := Lib.hid hX2
                clear hX2
                try simp only [Act.put, List.getElem_toArray, List.getElem_cons_zero, List.getElem_cons_succ, List.setIfInBounds_toArray, List.set_cons_zero, List.set_cons_succ]
                refine wpAnyH_done (by kernel_rfl) ?_ _
                refine NoPanic.normal ?_
                go_wp2_with fail
                go_meet
                exact ⟨b5, b6, g5, c5, g6, c6, rfl, rfl, HX2.out ▸ HX1.out ▸ (H4).out.fin n n2 b5 b6 (Or.inl ⟨rfl, rfl⟩)⟩
        · skip
          go_simp
          have H3' := H2.out.alloc
          refine hK.out _ _ ⟨keepb Z0.out H3'.bel, keepb Z1.out H3'.bel, keepb Y0.out H3'.bel, keepb Y1.out H3'.bel⟩ (fun hHeld2 => ?_)
          clear hK K hHeld2
          generalize hgen3 : World.alloc X2 _ = X3 at *
          clear hgen3
          generalize X2.heap.size = b5 at *
          have H3 := Lib.hid H3'
          clear H3'
          try simp only [Act.put, List.getElem_toArray, List.getElem_cons_zero, List.getElem_cons_succ, List.setIfInBounds_toArray, List.set_cons_zero, List.set_cons_succ]
          refine wpAnyH_ready (rs := [3]) (by kernel_rfl) (by simp) ?_
          refine AllReadyH.cons rfl (fun K hK => ?_) (AllReadyH.nil)
          · skip
            go_simp
            refine (H3.out.lent n2 Hv2.out Hl2.out).mono ?_
            rintro e X4 ⟨g6, c6, rfl, H4'⟩
            refine hK.out _ _ ⟨keepb Z0.out H4'.bel, keepb Z1.out H4'.bel, keepb Y0.out H4'.bel, keepb Y1.out H4'.bel⟩ (fun hHeld2 => ?_)
            clear hK K
            have H4 := Lib.hid H4'
            clear H4' hHeld2
            try simp only [Act.put, List.getElem_toArray, List.getElem_cons_zero, List.getElem_cons_succ, List.setIfInBounds_toArray, List.set_cons_zero, List.set_cons_succ]
            refine wpAnyH_ready (rs := [6]) (by kernel_rfl) (by simp) ?_
            refine AllReadyH.cons rfl (fun K hK => ?_) (AllReadyH.nil)
            · skip
              obtain ⟨u0, u1, u2, u3⟩ := H4.out.c (b := b5) (by simp)
              have HB5 := (H4.out.bel.setCell (p := ⟨b5, 0, none⟩) (H4.out.box b5 (by simp)).2 (.int .i64 n)).setCell (p := ⟨b5, 1, none⟩) (H4.out.box b5 (by simp)).2 (.slice (some ⟨g5, 0, none⟩) xs.length c5)
              obtain ⟨v0, v1, v2, v3⟩ := H4.out.c2 (b := b6) (c := b5) (by simp) (by have := H4.out.nd; simp at this; omega) (.int .i64 n) (.slice (some ⟨g5, 0, none⟩) xs.length c5)
              go_simp
              refine hK.out _ _ ⟨keepb Z0.out HB5, keepb Z1.out HB5, keepb Y0.out HB5, keepb Y1.out HB5⟩ (fun hHeld2 => ?_)
              clear hK K hHeld2 u0 u1 u2 u3
              generalize hX1 : World.setCell (World.setCell X4 _ _) _ _ = XA at *
              have HX1 := Lib.hid hX1
              clear hX1
              try simp only [Act.put, List.getElem_toArray, List.getElem_cons_zero, List.getElem_cons_succ, List.setIfInBounds_toArray, List.set_cons_zero, List.set_cons_succ]
              refine wpAnyH_ready (rs := [7]) (by kernel_rfl) (by simp) ?_
              refine AllReadyH.cons rfl (fun K hK => ?_) (AllReadyH.nil)
              · skip
                have HB6 := (HB5.setCell (p := ⟨b6, 0, none⟩) (H4.out.box b6 (by simp)).2 (.int .i64 n2)).setCell (p := ⟨b6, 1, none⟩) (H4.out.box b6 (by simp)).2 (.slice (some ⟨g6, 0, none⟩) ys.length c6)
                go_simp
                refine hK.out _ _ ⟨keepb Z0.out HB6, keepb Z1.out HB6, keepb Y0.out HB6, keepb Y1.out HB6⟩ (fun hHeld2 => ?_)
                clear hK K hHeld2 v0 v1 v2 v3
                generalize hX2 : World.setCell (World.setCell XA _ _) _ _ = XB at *
                have HX2 := Lib.hid hX2
                clear hX2
                try simp only [Act.put, List.getElem_toArray, List.getElem_cons_zero, List.getElem_cons_succ, List.setIfInBounds_toArray, List.set_cons_zero, List.set_cons_succ]
                refine wpAnyH_done (by kernel_rfl) ?_ _
                refine NoPanic.normal ?_
                go_wp2_with fail
                go_meet
                exact ⟨b5, b6, g5, c5, g6, c6, rfl, rfl, HX2.out ▸ HX1.out ▸ (H4).out.fin n n2 b5 b6 (Or.inl ⟨rfl, rfl⟩)⟩
    · skip
      go_simp
      have H1' := H0.out.alloc
      refine hK.out _ _ ⟨keepb Z0.out H1'.bel, keepb Z1.out H1'.bel, keepb Y0.out H1'.bel, keepb Y1.out H1'.bel⟩ (fun hHeld2 => ?_)
      clear hK K hHeld2
      generalize hgen1 : World.alloc X0 _ = X1 at *
      clear hgen1
      generalize X0.heap.size = b5 at *
      have H1 := Lib.hid H1'
      clear H1'
      try simp only [Act.put, List.getElem_toArray, List.getElem_cons_zero, List.getElem_cons_succ, List.setIfInBounds_toArray, List.set_cons_zero, List.set_cons_succ]
      refine wpAnyH_ready (rs := [1, 5]) (by kernel_rfl) (by simp) ?_
      refine AllReadyH.cons rfl (fun K hK => ?_) (AllReadyH.cons rfl (fun K hK => ?_) (AllReadyH.nil))
      · skip
        go_simp
        refine (H1.out.lent n Hv.out Hl.out).mono ?_
        rintro e X2 ⟨g5, c5, rfl, H2'⟩
        refine hK.out _ _ ⟨keepb Z0.out H2'.bel, keepb Z1.out H2'.bel, keepb Y0.out H2'.bel, keepb Y1.out H2'.bel⟩ (fun hHeld2 => ?_)
        clear hK K
        have H2 := Lib.hid H2'
        clear H2' hHeld2
        try simp only [Act.put, List.getElem_toArray, List.getElem_cons_zero, List.getElem_cons_succ, List.setIfInBounds_toArray, List.set_cons_zero, List.set_cons_succ]
        refine wpAnyH_ready (rs := [3, 5]) (by kernel_rfl) (by simp) ?_
        refine AllReadyH.cons rfl (fun K hK => ?_) (AllReadyH.cons rfl (fun K hK => ?_) (AllReadyH.nil))
        · skip
          go_simp
          refine (H2.out.lent n2 Hv2.out Hl2.out).mono ?_
          rintro e X3 ⟨g6, c6, rfl, H3'⟩
          refine hK.out _ _ ⟨keepb Z0.out H3'.bel, keepb Z1.out H3'.bel, keepb Y0.out H3'.bel, keepb Y1.out H3'.bel⟩ (fun hHeld2 => ?_)
          clear hK K
          have H3 := Lib.hid H3'
          clear H3' hHeld2
          try simp only [Act.put, List.getElem_toArray, List.getElem_cons_zero, List.getElem_cons_succ, List.setIfInBounds_toArray, List.set_cons_zero, List.set_cons_succ]
          refine wpAnyH_ready (rs := [5]) (by kernel_rfl) (by simp) ?_
          refine AllReadyH.cons rfl (fun K hK => ?_) (AllReadyH.nil)
          · skip
            go_simp
            have H4' := H3.out.alloc
            refine hK.out _ _ ⟨keepb Z0.out H4'.bel, keepb Z1.out H4'.bel, keepb Y0.out H4'.bel, keepb Y1.out H4'.bel⟩ (fun hHeld2 => ?_)
            clear hK K hHeld2
            generalize hgen4 : World.alloc X3 _ = X4 at *
            clear hgen4
            generalize X3.heap.size = b6 at *
            have H4 := Lib.hid H4'
            clear H4'
            try simp only [Act.put, List.getElem_toArray, List.getElem_cons_zero, List.getElem_cons_succ, List.setIfInBounds_toArray, List.set_cons_zero, List.set_cons_succ]
            refine wpAnyH_ready (rs := [6]) (by kernel_rfl) (by simp) ?_
            refine AllReadyH.cons rfl (fun K hK => ?_) (AllReadyH.nil)
            · skip
              obtain ⟨u0, u1, u2, u3⟩ := H4.out.c (b := b5) (by simp)
              have HB5 := (H4.out.bel.setCell (p := ⟨b5, 0, none⟩) (H4.out.box b5 (by simp)).2 (.int .i64 n)).setCell (p := ⟨b5, 1, none⟩) (H4.out.box b5 (by simp)).2 (.slice (some ⟨g5, 0, none⟩) xs.length c5)
              obtain ⟨v0, v1, v2, v3⟩ := H4.out.c2 (b := b6) (c := b5) (by simp) (by have := H4.out.nd; simp at this; omega) (.int .i64 n) (.slice (some ⟨g5, 0, none⟩) xs.length c5)
              go_simp
              refine hK.out _ _ ⟨keepb Z0.out HB5, keepb Z1.out HB5, keepb Y0.out HB5, keepb Y1.out HB5⟩ (fun hHeld2 => ?_)
              clear hK K hHeld2 u0 u1 u2 u3
              generalize hX1 : World.setCell (World.setCell X4 _ _) _ _ = XA at *
              have HX1 := Lib.hid hX1
              clear hX1
              try simp only [Act.put, List.getElem_toArray, List.getElem_cons_zero, List.getElem_cons_succ, List.setIfInBounds_toArray, List.set_cons_zero, List.set_cons_succ]
              refine wpAnyH_ready (rs := [7]) (by kernel_rfl) (by simp) ?_
              refine AllReadyH.cons rfl (fun K hK => ?_) (AllReadyH.nil)
              · skip
                have HB6 := (HB5.setCell (p := ⟨b6, 0, none⟩) (H4.out.box b6 (by simp)).2 (.int .i64 n2)).setCell (p := ⟨b6, 1, none⟩) (H4.out.box b6 (by simp)).2 (.slice (some ⟨g6, 0, none⟩) ys.length c6)
                go_simp
                refine hK.out _ _ ⟨keepb Z0.out HB6, keepb Z1.out HB6, keepb Y0.out HB6, keepb Y1.out HB6⟩ (fun hHeld2 => ?_)
                clear hK K hHeld2 v0 v1 v2 v3
                generalize hX2 : World.setCell (World.setCell XA _ _) _ _ = XB at *
                have HX2 := Lib.hid hX2
                clear hX2
                try simp only [Act.put, List.getElem_toArray, List.getElem_cons_zero, List.getElem_cons_succ, List.setIfInBounds_toArray, List.set_cons_zero, List.set_cons_succ]
                refine wpAnyH_done (by kernel_rfl) ?_ _
                refine NoPanic.normal ?_
                go_wp2_with fail
                go_meet
                exact ⟨b5, b6, g5, c5, g6, c6, rfl, rfl, HX2.out ▸ HX1.out ▸ (H4).out.fin n n2 b5 b6 (Or.inr ⟨rfl, rfl⟩)⟩
        · skip
          go_simp
          have H3' := H2.out.alloc
          refine hK.out _ _ ⟨keepb Z0.out H3'.bel, keepb Z1.out H3'.bel, keepb Y0.out H3'.bel, keepb Y1.out H3'.bel⟩ (fun hHeld2 => ?_)
          clear hK K hHeld2
          generalize hgen3 : World.alloc X2 _ = X3 at *
          clear hgen3
          generalize X2.heap.size = b6 at *
          have H3 := Lib.hid H3'
          clear H3'
          try simp only [Act.put, List.getElem_toArray, List.getElem_cons_zero, List.getElem_cons_succ, List.setIfInBounds_toArray, List.set_cons_zero, List.set_cons_succ]
          refine wpAnyH_ready (rs := [3]) (by kernel_rfl) (by simp) ?_
          refine AllReadyH.cons rfl (fun K hK => ?_) (AllReadyH.nil)
          · skip
            go_simp
            refine (H3.out.lent n2 Hv2.out Hl2.out).mono ?_
            rintro e X4 ⟨g6, c6, rfl, H4'⟩
            refine hK.out _ _ ⟨keepb Z0.out H4'.bel, keepb Z1.out H4'.bel, keepb Y0.out H4'.bel, keepb Y1.out H4'.bel⟩ (fun hHeld2 => ?_)
            clear hK K
            have H4 := Lib.hid H4'
            clear H4' hHeld2
            try simp only [Act.put, List.getElem_toArray, List.getElem_cons_zero, List.getElem_cons_succ, List.setIfInBounds_toArray, List.set_cons_zero, List.set_cons_succ]
            refine wpAnyH_ready (rs := [6]) (by kernel_rfl) (by simp) ?_
            refine AllReadyH.cons rfl (fun K hK => ?_) (AllReadyH.nil)
            · skip
              obtain ⟨u0, u1, u2, u3⟩ := H4.out.c (b := b5) (by simp)
              have HB5 := (H4.out.bel.setCell (p := ⟨b5, 0, none⟩) (H4.out.box b5 (by simp)).2 (.int .i64 n)).setCell (p := ⟨b5, 1, none⟩) (H4.out.box b5 (by simp)).2 (.slice (some ⟨g5, 0, none⟩) xs.length c5)
              obtain ⟨v0, v1, v2, v3⟩ := H4.out.c2 (b := b6) (c := b5) (by simp) (by have := H4.out.nd; simp at this; omega) (.int .i64 n) (.slice (some ⟨g5, 0, none⟩) xs.length c5)
              go_simp
              refine hK.out _ _ ⟨keepb Z0.out HB5, keepb Z1.out HB5, keepb Y0.out HB5, keepb Y1.out HB5⟩ (fun hHeld2 => ?_)
              clear hK K hHeld2 u0 u1 u2 u3
              generalize hX1 : World.setCell (World.setCell X4 _ _) _ _ = XA at *
              have HX1 := Lib.hid hX1
              clear hX1
              try simp only [Act.put, List.getElem_toArray, List.getElem_cons_zero, List.getElem_cons_succ, List.setIfInBounds_toArray, List.set_cons_zero, List.set_cons_succ]
              refine wpAnyH_ready (rs := [7]) (by kernel_rfl) (by simp) ?_
              refine AllReadyH.cons rfl (fun K hK => ?_) (AllReadyH.nil)
              · skip
                have HB6 := (HB5.setCell (p := ⟨b6, 0, none⟩) (H4.out.box b6 (by simp)).2 (.int .i64 n2)).setCell (p := ⟨b6, 1, none⟩) (H4.out.box b6 (by simp)).2 (.slice (some ⟨g6, 0, none⟩) ys.length c6)
                go_simp
                refine hK.out _ _ ⟨keepb Z0.out HB6, keepb Z1.out HB6, keepb Y0.out HB6, keepb Y1.out HB6⟩ (fun hHeld2 => ?_)
                clear hK K hHeld2 v0 v1 v2 v3
                generalize hX2 : World.setCell (World.setCell XA _ _) _ _ = XB at *
                have HX2 := Lib.hid hX2
                clear hX2
                try simp only [Act.put, List.getElem_toArray, List.getElem_cons_zero, List.getElem_cons_succ, List.setIfInBounds_toArray, List.set_cons_zero, List.set_cons_succ]
                refine wpAnyH_done (by kernel_rfl) ?_ _
                refine NoPanic.normal ?_
                go_wp2_with fail
                go_meet
                exact ⟨b5, b6, g5, c5, g6, c6, rfl, rfl, HX2.out ▸ HX1.out ▸ (H4).out.fin n n2 b5 b6 (Or.inr ⟨rfl, rfl⟩)⟩
      · skip
        go_simp
        have H2' := H1.out.alloc
        refine hK.out _ _ ⟨keepb Z0.out H2'.bel, keepb Z1.out H2'.bel, keepb Y0.out H2'.bel, keepb Y1.out H2'.bel⟩ (fun hHeld2 => ?_)
        clear hK K hHeld2
        generalize hgen2 : World.alloc X1 _ = X2 at *
        clear hgen2
        generalize X1.heap.size = b6 at *
        have H2 := Lib.hid H2'
        clear H2'
        try simp only [Act.put, List.getElem_toArray, List.getElem_cons_zero, List.getElem_cons_succ, List.setIfInBounds_toArray, List.set_cons_zero, List.set_cons_succ]
        refine wpAnyH_ready (rs := [1]) (by kernel_rfl) (by simp) ?_
        refine AllReadyH.cons rfl (fun K hK => ?_) (AllReadyH.nil)
        · skip
          go_simp
          refine (H2.out.lent n Hv.out Hl.out).mono ?_
          rintro e X3 ⟨g5, c5, rfl, H3'⟩
          refine hK.out _ _ ⟨keepb Z0.out H3'.bel, keepb Z1.out H3'.bel, keepb Y0.out H3'.bel, keepb Y1.out H3'.bel⟩ (fun hHeld2 => ?_)
          clear hK K
          have H3 := Lib.hid H3'
          clear H3' hHeld2
          try simp only [Act.put, List.getElem_toArray, List.getElem_cons_zero, List.getElem_cons_succ, List.setIfInBounds_toArray, List.set_cons_zero, List.set_cons_succ]
          refine wpAnyH_ready (rs := [3]) (by kernel_rfl) (by simp) ?_
          refine AllReadyH.cons rfl (fun K hK => ?_) (AllReadyH.nil)
          · skip
            go_simp
            refine (H3.out.lent n2 Hv2.out Hl2.out).mono ?_
            rintro e X4 ⟨g6, c6, rfl, H4'⟩
            refine hK.out _ _ ⟨keepb Z0.out H4'.bel, keepb Z1.out H4'.bel, keepb Y0.out H4'.bel, keepb Y1.out H4'.bel⟩ (fun hHeld2 => ?_)
            clear hK K
            have H4 := Lib.hid H4'
            clear H4' hHeld2
            try simp only [Act.put, List.getElem_toArray, List.getElem_cons_zero, List.getElem_cons_succ, List.setIfInBounds_toArray, List.set_cons_zero, List.set_cons_succ]
            refine wpAnyH_ready (rs := [6]) (by kernel_rfl) (by simp) ?_
            refine AllReadyH.cons rfl (fun K hK => ?_) (AllReadyH.nil)
            · skip
              obtain ⟨u0, u1, u2, u3⟩ := H4.out.c (b := b5) (by simp)
              have HB5 := (H4.out.bel.setCell (p := ⟨b5, 0, none⟩) (H4.out.box b5 (by simp)).2 (.int .i64 n)).setCell (p := ⟨b5, 1, none⟩) (H4.out.box b5 (by simp)).2 (.slice (some ⟨g5, 0, none⟩) xs.length c5)
              obtain ⟨v0, v1, v2, v3⟩ := H4.out.c2 (b := b6) (c := b5) (by simp) (by have := H4.out.nd; simp at this; omega) (.int .i64 n) (.slice (some ⟨g5, 0, none⟩) xs.length c5)
              go_simp
              refine hK.out _ _ ⟨keepb Z0.out HB5, keepb Z1.out HB5, keepb Y0.out HB5, keepb Y1.out HB5⟩ (fun hHeld2 => ?_)
              clear hK K hHeld2 u0 u1 u2 u3
              generalize hX1 : World.setCell (World.setCell X4 _ _) _ _ = XA at *
              have HX1 := Lib.hid hX1
              clear hX1
              try simp only [Act.put, List.getElem_toArray, List.getElem_cons_zero, List.getElem_cons_succ, List.setIfInBounds_toArray, List.set_cons_zero, List.set_cons_succ]
              refine wpAnyH_ready (rs := [7]) (by kernel_rfl) (by simp) ?_
              refine AllReadyH.cons rfl (fun K hK => ?_) (AllReadyH.nil)
              · skip
                have HB6 := (HB5.setCell (p := ⟨b6, 0, none⟩) (H4.out.box b6 (by simp)).2 (.int .i64 n2)).setCell (p := ⟨b6, 1, none⟩) (H4.out.box b6 (by simp)).2 (.slice (some ⟨g6, 0, none⟩) ys.length c6)
                go_simp
                refine hK.out _ _ ⟨keepb Z0.out HB6, keepb Z1.out HB6, keepb Y0.out HB6, keepb Y1.out HB6⟩ (fun hHeld2 => ?_)
                clear hK K hHeld2 v0 v1 v2 v3
                generalize hX2 : World.setCell (World.setCell XA _ _) _ _ = XB at *
                have HX2 := Lib.hid hX2
                clear hX2
                try simp only [Act.put, List.getElem_toArray, List.getElem_cons_zero, List.getElem_cons_succ, List.setIfInBounds_toArray, List.set_cons_zero, List.set_cons_succ]
                refine wpAnyH_done (by kernel_rfl) ?_ _
                refine NoPanic.normal ?_
                go_wp2_with fail
                go_meet
                exact ⟨b5, b6, g5, c5, g6, c6, rfl, rfl, HX2.out ▸ HX1.out ▸ (H4).out.fin n n2 b5 b6 (Or.inr ⟨rfl, rfl⟩)⟩
    · skip
      go_simp
      have H1' := H0.out.alloc
      refine hK.out _ _ ⟨keepb Z0.out H1'.bel, keepb Z1.out H1'.bel, keepb Y0.out H1'.bel, keepb Y1.out H1'.bel⟩ (fun hHeld2 => ?_)
      clear hK K hHeld2
      generalize hgen1 : World.alloc X0 _ = X1 at *
      clear hgen1
      generalize X0.heap.size = b6 at *
      have H1 := Lib.hid H1'
      clear H1'
      try simp only [Act.put, List.getElem_toArray, List.getElem_cons_zero, List.getElem_cons_succ, List.setIfInBounds_toArray, List.set_cons_zero, List.set_cons_succ]
      refine wpAnyH_ready (rs := [1, 4]) (by kernel_rfl) (by simp) ?_
      refine AllReadyH.cons rfl (fun K hK => ?_) (AllReadyH.cons rfl (fun K hK => ?_) (AllReadyH.nil))
      · skip
        go_simp
        refine (H1.out.lent n Hv.out Hl.out).mono ?_
        rintro e X2 ⟨g5, c5, rfl, H2'⟩
        refine hK.out _ _ ⟨keepb Z0.out H2'.bel, keepb Z1.out H2'.bel, keepb Y0.out H2'.bel, keepb Y1.out H2'.bel⟩ (fun hHeld2 => ?_)
        clear hK K
        have H2 := Lib.hid H2'
        clear H2' hHeld2
        try simp only [Act.put, List.getElem_toArray, List.getElem_cons_zero, List.getElem_cons_succ, List.setIfInBounds_toArray, List.set_cons_zero, List.set_cons_succ]
        refine wpAnyH_ready (rs := [3, 4]) (by kernel_rfl) (by simp) ?_
        refine AllReadyH.cons rfl (fun K hK => ?_) (AllReadyH.cons rfl (fun K hK => ?_) (AllReadyH.nil))
        · skip
          go_simp
          refine (H2.out.lent n2 Hv2.out Hl2.out).mono ?_
          rintro e X3 ⟨g6, c6, rfl, H3'⟩
          refine hK.out _ _ ⟨keepb Z0.out H3'.bel, keepb Z1.out H3'.bel, keepb Y0.out H3'.bel, keepb Y1.out H3'.bel⟩ (fun hHeld2 => ?_)
          clear hK K
          have H3 := Lib.hid H3'
          clear H3' hHeld2
          try simp only [Act.put, List.getElem_toArray, List.getElem_cons_zero, List.getElem_cons_succ, List.setIfInBounds_toArray, List.set_cons_zero, List.set_cons_succ]
          refine wpAnyH_ready (rs := [4]) (by kernel_rfl) (by simp) ?_
          refine AllReadyH.cons rfl (fun K hK => ?_) (AllReadyH.nil)
          · skip
            go_simp
            have H4' := H3.out.alloc
            refine hK.out _ _ ⟨keepb Z0.out H4'.bel, keepb Z1.out H4'.bel, keepb Y0.out H4'.bel, keepb Y1.out H4'.bel⟩ (fun hHeld2 => ?_)
            clear hK K hHeld2
            generalize hgen4 : World.alloc X3 _ = X4 at *
            clear hgen4
            generalize X3.heap.size = b5 at *
            have H4 := Lib.hid H4'
            clear H4'
            try simp only [Act.put, List.getElem_toArray, List.getElem_cons_zero, List.getElem_cons_succ, List.setIfInBounds_toArray, List.set_cons_zero, List.set_cons_succ]
            refine wpAnyH_ready (rs := [6]) (by kernel_rfl) (by simp) ?_
            refine AllReadyH.cons rfl (fun K hK => ?_) (AllReadyH.nil)
            · skip
              obtain ⟨u0, u1, u2, u3⟩ := H4.out.c (b := b5) (by simp)
              have HB5 := (H4.out.bel.setCell (p := ⟨b5, 0, none⟩) (H4.out.box b5 (by simp)).2 (.int .i64 n)).setCell (p := ⟨b5, 1, none⟩) (H4.out.box b5 (by simp)).2 (.slice (some ⟨g5, 0, none⟩) xs.length c5)
              obtain ⟨v0, v1, v2, v3⟩ := H4.out.c2 (b := b6) (c := b5) (by simp) (by have := H4.out.nd; simp at this; omega) (.int .i64 n) (.slice (some ⟨g5, 0, none⟩) xs.length c5)
              go_simp
              refine hK.out _ _ ⟨keepb Z0.out HB5, keepb Z1.out HB5, keepb Y0.out HB5, keepb Y1.out HB5⟩ (fun hHeld2 => ?_)
              clear hK K hHeld2 u0 u1 u2 u3
              generalize hX1 : World.setCell (World.setCell X4 _ _) _ _ = XA at *
              have HX1 := Lib.hid hX1
              clear hX1
              try simp only [Act.put, List.getElem_toArray, List.getElem_cons_zero, List.getElem_cons_succ, List.setIfInBounds_toArray, List.set_cons_zero, List.set_cons_succ]
              refine wpAnyH_ready (rs := [7]) (by kernel_rfl) (by simp) ?_
              refine AllReadyH.cons rfl (fun K hK => ?_) (AllReadyH.nil)
              · skip
                have HB6 := (HB5.setCell (p := ⟨b6, 0, none⟩) (H4.out.box b6 (by simp)).2 (.int .i64 n2)).setCell (p := ⟨b6, 1, none⟩) (H4.out.box b6 (by simp)).2 (.slice (some ⟨g6, 0, none⟩) ys.length c6)
                go_simp
                refine hK.out _ _ ⟨keepb Z0.out HB6, keepb Z1.out HB6, keepb Y0.out HB6, keepb Y1.out HB6⟩ (fun hHeld2 => ?_)
                clear hK K hHeld2 v0 v1 v2 v3
                generalize hX2 : World.setCell (World.setCell XA _ _) _ _ = XB at *
                have HX2 := Lib.hid hX2
                clear hX2
                try simp only [Act.put, List.getElem_toArray, List.getElem_cons_zero, List.getElem_cons_succ, List.setIfInBounds_toArray, List.set_cons_zero, List.set_cons_succ]
                refine wpAnyH_done (by kernel_rfl) ?_ _
                refine NoPanic.normal ?_
                go_wp2_with fail
                go_meet
                exact ⟨b5, b6, g5, c5, g6, c6, rfl, rfl, HX2.out ▸ HX1.out ▸ (H4).out.fin n n2 b5 b6 (Or.inl ⟨rfl, rfl⟩)⟩
        · skip
          go_simp
          have H3' := H2.out.alloc
          refine hK.out _ _ ⟨keepb Z0.out H3'.bel, keepb Z1.out H3'.bel, keepb Y0.out H3'.bel, keepb Y1.out H3'.bel⟩ (fun hHeld2 => ?_)
          clear hK K hHeld2
          generalize hgen3 : World.alloc X2 _ = X3 at *
          clear hgen3
          generalize X2.heap.size = b5 at *
          have H3 := Lib.hid H3'
          clear H3'
          try simp only [Act.put, List.getElem_toArray, List.getElem_cons_zero, List.getElem_cons_succ, List.setIfInBounds_toArray, List.set_cons_zero, List.set_cons_succ]
          refine wpAnyH_ready (rs := [3]) (by kernel_rfl) (by simp) ?_
          refine AllReadyH.cons rfl (fun K hK => ?_) (AllReadyH.nil)
          · skip
            go_simp
            refine (H3.out.lent n2 Hv2.out Hl2.out).mono ?_
            rintro e X4 ⟨g6, c6, rfl, H4'⟩
            refine hK.out _ _ ⟨keepb Z0.out H4'.bel, keepb Z1.out H4'.bel, keepb Y0.out H4'.bel, keepb Y1.out H4'.bel⟩ (fun hHeld2 => ?_)
            clear hK K
            have H4 := Lib.hid H4'
            clear H4' hHeld2
            try simp only [Act.put, List.getElem_toArray, List.getElem_cons_zero, List.getElem_cons_succ, List.setIfInBounds_toArray, List.set_cons_zero, List.set_cons_succ]
            refine wpAnyH_ready (rs := [6]) (by kernel_rfl) (by simp) ?_
            refine AllReadyH.cons rfl (fun K hK => ?_) (AllReadyH.nil)
            · skip
              obtain ⟨u0, u1, u2, u3⟩ := H4.out.c (b := b5) (by simp)
              have HB5 := (H4.out.bel.setCell (p := ⟨b5, 0, none⟩) (H4.out.box b5 (by simp)).2 (.int .i64 n)).setCell (p := ⟨b5, 1, none⟩) (H4.out.box b5 (by simp)).2 (.slice (some ⟨g5, 0, none⟩) xs.length c5)
              obtain ⟨v0, v1, v2, v3⟩ := H4.out.c2 (b := b6) (c := b5) (by simp) (by have := H4.out.nd; simp at this; omega) (.int .i64 n) (.slice (some ⟨g5, 0, none⟩) xs.length c5)
              go_simp
              refine hK.out _ _ ⟨keepb Z0.out HB5, keepb Z1.out HB5, keepb Y0.out HB5, keepb Y1.out HB5⟩ (fun hHeld2 => ?_)
              clear hK K hHeld2 u0 u1 u2 u3
              generalize hX1 : World.setCell (World.setCell X4 _ _) _ _ = XA at *
              have HX1 := Lib.hid hX1
              clear hX1
              try simp only [Act.put, List.getElem_toArray, List.getElem_cons_zero, List.getElem_cons_succ, List.setIfInBounds_toArray, List.set_cons_zero, List.set_cons_succ]
              refine wpAnyH_ready (rs := [7]) (by kernel_rfl) (by simp) ?_
              refine AllReadyH.cons rfl (fun K hK => ?_) (AllReadyH.nil)
              · skip
                have HB6 := (HB5.setCell (p := ⟨b6, 0, none⟩) (H4.out.box b6 (by simp)).2 (.int .i64 n2)).setCell (p := ⟨b6, 1, none⟩) (H4.out.box b6 (by simp)).2 (.slice (some ⟨g6, 0, none⟩) ys.length c6)
                go_simp
                refine hK.out _ _ ⟨keepb Z0.out HB6, keepb Z1.out HB6, keepb Y0.out HB6, keepb Y1.out HB6⟩ (fun hHeld2 => ?_)
                clear hK K hHeld2 v0 v1 v2 v3
                generalize hX2 : World.setCell (World.setCell XA _ _) _ _ = XB at *
                have HX2 := Lib.hid hX2
                clear hX2
                try simp only [Act.put, List.getElem_toArray, List.getElem_cons_zero, List.getElem_cons_succ, List.setIfInBounds_toArray, List.set_cons_zero, List.set_cons_succ]
                refine wpAnyH_done (by kernel_rfl) ?_ _
                refine NoPanic.normal ?_
                go_wp2_with fail
                go_meet
                exact ⟨b5, b6, g5, c5, g6, c6, rfl, rfl, HX2.out ▸ HX1.out ▸ (H4).out.fin n n2 b5 b6 (Or.inl ⟨rfl, rfl⟩)⟩
      · skip
        go_simp
        have H2' := H1.out.alloc
        refine hK.out _ _ ⟨keepb Z0.out H2'.bel, keepb Z1.out H2'.bel, keepb Y0.out H2'.bel, keepb Y1.out H2'.bel⟩ (fun hHeld2 => ?_)
        clear hK K hHeld2
        generalize hgen2 : World.alloc X1 _ = X2 at *
        clear hgen2
        generalize X1.heap.size = b5 at *
        have H2 := Lib.hid H2'
        clear H2'
        try simp only [Act.put, List.getElem_toArray, List.getElem_cons_zero, List.getElem_cons_succ, List.setIfInBounds_toArray, List.set_cons_zero, List.set_cons_succ]
        refine wpAnyH_ready (rs := [1]) (by kernel_rfl) (by simp) ?_
        refine AllReadyH.cons rfl (fun K hK => ?_) (AllReadyH.nil)
        · skip
          go_simp
          refine (H2.out.lent n Hv.out Hl.out).mono ?_
          rintro e X3 ⟨g5, c5, rfl, H3'⟩
          refine hK.out _ _ ⟨keepb Z0.out H3'.bel, keepb Z1.out H3'.bel, keepb Y0.out H3'.bel, keepb Y1.out H3'.bel⟩ (fun hHeld2 => ?_)
          clear hK K
          have H3 := Lib.hid H3'
          clear H3' hHeld2
          try simp only [Act.put, List.getElem_toArray, List.getElem_cons_zero, List.getElem_cons_succ, List.setIfInBounds_toArray, List.set_cons_zero, List.set_cons_succ]
          refine wpAnyH_ready (rs := [3]) (by kernel_rfl) (by simp) ?_
          refine AllReadyH.cons rfl (fun K hK => ?_) (AllReadyH.nil)
          · skip
            go_simp
            refine (H3.out.lent n2 Hv2.out Hl2.out).mono ?_
            rintro e X4 ⟨g6, c6, rfl, H4'⟩
            refine hK.out _ _ ⟨keepb Z0.out H4'.bel, keepb Z1.out H4'.bel, keepb Y0.out H4'.bel, keepb Y1.out H4'.bel⟩ (fun hHeld2 => ?_)
            clear hK K
            have H4 := Lib.hid H4'
            clear H4' hHeld2
            try simp only [Act.put, List.getElem_toArray, List.getElem_cons_zero, List.getElem_cons_succ, List.setIfInBounds_toArray, List.set_cons_zero, List.set_cons_succ]
            refine wpAnyH_ready (rs := [6]) (by kernel_rfl) (by simp) ?_
            refine AllReadyH.cons rfl (fun K hK => ?_) (AllReadyH.nil)
            · skip
              obtain ⟨u0, u1, u2, u3⟩ := H4.out.c (b := b5) (by simp)
              have HB5 := (H4.out.bel.setCell (p := ⟨b5, 0, none⟩) (H4.out.box b5 (by simp)).2 (.int .i64 n)).setCell (p := ⟨b5, 1, none⟩) (H4.out.box b5 (by simp)).2 (.slice (some ⟨g5, 0, none⟩) xs.length c5)
              obtain ⟨v0, v1, v2, v3⟩ := H4.out.c2 (b := b6) (c := b5) (by simp) (by have := H4.out.nd; simp at this; omega) (.int .i64 n) (.slice (some ⟨g5, 0, none⟩) xs.length c5)
              go_simp
              refine hK.out _ _ ⟨keepb Z0.out HB5, keepb Z1.out HB5, keepb Y0.out HB5, keepb Y1.out HB5⟩ (fun hHeld2 => ?_)
              clear hK K hHeld2 u0 u1 u2 u3
              generalize hX1 : World.setCell (World.setCell X4 _ _) _ _ = XA at *
              have HX1 := Lib.hid hX1
              clear hX1
              try simp only [Act.put, List.getElem_toArray, List.getElem_cons_zero, List.getElem_cons_succ, List.setIfInBounds_toArray, List.set_cons_zero, List.set_cons_succ]
              refine wpAnyH_ready (rs := [7]) (by kernel_rfl) (by simp) ?_
              refine AllReadyH.cons rfl (fun K hK => ?_) (AllReadyH.nil)
              · skip
                have HB6 := (HB5.setCell (p := ⟨b6, 0, none⟩) (H4.out.box b6 (by simp)).2 (.int .i64 n2)).setCell (p := ⟨b6, 1, none⟩) (H4.out.box b6 (by simp)).2 (.slice (some ⟨g6, 0, none⟩) ys.length c6)
                go_simp
                refine hK.out _ _ ⟨keepb Z0.out HB6, keepb Z1.out HB6, keepb Y0.out HB6, keepb Y1.out HB6⟩ (fun hHeld2 => ?_)
                clear hK K hHeld2 v0 v1 v2 v3
                generalize hX2 : World.setCell (World.setCell XA _ _) _ _ = XB at *
                have HX2 := Lib.hid hX2
                clear hX2
                try simp only [Act.put, List.getElem_toArray, List.getElem_cons_zero, List.getElem_cons_succ, List.setIfInBounds_toArray, List.set_cons_zero, List.set_cons_succ]
                refine wpAnyH_done (by kernel_rfl) ?_ _
                refine NoPanic.normal ?_
                go_wp2_with fail
                go_meet
                exact ⟨b5, b6, g5, c5, g6, c6, rfl, rfl, HX2.out ▸ HX1.out ▸ (H4).out.fin n n2 b5 b6 (Or.inl ⟨rfl, rfl⟩)⟩
  case rest =>
    obtain ⟨b5, b6, g5, c5, g6, c6, rfl, rfl, L0⟩ := hcut
    clear z0 z1 y0 y1 Hs
    have HW := Lib.hid (show w.heap.size + 2 ≤ W.heap.size from Hloc.out.size)
    have HI := Lib.hid (fun v w v2 hv hv2 => prog_includes n n2 v v2 xs ys w hv hv2)
    have HJ := Lib.hid (fun v w v2 hv hv2 => ref_includes n n2 v v2 xs ys w hv hv2)
    have HSp := Lib.hid (fun v w v2 hv hv2 => prog_same n n2 v v2 xs ys w hv hv2)
    have HSr := Lib.hid (fun v w v2 hv hv2 => ref_same n n2 v v2 xs ys w hv hv2)
    have HSx := Lib.hid (fun v w v2 hv hv2 => prog_same n n v v2 xs xs w hv hv2)
    have HMp := Lib.hid (fun v w v2 hv hv2 => prog_meet n n2 v v2 xs ys w hv hv2)
    have HMr := Lib.hid (fun v w v2 hv hv2 => ref_meet n n2 v v2 xs ys w hv hv2)
    have HHp := Lib.hid (fun v w v2 hv hv2 => prog_hull n n2 v v2 xs ys w hv hv2)
    have HHr := Lib.hid (fun v w v2 hv hv2 => ref_hull n n2 v v2 xs ys w hv hv2)
    generalize incF n n2 xs ys = I at HI HJ
    obtain ⟨ik, ie⟩ := I
    generalize sameB n n2 xs ys = sb at HSp HSr
    rw [sameB_refl] at HSx
    generalize joinF imin n xs n2 ys = R at HMp HMr
    generalize joinF jmax n xs n2 ys = T at HHp HHr
    have Hdr : ∃ d, d = zdim R n := ⟨_, rfl⟩
    obtain ⟨dR, hdR⟩ := Hdr
    have Hdt : ∃ d, d = zdim T n := ⟨_, rfl⟩
    obtain ⟨dT, hdT⟩ := Hdt
    have HdR := Lib.hid hdR
    have HdT := Lib.hid hdT
    clear hdR hdT
    have hk1 : (ik != ik) = false := by simp
    have hk2 : (ie != ie) = false := by simp
    have hk3 : (sb != sb) = false := by simp
    obtain ⟨z0, z1, y0, y1, a0, a1, d0, d1⟩ := L0.cells Z0.out Z1.out Y0.out Y1.out
    go_wp2_with fail
    refine (HI.out _ wc _ L0.r5 L0.r6).mono ?_
    rintro e w1 ⟨he, hb1⟩
    obtain rfl : e = .returned (.tuple #[.bool ik, .int .i64 ie]) := he
    have L1 := L0.keep hb1
    clear z0 z1 y0 y1 a0 a1 d0 d1 L0 hb1
    obtain ⟨z0, z1, y0, y1, a0, a1, d0, d1⟩ := L1.cells Z0.out Z1.out Y0.out Y1.out
    go_wp2_with fail
    refine (HJ.out _ w1 _ (Hv.out.keepb L1.bel) (Hv2.out.keepb L1.bel)).mono ?_
    rintro e w2 ⟨he, hb2⟩
    obtain rfl : e = .returned (.tuple #[.bool ik, .int .i64 ie]) := he
    have L2 := L1.keep hb2
    clear z0 z1 y0 y1 a0 a1 d0 d1 L1 hb2
    have cl0 := L2.cells Z0.out Z1.out Y0.out Y1.out
    go_upto_region 6 with fail
    have L2d : Lent2 W w2.drew n n2 xs ys b5 b6 g5 c5 g6 c6 := L2.keep (Below.refl _ _).drew
    clear L2
    go_cut [64] (fun s64 wx => s64 = .bool false ∧ Lent2 W wx n n2 xs ys b5 b6 g5 c5 g6 c6)
    case first =>
      go_region_held3 (fun w' => w'.cell? ⟨w.heap.size, 0, none⟩ = some (.int .i64 n) ∧ w'.cell? ⟨w.heap.size, 1, none⟩ = some (.slice ao xs.length cap) ∧ w'.cell? ⟨w.heap.size + 1, 0, none⟩ = some (.int .i64 n2) ∧ w'.cell? ⟨w.heap.size + 1, 1, none⟩ = some (.slice ao2 ys.length cap2) ∧ w'.cell? ⟨b5, 0, none⟩ = some (.int .i64 n) ∧ w'.cell? ⟨b5, 1, none⟩ = some (.slice (some ⟨g5, 0, none⟩) xs.length c5) ∧ w'.cell? ⟨b6, 0, none⟩ = some (.int .i64 n2) ∧ w'.cell? ⟨b6, 1, none⟩ = some (.slice (some ⟨g6, 0, none⟩) ys.length c6))
        (first | exact clC | exact clB | exact clA | exact cl0 | go_keep)
        (first
          | (have _t := LB; go_at_call 55; refine (HSx.out _ wB _ LB.r5 (Hv.out.keepb LB.bel)).mono ?_; rintro e wC ⟨rfl, hbC⟩; have LC := LB.keep hbC; have clC := LC.cells Z0.out Z1.out Y0.out Y1.out)
          | (have _t := LA; go_at_call 16; refine (HSr.out _ wA _ (Hv.out.keepb LA.bel) (Hv2.out.keepb LA.bel)).mono ?_; rintro e wB ⟨rfl, hbB⟩; have LB := LA.keep hbB; have clB := LB.cells Z0.out Z1.out Y0.out Y1.out)
          | (go_at_call 55; refine (HSp.out _ w2.drew _ L2d.r5 L2d.r6).mono ?_; rintro e wA ⟨rfl, hbA⟩; have LA := L2d.keep hbA; have clA := LA.cells Z0.out Z1.out Y0.out Y1.out))
      all_goals
        go_wp2_with fail
        go_meet
        exact ⟨rfl, LC⟩
    case rest =>
      obtain ⟨rfl, L3⟩ := hcut
      clear hk1 hk2 hk3 cl0 L2d
      obtain ⟨z0, z1, y0, y1, a0, a1, d0, d1⟩ := L3.cells Z0.out Z1.out Y0.out Y1.out
      have HL3 := Lib.hid L3
      clear L3
      go_wp2_with fail
      refine (HMp.out _ _ _ HL3.out.r5 HL3.out.r6).mono ?_
      rintro e w4 ⟨⟨v4, rfl, ho4⟩, hb4⟩
      rw [← HdR.out]
      obtain ⟨ao4, c4, rfl⟩ := owns_form ho4
      have HL4 := Lib.hid (HL3.out.keep (bal hb4 (.cells #[.int .i64 dR, .slice ao4 R.2.length c4] 24)))
      have HK4 := Lib.hid (Zb.new (d := dR) ho4)
      have P1 := Lib.hid (show b5 < w4.heap.size ∧ b6 < w4.heap.size ∧ g5 < w4.heap.size ∧ g6 < w4.heap.size ∧ W.heap.size ≤ w4.heap.size from ⟨Nat.lt_of_lt_of_le (hp_lt HL3.out.h5) hb4.size, Nat.lt_of_lt_of_le (hp_lt HL3.out.h6) hb4.size, Nat.lt_of_lt_of_le (ol_blk HL3.out.o5).2 hb4.size, Nat.lt_of_lt_of_le (ol_blk HL3.out.o6).2 hb4.size, Nat.le_trans HL3.out.bel.size hb4.size⟩)
      clear z0 z1 y0 y1 a0 a1 d0 d1 HL3 ho4 hb4
      go_upto_region 9 with fail
      generalize w4.alloc (.cells #[.int .i64 dR, .slice ao4 R.2.length c4] 24) = W4 at *
      generalize w4.heap.size = b11 at *
      obtain ⟨z0, z1, y0, y1, a0, a1, d0, d1⟩ := HL4.out.cells Z0.out Z1.out Y0.out Y1.out
      go_wp2_with fail
      refine (HMr.out _ W4 _ (Hv.out.keepb HL4.out.bel) (Hv2.out.keepb HL4.out.bel)).mono ?_
      rintro e w5 ⟨⟨v5, rfl, ho5⟩, hb5⟩
      rw [← HdR.out]
      obtain ⟨ao5, c5', rfl⟩ := owns_form ho5
      have HL5 := Lib.hid (HL4.out.keep (bal hb5 (.cells #[.int .i64 dR, .slice ao5 R.2.length c5'] 24)))
      have HK5 := Lib.hid (HK4.out.keep (bal hb5 (.cells #[.int .i64 dR, .slice ao5 R.2.length c5'] 24)))
      have HM5 := Lib.hid (Zb.new (d := dR) ho5)
      have P2 := Lib.hid (show b11 < W4.heap.size ∧ b11 < w5.heap.size from ⟨hp_lt HK4.out.h, Nat.lt_of_lt_of_le (hp_lt HK4.out.h) hb5.size⟩)
      clear z0 z1 y0 y1 a0 a1 d0 d1 HL4 HK4 ho5 hb5
      go_upto_region 10 with fail
      generalize w5.alloc (.cells #[.int .i64 dR, .slice ao5 R.2.length c5'] 24) = W5 at *
      generalize w5.heap.size = b12 at *
      obtain ⟨p0, p1, p2, p3⟩ := HK5.out.cells
      obtain ⟨q0, q1, q2, q3⟩ := HM5.out.cells
      go_wp2_with fail
      refine (law_same03 dR R.1 _ _ R.2 W5 HK5.out.rl HM5.out.rl).mono ?_
      rintro e w6 ⟨rfl, hb6⟩
      have HL6 := Lib.hid (HL5.out.keep hb6)
      have HK6 := Lib.hid (HK5.out.keep hb6)
      have HM6 := Lib.hid (HM5.out.keep hb6)
      clear p0 p1 p2 p3 q0 q1 q2 q3 HL5 HK5 HM5 hb6
      obtain ⟨z0, z1, y0, y1, a0, a1, d0, d1⟩ := HL6.out.cells Z0.out Z1.out Y0.out Y1.out
      go_wp2_with fail
      refine (HHp.out _ w6 _ HL6.out.r5 HL6.out.r6).mono ?_
      rintro e w7 ⟨⟨v7, rfl, ho7⟩, hb7⟩
      rw [← HdT.out]
      obtain ⟨ao7, c7, rfl⟩ := owns_form ho7
      have P3 := Lib.hid (show b11 < w6.heap.size ∧ b12 < w6.heap.size from ⟨hp_lt HK6.out.h, hp_lt HM6.out.h⟩)
      have HL7 := Lib.hid ((HL6.out.keep hb7).store (by have := P1.out; omega) (by have := P1.out; omega) (by have := P1.out; omega) (by have := P1.out; omega) (by have := P1.out; omega) (.int .i64 dT) (.slice ao7 T.2.length c7) (e := b11))
      have HK7 := Lib.hid ((HK6.out.keep hb7).store (d' := dT) ho7 (by have := P3.out; omega))
      have HM7 := Lib.hid ((HM6.out.keep hb7).other (e := b11) (by have := P2.out; omega) (by have := P2.out; omega) (.int .i64 dT) (.slice ao7 T.2.length c7))
      obtain ⟨p0, p1, p2, p3⟩ := (HK6.out.keep hb7).cells
      clear z0 z1 y0 y1 a0 a1 d0 d1 HL6 HK6 HM6 ho7 hb7
      go_upto_region 13 with fail
      clear p0 p1 p2 p3
      generalize hB7 : w6.heap.size = B7 at *
      clear hB7
      generalize (w7.setCell ⟨b11, 0, none⟩ (.int .i64 dT)).setCell ⟨b11, 1, none⟩ (.slice ao7 T.2.length c7) = W7 at *
      obtain ⟨z0, z1, y0, y1, a0, a1, d0, d1⟩ := HL7.out.cells Z0.out Z1.out Y0.out Y1.out
      go_wp2_with fail
      refine (law_kept n g5 c5 _ xs W7 HL7.out.r5 (Hv.out.keepb HL7.out.bel) (rl_init (n := 0) HL7.out.o5).2.1 (rl_init (n := 0) HL7.out.o5).2.2.1 (rl_init (n := 0) HL7.out.o5).2.2.2 Hl.out).mono ?_
      rintro e w8 ⟨rfl, hb8⟩
      have HL8 := Lib.hid (HL7.out.keep hb8)
      have HK8 := Lib.hid (HK7.out.keep hb8)
      have HM8 := Lib.hid (HM7.out.keep hb8)
      clear z0 z1 y0 y1 a0 a1 d0 d1 HL7 HK7 HM7 hb8
      obtain ⟨z0, z1, y0, y1, a0, a1, d0, d1⟩ := HL8.out.cells Z0.out Z1.out Y0.out Y1.out
      go_wp2_with fail
      refine (law_kept n2 g6 c6 _ ys w8 HL8.out.r6 (Hv2.out.keepb HL8.out.bel) (rl_init (n := 0) HL8.out.o6).2.1 (rl_init (n := 0) HL8.out.o6).2.2.1 (rl_init (n := 0) HL8.out.o6).2.2.2 Hl2.out).mono ?_
      rintro e w9 ⟨rfl, hb9⟩
      have L9 := HL8.out.keep hb9
      have HK9 := Lib.hid (HK8.out.keep hb9)
      have HM9 := Lib.hid (HM8.out.keep hb9)
      clear z0 z1 y0 y1 a0 a1 d0 d1 HL8 HK8 HM8 hb9
      have HL9 := Lib.hid L9
      have Hg0 := Lib.hid (show w9.grownBy w9 (some g5) from grownBy_below (Below.refl _ _) _)
      clear L9
      go_wp2_with fail
      go_loopw [13] (fun i wr => ∃ q : Nat, q ≤ xs.length ∧ i = .int .i64 q ∧ (∃ zs, zs.length = xs.length + 1 ∧ OL 60 W.heap.size wr (.slice (some ⟨g5, 0, none⟩) (xs.length + 1) c5) zs) ∧ w9.grownBy wr (some g5)) (fun i _ => xs.length - (intOf i).toNat)
      case atStart => exact ⟨0, by omega, rfl, ⟨_, by simp, HL9.out.o5⟩, Hg0.out⟩
      case round =>
        obtain ⟨q, hq, rfl, ⟨zs, hz, ho⟩, hg⟩ := hrel
        have h5 := hp_grown HL9.out.h5 hg (fun e => HL9.out.n2' e.symm)
        have a1 := cell_of_row wr b5 1 _ _ _ h5
        clear h5
        by_cases hlt : q < xs.length
        · have htd : decide ((q : Int) < (xs.length : Int)) = true := by simp; omega
          obtain ⟨x1, x2⟩ := ol_cell ho (k := q) (by omega)
          have hq0 : (0 : Int) ≤ (q : Int) := by omega
          have hq1 : (q : Int) < (xs.length : Int) := by omega
          have Hst := Lib.hid (ho.stored hz.symm q 99)
          have Hg := Lib.hid hg
          have Hz := Lib.hid hz
          clear ho hg hz
          go_wp2_with fail
          go_roundw
          case rel => exact ⟨q + 1, by omega, by go_num, ⟨_, by rw [List.length_set]; exact Hz.out, Hst.out.1⟩, grownBy_trans Hg.out Hst.out.2⟩
          case measure => simp [intOf]; omega
        · have htd : decide ((q : Int) < (xs.length : Int)) = false := by simp; omega
          obtain ⟨wo, rfl⟩ : ∃ wo, wo = wr := ⟨wr, rfl⟩
          have h6 := Lib.hid (hp_grown HL9.out.h6 hg (fun e => HL9.out.n3 e.symm))
          have o6 := Lib.hid (show OL 60 W.heap.size wo (.slice (some ⟨g6, 0, none⟩) (ys.length + 1) c6) (ys ++ [77]) from World.ownsRow.kept HL9.out.o6 hg (.inr (fun e => HL9.out.n1 (by simpa [Value.ownBlock] using e.symm))))
          have HKa := Lib.hid (HK9.out.keepg hg (by have := P1.out; omega) (by have := P1.out; have := P3.out; omega))
          have HMa := Lib.hid (HM9.out.keepg hg (by have := P1.out; have := P2.out; omega) (by have := P1.out; have := P2.out; omega))
          have HBa := Lib.hid (show Below W.heap.size W wo from HL9.out.bel.grown hg HL9.out.bel.size (fun k hk => by simp at hk; subst hk; exact (ol_blk HL9.out.o5).1))
          have Hn4 := Lib.hid HL9.out.n4
          have Hn5 := Lib.hid HL9.out.n5
          have Hlg := Lib.hid (ol_blk HL9.out.o6).1
          have Hg1 := Lib.hid (show wo.grownBy wo (some g6) from grownBy_below (Below.refl _ _) _)
          clear ho hg hz HL9 HK9 HM9
          go_wp2_with fail
          go_loopw [14] (fun i wr => ∃ q : Nat, q ≤ ys.length ∧ i = .int .i64 q ∧ (∃ zs, zs.length = ys.length + 1 ∧ OL 60 W.heap.size wr (.slice (some ⟨g6, 0, none⟩) (ys.length + 1) c6) zs) ∧ wo.grownBy wr (some g6)) (fun i _ => ys.length - (intOf i).toNat)
          case atStart => exact ⟨0, by omega, rfl, ⟨_, by simp, o6.out⟩, Hg1.out⟩
          case round =>
            obtain ⟨q2, hq, rfl, ⟨zs, hz, ho⟩, hg⟩ := hrel
            have h6' := hp_grown h6.out hg (fun e => Hn5.out e.symm)
            have d1 := cell_of_row wr b6 1 _ _ _ h6'
            clear h6'
            by_cases hlt : q2 < ys.length
            · have htd : decide ((q2 : Int) < (ys.length : Int)) = true := by simp; omega
              obtain ⟨x1, x2⟩ := ol_cell ho (k := q2) (by omega)
              have hq0 : (0 : Int) ≤ (q2 : Int) := by omega
              have hq1 : (q2 : Int) < (ys.length : Int) := by omega
              have Hst := Lib.hid (ho.stored hz.symm q2 99)
              have Hg := Lib.hid hg
              have Hz := Lib.hid hz
              clear ho hg hz
              go_wp2_with fail
              go_roundw
              case rel => exact ⟨q2 + 1, by omega, by go_num, ⟨_, by rw [List.length_set]; exact Hz.out, Hst.out.1⟩, grownBy_trans Hg.out Hst.out.2⟩
              case measure => simp [intOf]; omega
            · have htd : decide ((q2 : Int) < (ys.length : Int)) = false := by simp; omega
              have HKb := Lib.hid (HKa.out.keepg hg (by have := P1.out; omega) (by have := P1.out; have := P3.out; omega))
              have HMb := Lib.hid (HMa.out.keepg hg (by have := P1.out; have := P2.out; omega) (by have := P1.out; have := P2.out; omega))
              have HBb := Lib.hid (show Below W.heap.size W wr from HBa.out.grown hg HBa.out.size (fun k hk => by simp at hk; subst hk; exact Hlg.out))
              clear ho hg hz HKa HMa HBa
              have z0 := keepb Z0.out HBb.out
              have z1 := keepb Z1.out HBb.out
              have y0 := keepb Y0.out HBb.out
              have y1 := keepb Y1.out HBb.out
              go_wp2_with fail
              refine (HHr.out _ wr _ (Hv.out.keepb HBb.out) (Hv2.out.keepb HBb.out)).mono ?_
              rintro e wd ⟨⟨vd, rfl, hod⟩, hbd⟩
              rw [← HdT.out]
              obtain ⟨aod, cd, rfl⟩ := owns_form hod
              have HKd := Lib.hid ((HKb.out.keep hbd).other (e := b12) (by have := P2.out; omega) (by have := P3.out; omega) (.int .i64 dT) (.slice aod T.2.length cd))
              have HMd := Lib.hid ((HMb.out.keep hbd).store (d' := dT) hod (hp_lt HMb.out.h))
              have HBd := Lib.hid (((bt HBb.out hbd).setCell (p := ⟨b12, 0, none⟩) (by have := P1.out; have := P2.out; show _ ≤ b12; omega) (.int .i64 dT)).setCell (p := ⟨b12, 1, none⟩) (by have := P1.out; have := P2.out; show _ ≤ b12; omega) (.slice aod T.2.length cd))
              obtain ⟨p0, p1, p2, p3⟩ := (HMb.out.keep hbd).cells
              clear z0 z1 y0 y1 hod hbd HKb HMb HBb
              go_upto_region 24 with fail
              clear p0 p1 p2 p3
              generalize (wd.setCell ⟨b12, 0, none⟩ (.int .i64 dT)).setCell ⟨b12, 1, none⟩ (.slice aod T.2.length cd) = Wd at *
              obtain ⟨p0, p1, p2, p3⟩ := HKd.out.cells
              obtain ⟨r0, r1, r2, r3⟩ := HMd.out.cells
              go_wp2_with fail
              refine (law_same03 dT T.1 _ _ T.2 Wd HKd.out.rl HMd.out.rl).mono ?_
              rintro e we ⟨rfl, hbe⟩
              have HBe := Lib.hid (bt HBd.out hbe)
              clear p0 p1 p2 p3 r0 r1 r2 r3 HKd HMd HBd hbe
              go_wp2_with fail
              refine (law_shown03 _).mono ?_
              rintro e wf ⟨rfl, hbf⟩
              go_wp2_with fail
              go_ret
              exact ⟨rfl, below_grownBy (Hloc.out.next (grownBy_below (bt HBe.out hbf) none) (fun _ h => by cases h)).grown⟩
end Go.Proofs.Ytkgaipcgdldfdaa
