/- The program's Flat. -/
import Derived.Test.YtfphlpglgcmljaaGreatHof
import Derived.Test.YtfphlpglgcmljaaGreatPzc
namespace Go.Proofs.YtfphlpglgcmljaaGreat
open Go.RowKit
set_option linter.unusedVariables false
set_option maxHeartbeats 1000000 in
theorem test_loc (x : Fl) (fb : Nat) (n : Int) (w : World) (hc : w.cell? ⟨fb, 0, none⟩ = some (.int .i64 n)) (hx : RX cdCon w.heap.size w x.v x.cs) :
    Calls Tryz.prog 43 (#[encLoc x] ++ #[.pointer (some ⟨fb, 0, none⟩)]) w fun e w' => e = .returned (.bool (locB n x)) ∧ Below w.heap.size w w' := by
  have hloc := Loc.one w (.cells #[x.v, .bool x.u, .int .i64 x.rate] 73) none
  have htb := World.block_lt_of_cell? w _ hc
  have hc2 := keepb hc (below_grownBy hloc.grown)
  have Hx := Lib.hid (RX.keepb hx (below_grownBy hloc.grown))
  clear hc hx
  show Calls Tryz.prog 43 #[encLoc x, .pointer (some ⟨fb, 0, none⟩)] w _
  unfold encLoc
  go_enter Tryz.func43, Tryz.ntmps43
  go_wp2_with fail
  refine (prog_invariant n _ x.cs _ Hx.out).mono ?_
  rintro e w1 ⟨rfl, hb⟩
  have hloc1 := hloc.next (grownBy_below hb none) (fun _ h => by cases h)
  clear hb
  have y2 : w1.cell? ⟨w.heap.size, 2, none⟩ = some (.int .i64 x.rate) := hloc1.cell 0 rfl 2
  cases h0 : invB n x.cs with
  | false =>
    have HR := Lib.hid (show locB n x = false by unfold locB; rw [h0]; rfl)
    clear h0
    go_wp2_with fail
    go_ret
    exact ⟨ret_bool HR.out.symm, below_grownBy hloc1.grown⟩
  | true =>
    go_wp2_with fail
    refine (between_i64 x.rate 0 10000 _).mono ?_
    rintro e _ ⟨rfl, rfl⟩
    cases h1 : btw x.rate 0 10000 with
    | false =>
      have HR := Lib.hid (show locB n x = false by unfold locB; rw [h0, h1]; rfl)
      clear h0 h1
      go_wp2_with fail
      go_ret
      exact ⟨ret_bool HR.out.symm, below_grownBy hloc1.grown⟩
    | true =>
      have HR := Lib.hid (show locB n x = true by unfold locB; rw [h0, h1]; rfl)
      clear h0 h1
      go_wp2_with fail
      go_ret
      exact ⟨ret_bool HR.out.symm, below_grownBy hloc1.grown⟩
theorem ents_tloc : Enters Tryz.prog 43 := enters_of Tryz.func43 (by kernel_rfl) rfl
set_option maxHeartbeats 2000000 in
theorem test_edg (x : Fe) (lb fb : Nat) (n last : Int) (w : World) (hd : w.cell? ⟨lb, 0, none⟩ = some (.int .i64 last)) (hc : w.cell? ⟨fb, 0, none⟩ = some (.int .i64 n)) (hx : RX cdCon w.heap.size w x.gv x.gs ∧ RX cdRes w.heap.size w x.rv x.rs) :
    Calls Tryz.prog 47 (#[encEdg x] ++ #[.pointer (some ⟨lb, 0, none⟩), .pointer (some ⟨fb, 0, none⟩)]) w fun e w' => e = .returned (.bool (edgB n last x)) ∧ Below w.heap.size w w' := by
  have hloc := Loc.one w (.cells #[.int .i64 x.a, .int .i64 x.b, x.gv, x.rv, .int .i64 x.act, .int .i64 x.kind, .int .i64 x.cost] 76) none
  have htb := World.block_lt_of_cell? w _ hc
  have htd := World.block_lt_of_cell? w _ hd
  have hc2 := keepb hc (below_grownBy hloc.grown)
  have hd2 := keepb hd (below_grownBy hloc.grown)
  have Hc := Lib.hid hc
  have Hg := Lib.hid hx.1
  have Hr := Lib.hid hx.2
  clear hc hd hx
  show Calls Tryz.prog 47 #[encEdg x, .pointer (some ⟨lb, 0, none⟩), .pointer (some ⟨fb, 0, none⟩)] w _
  unfold encEdg
  go_enter Tryz.func47, Tryz.ntmps47
  go_wp2_with fail
  refine (between_int x.a 0 last _).mono ?_
  rintro e _ ⟨rfl, rfl⟩
  cases h0 : btw x.a 0 last with
  | false =>
    have HR := Lib.hid (show edgB n last x = false by unfold edgB; rw [h0]; rfl)
    clear h0
    go_wp2_with fail
    go_ret
    exact ⟨ret_bool HR.out.symm, below_grownBy hloc.grown⟩
  | true =>
    go_wp2_with fail
    refine (between_int x.b 0 last _).mono ?_
    rintro e _ ⟨rfl, rfl⟩
    cases h1 : btw x.b 0 last with
    | false =>
      have HR := Lib.hid (show edgB n last x = false by unfold edgB; rw [h0, h1]; rfl)
      clear h0 h1
      go_wp2_with fail
      go_ret
      exact ⟨ret_bool HR.out.symm, below_grownBy hloc.grown⟩
    | true =>
      go_wp2_with fail
      refine (prog_constraints n _ x.gs _ (RX.keepb Hg.out (below_grownBy hloc.grown))).mono ?_
      rintro e w1 ⟨rfl, hb⟩
      have hloc1 := hloc.next (grownBy_below hb none) (fun _ h => by cases h)
      clear hb
      have y3 : w1.cell? ⟨w.heap.size, 3, none⟩ = some (x.rv) := hloc1.cell 0 rfl 3
      have y4 : w1.cell? ⟨w.heap.size, 4, none⟩ = some (.int .i64 x.act) := hloc1.cell 0 rfl 4
      have y5 : w1.cell? ⟨w.heap.size, 5, none⟩ = some (.int .i64 x.kind) := hloc1.cell 0 rfl 5
      have y6 : w1.cell? ⟨w.heap.size, 6, none⟩ = some (.int .i64 x.cost) := hloc1.cell 0 rfl 6
      have q2 : w1.cell? ⟨fb, 0, none⟩ = some (.int .i64 n) := keepb Hc.out (below_grownBy hloc1.grown)
      cases h2 : cnsB n x.gs with
      | false =>
        have HR := Lib.hid (show edgB n last x = false by unfold edgB; rw [h0, h1, h2]; rfl)
        clear h0 h1 h2
        go_wp2_with fail
        go_ret
        exact ⟨ret_bool HR.out.symm, below_grownBy hloc1.grown⟩
      | true =>
        go_wp2_with fail
        refine (prog_resets n _ x.rs _ (RX.keepb Hr.out (below_grownBy hloc1.grown))).mono ?_
        rintro e w2 ⟨rfl, hb⟩
        have hloc2 := hloc1.next (grownBy_below hb none) (fun _ h => by cases h)
        clear hb
        clear y3 y4 y5 y6 q2
        have y3 : w2.cell? ⟨w.heap.size, 3, none⟩ = some (x.rv) := hloc2.cell 0 rfl 3
        have y4 : w2.cell? ⟨w.heap.size, 4, none⟩ = some (.int .i64 x.act) := hloc2.cell 0 rfl 4
        have y5 : w2.cell? ⟨w.heap.size, 5, none⟩ = some (.int .i64 x.kind) := hloc2.cell 0 rfl 5
        have y6 : w2.cell? ⟨w.heap.size, 6, none⟩ = some (.int .i64 x.cost) := hloc2.cell 0 rfl 6
        have q2 : w2.cell? ⟨fb, 0, none⟩ = some (.int .i64 n) := keepb Hc.out (below_grownBy hloc2.grown)
        cases h3 : rssB n x.rs with
        | false =>
          have HR := Lib.hid (show edgB n last x = false by unfold edgB; rw [h0, h1, h2, h3]; rfl)
          clear h0 h1 h2 h3
          go_wp2_with fail
          go_ret
          exact ⟨ret_bool HR.out.symm, below_grownBy hloc2.grown⟩
        | true =>
          go_wp2_with fail
          refine (between_int x.act 0 1000 _).mono ?_
          rintro e _ ⟨rfl, rfl⟩
          cases h4 : btw x.act 0 1000 with
          | false =>
            have HR := Lib.hid (show edgB n last x = false by unfold edgB; rw [h0, h1, h2, h3, h4]; rfl)
            clear h0 h1 h2 h3 h4
            go_wp2_with fail
            go_ret
            exact ⟨ret_bool HR.out.symm, below_grownBy hloc2.grown⟩
          | true =>
            go_wp2_with fail
            refine (between_int x.kind 0 1 _).mono ?_
            rintro e _ ⟨rfl, rfl⟩
            cases h5 : btw x.kind 0 1 with
            | false =>
              have HR := Lib.hid (show edgB n last x = false by unfold edgB; rw [h0, h1, h2, h3, h4, h5]; rfl)
              clear h0 h1 h2 h3 h4 h5
              go_wp2_with fail
              go_ret
              exact ⟨ret_bool HR.out.symm, below_grownBy hloc2.grown⟩
            | true =>
              go_wp2_with fail
              refine (between_i64 x.cost 0 10000 _).mono ?_
              rintro e _ ⟨rfl, rfl⟩
              cases h6 : btw x.cost 0 10000 with
              | false =>
                have HR := Lib.hid (show edgB n last x = false by unfold edgB; rw [h0, h1, h2, h3, h4, h5, h6]; rfl)
                clear h0 h1 h2 h3 h4 h5 h6
                go_wp2_with fail
                go_ret
                exact ⟨ret_bool HR.out.symm, below_grownBy hloc2.grown⟩
              | true =>
                have HR := Lib.hid (show edgB n last x = true by unfold edgB; rw [h0, h1, h2, h3, h4, h5, h6]; rfl)
                clear h0 h1 h2 h3 h4 h5 h6
                go_wp2_with fail
                go_ret
                exact ⟨ret_bool HR.out.symm, below_grownBy hloc2.grown⟩
theorem ents_tedg : Enters Tryz.prog 47 := enters_of Tryz.func47 (by kernel_rfl) rfl
set_option maxHeartbeats 2000000 in
theorem prog_flat (n i0 : Int) (lv ev : Value) (ls : List Fl) (es : List Fe) (w : World) (hl : LocsR w lv ls) (he : EdgsR w ev es) :
    Calls Tryz.prog 13 #[.agg #[.int .i64 n, .int .i64 i0, lv, ev]] w fun e w' => e = .returned (.int .i64 (flatV n i0 ls es)) ∧ Below w.heap.size w w' := by
  have Hl := Lib.hid hl
  have He := Lib.hid he
  obtain ⟨aol, capl, rfl, hlel, _⟩ := hl.1.open
  obtain ⟨aoe, cape, rfl, hlee, _⟩ := he.1.open
  have hw0 : IntKind.i64.wrap ((ls.length : Int) - 1) = (ls.length : Int) - 1 := IntWalk.i64_in _ (by omega)
  have hw1 : wrap64 ((ls.length : Int) - 1) = (ls.length : Int) - 1 := by unfold wrap64; omega
  have HF := Lib.hid (show ∀ b, flatB n i0 ls es = b → flatV n i0 ls es = if b = true then 0 else 2 from fun b h => by unfold flatV; rw [h])
  have HB := Lib.hid (show flatB n i0 ls es = (btw n 0 8 && btw ls.length 1 64 && decide ((es.length : Int) ≤ 200) && btw i0 0 ((ls.length : Int) - 1) && ls.all (locB n) && es.all (edgB n ((ls.length : Int) - 1))) from rfl)
  clear hl he
  have hloc := Loc.two w (.cells #[.int .i64 n, .int .i64 i0, .slice aol ls.length capl, .slice aoe es.length cape] 25) (.cells #[.int .i64 ((ls.length : Int) - 1)] 3) none
  have hp1 : Prd encLoc (.func (.func 43) #[] #[.pointer (some ⟨w.heap.size, 0, none⟩)]) ((w.alloc (.cells #[.int .i64 n, .int .i64 i0, .slice aol ls.length capl, .slice aoe es.length cape] 25)).alloc (.cells #[.int .i64 ((ls.length : Int) - 1)] 3)) (locB n) ls :=
    ⟨_, _, rfl, ents_tloc, fun x hx w' hw => test_loc x w.heap.size n w' (keepb (hloc.cell 0 rfl 0) hw) (RX.keepb (Hl.out.2 x hx) (bt (below_grownBy hloc.grown) hw))⟩
  have hp2 : Prd encEdg (.func (.func 47) #[] #[.pointer (some ⟨w.heap.size + 1, 0, none⟩), .pointer (some ⟨w.heap.size, 0, none⟩)]) ((w.alloc (.cells #[.int .i64 n, .int .i64 i0, .slice aol ls.length capl, .slice aoe es.length cape] 25)).alloc (.cells #[.int .i64 ((ls.length : Int) - 1)] 3)) (edgB n ((ls.length : Int) - 1)) es :=
    ⟨_, _, rfl, ents_tedg, fun x hx w' hw => test_edg x (w.heap.size + 1) w.heap.size n ((ls.length : Int) - 1) w' (keepb (hloc.cell 1 rfl 0) hw) (keepb (hloc.cell 0 rfl 0) hw) ⟨RX.keepb (He.out.2 x hx).1 (bt (below_grownBy hloc.grown) hw), RX.keepb (He.out.2 x hx).2 (bt (below_grownBy hloc.grown) hw)⟩⟩
  have Hp1 := Lib.hid hp1
  have Hp2 := Lib.hid hp2
  clear hp1 hp2
  go_enter Tryz.func13, Tryz.ntmps13
  go_wp2_with fail
  refine (between_int n 0 8 _).mono ?_
  rintro e _ ⟨rfl, rfl⟩
  cases h0 : btw n 0 8 with
  | false =>
    have HR := Lib.hid (HF.out false (by rw [HB.out, h0]; rfl))
    clear h0
    go_wp2_with fail
    go_ret
    exact ⟨ret_int HR.out.symm, below_grownBy hloc.grown⟩
  | true =>
    go_wp2_with fail
    refine (between_int ls.length 1 64 _).mono ?_
    rintro e _ ⟨rfl, rfl⟩
    cases h1 : btw ls.length 1 64 with
    | false =>
      have HR := Lib.hid (HF.out false (by rw [HB.out, h0, h1]; rfl))
      clear h0 h1
      go_wp2_with fail
      go_ret
      exact ⟨ret_int HR.out.symm, below_grownBy hloc.grown⟩
    | true =>
      cases h2 : decide ((es.length : Int) ≤ 200) with
      | false =>
        have HR := Lib.hid (HF.out false (by rw [HB.out, h0, h1, h2]; rfl))
        clear h0 h1
        go_wp2_with fail
        go_ret
        exact ⟨ret_int HR.out.symm, below_grownBy hloc.grown⟩
      | true =>
        go_wp2_with fail
        refine (between_int i0 0 ((ls.length : Int) - 1) _).mono ?_
        rintro e _ ⟨rfl, rfl⟩
        cases h3 : btw i0 0 ((ls.length : Int) - 1) with
        | false =>
          have HR := Lib.hid (HF.out false (by rw [HB.out, h0, h1, h2, h3]; rfl))
          clear h0 h1 h3
          go_wp2_with fail
          go_ret
          exact ⟨ret_int HR.out.symm, below_grownBy hloc.grown⟩
        | true =>
          go_wp2_with fail
          refine (holds_Loc _ _ ls _ _ (RX.keepb Hl.out.1 (below_grownBy hloc.grown)) Hp1.out).mono ?_
          rintro e w1 ⟨rfl, hb⟩
          have hloc1 := hloc.next (grownBy_below hb none) (fun _ h => by cases h)
          have Hp3 := Lib.hid (Hp2.out.later hb)
          clear hb
          have z0 : w1.cell? ⟨w.heap.size, 0, none⟩ = some (.int .i64 n) := hloc1.cell 0 rfl 0
          have z1 : w1.cell? ⟨w.heap.size, 1, none⟩ = some (.int .i64 i0) := hloc1.cell 0 rfl 1
          have z2 : w1.cell? ⟨w.heap.size, 2, none⟩ = some (.slice aol ls.length capl) := hloc1.cell 0 rfl 2
          have z3 : w1.cell? ⟨w.heap.size, 3, none⟩ = some (.slice aoe es.length cape) := hloc1.cell 0 rfl 3
          have zl : w1.cell? ⟨w.heap.size + 1, 0, none⟩ = some (.int .i64 ((ls.length : Int) - 1)) := hloc1.cell 1 rfl 0
          cases h4 : ls.all (locB n) with
          | false =>
            have HR := Lib.hid (HF.out false (by rw [HB.out, h0, h1, h2, h3, h4]; rfl))
            clear h0 h1 h3 h4
            go_wp2_with fail
            go_ret
            exact ⟨ret_int HR.out.symm, below_grownBy hloc1.grown⟩
          | true =>
            go_wp2_with fail
            refine (holds_Edg _ _ es _ _ (RX.keepb He.out.1 (below_grownBy hloc1.grown)) Hp3.out).mono ?_
            rintro e w2 ⟨rfl, hb⟩
            have hloc2 := hloc1.next (grownBy_below hb none) (fun _ h => by cases h)
            clear hb
            cases h5 : es.all (edgB n ((ls.length : Int) - 1)) with
            | false =>
              have HR := Lib.hid (HF.out false (by rw [HB.out, h0, h1, h2, h3, h4, h5]; rfl))
              clear h0 h1 h3 h4 h5
              go_wp2_with fail
              go_ret
              exact ⟨ret_int HR.out.symm, below_grownBy hloc2.grown⟩
            | true =>
              have HR := Lib.hid (HF.out true (by rw [HB.out, h0, h1, h2, h3, h4, h5]; rfl))
              clear h0 h1 h3 h4 h5
              go_wp2_with fail
              go_ret
              exact ⟨ret_int HR.out.symm, below_grownBy hloc2.grown⟩
end Go.Proofs.YtfphlpglgcmljaaGreat
