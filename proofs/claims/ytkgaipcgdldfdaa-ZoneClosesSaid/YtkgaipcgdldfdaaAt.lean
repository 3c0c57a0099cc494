/- The program's point of some values, where there is no error. -/
import Derived.Test.YtkgaipcgdldfdaaApt
namespace Go.Proofs.Ytkgaipcgdldfdaa
open Go.RowKit
set_option linter.unusedVariables false

/-- What is asked of values that are a point without error. -/
structure PtOk (N : Nat) (ps : List (Int × Int)) : Prop where
  len : ps.length = N
  bd : ∀ k, k ≤ N → I64 (gq ((0, 1) :: ps) k).1
  val : ∀ k, k ≤ N → vr (gq ((0, 1) :: ps) k).1 (gq ((0, 1) :: ps) k).2 = true ∧ 0 ≤ (gq ((0, 1) :: ps) k).1
  sub : ∀ i j, i ≤ N → j < i → (sbR (gq ((0, 1) :: ps) i).1 (gq ((0, 1) :: ps) i).2 (gq ((0, 1) :: ps) j).1 (gq ((0, 1) :: ps) j).2).2 = 0
theorem Try.undRatios : Try.prog.underlying 45 = some (.slice 48) := by kernel_rfl

theorem OQ.mono {t base base' : Nat} {w : World} {v : Value} {ps : List (Int × Int)} (h : OQ t base' w v ps) (hb : base ≤ base') : OQ t base w v ps := by
  refine ⟨h.1, ?_⟩
  rcases h.2 with h2 | ⟨g, cap, cur, h2, h3, h4⟩
  · exact .inl h2
  · exact .inr ⟨g, cap, cur, h2, by omega, h4⟩
theorem own_form {base e size : Nat} {w : World} {v : Value} {n : Nat} {cs : List Value} (h : w.ownsRow base e size v n cs) (hn : 0 < n) :
    ∃ g cap, v = .slice (some ⟨g, 0, none⟩) n cap ∧ base ≤ g ∧ g < w.heap.size ∧ n ≤ cap ∧ cap ≤ maxLen := by
  rcases h.2 with ⟨_, e⟩ | ⟨g, cap, cur, e, hb, hg, hnc, hcm, _⟩
  · omega
  · exact ⟨g, cap, e, hb, (Array.getElem?_eq_some_iff.1 hg).1, hnc, hcm⟩
set_option maxRecDepth 100000 in
set_option maxHeartbeats 8000000 in
theorem prog_pat (N : Nat) (v pv : Value) (xs : List Int) (ps : List (Int × Int)) (w : World) (hv : RL w.heap.size w v xs) (hp : RQ w.heap.size w pv ps) (hok : OkZ N xs) (hps : PtOk N ps) :
    Calls Try.prog 81 #[.agg #[.int .i64 N, v], pv] w fun e w' => (∃ v', e = .returned (.tuple #[v', .int .i64 0]) ∧ OQ 48 w.heap.size w' v' ((0, 1) :: ps)) ∧ Below w.heap.size w w' := by
  have he := okErr_yes hok
  have hN : N ≤ 10 := by have := hok.hi; omega
  obtain ⟨aoz, capz, rfl, hlez, _⟩ := hv.open
  obtain ⟨ao, cap, rfl, hle, h0⟩ := hp.open
  have hloc0 := Loc.one w (.cells #[.int .i64 N, .slice aoz xs.length capz] 24) none
  have Hv0 := Lib.hid (hv.keepb (below_grownBy hloc0.grown))
  have HP := Lib.hid hps
  have hlen := hps.len
  have Hp := Lib.hid hp
  clear hv hok hps hp h0
  have hl' : ((ps.length : Int) != (N : Int)) = false := by simp; omega
  obtain ⟨i0, hi, hz0, hz1, hz2⟩ := info_parts Try.infoQ
  have Hi := Lib.hid hi
  have Hz0 := Lib.hid hz0
  have Hz1 := Lib.hid hz1
  have Hz2 := Lib.hid hz2
  clear hi hz0 hz1 hz2
  have HlP := Lib.hid hlen
  clear hlen
  go_enter Try.func81, Try.ntmps81
  go_wp2_with fail
  refine (prog_check N _ xs _ Hv0.out).mono ?_
  rw [he]
  rintro e w1 ⟨rfl, hb1⟩
  have hloc1 := hloc0.next (grownBy_below hb1 none) (fun _ h => by cases h)
  have c0 : w1.cell? ⟨w.heap.size, 0, none⟩ = some (.int .i64 N) := hloc1.cell 0 rfl 0
  have hs1 : w.heap.size + 1 ≤ w1.heap.size := hloc1.size
  have hloc2 := hloc1.next (World.grownBy_alloc w1 (.cells #[.int .i64 0, .int .i64 1] 48) none) (fun _ h => by cases h)
  have hown : OQ 48 (w.heap.size + 1) (w1.alloc (.cells #[.int .i64 0, .int .i64 1] 48)) (.slice (some ⟨w1.heap.size, 0, none⟩) 1 1) [(0, 1)] := World.ownsRow_lit w1 #[.int .i64 0, .int .i64 1] 1 hs1 (by unfold maxLen; omega) rfl
  have Hrs := Lib.hid (RS.keep Hp.out (below_grownBy hloc2.grown))
  have hnew1 : ∀ u ∈ ps.flatMap cells2, u.oneCell' = true := by
    intro u hu
    obtain ⟨c, _, hc⟩ := List.mem_flatMap.1 hu
    simp only [cells2, List.mem_cons, List.not_mem_nil, or_false] at hc
    rcases hc with rfl | rfl <;> rfl
  clear hb1 hloc0 he hloc1
  go_wp2_with (at_builtin; (refine wpList_append_rs2 rfl (.tmp 26) (.tmp 27) 90 45 rfl (w.heap.size + 1) 48 i0 (.agg #[.int .i64 0, .int .i64 0]) 2 16 Try.undPt Try.undRatios Hi.out Hz0.out Hz1.out Hz2.out rfl (by decide) (.slice (some ⟨w1.heap.size, 0, none⟩) 1 1) 1 ([(0, 1)].flatMap cells2) rfl hown w.heap.size (.slice ao ps.length cap) rfl ps.length (ps.flatMap cells2) Hrs.out (flat2_len ps) hnew1 ?_ ?_ ?_ ?_; (rw [HlP.out]; unfold maxLen; omega); (rw [HlP.out]; omega); (simp; omega); intro v' w2 ho2 hg2; rw [show 1 + ps.length = N + 1 by rw [HlP.out]; omega] at ho2; obtain ⟨g, cap2, rfl, hgb, hgs, hgc, hgm⟩ := own_form ho2 (by omega)))
  have hlocA := hloc2.anyrow hg2 (fun k e => by cases e; exact hs1)
  have hQl : ((0, 1) :: ps : List (Int × Int)).length = N + 1 := by rw [List.length_cons, HlP.out]
  have hownA : OQ 48 (w.heap.size + 1) w2 (.slice (some ⟨g, 0, none⟩) (N + 1) cap2) ((0, 1) :: ps) := by
    unfold OQ; rw [hQl]; exact ho2
  clear ho2 hg2 hloc2 hown c0 hs1
  generalize hQ : ((0, 1) :: ps : List (Int × Int)) = Q at *
  go_loopw [31] (fun k wr => ∃ j : Nat, j ≤ N + 1 ∧ k = .int .i64 j ∧ OQ 48 (w.heap.size + 1) wr (.slice (some ⟨g, 0, none⟩) (N + 1) cap2) Q ∧ Loc w wr none [.cells #[.int .i64 N, .slice aoz xs.length capz] 24]) (fun k _ => N + 1 - (intOf k).toNat)
  case atStart => exact ⟨0, by omega, rfl, hownA, hlocA⟩
  case round =>
    clear hownA hlocA
    obtain ⟨j, hj, rfl, hown, hloc⟩ := hrel
    by_cases hjl : j < N + 1
    · have hj1 : (j : Int) < (N : Int) + 1 := by omega
      obtain ⟨q0, q1⟩ := OQ.at hown (j := j) (by omega)
      have HBd := HP.out.bd j (by omega)
      obtain ⟨hV1, hV2⟩ := HP.out.val j (by omega)
      rw [hQ] at HBd hV1 hV2
      have Hown := Lib.hid hown
      generalize gq Q j = p at *
      obtain ⟨pn, pd⟩ := p
      simp only at q0 q1 HBd hV1 hV2
      have hneg : decide (pn < 0) = false := by simpa using hV2
      clear hown hV2
      have hloc3 := hloc.next (World.grownBy_alloc wr (.cells #[.int .i64 pn, .int .i64 pd] 48) none) (fun _ h => by cases h)
      have hown3 := Lib.hid (World.ownsRow.alloc Hown.out (.cells #[.int .i64 pn, .int .i64 pd] 48))
      go_wp2_with (go_at_call 128; refine (pr_valid pn pd _ HBd.1 HBd.2).mono ?_; rw [hV1]; rintro e w8 ⟨rfl, hb8⟩; have x0 := keepb (cell_of_row _ wr.heap.size 0 _ _ _ (heap_alloc_new wr (.cells #[.int .i64 pn, .int .i64 pd] 48))) hb8)
      go_roundw
      case rel => exact ⟨j + 1, by omega, by go_num, World.ownsRow.kept hown3.out (grownBy_below hb8 none) (.inr (fun e => by cases e)), hloc3.next (grownBy_below hb8 none) (fun _ h => by cases h)⟩
      case measure => simp [intOf]; omega
    · have htj : decide ((j : Int) < (N : Int) + 1) = false := by simp; omega
      go_wp2_with fail
      go_loopw [46] (fun k wr2 => ∃ i : Nat, i ≤ N + 1 ∧ k = .int .i64 i ∧ OQ 48 (w.heap.size + 1) wr2 (.slice (some ⟨g, 0, none⟩) (N + 1) cap2) Q ∧ Loc w wr2 none [.cells #[.int .i64 N, .slice aoz xs.length capz] 24]) (fun k _ => N + 1 - (intOf k).toNat)
      case atStart => exact ⟨0, by omega, rfl, hown, hloc⟩
      case round =>
        clear hown hloc htj hjl hj
        obtain ⟨i, hi, rfl, hown, hloc⟩ := hrel
        by_cases hil : i < N + 1
        · have hi1 : (i : Int) < (N : Int) + 1 := by omega
          have hi0 : (0 : Int) ≤ (i : Int) := by omega
          have hi2 : (i : Int) ≤ (cap2 : Int) := by omega
          obtain ⟨q0, q1⟩ := OQ.at hown (j := i) (by omega)
          have HBd := Lib.hid (HP.out.bd i (by omega))
          have HSub := Lib.hid (HP.out.sub i)
          rw [hQ] at HBd HSub
          have Hown := Lib.hid hown
          generalize hp : gq Q i = p at *
          obtain ⟨pn, pd⟩ := p
          simp only at q0 q1
          clear hown hp
          have hloc3 := hloc.next (World.grownBy_alloc wr (.cells #[.int .i64 pn, .int .i64 pd] 48) none) (fun _ h => by cases h)
          have hown3 := Lib.hid (World.ownsRow.alloc Hown.out (.cells #[.int .i64 pn, .int .i64 pd] 48))
          have Hx := Lib.hid (heap_alloc_new wr (.cells #[.int .i64 pn, .int .i64 pd] 48))
          have hB : w.heap.size + 1 ≤ wr.heap.size := hloc.size
          go_wp2_with fail
          generalize hBB : wr.heap.size = B at *
          generalize wr.alloc (.cells #[.int .i64 pn, .int .i64 pd] 48) = W1 at *
          clear hloc Hown q0 q1
          go_loopw [55] (fun k wr3 => ∃ j : Nat, j ≤ i ∧ k = .int .i64 j ∧ wr3.heap[B]? = some (.cells #[.int .i64 pn, .int .i64 pd] 48 (0, 0)) ∧ OQ 48 (w.heap.size + 1) wr3 (.slice (some ⟨g, 0, none⟩) (N + 1) cap2) Q ∧ Loc w wr3 none [.cells #[.int .i64 N, .slice aoz xs.length capz] 24]) (fun k _ => i - (intOf k).toNat)
          case atStart => exact ⟨0, by omega, rfl, Hx.out, hown3.out, hloc3⟩
          case round =>
            clear hown3 hloc3 Hx
            obtain ⟨j, hj, rfl, hx, hown, hloc⟩ := hrel
            by_cases hjl : j < i
            · have hj1 : (j : Int) < (i : Int) := by omega
              obtain ⟨q0, q1⟩ := OQ.at hown (j := j) (by omega)
              have hbd := HP.out.bd j (by omega)
              have hsub := HSub.out j (by omega) hjl
              rw [hQ] at hbd
              have Hown := Lib.hid hown
              generalize hp : gq Q j = p at *
              obtain ⟨rn, rd⟩ := p
              simp only at q0 q1 hbd hsub
              have HSb := Lib.hid hsub
              clear hown hp hsub
              have bA : Below wr.heap.size wr (wr.alloc (.cells #[.int .i64 rn, .int .i64 rd] 48)) := (Below.refl _ _).alloc (Nat.le_refl _) _
              have hloc3 := hloc.next (World.grownBy_alloc wr (.cells #[.int .i64 rn, .int .i64 rd] 48) none) (fun _ h => by cases h)
              have hown3 := Lib.hid (World.ownsRow.alloc Hown.out (.cells #[.int .i64 rn, .int .i64 rd] 48))
              have hBs : B < wr.heap.size := (Array.getElem?_eq_some_iff.1 hx).1
              have hx2 := (bA.block B hBs).trans hx
              have x0 := cell_of_row _ B 0 _ _ _ hx2
              have x1 := cell_of_row _ B 1 _ _ _ hx2
              have hy := heap_alloc_new wr (.cells #[.int .i64 rn, .int .i64 rd] 48)
              have y0 := cell_of_row _ wr.heap.size 0 _ _ _ hy
              have y1 := cell_of_row _ wr.heap.size 1 _ _ _ hy
              generalize hR : sbR pn pd rn rd = R at *
              obtain ⟨⟨r1, r2⟩, re⟩ := R
              have hre : re = 0 := HSb.out
              subst hre
              clear hx hloc Hown HSb
              go_wp2_with (go_at_call 129; refine (pr_sub pn pd rn rd _ HBd.out hbd).mono ?_; rw [hR]; rintro e w8 ⟨rfl, hb8⟩)
              have hloc8 := hloc3.next (grownBy_below hb8 none) (fun _ h => by cases h)
              have hown8 := World.ownsRow.kept hown3.out (grownBy_below hb8 none) (.inr (fun e => by cases e))
              have hx8 := (hb8.block B (show B < (wr.alloc (.cells #[.int .i64 rn, .int .i64 rd] 48)).heap.size by simp; omega)).trans hx2
              have hB8 : B < w8.heap.size := (Array.getElem?_eq_some_iff.1 hx8).1
              go_roundw
              case rel => exact ⟨j + 1, by omega, by go_num, ((Below.refl w8.heap.size w8).alloc (Nat.le_refl _) _ |>.block B hB8).trans hx8, World.ownsRow.alloc hown8 _, hloc8.next (World.grownBy_alloc w8 _ none) (fun _ h => by cases h)⟩
              case measure => simp [intOf]; omega
            · have htj : decide ((j : Int) < (i : Int)) = false := by simp; omega
              go_wp2_with fail
              go_roundw
              case rel => exact ⟨i + 1, by omega, by go_num, hown, hloc⟩
              case measure => simp [intOf]; omega
        · have hti : decide ((i : Int) < (N : Int) + 1) = false := by simp; omega
          go_wp2_with fail
          go_ret2
          exact ⟨⟨_, rfl, by rw [hQ]; exact OQ.mono (base' := w.heap.size + 1) hown (by omega)⟩, below_grownBy hloc.grown⟩
end Go.Proofs.Ytkgaipcgdldfdaa
