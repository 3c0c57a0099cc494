/- append(s, x...) where the types of both slices differ in name alone. The program's point of some values, where there is no error. The program's Meets. The program's suits: do the differences of the clocks of a point meet the limits? The program's Stay, where there is an answer. -/
import Derived.Test.YtkgaipcgdldfdaaPt
import Derived.Deep.RegionHeld3
import Derived.Deep.DeepCutAuto
namespace Go.Proofs.Ytkgaipcgdldfdaa
open Go.RowKit
set_option linter.unusedVariables false

theorem append_types {P : Program} {w : World} {t u e ty : TypeId} (s x : Value) (ht : P.underlying t = some (.slice e)) (hu : P.underlying u = some (.slice e)) :
    (Builtin.append_ #[t, u] ty #[s, x]).run P w = (Builtin.append_ #[t, t] ty #[s, x]).run P w := by
  have h0 : ∀ x : TypeId, (#[t, x] : Array TypeId)[0]? = some t := fun _ => rfl
  have h1 : ∀ x : TypeId, (#[t, x] : Array TypeId)[1]? = some x := fun _ => rfl
  have h2 : (#[s, x] : Array Value)[0]? = some s := rfl
  have h3 : (#[s, x] : Array Value)[1]? = some x := rfl
  unfold Builtin.append_
  simp only [h0, h1, h2, h3, Sem.run_bind, run_underlying ht, Result.andThen_ok]
  cases s <;> simp only [Sem.run_bind, run_underlying ht, run_underlying hu, Result.andThen_ok, Sem.run_pure]
theorem wp_append_types {P : Program} {o : Oper} {a : Act} {w : World} {K : Act → World → Prop} {Q : Exit → Act → World → Prop}
    (s x : Operand) (t u e : TypeId) (ho : o.op = Op.call { callee := Callee.builtin Builtin.append, args := #[s, x], argTypes := #[t, u] })
    (ht : P.underlying t = some (.slice e)) (hu : P.underlying u = some (.slice e))
    (h : Oper.wp P { o with op := Op.call { callee := Callee.builtin Builtin.append, args := #[s, x], argTypes := #[t, t] } } a w K Q) : Oper.wp P o a w K Q := by
  unfold Oper.wp at *
  unfold execOp at *
  simp only [ho, resolve, invoke, builtin, Sem.run_bind, Sem.run_pure, Result.andThen_ok, List.map_toArray, List.map_cons, List.map_nil, append_types _ _ ht hu] at h ⊢
  exact h
/-- append(v, x...), v the call's own and x any slice that can be read, of two types. -/
theorem wpList_append_rs2 {P : Program} {ops : Array Oper} {rest : List Oper} {o : Oper} {a : Act} {w : World} {Q : Exit → Act → World → Prop}
    (hg : o.guard = none) (s x : Operand) (t u : TypeId) (ho : o.op = Op.call { callee := Callee.builtin Builtin.append, args := #[s, x], argTypes := #[t, u] })
    (base : Nat) (e : TypeId) (i : TypeInfo) (z : Value) (size bytes : Nat) (ht : P.underlying t = some (.slice e)) (hu : P.underlying u = some (.slice e)) (hi : P.info? e = some i) (hz : i.zero = some z)
    (hsize : i.size = size) (hby : i.bytes = bytes) (hzs : z.cells.size = size) (hsz : 0 < size)
    (v : Value) (n : Nat) (xs : List Value) (hs : a.eval s = v) (hown : w.ownsRow base e size v n xs)
    (B : Nat) (xv : Value) (hx : a.eval x = xv) (m : Nat) (news : List Value) (hr : RS B w xv m news) (hl : news.length = m * size) (h1 : ∀ u ∈ news, u.oneCell' = true)
    (h63 : n + m ≤ maxLen) (hbytes : (n + m) * bytes ≤ 140737488355328) (hbase : base ≤ w.heap.size)
    (h : ∀ v' w', w'.ownsRow base e size v' (n + m) (xs ++ news) → w.grownBy w' v.ownBlock → wpList P ops Q rest (a.put o.dst v') w') : wpList P ops Q (o :: rest) a w :=
  wpList_plain hg fun _ hK => wp_append_types s x t u e ho ht hu (wp_append_rs s x t rfl base e i z size bytes ht hi hz hsize hby hzs hsz v n xs hs hown B xv hx m news hr hl h1 h63 hbytes hbase fun v' w' h2 h3 => hK _ _ (h v' w' h2 h3))
end Go.Proofs.Ytkgaipcgdldfdaa
namespace Go.Proofs.Ytkgaipcgdldfdaa
open Go.RowKit
set_option linter.unusedVariables false

/-- What is asked of values that are a point without error. -/
structure PtOk (N : Nat) (ps : List (Int × Int)) : Prop where
  len : ps.length = N
  bd : ∀ k, k ≤ N → I64 (gq ((0, 1) :: ps) k).1
  val : ∀ k, k ≤ N → vr (gq ((0, 1) :: ps) k).1 (gq ((0, 1) :: ps) k).2 = true ∧ 0 ≤ (gq ((0, 1) :: ps) k).1
  sub : ∀ i j, i ≤ N → j < i → (sbR (gq ((0, 1) :: ps) i).1 (gq ((0, 1) :: ps) i).2 (gq ((0, 1) :: ps) j).1 (gq ((0, 1) :: ps) j).2).2 = 0
theorem Try.undRatios : Try.prog.underlying 45 = some (.slice 48) := by kernel_rfl

theorem OQ.mono {t base base' : Nat} {w : World} {v : Value} {ps : List (Int × Int)} (h : OQ t base' w v ps) (hb : base ≤ base') : OQ t base w v ps := by
  refine ⟨h.1, ?_⟩
  rcases h.2 with h2 | ⟨g, cap, cur, h2, h3, h4⟩
  · exact .inl h2
  · exact .inr ⟨g, cap, cur, h2, by omega, h4⟩
theorem own_form {base e size : Nat} {w : World} {v : Value} {n : Nat} {cs : List Value} (h : w.ownsRow base e size v n cs) (hn : 0 < n) :
    ∃ g cap, v = .slice (some ⟨g, 0, none⟩) n cap ∧ base ≤ g ∧ g < w.heap.size ∧ n ≤ cap ∧ cap ≤ maxLen := by
  rcases h.2 with ⟨_, e⟩ | ⟨g, cap, cur, e, hb, hg, hnc, hcm, _⟩
  · omega
  · exact ⟨g, cap, e, hb, (Array.getElem?_eq_some_iff.1 hg).1, hnc, hcm⟩
set_option maxRecDepth 100000 in
set_option maxHeartbeats 8000000 in
theorem prog_pat (N : Nat) (v pv : Value) (xs : List Int) (ps : List (Int × Int)) (w : World) (hv : RL w.heap.size w v xs) (hp : RQ w.heap.size w pv ps) (hok : OkZ N xs) (hps : PtOk N ps) :
    Calls Try.prog 81 #[.agg #[.int .i64 N, v], pv] w fun e w' => (∃ v', e = .returned (.tuple #[v', .int .i64 0]) ∧ OQ 48 w.heap.size w' v' ((0, 1) :: ps)) ∧ Below w.heap.size w w' := by
  have he := okErr_yes hok
  have hN : N ≤ 10 := by have := hok.hi; omega
  obtain ⟨aoz, capz, rfl, hlez, _⟩ := hv.open
  obtain ⟨ao, cap, rfl, hle, h0⟩ := hp.open
  have hloc0 := Loc.one w (.cells #[.int .i64 N, .slice aoz xs.length capz] 24) none
  have Hv0 := Lib.hid (hv.keepb (below_grownBy hloc0.grown))
  have HP := Lib.hid hps
  have hlen := hps.len
  have Hp := Lib.hid hp
  clear hv hok hps hp h0
  have hl' : ((ps.length : Int) != (N : Int)) = false := by simp; omega
  obtain ⟨i0, hi, hz0, hz1, hz2⟩ := info_parts Try.infoQ
  have Hi := Lib.hid hi
  have Hz0 := Lib.hid hz0
  have Hz1 := Lib.hid hz1
  have Hz2 := Lib.hid hz2
  clear hi hz0 hz1 hz2
  have HlP := Lib.hid hlen
  clear hlen
  go_enter Try.func81, Try.ntmps81
  go_wp2_with fail
  refine (prog_check N _ xs _ Hv0.out).mono ?_
  rw [he]
  rintro e w1 ⟨rfl, hb1⟩
  have hloc1 := hloc0.next (grownBy_below hb1 none) (fun _ h => by cases h)
  have c0 : w1.cell? ⟨w.heap.size, 0, none⟩ = some (.int .i64 N) := hloc1.cell 0 rfl 0
  have hs1 : w.heap.size + 1 ≤ w1.heap.size := hloc1.size
  have hloc2 := hloc1.next (World.grownBy_alloc w1 (.cells #[.int .i64 0, .int .i64 1] 48) none) (fun _ h => by cases h)
  have hown : OQ 48 (w.heap.size + 1) (w1.alloc (.cells #[.int .i64 0, .int .i64 1] 48)) (.slice (some ⟨w1.heap.size, 0, none⟩) 1 1) [(0, 1)] := World.ownsRow_lit w1 #[.int .i64 0, .int .i64 1] 1 hs1 (by unfold maxLen; omega) rfl
  have Hrs := Lib.hid (RS.keep Hp.out (below_grownBy hloc2.grown))
  have hnew1 : ∀ u ∈ ps.flatMap cells2, u.oneCell' = true := by
    intro u hu
    obtain ⟨c, _, hc⟩ := List.mem_flatMap.1 hu
    simp only [cells2, List.mem_cons, List.not_mem_nil, or_false] at hc
    rcases hc with rfl | rfl <;> rfl
  clear hb1 hloc0 he hloc1
  go_wp2_with (at_builtin; (refine wpList_append_rs2 rfl (.tmp 26) (.tmp 27) 90 45 rfl (w.heap.size + 1) 48 i0 (.agg #[.int .i64 0, .int .i64 0]) 2 16 Try.undPt Try.undRatios Hi.out Hz0.out Hz1.out Hz2.out rfl (by decide) (.slice (some ⟨w1.heap.size, 0, none⟩) 1 1) 1 ([(0, 1)].flatMap cells2) rfl hown w.heap.size (.slice ao ps.length cap) rfl ps.length (ps.flatMap cells2) Hrs.out (flat2_len ps) hnew1 ?_ ?_ ?_ ?_; (rw [HlP.out]; unfold maxLen; omega); (rw [HlP.out]; omega); (simp; omega); intro v' w2 ho2 hg2; rw [show 1 + ps.length = N + 1 by rw [HlP.out]; omega] at ho2; obtain ⟨g, cap2, rfl, hgb, hgs, hgc, hgm⟩ := own_form ho2 (by omega)))
  have hlocA := hloc2.anyrow hg2 (fun k e => by cases e; exact hs1)
  have hQl : ((0, 1) :: ps : List (Int × Int)).length = N + 1 := by rw [List.length_cons, HlP.out]
  have hownA : OQ 48 (w.heap.size + 1) w2 (.slice (some ⟨g, 0, none⟩) (N + 1) cap2) ((0, 1) :: ps) := by
    unfold OQ; rw [hQl]; exact ho2
  clear ho2 hg2 hloc2 hown c0 hs1
  generalize hQ : ((0, 1) :: ps : List (Int × Int)) = Q at *
  go_loopw [31] (fun k wr => ∃ j : Nat, j ≤ N + 1 ∧ k = .int .i64 j ∧ OQ 48 (w.heap.size + 1) wr (.slice (some ⟨g, 0, none⟩) (N + 1) cap2) Q ∧ Loc w wr none [.cells #[.int .i64 N, .slice aoz xs.length capz] 24]) (fun k _ => N + 1 - (intOf k).toNat)
  case atStart => exact ⟨0, by omega, rfl, hownA, hlocA⟩
  case round =>
    clear hownA hlocA
    obtain ⟨j, hj, rfl, hown, hloc⟩ := hrel
    by_cases hjl : j < N + 1
    · have hj1 : (j : Int) < (N : Int) + 1 := by omega
      obtain ⟨q0, q1⟩ := OQ.at hown (j := j) (by omega)
      have HBd := HP.out.bd j (by omega)
      obtain ⟨hV1, hV2⟩ := HP.out.val j (by omega)
      rw [hQ] at HBd hV1 hV2
      have Hown := Lib.hid hown
      generalize gq Q j = p at *
      obtain ⟨pn, pd⟩ := p
      simp only at q0 q1 HBd hV1 hV2
      have hneg : decide (pn < 0) = false := by simpa using hV2
      clear hown hV2
      have hloc3 := hloc.next (World.grownBy_alloc wr (.cells #[.int .i64 pn, .int .i64 pd] 48) none) (fun _ h => by cases h)
      have hown3 := Lib.hid (World.ownsRow.alloc Hown.out (.cells #[.int .i64 pn, .int .i64 pd] 48))
      go_wp2_with (go_at_call 128; refine (pr_valid pn pd _ HBd.1 HBd.2).mono ?_; rw [hV1]; rintro e w8 ⟨rfl, hb8⟩; have x0 := keepb (cell_of_row _ wr.heap.size 0 _ _ _ (heap_alloc_new wr (.cells #[.int .i64 pn, .int .i64 pd] 48))) hb8)
      go_roundw
      case rel => exact ⟨j + 1, by omega, by go_num, World.ownsRow.kept hown3.out (grownBy_below hb8 none) (.inr (fun e => by cases e)), hloc3.next (grownBy_below hb8 none) (fun _ h => by cases h)⟩
      case measure => simp [intOf]; omega
    · have htj : decide ((j : Int) < (N : Int) + 1) = false := by simp; omega
      go_wp2_with fail
      go_loopw [46] (fun k wr2 => ∃ i : Nat, i ≤ N + 1 ∧ k = .int .i64 i ∧ OQ 48 (w.heap.size + 1) wr2 (.slice (some ⟨g, 0, none⟩) (N + 1) cap2) Q ∧ Loc w wr2 none [.cells #[.int .i64 N, .slice aoz xs.length capz] 24]) (fun k _ => N + 1 - (intOf k).toNat)
      case atStart => exact ⟨0, by omega, rfl, hown, hloc⟩
      case round =>
        clear hown hloc htj hjl hj
        obtain ⟨i, hi, rfl, hown, hloc⟩ := hrel
        by_cases hil : i < N + 1
        · have hi1 : (i : Int) < (N : Int) + 1 := by omega
          have hi0 : (0 : Int) ≤ (i : Int) := by omega
          have hi2 : (i : Int) ≤ (cap2 : Int) := by omega
          obtain ⟨q0, q1⟩ := OQ.at hown (j := i) (by omega)
          have HBd := Lib.hid (HP.out.bd i (by omega))
          have HSub := Lib.hid (HP.out.sub i)
          rw [hQ] at HBd HSub
          have Hown := Lib.hid hown
          generalize hp : gq Q i = p at *
          obtain ⟨pn, pd⟩ := p
          simp only at q0 q1
          clear hown hp
          have hloc3 := hloc.next (World.grownBy_alloc wr (.cells #[.int .i64 pn, .int .i64 pd] 48) none) (fun _ h => by cases h)
          have hown3 := Lib.hid (World.ownsRow.alloc Hown.out (.cells #[.int .i64 pn, .int .i64 pd] 48))
          have Hx := Lib.hid (heap_alloc_new wr (.cells #[.int .i64 pn, .int .i64 pd] 48))
          have hB : w.heap.size + 1 ≤ wr.heap.size := hloc.size
          go_wp2_with fail
          generalize hBB : wr.heap.size = B at *
          generalize wr.alloc (.cells #[.int .i64 pn, .int .i64 pd] 48) = W1 at *
          clear hloc Hown q0 q1
          go_loopw [55] (fun k wr3 => ∃ j : Nat, j ≤ i ∧ k = .int .i64 j ∧ wr3.heap[B]? = some (.cells #[.int .i64 pn, .int .i64 pd] 48 (0, 0)) ∧ OQ 48 (w.heap.size + 1) wr3 (.slice (some ⟨g, 0, none⟩) (N + 1) cap2) Q ∧ Loc w wr3 none [.cells #[.int .i64 N, .slice aoz xs.length capz] 24]) (fun k _ => i - (intOf k).toNat)
          case atStart => exact ⟨0, by omega, rfl, Hx.out, hown3.out, hloc3⟩
          case round =>
            clear hown3 hloc3 Hx
            obtain ⟨j, hj, rfl, hx, hown, hloc⟩ := hrel
            by_cases hjl : j < i
            · have hj1 : (j : Int) < (i : Int) := by omega
              obtain ⟨q0, q1⟩ := OQ.at hown (j := j) (by omega)
              have hbd := HP.out.bd j (by omega)
              have hsub := HSub.out j (by omega) hjl
              rw [hQ] at hbd
              have Hown := Lib.hid hown
              generalize hp : gq Q j = p at *
              obtain ⟨rn, rd⟩ := p
              simp only at q0 q1 hbd hsub
              have HSb := Lib.hid hsub
              clear hown hp hsub
              have bA : Below wr.heap.size wr (wr.alloc (.cells #[.int .i64 rn, .int .i64 rd] 48)) := (Below.refl _ _).alloc (Nat.le_refl _) _
              have hloc3 := hloc.next (World.grownBy_alloc wr (.cells #[.int .i64 rn, .int .i64 rd] 48) none) (fun _ h => by cases h)
              have hown3 := Lib.hid (World.ownsRow.alloc Hown.out (.cells #[.int .i64 rn, .int .i64 rd] 48))
              have hBs : B < wr.heap.size := (Array.getElem?_eq_some_iff.1 hx).1
              have hx2 := (bA.block B hBs).trans hx
              have x0 := cell_of_row _ B 0 _ _ _ hx2
              have x1 := cell_of_row _ B 1 _ _ _ hx2
              have hy := heap_alloc_new wr (.cells #[.int .i64 rn, .int .i64 rd] 48)
              have y0 := cell_of_row _ wr.heap.size 0 _ _ _ hy
              have y1 := cell_of_row _ wr.heap.size 1 _ _ _ hy
              generalize hR : sbR pn pd rn rd = R at *
              obtain ⟨⟨r1, r2⟩, re⟩ := R
              have hre : re = 0 := HSb.out
              subst hre
              clear hx hloc Hown HSb
              go_wp2_with (go_at_call 129; refine (pr_sub pn pd rn rd _ HBd.out hbd).mono ?_; rw [hR]; rintro e w8 ⟨rfl, hb8⟩)
              have hloc8 := hloc3.next (grownBy_below hb8 none) (fun _ h => by cases h)
              have hown8 := World.ownsRow.kept hown3.out (grownBy_below hb8 none) (.inr (fun e => by cases e))
              have hx8 := (hb8.block B (show B < (wr.alloc (.cells #[.int .i64 rn, .int .i64 rd] 48)).heap.size by simp; omega)).trans hx2
              have hB8 : B < w8.heap.size := (Array.getElem?_eq_some_iff.1 hx8).1
              go_roundw
              case rel => exact ⟨j + 1, by omega, by go_num, ((Below.refl w8.heap.size w8).alloc (Nat.le_refl _) _ |>.block B hB8).trans hx8, World.ownsRow.alloc hown8 _, hloc8.next (World.grownBy_alloc w8 _ none) (fun _ h => by cases h)⟩
              case measure => simp [intOf]; omega
            · have htj : decide ((j : Int) < (i : Int)) = false := by simp; omega
              go_wp2_with fail
              go_roundw
              case rel => exact ⟨i + 1, by omega, by go_num, hown, hloc⟩
              case measure => simp [intOf]; omega
        · have hti : decide ((i : Int) < (N : Int) + 1) = false := by simp; omega
          go_wp2_with fail
          go_ret2
          exact ⟨⟨_, rfl, by rw [hQ]; exact OQ.mono (base' := w.heap.size + 1) hown (by omega)⟩, below_grownBy hloc.grown⟩
end Go.Proofs.Ytkgaipcgdldfdaa
namespace Go.Proofs.Ytkgaipcgdldfdaa
open Go.RowKit
set_option linter.unusedVariables false

set_option maxRecDepth 100000 in
set_option maxHeartbeats 4000000 in
theorem pr_meets (n d l : Int) (w : World) (hn : I64 n) :
    Calls Try.prog 130 #[.agg #[.int .i64 n, .int .i64 d], .int .i64 l] w fun e w' => BEm (meetR n d l) e ∧ Below w.heap.size w w' := by
  have hloc0 := Loc.one w (.cells #[.int .i64 n, .int .i64 d] 48) none
  cases h1 : vr n d
  · have H := Lib.hid (meetR_no (n := n) (d := d) (l := l) (fun h => by rw [h1] at h; cases h.1))
    go_enter Try.func130, Try.ntmps130
    go_wp2_with fail
    refine (pr_valid n d _ hn.1 hn.2).mono ?_
    rw [h1]
    rintro e w1 ⟨rfl, hb1⟩
    have hloc1 := hloc0.next (grownBy_below hb1 none) (fun _ h => by cases h)
    clear h1
    go_wp2_with fail
    go_ret2
    exact ⟨BEm.of H.out, below_grownBy hloc1.grown⟩
  · cases h2 : vld l
    · have H := Lib.hid (meetR_no (n := n) (d := d) (l := l) (fun h => by rw [h2] at h; cases h.2))
      go_enter Try.func130, Try.ntmps130
      go_wp2_with fail
      refine (pr_valid n d _ hn.1 hn.2).mono ?_
      rw [h1]
      rintro e w1 ⟨rfl, hb1⟩
      have hloc1 := hloc0.next (grownBy_below hb1 none) (fun _ h => by cases h)
      clear h1
      go_wp2_with fail
      refine (prog_valid _ _).mono ?_
      rw [h2]
      rintro e w2 ⟨rfl, rfl⟩
      go_wp2_with fail
      go_ret2
      exact ⟨BEm.of H.out, below_grownBy hloc1.grown⟩
    · have hr := (vr_iff n d).1 h1
      have hv := (vld_iff l).1 h2
      by_cases hl : l = 1099511627776
      · have H := Lib.hid (meetR_nl ⟨h1, h2⟩ hl)
        have hl' : (l == 1099511627776) = true := by simpa using hl
        clear hl hr hv
        go_enter Try.func130, Try.ntmps130
        go_wp2_with fail
        refine (pr_valid n d _ hn.1 hn.2).mono ?_
        rw [h1]
        rintro e w1 ⟨rfl, hb1⟩
        have hloc1 := hloc0.next (grownBy_below hb1 none) (fun _ h => by cases h)
        clear h1
        go_wp2_with (go_at_call 99; refine (prog_valid _ _).mono ?_; rw [h2]; rintro e w2 ⟨rfl, rfl⟩)
        go_ret2
        exact ⟨BEm.of H.out, below_grownBy hloc1.grown⟩
      · have hl' : (l == 1099511627776) = false := by simpa using hl
        obtain ⟨m1, m2⟩ := mul_bd (a := l / 2) (b := d) (by omega) (by omega) (by omega) (by omega)
        have hw : IntKind.i64.wrap (l / 2 * d) = l / 2 * d := IntWalk.i64_in _ (by omega)
        have H := Lib.hid (show meetR n d l = (if n < l / 2 * d then true else if n = l / 2 * d then !decide (l % 2 = 0) else false, 0) by
          by_cases hp : l % 2 = 0
          · rw [meetR_strict ⟨h1, h2⟩ hl hp]
            by_cases c1 : n < l / 2 * d
            · simp [c1]
            · simp [c1, hp]
          · rw [meetR_weak ⟨h1, h2⟩ hl hp]
            by_cases c1 : n < l / 2 * d
            · simp [c1]; omega
            · by_cases c2 : n = l / 2 * d
              · rw [if_neg c1, if_pos c2]; simp [hp]; omega
              · rw [if_neg c1, if_neg c2]; simp; omega)
        clear hl hr hv m1 m2
        go_enter Try.func130, Try.ntmps130
        go_wp2_with fail
        refine (pr_valid n d _ hn.1 hn.2).mono ?_
        rw [h1]
        rintro e w1 ⟨rfl, hb1⟩
        have hloc1 := hloc0.next (grownBy_below hb1 none) (fun _ h => by cases h)
        have l0 : w1.cell? ⟨w.heap.size, 0, none⟩ = some (.int .i64 n) := hloc1.cell 0 rfl 0
        have l1 : w1.cell? ⟨w.heap.size, 1, none⟩ = some (.int .i64 d) := hloc1.cell 0 rfl 1
        clear h1 hb1
        go_upto_region 5 with (go_at_call 99; refine (prog_valid _ _).mono ?_; rw [h2]; rintro e w2 ⟨rfl, rfl⟩)
        clear h2
        go_region_held3 (fun w' => w'.cell? ⟨w.heap.size, 0, none⟩ = some (.int .i64 n) ∧ w'.cell? ⟨w.heap.size, 1, none⟩ = some (.int .i64 d))
          (first | exact ⟨by assumption, by assumption⟩ | go_keep)
          (first
            | (go_at_call 140; refine (prog_constant _ _).mono ?_; rintro e w2 ⟨rfl, rfl⟩))
        generalize l / 2 * d = m at *
        by_cases c1 : n < m
        · have d1 : decide (n < m) = true := by simpa using c1
          have H2 := Lib.hid (H.out.trans (by rw [if_pos c1]))
          clear c1
          go_wp2_with fail
          go_ret2
          exact ⟨BEm.of H2.out, below_grownBy (hloc1.next (grownBy_drew _ none) (fun _ h => by cases h)).grown⟩
        · have d1 : decide (n < m) = false := by simpa using c1
          by_cases c2 : n = m
          · have d2 : (n == m) = true := by simpa using c2
            have H2 := Lib.hid (H.out.trans (by rw [if_neg c1, if_pos c2]))
            clear c1 c2
            go_wp2_with (go_at_call 148; refine (prog_strict _ _).mono ?_; rintro e w2 ⟨rfl, rfl⟩)
            go_ret2
            exact ⟨BEm.of H2.out, below_grownBy (hloc1.next (grownBy_drew _ none) (fun _ h => by cases h)).grown⟩
          · have d2 : (n == m) = false := by simpa using c2
            have H2 := Lib.hid (H.out.trans (by rw [if_neg c1, if_neg c2]))
            clear c1 c2
            go_wp2_with fail
            go_ret2
            exact ⟨BEm.of H2.out, below_grownBy (hloc1.next (grownBy_drew _ none) (fun _ h => by cases h)).grown⟩
end Go.Proofs.Ytkgaipcgdldfdaa
namespace Go.Proofs.Ytkgaipcgdldfdaa
open Go.RowKit
set_option linter.unusedVariables false

theorem mkR_i64 (n d : Int) : I64 (mkR n d).1.1 := by
  unfold mkR I64
  split
  · simp
  · split
    · simp
    · rename_i h1 h2
      simp only
      generalize n.natAbs / Nat.gcd n.natAbs d.natAbs = q at *
      split <;> omega
theorem sbR_i64 (a b c d : Int) : I64 (sbR a b c d).1.1 := by
  unfold sbR
  split
  · exact mkR_i64 _ _
  · unfold I64; simp
/-- The difference of two clocks of a point. -/
def df (Q : List (Int × Int)) (i j : Nat) : (Int × Int) × Int := sbR (gq Q i).1 (gq Q i).2 (gq Q j).1 (gq Q j).2
/-- Does it meet the limit? -/
def pm (N : Nat) (xs : List Int) (Q : List (Int × Int)) (i j : Nat) : Bool := (meetR (df Q i j).1.1 (df Q i j).1.2 (gi xs (i * (N + 1) + j))).1
def SuRow (N : Nat) (xs : List Int) (Q : List (Int × Int)) (f i q : Nat) : Prop := ∀ j, f ≤ j → j < q → pm N xs Q i j = true
def SuTo (N : Nat) (xs : List Int) (Q : List (Int × Int)) (f q : Nat) : Prop := ∀ i, f ≤ i → i < q → SuRow N xs Q f i (N + 1)

set_option maxRecDepth 100000 in
set_option maxHeartbeats 8000000 in
theorem prog_suits (N f : Nat) (v qv : Value) (xs : List Int) (Q : List (Int × Int)) (w : World) (hv : RL w.heap.size w v xs) (hq : RQ w.heap.size w qv Q) (hx : xs.length = (N + 1) * (N + 1)) (hN : N ≤ 10) (hQ : Q.length = N + 1) (hbd : ∀ k, k ≤ N → I64 (gq Q k).1) (hf : f ≤ N + 1) :
    Calls Try.prog 82 #[qv, .agg #[.int .i64 N, v], .int .i64 f] w fun e w' => (∃ b, e = .returned (.bool b) ∧ (b = true ↔ SuTo N xs Q f (N + 1))) ∧ Below w.heap.size w w' := by
  obtain ⟨aoz, capz, rfl, hlez, h0z⟩ := hv.open
  obtain ⟨bz, oz, rfl, hbz, hcz⟩ := h0z (by rw [hx]; exact Nat.mul_pos (by omega) (by omega))
  obtain ⟨aq, capq, rfl, hleq, h0q⟩ := hq.open
  obtain ⟨bq, oq, rfl, hbq, hcq⟩ := h0q (by omega)
  have Hcz := Lib.hid hcz
  have Hcq := Lib.hid hcq
  have HBd := Lib.hid hbd
  have Hx := Lib.hid hx
  have HQ := Lib.hid hQ
  have hloc0 := Loc.one w (.cells #[.int .i64 N, .slice (some ⟨bz, oz, none⟩) xs.length capz] 24) none
  clear hv hq hx hcz hcq h0z h0q hbd hQ
  generalize hLz : xs.length = Lz at *
  generalize hLq : Q.length = Lq at *
  have hLq2 : Lq = N + 1 := HQ.out
  subst hLq2
  go_enter Try.func82, Try.ntmps82
  go_wp2_with fail
  go_loopw [7] (fun k wr => ∃ i : Nat, i ≤ N + 1 ∧ f ≤ i ∧ k = .int .i64 i ∧ SuTo N xs Q f i ∧ Loc w wr none [.cells #[.int .i64 N, .slice (some ⟨bz, oz, none⟩) Lz capz] 24]) (fun k _ => N + 1 - (intOf k).toNat)
  case atStart => exact ⟨f, hf, Nat.le_refl _, rfl, fun i h1 h2 => by omega, hloc0⟩
  case round =>
    clear hloc0
    obtain ⟨i, hi, hfi, rfl, hsu, hloc⟩ := hrel
    have Hsu := Lib.hid hsu
    clear hsu
    by_cases hil : i < N + 1
    · have hi1 : (i : Int) < (N : Int) + 1 := by omega
      go_wp2_with fail
      go_loopw [8] (fun k wr => ∃ j : Nat, j ≤ N + 1 ∧ f ≤ j ∧ k = .int .i64 j ∧ SuRow N xs Q f i j ∧ Loc w wr none [.cells #[.int .i64 N, .slice (some ⟨bz, oz, none⟩) Lz capz] 24]) (fun k _ => N + 1 - (intOf k).toNat)
      case atStart => exact ⟨f, hf, Nat.le_refl _, rfl, fun j h1 h2 => by omega, hloc⟩
      case round =>
        clear hloc
        obtain ⟨j, hj, hfj, rfl, hsr, hloc⟩ := hrel
        have Hsr := Lib.hid hsr
        clear hsr
        by_cases hjl : j < N + 1
        · have hj1 : (j : Int) < (N : Int) + 1 := by omega
          have hj0 : (0 : Int) ≤ (j : Int) := by omega
          have hi0 : (0 : Int) ≤ (i : Int) := by omega
          have z1 : wr.cell? ⟨w.heap.size, 1, none⟩ = some (.slice (some ⟨bz, oz, none⟩) Lz capz) := hloc.cell 0 rfl 1
          obtain ⟨a0, a1⟩ := Hcq.out i (by omega)
          obtain ⟨b0, b1⟩ := Hcq.out j (by omega)
          have p0 := ((bcell (below_grownBy hloc.grown)).1 _ _ hbq).trans a0
          have p1 := ((bcell (below_grownBy hloc.grown)).1 _ _ hbq).trans a1
          have r0 := ((bcell (below_grownBy hloc.grown)).1 _ _ hbq).trans b0
          have r1 := ((bcell (below_grownBy hloc.grown)).1 _ _ hbq).trans b1
          have m1 := ((bcell (below_grownBy hloc.grown)).1 _ _ hbz).trans (Hcz.out (i * (N + 1) + j) (by rw [Hx.out]; exact idx_lt N i j (by omega) (by omega)))
          have hbi := Lib.hid (HBd.out i (by omega))
          have hbj := Lib.hid (HBd.out j (by omega))
          have HP := Lib.hid (show pm N xs Q i j = (meetR (df Q i j).1.1 (df Q i j).1.2 (gi xs (i * (N + 1) + j))).1 from rfl)
          have HD := Lib.hid (show df Q i j = sbR (gq Q i).1 (gq Q i).2 (gq Q j).1 (gq Q j).2 from rfl)
          have HDi := Lib.hid (show I64 (df Q i j).1.1 from sbR_i64 _ _ _ _)
          clear a0 a1 b0 b1
          generalize df Q i j = D at *
          generalize gq Q i = c1 at *
          generalize gq Q j = c2 at *
          obtain ⟨pn, pd⟩ := c1
          obtain ⟨rn, rd⟩ := c2
          obtain ⟨⟨dn, dd⟩, de⟩ := D
          simp only at p0 p1 r0 r1 HP HD hbi hbj HDi
          have h1 := idx_bd N i hN (by omega)
          have hn1 := idx_nat N i j
          have hL1 : (i : Int) * ((N : Int) + 1) + (j : Int) < Lz := by
            have e : ((i * (N + 1) + j : Nat) : Int) = (i : Int) * ((N : Int) + 1) + j := by push_cast; rfl
            have := idx_lt N i j (by omega) (by omega); rw [← Hx.out] at this; omega
          have hz1 : (0 : Int) ≤ (i : Int) * ((N : Int) + 1) + (j : Int) := by omega
          have hw1 : IntKind.i64.wrap ((i : Int) * ((N : Int) + 1)) = (i : Int) * ((N : Int) + 1) := IntWalk.i64_in _ (by omega)
          have hw2 : IntKind.i64.wrap ((i : Int) * ((N : Int) + 1) + (j : Int)) = (i : Int) * ((N : Int) + 1) + (j : Int) := IntWalk.i64_in _ (by omega)
          have hwr : w.heap.size + 1 ≤ wr.heap.size := hloc.size
          have bA : Below wr.heap.size wr (wr.alloc (.cells #[.int .i64 0, .int .i64 0] 48)) := (Below.refl _ _).alloc (Nat.le_refl _) _
          have n1 : ¬ bq = wr.heap.size := by omega
          have n2 : ¬ wr.heap.size = bq := by omega
          go_upto_region 7 with fail
          go_region_held3 (fun w' => w'.cell? ⟨bq, oq + i * 2, none⟩ = some (.int .i64 pn) ∧ w'.cell? ⟨bq, oq + i * 2 + 1, none⟩ = some (.int .i64 pd) ∧ w'.cell? ⟨bq, oq + j * 2, none⟩ = some (.int .i64 rn) ∧ w'.cell? ⟨bq, oq + j * 2 + 1, none⟩ = some (.int .i64 rd))
            (first | exact ⟨by assumption, by assumption, by assumption, by assumption⟩ | go_keep)
            (first
              | (go_at_call 129; refine (pr_sub pn pd rn rd _ hbi.out hbj.out).mono ?_; rw [← HD.out]; rintro e w8 ⟨rfl, hb8⟩; have q0 := keepb (show wr.drew.cell? _ = _ from p0) hb8; have q1 := keepb (show wr.drew.cell? _ = _ from p1) hb8; have q2 := keepb (show wr.drew.cell? _ = _ from r0) hb8; have q3 := keepb (show wr.drew.cell? _ = _ from r1) hb8)
              | (go_at_call 129; refine (pr_sub pn pd rn rd _ hbi.out hbj.out).mono ?_; rw [← HD.out]; rintro e w8 ⟨rfl, hb8⟩; have q0 := keepb (show (wr.alloc (.cells #[.int .i64 0, .int .i64 0] 48)).drew.cell? _ = _ from keepb p0 bA.drew) hb8; have q1 := keepb (show (wr.alloc (.cells #[.int .i64 0, .int .i64 0] 48)).drew.cell? _ = _ from keepb p1 bA.drew) hb8; have q2 := keepb (show (wr.alloc (.cells #[.int .i64 0, .int .i64 0] 48)).drew.cell? _ = _ from keepb r0 bA.drew) hb8; have q3 := keepb (show (wr.alloc (.cells #[.int .i64 0, .int .i64 0] 48)).drew.cell? _ = _ from keepb r1 bA.drew) hb8; have hk := (hb8.block wr.heap.size (by simp)).trans (show (wr.alloc (.cells #[.int .i64 0, .int .i64 0] 48)).drew.heap[wr.heap.size]? = _ from heap_alloc_new wr _); have s0 := cell_of_row _ wr.heap.size 0 _ _ _ hk; have s1 := cell_of_row _ wr.heap.size 1 _ _ _ hk; have f0 := frozen_of_row _ wr.heap.size 0 _ _ hk; have f1 := frozen_of_row _ wr.heap.size 1 _ _ hk))
          · have hbW : Below wr.heap.size wr (w8.alloc (.cells #[.int .i64 dn, .int .i64 dd] 48)) := (((Below.refl wr.heap.size wr).drew).trans hb8).alloc hb8.size _
            have hdW := heap_alloc_new w8 (.cells #[.int .i64 dn, .int .i64 dd] 48)
            generalize hBB : w8.heap.size = B at *
            generalize hWW : w8.alloc (.cells #[.int .i64 dn, .int .i64 dd] 48) = W at *
            clear hWW hBB
            have hlocW := hloc.next (grownBy_below hbW none) (fun _ h => by cases h)
            have z1' : W.cell? ⟨w.heap.size, 1, none⟩ = some (.slice (some ⟨bz, oz, none⟩) Lz capz) := hlocW.cell 0 rfl 1
            have m1' := keepb m1 hbW
            have d0 := cell_of_row _ B 0 _ _ _ hdW
            have d1 := cell_of_row _ B 1 _ _ _ hdW
            clear z1 m1 p0 p1 r0 r1 q0 q1 q2 q3 hb8 hbW hdW hloc bA n1 n2
            generalize hM : meetR dn dd (gi xs (i * (N + 1) + j)) = M at *
            obtain ⟨b, y⟩ := M
            have HM := Lib.hid hM
            clear hM
            simp only at HP
            cases b
            · go_wp2_with fail
              go_region_held3 (fun w' => w'.cell? ⟨B, 0, none⟩ = some (.int .i64 dn) ∧ w'.cell? ⟨B, 1, none⟩ = some (.int .i64 dd) ∧ w'.cell? ⟨w.heap.size, 1, none⟩ = some (.slice (some ⟨bz, oz, none⟩) Lz capz) ∧ w'.cell? ⟨bz, oz + (i * (N + 1) + j), none⟩ = some (.int .i64 (gi xs (i * (N + 1) + j))))
                (first | exact ⟨by assumption, by assumption, by assumption, by assumption⟩ | go_keep)
                (first
                  | (go_at_call 130; refine (pr_meets dn dd _ _ HDi.out).mono ?_; rw [HM.out]; rintro e w9 ⟨rfl, hb9⟩; have k0 := keepb (show W.drew.cell? _ = _ from d0) hb9; have k1 := keepb (show W.drew.cell? _ = _ from d1) hb9; have k2 := keepb (show W.drew.cell? _ = _ from z1') hb9; have k3 := keepb (show W.drew.cell? _ = _ from m1') hb9))
              go_wp2_with fail
              go_ret
              refine ⟨⟨false, rfl, ?_⟩, below_grownBy (hlocW.next (grownBy_trans (grownBy_drew _ none) (grownBy_below hb9 none)) (fun _ h => by cases h)).grown⟩
              constructor
              · intro h; cases h
              · intro h
                have := h i hfi hil j hfj hjl
                rw [HP.out] at this
                exact this
            · go_wp2_with fail
              go_region_held3 (fun w' => w'.cell? ⟨B, 0, none⟩ = some (.int .i64 dn) ∧ w'.cell? ⟨B, 1, none⟩ = some (.int .i64 dd) ∧ w'.cell? ⟨w.heap.size, 1, none⟩ = some (.slice (some ⟨bz, oz, none⟩) Lz capz) ∧ w'.cell? ⟨bz, oz + (i * (N + 1) + j), none⟩ = some (.int .i64 (gi xs (i * (N + 1) + j))))
                (first | exact ⟨by assumption, by assumption, by assumption, by assumption⟩ | go_keep)
                (first
                  | (go_at_call 130; refine (pr_meets dn dd _ _ HDi.out).mono ?_; rw [HM.out]; rintro e w9 ⟨rfl, hb9⟩; have k0 := keepb (show W.drew.cell? _ = _ from d0) hb9; have k1 := keepb (show W.drew.cell? _ = _ from d1) hb9; have k2 := keepb (show W.drew.cell? _ = _ from z1') hb9; have k3 := keepb (show W.drew.cell? _ = _ from m1') hb9))
              go_wp2_with fail
              have hloc9 := hlocW.next (grownBy_trans (grownBy_drew _ none) (grownBy_below hb9 none)) (fun _ h => by cases h)
              go_roundw
              case rel => exact ⟨j + 1, by omega, by omega, by go_num, fun j' h1 h2 => by
                rcases Nat.lt_or_ge j' j with c | c
                · exact Hsr.out j' h1 c
                · rw [show j' = j by omega]; exact HP.out, hloc9⟩
              case measure => simp [intOf]; omega
          · have hbW : Below wr.heap.size wr ((w8.setCell ⟨wr.heap.size, 0, none⟩ (.int .i64 dn)).setCell ⟨wr.heap.size, 1, none⟩ (.int .i64 dd)) := ((bA.drew.trans (hb8.mono (by simp))).setCell (Nat.le_refl _) _).setCell (Nat.le_refl _) _
            have hdW : ((w8.setCell ⟨wr.heap.size, 0, none⟩ (.int .i64 dn)).setCell ⟨wr.heap.size, 1, none⟩ (.int .i64 dd)).heap[wr.heap.size]? = some (.cells #[.int .i64 dn, .int .i64 dd] 48 (0, 0)) := heap_setCell_same _ _ 1 _ _ _ (heap_setCell_same _ _ 0 _ _ _ hk)
            generalize hWW : (w8.setCell ⟨wr.heap.size, 0, none⟩ (.int .i64 dn)).setCell ⟨wr.heap.size, 1, none⟩ (.int .i64 dd) = W at *
            generalize hBB : (wr.heap.size : Nat) = B at hdW ⊢
            clear hWW hk s0 s1 f0 f1
            have hlocW := hloc.next (grownBy_below hbW none) (fun _ h => by cases h)
            have z1' : W.cell? ⟨w.heap.size, 1, none⟩ = some (.slice (some ⟨bz, oz, none⟩) Lz capz) := hlocW.cell 0 rfl 1
            have m1' := keepb m1 hbW
            have d0 := cell_of_row _ B 0 _ _ _ hdW
            have d1 := cell_of_row _ B 1 _ _ _ hdW
            clear z1 m1 p0 p1 r0 r1 q0 q1 q2 q3 hb8 hbW hdW hloc bA n1 n2
            generalize hM : meetR dn dd (gi xs (i * (N + 1) + j)) = M at *
            obtain ⟨b, y⟩ := M
            have HM := Lib.hid hM
            clear hM
            simp only at HP
            cases b
            · go_wp2_with fail
              go_region_held3 (fun w' => w'.cell? ⟨B, 0, none⟩ = some (.int .i64 dn) ∧ w'.cell? ⟨B, 1, none⟩ = some (.int .i64 dd) ∧ w'.cell? ⟨w.heap.size, 1, none⟩ = some (.slice (some ⟨bz, oz, none⟩) Lz capz) ∧ w'.cell? ⟨bz, oz + (i * (N + 1) + j), none⟩ = some (.int .i64 (gi xs (i * (N + 1) + j))))
                (first | exact ⟨by assumption, by assumption, by assumption, by assumption⟩ | go_keep)
                (first
                  | (go_at_call 130; refine (pr_meets dn dd _ _ HDi.out).mono ?_; rw [HM.out]; rintro e w9 ⟨rfl, hb9⟩; have k0 := keepb (show W.drew.cell? _ = _ from d0) hb9; have k1 := keepb (show W.drew.cell? _ = _ from d1) hb9; have k2 := keepb (show W.drew.cell? _ = _ from z1') hb9; have k3 := keepb (show W.drew.cell? _ = _ from m1') hb9))
              go_wp2_with fail
              go_ret
              refine ⟨⟨false, rfl, ?_⟩, below_grownBy (hlocW.next (grownBy_trans (grownBy_drew _ none) (grownBy_below hb9 none)) (fun _ h => by cases h)).grown⟩
              constructor
              · intro h; cases h
              · intro h
                have := h i hfi hil j hfj hjl
                rw [HP.out] at this
                exact this
            · go_wp2_with fail
              go_region_held3 (fun w' => w'.cell? ⟨B, 0, none⟩ = some (.int .i64 dn) ∧ w'.cell? ⟨B, 1, none⟩ = some (.int .i64 dd) ∧ w'.cell? ⟨w.heap.size, 1, none⟩ = some (.slice (some ⟨bz, oz, none⟩) Lz capz) ∧ w'.cell? ⟨bz, oz + (i * (N + 1) + j), none⟩ = some (.int .i64 (gi xs (i * (N + 1) + j))))
                (first | exact ⟨by assumption, by assumption, by assumption, by assumption⟩ | go_keep)
                (first
                  | (go_at_call 130; refine (pr_meets dn dd _ _ HDi.out).mono ?_; rw [HM.out]; rintro e w9 ⟨rfl, hb9⟩; have k0 := keepb (show W.drew.cell? _ = _ from d0) hb9; have k1 := keepb (show W.drew.cell? _ = _ from d1) hb9; have k2 := keepb (show W.drew.cell? _ = _ from z1') hb9; have k3 := keepb (show W.drew.cell? _ = _ from m1') hb9))
              go_wp2_with fail
              have hloc9 := hlocW.next (grownBy_trans (grownBy_drew _ none) (grownBy_below hb9 none)) (fun _ h => by cases h)
              go_roundw
              case rel => exact ⟨j + 1, by omega, by omega, by go_num, fun j' h1 h2 => by
                rcases Nat.lt_or_ge j' j with c | c
                · exact Hsr.out j' h1 c
                · rw [show j' = j by omega]; exact HP.out, hloc9⟩
              case measure => simp [intOf]; omega
        · have htj : decide ((j : Int) < (N : Int) + 1) = false := by simp; omega
          obtain rfl : j = N + 1 := by omega
          go_wp2_with fail
          go_roundw
          case rel => exact ⟨i + 1, by omega, by omega, by go_num, fun i' h1 h2 => by
            rcases Nat.lt_or_ge i' i with c | c
            · exact Hsu.out i' h1 c
            · rw [show i' = i by omega]; exact Hsr.out, hloc⟩
          case measure => simp [intOf]; omega
    · have hti : decide ((i : Int) < (N : Int) + 1) = false := by simp; omega
      obtain rfl : i = N + 1 := by omega
      go_wp2_with fail
      go_ret
      exact ⟨⟨true, rfl, fun _ => Hsu.out, fun _ => rfl⟩, below_grownBy hloc.grown⟩
end Go.Proofs.Ytkgaipcgdldfdaa
namespace Go.Proofs.Ytkgaipcgdldfdaa
open Go.RowKit
set_option linter.unusedVariables false

theorem addR_i64 (a b c d : Int) : I64 (addR a b c d).1.1 := by
  unfold addR
  split
  · exact mkR_i64 _ _
  · unfold I64; simp
theorem cutF_i64 {s : Sp} (xn xd l : Int) (ab : Bool) (h : I64 s.ln ∧ I64 s.hn) : I64 (cutF s xn xd l ab).ln ∧ I64 (cutF s xn xd l ab).hn := by
  have hy : I64 (cutY xn xd l ab).1.1 := addR_i64 _ _ _ _
  unfold cutF
  repeat' split
  all_goals first | exact h | exact ⟨hy, h.2⟩ | exact ⟨h.1, hy⟩
/-- What the clocks 1 .. i cut off of the delays. -/
def stayTo (N : Nat) (xs : List Int) (Q : List (Int × Int)) : Nat → Sp
  | 0 => sp0
  | i + 1 => cutF (cutF (stayTo N xs Q i) (-(gq Q (i + 1)).1) (gq Q (i + 1)).2 (ent N xs (i + 1) 0) false) (-(gq Q (i + 1)).1) (gq Q (i + 1)).2 (ent N xs 0 (i + 1)) true
theorem stayTo_i64 (N : Nat) (xs : List Int) (Q : List (Int × Int)) (i : Nat) : I64 (stayTo N xs Q i).ln ∧ I64 (stayTo N xs Q i).hn := by
  induction i with
  | zero => unfold stayTo sp0 I64; simp
  | succ i ih => exact cutF_i64 _ _ _ _ (cutF_i64 _ _ _ _ ih)
/-- Is there a delay in an interval? -/
def SpOk (s : Sp) : Prop := s.wd = false ∧ (s.nh = true ∨ (cmR s.ln s.ld s.hn s.hd).1 = -1 ∨ ((cmR s.ln s.ld s.hn s.hd).1 = 0 ∧ s.lo = false ∧ s.ho = false))
def Sp.delays (s : Sp) : Value := .agg #[.int .i64 s.ln, .int .i64 s.ld, .int .i64 s.hn, .int .i64 s.hd, .bool s.lo, .bool s.ho, .bool s.nh]

set_option maxRecDepth 100000 in
set_option maxHeartbeats 8000000 in
theorem prog_stay (N : Nat) (v pv : Value) (xs : List Int) (ps : List (Int × Int)) (w : World) (hv : RL w.heap.size w v xs) (hp : RQ w.heap.size w pv ps) (hok : OkZ N xs) (hps : PtOk N ps)
    (hsu : SuTo N xs ((0, 1) :: ps) 1 (N + 1)) (hsp : SpOk (stayTo N xs ((0, 1) :: ps) N)) :
    Calls Try.prog 34 #[.agg #[.int .i64 N, v], pv] w fun e w' => e = .returned (.tuple #[(stayTo N xs ((0, 1) :: ps) N).delays, .int .i64 0]) ∧ Below w.heap.size w w' := by
  have hN : N ≤ 10 := by have := hok.hi; omega
  have Hx := Lib.hid (show xs.length = (N + 1) * (N + 1) by have := hok.len; rwa [Int.toNat_natCast] at this)
  obtain ⟨aoz, capz, rfl, hlez, h0z⟩ := hv.open
  obtain ⟨bz, oz, rfl, hbz, hcz⟩ := h0z (by rw [Hx.out]; exact Nat.mul_pos (by omega) (by omega))
  obtain ⟨aop, capp, rfl, hlep, _⟩ := hp.open
  have Hcz := Lib.hid hcz
  have hloc0 := Loc.two w (.cells #[.int .i64 N, .slice (some ⟨bz, oz, none⟩) xs.length capz] 24) (.cells #[.int .i64 0, .int .i64 0, .int .i64 0, .int .i64 0, .bool false, .bool false, .bool false] 50) none
  have Hok := Lib.hid hok
  have Hps := Lib.hid hps
  have Hsu := Lib.hid hsu
  have Hsp := Lib.hid hsp
  have hQl : ((0, 1) :: ps : List (Int × Int)).length = N + 1 := by rw [List.length_cons, hps.len]
  have Hv := Lib.hid hv
  have Hp := Lib.hid hp
  clear hv hp hok hps hsu hsp h0z hcz
  have hbd := Hps.out.bd
  have hval := Hps.out.val
  have Hat := Lib.hid (fun w1 (hb : Below w.heap.size w w1) => prog_pat N _ _ xs ps w1 (Hv.out.keepb hb) (Hp.out.keepb hb) Hok.out Hps.out)
  generalize hQ : ((0, 1) :: ps : List (Int × Int)) = Q at *
  have HBd := Lib.hid hbd
  have HVal := Lib.hid hval
  have HQl := Lib.hid hQl
  clear hbd hval hQ Hps hQl
  go_enter Try.func34, Try.ntmps34
  go_wp2_with fail
  refine (Hat.out _ (below_grownBy hloc0.grown)).mono ?_
  rintro e w1 ⟨⟨qv, rfl, hown⟩, hb1⟩
  have e2 : ((w.alloc (.cells #[.int .i64 N, .slice (some ⟨bz, oz, none⟩) xs.length capz] 24)).alloc (.cells #[.int .i64 0, .int .i64 0, .int .i64 0, .int .i64 0, .bool false, .bool false, .bool false] 50)).heap.size = w.heap.size + 2 := by simp
  rw [e2] at hown
  have hloc1 := hloc0.next (grownBy_below hb1 none) (fun _ h => by cases h)
  clear hb1 hloc0 Hat e2
  have HLz := Lib.hid (show RL w1.heap.size w1 (.slice (some ⟨bz, oz, none⟩) xs.length capz) xs from Hv.out.keepb (below_grownBy hloc1.grown))
  generalize hLz : xs.length = Lz at *
  have ho := hown
  unfold OQ at ho
  rw [HQl.out] at ho
  obtain ⟨g, cap, rfl, hgb, hgs, hgc, hgm⟩ := own_form ho (by omega)
  clear ho
  go_wp2_with (go_at_call 86; refine (prog_span _).mono ?_; rintro e wa ⟨rfl, rfl⟩)
  have hS0 := heap_alloc_new w1 (.cells sp0.cs 101)
  have hloc2 := hloc1.next (World.grownBy_alloc w1 (.cells sp0.cs 101) none) (fun _ h => by cases h)
  have hown2 : OQ 48 (w.heap.size + 2) (w1.alloc (.cells sp0.cs 101)) _ Q := World.ownsRow.alloc hown _
  have hgsb : g ≠ w1.heap.size := by omega
  have hwsb : w.heap.size + 2 ≤ w1.heap.size := hloc1.size
  generalize hSB : w1.heap.size = sb at *
  generalize w1.alloc (.cells sp0.cs 101) = wr1 at *
  clear hown hloc1
  go_loopw [9] (fun k wr => ∃ i : Nat, i ≤ N ∧ k = .int .i64 ((i : Int) + 1) ∧ wr.heap[sb]? = some (.cells (stayTo N xs Q i).cs 101 (0, 0)) ∧ OQ 48 (w.heap.size + 2) wr (.slice (some ⟨g, 0, none⟩) (N + 1) cap) Q ∧ Loc w wr none [.cells #[.int .i64 N, .slice (some ⟨bz, oz, none⟩) Lz capz] 24, .cells #[.int .i64 0, .int .i64 0, .int .i64 0, .int .i64 0, .bool false, .bool false, .bool false] 50]) (fun k _ => N + 1 - (intOf k).toNat)
  case atStart => exact ⟨0, by omega, rfl, hS0, hown2, hloc2⟩
  case round =>
    clear hS0 hown2 hloc2
    obtain ⟨i, hi, rfl, hS, hown, hloc⟩ := hrel
    have Hown := Lib.hid hown
    have z1 : wr.cell? ⟨w.heap.size, 1, none⟩ = some (.slice (some ⟨bz, oz, none⟩) Lz capz) := hloc.cell 0 rfl 1
    have hsz2 : sb < wr.heap.size := (Array.getElem?_eq_some_iff.1 hS).1
    by_cases hil : i < N
    · have hi1 : (i : Int) + 1 < (N : Int) + 1 := by omega
      have hi0 : (0 : Int) ≤ (i : Int) + 1 := by omega
      have hit : ((i : Int) + 1).toNat = i + 1 := by omega
      have hq2 := OQ.at hown (j := i + 1) (by have := HQl.out; omega)
      obtain ⟨q0, q1⟩ := hq2
      have HS2 := Lib.hid (show stayTo N xs Q (i + 1) = cutF (cutF (stayTo N xs Q i) (-(gq Q (i + 1)).1) (gq Q (i + 1)).2 (ent N xs (i + 1) 0) false) (-(gq Q (i + 1)).1) (gq Q (i + 1)).2 (ent N xs 0 (i + 1)) true from rfl)
      have I1 := stayTo_i64 N xs Q i
      have I5 := HBd.out (i + 1) (by omega)
      have hvl := (HVal.out (i + 1) (by omega)).1
      generalize gq Q (i + 1) = p at *
      obtain ⟨pn, pd⟩ := p
      simp only at q0 q1 HS2 I5 hvl
      have hng : ngR pn pd = ((-pn, pd), 0) := by unfold ngR; rw [if_pos hvl]
      have I6 : I64 (-pn) := by have := vr_bd hvl; unfold I64; omega
      have I3 := cutF_i64 (-pn) pd (ent N xs (i + 1) 0) false I1
      have k1 : (i + 1) * (N + 1) + 0 < Lz := by rw [Hx.out]; exact idx_lt N (i + 1) 0 (by omega) (by omega)
      have k2 : 0 * (N + 1) + (i + 1) < Lz := by rw [Hx.out]; exact idx_lt N 0 (i + 1) (by omega) (by omega)
      have m1 := ((bcell (below_grownBy hloc.grown)).1 _ _ hbz).trans (Hcz.out ((i + 1) * (N + 1) + 0) k1)
      have m2 := ((bcell (below_grownBy hloc.grown)).1 _ _ hbz).trans (Hcz.out (0 * (N + 1) + (i + 1)) k2)
      have e1 : ent N xs (i + 1) 0 = gi xs ((i + 1) * (N + 1) + 0) := rfl
      have e2 : ent N xs 0 (i + 1) = gi xs (0 * (N + 1) + (i + 1)) := rfl
      have hwsb2 : w.heap.size ≠ sb := by omega
      have hbz2 : bz ≠ sb := by omega
      have h1 := idx_bd N (i + 1) hN (by omega)
      have hn1 : (((i + 1) * (N + 1) : Nat) : Int) = ((i : Int) + 1) * ((N : Int) + 1) := by push_cast; rfl
      have hL1 : ((i : Int) + 1) * ((N : Int) + 1) < Lz := by omega
      have hL2 : (i : Int) + 1 < Lz := by omega
      have hz1 : (0 : Int) ≤ ((i : Int) + 1) * ((N : Int) + 1) := by omega
      have hnt : (((i : Int) + 1) * ((N : Int) + 1)).toNat = (i + 1) * (N + 1) := by omega
      have hw1 : IntKind.i64.wrap (((i : Int) + 1) * ((N : Int) + 1)) = ((i : Int) + 1) * ((N : Int) + 1) := IntWalk.i64_in _ (by push_cast at h1; omega)
      simp only [Nat.zero_mul, Nat.zero_add, Nat.add_zero] at m1 m2 e1 e2
      rw [e1, e2] at HS2
      rw [e1] at I3
      clear e1 e2 k1 k2 h1 hn1 hown
      go_wp2_with (go_at_call 87; refine (pr_neg pn pd _ I5).mono ?_; rw [hng]; rintro e w5 ⟨rfl, hb5⟩)
      have bA : Below wr.heap.size wr (w5.alloc (.cells #[.int .i64 (-pn), .int .i64 pd] 48)) := hb5.alloc hb5.size _
      have hxb := heap_alloc_new w5 (.cells #[.int .i64 (-pn), .int .i64 pd] 48)
      have x0 := cell_of_row _ w5.heap.size 0 _ _ _ hxb
      have x1 := cell_of_row _ w5.heap.size 1 _ _ _ hxb
      have z1' := keepb z1 bA
      have m1' := keepb m1 bA
      have m2' := keepb m2 bA
      have hS' := (bA.block sb hsz2).trans hS
      have hxsb : w5.heap.size ≠ sb := by have := hb5.size; omega
      have hGA : wr.grownBy (w5.alloc (.cells #[.int .i64 (-pn), .int .i64 pd] 48)) (some sb) := grownBy_below bA _
      clear z1 m1 m2 hS q0 q1 hxb bA hb5
      generalize hXB : w5.heap.size = xb at *
      generalize hV : w5.alloc (.cells #[.int .i64 (-pn), .int .i64 pd] 48) = V at *
      clear hV hXB
      go_region_held3 (fun w' => w'.cell? ⟨w.heap.size, 1, none⟩ = some (.slice (some ⟨bz, oz, none⟩) Lz capz) ∧ w'.cell? ⟨xb, 0, none⟩ = some (.int .i64 (-pn)) ∧ w'.cell? ⟨xb, 1, none⟩ = some (.int .i64 pd) ∧ w'.cell? ⟨bz, oz + (i + 1) * (N + 1), none⟩ = some (.int .i64 (gi xs ((i + 1) * (N + 1)))))
        (first | exact ⟨by assumption, by assumption, by assumption, by assumption⟩ | go_keep)
        (first
          | (go_at_call 88; refine (prog_cut sb _ (-pn) pd _ false _ I6 I1.1 I1.2 (show V.drew.heap[sb]? = _ from hS')).mono ?_; rintro e w6 ⟨rfl, hS5, hg5⟩; have p1 := keepg (show V.drew.cell? _ = _ from z1') hg5 hwsb2; have p2 := keepg (show V.drew.cell? _ = _ from x0) hg5 hxsb; have p3 := keepg (show V.drew.cell? _ = _ from x1) hg5 hxsb; have p4 := keepg (show V.drew.cell? _ = _ from m1') hg5 hbz2))
      have p5 := keepg (show V.drew.cell? _ = _ from m2') hg5 hbz2
      have hG5 : wr.grownBy w6 (some sb) := grownBy_trans hGA (grownBy_trans (grownBy_drew _ _) hg5)
      clear z1' x0 x1 m1' m2' hS' hGA hg5 p4
      go_wp2_with fail
      go_region_held3 (fun w' => w'.cell? ⟨w.heap.size, 1, none⟩ = some (.slice (some ⟨bz, oz, none⟩) Lz capz) ∧ w'.cell? ⟨xb, 0, none⟩ = some (.int .i64 (-pn)) ∧ w'.cell? ⟨xb, 1, none⟩ = some (.int .i64 pd) ∧ w'.cell? ⟨bz, oz + (i + 1), none⟩ = some (.int .i64 (gi xs (i + 1))))
        (first | exact ⟨by assumption, by assumption, by assumption, by assumption⟩ | go_keep)
        (first
          | (go_at_call 88; refine (prog_cut sb _ (-pn) pd _ true _ I6 I3.1 I3.2 (show w6.drew.heap[sb]? = _ from hS5)).mono ?_; rintro e w7 ⟨rfl, hS6, hg6⟩; have r1 := keepg (show w6.drew.cell? _ = _ from p1) hg6 hwsb2; have r2 := keepg (show w6.drew.cell? _ = _ from p2) hg6 hxsb; have r3 := keepg (show w6.drew.cell? _ = _ from p3) hg6 hxsb; have r4 := keepg (show w6.drew.cell? _ = _ from p5) hg6 hbz2))
      have hG6 : wr.grownBy w7 (some sb) := grownBy_trans hG5 (grownBy_trans (grownBy_drew _ _) hg6)
      go_wp2_with fail
      go_roundw
      case rel => exact ⟨i + 1, by omega, by go_num, by rw [HS2.out]; exact hS6, World.ownsRow.kept Hown.out hG6 (.inr (by intro e; exact hgsb (Option.some.inj e))), hloc.anyrow hG6 (fun g' e => by cases e; show w.heap.size + 2 ≤ sb; omega)⟩
      case measure => simp [intOf]; omega
    · obtain rfl : i = N := by omega
      have hil' : ¬ ((i : Int) + 1 < (i : Int) + 1) := by omega
      have hrq : RQ wr.heap.size wr (.slice (some ⟨g, 0, none⟩) (i + 1) cap) Q := hown.rq
      have hzz : RL wr.heap.size wr (.slice (some ⟨bz, oz, none⟩) Lz capz) xs := Hv.out.keepb (below_grownBy hloc.grown)
      have z0 : wr.cell? ⟨w.heap.size, 0, none⟩ = some (.int .i64 i) := hloc.cell 0 rfl 0
      have hsu := Lib.hid (fun w' (hb : Below wr.heap.size wr w') => prog_suits i 1 _ _ xs Q w' (hzz.keepb hb) (hrq.keepb hb) (by rw [hLz]; exact Hx.out) hN HQl.out HBd.out (by omega))
      obtain ⟨P1, P2⟩ := Hsp.out
      generalize hSF : stayTo i xs Q i = S at *
      have HSF := Lib.hid hSF
      clear hSF hown hrq hzz
      obtain ⟨ln, ld, hn, hd, lo, ho, nh, wd⟩ := S
      simp only at P1 P2
      subst P1
      have s7 : wr.cell? ⟨sb, 7, none⟩ = some (.bool false) := cell_of_row _ sb 7 _ _ _ hS
      go_wp2_with fail
      refine (hsu.out wr (Below.refl _ _)).mono ?_
      rintro e w6 ⟨⟨b, rfl, hb⟩, hb6⟩
      obtain rfl := hb.2 Hsu.out
      have hsb6 : sb < wr.heap.size := (Array.getElem?_eq_some_iff.1 hS).1
      have hS6 := (hb6.block sb hsb6).trans hS
      have hloc6 := hloc.next (grownBy_below hb6 none) (fun _ h => by cases h)
      clear hb hb6 hS hloc s7 z0 hsb6
      have hb6 := below_grownBy hloc6.grown
      have s0 : w6.cell? ⟨sb, 0, none⟩ = some (.int .i64 ln) := cell_of_row _ sb 0 _ _ _ hS6
      have s1 : w6.cell? ⟨sb, 1, none⟩ = some (.int .i64 ld) := cell_of_row _ sb 1 _ _ _ hS6
      have s2 : w6.cell? ⟨sb, 2, none⟩ = some (.int .i64 hn) := cell_of_row _ sb 2 _ _ _ hS6
      have s3 : w6.cell? ⟨sb, 3, none⟩ = some (.int .i64 hd) := cell_of_row _ sb 3 _ _ _ hS6
      have s4 : w6.cell? ⟨sb, 4, none⟩ = some (.bool lo) := cell_of_row _ sb 4 _ _ _ hS6
      have s5 : w6.cell? ⟨sb, 5, none⟩ = some (.bool ho) := cell_of_row _ sb 5 _ _ _ hS6
      have s6 : w6.cell? ⟨sb, 6, none⟩ = some (.bool nh) := cell_of_row _ sb 6 _ _ _ hS6
      have hR := hloc6.objs 1 (by simp)
      have t0 : w6.cell? ⟨w.heap.size + 1, 0, none⟩ = some (.int .i64 0) := hloc6.cell 1 rfl 0
      have f0 : w6.frozen? ⟨w.heap.size + 1, 0, none⟩ = false := hloc6.free 1 rfl 0
      have t1 : w6.cell? ⟨w.heap.size + 1, 1, none⟩ = some (.int .i64 0) := hloc6.cell 1 rfl 1
      have f1 : w6.frozen? ⟨w.heap.size + 1, 1, none⟩ = false := hloc6.free 1 rfl 1
      have t2 : w6.cell? ⟨w.heap.size + 1, 2, none⟩ = some (.int .i64 0) := hloc6.cell 1 rfl 2
      have f2 : w6.frozen? ⟨w.heap.size + 1, 2, none⟩ = false := hloc6.free 1 rfl 2
      have t3 : w6.cell? ⟨w.heap.size + 1, 3, none⟩ = some (.int .i64 0) := hloc6.cell 1 rfl 3
      have f3 : w6.frozen? ⟨w.heap.size + 1, 3, none⟩ = false := hloc6.free 1 rfl 3
      have t4 : w6.cell? ⟨w.heap.size + 1, 4, none⟩ = some (.bool false) := hloc6.cell 1 rfl 4
      have f4 : w6.frozen? ⟨w.heap.size + 1, 4, none⟩ = false := hloc6.free 1 rfl 4
      have t5 : w6.cell? ⟨w.heap.size + 1, 5, none⟩ = some (.bool false) := hloc6.cell 1 rfl 5
      have f5 : w6.frozen? ⟨w.heap.size + 1, 5, none⟩ = false := hloc6.free 1 rfl 5
      have t6 : w6.cell? ⟨w.heap.size + 1, 6, none⟩ = some (.bool false) := hloc6.cell 1 rfl 6
      have f6 : w6.frozen? ⟨w.heap.size + 1, 6, none⟩ = false := hloc6.free 1 rfl 6
      clear hR
      cases nh
      rotate_left
      · go_wp2_with fail
        refine bodyPost_ret (v := .tuple #[(⟨ln, ld, hn, hd, lo, ho, true, false⟩ : Sp).delays, .int .i64 0]) (by simp [results, Try.results34, go_sem, Sp.delays, t0, t1, t2, t3, t4, t5, t6]) rfl ⟨by rw [HSF.out], ?_⟩
        exact (((((((hb6).setCell (Nat.le_add_right _ 1) _).setCell (Nat.le_add_right _ 1) _).setCell (Nat.le_add_right _ 1) _).setCell (Nat.le_add_right _ 1) _).setCell (Nat.le_add_right _ 1) _).setCell (Nat.le_add_right _ 1) _).setCell (Nat.le_add_right _ 1) _
      · have hnl : I64 ln := by have := stayTo_i64 i xs Q i; rw [HSF.out] at this; exact this.1
        have hnh : I64 hn := by have := stayTo_i64 i xs Q i; rw [HSF.out] at this; exact this.2
        go_wp2_with fail
        generalize hC : cmR ln ld hn hd = C at *
        obtain ⟨c, ce⟩ := C
        simp only at P2
        have HC := Lib.hid hC
        clear hC
        go_region_held3 (fun w' => w'.cell? ⟨sb, 0, none⟩ = some (.int .i64 ln) ∧ w'.cell? ⟨sb, 1, none⟩ = some (.int .i64 ld) ∧ w'.cell? ⟨sb, 2, none⟩ = some (.int .i64 hn) ∧ w'.cell? ⟨sb, 3, none⟩ = some (.int .i64 hd))
          (first | exact ⟨by assumption, by assumption, by assumption, by assumption⟩ | go_keep)
          (first
            | (go_at_call 89; refine (pr_cmp ln ld hn hd _ hnl hnh).mono ?_; rw [HC.out]; rintro e w7 ⟨rfl, hb7⟩; have q0 := keepb (show w6.drew.cell? _ = _ from s0) hb7; have q1 := keepb (show w6.drew.cell? _ = _ from s1) hb7; have q2 := keepb (show w6.drew.cell? _ = _ from s2) hb7; have q3 := keepb (show w6.drew.cell? _ = _ from s3) hb7))
        have hloc7 := hloc6.next (grownBy_trans (grownBy_drew w6 none) (grownBy_below hb7 none)) (fun _ h => by cases h)
        have hS7 := (hb7.block sb (show sb < w6.drew.heap.size from (Array.getElem?_eq_some_iff.1 hS6).1)).trans (show w6.drew.heap[sb]? = _ from hS6)
        clear hloc6 hS6 hb7 hb6 s0 s1 s2 s3 s4 s5 s6 q0 q1 q2 q3 t0 f0 t1 f1 t2 f2 t3 f3 t4 f4 t5 f5 t6 f6
        have hb6 := below_grownBy hloc7.grown
        have t0 : w7.cell? ⟨w.heap.size + 1, 0, none⟩ = some (.int .i64 0) := hloc7.cell 1 rfl 0
        have f0 : w7.frozen? ⟨w.heap.size + 1, 0, none⟩ = false := hloc7.free 1 rfl 0
        have t1 : w7.cell? ⟨w.heap.size + 1, 1, none⟩ = some (.int .i64 0) := hloc7.cell 1 rfl 1
        have f1 : w7.frozen? ⟨w.heap.size + 1, 1, none⟩ = false := hloc7.free 1 rfl 1
        have t2 : w7.cell? ⟨w.heap.size + 1, 2, none⟩ = some (.int .i64 0) := hloc7.cell 1 rfl 2
        have f2 : w7.frozen? ⟨w.heap.size + 1, 2, none⟩ = false := hloc7.free 1 rfl 2
        have t3 : w7.cell? ⟨w.heap.size + 1, 3, none⟩ = some (.int .i64 0) := hloc7.cell 1 rfl 3
        have f3 : w7.frozen? ⟨w.heap.size + 1, 3, none⟩ = false := hloc7.free 1 rfl 3
        have t4 : w7.cell? ⟨w.heap.size + 1, 4, none⟩ = some (.bool false) := hloc7.cell 1 rfl 4
        have f4 : w7.frozen? ⟨w.heap.size + 1, 4, none⟩ = false := hloc7.free 1 rfl 4
        have t5 : w7.cell? ⟨w.heap.size + 1, 5, none⟩ = some (.bool false) := hloc7.cell 1 rfl 5
        have f5 : w7.frozen? ⟨w.heap.size + 1, 5, none⟩ = false := hloc7.free 1 rfl 5
        have t6 : w7.cell? ⟨w.heap.size + 1, 6, none⟩ = some (.bool false) := hloc7.cell 1 rfl 6
        have f6 : w7.frozen? ⟨w.heap.size + 1, 6, none⟩ = false := hloc7.free 1 rfl 6
        have s0 : w7.cell? ⟨sb, 0, none⟩ = some (.int .i64 ln) := cell_of_row _ sb 0 _ _ _ hS7
        have s1 : w7.cell? ⟨sb, 1, none⟩ = some (.int .i64 ld) := cell_of_row _ sb 1 _ _ _ hS7
        have s2 : w7.cell? ⟨sb, 2, none⟩ = some (.int .i64 hn) := cell_of_row _ sb 2 _ _ _ hS7
        have s3 : w7.cell? ⟨sb, 3, none⟩ = some (.int .i64 hd) := cell_of_row _ sb 3 _ _ _ hS7
        have s4 : w7.cell? ⟨sb, 4, none⟩ = some (.bool lo) := cell_of_row _ sb 4 _ _ _ hS7
        have s5 : w7.cell? ⟨sb, 5, none⟩ = some (.bool ho) := cell_of_row _ sb 5 _ _ _ hS7
        have s6 : w7.cell? ⟨sb, 6, none⟩ = some (.bool false) := cell_of_row _ sb 6 _ _ _ hS7
        rcases P2 with h | h | ⟨h, h1, h2⟩
        · cases h
        · subst h
          go_wp2_with fail
          refine bodyPost_ret (v := .tuple #[(⟨ln, ld, hn, hd, lo, ho, false, false⟩ : Sp).delays, .int .i64 0]) (by simp [results, Try.results34, go_sem, Sp.delays, t0, t1, t2, t3, t4, t5, t6]) rfl ⟨by rw [HSF.out], ?_⟩
          exact (((((((hb6).setCell (Nat.le_add_right _ 1) _).setCell (Nat.le_add_right _ 1) _).setCell (Nat.le_add_right _ 1) _).setCell (Nat.le_add_right _ 1) _).setCell (Nat.le_add_right _ 1) _).setCell (Nat.le_add_right _ 1) _).setCell (Nat.le_add_right _ 1) _
        · subst h h1 h2
          go_wp2_with fail
          refine bodyPost_ret (v := .tuple #[(⟨ln, ld, hn, hd, false, false, false, false⟩ : Sp).delays, .int .i64 0]) (by simp [results, Try.results34, go_sem, Sp.delays, t0, t1, t2, t3, t4, t5, t6]) rfl ⟨by rw [HSF.out], ?_⟩
          exact (((((((hb6).setCell (Nat.le_add_right _ 1) _).setCell (Nat.le_add_right _ 1) _).setCell (Nat.le_add_right _ 1) _).setCell (Nat.le_add_right _ 1) _).setCell (Nat.le_add_right _ 1) _).setCell (Nat.le_add_right _ 1) _).setCell (Nat.le_add_right _ 1) _
end Go.Proofs.Ytkgaipcgdldfdaa
