/- Contract of the law's helper covered. -/
import Derived.Test.YtmjpcakikflcfaaCov2
import Derived.Test.YtmjpcakikflcfaaBox
import Derived.Deep.DeepCutAuto
namespace Go.Proofs.Ytmjpcakikflcfaa
open Go.RowKit
set_option linter.unusedVariables false

abbrev K3 := Int × Int × Int
/-- The constraints of clock i + 1 in a case; none: the case is out of question. -/
def cvK (x lo hi : Int) (i d : Nat) : Option (List K3) :=
  if d = 0 then some [((i : Int) + 1, 0, 2 * x + 1), (0, (i : Int) + 1, -2 * x + 1)]
  else if d = 1 then some [((i : Int) + 1, 0, 2 * x), (0, (i : Int) + 1, -2 * lo)]
  else if x ≤ hi then none else some [(0, (i : Int) + 1, -2 * x)]
def cvX (c : Int) (ps : List (Int × Int)) (i : Nat) : Int := (gq ps i).1 * (c / (gq ps i).2)
def cvL (c : Int) (k : List Int) (i : Nat) : Int := if gi k i < 0 then -1 else gi k i * c
def covTo (c : Int) (k0 k1 : List Int) (ps : List (Int × Int)) (n : Nat) : Nat → Option (List K3)
  | 0 => some []
  | q + 1 => (covTo c k0 k1 ps n q).bind fun cs => (cvK (cvX c ps q) (cvL c k0 q) (cvL c k1 q) q (n / 3 ^ q % 3)).map (cs ++ ·)
noncomputable def covB (c : Int) (n0 : Int) (xs k0 k1 : List Int) (ps : List (Int × Int)) (n : Nat) : Bool :=
  match covTo c k0 k1 ps n ps.length with
  | none => false
  | some cs => decide ((andF n0 xs cs).1 = 0 ∨ (andF n0 xs cs).1 = 7)
theorem covTo_none {c : Int} {k0 k1 : List Int} {ps : List (Int × Int)} {n q r : Nat} (h : covTo c k0 k1 ps n q = none) (hr : q ≤ r) : covTo c k0 k1 ps n r = none := by
  induction r with
  | zero => obtain rfl : q = 0 := by omega
            exact h
  | succ r ih =>
    by_cases e : q = r + 1
    · subst e; exact h
    · rw [covTo, ih (by omega)]; rfl
theorem covTo_succ {c : Int} {k0 k1 : List Int} {ps : List (Int × Int)} {n q : Nat} {cs l : List K3} (h : covTo c k0 k1 ps n q = some cs) (h' : cvK (cvX c ps q) (cvL c k0 q) (cvL c k1 q) q (n / 3 ^ q % 3) = some l) : covTo c k0 k1 ps n (q + 1) = some (cs ++ l) := by
  rw [covTo, h, Option.bind_some, h']; rfl
theorem covTo_stop {c : Int} {k0 k1 : List Int} {ps : List (Int × Int)} {n q : Nat} {cs : List K3} (h : covTo c k0 k1 ps n q = some cs) (h' : cvK (cvX c ps q) (cvL c k0 q) (cvL c k1 q) q (n / 3 ^ q % 3) = none) : covTo c k0 k1 ps n (q + 1) = none := by
  rw [covTo, h, Option.bind_some, h']; rfl
/-- The call's own list of constraints. -/
def OK3 (t base : Nat) (w : World) (v : Value) (cs : List K3) : Prop := w.ownsRow base t 3 v cs.length (cs.flatMap cells3)
theorem OK3.rk {t base : Nat} {w : World} {v : Value} {cs : List K3} (h : OK3 t base w v cs) : RK w.heap.size w v cs := by
  rcases h.2 with ⟨h1, h0⟩ | ⟨g, cap, cur, h1, hb, hg, hnc, hcm, hcs, ht⟩
  · exact .inl ⟨h1, h0, by rw [List.eq_nil_of_length_eq_zero h0]; rfl⟩
  · refine .inr ⟨g, 0, none, cap, h1, hnc, hcm, fun h0 => by rw [List.eq_nil_of_length_eq_zero h0]; rfl, fun _ => ⟨rfl, (Array.getElem?_eq_some_iff.1 hg).1, fun k hk => ?_⟩⟩
    subst h1
    have := World.ownsRow.cellAt h k (by rw [← flat3_len]; exact hk)
    rw [Nat.zero_add]; exact this
theorem OK3.allocd {t base : Nat} {w : World} {v : Value} {cs : List K3} (h : OK3 t base w v cs) (k : Nat) (o : Obj) : OK3 t base ((w.drewN k).alloc o) v cs := World.ownsRow.alloc (w := w.drewN k) h o
theorem ints_one3 (cs : List K3) : ∀ u ∈ cs.flatMap cells3, u.oneCell' = true := by
  intro u hu
  obtain ⟨c, _, hc⟩ := List.mem_flatMap.1 hu
  simp only [cells3, List.mem_cons, List.not_mem_nil, or_false] at hc
  rcases hc with rfl | rfl | rfl <;> rfl
/-- A literal list that has just been laid. -/
theorem rs_lit3 {w : World} {arr : Array Value} {e : Nat} {cs : List K3} {m : Nat} (h : arr.toList = cs.flatMap cells3) (hm : m = cs.length) (hl : cs.length ≤ 1000) :
    RS (w.heap.size + 1) (w.alloc (.cells arr e)) (.slice (some ⟨w.heap.size, 0, none⟩) m m) cs.length (cs.flatMap cells3) := by
  subst hm
  refine .inr ⟨_, 0, none, _, rfl, Nat.le_refl _, by unfold maxLen; omega, fun h => by rw [List.eq_nil_of_length_eq_zero h]; rfl, fun _ => ⟨rfl, by simp, fun k hk => ?_⟩⟩
  rw [Nat.zero_add]
  refine (cell_of_row (w.alloc (.cells arr e)) _ k arr e (0, 0) (heap_alloc_new w _)).trans ?_
  rw [← h, Array.getElem?_toList]
theorem Try.undKs : Try.prog.underlying 44 = some (.slice 51) := by kernel_rfl
theorem Try.infoK : (Try.prog.info? 51).map (fun i => (i.zero, i.size, i.bytes)) = some (some (.agg #[.int .i64 0, .int .i64 0, .int .i64 0]), 3, 24) := by kernel_rfl
theorem wpList_append_k {P : Program} {ops : Array Oper} {rest : List Oper} {o : Oper} {a : Act} {w : World} {Q : Exit → Act → World → Prop}
    (hg : o.guard = none) (s x : Operand) (t : TypeId) (ho : o.op = Op.call { callee := Callee.builtin Builtin.append, args := #[s, x], argTypes := #[t, t] })
    (e : TypeId) (ht : P.underlying t = some (.slice e)) (hi : (P.info? e).map (fun i => (i.zero, i.size, i.bytes)) = some (some (.agg #[.int .i64 0, .int .i64 0, .int .i64 0]), 3, 24))
    (base : Nat) (v : Value) (hs : a.eval s = v) (cs : List K3) (hown : OK3 e base w v cs) (hbase : base ≤ w.heap.size)
    (xv : Value) (hx : a.eval x = xv) (l : List K3) (B : Nat) (hr : RS B w xv l.length (l.flatMap cells3)) (hl : cs.length + l.length ≤ 100000)
    (h : ∀ v' w', OK3 e base w' v' (cs ++ l) → w.grownBy w' v.ownBlock → wpList P ops Q rest (a.put o.dst v') w') : wpList P ops Q (o :: rest) a w := by
  obtain ⟨i0, hi0, hz0, hz1, hz2⟩ := info_parts hi
  refine wpList_append_rs hg s x t ho base e i0 _ 3 24 ht hi0 hz0 hz1 hz2 (by decide) (by decide) v cs.length (cs.flatMap cells3) hs hown B xv hx l.length (l.flatMap cells3) hr (flat3_len l) (ints_one3 l) (by unfold maxLen; omega) (by omega) hbase ?_
  intro v' w' h1 h2
  refine h v' w' ?_ h2
  unfold OK3
  rw [List.length_append, List.flatMap_append]
  exact h1

set_option maxRecDepth 100000 in
set_option maxHeartbeats 8000000 in
theorem law_covered (n0 : Int) (zv v0 v1 v : Value) (c : Int) (n : Nat) (xs k0 k1 : List Int) (ps : List (Int × Int)) (w : World) (hz : RL w.heap.size w zv xs) (h0 : RL w.heap.size w v0 k0) (h1 : RL w.heap.size w v1 k1) (hv : RQ w.heap.size w v ps)
    (hN : ps.length ≤ 4) (hl0 : k0.length = ps.length) (hl1 : k1.length = ps.length) (hc1 : 1 ≤ c) (hc2 : c ≤ 500) (hcom : Com ps ps.length c.toNat) (hk0 : ∀ i, i < ps.length → -1 ≤ gi k0 i ∧ gi k0 i ≤ 1048576) (hk1 : ∀ i, i < ps.length → -1 ≤ gi k1 i ∧ gi k1 i ≤ 1048576) (hn : n < 1000) :
    Calls Try.prog 18 #[.agg #[.int .i64 n0, zv], .int .i64 c, .agg #[v0, v1], v, .int .i64 (n : Int)] w fun e w' => e = .returned (.bool (covB c n0 xs k0 k1 ps n)) ∧ Below w.heap.size w w' := by
  obtain ⟨aoz, capz, rfl, hlez, _⟩ := hz.open
  obtain ⟨ao0, cap0, rfl, hle0, g0⟩ := h0.open
  obtain ⟨ao1, cap1, rfl, hle1, g1⟩ := h1.open
  obtain ⟨aop, capp, rfl, hlep, gp⟩ := hv.open
  have hloc0 := Loc.two w (.cells #[.int .i64 n0, .slice aoz xs.length capz] 24) (.cells #[.slice ao0 k0.length cap0, .slice ao1 k1.length cap1] 36) none
  have Hz := Lib.hid hz
  have G0 := Lib.hid g0
  have G1 := Lib.hid g1
  have GP := Lib.hid gp
  have HC := Lib.hid hcom
  have HK0 := Lib.hid hk0
  have HK1 := Lib.hid hk1
  have Hl0 := Lib.hid hl0
  have Hl1 := Lib.hid hl1
  clear hz h0 h1 hv g0 g1 gp hcom hk0 hk1 hl0 hl1
  go_enter Try.func18, Try.ntmps18
  go_wp2_with fail
  go_loopw [4, 11, 12, 13, 14, 15] (fun m l i _ _ _ wr => ∃ (q : Nat) (cs : List K3), q ≤ ps.length ∧ i = .int .i64 q ∧ m = .int .i64 ((n / 3 ^ q : Nat) : Int) ∧ covTo c k0 k1 ps n q = some cs ∧ cs.length ≤ 2 * q ∧ OK3 51 (w.heap.size + 2) wr l cs ∧ Loc w wr none [.cells #[.int .i64 n0, .slice aoz xs.length capz] 24, .cells #[.slice ao0 k0.length cap0, .slice ao1 k1.length cap1] 36]) (fun _ _ i _ _ _ _ => ps.length - (intOf i).toNat)
  case atStart => exact ⟨0, [], by omega, rfl, by simp, rfl, by simp, ⟨rfl, .inl ⟨rfl, rfl⟩⟩, hloc0⟩
  case round =>
    clear hloc0
    obtain ⟨q, cs, hq, rfl, rfl, hcv, hcl, hown, hloc⟩ := hrel
    have Hcv := Lib.hid hcv
    have Hown := Lib.hid hown
    clear hcv hown
    have hsz : w.heap.size + 2 ≤ wr.heap.size := hloc.size
    have z0 : wr.cell? ⟨w.heap.size, 0, none⟩ = some (.int .i64 n0) := hloc.cell 0 rfl 0
    have z1 : wr.cell? ⟨w.heap.size, 1, none⟩ = some (.slice aoz xs.length capz) := hloc.cell 0 rfl 1
    by_cases hlt : q < ps.length
    · obtain ⟨bp, offp, rfl, hbp, hcp⟩ := GP.out (by omega)
      obtain ⟨b0, off0, rfl, hb0, hc0⟩ := G0.out (by have := Hl0.out; omega)
      obtain ⟨b1, off1, rfl, hb1, hc1'⟩ := G1.out (by have := Hl1.out; omega)
      obtain ⟨x1, x2⟩ := hcp q hlt
      have hbl := below_grownBy hloc.grown
      have y1 := ((bcell hbl).1 _ _ hbp).trans x1
      have y2 := ((bcell hbl).1 _ _ hbp).trans x2
      have y3 := ((bcell hbl).1 _ _ hb0).trans (hc0 q (by have := Hl0.out; omega))
      have y4 := ((bcell hbl).1 _ _ hb1).trans (hc1' q (by have := Hl1.out; omega))
      have kk0 : wr.cell? ⟨w.heap.size + 1, 0, none⟩ = some (.slice (some ⟨b0, off0, none⟩) k0.length cap0) := hloc.cell 1 rfl 0
      have kk1 : wr.cell? ⟨w.heap.size + 1, 1, none⟩ = some (.slice (some ⟨b1, off1, none⟩) k1.length cap1) := hloc.cell 1 rfl 1
      have i1 : (q : Int) < ps.length := by omega
      have i2 : (q : Int) < k0.length := by have := Hl0.out; omega
      have i3 : (q : Int) < k1.length := by have := Hl1.out; omega
      obtain ⟨cm1, cm2, cm3, cm4⟩ := HC.out q hlt
      obtain ⟨l1, l2⟩ := HK0.out q hlt
      obtain ⟨l3, l4⟩ := HK1.out q hlt
      have Hstep := Lib.hid (fun l => covTo_succ (l := l) Hcv.out)
      have Hstop := Lib.hid (covTo_stop Hcv.out)
      have hX : cvX c ps q = (gq ps q).1 * (c / (gq ps q).2) := rfl
      have hL0 : cvL c k0 q = if gi k0 q < 0 then -1 else gi k0 q * c := rfl
      have hL1 : cvL c k1 q = if gi k1 q < 0 then -1 else gi k1 q * c := rfl
      have hdg : n / 3 ^ (q + 1) = n / 3 ^ q / 3 := by rw [Nat.pow_succ, Nat.div_div_eq_div_mul]
      have hmb : n / 3 ^ q ≤ n := Nat.div_le_self _ _
      clear hcp hc0 hc1' x1 x2 hbl
      generalize hG : gq ps q = p at *
      obtain ⟨a, d⟩ := p
      simp only at cm1 cm2 cm3 cm4 y1 y2 hX
      generalize gi k0 q = a0 at *
      generalize gi k1 q = a1 at *
      generalize cvX c ps q = X at *
      generalize cvL c k0 q = L0 at *
      generalize cvL c k1 q = L1 at *
      generalize n / 3 ^ q = m at *
      have hcd : 0 ≤ c / d ∧ c / d ≤ 500 := ⟨Int.ediv_nonneg (by omega) (by omega), Int.le_trans (Int.ediv_le_self _ (by omega)) hc2⟩
      obtain ⟨cd1, cd2⟩ := hcd
      have td : c.tdiv d = c / d := Int.tdiv_eq_ediv_of_nonneg (by omega)
      have hxb : 0 ≤ a * (c / d) ∧ a * (c / d) ≤ 524288000 := ⟨Int.mul_nonneg cm3 cd1, by
        have h1 : a * (c / d) ≤ 1048576 * (c / d) := Int.mul_le_mul_of_nonneg_right cm4 cd1
        omega⟩
      obtain ⟨xb1, xb2⟩ := hxb
      have wx : IntKind.i64.wrap (a * (c / d)) = a * (c / d) := IntWalk.i64_in _ (by omega)
      have hd0 : ¬ d = 0 := by omega
      generalize hcdv : c / d = cd at *
      have hp0 : -500 ≤ a0 * c ∧ a0 * c ≤ 524288000 := by
        have h1 : a0 * c ≤ 1048576 * c := Int.mul_le_mul_of_nonneg_right l2 (by omega)
        have h2 : -1 * c ≤ a0 * c := Int.mul_le_mul_of_nonneg_right l1 (by omega)
        omega
      have hp1 : -500 ≤ a1 * c ∧ a1 * c ≤ 524288000 := by
        have h1 : a1 * c ≤ 1048576 * c := Int.mul_le_mul_of_nonneg_right l4 (by omega)
        have h2 : -1 * c ≤ a1 * c := Int.mul_le_mul_of_nonneg_right l3 (by omega)
        omega
      have np0 : 0 ≤ a0 → 0 ≤ a0 * c := fun h => Int.mul_nonneg h (by omega)
      have np1 : 0 ≤ a1 → 0 ≤ a1 * c := fun h => Int.mul_nonneg h (by omega)
      obtain ⟨p01, p02⟩ := hp0
      obtain ⟨p11, p12⟩ := hp1
      have w0 : IntKind.i64.wrap (a0 * c) = a0 * c := IntWalk.i64_in _ (by omega)
      have w1 : IntKind.i64.wrap (a1 * c) = a1 * c := IntWalk.i64_in _ (by omega)
      generalize hvx : a * cd = x at *
      generalize hv0 : a0 * c = u0 at *
      generalize hv1 : a1 * c = u1 at *
      subst hX
      have HL0 := Lib.hid hL0
      have HL1 := Lib.hid hL1
      have HDG := Lib.hid hdg
      clear hL0 hL1 hdg hG hcdv
      have L0b : -1 ≤ L0 ∧ L0 ≤ 524288000 := by rw [HL0.out]; split <;> omega
      have L1b : -1 ≤ L1 ∧ L1 ≤ 524288000 := by rw [HL1.out]; split <;> omega
      clear np0 np1
      obtain ⟨L0b1, L0b2⟩ := L0b
      obtain ⟨L1b1, L1b2⟩ := L1b
      go_wp2_with fail
      go_quiet (fail)
      go_wp2_with fail
      go_quiet (fail)
      go_upto_if 56 with fail
      go_cut [14] (fun s14 wx => s14 = .int .i64 L0 ∧ ∃ k, wx = wr.drewN k)
      case first =>
        by_cases s0 : a0 < 0
        · have hlo : L0 = -1 := by rw [HL0.out, if_pos s0]
          go_wp2_with fail
          go_meet
          exact ⟨by rw [hlo], _, rfl⟩
        · have hlo : L0 = u0 := by rw [HL0.out, if_neg s0]
          have s0' : decide (a0 < 0) = false := by simpa using s0
          go_wp2_with fail
          go_meet
          exact ⟨by rw [hlo], _, rfl⟩
      case rest =>
        obtain ⟨rfl, kk, rfl⟩ := hcut
        go_upto_if 62 with fail
        go_cut [15] (fun s15 wx => s15 = .int .i64 L1 ∧ ∃ k, wx = wr.drewN k)
        case first =>
          by_cases s1 : a1 < 0
          · have hhi : L1 = -1 := by rw [HL1.out, if_pos s1]
            go_wp2_with fail
            go_meet
            exact ⟨by rw [hhi], _, rfl⟩
          · have hhi : L1 = u1 := by rw [HL1.out, if_neg s1]
            have s1' : decide (a1 < 0) = false := by simpa using s1
            go_wp2_with fail
            go_meet
            exact ⟨by rw [hhi], _, rfl⟩
        case rest =>
          obtain ⟨rfl, kk2, rfl⟩ := hcut
          clear y1 y2 y3 y4 kk0 kk1 w0 w1 wx td p01 p02 p11 p12 hvx hv0 hv1
          rcases (show m % 3 = 0 ∨ m % 3 = 1 ∨ m % 3 = 2 by omega) with dg | dg | dg
          · have dgi : (m : Int) % 3 = 0 := by omega
            have Hcs := Lib.hid (Hstep.out [((q : Int) + 1, 0, 2 * X + 1), (0, (q : Int) + 1, -2 * X + 1)] (by unfold cvK; rw [if_pos dg]))
            go_wp2_with (at_builtin; (refine wpList_append_k rfl (.tmp 78) (.tmp 91) 44 rfl 51 Try.undKs Try.infoK (w.heap.size + 2) u11 rfl cs ?_ ?_ (.slice (some ⟨wr.heap.size, 0, none⟩) 2 2) rfl [((q : Int) + 1, 0, 2 * X + 1), (0, (q : Int) + 1, -2 * X + 1)] (wr.heap.size + 1) ?_ ?_ ?_; (exact Hown.out.allocd _ _); (simp; omega); (exact rs_lit3 (w := wr.drewN kk2) rfl rfl (by simp)); (simp; omega); intro v' w' ho' hg'))
            go_roundw
            case rel => exact ⟨q + 1, cs ++ [((q : Int) + 1, 0, 2 * X + 1), (0, (q : Int) + 1, -2 * X + 1)], by omega, by go_num, by rw [HDG.out]; push_cast; rfl, Hcs.out, by simp; omega, ho', hloc.anyrow (grownBy_trans (grownBy_trans (grownBy_below (bdn (Below.refl _ _) _) _) (World.grownBy_alloc _ _ _)) hg') (fun g e => by have := Hown.out.lt g e; simp; omega)⟩
            case measure => simp [intOf]; omega
          · have dgi : (m : Int) % 3 = 1 := by omega
            have Hcs := Lib.hid (Hstep.out [((q : Int) + 1, 0, 2 * X), (0, (q : Int) + 1, -2 * L0)] (by unfold cvK; rw [if_neg (by omega), if_pos dg]))
            go_wp2_with (at_builtin; (refine wpList_append_k rfl (.tmp 95) (.tmp 106) 44 rfl 51 Try.undKs Try.infoK (w.heap.size + 2) u11 rfl cs ?_ ?_ (.slice (some ⟨wr.heap.size, 0, none⟩) 2 2) rfl [((q : Int) + 1, 0, 2 * X), (0, (q : Int) + 1, -2 * L0)] (wr.heap.size + 1) ?_ ?_ ?_; (exact Hown.out.allocd _ _); (simp; omega); (exact rs_lit3 (w := wr.drewN kk2) rfl rfl (by simp)); (simp; omega); intro v' w' ho' hg'))
            go_roundw
            case rel => exact ⟨q + 1, cs ++ [((q : Int) + 1, 0, 2 * X), (0, (q : Int) + 1, -2 * L0)], by omega, by go_num, by rw [HDG.out]; push_cast; rfl, Hcs.out, by simp; omega, ho', hloc.anyrow (grownBy_trans (grownBy_trans (grownBy_below (bdn (Below.refl _ _) _) _) (World.grownBy_alloc _ _ _)) hg') (fun g e => by have := Hown.out.lt g e; simp; omega)⟩
            case measure => simp [intOf]; omega
          · have dgi : (m : Int) % 3 = 2 := by omega
            by_cases hx : X ≤ L1
            · have hno := Lib.hid (covTo_none (Hstop.out (by unfold cvK; rw [if_neg (by omega), if_neg (by omega), if_pos hx])) (r := ps.length) (by omega))
              have hxd : decide (X ≤ L1) = true := by simpa using hx
              go_wp2_with fail
              go_ret
              exact ⟨ret_bool (by unfold covB; rw [hno.out]), bdn (below_grownBy hloc.grown) _⟩
            · have hxd : decide (X ≤ L1) = false := by simpa using hx
              have Hcs := Lib.hid (Hstep.out [(0, (q : Int) + 1, -2 * X)] (by unfold cvK; rw [if_neg (by omega), if_neg (by omega), if_neg hx]))
              go_wp2_with (at_builtin; (refine wpList_append_k rfl (.tmp 68) (.tmp 74) 44 rfl 51 Try.undKs Try.infoK (w.heap.size + 2) u11 rfl cs ?_ ?_ (.slice (some ⟨wr.heap.size, 0, none⟩) 1 1) rfl [(0, (q : Int) + 1, -2 * X)] (wr.heap.size + 1) ?_ ?_ ?_; (exact Hown.out.allocd _ _); (simp; omega); (exact rs_lit3 (w := wr.drewN kk2) rfl rfl (by simp)); (simp; omega); intro v' w' ho' hg'))
              go_roundw
              case rel => exact ⟨q + 1, cs ++ [(0, (q : Int) + 1, -2 * X)], by omega, by go_num, by rw [HDG.out]; push_cast; rfl, Hcs.out, by simp; omega, ho', hloc.anyrow (grownBy_trans (grownBy_trans (grownBy_below (bdn (Below.refl _ _) _) _) (World.grownBy_alloc _ _ _)) hg') (fun g e => by have := Hown.out.lt g e; simp; omega)⟩
              case measure => simp [intOf]; omega
    · have hd : decide ((q : Int) < (ps.length : Int)) = false := by simp; omega
      have hq' : q = ps.length := by omega
      have hB : covB c n0 xs k0 k1 ps n = decide ((andF n0 xs cs).1 = 0 ∨ (andF n0 xs cs).1 = 7) := by unfold covB; rw [← hq', Hcv.out]
      have Hz1 := Lib.hid (Hz.out.keepb (below_grownBy hloc.grown))
      go_wp2_with fail
      refine (ref_and n0 _ _ xs cs _ Hz1.out Hown.out.rk).mono ?_
      generalize hR : andF n0 xs cs = R at hB ⊢
      have HB := Lib.hid hB
      rintro e w5 ⟨⟨v5, rfl, ho5⟩, hb5⟩
      obtain ⟨ao5, c5, rfl⟩ := owns_form ho5
      have Hb5 := Lib.hid (bal (bt (below_grownBy hloc.grown) hb5) (.cells #[.int .i64 (zdim R n0), .slice ao5 R.2.length c5] 24))
      clear hB hR ho5 hb5
      obtain ⟨r, rs⟩ := R
      by_cases r0 : r = 0
      · subst r0
        go_wp2_with fail
        go_ret
        exact ⟨ret_bool (by rw [HB.out]; simp), Hb5.out⟩
      · have r1 : (r == 0) = false := by simpa using r0
        by_cases r7 : r = 7
        · subst r7
          go_wp2_with fail
          go_ret
          exact ⟨ret_bool (by rw [HB.out]; simp), Hb5.out⟩
        · have r2 : (r == 7) = false := by simpa using r7
          have HB2 := Lib.hid (show covB c n0 xs k0 k1 ps n = false by rw [HB.out]; simp [r0, r7])
          clear r0 r7
          go_wp2_with fail
          go_ret
          exact ⟨ret_bool HB2.out.symm, Hb5.out⟩
end Go.Proofs.Ytmjpcakikflcfaa
