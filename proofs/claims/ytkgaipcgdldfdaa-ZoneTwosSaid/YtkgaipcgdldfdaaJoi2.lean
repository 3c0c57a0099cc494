/- The program's joined: the function value that joins two matrices, element by element. The program's joined. -/
import Derived.Test.YtkgaipcgdldfdaaRst
import Derived.Deep.DeepCutAuto
namespace Go.Proofs.Ytkgaipcgdldfdaa
open Go.RowKit
set_option linter.unusedVariables false

/-- The first q elements joined. -/
def zipTo (op : Int → Int → Int) (xs ys : List Int) : Nat → List Int
  | 0 => xs
  | q + 1 => (zipTo op xs ys q).set q (op (gi (zipTo op xs ys q) q) (gi ys q))
theorem zipTo_len (op : Int → Int → Int) (xs ys : List Int) (q : Nat) : (zipTo op xs ys q).length = xs.length := by
  induction q with
  | zero => rfl
  | succ q ih => rw [zipTo, List.length_set, ih]

set_option maxRecDepth 100000 in
set_option maxHeartbeats 4000000 in
theorem prog_joined_change (op : Int → Int → Int) (f : FuncId) (N base pb qb : Nat) (rv av bv : Value) (xs ys : List Int) (w : World) (hm : Mat base w N rv av xs) (hbase : base ≤ w.heap.size)
    (hN : N ≤ 10) (hx : xs.length = (N + 1) * (N + 1)) (hy : ys.length = (N + 1) * (N + 1)) (hpb : pb < base) (hqb : qb < base) (hent : Enters Try.prog f)
    (hf : ∀ a b w, Calls Try.prog f #[.int .i64 a, .int .i64 b] w fun e w' => e = .returned (.int .i64 (op a b)) ∧ w' = w)
    (hp : w.cell? ⟨pb, 0, none⟩ = some (.func (.func f) #[] #[])) (hq : w.cell? ⟨qb, 1, none⟩ = some bv) (hb : RL base w bv ys) :
    Calls Try.prog 143 #[rv, .pointer (some ⟨pb, 0, none⟩), .pointer (some ⟨qb, 0, none⟩)] w fun e w' => e = .returned (.tuple #[]) ∧ Mat base w' N rv av (zipTo op xs ys xs.length) ∧ w.grownBy w' av.ownBlock := by
  obtain ⟨ga, gr, capr, capa, rfl, rfl, hne, hgr, hga, hbg, hown, hrows⟩ := hm.open hx
  obtain ⟨aob, capb, rfl, hleb, h0b⟩ := hb.open
  obtain ⟨bz, oz, rfl, hbz, hcz⟩ := h0b (by rw [hy]; exact Nat.mul_pos (by omega) (by omega))
  have Hx := Lib.hid hx
  have Hy := Lib.hid hy
  have Hrows := Lib.hid hrows
  have Hcz := Lib.hid hcz
  have Hm := Lib.hid hm
  have Hown := Lib.hid hown
  have Hf := Lib.hid hf
  have hent' : ∀ (args : Array Value) (w : World), (callFunc f args).run Try.prog w = .ok (.enter f args) w := hent
  have hgne : ga ≠ gr := fun e => hne e.symm
  clear hm hx hrows hown hcz h0b hb hf hent
  generalize hL : xs.length = L at *
  generalize hL2 : ys.length = L2 at *
  have HL := Lib.hid hL
  clear hL hL2
  go_enter Try.func143, Try.ntmps143
  go_wp2_with fail
  go_loopw [9] (fun k wr => ∃ i : Nat, i ≤ N + 1 ∧ k = .int .i64 i ∧ OL 60 base wr (.slice (some ⟨ga, 0, none⟩) L capa) (zipTo op xs ys (i * (N + 1))) ∧ w.grownBy wr (some ga)) (fun k _ => N + 1 - (intOf k).toNat)
  case atStart => exact ⟨0, by omega, rfl, by rw [Nat.zero_mul]; exact Hown.out, grownBy_below (Below.refl _ _) _⟩
  case round =>
    clear Hown
    obtain ⟨i, hi, rfl, hown, hgw⟩ := hrel
    by_cases hil : i < N + 1
    · have hi1 : (i : Int) < (N : Int) + 1 := by omega
      have hr0 := ((gcell hgw).1 gr i hgr hne).trans (Hrows.out i (by omega))
      go_wp2_with fail
      go_loopw [16] (fun k wr => ∃ j : Nat, j ≤ N + 1 ∧ k = .int .i64 j ∧ OL 60 base wr (.slice (some ⟨ga, 0, none⟩) L capa) (zipTo op xs ys (i * (N + 1) + j)) ∧ w.grownBy wr (some ga)) (fun k _ => N + 1 - (intOf k).toNat)
      case atStart => exact ⟨0, by omega, rfl, hown, hgw⟩
      case round =>
        clear hown hgw hr0
        obtain ⟨j, hj, rfl, hown, hgw⟩ := hrel
        by_cases hjl : j < N + 1
        · have hj1 : (j : Int) < (N : Int) + 1 := by omega
          have hj0 : (0 : Int) ≤ (j : Int) := by omega
          have hi0 : (0 : Int) ≤ (i : Int) := by omega
          have hlA := Lib.hid ((zipTo_len op xs ys (i * (N + 1) + j)).trans HL.out)
          have hk : i * (N + 1) + j < L := by rw [Hx.out]; exact idx_lt N i j (by omega) (by omega)
          have xa := ol_cell hown (k := i * (N + 1) + j) (by rw [hlA.out]; exact hk)
          have x0 := xa.1
          have xf := xa.2
          have Hst := Lib.hid (show zipTo op xs ys (i * (N + 1) + (j + 1)) = (zipTo op xs ys (i * (N + 1) + j)).set (i * (N + 1) + j) (op (gi (zipTo op xs ys (i * (N + 1) + j)) (i * (N + 1) + j)) (gi ys (i * (N + 1) + j))) from rfl)
          have m1 := ((gcell hgw).1 bz (oz + (i * (N + 1) + j)) (by omega) (by omega)).trans (Hcz.out (i * (N + 1) + j) (by rw [Hy.out]; exact idx_lt N i j (by omega) (by omega)))
          have p0 := ((gcell hgw).1 pb 0 (by omega) (by omega)).trans hp
          have q1 := ((gcell hgw).1 qb 1 (by omega) (by omega)).trans hq
          have hz1 : (0 : Int) ≤ (i : Int) * ((N : Int) + 1) + (j : Int) := by have := (idx_bd N i hN (by omega)).1; omega
          have hn1 := idx_nat N i j
          have h1 := idx_bd N i hN (by omega)
          have hL1 : (i : Int) * ((N : Int) + 1) + (j : Int) < L2 := by
            have e : ((i * (N + 1) + j : Nat) : Int) = (i : Int) * ((N : Int) + 1) + j := by push_cast; rfl
            have := idx_lt N i j (by omega) (by omega); rw [← Hy.out] at this; omega
          have hL3 : (i : Int) * ((N : Int) + 1) + (j : Int) < ((N : Int) + 1) * ((N : Int) + 1) := by
            have e : (((N + 1) * (N + 1) : Nat) : Int) = ((N : Int) + 1) * ((N : Int) + 1) := by push_cast; rfl
            have := Hy.out; rw [← e]; omega
          have hw1 : IntKind.i64.wrap ((i : Int) * ((N : Int) + 1)) = (i : Int) * ((N : Int) + 1) := IntWalk.i64_in _ (by omega)
          have hw2 : IntKind.i64.wrap ((i : Int) * ((N : Int) + 1) + (j : Int)) = (i : Int) * ((N : Int) + 1) + (j : Int) := IntWalk.i64_in _ (by omega)
          have Hg := Lib.hid hgw
          have Hown := Lib.hid hown
          clear xa hown hgw hk
          generalize zipTo op xs ys (i * (N + 1) + j) = M at *
          go_upto_region 6 with fail
          go_region_law (go_simp; refine (Hf.out _ _ _).mono ?_; rintro e w9 ⟨rfl, rfl⟩)
          all_goals
            have hsd := OL.stored Hown.out hlA.out.symm (i * (N + 1) + j) (op (gi M (i * (N + 1) + j)) (gi ys (i * (N + 1) + j)))
            go_wp2_with fail
            go_roundw
            case rel => exact ⟨j + 1, by omega, by go_num, by rw [Hst.out]; exact hsd.1.drew, grownBy_trans (grownBy_trans Hg.out hsd.2) (grownBy_drew _ _)⟩
            case measure => simp [intOf]; omega
        · have htj : decide ((j : Int) < (N : Int) + 1) = false := by simp; omega
          obtain rfl : j = N + 1 := by omega
          go_wp2_with fail
          go_roundw
          case rel => exact ⟨i + 1, by omega, by go_num, by rw [Nat.succ_mul]; exact hown, hgw⟩
          case measure => simp [intOf]; omega
    · have hti : decide ((i : Int) < (N : Int) + 1) = false := by simp; omega
      obtain rfl : i = N + 1 := by omega
      rw [← Hx.out] at hown
      go_wp2_with fail
      go_end0
      refine ⟨rfl, ?_, hgw⟩
      obtain ⟨g', e1, e2, e3, e4⟩ := Hm.out
      simp only [Value.ownBlock, Option.some.injEq] at e1
      subst e1
      exact ⟨ga, rfl, hown, World.ownsRow.kept e3 hgw (.inr e4), e4⟩
end Go.Proofs.Ytkgaipcgdldfdaa
namespace Go.Proofs.Ytkgaipcgdldfdaa
open Go.RowKit
set_option linter.unusedVariables false

theorem zipTo_vld {op : Int → Int → Int} {xs ys : List Int} (hop : ∀ a b, vld a = true → vld b = true → vld (op a b) = true) (hx : xs.all vld = true) (hy : ys.all vld = true) (hl : xs.length = ys.length) (q : Nat) (hq : q ≤ xs.length) : (zipTo op xs ys q).all vld = true := by
  induction q with
  | zero => exact hx
  | succ q ih =>
    have ih := ih (by omega)
    exact set_all_vld ih _ (hop _ _ (all_gi ih (by rw [zipTo_len]; omega)) (all_gi hy (by omega)))
/-- Does joined take the second zone? -/
noncomputable def fitJ (n n2 : Int) (ys : List Int) : Bool := (okErr n2 ys == 0) && (n == n2)
/-- What joined returns. -/
noncomputable def joinF (op : Int → Int → Int) (n : Int) (xs : List Int) (n2 : Int) (ys : List Int) : Int × List Int := chgF n xs (fitJ n n2 ys) (zipTo op xs ys xs.length)
theorem enters_joined : Enters Try.prog 143 := enters_of Try.func143 (by kernel_rfl) rfl

set_option maxRecDepth 100000 in
set_option maxHeartbeats 4000000 in
theorem prog_joined (op : Int → Int → Int) (f : FuncId) (n n2 : Int) (zv bv : Value) (xs ys : List Int) (w : World) (hz : RL w.heap.size w zv xs) (hb : RL w.heap.size w bv ys) (hent : Enters Try.prog f)
    (hf : ∀ a b w, Calls Try.prog f #[.int .i64 a, .int .i64 b] w fun e w' => e = .returned (.int .i64 (op a b)) ∧ w' = w) (hop : ∀ a b, vld a = true → vld b = true → vld (op a b) = true) :
    Calls Try.prog 118 #[.agg #[.int .i64 n, zv], .agg #[.int .i64 n2, bv], .func (.func f) #[] #[]] w fun e w' => ZPost 60 w.heap.size n (joinF op n xs n2 ys) e w' ∧ Below w.heap.size w w' := by
  obtain ⟨aoz, capz, rfl, hlez, _⟩ := hz.open
  obtain ⟨aob, capb, rfl, hleb, _⟩ := hb.open
  have hloc : Loc w ((((w.alloc (.cells #[.int .i64 n, .slice aoz xs.length capz] 24)).alloc (.cells #[.int .i64 n2, .slice aob ys.length capb] 24)).alloc (.cells #[.func (.func f) #[] #[]] 88)).alloc (.cells #[.int .i64 0, .slice none 0 0] 24)) none [.cells #[.int .i64 n, .slice aoz xs.length capz] 24, .cells #[.int .i64 n2, .slice aob ys.length capb] 24, .cells #[.func (.func f) #[] #[]] 88, .cells #[.int .i64 0, .slice none 0 0] 24] := Loc.four w _ _ _ _ _
  have Hz := Lib.hid hz
  have Hbv := Lib.hid hb
  clear hz hb
  have key : ∀ wr : World, Below w.heap.size w wr → w.heap.size + 3 ≤ wr.heap.size → wr.cell? ⟨w.heap.size + 2, 0, none⟩ = some (.func (.func f) #[] #[]) → wr.cell? ⟨w.heap.size + 1, 1, none⟩ = some (.slice aob ys.length capb) → Calls Try.prog 100 #[.agg #[.int .i64 n, .slice aoz xs.length capz], .bool (fitJ n n2 ys), .func (.func 143) #[] #[.pointer (some ⟨w.heap.size + 2, 0, none⟩), .pointer (some ⟨w.heap.size + 1, 0, none⟩)]] wr fun e w' => ZPost 60 wr.heap.size n (joinF op n xs n2 ys) e w' ∧ Below wr.heap.size wr w' := by
    intro wr hbe hse hc1 hc2
    have Hz1 : RL wr.heap.size wr (.slice aoz xs.length capz) xs := Hz.out.keepb hbe
    have Hb1 : RL wr.heap.size wr (.slice aob ys.length capb) ys := Hbv.out.keepb hbe
    unfold joinF
    by_cases hok : OkZ n xs ∧ fitJ n n2 ys = true
    · obtain ⟨N, rfl⟩ := Int.eq_ofNat_of_zero_le hok.1.lo
      have hN : N ≤ 10 := by have := hok.1.hi; omega
      have hlen : xs.length = (N + 1) * (N + 1) := by have := hok.1.len; rwa [Int.toNat_natCast] at this
      have hvx := (dimF_nat hok.1.dim).2.2
      have hft := hok.2
      unfold fitJ at hft
      simp only [Bool.and_eq_true, beq_iff_eq] at hft
      have hok2 : OkZ n2 ys := by
        by_cases h : OkZ n2 ys
        · exact h
        · rw [okErr_no h] at hft; exact absurd hft.1 (by decide)
      have hn2 := hft.2
      subst hn2
      have hlen2 : ys.length = (N + 1) * (N + 1) := by have := hok2.len; rwa [Int.toNat_natCast] at this
      have hvy := (dimF_nat hok2.dim).2.2
      rw [hok.2]
      refine prog_changed_ok N _ xs _ _ _ wr Hz1 hok.1 enters_joined (fun base rv av w' hb hb1 hb2 hm => ?_) (zipTo_len _ _ _ _) (zipTo_vld hop hvx hvy (by omega) _ (Nat.le_refl _))
      exact prog_joined_change op f N base (w.heap.size + 2) (w.heap.size + 1) rv av (.slice aob ys.length capb) xs ys w' hm hb2 hN hlen hlen2 (by omega) (by omega) hent hf (keepb hc1 hb) (keepb hc2 hb) (RS.mono (RS.keep Hb1 hb) (by omega))
    · exact prog_changed_bad n _ _ xs _ _ wr Hz1 hok
  have Key := Lib.hid key
  have HE := Lib.hid (show fitJ n n2 ys = ((okErr n2 ys == 0) && (n == n2)) from rfl)
  clear key hent hf hop
  have c00 := hloc.cell 0 rfl 0
  have c01 := hloc.cell 0 rfl 1
  have c10 := hloc.cell 1 rfl 0
  have c11 := hloc.cell 1 rfl 1
  have c20 := hloc.cell 2 rfl 0
  go_enter Try.func118, Try.ntmps118
  go_wp2_with fail
  generalize World.alloc _ (Obj.cells #[.int .i64 0, .slice none 0 0] 24) = W at *
  have z0 : W.cell? ⟨w.heap.size, 0, none⟩ = some (.int .i64 n) := c00
  have z1 : W.cell? ⟨w.heap.size, 1, none⟩ = some (.slice aoz xs.length capz) := c01
  have z2 : W.cell? ⟨w.heap.size + 1, 0, none⟩ = some (.int .i64 n2) := c10
  have z3 : W.cell? ⟨w.heap.size + 1, 1, none⟩ = some (.slice aob ys.length capb) := c11
  clear c00 c01 c10 c11 c20
  have Hloc := Lib.hid hloc
  have HbW := Lib.hid (show RL W.drew.heap.size W.drew (.slice aob ys.length capb) ys from (Hbv.out.keepb (below_grownBy hloc.grown)).drew)
  clear hloc
  generalize hR : joinF op n xs n2 ys = R at *
  have HR := Lib.hid hR
  clear hR
  have n0 : ¬ (w.heap.size = w.heap.size + 1 + 1 + 1) := by omega
  have n1 : ¬ (w.heap.size + 1 = w.heap.size + 1 + 1 + 1) := by omega
  have n22 : ¬ (w.heap.size + 1 + 1 + 1 = w.heap.size) := by omega
  have n3 : ¬ (w.heap.size + 1 + 1 + 1 = w.heap.size + 1) := by omega
  have n4 : ¬ (w.heap.size = w.heap.size + 1 + 1) := by omega
  have n5 : ¬ (w.heap.size + 1 + 1 = w.heap.size) := by omega
  by_cases hok : OkZ n2 ys
  · have he := Lib.hid (okErr_yes hok)
    rw [he.out, show ((0 : Int) == 0) = true from rfl, Bool.true_and] at HE
    rw [HE.out] at Key
    clear HE hok
    go_region_held3 (fun w' => w'.cell? ⟨w.heap.size, 0, none⟩ = some (.int .i64 n) ∧ w'.cell? ⟨w.heap.size, 1, none⟩ = some (.slice aoz xs.length capz) ∧ w'.cell? ⟨w.heap.size + 1, 0, none⟩ = some (.int .i64 n2) ∧ w'.cell? ⟨w.heap.size + 1, 1, none⟩ = some (.slice aob ys.length capb))
      (first | exact ⟨by assumption, by assumption, by assumption, by assumption⟩ | go_keep)
      (first
        | (go_at_call 25; refine (prog_check n2 _ ys W.drew HbW.out).mono ?_; rw [he.out]; rintro e w8 ⟨rfl, hb8⟩; have hloc8 := Hloc.out.next (grownBy_trans (grownBy_drew W none) (grownBy_below hb8 none)) (fun _ h => by cases h); have q0 : w8.cell? ⟨w.heap.size, 0, none⟩ = some (.int .i64 n) := hloc8.cell 0 rfl 0; have q1 : w8.cell? ⟨w.heap.size, 1, none⟩ = some (.slice aoz xs.length capz) := hloc8.cell 0 rfl 1; have q2 : w8.cell? ⟨w.heap.size + 1, 0, none⟩ = some (.int .i64 n2) := hloc8.cell 1 rfl 0; have q3 : w8.cell? ⟨w.heap.size + 1, 1, none⟩ = some (.slice aob ys.length capb) := hloc8.cell 1 rfl 1; have q4 : w8.cell? ⟨w.heap.size + 2, 0, none⟩ = some (.func (.func f) #[] #[]) := hloc8.cell 2 rfl 0)
        | (go_at_call 100; refine (Key.out _ (below_grownBy hloc8.grown) (by have := hloc8.size; simp at this; omega) q4 q3).mono ?_; rintro e w5 ⟨⟨v5, rfl, ho5⟩, hb5⟩; obtain ⟨ao5, cap5, rfl⟩ := owns_form ho5; have hloc5 := hloc8.next (grownBy_below hb5 none) (fun _ h => by cases h); have p0 : w5.cell? ⟨w.heap.size, 0, none⟩ = some (.int .i64 n) := hloc5.cell 0 rfl 0; have p1 : w5.cell? ⟨w.heap.size, 1, none⟩ = some (.slice aoz xs.length capz) := hloc5.cell 0 rfl 1; have p2 : w5.cell? ⟨w.heap.size + 1, 0, none⟩ = some (.int .i64 n2) := hloc5.cell 1 rfl 0; have p3 : w5.cell? ⟨w.heap.size + 1, 1, none⟩ = some (.slice aob ys.length capb) := hloc5.cell 1 rfl 1; have r0 : w5.cell? ⟨w.heap.size + 1 + 1 + 1, 0, none⟩ = some (.int .i64 0) := hloc5.cell 3 rfl 0; have r1 : w5.cell? ⟨w.heap.size + 1 + 1 + 1, 1, none⟩ = some (.slice none 0 0) := hloc5.cell 3 rfl 1; have r2 : w5.frozen? ⟨w.heap.size + 1 + 1 + 1, 0, none⟩ = false := hloc5.free 3 rfl 0; have r3 : w5.frozen? ⟨w.heap.size + 1 + 1 + 1, 1, none⟩ = false := hloc5.free 3 rfl 1))
    all_goals
      go_wp2_with fail
      have Ho5 := Lib.hid (show OL 60 (w.heap.size + 4) w5 (.slice ao5 R.2.length cap5) R.2 from OL.mono ho5 (by have := hloc8.size; simp at this; omega))
      have HB5 := Lib.hid (below_grownBy hloc5.grown)
      refine bodyPost_ret (v := .tuple #[.agg #[.int .i64 (zdim R n), .slice ao5 R.2.length cap5], .int .i64 R.1]) (by simp [results, Try.results118, go_sem, r0, r1]) rfl ⟨⟨_, by rw [HR.out], ?_⟩, ?_⟩
      · rw [HR.out]; exact OL.mono (base := w.heap.size + 4) (own_set2 Ho5.out (by omega) _ _) (by omega)
      · exact (HB5.out.setCell (by simp; omega) _).setCell (by simp; omega) _
  · have he := Lib.hid (okErr_no hok)
    rw [he.out, show ((2 : Int) == 0) = false from rfl, Bool.false_and] at HE
    rw [HE.out] at Key
    clear HE hok
    refine wp_region_noPanic ?_
    refine wp_region_held_drew (S := (fun w' => w'.cell? ⟨w.heap.size, 0, none⟩ = some (.int .i64 n) ∧ w'.cell? ⟨w.heap.size, 1, none⟩ = some (.slice aoz xs.length capz) ∧ w'.cell? ⟨w.heap.size + 1, 0, none⟩ = some (.int .i64 n2) ∧ w'.cell? ⟨w.heap.size + 1, 1, none⟩ = some (.slice aob ys.length capb))) (by kernel_rfl) ⟨z0, z1, z2, z3⟩ (fun hHeld => ?_)
    refine wpAnyH_take (i := 0) (v := ?_) rfl (by kernel_rfl) (by kernel_rfl) (by kernel_rfl) (fun _ _ _ h => h) (Or.inl ⟨by rfl, ?_⟩) (by assumption) ?_
    rotate_left
    · intro w hSw; (try dsimp only at hSw); go_simp; (try with_reducible rfl)
    try simp only [Act.put, List.getElem_toArray, List.getElem_cons_zero, List.setIfInBounds_toArray, List.set_cons_zero, List.set_cons_succ]
    refine wpAnyH_take (i := 1) (v := ?_) rfl (by kernel_rfl) (by kernel_rfl) (by kernel_rfl) (fun _ _ _ h => h) (Or.inl ⟨by rfl, ?_⟩) (by assumption) ?_
    rotate_left
    · intro w hSw; (try dsimp only at hSw); go_simp; (try with_reducible rfl)
    try simp only [Act.put, List.getElem_toArray, List.getElem_cons_zero, List.getElem_cons_succ, List.setIfInBounds_toArray, List.set_cons_zero, List.set_cons_succ]
    refine wpAnyH_ready (rs := [2, 11]) (by kernel_rfl) (by simp) ?_
    refine AllReadyH.cons rfl (fun K hK => ?_) (AllReadyH.cons rfl (fun K hK => ?_) AllReadyH.nil)
    · go_simp
      refine (prog_check n2 _ ys W.drew HbW.out).mono ?_
      rw [he.out]
      rintro e w8 ⟨rfl, hb8⟩
      have hloc8 := Hloc.out.next (grownBy_trans (grownBy_drew W none) (grownBy_below hb8 none)) (fun _ h => by cases h)
      have q0 : w8.cell? ⟨w.heap.size, 0, none⟩ = some (.int .i64 n) := hloc8.cell 0 rfl 0
      have q1 : w8.cell? ⟨w.heap.size, 1, none⟩ = some (.slice aoz xs.length capz) := hloc8.cell 0 rfl 1
      have q2 : w8.cell? ⟨w.heap.size + 1, 0, none⟩ = some (.int .i64 n2) := hloc8.cell 1 rfl 0
      have q3 : w8.cell? ⟨w.heap.size + 1, 1, none⟩ = some (.slice aob ys.length capb) := hloc8.cell 1 rfl 1
      have q4 : w8.cell? ⟨w.heap.size + 2, 0, none⟩ = some (.func (.func f) #[] #[]) := hloc8.cell 2 rfl 0
      refine hK.out _ _ ⟨q0, q1, q2, q3⟩ (fun hHeld2 => ?_)
      clear hK K
      try simp only [Act.put, List.getElem_toArray, List.getElem_cons_zero, List.getElem_cons_succ, List.setIfInBounds_toArray, List.set_cons_zero, List.set_cons_succ]
      refine wpAnyH_take (i := 3) (v := ?_) rfl (by kernel_rfl) (by kernel_rfl) (by kernel_rfl) (fun _ _ _ h => h) (Or.inl ⟨by rfl, ?_⟩) (by assumption) ?_
      rotate_left
      · intro w hSw; (try dsimp only at hSw); go_simp; (try with_reducible rfl)
      try simp only [Act.put, List.getElem_toArray, List.getElem_cons_zero, List.getElem_cons_succ, List.setIfInBounds_toArray, List.set_cons_zero, List.set_cons_succ]
      refine wpAnyH_take (i := 4) (v := ?_) rfl (by kernel_rfl) (by kernel_rfl) (by kernel_rfl) (fun _ _ _ h => h) (Or.inl ⟨by rfl, ?_⟩) (by assumption) ?_
      rotate_left
      · intro w hSw; (try dsimp only at hSw); go_simp; (try with_reducible rfl)
      try simp only [Act.put, List.getElem_toArray, List.getElem_cons_zero, List.getElem_cons_succ, List.setIfInBounds_toArray, List.set_cons_zero, List.set_cons_succ]
      refine wpAnyH_take (i := 5) rfl (by kernel_rfl) (by kernel_rfl) (by kernel_rfl) (fun _ _ _ h => h) (Or.inr ⟨by rfl, rfl⟩) (by assumption) ?_
      try simp only [Act.put, List.getElem_toArray, List.getElem_cons_zero, List.getElem_cons_succ, List.setIfInBounds_toArray, List.set_cons_zero, List.set_cons_succ]
      refine wpAnyH_take (i := 6) rfl (by kernel_rfl) (by kernel_rfl) (by kernel_rfl) (fun _ _ _ h => h) (Or.inr ⟨by rfl, rfl⟩) (by assumption) ?_
      try simp only [Act.put, List.getElem_toArray, List.getElem_cons_zero, List.getElem_cons_succ, List.setIfInBounds_toArray, List.set_cons_zero, List.set_cons_succ]
      refine wpAnyH_take (i := 7) rfl (by kernel_rfl) (by kernel_rfl) (by kernel_rfl) (fun _ _ _ h => h) (Or.inr ⟨by rfl, rfl⟩) (by assumption) ?_
      try simp only [Act.put, List.getElem_toArray, List.getElem_cons_zero, List.getElem_cons_succ, List.setIfInBounds_toArray, List.set_cons_zero, List.set_cons_succ]
      refine wpAnyH_take (i := 8) rfl (by kernel_rfl) (by kernel_rfl) (by kernel_rfl) (fun _ _ _ h => h) (Or.inr ⟨by rfl, rfl⟩) (by assumption) ?_
      try simp only [Act.put, List.getElem_toArray, List.getElem_cons_zero, List.getElem_cons_succ, List.setIfInBounds_toArray, List.set_cons_zero, List.set_cons_succ]
      refine wpAnyH_take (i := 9) rfl (by kernel_rfl) (by kernel_rfl) (by kernel_rfl) (fun _ _ _ h => h) (Or.inr ⟨by rfl, rfl⟩) (by assumption) ?_
      try simp only [Act.put, List.getElem_toArray, List.getElem_cons_zero, List.getElem_cons_succ, List.setIfInBounds_toArray, List.set_cons_zero, List.set_cons_succ]
      refine wpAnyH_take (i := 10) (v := ?_) rfl (by kernel_rfl) (by kernel_rfl) (by kernel_rfl) (fun _ _ _ h => h) (Or.inl ⟨by rfl, ?_⟩) (by assumption) ?_
      rotate_left
      · intro w hSw; (try dsimp only at hSw); go_simp; (try with_reducible rfl)
      try simp only [Act.put, List.getElem_toArray, List.getElem_cons_zero, List.getElem_cons_succ, List.setIfInBounds_toArray, List.set_cons_zero, List.set_cons_succ]
      refine wpAnyH_ready (rs := [11]) (by kernel_rfl) (by simp) ?_
      refine AllReadyH.cons rfl (fun K hK => ?_) AllReadyH.nil
      go_simp
      refine hK.out _ _ ⟨q0, q1, q2, q3⟩ (fun hHeld2 => ?_)
      clear hK K
      try simp only [Act.put, List.getElem_toArray, List.getElem_cons_zero, List.getElem_cons_succ, List.setIfInBounds_toArray, List.set_cons_zero, List.set_cons_succ]
      refine wpAnyH_ready (rs := [12]) (by kernel_rfl) (by simp) ?_
      refine AllReadyH.cons rfl (fun K hK => ?_) AllReadyH.nil
      go_simp
      have hs8 : w.heap.size + 3 ≤ w8.heap.size := (by have := hloc8.size; simp at this; omega)
      refine (Key.out _ (below_grownBy hloc8.grown) hs8 q4 q3).mono ?_
      rintro e w5 ⟨⟨v5, rfl, ho5⟩, hb5⟩
      obtain ⟨ao5, cap5, rfl⟩ := owns_form ho5
      have hloc5 := hloc8.next (grownBy_below hb5 none) (fun _ h => by cases h)
      have p0 : w5.cell? ⟨w.heap.size, 0, none⟩ = some (.int .i64 n) := hloc5.cell 0 rfl 0
      have p1 : w5.cell? ⟨w.heap.size, 1, none⟩ = some (.slice aoz xs.length capz) := hloc5.cell 0 rfl 1
      have p2 : w5.cell? ⟨w.heap.size + 1, 0, none⟩ = some (.int .i64 n2) := hloc5.cell 1 rfl 0
      have p3 : w5.cell? ⟨w.heap.size + 1, 1, none⟩ = some (.slice aob ys.length capb) := hloc5.cell 1 rfl 1
      have r0 : w5.cell? ⟨w.heap.size + 1 + 1 + 1, 0, none⟩ = some (.int .i64 0) := hloc5.cell 3 rfl 0
      have r1 : w5.cell? ⟨w.heap.size + 1 + 1 + 1, 1, none⟩ = some (.slice none 0 0) := hloc5.cell 3 rfl 1
      have r2 : w5.frozen? ⟨w.heap.size + 1 + 1 + 1, 0, none⟩ = false := hloc5.free 3 rfl 0
      have r3 : w5.frozen? ⟨w.heap.size + 1 + 1 + 1, 1, none⟩ = false := hloc5.free 3 rfl 1
      refine hK.out _ _ ⟨p0, p1, p2, p3⟩ (fun hHeld2 => ?_)
      clear hK K
      try simp only [Act.put, List.getElem_toArray, List.getElem_cons_zero, List.getElem_cons_succ, List.setIfInBounds_toArray, List.set_cons_zero, List.set_cons_succ]
      refine wpAnyH_take (i := 13) (v := ?_) rfl (by kernel_rfl) (by kernel_rfl) (by kernel_rfl) (fun _ _ _ h => h) (Or.inl ⟨by rfl, ?_⟩) (by assumption) ?_
      rotate_left
      · intro w hSw; (try dsimp only at hSw); go_simp; (try with_reducible rfl)
      try simp only [Act.put, List.getElem_toArray, List.getElem_cons_zero, List.getElem_cons_succ, List.setIfInBounds_toArray, List.set_cons_zero, List.set_cons_succ]
      refine wpAnyH_take (i := 14) (v := ?_) rfl (by kernel_rfl) (by kernel_rfl) (by kernel_rfl) (fun _ _ _ h => h) (Or.inl ⟨by rfl, ?_⟩) (by assumption) ?_
      rotate_left
      · intro w hSw; (try dsimp only at hSw); go_simp; (try with_reducible rfl)
      try simp only [Act.put, List.getElem_toArray, List.getElem_cons_zero, List.getElem_cons_succ, List.setIfInBounds_toArray, List.set_cons_zero, List.set_cons_succ]
      refine wpAnyH_ready (rs := [15]) (by kernel_rfl) (by simp) ?_
      refine AllReadyH.cons rfl (fun K hK => ?_) AllReadyH.nil
      go_simp
      refine hK.out _ _ (by refine ⟨?_, ?_, ?_, ?_⟩ <;> (first | assumption | go_keep)) (fun hHeld2 => ?_)
      clear hK K
      try simp only [Act.put, List.getElem_toArray, List.getElem_cons_zero, List.getElem_cons_succ, List.setIfInBounds_toArray, List.set_cons_zero, List.set_cons_succ]
      refine wpAnyH_take (i := 16) (v := ?_) rfl (by kernel_rfl) (by kernel_rfl) (by kernel_rfl) (fun _ _ _ h => h) (Or.inl ⟨by rfl, ?_⟩) (by assumption) ?_
      rotate_left
      · intro w hSw; (try dsimp only at hSw); go_simp; (try with_reducible rfl)
      try simp only [Act.put, List.getElem_toArray, List.getElem_cons_zero, List.getElem_cons_succ, List.setIfInBounds_toArray, List.set_cons_zero, List.set_cons_succ]
      refine wpAnyH_done (by kernel_rfl) ?_ _
      refine NoPanic.normal ?_
      go_wp2_with fail
      have Ho5 := Lib.hid (show OL 60 (w.heap.size + 4) w5 (.slice ao5 R.2.length cap5) R.2 from OL.mono ho5 (by have := hloc8.size; simp at this; omega))
      have HB5 := Lib.hid (below_grownBy hloc5.grown)
      refine bodyPost_ret (v := .tuple #[.agg #[.int .i64 (zdim R n), .slice ao5 R.2.length cap5], .int .i64 R.1]) (by simp [results, Try.results118, go_sem, r0, r1]) rfl ⟨⟨_, by rw [HR.out], ?_⟩, ?_⟩
      · rw [HR.out]; exact OL.mono (base := w.heap.size + 4) (own_set2 Ho5.out (by omega) _ _) (by omega)
      · exact (HB5.out.setCell (by simp; omega) _).setCell (by simp; omega) _
    · go_simp
      refine hK.out _ _ ⟨z0, z1, z2, z3⟩ (fun hHeld2 => ?_)
      clear hK K
      try simp only [Act.put, List.getElem_toArray, List.getElem_cons_zero, List.getElem_cons_succ, List.setIfInBounds_toArray, List.set_cons_zero, List.set_cons_succ]
      refine wpAnyH_ready (rs := [2]) (by kernel_rfl) (by simp) ?_
      refine AllReadyH.cons rfl (fun K hK => ?_) AllReadyH.nil
      go_simp
      refine (prog_check n2 _ ys W.drew HbW.out).mono ?_
      rw [he.out]
      rintro e w8 ⟨rfl, hb8⟩
      have hloc8 := Hloc.out.next (grownBy_trans (grownBy_drew W none) (grownBy_below hb8 none)) (fun _ h => by cases h)
      have q0 : w8.cell? ⟨w.heap.size, 0, none⟩ = some (.int .i64 n) := hloc8.cell 0 rfl 0
      have q1 : w8.cell? ⟨w.heap.size, 1, none⟩ = some (.slice aoz xs.length capz) := hloc8.cell 0 rfl 1
      have q2 : w8.cell? ⟨w.heap.size + 1, 0, none⟩ = some (.int .i64 n2) := hloc8.cell 1 rfl 0
      have q3 : w8.cell? ⟨w.heap.size + 1, 1, none⟩ = some (.slice aob ys.length capb) := hloc8.cell 1 rfl 1
      have q4 : w8.cell? ⟨w.heap.size + 2, 0, none⟩ = some (.func (.func f) #[] #[]) := hloc8.cell 2 rfl 0
      refine hK.out _ _ ⟨q0, q1, q2, q3⟩ (fun hHeld2 => ?_)
      clear hK K
      try simp only [Act.put, List.getElem_toArray, List.getElem_cons_zero, List.getElem_cons_succ, List.setIfInBounds_toArray, List.set_cons_zero, List.set_cons_succ]
      refine wpAnyH_take (i := 3) (v := ?_) rfl (by kernel_rfl) (by kernel_rfl) (by kernel_rfl) (fun _ _ _ h => h) (Or.inl ⟨by rfl, ?_⟩) (by assumption) ?_
      rotate_left
      · intro w hSw; (try dsimp only at hSw); go_simp; (try with_reducible rfl)
      try simp only [Act.put, List.getElem_toArray, List.getElem_cons_zero, List.getElem_cons_succ, List.setIfInBounds_toArray, List.set_cons_zero, List.set_cons_succ]
      refine wpAnyH_take (i := 4) (v := ?_) rfl (by kernel_rfl) (by kernel_rfl) (by kernel_rfl) (fun _ _ _ h => h) (Or.inl ⟨by rfl, ?_⟩) (by assumption) ?_
      rotate_left
      · intro w hSw; (try dsimp only at hSw); go_simp; (try with_reducible rfl)
      try simp only [Act.put, List.getElem_toArray, List.getElem_cons_zero, List.getElem_cons_succ, List.setIfInBounds_toArray, List.set_cons_zero, List.set_cons_succ]
      refine wpAnyH_take (i := 5) rfl (by kernel_rfl) (by kernel_rfl) (by kernel_rfl) (fun _ _ _ h => h) (Or.inr ⟨by rfl, rfl⟩) (by assumption) ?_
      try simp only [Act.put, List.getElem_toArray, List.getElem_cons_zero, List.getElem_cons_succ, List.setIfInBounds_toArray, List.set_cons_zero, List.set_cons_succ]
      refine wpAnyH_take (i := 6) rfl (by kernel_rfl) (by kernel_rfl) (by kernel_rfl) (fun _ _ _ h => h) (Or.inr ⟨by rfl, rfl⟩) (by assumption) ?_
      try simp only [Act.put, List.getElem_toArray, List.getElem_cons_zero, List.getElem_cons_succ, List.setIfInBounds_toArray, List.set_cons_zero, List.set_cons_succ]
      refine wpAnyH_take (i := 7) rfl (by kernel_rfl) (by kernel_rfl) (by kernel_rfl) (fun _ _ _ h => h) (Or.inr ⟨by rfl, rfl⟩) (by assumption) ?_
      try simp only [Act.put, List.getElem_toArray, List.getElem_cons_zero, List.getElem_cons_succ, List.setIfInBounds_toArray, List.set_cons_zero, List.set_cons_succ]
      refine wpAnyH_take (i := 8) rfl (by kernel_rfl) (by kernel_rfl) (by kernel_rfl) (fun _ _ _ h => h) (Or.inr ⟨by rfl, rfl⟩) (by assumption) ?_
      try simp only [Act.put, List.getElem_toArray, List.getElem_cons_zero, List.getElem_cons_succ, List.setIfInBounds_toArray, List.set_cons_zero, List.set_cons_succ]
      refine wpAnyH_take (i := 9) rfl (by kernel_rfl) (by kernel_rfl) (by kernel_rfl) (fun _ _ _ h => h) (Or.inr ⟨by rfl, rfl⟩) (by assumption) ?_
      try simp only [Act.put, List.getElem_toArray, List.getElem_cons_zero, List.getElem_cons_succ, List.setIfInBounds_toArray, List.set_cons_zero, List.set_cons_succ]
      refine wpAnyH_take (i := 10) (v := ?_) rfl (by kernel_rfl) (by kernel_rfl) (by kernel_rfl) (fun _ _ _ h => h) (Or.inl ⟨by rfl, ?_⟩) (by assumption) ?_
      rotate_left
      · intro w hSw; (try dsimp only at hSw); go_simp; (try with_reducible rfl)
      try simp only [Act.put, List.getElem_toArray, List.getElem_cons_zero, List.getElem_cons_succ, List.setIfInBounds_toArray, List.set_cons_zero, List.set_cons_succ]
      refine wpAnyH_ready (rs := [12]) (by kernel_rfl) (by simp) ?_
      refine AllReadyH.cons rfl (fun K hK => ?_) AllReadyH.nil
      go_simp
      have hs8 : w.heap.size + 3 ≤ w8.heap.size := (by have := hloc8.size; simp at this; omega)
      refine (Key.out _ (below_grownBy hloc8.grown) hs8 q4 q3).mono ?_
      rintro e w5 ⟨⟨v5, rfl, ho5⟩, hb5⟩
      obtain ⟨ao5, cap5, rfl⟩ := owns_form ho5
      have hloc5 := hloc8.next (grownBy_below hb5 none) (fun _ h => by cases h)
      have p0 : w5.cell? ⟨w.heap.size, 0, none⟩ = some (.int .i64 n) := hloc5.cell 0 rfl 0
      have p1 : w5.cell? ⟨w.heap.size, 1, none⟩ = some (.slice aoz xs.length capz) := hloc5.cell 0 rfl 1
      have p2 : w5.cell? ⟨w.heap.size + 1, 0, none⟩ = some (.int .i64 n2) := hloc5.cell 1 rfl 0
      have p3 : w5.cell? ⟨w.heap.size + 1, 1, none⟩ = some (.slice aob ys.length capb) := hloc5.cell 1 rfl 1
      have r0 : w5.cell? ⟨w.heap.size + 1 + 1 + 1, 0, none⟩ = some (.int .i64 0) := hloc5.cell 3 rfl 0
      have r1 : w5.cell? ⟨w.heap.size + 1 + 1 + 1, 1, none⟩ = some (.slice none 0 0) := hloc5.cell 3 rfl 1
      have r2 : w5.frozen? ⟨w.heap.size + 1 + 1 + 1, 0, none⟩ = false := hloc5.free 3 rfl 0
      have r3 : w5.frozen? ⟨w.heap.size + 1 + 1 + 1, 1, none⟩ = false := hloc5.free 3 rfl 1
      refine hK.out _ _ ⟨p0, p1, p2, p3⟩ (fun hHeld2 => ?_)
      clear hK K
      try simp only [Act.put, List.getElem_toArray, List.getElem_cons_zero, List.getElem_cons_succ, List.setIfInBounds_toArray, List.set_cons_zero, List.set_cons_succ]
      refine wpAnyH_take (i := 13) (v := ?_) rfl (by kernel_rfl) (by kernel_rfl) (by kernel_rfl) (fun _ _ _ h => h) (Or.inl ⟨by rfl, ?_⟩) (by assumption) ?_
      rotate_left
      · intro w hSw; (try dsimp only at hSw); go_simp; (try with_reducible rfl)
      try simp only [Act.put, List.getElem_toArray, List.getElem_cons_zero, List.getElem_cons_succ, List.setIfInBounds_toArray, List.set_cons_zero, List.set_cons_succ]
      refine wpAnyH_take (i := 14) (v := ?_) rfl (by kernel_rfl) (by kernel_rfl) (by kernel_rfl) (fun _ _ _ h => h) (Or.inl ⟨by rfl, ?_⟩) (by assumption) ?_
      rotate_left
      · intro w hSw; (try dsimp only at hSw); go_simp; (try with_reducible rfl)
      try simp only [Act.put, List.getElem_toArray, List.getElem_cons_zero, List.getElem_cons_succ, List.setIfInBounds_toArray, List.set_cons_zero, List.set_cons_succ]
      refine wpAnyH_ready (rs := [15]) (by kernel_rfl) (by simp) ?_
      refine AllReadyH.cons rfl (fun K hK => ?_) AllReadyH.nil
      go_simp
      refine hK.out _ _ (by refine ⟨?_, ?_, ?_, ?_⟩ <;> (first | assumption | go_keep)) (fun hHeld2 => ?_)
      clear hK K
      try simp only [Act.put, List.getElem_toArray, List.getElem_cons_zero, List.getElem_cons_succ, List.setIfInBounds_toArray, List.set_cons_zero, List.set_cons_succ]
      refine wpAnyH_take (i := 16) (v := ?_) rfl (by kernel_rfl) (by kernel_rfl) (by kernel_rfl) (fun _ _ _ h => h) (Or.inl ⟨by rfl, ?_⟩) (by assumption) ?_
      rotate_left
      · intro w hSw; (try dsimp only at hSw); go_simp; (try with_reducible rfl)
      try simp only [Act.put, List.getElem_toArray, List.getElem_cons_zero, List.getElem_cons_succ, List.setIfInBounds_toArray, List.set_cons_zero, List.set_cons_succ]
      refine wpAnyH_done (by kernel_rfl) ?_ _
      refine NoPanic.normal ?_
      go_wp2_with fail
      have Ho5 := Lib.hid (show OL 60 (w.heap.size + 4) w5 (.slice ao5 R.2.length cap5) R.2 from OL.mono ho5 (by have := hloc8.size; simp at this; omega))
      have HB5 := Lib.hid (below_grownBy hloc5.grown)
      refine bodyPost_ret (v := .tuple #[.agg #[.int .i64 (zdim R n), .slice ao5 R.2.length cap5], .int .i64 R.1]) (by simp [results, Try.results118, go_sem, r0, r1]) rfl ⟨⟨_, by rw [HR.out], ?_⟩, ?_⟩
      · rw [HR.out]; exact OL.mono (base := w.heap.size + 4) (own_set2 Ho5.out (by omega) _ _) (by omega)
      · exact (HB5.out.setCell (by simp; omega) _).setCell (by simp; omega) _
end Go.Proofs.Ytkgaipcgdldfdaa
