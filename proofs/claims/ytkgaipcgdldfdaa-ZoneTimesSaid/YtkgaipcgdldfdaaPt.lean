/- The program's Point, where no lower bound is strict and no number is out of range. -/
import Derived.Test.YtkgaipcgdldfdaaCut
import Derived.Test.YtkgaipcgdldfdaaQ
import Derived.Test.YtkgaipcgdldfdaaZprog
import Derived.Test.YtkgaipcgdldfdaaCan
import Derived.Test.YtkgaipcgdldfdaaFw
namespace Go.Proofs.Ytkgaipcgdldfdaa
open Go.RowKit
set_option linter.unusedVariables false

def sp0 : Sp := ⟨0, 1, 0, 0, false, false, true, false⟩
theorem prog_span (w : World) : Calls Try.prog 86 #[] w fun e w' => e = .returned (.pointer (some ⟨w.heap.size, 0, none⟩)) ∧ w' = w.alloc (.cells sp0.cs 101) := by
  go_enter Try.func86, Try.ntmps86
  go_wp2_with fail
  go_ret
  exact ⟨rfl, rfl⟩
/-- What the first j clocks cut off for clock i, at a point. -/
def spanTo (N : Nat) (xs : List Int) (q : List (Int × Int)) (i : Nat) : Nat → Sp
  | 0 => sp0
  | j + 1 => cutF (cutF (spanTo N xs q i j) (gq q j).1 (gq q j).2 (ent N xs i j) false) (gq q j).1 (gq q j).2 (ent N xs j i) true
/-- A list of ratios of the call's own. -/
def OQ (t base : Nat) (w : World) (v : Value) (ps : List (Int × Int)) : Prop := w.ownsRow base t 2 v ps.length (ps.flatMap cells2)
theorem OQ.rq {t base : Nat} {w : World} {v : Value} {cs : List (Int × Int)} (h : OQ t base w v cs) : RQ w.heap.size w v cs := by
  rcases h.2 with ⟨h1, h0⟩ | ⟨g, cap, cur, h1, hb, hg, hnc, hcm, hcs, ht⟩
  · exact .inl ⟨h1, h0, by rw [List.eq_nil_of_length_eq_zero h0]; rfl⟩
  · refine .inr ⟨g, 0, none, cap, h1, hnc, hcm, fun h0 => by rw [List.eq_nil_of_length_eq_zero h0]; rfl, fun _ => ⟨rfl, (Array.getElem?_eq_some_iff.1 hg).1, fun k hk => ?_⟩⟩
    subst h1
    have := World.ownsRow.cellAt h k (by rw [← flat2_len]; exact hk)
    rw [Nat.zero_add]; exact this
theorem OQ.at {t base g n cap : Nat} {w : World} {cs : List (Int × Int)} (h : OQ t base w (.slice (some ⟨g, 0, none⟩) n cap) cs) {j : Nat} (hj : j < cs.length) : w.cell? ⟨g, j * 2, none⟩ = some (.int .i64 (gq cs j).1) ∧ w.cell? ⟨g, j * 2 + 1, none⟩ = some (.int .i64 (gq cs j).2) := by
  obtain ⟨f1, f2⟩ := flat2 cs j hj
  have hn : n = cs.length := by
    rcases h.2 with ⟨h1, _⟩ | ⟨g', cap', cur, h1, _⟩
    · cases h1
    · simp only [Value.slice.injEq] at h1; exact h1.2.1
  subst hn
  exact ⟨(World.ownsRow.cellAt h (j * 2) (by omega)).trans f1, (World.ownsRow.cellAt h (j * 2 + 1) (by omega)).trans f2⟩
theorem rq_drop1 {t base g n cap : Nat} {w : World} {cs : List (Int × Int)} (h : OQ t base w (.slice (some ⟨g, 0, none⟩) (n + 1) cap) cs) (hn : cs.length = n + 1) : RQ w.heap.size w (.slice (some ⟨g, 2, none⟩) n (cap - 1)) (cs.drop 1) := by
  match cs, hn with
  | a :: rest, hn =>
    have hr : rest.length = n := by simpa using hn
    have hcell := fun j hj => World.ownsRow.cellAt (show w.ownsRow base t 2 (.slice (some ⟨g, 0, none⟩) (a :: rest).length cap) (a :: rest).length _ by have := h; unfold OQ at this; rwa [← hn] at this) j hj
    rcases h.2 with ⟨h1, _⟩ | ⟨g', cap', cur, h1, hb, hg, hnc, hcm, _⟩
    · cases h1
    · simp only [Value.slice.injEq, Option.some.injEq, Addr.mk.injEq, and_true] at h1
      obtain ⟨rfl, _, rfl⟩ := h1
      unfold RQ
      rw [List.drop_succ_cons, List.drop_zero, hr]
      refine .inr ⟨g, 2, none, _, rfl, by omega, by omega, fun h0 => by rw [List.eq_nil_of_length_eq_zero (hr.trans h0)]; rfl, fun _ => ⟨rfl, (Array.getElem?_eq_some_iff.1 hg).1, fun k hk => ?_⟩⟩
      rw [flat2_len] at hk
      rw [hcell (2 + k) (by simp; omega), List.flatMap_cons, List.getElem?_append_right (by simp [cells2])]
      simp [cells2]
theorem rs_one2 (w : World) (a b : Int) (e : Nat) : RS (w.heap.size + 1) (w.alloc (.cells #[.int .i64 a, .int .i64 b] e)) (.slice (some ⟨w.heap.size, 0, none⟩) 1 1) 1 [.int .i64 a, .int .i64 b] := by
  refine .inr ⟨_, 0, none, _, rfl, Nat.le_refl _, by unfold maxLen; omega, fun h => by omega, fun _ => ⟨rfl, by omega, fun k hk => ?_⟩⟩
  rw [Nat.zero_add]
  refine (cell_of_row _ w.heap.size k _ _ _ (heap_alloc_new w _)).trans ?_
  simp
theorem Try.undPt : Try.prog.underlying 90 = some (.slice 48) := by kernel_rfl
theorem Try.infoQ : (Try.prog.info? 48).map (fun i => (i.zero, i.size, i.bytes)) = some (some (.agg #[.int .i64 0, .int .i64 0]), 2, 16) := by kernel_rfl
/-- What is asked of a zone and a list of ratios that becomes its point. -/
structure Pt (N : Nat) (xs : List Int) (q : List (Int × Int)) : Prop where
  len : q.length = N + 1
  first : gq q 0 = (0, 1)
  num : ∀ j, j ≤ N → I64 (gq q j).1
  s1 : ∀ i j, i ≤ N → j ≤ i → I64 (spanTo N xs q i j).ln ∧ I64 (spanTo N xs q i j).hn
  s2 : ∀ i j, i ≤ N → j < i → I64 (cutF (spanTo N xs q i j) (gq q j).1 (gq q j).2 (ent N xs i j) false).ln ∧ I64 (cutF (spanTo N xs q i j) (gq q j).1 (gq q j).2 (ent N xs i j) false).hn
  ok : ∀ i, 1 ≤ i → i ≤ N → (spanTo N xs q i i).wd = false ∧ (spanTo N xs q i i).lo = false ∧ gq q i = ((spanTo N xs q i i).ln, (spanTo N xs q i i).ld)
theorem gq_take {q : List (Int × Int)} {i j : Nat} (h : j < i) : gq (q.take i) j = gq q j := by
  unfold gq; rw [List.getD_eq_getElem?_getD, List.getElem?_take, if_pos h, ← List.getD_eq_getElem?_getD]

set_option maxRecDepth 100000 in
set_option maxHeartbeats 8000000 in
theorem prog_point (N : Nat) (v : Value) (xs : List Int) (q : List (Int × Int)) (w : World) (hv : RL w.heap.size w v xs) (hok : OkZ N xs) (hq : Pt N xs q) (hN1 : 1 ≤ N) :
    Calls Try.prog 36 #[.agg #[.int .i64 N, v]] w fun e w' => (∃ v', e = .returned (.tuple #[v', .int .i64 0]) ∧ RQ w'.heap.size w' v' (q.drop 1)) ∧ Below w.heap.size w w' := by
  have he := okErr_yes hok
  have hN : N ≤ 10 := by have := hok.hi; omega
  have Hx := Lib.hid (show xs.length = (N + 1) * (N + 1) by have := hok.len; rwa [Int.toNat_natCast] at this)
  obtain ⟨aoz, capz, rfl, hlez, h0z⟩ := hv.open
  obtain ⟨bz, oz, rfl, hbz, hcz⟩ := h0z (by rw [Hx.out]; exact Nat.mul_pos (by omega) (by omega))
  have Hcz := Lib.hid hcz
  have hloc0 := Loc.one w (.cells #[.int .i64 N, .slice (some ⟨bz, oz, none⟩) xs.length capz] 24) none
  have Hv0 := Lib.hid (hv.keepb (below_grownBy hloc0.grown))
  have HQ := Lib.hid hq
  clear hv hok hq h0z hcz
  go_enter Try.func36, Try.ntmps36
  go_wp2_with fail
  refine (prog_check N _ xs _ Hv0.out).mono ?_
  rw [he]
  rintro e w1 ⟨rfl, hb1⟩
  have hloc1 := hloc0.next (grownBy_below hb1 none) (fun _ h => by cases h)
  have c0 : w1.cell? ⟨w.heap.size, 0, none⟩ = some (.int .i64 N) := hloc1.cell 0 rfl 0
  have hs1 : w.heap.size + 1 ≤ w1.heap.size := hloc1.size
  have hloc2 := hloc1.next (World.grownBy_alloc w1 (.cells #[.int .i64 0, .int .i64 1] 48) none) (fun _ h => by cases h)
  have hown : OQ 48 (w.heap.size + 1) (w1.alloc (.cells #[.int .i64 0, .int .i64 1] 48)) (.slice (some ⟨w1.heap.size, 0, none⟩) 1 1) (q.take 1) := by
    have e1 : q.take 1 = [(0, 1)] := by
      have := HQ.out.first
      have := HQ.out.len
      match q with
      | [] => simp at this
      | p :: _ => simp [gq] at *; assumption
    rw [e1]
    exact World.ownsRow_lit w1 #[.int .i64 0, .int .i64 1] 1 hs1 (by unfold maxLen; omega) rfl
  have c20 : (w1.alloc (.cells #[.int .i64 0, .int .i64 1] 48)).cell? ⟨w.heap.size, 0, none⟩ = some (.int .i64 N) := hloc2.cell 0 rfl 0
  clear hb1 hloc0 he hloc1 c0 hs1
  go_wp2_with fail
  go_loopw [4, 6] (fun o i wr => ∃ i' : Nat, 1 ≤ i' ∧ i' ≤ N + 1 ∧ i = .int .i64 i' ∧ OQ 48 (w.heap.size + 1) wr o (q.take i') ∧ Loc w wr none [.cells #[.int .i64 N, .slice (some ⟨bz, oz, none⟩) xs.length capz] 24]) (fun _ i _ => N + 1 - (intOf i).toNat)
  case atStart => exact ⟨1, Nat.le_refl _, by omega, rfl, hown, hloc2⟩
  case round =>
    clear hown hloc2 c20
    obtain ⟨i, hi1, hi2, rfl, hown, hloc⟩ := hrel
    have htl : (q.take i).length = i := by rw [List.length_take, HQ.out.len]; omega
    obtain ⟨g, cap, rfl, hgb, hgs, hgc⟩ : ∃ g cap, u4 = .slice (some ⟨g, 0, none⟩) i cap ∧ w.heap.size + 1 ≤ g ∧ g < wr.heap.size ∧ i ≤ cap ∧ cap ≤ maxLen := by
      rcases hown.2 with ⟨_, e⟩ | ⟨g, cap, cur, e, hb, hg, hnc, hcm, _⟩
      · omega
      · exact ⟨g, cap, by rw [e, htl], hb, (Array.getElem?_eq_some_iff.1 hg).1, by omega, hcm⟩
    have Hown := Lib.hid hown
    clear hown
    by_cases hlt : i < N + 1
    rotate_left
    · have hti : decide ((i : Int) < (N : Int) + 1) = false := by simp; omega
      obtain rfl : i = N + 1 := by omega
      have hm := hgc.2
      unfold maxLen at hm
      have hc1 : ¬ cap = 1 := by omega
      have hi3 : (1 : Int) ≤ ((N + 1 : Nat) : Int) := by omega
      go_wp2_with fail
      go_ret2
      refine ⟨⟨_, rfl, ?_⟩, below_grownBy hloc.grown⟩
      have e1 : q.take (N + 1) = q := List.take_of_length_le (by rw [HQ.out.len]; exact Nat.le_refl _)
      have h2 := rq_drop1 (show OQ 48 (w.heap.size + 1) wr (.slice (some ⟨g, 0, none⟩) (N + 1) cap) q by rw [← e1]; exact Hown.out) HQ.out.len
      exact h2
    have hti : decide ((i : Int) < (N : Int) + 1) = true := by simp; omega
    go_wp2_with (go_at_call 86; refine (prog_span _).mono ?_; rintro e wa ⟨rfl, rfl⟩)
    have hS0 := heap_alloc_new wr (.cells sp0.cs 101)
    have hloc3 := hloc.next (World.grownBy_alloc wr (.cells sp0.cs 101) none) (fun _ h => by cases h)
    have hown3 : OQ 48 (w.heap.size + 1) (wr.alloc (.cells sp0.cs 101)) _ (q.take i) := World.ownsRow.alloc Hown.out _
    have hgsb : g ≠ wr.heap.size := by omega
    have hwsb : w.heap.size + 1 ≤ wr.heap.size := hloc.size
    generalize hSB : wr.heap.size = sb at *
    generalize wr.alloc (.cells sp0.cs 101) = wr1 at *
    clear Hown hloc
    go_loopw [28] (fun k wr2 => ∃ j : Nat, j ≤ i ∧ k = .int .i64 j ∧ wr2.heap[sb]? = some (.cells (spanTo N xs q i j).cs 101 (0, 0)) ∧ OQ 48 (w.heap.size + 1) wr2 (.slice (some ⟨g, 0, none⟩) i cap) (q.take i) ∧ Loc w wr2 none [.cells #[.int .i64 N, .slice (some ⟨bz, oz, none⟩) xs.length capz] 24]) (fun k _ => i - (intOf k).toNat)
    case atStart => exact ⟨0, by omega, rfl, hS0, hown3, hloc3⟩
    case round =>
      clear hS0 hown3 hloc3
      obtain ⟨j, hj, rfl, hS, hown, hloc⟩ := hrel
      have Hown := Lib.hid hown
      have z0 : wr.cell? ⟨w.heap.size, 0, none⟩ = some (.int .i64 N) := hloc.cell 0 rfl 0
      have z1 : wr.cell? ⟨w.heap.size, 1, none⟩ = some (.slice (some ⟨bz, oz, none⟩) xs.length capz) := hloc.cell 0 rfl 1
      have hsz2 : sb < wr.heap.size := (Array.getElem?_eq_some_iff.1 hS).1
      by_cases hjl : j < i
      · have htj : decide ((j : Int) < (i : Int)) = true := by simp; omega
        have hj0 : (0 : Int) ≤ (j : Int) := by omega
        have hj1 : (j : Int) < (i : Int) := by omega
        have hq2 := OQ.at hown (j := j) (by omega)
        rw [gq_take hjl] at hq2
        obtain ⟨q0, q1⟩ := hq2
        have HS2 := Lib.hid (show spanTo N xs q i (j + 1) = cutF (cutF (spanTo N xs q i j) (gq q j).1 (gq q j).2 (ent N xs i j) false) (gq q j).1 (gq q j).2 (ent N xs j i) true from rfl)
        obtain ⟨I1, I2⟩ := HQ.out.s1 i j (by omega) hj
        obtain ⟨I3, I4⟩ := HQ.out.s2 i j (by omega) hjl
        have I5 := HQ.out.num j (by omega)
        generalize hqj : gq q j = p at *
        obtain ⟨pn, pd⟩ := p
        simp only at q0 q1 HS2 I3 I4 I5
        have HqJ := Lib.hid hqj
        clear hqj hown
        have m1 := ((bcell (below_grownBy hloc.grown)).1 _ _ hbz).trans (Hcz.out (i * (N + 1) + j) (by rw [Hx.out]; exact idx_lt N i j (by omega) (by omega)))
        have m2 := ((bcell (below_grownBy hloc.grown)).1 _ _ hbz).trans (Hcz.out (j * (N + 1) + i) (by rw [Hx.out]; exact idx_lt N j i (by omega) (by omega)))
        have hwsb2 : w.heap.size ≠ sb := by omega
        have hbz2 : bz ≠ sb := by omega
        have h1 := idx_bd N i hN (by omega)
        have hn1 := idx_nat N i j
        have h2 := idx_bd N j hN (by omega)
        have hn2 := idx_nat N j i
        have hL1 : (i : Int) * ((N : Int) + 1) + (j : Int) < xs.length := by
          have e : ((i * (N + 1) + j : Nat) : Int) = (i : Int) * ((N : Int) + 1) + j := by push_cast; rfl
          have := idx_lt N i j (by omega) (by omega); rw [← Hx.out] at this; omega
        have hL2 : (j : Int) * ((N : Int) + 1) + (i : Int) < xs.length := by
          have e : ((j * (N + 1) + i : Nat) : Int) = (j : Int) * ((N : Int) + 1) + i := by push_cast; rfl
          have := idx_lt N j i (by omega) (by omega); rw [← Hx.out] at this; omega
        have hi0 : (0 : Int) ≤ (i : Int) := by omega
        have hz1 : (0 : Int) ≤ (i : Int) * ((N : Int) + 1) + (j : Int) := by omega
        have hz2 : (0 : Int) ≤ (j : Int) * ((N : Int) + 1) + (i : Int) := by omega
        have hw1 : IntKind.i64.wrap ((i : Int) * ((N : Int) + 1)) = (i : Int) * ((N : Int) + 1) := IntWalk.i64_in _ (by omega)
        have hw2 : IntKind.i64.wrap ((i : Int) * ((N : Int) + 1) + (j : Int)) = (i : Int) * ((N : Int) + 1) + (j : Int) := IntWalk.i64_in _ (by omega)
        have hw3 : IntKind.i64.wrap ((j : Int) * ((N : Int) + 1)) = (j : Int) * ((N : Int) + 1) := IntWalk.i64_in _ (by omega)
        have hw4 : IntKind.i64.wrap ((j : Int) * ((N : Int) + 1) + (i : Int)) = (j : Int) * ((N : Int) + 1) + (i : Int) := IntWalk.i64_in _ (by omega)
        go_upto_region 12 with fail
        have hxb := heap_alloc_new wr (.cells #[.int .i64 pn, .int .i64 pd] 48)
        have bA : Below wr.heap.size wr (wr.alloc (.cells #[.int .i64 pn, .int .i64 pd] 48)) := (Below.refl _ _).alloc (Nat.le_refl _) _
        have x0 := cell_of_row _ wr.heap.size 0 _ _ _ hxb
        have x1 := cell_of_row _ wr.heap.size 1 _ _ _ hxb
        have z0' := keepb z0 bA
        have z1' := keepb z1 bA
        have m1' := keepb m1 bA
        have m2' := keepb m2 bA
        have hS' := (bA.block sb hsz2).trans hS
        have hxsb : wr.heap.size ≠ sb := by omega
        have hGA : wr.grownBy (wr.alloc (.cells #[.int .i64 pn, .int .i64 pd] 48)) (some sb) := grownBy_below bA _
        clear z0 z1 m1 m2 hS q0 q1 hxb bA
        generalize hV : wr.alloc (.cells #[.int .i64 pn, .int .i64 pd] 48) = V at *
        clear hV
        go_wp2_with fail
        go_region_held3 (fun w' => w'.cell? ⟨w.heap.size, 0, none⟩ = some (.int .i64 N) ∧ w'.cell? ⟨w.heap.size, 1, none⟩ = some (.slice (some ⟨bz, oz, none⟩) xs.length capz) ∧ w'.cell? ⟨wr.heap.size, 0, none⟩ = some (.int .i64 pn) ∧ w'.cell? ⟨wr.heap.size, 1, none⟩ = some (.int .i64 pd) ∧ w'.cell? ⟨bz, oz + (i * (N + 1) + j), none⟩ = some (.int .i64 (gi xs (i * (N + 1) + j))))
          (first | exact ⟨by assumption, by assumption, by assumption, by assumption, by assumption⟩ | go_keep)
          (first
            | (go_at_call 88; refine (prog_cut sb _ pn pd _ false _ I5 I1 I2 (show V.drew.heap[sb]? = _ from hS')).mono ?_; rintro e w5 ⟨rfl, hS5, hg5⟩; have p0 := keepg (show V.drew.cell? _ = _ from z0') hg5 hwsb2; have p1 := keepg (show V.drew.cell? _ = _ from z1') hg5 hwsb2; have p2 := keepg (show V.drew.cell? _ = _ from x0) hg5 hxsb; have p3 := keepg (show V.drew.cell? _ = _ from x1) hg5 hxsb; have p4 := keepg (show V.drew.cell? _ = _ from m1') hg5 hbz2))
        have p5 := keepg (show V.drew.cell? _ = _ from m2') hg5 hbz2
        have hG5 : wr.grownBy w5 (some sb) := grownBy_trans hGA (grownBy_trans (grownBy_drew _ _) hg5)
        clear z0' z1' x0 x1 m1' m2' hS' hGA hg5 p4
        go_wp2_with fail
        go_region_held3 (fun w' => w'.cell? ⟨w.heap.size, 0, none⟩ = some (.int .i64 N) ∧ w'.cell? ⟨w.heap.size, 1, none⟩ = some (.slice (some ⟨bz, oz, none⟩) xs.length capz) ∧ w'.cell? ⟨wr.heap.size, 0, none⟩ = some (.int .i64 pn) ∧ w'.cell? ⟨wr.heap.size, 1, none⟩ = some (.int .i64 pd) ∧ w'.cell? ⟨bz, oz + (j * (N + 1) + i), none⟩ = some (.int .i64 (gi xs (j * (N + 1) + i))))
          (first | exact ⟨by assumption, by assumption, by assumption, by assumption, by assumption⟩ | go_keep)
          (first
            | (go_at_call 88; refine (prog_cut sb _ pn pd _ true _ I5 I3 I4 (show w5.drew.heap[sb]? = _ from hS5)).mono ?_; rintro e w6 ⟨rfl, hS6, hg6⟩; have r0 := keepg (show w5.drew.cell? _ = _ from p0) hg6 hwsb2; have r1 := keepg (show w5.drew.cell? _ = _ from p1) hg6 hwsb2; have r2 := keepg (show w5.drew.cell? _ = _ from p2) hg6 hxsb; have r3 := keepg (show w5.drew.cell? _ = _ from p3) hg6 hxsb; have r4 := keepg (show w5.drew.cell? _ = _ from p5) hg6 hbz2))
        have hG6 : wr.grownBy w6 (some sb) := grownBy_trans hG5 (grownBy_trans (grownBy_drew _ _) hg6)
        go_wp2_with fail
        go_roundw
        case rel => exact ⟨j + 1, by omega, by go_num, by rw [HS2.out]; exact hS6, World.ownsRow.kept Hown.out hG6 (.inr (by intro e; exact hgsb (Option.some.inj e))), hloc.anyrow hG6 (fun g' e => by cases e; show w.heap.size + 1 ≤ sb; omega)⟩
        case measure => simp [intOf]; omega
      · have htj : decide ((j : Int) < (i : Int)) = false := by simp; omega
        obtain rfl : j = i := by omega
        obtain ⟨o1, o2, o3⟩ := HQ.out.ok j hi1 (by omega)
        have hlen2 := HQ.out.len
        have Htk := Lib.hid (show q.take (j + 1) = q.take j ++ [gq q j] by
          rw [List.take_succ_eq_append_getElem (by omega), gq_of (by omega)])
        rw [o3] at Htk
        generalize spanTo N xs q j j = S at hS o1 o2 o3 Htk
        obtain ⟨ln, ld, hn, hd, lo, ho, nh, wd⟩ := S
        simp only at o1 o2 o3 Htk
        subst o1 o2
        have s0 : wr.cell? ⟨sb, 0, none⟩ = some (.int .i64 ln) := cell_of_row _ sb 0 _ _ _ hS
        have s1 : wr.cell? ⟨sb, 1, none⟩ = some (.int .i64 ld) := cell_of_row _ sb 1 _ _ _ hS
        have s4 : wr.cell? ⟨sb, 4, none⟩ = some (.bool false) := cell_of_row _ sb 4 _ _ _ hS
        have s7 : wr.cell? ⟨sb, 7, none⟩ = some (.bool false) := cell_of_row _ sb 7 _ _ _ hS
        have bA : Below wr.heap.size wr (wr.alloc (.cells #[.int .i64 ln, .int .i64 ld] 48)) := (Below.refl _ _).alloc (Nat.le_refl _) _
        have s4' := keepb s4 bA
        have s7' := keepb s7 bA
        have x0 := cell_of_row _ wr.heap.size 0 _ _ _ (heap_alloc_new wr (.cells #[.int .i64 ln, .int .i64 ld] 48))
        have x1 := cell_of_row _ wr.heap.size 1 _ _ _ (heap_alloc_new wr (.cells #[.int .i64 ln, .int .i64 ld] 48))
        have hownA : OQ 48 (w.heap.size + 1) (wr.alloc (.cells #[.int .i64 ln, .int .i64 ld] 48)) (.slice (some ⟨g, 0, none⟩) j cap) (q.take j) := World.ownsRow.alloc Hown.out _
        have hlocA := hloc.next (World.grownBy_alloc wr (.cells #[.int .i64 ln, .int .i64 ld] 48) none) (fun _ h => by cases h)
        obtain ⟨i0, hi, hz0, hz1, hz2⟩ := info_parts Try.infoQ
        have Hi := Lib.hid hi
        have Hz0 := Lib.hid hz0
        have Hz1 := Lib.hid hz1
        have Hz2 := Lib.hid hz2
        clear hi hz0 hz1 hz2 s4 s7 bA hS hloc
        go_upto_region 16 with fail
        generalize wr.alloc (.cells #[.int .i64 ln, .int .i64 ld] 48) = W at *
        have hlocB := hlocA.next (World.grownBy_alloc W (.cells #[.int .i64 ln, .int .i64 ld] 48) none) (fun _ h => by cases h)
        have hownB := Lib.hid (World.ownsRow.alloc hownA (.cells #[.int .i64 ln, .int .i64 ld] 48))
        have hrl := Lib.hid (rs_one2 W ln ld 48)
        have hWs : w.heap.size + 1 ≤ W.heap.size := hlocA.size
        have hfl := Lib.hid (show (q.take j).length = j from htl)
        rw [htl] at hownB
        go_wp2_with (at_builtin; (refine wpList_append_rs rfl (.tmp 105) (.tmp 107) 90 rfl (w.heap.size + 1) 48 i0 (.agg #[.int .i64 0, .int .i64 0]) 2 16 Try.undPt Hi.out Hz0.out Hz1.out Hz2.out rfl (by decide) (.slice (some ⟨g, 0, none⟩) j cap) j ((q.take j).flatMap cells2) rfl hownB.out (W.heap.size + 1) (.slice (some ⟨W.heap.size, 0, none⟩) 1 1) rfl 1 [.int .i64 ln, .int .i64 ld] hrl.out rfl ?_ ?_ ?_ ?_ ?_; (intro u hu; simp only [List.mem_cons, List.not_mem_nil, or_false] at hu; rcases hu with rfl | rfl <;> rfl); (unfold maxLen; omega); omega; (simp; omega); intro v' w' ho' hg'))
        go_roundw
        case rel => exact ⟨j + 1, by omega, by omega, by go_num, by rw [Htk.out]; unfold OQ; rw [List.length_append, hfl.out, List.flatMap_append]; exact ho', hlocB.anyrow hg' (fun g' e => by cases e; exact hgb)⟩
        case measure => simp [intOf]; omega
end Go.Proofs.Ytkgaipcgdldfdaa
