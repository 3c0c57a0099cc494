/- Part of the proof of priced_clears_proved: Zof. -/
import Derived.Deep.RegionLaw
import Derived.Test.YtfphlpglgcmljaaGreatXcZref
namespace Go.Proofs.YtfphlpglgcmljaaGreat
open Go.RowKit
theorem Tryz.infoLimit : (Tryz.prog.info? 63).map (fun i => (i.zero, i.size, i.bytes)) = some (some (.int .i64 0), 1, 8) := by kernel_rfl
theorem Tryz.undLimits : Tryz.prog.underlying 30 = some (.slice 63) := by kernel_rfl
theorem Tryz.infoLimits : (Tryz.prog.info? 30).map (fun i => (i.zero, i.size, i.bytes)) = some (some (.slice none 0 0), 1, 24) := by kernel_rfl
theorem Tryz.undRows : Tryz.prog.underlying 137 = some (.slice 30) := by kernel_rfl
set_option maxHeartbeats 400000 in
theorem prog_clone (v : Value) (xs : List Int) (w : World) (hv : RL w.heap.size w v xs) (hp : 0 < xs.length) (hx : xs.length ≤ 1000) :
  Calls Tryz.prog 181 #[v] w fun e w' => ∃ v', e = .returned v' ∧ OL 63 w.heap.size w' v' xs ∧ Below w.heap.size w w' := by
 obtain ⟨i0, hi, hz0, hz1, hz2⟩ := info_parts Tryz.infoLimit
 obtain ⟨ao, cap, rfl, hle, h0⟩ := hv.open
 obtain ⟨b, off, rfl, hb, hc⟩ := h0 hp
 have Hv := Lib.hid (show RL w.heap.size (w.alloc (.cells #[] 63)) (.slice (some ⟨b, off, none⟩) xs.length cap) xs from RS.keep hv ((Below.refl _ _).alloc (Nat.le_refl _) _))
 have Ho : Hid ((w.alloc (.cells #[] 63)).ownsRow w.heap.size 63 1 (.slice (some ⟨w.heap.size, 0, none⟩) 0 0) 0 []) := Lib.hid (owns_empty (heap_alloc_new w _) (Nat.le_refl _))
 have Hm := Lib.hid (show 0 + xs.length ≤ maxLen by unfold maxLen; omega)
 have Hby := Lib.hid (show (0 + xs.length) * 8 ≤ 140737488355328 by omega)
 have Hba := Lib.hid (show w.heap.size ≤ (w.alloc (.cells #[] 63)).heap.size by simp)
 have Hl := Lib.hid (show (xs.map (Value.int .i64)).length = xs.length * 1 by simp)
 have Hi := Lib.hid hi
 have Hz0 := Lib.hid hz0
 have Hz1 := Lib.hid hz1
 have Hz2 := Lib.hid hz2
 clear hv hi hz0 hz1 hz2 hx h0 hc hp
 have heq : ∀ (W : World) (a : Option Addr) (n c : Nat), (binOp .eql 30 (.slice a n c) (.slice none 0 0)).run Tryz.prog W = .ok (.bool a.isNone) W := fun W a n c => Lib.run_eql_slice_nil W 30 63 a n c 0 0 Tryz.undLimits
 go_enter Tryz.func181, Tryz.ntmps181
 go_wp2_with (at_builtin; (refine wpList_append_rs (v := .slice (some ⟨w.heap.size, 0, none⟩) 0 0) (n := 0) (xs := []) (xv := .slice (some ⟨b, off, none⟩) xs.length cap) (m := xs.length) (news := xs.map (Value.int .i64)) ?_ (.tmp 5) (.tmp 6) 30 ?_ w.heap.size 63 i0 (.int .i64 0) 1 8 Tryz.undLimits Hi.out Hz0.out Hz1.out Hz2.out ?_ ?_ ?_ ?_ w.heap.size ?_ ?_ ?_ ?_ ?_ ?_ ?_ ?_; rfl; rfl; rfl; decide; rfl; exact Ho.out; rfl; exact Hv.out; exact Hl.out; exact ints_oneCell' _; exact Hm.out; exact Hby.out; exact Hba.out; intro v' w1 hown1 hg1; obtain ⟨ao1, cap1, rfl⟩ := owns_form hown1))
 go_ret
 have hn : 0 + xs.length = xs.length := Nat.zero_add _
 rw [hn] at hown1
 simp only [List.nil_append] at hown1
 exact ⟨_, rfl, hown1, (Loc.one w (.cells #[] 63) none).below0 hg1⟩
def rowsOf (ga N q : Nat) : List Value := (List.range q).map fun i => .slice (some ⟨ga, i * (N + 1), none⟩) (N + 1) (N + 1)
theorem rowsOf_succ (ga N q : Nat) : rowsOf ga N (q + 1) = rowsOf ga N q ++ [.slice (some ⟨ga, q * (N + 1), none⟩) (N + 1) (N + 1)] := by
 simp [rowsOf, List.range_succ]
def Mat (base : Nat) (w : World) (N : Nat) (rv av : Value) (xs : List Int) : Prop :=
 ∃ ga, av.ownBlock = some ga ∧ OL 63 base w av xs ∧ w.ownsRow base 30 1 rv (N + 1) (rowsOf ga N (N + 1)) ∧ rv.ownBlock ≠ some ga
structure OfRel (N ga : Nat) (av : Value) (w1 wr : World) (q : Nat) (rv : Value) : Prop where
 box : wr.heap[w1.heap.size]? = some (.cells #[.int .i64 N, rv, av] 175 (0, 0))
 own : wr.ownsRow (w1.heap.size + 1) 30 1 rv q (rowsOf ga N q)
 keep : Below w1.heap.size w1 wr
theorem OfRel.step {N ga : Nat} {av row rv rv' : Value} {w1 wr w2 : World} {q e : Nat} (h : OfRel N ga av w1 wr q rv)
  (hown : w2.ownsRow (w1.heap.size + 1) 30 1 rv' (q + 1) (rowsOf ga N q ++ [.slice (some ⟨ga, q * (N + 1), none⟩) (N + 1) (N + 1)]))
  (hg : (wr.alloc (.cells #[row] e)).drew.grownBy w2 rv.ownBlock) (hbx : w2.heap[w1.heap.size]? = some (.cells #[.int .i64 N, rv, av] 175 (0, 0))) :
  OfRel N ga av w1 (w2.setCell ⟨w1.heap.size, 1, none⟩ rv') (q + 1) rv' where
 box := by have := heap_setCell_same w2 w1.heap.size 1 _ _ rv' hbx; rw [this]; rfl
 own := by rw [rowsOf_succ]; exact ownsRow_setCell_below hown (by simp) _
 keep := by
  have hsz : w1.heap.size < wr.heap.size := (Array.getElem?_eq_some_iff.1 h.box).1
  have h1 : Below w1.heap.size w1 (wr.alloc (.cells #[row] e)).drew := (h.keep.alloc (by omega) _).drew
  exact (h1.grown hg (by show _ ≤ (wr.alloc _).heap.size; simp; omega) (fun k hk => by have := (h.own.lt k hk).1; omega)).setCell (by simp) _
theorem row_nat (N q : Nat) : ((q * (N + 1) : Nat) : Int) = (q : Int) * ((N : Int) + 1) := by push_cast; rfl
theorem row_nat2 (N q : Nat) : (q : Int) * ((N : Int) + 1) + (N : Int) + 1 = ((q * (N + 1) : Nat) : Int) + ((N + 1 : Nat) : Int) := by push_cast; exact Int.add_assoc _ _ _
theorem row_bd (N q : Nat) (hq : q ≤ N) : (q : Int) * ((N : Int) + 1) + (N : Int) + 1 ≤ (((N + 1) * (N + 1) : Nat) : Int) := by
 have h : (q + 1) * (N + 1) ≤ (N + 1) * (N + 1) := Nat.mul_le_mul_right _ (by omega)
 have e : (((q + 1) * (N + 1) : Nat) : Int) = (q : Int) * ((N : Int) + 1) + (N : Int) + 1 := by rw [Nat.add_mul]; push_cast; omega
 omega
set_option maxHeartbeats 1000000 in
theorem prog_of (N : Nat) (v : Value) (xs : List Int) (w : World) (hv : RL w.heap.size w v xs) (hN : N ≤ 10) (hx : xs.length = (N + 1) * (N + 1)) :
  Calls Tryz.prog 167 #[.int .i64 N, v] w fun e w' => ∃ rv av, e = .returned (.agg #[.int .i64 N, rv, av]) ∧ Mat w.heap.size w' N rv av xs ∧ Below w.heap.size w w' := by
 have hxb : xs.length ≤ 121 := by rw [hx]; exact Nat.mul_le_mul (by omega : N + 1 ≤ 11) (by omega : N + 1 ≤ 11)
 have hpos : 0 < xs.length := by rw [hx]; exact Nat.mul_pos (by omega) (by omega)
 have Hx := Lib.hid hx
 have Hxb := Lib.hid hxb
 have Hpos := Lib.hid hpos
 obtain ⟨i0, hi, hz0, hz1, hz2⟩ := info_parts Tryz.infoLimits
 have Hi := Lib.hid hi
 have Hz0 := Lib.hid hz0
 have Hz1 := Lib.hid hz1
 have Hz2 := Lib.hid hz2
 obtain ⟨j0, hj, hj0, hj1, hj2⟩ := info_parts Tryz.infoLimit
 obtain ⟨ao, cap, rfl, hle, h0⟩ := hv.open
 have Hv := Lib.hid (hv.keepb ((Below.refl w.heap.size w).alloc (Nat.le_refl _) (.cells #[.int .i64 0, .slice none 0 0, .slice none 0 0] 175)))
 have Hloc := Lib.hid (Loc.one w (.cells #[.int .i64 0, .slice none 0 0, .slice none 0 0] 175) none)
 clear hv hx hxb hpos hi hz0 hz1 hz2 h0
 go_enter Tryz.func167, Tryz.ntmps167
 go_wp2_with fail
 refine (prog_clone _ xs _ Hv.out Hpos.out (by have := Hxb.out; omega)).mono ?_
 rintro e w1 ⟨v1, rfl, hown1, hb1⟩
 obtain ⟨ga, capa, rfl, hbg, hgl, hle1, hcells⟩ := hown1.open Hpos.out
 have Hown1 := Lib.hid hown1
 have Hcells := Lib.hid hcells
 have hloc1 := Hloc.out.next (grownBy_below hb1 none) (fun _ h => by cases h)
 have Hb1 := Lib.hid hb1
 have Hs1 := Lib.hid hb1.size
 clear hown1 hb1 hcells
 go_wp2_with fail
 go_loopw [14] (fun i wr => ∃ q : Nat, q ≤ N + 1 ∧ i = .int .i64 q ∧ ∃ rv, OfRel N ga (.slice (some ⟨ga, 0, none⟩) xs.length capa) w1 wr q rv) (fun i _ => N + 1 - (intOf i).toNat)
 case atStart => exact ⟨0, by omega, rfl, _, heap_alloc_new w1 _, World.ownsRow_nil _ _ _ _, (Below.refl _ _).alloc (Nat.le_refl _) _⟩
 case round =>
  obtain ⟨q, hq, rfl, rv, hrel⟩ := hrel
  obtain ⟨aor, capr, rfl⟩ := owns_form hrel.own
  have hsz : w1.heap.size < wr.heap.size := (Array.getElem?_eq_some_iff.1 hrel.box).1
  have c1 : wr.cell? ⟨w1.heap.size, 1, none⟩ = some (.slice aor q capr) := cell_of_row wr _ 1 _ _ _ hrel.box
  have c2 : wr.cell? ⟨w1.heap.size, 2, none⟩ = some (.slice (some ⟨ga, 0, none⟩) xs.length capa) := cell_of_row wr _ 2 _ _ _ hrel.box
  have Hrel := Lib.hid hrel
  clear hrel
  by_cases hlt : q < N + 1
  ·have htq : decide ((q : Int) < (N : Int) + 1) = true := by simp; omega
   have b1 := idx_bd N q hN (by omega)
   have b2 := row_bd N q (by omega)
   rw [← Hx.out] at b2
   have b3 : (xs.length : Int) ≤ capa := by obtain ⟨_, h⟩ := Hown1.out; rcases h with ⟨h, _⟩ | ⟨g', cap', cur, h, _, _, h2, _⟩ <;> simp at h; omega
   have e1 : IntKind.i64.wrap ((q : Int) * ((N : Int) + 1)) = (q : Int) * ((N : Int) + 1) := IntWalk.i64_in _ (by omega)
   have e2 : IntKind.i64.wrap ((q : Int) * ((N : Int) + 1) + (N : Int)) = (q : Int) * ((N : Int) + 1) + (N : Int) := IntWalk.i64_in _ (by omega)
   have e3 : IntKind.i64.wrap ((q : Int) * ((N : Int) + 1) + (N : Int) + 1) = (q : Int) * ((N : Int) + 1) + (N : Int) + 1 := IntWalk.i64_in _ (by omega)
   have hcap : q * (N + 1) + (N + 1) ≤ capa := by have := row_nat2 N q; omega
   have hsl : ∀ W : World, (Instr.slice 30 (.slice (some ⟨ga, 0, none⟩) xs.length capa) (some (.int .i64 ((q : Int) * ((N : Int) + 1)))) (some (.int .i64 ((q : Int) * ((N : Int) + 1) + (N : Int) + 1))) (some (.int .i64 ((q : Int) * ((N : Int) + 1) + (N : Int) + 1)))).run Tryz.prog W = .ok (.slice (some ⟨ga, q * (N + 1), none⟩) (N + 1) (N + 1)) W := fun W =>
    run_slice3 W _ _ j0 Tryz.undLimits hj hj1 ga _ capa (q * (N + 1)) (N + 1) _ _ (row_nat N q).symm (row_nat2 N q) hcap (by omega)
   have Ho := Lib.hid (show (wr.alloc (.cells #[.slice (some ⟨ga, q * (N + 1), none⟩) (N + 1) (N + 1)] 30)).drew.ownsRow (w1.heap.size + 1) 30 1 (.slice aor q capr) q (rowsOf ga N q) from (World.ownsRow.alloc Hrel.out.own _).drew)
   have Hr : Hid (RS (wr.heap.size + 1) (wr.alloc (.cells #[.slice (some ⟨ga, q * (N + 1), none⟩) (N + 1) (N + 1)] 30)).drew (.slice (some ⟨wr.heap.size, 0, none⟩) 1 1) 1 [.slice (some ⟨ga, q * (N + 1), none⟩) (N + 1) (N + 1)]) := Lib.hid (rs_one wr _ _)
   have Hl : Hid ([Value.slice (some ⟨ga, q * (N + 1), none⟩) (N + 1) (N + 1)].length = 1 * 1) := Lib.hid rfl
   have H1c : Hid (∀ u ∈ [Value.slice (some ⟨ga, q * (N + 1), none⟩) (N + 1) (N + 1)], u.oneCell' = true) := Lib.hid (by intro u hu; rw [List.mem_singleton] at hu; subst hu; rfl)
   have Hm := Lib.hid (show q + 1 ≤ maxLen by unfold maxLen; omega)
   have Hby := Lib.hid (show (q + 1) * 24 ≤ 140737488355328 by omega)
   have Hba := Lib.hid (show w1.heap.size + 1 ≤ (wr.alloc (.cells #[.slice (some ⟨ga, q * (N + 1), none⟩) (N + 1) (N + 1)] 30)).drew.heap.size by show _ ≤ (wr.alloc _).heap.size; simp; omega)
   have Hbx := Lib.hid (show (wr.alloc (.cells #[.slice (some ⟨ga, q * (N + 1), none⟩) (N + 1) (N + 1)] 30)).drew.heap[w1.heap.size]? = some (.cells #[.int .i64 N, .slice aor q capr, .slice (some ⟨ga, 0, none⟩) xs.length capa] 175 (0, 0)) from (Below.heap_alloc wr _ _ hsz).trans Hrel.out.box)
   clear hj hj0 hj1 hj2
   go_wp2_with fail
   go_region_law ((refine step_append_rs (v := .slice aor q capr) (n := q) (xs := rowsOf ga N q) (xv := .slice (some ⟨wr.heap.size, 0, none⟩) 1 1) (m := 1) (news := [.slice (some ⟨ga, q * (N + 1), none⟩) (N + 1) (N + 1)]) ?_ (.tmp 22) (.tmp 35) 137 ?_ (w1.heap.size + 1) 30 i0 (.slice none 0 0) 1 24 Tryz.undRows Hi.out Hz0.out Hz1.out Hz2.out ?_ ?_ ?_ ?_ (wr.heap.size + 1) ?_ ?_ ?_ ?_ ?_ ?_ ?_ ?_; rfl; rfl; rfl; decide; rfl; exact Ho.out; rfl; exact Hr.out; exact Hl.out; exact H1c.out; exact Hm.out; exact Hby.out; exact Hba.out; intro v2 w2 hown2 hg2; obtain ⟨ao2, cap2, rfl⟩ := owns_form hown2; have hbx := obj_kept Ho.out hg2 Hbx.out (Nat.lt_succ_self _); have m1 := cell_of_row w2 _ 1 _ _ _ hbx; have m2 := cell_of_row w2 _ 2 _ _ _ hbx; have m3 := frozen_of_row w2 _ 1 _ _ hbx))
   all_goals
    go_wp2_with fail
    go_roundw
    case rel => exact ⟨q + 1, by omega, by go_num, _, OfRel.step Hrel.out hown2 hg2 hbx⟩
    case measure => simp [intOf]; omega
  ·have htq : decide ((q : Int) < (N : Int) + 1) = false := by simp; omega
   have HQ := Lib.hid (show q = N + 1 by omega)
   have c0 : wr.cell? ⟨w1.heap.size, 0, none⟩ = some (.int .i64 N) := cell_of_row wr _ 0 _ _ _ Hrel.out.box
   have r0 : wr.cell? ⟨w.heap.size, 0, none⟩ = some (.int .i64 0) := ((bcell Hrel.out.keep).1 _ _ (by have := Hs1.out; simp at this; omega)).trans (hloc1.cell 0 rfl 0)
   have r1 : wr.cell? ⟨w.heap.size, 1, none⟩ = some (.slice none 0 0) := ((bcell Hrel.out.keep).1 _ _ (by have := Hs1.out; simp at this; omega)).trans (hloc1.cell 0 rfl 1)
   have r2 : wr.cell? ⟨w.heap.size, 2, none⟩ = some (.slice none 0 0) := ((bcell Hrel.out.keep).1 _ _ (by have := Hs1.out; simp at this; omega)).trans (hloc1.cell 0 rfl 2)
   have f0 := ((bcell Hrel.out.keep).2 w.heap.size 0 (by have := Hs1.out; simp at this; omega)).trans (hloc1.free 0 rfl 0)
   have f1 := ((bcell Hrel.out.keep).2 w.heap.size 1 (by have := Hs1.out; simp at this; omega)).trans (hloc1.free 0 rfl 1)
   have f2 := ((bcell Hrel.out.keep).2 w.heap.size 2 (by have := Hs1.out; simp at this; omega)).trans (hloc1.free 0 rfl 2)
   clear hj hj0 hj1 hj2
   go_wp2_with fail
   refine bodyPost_ret (v := .agg #[.int .i64 N, .slice aor q capr, .slice (some ⟨ga, 0, none⟩) xs.length capa]) (by simp [results, Tryz.results167, go_sem, r0, r1, r2]) rfl ⟨_, _, rfl, ⟨ga, rfl, ?_, ?_, ?_⟩, ?_⟩
   ·have h := OL.mono (OL.keepb Hown1.out Hrel.out.keep) (show w.heap.size + 1 ≤ _ by simp)
    refine OL.mono (base := w.heap.size + 1) ?_ (by omega)
    exact own_set3 h (Nat.lt_succ_self _) _ _ _
   ·have h := owns_mono Hrel.out.own (show w.heap.size + 1 ≤ w1.heap.size + 1 by have := Hs1.out; simp at this; omega)
    have h' : ∀ m, q = m → wr.ownsRow (w.heap.size + 1) 30 1 (.slice aor q capr) m (rowsOf ga N m) := by intro m e; subst e; exact h
    have h := h' _ HQ.out
    refine owns_mono (base := w.heap.size + 1) ?_ (by omega)
    exact own_set3 h (Nat.lt_succ_self _) _ _ _
   ·intro e
    have := (Hrel.out.own.lt ga e).1
    omega
   ·exact ((((below_grownBy hloc1.grown).trans (Hrel.out.keep.mono (by have := Hs1.out; simp at this; omega))).setCell (by simp) _).setCell (by simp) _).setCell (by simp) _
end Go.Proofs.YtfphlpglgcmljaaGreat
