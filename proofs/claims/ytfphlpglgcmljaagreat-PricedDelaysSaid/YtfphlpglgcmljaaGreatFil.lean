/- A zone of one limit: the reference's filled, Zero, All. -/
import Derived.Test.YtfphlpglgcmljaaGreatZref
import Derived.Test.YtfphlpglgcmljaaGreatZref4
import Derived.Test.YtfphlpglgcmljaaGreatZof
namespace Go.Proofs.YtfphlpglgcmljaaGreat
open Go.RowKit
set_option linter.unusedVariables false

/-- A row of M zeros whose first so many elements have been set. -/
def fillTo (M : Nat) (l : Int) : Nat → List Int
  | 0 => List.replicate M 0
  | q + 1 => (fillTo M l q).set q l
theorem fillTo_len (M : Nat) (l : Int) (q : Nat) : (fillTo M l q).length = M := by
  induction q with
  | zero => simp [fillTo]
  | succ q ih => simp [fillTo, ih]
theorem fillTo_get (M : Nat) (l : Int) (q : Nat) : ∀ k, k < M → (fillTo M l q)[k]? = some (if k < q then l else 0) := by
  induction q with
  | zero => intro k hk; simp [fillTo, hk]
  | succ q ih =>
    intro k hk
    rw [fillTo, List.getElem?_set]
    by_cases e : q = k
    · subst e; rw [if_pos rfl, if_pos (by rw [fillTo_len]; exact hk), if_pos (by omega)]
    · rw [if_neg e, ih k hk]
      by_cases c : k < q
      · rw [if_pos c, if_pos (by omega)]
      · rw [if_neg c, if_neg (by omega)]
theorem fillTo_all (M : Nat) (l : Int) : fillTo M l M = List.replicate M l := by
  apply List.ext_getElem?
  intro k
  by_cases hk : k < M
  · rw [fillTo_get M l M k hk, if_pos hk, List.getElem?_replicate, if_pos hk]
  · rw [List.getElem?_eq_none (by rw [fillTo_len]; omega), List.getElem?_eq_none (by simp; omega)]
/-- The zone of a matrix of one limit. -/
def fillF (n l : Int) : Int × List Int := if 0 ≤ n ∧ n ≤ 10 then closedF n.toNat (List.replicate ((n.toNat + 1) * (n.toNat + 1)) l) else (2, [])
theorem fillF_no {n l : Int} (h : ¬ (0 ≤ n ∧ n ≤ 10)) : fillF n l = (2, []) := by unfold fillF; rw [if_neg h]
theorem fillF_yes {N : Nat} {l : Int} (h : N ≤ 10) : fillF N l = closedF N (List.replicate ((N + 1) * (N + 1)) l) := by unfold fillF; rw [if_pos ⟨by omega, by omega⟩, Int.toNat_natCast]

set_option maxHeartbeats 1000000 in
theorem ref_filled_bad (n l : Int) (w : World) (hn : ¬ (0 ≤ n ∧ n ≤ 10)) :
    Calls Tryz.prog 178 #[.int .i64 n, .int .i64 l] w fun e w' => ZPost 63 w.heap.size n (fillF n l) e w' ∧ Below w.heap.size w w' := by
  have hd : decide (0 ≤ n ∧ n ≤ 10) = false := by simpa using hn
  have hres := Lib.hid (fillF_no (l := l) hn)
  clear hn
  go_enter Tryz.func178, Tryz.ntmps178
  go_wp2_with (go_at_call 158; refine (ref_dimension _ _).mono ?_; rw [hd]; rintro e w1 ⟨rfl, rfl⟩)
  refine bodyPost_ret (v := .tuple #[.agg #[.int .i64 0, .slice none 0 0], .int .i64 2]) (by simp [results, Tryz.results178, go_sem]) rfl ⟨ZPost.err hres.out (by omega) _, ?_⟩
  exact (Below.refl _ _).alloc (Nat.le_refl _) _

set_option maxRecDepth 100000 in
set_option maxHeartbeats 2000000 in
theorem ref_filled_in (N : Nat) (l : Int) (w : World) (hN : N ≤ 10) :
    Calls Tryz.prog 178 #[.int .i64 N, .int .i64 l] w fun e w' => ZPost 63 w.heap.size N (fillF N l) e w' ∧ Below w.heap.size w w' := by
  have hd : decide (0 ≤ (N : Int) ∧ (N : Int) ≤ 10) = true := by simp; omega
  have hres := Lib.hid (fillF_yes (l := l) hN)
  have hM0 : (N + 1) * (N + 1) ≤ 11 * 11 := Nat.mul_le_mul (by omega) (by omega)
  have hMp : 0 < (N + 1) * (N + 1) := Nat.mul_pos (by omega) (by omega)
  have hcast : ((N : Int) + 1) * ((N : Int) + 1) = (((N + 1) * (N + 1) : Nat) : Int) := by push_cast; rfl
  have hmul : IntKind.i64.wrap (((N : Int) + 1) * ((N : Int) + 1)) = (((N + 1) * (N + 1) : Nat) : Int) := by rw [hcast]; exact IntWalk.i64_in _ (by omega)
  obtain ⟨i0, hi, hz0, hz1, hz2⟩ := info_parts Tryz.infoLimit
  have Hi := Lib.hid hi
  have Hz0 := Lib.hid hz0
  have Hz1 := Lib.hid hz1
  have Hz2 := Lib.hid hz2
  have Hloc := Lib.hid (Loc.one w (.cells #[.int .i64 0, .slice none 0 0] 32) none)
  clear hi hz0 hz1 hz2
  generalize hM : (N + 1) * (N + 1) = M at *
  have HM := Lib.hid hM
  clear hM hcast
  go_enter Tryz.func178, Tryz.ntmps178
  go_wp2_with (first
    | (go_at_call 158; refine (ref_dimension _ _).mono ?_; rw [hd]; rintro e w1 ⟨rfl, rfl⟩)
    | (refine wpList_make_full _ rfl (.tmp 17) (.tmp 17) 30 rfl (w.heap.size + 1) 63 i0 (.int .i64 0) 1 Tryz.undLimits Hi.out Hz0.out Hz1.out .i64 .i64 M M M rfl rfl rfl rfl ?_ ?_ ?_ ?_; (rw [Hz2.out]; omega); (unfold maxLen; omega); (simp); (intro w1 hown1 hg1)))
  have hown1' : OL 63 (w.heap.size + 1) w1 (.slice (some ⟨w.heap.size + 1, 0, none⟩) M M) (fillTo M l 0) := by
    have e : (madeCells (Value.int .i64 0).cells (M * 1)).toList = (fillTo M l 0).map (Value.int .i64) := by
      rw [Nat.mul_one]; show (madeCells #[Value.int .i64 0] M).toList = _
      rw [toList_madeCells_one]; simp [fillTo]
    rw [e] at hown1
    unfold OL
    rw [fillTo_len]
    simpa using hown1
  have hs1 : w.heap.size + 1 < w1.heap.size := by
    obtain ⟨g', cap', e1, _, e3, _⟩ := hown1'.open (by rw [fillTo_len]; exact hMp)
    simp only [Value.slice.injEq, Option.some.injEq, Addr.mk.injEq, and_true] at e1
    omega
  have hloc1 := Hloc.out.next hg1 (fun _ h => by cases h)
  clear hown1 hg1
  generalize hG : w.heap.size + 1 = g at *
  have Hlb := Lib.hid (Loc.one w1 (.cells #[.int .i64 N, .slice (some ⟨g, 0, none⟩) M M] 32) (some g))
  have Ho0 := Lib.hid (World.ownsRow.alloc hown1' (.cells #[.int .i64 N, .slice (some ⟨g, 0, none⟩) M M] 32))
  clear hown1'
  go_loopw [7] (fun i wr => ∃ q : Nat, q ≤ M ∧ i = .int .i64 q ∧ OL 63 g wr (.slice (some ⟨g, 0, none⟩) M M) (fillTo M l q) ∧ Loc w1 wr (some g) [.cells #[.int .i64 N, .slice (some ⟨g, 0, none⟩) M M] 32]) (fun i _ => M - (intOf i).toNat)
  case atStart => exact ⟨0, by omega, rfl, Ho0.out, Hlb.out⟩
  case round =>
    obtain ⟨q, hq, rfl, hown, hloc⟩ := hrel
    have c0 : wr.cell? ⟨w1.heap.size, 0, none⟩ = some (.int .i64 N) := hloc.cell 0 rfl 0
    have c1 : wr.cell? ⟨w1.heap.size, 1, none⟩ = some (.slice (some ⟨g, 0, none⟩) M M) := hloc.cell 0 rfl 1
    by_cases hlt : q < M
    · have htd : decide ((q : Int) < (M : Int)) = true := by simp; omega
      obtain ⟨x1, x2⟩ := ol_cell hown (k := q) (by rw [fillTo_len]; exact hlt)
      have hq0 : (0 : Int) ≤ (q : Int) := by omega
      have hq1 : (q : Int) < (M : Int) := by omega
      have Hst := Lib.hid (hown.stored (by rw [fillTo_len]) q l)
      clear hown
      go_wp2_with fail
      go_roundw
      case rel => exact ⟨q + 1, by omega, by go_num, Hst.out.1, hloc.next Hst.out.2 (loc_row (by omega))⟩
      case measure => simp [intOf]; omega
    · have htd : decide ((q : Int) < (M : Int)) = false := by simp; omega
      obtain rfl : q = M := by omega
      rw [fillTo_all] at hown
      go_wp2_with fail
      have HB := Lib.hid (show Below w.heap.size w wr from (below_grownBy hloc1.grown).grown hloc.grown (by omega) (fun k hk => by cases hk; omega))
      have r0' : wr.cell? ⟨w.heap.size, 0, none⟩ = some (.int .i64 0) := ((gcell hloc.grown).1 _ _ (by omega) (by omega)).trans (hloc1.cell 0 rfl 0)
      have r1' : wr.cell? ⟨w.heap.size, 1, none⟩ = some (.slice none 0 0) := ((gcell hloc.grown).1 _ _ (by omega) (by omega)).trans (hloc1.cell 0 rfl 1)
      have r2' : wr.frozen? ⟨w.heap.size, 0, none⟩ = false := ((gcell hloc.grown).2 _ _ (by omega) (by omega)).trans (hloc1.free 0 rfl 0)
      have r3' : wr.frozen? ⟨w.heap.size, 1, none⟩ = false := ((gcell hloc.grown).2 _ _ (by omega) (by omega)).trans (hloc1.free 0 rfl 1)
      go_wp2_with fail
      refine (ref_closed N _ (List.replicate q l) g wr (by unfold OL; rw [List.length_replicate]; unfold OL at hown; rwa [List.length_replicate] at hown) (by have := hloc.size; simp at this; omega) hN (by rw [List.length_replicate]; exact HM.out.symm)).mono ?_
      have hres2 := hres.out
      rw [← hres2]
      generalize hR : fillF N l = R
      have HR := Lib.hid hR
      clear hR
      rintro e w5 ⟨⟨v5, rfl, ho5⟩, hb5⟩
      obtain ⟨ao5, cap5, rfl⟩ := owns_form ho5
      have r0 : w5.cell? ⟨w.heap.size, 0, none⟩ = some (.int .i64 0) := ((bcell hb5).1 _ _ (by omega)).trans r0'
      have r1 : w5.cell? ⟨w.heap.size, 1, none⟩ = some (.slice none 0 0) := ((bcell hb5).1 _ _ (by omega)).trans r1'
      have r2 : w5.frozen? ⟨w.heap.size, 0, none⟩ = false := ((bcell hb5).2 _ _ (by omega)).trans r2'
      have r3 : w5.frozen? ⟨w.heap.size, 1, none⟩ = false := ((bcell hb5).2 _ _ (by omega)).trans r3'
      have Ho5 := Lib.hid ho5
      have HB5 := Lib.hid (show Below w.heap.size w w5 from HB.out.trans (hb5.mono (by omega)))
      clear ho5 hb5 hloc hloc1 hown c0 c1 r0' r1' r2' r3'
      go_wp2_with fail
      refine bodyPost_ret (v := .tuple #[.agg #[.int .i64 (zdim R N), .slice ao5 R.2.length cap5], .int .i64 R.1]) (by simp [results, Tryz.results178, go_sem, r0, r1]) rfl ⟨⟨_, by rw [HR.out], ?_⟩, ?_⟩
      · rw [HR.out]; exact OL.mono (base := g) (own_set2 Ho5.out (by omega) _ _) (by omega)
      · exact (HB5.out.setCell (by simp) _).setCell (by simp) _
theorem ref_filled (n l : Int) (w : World) :
    Calls Tryz.prog 178 #[.int .i64 n, .int .i64 l] w fun e w' => ZPost 63 w.heap.size n (fillF n l) e w' ∧ Below w.heap.size w w' := by
  by_cases h : 0 ≤ n ∧ n ≤ 10
  · obtain ⟨N, rfl⟩ := Int.eq_ofNat_of_zero_le h.1
    exact ref_filled_in N l w (by omega)
  · exact ref_filled_bad n l w h

set_option maxHeartbeats 1000000 in
theorem ref_all (n : Int) (w : World) :
    Calls Tryz.prog 160 #[.int .i64 n] w fun e w' => ZPost 63 w.heap.size n (fillF n 1099511627776) e w' ∧ Below w.heap.size w w' := by
  have Hloc := Lib.hid (Loc.one w (.cells #[.int .i64 0, .slice none 0 0] 32) none)
  go_enter Tryz.func160, Tryz.ntmps160
  go_wp2_with fail
  refine (ref_filled n _ _).mono ?_
  generalize hR : fillF n _ = R
  have HR := Lib.hid hR
  clear hR
  rintro e w5 ⟨⟨v5, rfl, ho5⟩, hb5⟩
  obtain ⟨ao5, cap5, rfl⟩ := owns_form ho5
  have hloc5 := Hloc.out.next (grownBy_below hb5 none) (fun _ h => by cases h)
  have r0 : w5.cell? ⟨w.heap.size, 0, none⟩ = some (.int .i64 0) := hloc5.cell 0 rfl 0
  have r1 : w5.cell? ⟨w.heap.size, 1, none⟩ = some (.slice none 0 0) := hloc5.cell 0 rfl 1
  have r2 : w5.frozen? ⟨w.heap.size, 0, none⟩ = false := hloc5.free 0 rfl 0
  have r3 : w5.frozen? ⟨w.heap.size, 1, none⟩ = false := hloc5.free 0 rfl 1
  have Ho5 := Lib.hid (show OL 63 (w.heap.size + 1) w5 (.slice ao5 R.2.length cap5) R.2 from OL.mono ho5 (by simp))
  have HB5 := Lib.hid (below_grownBy hloc5.grown)
  clear ho5 hb5 hloc5
  go_wp2_with fail
  refine bodyPost_ret (v := .tuple #[.agg #[.int .i64 (zdim R n), .slice ao5 R.2.length cap5], .int .i64 R.1]) (by simp [results, Tryz.results160, go_sem, r0, r1]) rfl ⟨⟨_, by rw [HR.out], ?_⟩, ?_⟩
  · rw [HR.out]; exact OL.mono (base := w.heap.size + 1) (own_set2 Ho5.out (by omega) _ _) (by omega)
  · exact (HB5.out.setCell (by simp) _).setCell (by simp) _
end Go.Proofs.YtfphlpglgcmljaaGreat

