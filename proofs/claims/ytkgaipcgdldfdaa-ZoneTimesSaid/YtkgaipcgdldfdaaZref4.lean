/- The contracts of the reference's zone functions: copies, closing, what is valid. The contract of the reference's Close. -/
import Derived.Test.YtkgaipcgdldfdaaZref
import Derived.Test.YtkgaipcgdldfdaaZof
import Derived.Deep.RegionLaw
import Derived.Deep.RegionHeld3
namespace Go.Proofs.Ytkgaipcgdldfdaa
open Go.RowKit

theorem copied_row (w : World) : ∀ g, some (w.heap.size + 1 + 1) = some g → g < w.heap.size ∨ w.heap.size + 2 ≤ g := fun _ h => by simp at h; omega
set_option maxRecDepth 100000 in
set_option maxHeartbeats 400000 in
theorem ref_copied (N : Int) (v : Value) (xs : List Int) (w : World) (hv : RL w.heap.size w v xs) (hx : xs.length ≤ 1000) :
    Calls Try.prog 75 #[.agg #[.int .i64 N, v]] w fun e w' => ∃ v', e = .returned (.agg #[.int .i64 N, v']) ∧ OL 60 w.heap.size w' v' xs ∧ Below w.heap.size w w' := by
  obtain ⟨i0, hi, hz0, hz1, hz2⟩ := info_parts Try.infoLimit
  have Hv := Lib.hid (show RL w.heap.size (((w.alloc (.cells #[.int .i64 N, v] 24)).alloc (.cells #[.int .i64 0, .slice none 0 0] 24)).alloc (.cells #[] 60)).drew v xs from RS.keep hv (((((Below.refl _ _).alloc (Nat.le_refl _) _).alloc (by simp) _).alloc (by simp; omega) _).drew))
  have Ho : Hid ((((w.alloc (.cells #[.int .i64 N, v] 24)).alloc (.cells #[.int .i64 0, .slice none 0 0] 24)).alloc (.cells #[] 60)).drew.ownsRow (w.heap.size + 1 + 1) 60 1 (.slice (some ⟨w.heap.size + 1 + 1, 0, none⟩) 0 0) 0 []) :=
    Lib.hid (owns_empty (g := w.heap.size + 1 + 1) (heap_new3 w _ _ _) (Nat.le_refl _))
  have Hloc := Lib.hid ((Loc.two w (.cells #[.int .i64 N, v] 24) (.cells #[.int .i64 0, .slice none 0 0] 24) (some (w.heap.size + 1 + 1))).next (grownBy_trans (World.grownBy_alloc _ (.cells #[] 60) _) (grownBy_drew _ _)) (copied_row w))
  have Hm := Lib.hid (show 0 + xs.length ≤ maxLen by unfold maxLen; omega)
  have Hby := Lib.hid (show (0 + xs.length) * 8 ≤ 140737488355328 by omega)
  have Hba := Lib.hid (show w.heap.size + 1 + 1 ≤ (((w.alloc (.cells #[.int .i64 N, v] 24)).alloc (.cells #[.int .i64 0, .slice none 0 0] 24)).alloc (.cells #[] 60)).drew.heap.size by show _ ≤ (((w.alloc _).alloc _).alloc _).heap.size; simp)
  have Hl := Lib.hid (show (xs.map (Value.int .i64)).length = xs.length * 1 by simp)
  have Hi := Lib.hid hi
  have Hz0 := Lib.hid hz0
  have Hz1 := Lib.hid hz1
  have Hz2 := Lib.hid hz2
  clear hv hi hz0 hz1 hz2 hx
  go_enter Try.func75, Try.ntmps75
  go_wp2_with fail
  go_region_held3 (fun w' => w'.cell? ⟨w.heap.size, 0, none⟩ = some (.int .i64 N) ∧ w'.cell? ⟨w.heap.size, 1, none⟩ = some v) (first | exact ⟨by assumption, by assumption⟩ | go_keep) ((refine step_append_rs (v := .slice (some ⟨w.heap.size + 1 + 1, 0, none⟩) 0 0) (n := 0) (xs := []) (xv := v) (m := xs.length) (news := xs.map (Value.int .i64)) ?_ (.tmp 5) (.tmp 7) 22 ?_ (w.heap.size + 1 + 1) 60 i0 (.int .i64 0) 1 8 Try.undLimits Hi.out Hz0.out Hz1.out Hz2.out ?_ ?_ ?_ ?_ w.heap.size ?_ ?_ ?_ ?_ ?_ ?_ ?_ ?_; rfl; rfl; rfl; decide; rfl; exact Ho.out; rfl; exact Hv.out; exact Hl.out; exact ints_oneCell' _; exact Hm.out; exact Hby.out; exact Hba.out; intro v' w1 hown1 hg1; obtain ⟨ao1, cap1, rfl⟩ := owns_form hown1; have hloc := Hloc.out.next hg1 (copied_row w); have n0 : w1.cell? ⟨w.heap.size, 0, none⟩ = some (.int .i64 N) := hloc.cell 0 rfl 0; have n1 : w1.cell? ⟨w.heap.size, 1, none⟩ = some v := hloc.cell 0 rfl 1; have r0 : w1.cell? ⟨w.heap.size + 1, 0, none⟩ = some (.int .i64 0) := hloc.cell 1 rfl 0; have r1 : w1.cell? ⟨w.heap.size + 1, 1, none⟩ = some (.slice none 0 0) := hloc.cell 1 rfl 1; have r2 := hloc.free 1 rfl 0; have r3 := hloc.free 1 rfl 1))
  go_wp2_with fail
  have hn : 0 + xs.length = xs.length := Nat.zero_add _
  rw [hn] at hown1
  simp only [List.nil_append] at hown1
  refine bodyPost_ret (v := .agg #[.int .i64 N, .slice ao1 xs.length cap1]) (by simp [results, Try.results75, go_sem, r0, r1]) rfl ⟨_, rfl, ?_, ?_⟩
  · exact OL.mono (ownsRow_setCell_below (ownsRow_setCell_below hown1 (by simp) _) (by simp) _) (by omega)
  · exact ((below_of_loc hloc (by omega)).setCell (by simp) _).setCell (by simp) _
end Go.Proofs.Ytkgaipcgdldfdaa
namespace Go.Proofs.Ytkgaipcgdldfdaa
open Go.RowKit

set_option maxHeartbeats 1000000 in
theorem ref_close_dim (n : Int) (v : Value) (xs : List Int) (w : World) (hv : RL w.heap.size w v xs) (hn : n < 0 ∨ 10 < n) :
    Calls Try.prog 23 #[.int .i64 n, v] w fun e w' => ZPost 60 w.heap.size n (closeF n xs) e w' ∧ Below w.heap.size w w' := by
  obtain ⟨ao, cap, rfl, hle, h0⟩ := hv.open
  clear h0 hv
  have hd : decide (0 ≤ n ∧ n ≤ 10) = false := by simp; omega
  have hres := Lib.hid (show closeF n xs = (2, []) by unfold closeF; rw [if_pos (.inl hn)])
  go_enter Try.func23, Try.ntmps23
  go_wp2_with (go_at_call 72; refine (ref_dimension _ _).mono ?_; rintro e w1 ⟨rfl, rfl⟩)
  refine bodyPost_ret (v := .tuple #[.agg #[.int .i64 0, .slice none 0 0], .int .i64 2]) (by simp [results, Try.results23, go_sem]) rfl ⟨ZPost.err hres.out (by omega) _, ?_⟩
  exact (Below.refl _ _).alloc (Nat.le_refl _) _

set_option maxHeartbeats 1000000 in
theorem ref_close_in (N : Nat) (v : Value) (xs : List Int) (w : World) (hv : RL w.heap.size w v xs) (hN : N ≤ 10) :
    Calls Try.prog 23 #[.int .i64 N, v] w fun e w' => ZPost 60 w.heap.size N (closeF N xs) e w' ∧ Below w.heap.size w w' := by
  have hsq := sq_bd N hN
  have hd : decide (0 ≤ (N : Int) ∧ (N : Int) ≤ 10) = true := by simp; omega
  by_cases hx : xs.length = (N + 1) * (N + 1)
  · have Hx := Lib.hid hx
    have hxb : xs.length ≤ 121 := by rw [hx]; exact Nat.mul_le_mul (by omega : N + 1 ≤ 11) (by omega : N + 1 ≤ 11)
    have Hxb := Lib.hid hxb
    obtain ⟨ao, cap, rfl, hle, h0⟩ := hv.open
    have hll : ((xs.length : Int) != ((N : Int) + 1) * ((N : Int) + 1)) = false := by rw [← sq_nat, hx]; simp
    clear hx hxb
    go_enter Try.func23, Try.ntmps23
    go_wp2_with (go_at_call 72; refine (ref_dimension _ _).mono ?_; rintro e w1 ⟨rfl, rfl⟩)
    go_loop [6] (fun i => ∃ q : Nat, q ≤ xs.length ∧ i = .int .i64 q ∧ (xs.take q).all vld = true) (fun i => xs.length - (intOf i).toNat)
    case atStart => exact ⟨0, by omega, rfl, rfl⟩
    case round =>
      obtain ⟨j, hj, rfl, hval⟩ := hrel
      have Hval := Lib.hid hval
      clear hval
      by_cases hlt : j < xs.length
      · obtain ⟨b, off, rfl, hb, hc⟩ := h0 (by omega)
        have hcj := hc j hlt
        clear hc h0
        by_cases hv1 : vld (gi xs j) = true
        · go_wp2_with (go_at_call 73; refine (ref_valid _ _).mono ?_; rintro e w1 ⟨rfl, rfl⟩)
          go_round
          case rel => exact ⟨j + 1, by omega, by go_num, all_take_succ Hval.out hlt hv1⟩
          case measure => simp [intOf]; omega
        · have hv2 : vld (gi xs j) = false := by simpa using hv1
          clear hv1
          have hres := Lib.hid (show closeF N xs = (2, []) by unfold closeF; rw [if_pos (.inr (.inr (by simpa using not_all_of hlt hv2)))])
          go_wp2_with (go_at_call 73; refine (ref_valid _ _).mono ?_; rintro e w1 ⟨rfl, rfl⟩)
          refine bodyPost_ret (v := .tuple #[.agg #[.int .i64 0, .slice none 0 0], .int .i64 2]) (by simp [results, Try.results23, go_sem]) rfl ⟨ZPost.err hres.out (by omega) _, ?_⟩
          exact (Below.refl _ _).alloc (Nat.le_refl _) _
      · have hdj : decide ((j : Int) < (xs.length : Int)) = false := by simp; omega
        have hres := Lib.hid (show closeF N xs = closedF N xs by
          unfold closeF; rw [if_neg, Int.toNat_natCast]
          rintro (h | h | h)
          · omega
          · exact h (by rw [Int.toNat_natCast]; exact Hx.out)
          · have := Hval.out; rw [List.take_of_length_le (by omega), h] at this; cases this)
        go_wp2_with fail
        have Hw := Lib.hid (hv.keep ((Below.refl w.heap.size w).alloc (Nat.le_refl _) (.cells #[.int .i64 0, .slice none 0 0] 24)) |>.mono (show w.heap.size ≤ (w.alloc (.cells #[.int .i64 0, .slice none 0 0] 24)).heap.size by simp))
        have Hloc := Lib.hid (Loc.one w (.cells #[.int .i64 0, .slice none 0 0] 24) none)
        refine (ref_copied _ _ xs _ Hw.out (by have := Hxb.out; omega)).mono ?_
        rintro e w1 ⟨v1, rfl, hown1, hb1⟩
        have hloc1 := Hloc.out.next (grownBy_below hb1 none) (fun _ h => by cases h)
        clear hdj h0 hv
        have Hown1 := Lib.hid hown1
        have Hb1 := Lib.hid hb1
        clear hown1 hb1
        go_wp2_with fail
        refine (ref_closed N _ xs _ w1 Hown1.out (Hb1.out.size) hN Hx.out).mono ?_
        rintro e w2 ⟨⟨v2, rfl, hown2⟩, hb2⟩
        obtain ⟨ao2, c2, rfl⟩ := owns_form hown2
        have hb3 : Below (w.heap.size + 1) w1 w2 := hb2.mono (by simp)
        have r0 : w2.cell? ⟨w.heap.size, 0, none⟩ = some (.int .i64 0) := ((bcell hb3).1 _ _ (by omega)).trans (hloc1.cell 0 rfl 0)
        have r1 : w2.cell? ⟨w.heap.size, 1, none⟩ = some (.slice none 0 0) := ((bcell hb3).1 _ _ (by omega)).trans (hloc1.cell 0 rfl 1)
        have r2 : w2.frozen? ⟨w.heap.size, 0, none⟩ = false := ((bcell hb3).2 _ _ (by omega)).trans (hloc1.free 0 rfl 0)
        have r3 : w2.frozen? ⟨w.heap.size, 1, none⟩ = false := ((bcell hb3).2 _ _ (by omega)).trans (hloc1.free 0 rfl 1)
        have hown3 : OL 60 (w.heap.size + 1) w2 (.slice ao2 (closedF N xs).2.length c2) (closedF N xs).2 := OL.mono hown2 (by simp)
        have Hown2 := Lib.hid hown3
        have Hb2 := Lib.hid hb3
        clear hown2 hb2 hown3 hb3
        go_wp2_with fail
        refine bodyPost_ret (v := .tuple #[.agg #[.int .i64 (zdim (closedF N xs) N), .slice ao2 (closedF N xs).2.length c2], .int .i64 (closedF N xs).1]) (by simp [results, Try.results23, go_sem, r0, r1]) rfl ⟨⟨_, by rw [hres.out], ?_⟩, ?_⟩
        · rw [hres.out]
          exact OL.mono (ownsRow_setCell_below (ownsRow_setCell_below Hown2.out (by simp) _) (by simp) _) (by omega)
        · exact ((((below_grownBy hloc1.grown).trans (Hb2.out.mono (by omega))).setCell (by simp) _).setCell (by simp) _)
  · have hll : ((xs.length : Int) != ((N : Int) + 1) * ((N : Int) + 1)) = true := bne_iff_ne.2 (fun h => hx (by rw [← sq_nat] at h; exact Int.ofNat_inj.1 h))
    have hres := Lib.hid (show closeF N xs = (2, []) by unfold closeF; rw [if_pos (.inr (.inl (by rw [Int.toNat_natCast]; exact hx)))])
    obtain ⟨ao, cap, rfl, hle, h0⟩ := hv.open
    clear hx h0 hv
    go_enter Try.func23, Try.ntmps23
    go_wp2_with (go_at_call 72; refine (ref_dimension _ _).mono ?_; rintro e w1 ⟨rfl, rfl⟩)
    refine bodyPost_ret (v := .tuple #[.agg #[.int .i64 0, .slice none 0 0], .int .i64 2]) (by simp [results, Try.results23, go_sem]) rfl ⟨ZPost.err hres.out (by omega) _, ?_⟩
    exact (Below.refl _ _).alloc (Nat.le_refl _) _
theorem ref_close (n : Int) (v : Value) (xs : List Int) (w : World) (hv : RL w.heap.size w v xs) :
    Calls Try.prog 23 #[.int .i64 n, v] w fun e w' => ZPost 60 w.heap.size n (closeF n xs) e w' ∧ Below w.heap.size w w' := by
  by_cases hn : n < 0 ∨ 10 < n
  · exact ref_close_dim n v xs w hv hn
  · obtain ⟨N, rfl⟩ := Int.eq_ofNat_of_zero_le (show 0 ≤ n by omega)
    exact ref_close_in N v xs w hv (by omega)
end Go.Proofs.Ytkgaipcgdldfdaa
