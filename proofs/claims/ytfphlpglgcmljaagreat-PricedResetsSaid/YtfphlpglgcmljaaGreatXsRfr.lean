/- Part of the proof of priced_resets_proved: Rfr. -/
import Derived.Test.YtfphlpglgcmljaaGreatXsUpz
import Derived.Test.YtfphlpglgcmljaaGreatXsRand
namespace Go.Proofs.YtfphlpglgcmljaaGreat
open Go.RowKit
set_option linter.unusedVariables false
def freeR (N : Nat) (xs : List Int) (i : Nat) : Nat → List Int
 | 0 => xs
 | q + 1 => if q = i then freeR N xs i q else ((freeR N xs i q).set (i * (N + 1) + q) 1099511627776).set (q * (N + 1) + i) 1099511627776
theorem freeR_len (N : Nat) (xs : List Int) (i q : Nat) : (freeR N xs i q).length = xs.length := by
 induction q with
 | zero => rfl
 | succ q ih =>
  rw [freeR]
  split
  ·exact ih
  ·rw [List.length_set, List.length_set, ih]
noncomputable def freeRF (n : Int) (xs : List Int) (i : Int) : Int × List Int := chgF n xs (clkB n i) (freeR n.toNat xs i.toNat (n.toNat + 1))
set_option maxRecDepth 100000 in
set_option maxHeartbeats 4000000 in
theorem ref_free_in (N i : Nat) (zv : Value) (xs : List Int) (w : World) (hz : RL w.heap.size w zv xs) (hok : OkZ N xs) (hi1 : 1 ≤ i) (hi2 : i ≤ N) :
  Calls Tryz.prog 139 #[.agg #[.int .i64 N, zv], .int .i64 i] w fun e w' => ZPost 63 w.heap.size N (freeRF N xs i) e w' ∧ Below w.heap.size w w' := by
 obtain ⟨aoz, capz, rfl, hlez, _⟩ := hz.open
 have hloc0 := Loc.two w (.cells #[.int .i64 N, .slice aoz xs.length capz] 32) (.cells #[.int .i64 0, .slice none 0 0] 32) none
 have hN : N ≤ 10 := by have := hok.hi; omega
 have Hx := Lib.hid (show xs.length = (N + 1) * (N + 1) by have := hok.len; rwa [Int.toNat_natCast] at this)
 have hpos : 0 < xs.length := by rw [Hx.out]; exact Nat.mul_pos (by omega) (by omega)
 have h00 : gi xs 0 = 1 := by have := hok.diag 0 (by omega); simpa using this
 have Hz := Lib.hid hz
 have Hzw := Lib.hid (hz.keepb (below_grownBy hloc0.grown))
 have hres := Lib.hid (show closedF N (freeR N xs i (N + 1)) = freeRF N xs i by unfold freeRF; rw [chgF_yes hok (by simp [clkB]; omega), Int.toNat_natCast, Int.toNat_natCast])
 have hi3 : decide ((i : Int) < 1) = false := by simp; omega
 have hi4 : decide ((N : Int) < (i : Int)) = false := by simp; omega
 have hst0 := Lib.hid (show (freeR N xs i 0) = xs from rfl)
 have hxb : xs.length ≤ 1000 := by
  have : xs.length ≤ 121 := by rw [Hx.out]; exact Nat.mul_le_mul (by omega : N + 1 ≤ 11) (by omega : N + 1 ≤ 11)
  omega
 clear hz h00
 go_enter Tryz.func139, Tryz.ntmps139
 go_wp2_with fail
 refine (ref_check_ok _ _ xs _ Hzw.out hok).mono ?_
 rintro e wa ⟨rfl, hba⟩
 have hloca := hloc0.next (grownBy_below hba none) (fun _ h => by cases h)
 have c0 : wa.cell? ⟨w.heap.size, 0, none⟩ = some (.int .i64 N) := hloca.cell 0 rfl 0
 have c1 : wa.cell? ⟨w.heap.size, 1, none⟩ = some (.slice aoz xs.length capz) := hloca.cell 0 rfl 1
 have Hza := Lib.hid (Hz.out.keepb (below_grownBy hloca.grown))
 clear hba hloc0 hok
 go_wp2_with fail
 refine (ref_copied N _ xs _ Hza.out hxb).mono ?_
 rintro e w2 ⟨v2, rfl, ho2, hb2⟩
 obtain ⟨g, cap2, rfl, hg2, hg3, _, _⟩ := ho2.open hpos
 have hloc2 := hloca.next (grownBy_below hb2 none) (fun _ h => by cases h)
 have hsz2 : w.heap.size + 2 ≤ wa.heap.size := hloca.size
 have q0 : w2.cell? ⟨w.heap.size, 0, none⟩ = some (.int .i64 N) := hloc2.cell 0 rfl 0
 have q1 : w2.cell? ⟨w.heap.size, 1, none⟩ = some (.slice aoz xs.length capz) := hloc2.cell 0 rfl 1
 have q2 : w2.frozen? ⟨w.heap.size, 0, none⟩ = false := hloc2.free 0 rfl 0
 have q3 : w2.frozen? ⟨w.heap.size, 1, none⟩ = false := hloc2.free 0 rfl 1
 have ho3 := own_set2 (w := w2) ho2 (b := w.heap.size) (by omega) (.int .i64 N) (.slice (some ⟨g, 0, none⟩) xs.length cap2)
 have hloc3 := (hloc2.put 0 rfl 0 (.int .i64 N)).put 0 rfl 1 (.slice (some ⟨g, 0, none⟩) xs.length cap2)
 clear hb2 ho2 hloca hloc2 c0 c1
 go_wp2_with fail
 clear hi3 hi4
 go_loopw [6] (fun k wr => ∃ q : Nat, q ≤ N + 1 ∧ k = .int .i64 q ∧ OL 63 wa.heap.size wr (.slice (some ⟨g, 0, none⟩) xs.length cap2) (freeR N xs i q) ∧ Loc w wr none [.cells #[.int .i64 N, .slice (some ⟨g, 0, none⟩) xs.length cap2] 32, .cells #[.int .i64 0, .slice none 0 0] 32]) (fun k _ => N + 1 - (intOf k).toNat)
 case atStart => exact ⟨0, by omega, rfl, by rw [hst0.out]; exact ho3, hloc3⟩
 case round =>
  clear ho3 hloc3 q0 q1 q2 q3
  obtain ⟨q, hq, rfl, hown, hloc⟩ := hrel
  have c0 : wr.cell? ⟨w.heap.size, 0, none⟩ = some (.int .i64 N) := hloc.cell 0 rfl 0
  have c1 : wr.cell? ⟨w.heap.size, 1, none⟩ = some (.slice (some ⟨g, 0, none⟩) xs.length cap2) := hloc.cell 0 rfl 1
  have hlA := Lib.hid (freeR_len N xs i q)
  by_cases hlt : q < N + 1
  ·have hd1 : decide ((q : Int) ≤ (N : Int)) = true := by simp; omega
   by_cases hqi : q = i
   ·subst hqi
    have hd3 : ((q : Int) != (q : Int)) = false := by simp
    have Hst := Lib.hid (show freeR N xs q (q + 1) = freeR N xs q q by rw [freeR, if_pos rfl])
    have Hown := Lib.hid hown
    have Hloc := Lib.hid hloc
    clear hown hloc
    go_wp2_with fail
    go_roundw
    case rel => exact ⟨q + 1, by omega, by go_num, by rw [Hst.out]; exact Hown.out, Hloc.out⟩
    case measure => simp [intOf]; omega
   ·have hd3 : ((q : Int) != (i : Int)) = true := by simp; omega
    have Hst := Lib.hid (show freeR N xs i (q + 1) = ((freeR N xs i q).set (i * (N + 1) + q) 1099511627776).set (q * (N + 1) + i) 1099511627776 by rw [freeR, if_neg hqi])
    have Hown := Lib.hid hown
    have Hloc := Lib.hid hloc
    clear hown hloc hqi
    generalize hA : freeR N xs i q = M at *
    clear hA
    go_wp2_with fail
    refine (ref_set N i q 1099511627776 g cap2 _ M wa.heap.size _ Hown.out hN (by omega) (by omega) (by omega) (by omega) (hlA.out.trans Hx.out)).mono ?_
    rintro e w4 ⟨rfl, hown4, hg4⟩
    simp only [Int.toNat_natCast] at hown4
    have hloc4 := Hloc.out.anyrow hg4 (fun _ h => by simp at h; subst h; show w.heap.size + 2 ≤ g; omega)
    have d0 : w4.cell? ⟨w.heap.size, 0, none⟩ = some (.int .i64 N) := hloc4.cell 0 rfl 0
    have d1 : w4.cell? ⟨w.heap.size, 1, none⟩ = some (.slice (some ⟨g, 0, none⟩) xs.length cap2) := hloc4.cell 0 rfl 1
    clear c0 c1
    go_wp2_with fail
    refine (ref_set N q i 1099511627776 g cap2 _ _ wa.heap.size _ hown4 hN (by omega) (by omega) (by omega) (by omega) (by rw [List.length_set]; exact hlA.out.trans Hx.out)).mono ?_
    rintro e w5 ⟨rfl, hown5, hg5⟩
    simp only [Int.toNat_natCast] at hown5
    go_wp2_with fail
    go_roundw
    case rel => exact ⟨q + 1, by omega, by go_num, by rw [Hst.out]; exact hown5, hloc4.anyrow hg5 (fun _ h => by simp at h; subst h; show w.heap.size + 2 ≤ g; omega)⟩
    case measure => simp [intOf]; omega
  ·have hd2 : decide ((q : Int) ≤ (N : Int)) = false := by simp; omega
   obtain rfl : q = N + 1 := by omega
   have hwb : wa.heap.size ≤ wr.heap.size := by
    obtain ⟨g', _, e1, _, e2, _⟩ := hown.open (by rw [hlA.out]; exact hpos)
    simp only [Value.slice.injEq, Option.some.injEq, Addr.mk.injEq, and_true] at e1
    omega
   go_wp2_with fail
   refine (ref_closed N _ _ wa.heap.size wr hown hwb hN (hlA.out.trans Hx.out)).mono ?_
   rw [hres.out]
   generalize hR : freeRF (N : Int) xs i = R
   have HR := Lib.hid hR
   clear hR
   rintro e w5 ⟨⟨v5, rfl, ho5⟩, hb5⟩
   obtain ⟨ao5, cap5, rfl⟩ := owns_form ho5
   have hloc5 := hloc.belowB hb5 (by simpa using hsz2)
   have r0 : w5.cell? ⟨w.heap.size + 1, 0, none⟩ = some (.int .i64 0) := hloc5.cell 1 rfl 0
   have r1 : w5.cell? ⟨w.heap.size + 1, 1, none⟩ = some (.slice none 0 0) := hloc5.cell 1 rfl 1
   have r2 : w5.frozen? ⟨w.heap.size + 1, 0, none⟩ = false := hloc5.free 1 rfl 0
   have r3 : w5.frozen? ⟨w.heap.size + 1, 1, none⟩ = false := hloc5.free 1 rfl 1
   have Ho5 := Lib.hid ho5
   have Hb5 := Lib.hid (below_grownBy hloc5.grown)
   clear ho5 hb5 hloc hloc5 c0 c1 hown
   go_wp2_with fail
   refine bodyPost_ret (v := .tuple #[.agg #[.int .i64 (zdim R N), .slice ao5 R.2.length cap5], .int .i64 R.1]) (by simp [results, Tryz.results139, go_sem, r0, r1]) rfl ⟨⟨_, by rw [HR.out], ?_⟩, ?_⟩
   ·rw [HR.out]; exact OL.mono (base := wa.heap.size) (own_set2 Ho5.out (by omega) _ _) (by omega)
   ·exact (Hb5.out.setCell (by simp) _).setCell (by simp) _
set_option maxHeartbeats 2000000 in
theorem ref_free_b1 (n i : Int) (zv : Value) (xs : List Int) (w : World) (hz : RL w.heap.size w zv xs) (hok : ¬ OkZ n xs) :
    Calls Tryz.prog 139 #[.agg #[.int .i64 n, zv], .int .i64 i] w fun e w' => ZPost 63 w.heap.size n (freeRF n xs i) e w' ∧ Below w.heap.size w w' := by
    obtain ⟨aoz, capz, rfl, hlez, _⟩ := hz.open
    have hloc0 := Loc.two w (.cells #[.int .i64 n, .slice aoz xs.length capz] 32) (.cells #[.int .i64 0, .slice none 0 0] 32) none
    have Hz := Lib.hid (hz.keepb (below_grownBy hloc0.grown))
    clear hz
    have hres := Lib.hid (show freeRF n xs i = (2, []) from chgF_no (fun h => hok h.1))
    go_enter Tryz.func139, Tryz.ntmps139
    go_wp2_with fail
    refine (ref_check_bad _ _ xs _ Hz.out hok).mono ?_
    rintro e wa ⟨rfl, hba⟩
    have hloca := hloc0.next (grownBy_below hba none) (fun _ h => by cases h)
    have c0 : wa.cell? ⟨w.heap.size, 0, none⟩ = some (.int .i64 n) := hloca.cell 0 rfl 0
    have r0 : wa.cell? ⟨w.heap.size + 1, 0, none⟩ = some (.int .i64 0) := hloca.cell 1 rfl 0
    have r1 : wa.cell? ⟨w.heap.size + 1, 1, none⟩ = some (.slice none 0 0) := hloca.cell 1 rfl 1
    have r2 : wa.frozen? ⟨w.heap.size + 1, 0, none⟩ = false := hloca.free 1 rfl 0
    have r3 : wa.frozen? ⟨w.heap.size + 1, 1, none⟩ = false := hloca.free 1 rfl 1
    clear hba hloc0 hok
    go_wp2_with fail
    refine bodyPost_ret (v := .tuple #[.agg #[.int .i64 0, .slice none 0 0], .int .i64 2]) (by simp [results, Tryz.results139, go_sem, r0, r1]) rfl ⟨ZPost.err hres.out (by omega) _, ?_⟩
    exact ((below_grownBy hloca.grown).setCell (by simp) _).setCell (by simp) _
set_option maxHeartbeats 2000000 in
theorem ref_free_b2 (n i : Int) (zv : Value) (xs : List Int) (w : World) (hz : RL w.heap.size w zv xs) (hok : OkZ n xs) (hi : i < 1) :
    Calls Tryz.prog 139 #[.agg #[.int .i64 n, zv], .int .i64 i] w fun e w' => ZPost 63 w.heap.size n (freeRF n xs i) e w' ∧ Below w.heap.size w w' := by
    obtain ⟨aoz, capz, rfl, hlez, _⟩ := hz.open
    have hloc0 := Loc.two w (.cells #[.int .i64 n, .slice aoz xs.length capz] 32) (.cells #[.int .i64 0, .slice none 0 0] 32) none
    have Hz := Lib.hid (hz.keepb (below_grownBy hloc0.grown))
    clear hz
    have hres := Lib.hid (show freeRF n xs i = (2, []) from chgF_no (fun h => by have := h.2; simp [clkB] at this; omega))
    have hd : decide (i < 1) = true := by simpa using hi
    clear hi
    go_enter Tryz.func139, Tryz.ntmps139
    go_wp2_with fail
    refine (ref_check_ok _ _ xs _ Hz.out hok).mono ?_
    rintro e wa ⟨rfl, hba⟩
    have hloca := hloc0.next (grownBy_below hba none) (fun _ h => by cases h)
    have c0 : wa.cell? ⟨w.heap.size, 0, none⟩ = some (.int .i64 n) := hloca.cell 0 rfl 0
    have r0 : wa.cell? ⟨w.heap.size + 1, 0, none⟩ = some (.int .i64 0) := hloca.cell 1 rfl 0
    have r1 : wa.cell? ⟨w.heap.size + 1, 1, none⟩ = some (.slice none 0 0) := hloca.cell 1 rfl 1
    have r2 : wa.frozen? ⟨w.heap.size + 1, 0, none⟩ = false := hloca.free 1 rfl 0
    have r3 : wa.frozen? ⟨w.heap.size + 1, 1, none⟩ = false := hloca.free 1 rfl 1
    clear hba hloc0 hok
    go_wp2_with fail
    refine bodyPost_ret (v := .tuple #[.agg #[.int .i64 0, .slice none 0 0], .int .i64 2]) (by simp [results, Tryz.results139, go_sem, r0, r1]) rfl ⟨ZPost.err hres.out (by omega) _, ?_⟩
    exact ((below_grownBy hloca.grown).setCell (by simp) _).setCell (by simp) _
set_option maxHeartbeats 2000000 in
theorem ref_free_b3 (n i : Int) (zv : Value) (xs : List Int) (w : World) (hz : RL w.heap.size w zv xs) (hok : OkZ n xs) (hi : 1 ≤ i) (hi2 : n < i) :
    Calls Tryz.prog 139 #[.agg #[.int .i64 n, zv], .int .i64 i] w fun e w' => ZPost 63 w.heap.size n (freeRF n xs i) e w' ∧ Below w.heap.size w w' := by
    obtain ⟨aoz, capz, rfl, hlez, _⟩ := hz.open
    have hloc0 := Loc.two w (.cells #[.int .i64 n, .slice aoz xs.length capz] 32) (.cells #[.int .i64 0, .slice none 0 0] 32) none
    have Hz := Lib.hid (hz.keepb (below_grownBy hloc0.grown))
    clear hz
    have hres := Lib.hid (show freeRF n xs i = (2, []) from chgF_no (fun h => by have := h.2; simp [clkB] at this; omega))
    have hd : decide (i < 1) = false := by simpa using hi
    have hd2 : decide (n < i) = true := by simpa using hi2
    clear hi hi2
    go_enter Tryz.func139, Tryz.ntmps139
    go_wp2_with fail
    refine (ref_check_ok _ _ xs _ Hz.out hok).mono ?_
    rintro e wa ⟨rfl, hba⟩
    have hloca := hloc0.next (grownBy_below hba none) (fun _ h => by cases h)
    have c0 : wa.cell? ⟨w.heap.size, 0, none⟩ = some (.int .i64 n) := hloca.cell 0 rfl 0
    have r0 : wa.cell? ⟨w.heap.size + 1, 0, none⟩ = some (.int .i64 0) := hloca.cell 1 rfl 0
    have r1 : wa.cell? ⟨w.heap.size + 1, 1, none⟩ = some (.slice none 0 0) := hloca.cell 1 rfl 1
    have r2 : wa.frozen? ⟨w.heap.size + 1, 0, none⟩ = false := hloca.free 1 rfl 0
    have r3 : wa.frozen? ⟨w.heap.size + 1, 1, none⟩ = false := hloca.free 1 rfl 1
    clear hba hloc0 hok
    go_wp2_with fail
    refine bodyPost_ret (v := .tuple #[.agg #[.int .i64 0, .slice none 0 0], .int .i64 2]) (by simp [results, Tryz.results139, go_sem, r0, r1]) rfl ⟨ZPost.err hres.out (by omega) _, ?_⟩
    exact ((below_grownBy hloca.grown).setCell (by simp) _).setCell (by simp) _
theorem ref_free (n i : Int) (zv : Value) (xs : List Int) (w : World) (hz : RL w.heap.size w zv xs) :
  Calls Tryz.prog 139 #[.agg #[.int .i64 n, zv], .int .i64 i] w fun e w' => ZPost 63 w.heap.size n (freeRF n xs i) e w' ∧ Below w.heap.size w w' := by
 by_cases hok : OkZ n xs
 ·by_cases h1 : i < 1
  ·exact ref_free_b2 n i zv xs w hz hok h1
  ·by_cases h2 : n < i
   ·exact ref_free_b3 n i zv xs w hz hok (by omega) h2
   ·obtain ⟨N, rfl⟩ := Int.eq_ofNat_of_zero_le hok.lo
    obtain ⟨j, rfl⟩ := Int.eq_ofNat_of_zero_le (show 0 ≤ i by omega)
    exact ref_free_in N j zv xs w hz hok (by omega) (by omega)
 ·exact ref_free_b1 n i zv xs w hz hok
end Go.Proofs.YtfphlpglgcmljaaGreat
