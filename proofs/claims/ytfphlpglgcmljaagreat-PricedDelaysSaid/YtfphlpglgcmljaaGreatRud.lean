/- The reference's Up and Down. -/
import Derived.Test.YtfphlpglgcmljaaGreatDwn
import Derived.Test.YtfphlpglgcmljaaGreatRand
namespace Go.Proofs.YtfphlpglgcmljaaGreat
open Go.RowKit
set_option linter.unusedVariables false

theorem set_at_same {xs : List Int} {k : Nat} {l : Int} (h : gi xs k = l) (hk : k < xs.length) : xs.set k l = xs := by
  subst h
  rw [gi_of hk]
  exact List.set_getElem_self hk

set_option maxRecDepth 100000 in
set_option maxHeartbeats 4000000 in
theorem ref_up_in (N : Nat) (zv : Value) (xs : List Int) (w : World) (hz : RL w.heap.size w zv xs) (hok : OkZ N xs) :
    Calls Tryz.prog 64 #[.agg #[.int .i64 N, zv]] w fun e w' => ZPost 63 w.heap.size N (upF N xs) e w' ∧ Below w.heap.size w w' := by
  obtain ⟨aoz, capz, rfl, hlez, _⟩ := hz.open
  have hloc0 := Loc.two w (.cells #[.int .i64 N, .slice aoz xs.length capz] 32) (.cells #[.int .i64 0, .slice none 0 0] 32) none
  have hN : N ≤ 10 := by have := hok.hi; omega
  have Hx := Lib.hid (show xs.length = (N + 1) * (N + 1) by have := hok.len; rwa [Int.toNat_natCast] at this)
  have hpos : 0 < xs.length := by rw [Hx.out]; exact Nat.mul_pos (by omega) (by omega)
  have h00 : gi xs 0 = 1 := by have := hok.diag 0 (by omega); simpa using this
  have Hz := Lib.hid hz
  have Hzw := Lib.hid (hz.keepb (below_grownBy hloc0.grown))
  have hres := Lib.hid (show closedF N (upTo N xs N) = upF N xs by unfold upF; rw [chgF_yes hok rfl, Int.toNat_natCast])
  have hst0 := Lib.hid (show (upTo N xs 0) = xs from rfl)
  have hxb : xs.length ≤ 1000 := by
    have : xs.length ≤ 121 := by rw [Hx.out]; exact Nat.mul_le_mul (by omega : N + 1 ≤ 11) (by omega : N + 1 ≤ 11)
    omega
  clear hz h00
  go_enter Tryz.func64, Tryz.ntmps64
  go_wp2_with fail
  refine (ref_check_ok _ _ xs _ Hzw.out hok).mono ?_
  rintro e wa ⟨rfl, hba⟩
  have hloca := hloc0.next (grownBy_below hba none) (fun _ h => by cases h)
  have c0 : wa.cell? ⟨w.heap.size, 0, none⟩ = some (.int .i64 N) := hloca.cell 0 rfl 0
  have c1 : wa.cell? ⟨w.heap.size, 1, none⟩ = some (.slice aoz xs.length capz) := hloca.cell 0 rfl 1
  have Hza := Lib.hid (Hz.out.keepb (below_grownBy hloca.grown))
  clear hba hloc0 hok
  go_wp2_with fail
  refine (ref_copied N _ xs _ Hza.out hxb).mono ?_
  rintro e w2 ⟨v2, rfl, ho2, hb2⟩
  obtain ⟨g, cap2, rfl, hg2, hg3, _, _⟩ := ho2.open hpos
  have hloc2 := hloca.next (grownBy_below hb2 none) (fun _ h => by cases h)
  have hsz2 : w.heap.size + 2 ≤ wa.heap.size := hloca.size
  have q0 : w2.cell? ⟨w.heap.size, 0, none⟩ = some (.int .i64 N) := hloc2.cell 0 rfl 0
  have q1 : w2.cell? ⟨w.heap.size, 1, none⟩ = some (.slice aoz xs.length capz) := hloc2.cell 0 rfl 1
  have q2 : w2.frozen? ⟨w.heap.size, 0, none⟩ = false := hloc2.free 0 rfl 0
  have q3 : w2.frozen? ⟨w.heap.size, 1, none⟩ = false := hloc2.free 0 rfl 1
  have ho3 := own_set2 (w := w2) ho2 (b := w.heap.size) (by omega) (.int .i64 N) (.slice (some ⟨g, 0, none⟩) xs.length cap2)
  have hloc3 := (hloc2.put 0 rfl 0 (.int .i64 N)).put 0 rfl 1 (.slice (some ⟨g, 0, none⟩) xs.length cap2)
  clear hb2 ho2 hloca hloc2 c0 c1
  go_wp2_with fail
  go_loopw [4] (fun k wr => ∃ q : Nat, q ≤ N ∧ k = .int .i64 ((q : Int) + 1) ∧ OL 63 wa.heap.size wr (.slice (some ⟨g, 0, none⟩) xs.length cap2) (upTo N xs q) ∧ Loc w wr none [.cells #[.int .i64 N, .slice (some ⟨g, 0, none⟩) xs.length cap2] 32, .cells #[.int .i64 0, .slice none 0 0] 32]) (fun k _ => N + 1 - (intOf k).toNat)
  case atStart => exact ⟨0, by omega, rfl, by rw [hst0.out]; exact ho3, hloc3⟩
  case round =>
    clear ho3 hloc3 q0 q1 q2 q3
    obtain ⟨q, hq, rfl, hown, hloc⟩ := hrel
    have c0 : wr.cell? ⟨w.heap.size, 0, none⟩ = some (.int .i64 N) := hloc.cell 0 rfl 0
    have c1 : wr.cell? ⟨w.heap.size, 1, none⟩ = some (.slice (some ⟨g, 0, none⟩) xs.length cap2) := hloc.cell 0 rfl 1
    have hlA := Lib.hid (upTo_len N xs q)
    by_cases hlt : q < N
    · have hd1 : decide ((q : Int) + 1 ≤ (N : Int)) = true := by simp; omega
      have Hst := Lib.hid (show (upTo N xs (q + 1)) = (upTo N xs q).set ((q + 1) * (N + 1)) 1099511627776 from rfl)
      have Hown := Lib.hid hown
      have Hloc := Lib.hid hloc
      clear hown hloc
      generalize hA : (upTo N xs q) = M at *
      clear hA
      go_wp2_with fail
      refine (ref_set N (q + 1 : Int) 0 1099511627776 g cap2 _ M wa.heap.size _ Hown.out hN (by omega) (by omega) (by omega) (by omega) (hlA.out.trans Hx.out)).mono ?_
      rintro e w4 ⟨rfl, hown4, hg4⟩
      have hix : (((q : Int) + 1).toNat * (N + 1) + (0 : Int).toNat) = (q + 1) * (N + 1) := by
        have e1 : ((q : Int) + 1).toNat = q + 1 := by omega
        rw [e1]; simp
      rw [hix] at hown4
      clear hix
      go_wp2_with fail
      go_roundw
      case rel => exact ⟨q + 1, by omega, by go_num, by rw [Hst.out]; exact hown4, Hloc.out.anyrow hg4 (fun _ h => by simp at h; subst h; show w.heap.size + 2 ≤ g; omega)⟩
      case measure => simp [intOf]; omega
    · have hd2 : decide ((q : Int) + 1 ≤ (N : Int)) = false := by simp; omega
      obtain rfl : q = N := by omega
      have hwb : wa.heap.size ≤ wr.heap.size := by
        obtain ⟨g', _, e1, _, e2, _⟩ := hown.open (by rw [hlA.out]; exact hpos)
        simp only [Value.slice.injEq, Option.some.injEq, Addr.mk.injEq, and_true] at e1
        omega
      go_wp2_with fail
      refine (ref_closed q _ _ wa.heap.size wr hown hwb hN (hlA.out.trans Hx.out)).mono ?_
      rw [hres.out]
      generalize hR : upF (q : Int) xs = R
      have HR := Lib.hid hR
      clear hR
      rintro e w5 ⟨⟨v5, rfl, ho5⟩, hb5⟩
      obtain ⟨ao5, cap5, rfl⟩ := owns_form ho5
      have hloc5 := hloc.belowB hb5 (by simpa using hsz2)
      have r0 : w5.cell? ⟨w.heap.size + 1, 0, none⟩ = some (.int .i64 0) := hloc5.cell 1 rfl 0
      have r1 : w5.cell? ⟨w.heap.size + 1, 1, none⟩ = some (.slice none 0 0) := hloc5.cell 1 rfl 1
      have r2 : w5.frozen? ⟨w.heap.size + 1, 0, none⟩ = false := hloc5.free 1 rfl 0
      have r3 : w5.frozen? ⟨w.heap.size + 1, 1, none⟩ = false := hloc5.free 1 rfl 1
      have Ho5 := Lib.hid ho5
      have Hb5 := Lib.hid (below_grownBy hloc5.grown)
      clear ho5 hb5 hloc hloc5 c0 c1 hown
      go_wp2_with fail
      refine bodyPost_ret (v := .tuple #[.agg #[.int .i64 (zdim R q), .slice ao5 R.2.length cap5], .int .i64 R.1]) (by simp [results, Tryz.results64, go_sem, r0, r1]) rfl ⟨⟨_, by rw [HR.out], ?_⟩, ?_⟩
      · rw [HR.out]; exact OL.mono (base := wa.heap.size) (own_set2 Ho5.out (by omega) _ _) (by omega)
      · exact (Hb5.out.setCell (by simp) _).setCell (by simp) _
theorem ref_up (n : Int) (zv : Value) (xs : List Int) (w : World) (hz : RL w.heap.size w zv xs) :
    Calls Tryz.prog 64 #[.agg #[.int .i64 n, zv]] w fun e w' => ZPost 63 w.heap.size n (upF n xs) e w' ∧ Below w.heap.size w w' := by
  by_cases hok : OkZ n xs
  · obtain ⟨N, rfl⟩ := Int.eq_ofNat_of_zero_le hok.lo
    exact ref_up_in N zv xs w hz hok
  · obtain ⟨aoz, capz, rfl, hlez, _⟩ := hz.open
    have hloc0 := Loc.two w (.cells #[.int .i64 n, .slice aoz xs.length capz] 32) (.cells #[.int .i64 0, .slice none 0 0] 32) none
    have Hz := Lib.hid (hz.keepb (below_grownBy hloc0.grown))
    have hres := Lib.hid (show upF n xs = (2, []) from chgF_no (fun h => hok h.1))
    clear hz
    go_enter Tryz.func64, Tryz.ntmps64
    go_wp2_with fail
    refine (ref_check_bad _ _ xs _ Hz.out hok).mono ?_
    rintro e wa ⟨rfl, hba⟩
    have hloca := hloc0.next (grownBy_below hba none) (fun _ h => by cases h)
    have r0 : wa.cell? ⟨w.heap.size + 1, 0, none⟩ = some (.int .i64 0) := hloca.cell 1 rfl 0
    have r1 : wa.cell? ⟨w.heap.size + 1, 1, none⟩ = some (.slice none 0 0) := hloca.cell 1 rfl 1
    have r2 : wa.frozen? ⟨w.heap.size + 1, 0, none⟩ = false := hloca.free 1 rfl 0
    have r3 : wa.frozen? ⟨w.heap.size + 1, 1, none⟩ = false := hloca.free 1 rfl 1
    clear hba hloc0 hok
    go_wp2_with fail
    refine bodyPost_ret (v := .tuple #[.agg #[.int .i64 0, .slice none 0 0], .int .i64 2]) (by simp [results, Tryz.results64, go_sem, r0, r1]) rfl ⟨ZPost.err hres.out (by omega) _, ?_⟩
    exact ((below_grownBy hloca.grown).setCell (by simp) _).setCell (by simp) _

end Go.Proofs.YtfphlpglgcmljaaGreat

