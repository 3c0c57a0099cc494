/- Part of the proof of priced_covers_proved: Pic. -/
import Derived.BigQuiet
import Derived.Test.YtfphlpglgcmljaaGreatXvInc
import Derived.Test.YtfphlpglgcmljaaGreatXvZprog
namespace Go.Proofs.YtfphlpglgcmljaaGreat
open Go.RowKit
set_option linter.unusedVariables false
set_option maxHeartbeats 2000000 in
theorem prog_includes (n n2 : Int) (v v2 : Value) (xs ys : List Int) (w : World) (hv : RL w.heap.size w v xs) (hv2 : RL w.heap.size w v2 ys) :
  Calls Tryz.prog 94 #[.agg #[.int .i64 n, v], .agg #[.int .i64 n2, v2]] w fun e w' => BE (incF n n2 xs ys) e ∧ Below w.heap.size w w' := by
 obtain ⟨ao, cap, rfl, hle, h0⟩ := hv.open
 obtain ⟨ao2, cap2, rfl, hle2, h02⟩ := hv2.open
 have hloc0 := Loc.two w (.cells #[.int .i64 n, (.slice ao xs.length cap)] 32) (.cells #[.int .i64 n2, (.slice ao2 ys.length cap2)] 32) none
 have Hv := Lib.hid (hv.keepb (below_grownBy hloc0.grown))
 have Hv2 := Lib.hid (hv2.keepb (below_grownBy hloc0.grown))
 have H0 := Lib.hid h0
 have H02 := Lib.hid h02
 clear hv hv2 h0 h02
 by_cases h1 : OkZ n xs
 ·have e1 := okErr_yes h1
  by_cases h2 : OkZ n2 ys
  ·have e2 := okErr_yes h2
   by_cases hn : n = n2
   ·have hn' : (n != n2) = false := by simpa using hn
    have H2 := Lib.hid (show Two n n2 xs ys from ⟨h1, h2, hn⟩)
    have Hl := Lib.hid H2.out.len
    clear h1 h2 hn
    go_enter Tryz.func94, Tryz.ntmps94
    go_wp2_with fail
    refine (prog_check n _ xs _ Hv.out).mono ?_
    rw [e1]
    rintro e wa ⟨rfl, hba⟩
    have hloca := hloc0.next (grownBy_below hba none) (fun _ h => by cases h)
    have a1 : wa.cell? ⟨w.heap.size + 1, 0, none⟩ = some (.int .i64 n2) := hloca.cell 1 rfl 0
    have a2 : wa.cell? ⟨w.heap.size + 1, 1, none⟩ = some (.slice ao2 ys.length cap2) := hloca.cell 1 rfl 1
    have Hv2a := Lib.hid (Hv2.out.keepb hba)
    clear hba hloc0
    go_wp2_with fail
    refine (prog_check n2 _ ys _ Hv2a.out).mono ?_
    rw [e2]
    rintro e wb ⟨rfl, hbb⟩
    have hlocb := hloca.next (grownBy_below hbb none) (fun _ h => by cases h)
    have c1 : wb.cell? ⟨w.heap.size + 1, 0, none⟩ = some (.int .i64 n2) := hlocb.cell 1 rfl 0
    have c2 : wb.cell? ⟨w.heap.size, 0, none⟩ = some (.int .i64 n) := hlocb.cell 0 rfl 0
    have c3 : wb.cell? ⟨w.heap.size, 1, none⟩ = some (.slice ao xs.length cap) := hlocb.cell 0 rfl 1
    clear hbb hloca a1 a2
    clear e1 e2
    go_wp2_with fail
    go_loopw [6, 7, 26] (fun i6 i7 i wr => ∃ q : Nat, q ≤ xs.length ∧ i = .int .i64 q ∧ LeTo xs ys q ∧ Loc w wr none [.cells #[.int .i64 n, (.slice ao xs.length cap)] 32, .cells #[.int .i64 n2, (.slice ao2 ys.length cap2)] 32]) (fun _ _ i _ => xs.length - (intOf i).toNat)
    case atStart => exact ⟨0, by omega, rfl, fun _ h => by omega, hlocb⟩
    case round =>
     clear hlocb c1 c2 c3
     obtain ⟨j, hj, rfl, heq, hloc⟩ := hrel
     have Heq := Lib.hid heq
     clear heq
     have c2 : wr.cell? ⟨w.heap.size + 1, 1, none⟩ = some (.slice ao2 ys.length cap2) := hloc.cell 1 rfl 1
     by_cases hlt : j < xs.length
     ·obtain ⟨b, off, rfl, hb, hc⟩ := H0.out (by omega)
      obtain ⟨b2, off2, rfl, hb2, hc2⟩ := H02.out (by have := Hl.out; omega)
      have x1 : wr.cell? ⟨b, off + j, none⟩ = some (.int .i64 (gi xs j)) := ((bcell (below_grownBy hloc.grown)).1 _ _ hb).trans (hc j hlt)
      have x2 : wr.cell? ⟨b2, off2 + j, none⟩ = some (.int .i64 (gi ys j)) := ((bcell (below_grownBy hloc.grown)).1 _ _ hb2).trans (hc2 j (by have := Hl.out; omega))
      have y1 : (j : Int) < xs.length := by omega
      have y2 : (j : Int) < ys.length := by have := Hl.out; omega
      clear hc hc2
      by_cases he : gi xs j < gi ys j
      ·have hres := Lib.hid (incF_gt H2.out (fun h => by have := h j hlt; omega))
       have he' : decide (gi xs j < gi ys j) = true := by simpa using he
       clear he
       go_wp2_with fail
       go_ret2
       exact ⟨BE.of hres.out, below_grownBy hloc.grown⟩
      ·have he' : decide (gi xs j < gi ys j) = false := by simpa using he
       have He := Lib.hid (show gi ys j ≤ gi xs j by omega)
       clear he
       go_wp2_with fail
       go_roundw
       case rel => exact ⟨j + 1, by omega, by go_num, Heq.out.succ He.out, hloc⟩
       case measure => simp [intOf]; omega
     ·have hdj : decide ((j : Int) < (xs.length : Int)) = false := by simp; omega
      have hres := Lib.hid (incF_yes H2.out (fun k hk => Heq.out k (by omega)))
      go_wp2_with fail
      go_ret2
      exact ⟨BE.of hres.out, below_grownBy hloc.grown⟩
   ·have hn' : (n != n2) = true := by simpa using hn
    have hres := Lib.hid (incF_no (n := n) (n2 := n2) (xs := xs) (ys := ys) (fun h => hn h.2.2))
    clear hn h1 h2
    go_enter Tryz.func94, Tryz.ntmps94
    go_wp2_with fail
    refine (prog_check n _ xs _ Hv.out).mono ?_
    rw [e1]
    rintro e wa ⟨rfl, hba⟩
    have hloca := hloc0.next (grownBy_below hba none) (fun _ h => by cases h)
    have a1 : wa.cell? ⟨w.heap.size + 1, 0, none⟩ = some (.int .i64 n2) := hloca.cell 1 rfl 0
    have a2 : wa.cell? ⟨w.heap.size + 1, 1, none⟩ = some (.slice ao2 ys.length cap2) := hloca.cell 1 rfl 1
    have Hv2a := Lib.hid (Hv2.out.keepb hba)
    clear hba hloc0
    go_wp2_with fail
    refine (prog_check n2 _ ys _ Hv2a.out).mono ?_
    rw [e2]
    rintro e wb ⟨rfl, hbb⟩
    have hlocb := hloca.next (grownBy_below hbb none) (fun _ h => by cases h)
    have c1 : wb.cell? ⟨w.heap.size + 1, 0, none⟩ = some (.int .i64 n2) := hlocb.cell 1 rfl 0
    have c2 : wb.cell? ⟨w.heap.size, 0, none⟩ = some (.int .i64 n) := hlocb.cell 0 rfl 0
    have c3 : wb.cell? ⟨w.heap.size, 1, none⟩ = some (.slice ao xs.length cap) := hlocb.cell 0 rfl 1
    clear hbb hloca a1 a2
    go_wp2_with fail
    go_ret2
    exact ⟨BE.of hres.out, below_grownBy hlocb.grown⟩
  ·have e2 := okErr_no h2
   have hres := Lib.hid (incF_no (n := n) (n2 := n2) (xs := xs) (ys := ys) (fun h => h2 h.2.1))
   clear h1 h2
   go_enter Tryz.func94, Tryz.ntmps94
   go_wp2_with fail
   refine (prog_check n _ xs _ Hv.out).mono ?_
   rw [e1]
   rintro e wa ⟨rfl, hba⟩
   have hloca := hloc0.next (grownBy_below hba none) (fun _ h => by cases h)
   have a1 : wa.cell? ⟨w.heap.size + 1, 0, none⟩ = some (.int .i64 n2) := hloca.cell 1 rfl 0
   have a2 : wa.cell? ⟨w.heap.size + 1, 1, none⟩ = some (.slice ao2 ys.length cap2) := hloca.cell 1 rfl 1
   have Hv2a := Lib.hid (Hv2.out.keepb hba)
   clear hba hloc0
   go_wp2_with fail
   refine (prog_check n2 _ ys _ Hv2a.out).mono ?_
   rw [e2]
   rintro e wb ⟨rfl, hbb⟩
   have hlocb := hloca.next (grownBy_below hbb none) (fun _ h => by cases h)
   have c1 : wb.cell? ⟨w.heap.size + 1, 0, none⟩ = some (.int .i64 n2) := hlocb.cell 1 rfl 0
   have c2 : wb.cell? ⟨w.heap.size, 0, none⟩ = some (.int .i64 n) := hlocb.cell 0 rfl 0
   have c3 : wb.cell? ⟨w.heap.size, 1, none⟩ = some (.slice ao xs.length cap) := hlocb.cell 0 rfl 1
   clear hbb hloca a1 a2
   go_wp2_with fail
   go_ret2
   exact ⟨BE.of hres.out, below_grownBy hlocb.grown⟩
 ·have e1 := okErr_no h1
  have hres := Lib.hid (incF_no (n := n) (n2 := n2) (xs := xs) (ys := ys) (fun h => h1 h.1))
  clear h1
  go_enter Tryz.func94, Tryz.ntmps94
  go_wp2_with fail
  refine (prog_check n _ xs _ Hv.out).mono ?_
  rw [e1]
  rintro e wa ⟨rfl, hba⟩
  have hloca := hloc0.next (grownBy_below hba none) (fun _ h => by cases h)
  have a1 : wa.cell? ⟨w.heap.size + 1, 0, none⟩ = some (.int .i64 n2) := hloca.cell 1 rfl 0
  have a2 : wa.cell? ⟨w.heap.size + 1, 1, none⟩ = some (.slice ao2 ys.length cap2) := hloca.cell 1 rfl 1
  have Hv2a := Lib.hid (Hv2.out.keepb hba)
  clear hba hloc0
  go_wp2_with fail
  go_ret2
  exact ⟨BE.of hres.out, below_grownBy hloca.grown⟩
end Go.Proofs.YtfphlpglgcmljaaGreat
