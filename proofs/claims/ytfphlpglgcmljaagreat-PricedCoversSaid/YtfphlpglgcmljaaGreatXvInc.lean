/- Part of the proof of priced_covers_proved: Inc. -/
import Derived.Test.YtfphlpglgcmljaaGreatXvSame
import Derived.Test.YtfphlpglgcmljaaGreatXvZref
namespace Go.Proofs.YtfphlpglgcmljaaGreat
open Go.RowKit
def leAll (xs ys : List Int) : Prop := ∀ k, k < xs.length → gi ys k ≤ gi xs k
def LeTo (xs ys : List Int) (q : Nat) : Prop := ∀ k, k < q → gi ys k ≤ gi xs k
theorem LeTo.succ {xs ys : List Int} {q : Nat} (h : LeTo xs ys q) (h' : gi ys q ≤ gi xs q) : LeTo xs ys (q + 1) := fun k hk => by
 by_cases e : k = q
 ·subst e; exact h'
 ·exact h k (by omega)
def Two (n n2 : Int) (xs ys : List Int) : Prop := OkZ n xs ∧ OkZ n2 ys ∧ n = n2
open Classical in
noncomputable def twoB (n n2 : Int) (xs ys : List Int) : Bool := decide (Two n n2 xs ys)
open Classical in
/-- What Includes returns. -/
noncomputable def incF (n n2 : Int) (xs ys : List Int) : Bool × Int := if Two n n2 xs ys then (decide (leAll xs ys), 0) else (false, 2)
theorem twoB_yes {n n2 : Int} {xs ys : List Int} (h : Two n n2 xs ys) : twoB n n2 xs ys = true := by unfold twoB; simp [h]
theorem twoB_no {n n2 : Int} {xs ys : List Int} (h : ¬ Two n n2 xs ys) : twoB n n2 xs ys = false := by unfold twoB; simp [h]
theorem incF_no {n n2 : Int} {xs ys : List Int} (h : ¬ Two n n2 xs ys) : incF n n2 xs ys = (false, 2) := by unfold incF; rw [if_neg h]
theorem incF_yes {n n2 : Int} {xs ys : List Int} (h : Two n n2 xs ys) (h' : leAll xs ys) : incF n n2 xs ys = (true, 0) := by unfold incF; rw [if_pos h]; simp [h']
theorem incF_gt {n n2 : Int} {xs ys : List Int} (h : Two n n2 xs ys) (h' : ¬ leAll xs ys) : incF n n2 xs ys = (false, 0) := by unfold incF; rw [if_pos h]; simp [h']
theorem Two.len {n n2 : Int} {xs ys : List Int} (h : Two n n2 xs ys) : xs.length = ys.length := by
 obtain ⟨a, b, rfl⟩ := h; rw [a.len, b.len]
theorem ref_check_ok (n : Int) (v : Value) (xs : List Int) (w : World) (hv : RL w.heap.size w v xs) (h : OkZ n xs) :
  Calls Tryz.prog 106 #[.agg #[.int .i64 n, v]] w fun e w' => e = .returned (.int .i64 0) ∧ Below w.heap.size w w' :=
 (ref_check n v xs w hv).mono fun _ _ ⟨h1, h2⟩ => ⟨by rw [h1, okErr_yes h], h2⟩
theorem ref_check_bad (n : Int) (v : Value) (xs : List Int) (w : World) (hv : RL w.heap.size w v xs) (h : ¬ OkZ n xs) :
  Calls Tryz.prog 106 #[.agg #[.int .i64 n, v]] w fun e w' => e = .returned (.int .i64 2) ∧ Below w.heap.size w w' :=
 (ref_check n v xs w hv).mono fun _ _ ⟨h1, h2⟩ => ⟨by rw [h1, okErr_no h], h2⟩
set_option maxHeartbeats 1000000 in
theorem ref_two (n n2 : Int) (v v2 : Value) (xs ys : List Int) (w : World) (hv : RL w.heap.size w v xs) (hv2 : RL w.heap.size w v2 ys) :
  Calls Tryz.prog 147 #[.agg #[.int .i64 n, v], .agg #[.int .i64 n2, v2]] w fun e w' => e = .returned (.bool (twoB n n2 xs ys)) ∧ Below w.heap.size w w' := by
 obtain ⟨ao, cap, rfl, hle, _⟩ := hv.open
 obtain ⟨ao2, cap2, rfl, hle2, _⟩ := hv2.open
 have hloc0 := Loc.two w (.cells #[.int .i64 n, (.slice ao xs.length cap)] 32) (.cells #[.int .i64 n2, (.slice ao2 ys.length cap2)] 32) none
 have Hv := Lib.hid (hv.keepb (below_grownBy hloc0.grown))
 have Hv2 := Lib.hid (hv2.keepb (below_grownBy hloc0.grown))
 clear hv hv2
 by_cases h1 : OkZ n xs
 ·by_cases h2 : OkZ n2 ys
  ·cases hn : (n == n2)
   ·have hres := Lib.hid (twoB_no (n := n) (n2 := n2) (xs := xs) (ys := ys) (fun h => by have := h.2.2; simp at hn; exact hn this))
    go_enter Tryz.func147, Tryz.ntmps147
    go_wp2_with fail
    refine (ref_check_ok n _ xs _ Hv.out h1).mono ?_
    rintro e wa ⟨rfl, hba⟩
    have hloca := hloc0.next (grownBy_below hba none) (fun _ h => by cases h)
    have a1 : wa.cell? ⟨w.heap.size + 1, 0, none⟩ = some (.int .i64 n2) := hloca.cell 1 rfl 0
    have a2 : wa.cell? ⟨w.heap.size + 1, 1, none⟩ = some (.slice ao2 ys.length cap2) := hloca.cell 1 rfl 1
    have b1 : wa.cell? ⟨w.heap.size, 0, none⟩ = some (.int .i64 n) := hloca.cell 0 rfl 0
    have Hv2a := Lib.hid (Hv2.out.keepb hba)
    clear hba hloc0
    go_wp2_with fail
    refine (ref_check_ok n2 _ ys _ Hv2a.out h2).mono ?_
    rintro e wb ⟨rfl, hbb⟩
    have hlocb := hloca.next (grownBy_below hbb none) (fun _ h => by cases h)
    have c1 : wb.cell? ⟨w.heap.size + 1, 0, none⟩ = some (.int .i64 n2) := hlocb.cell 1 rfl 0
    have c2 : wb.cell? ⟨w.heap.size, 0, none⟩ = some (.int .i64 n) := hlocb.cell 0 rfl 0
    clear hbb hloca
    go_wp2_with fail
    go_ret
    exact ⟨ret_bool hres.out.symm, below_grownBy hlocb.grown⟩
   ·have hres := Lib.hid (twoB_yes (n := n) (n2 := n2) (xs := xs) (ys := ys) ⟨h1, h2, by simpa using hn⟩)
    go_enter Tryz.func147, Tryz.ntmps147
    go_wp2_with fail
    refine (ref_check_ok n _ xs _ Hv.out h1).mono ?_
    rintro e wa ⟨rfl, hba⟩
    have hloca := hloc0.next (grownBy_below hba none) (fun _ h => by cases h)
    have a1 : wa.cell? ⟨w.heap.size + 1, 0, none⟩ = some (.int .i64 n2) := hloca.cell 1 rfl 0
    have a2 : wa.cell? ⟨w.heap.size + 1, 1, none⟩ = some (.slice ao2 ys.length cap2) := hloca.cell 1 rfl 1
    have b1 : wa.cell? ⟨w.heap.size, 0, none⟩ = some (.int .i64 n) := hloca.cell 0 rfl 0
    have Hv2a := Lib.hid (Hv2.out.keepb hba)
    clear hba hloc0
    go_wp2_with fail
    refine (ref_check_ok n2 _ ys _ Hv2a.out h2).mono ?_
    rintro e wb ⟨rfl, hbb⟩
    have hlocb := hloca.next (grownBy_below hbb none) (fun _ h => by cases h)
    have c1 : wb.cell? ⟨w.heap.size + 1, 0, none⟩ = some (.int .i64 n2) := hlocb.cell 1 rfl 0
    have c2 : wb.cell? ⟨w.heap.size, 0, none⟩ = some (.int .i64 n) := hlocb.cell 0 rfl 0
    clear hbb hloca
    go_wp2_with fail
    go_ret
    exact ⟨ret_bool hres.out.symm, below_grownBy hlocb.grown⟩
  ·have hres := Lib.hid (twoB_no (n := n) (n2 := n2) (xs := xs) (ys := ys) (fun h => h2 h.2.1))
   go_enter Tryz.func147, Tryz.ntmps147
   go_wp2_with fail
   refine (ref_check_ok n _ xs _ Hv.out h1).mono ?_
   rintro e wa ⟨rfl, hba⟩
   have hloca := hloc0.next (grownBy_below hba none) (fun _ h => by cases h)
   have a1 : wa.cell? ⟨w.heap.size + 1, 0, none⟩ = some (.int .i64 n2) := hloca.cell 1 rfl 0
   have a2 : wa.cell? ⟨w.heap.size + 1, 1, none⟩ = some (.slice ao2 ys.length cap2) := hloca.cell 1 rfl 1
   have b1 : wa.cell? ⟨w.heap.size, 0, none⟩ = some (.int .i64 n) := hloca.cell 0 rfl 0
   have Hv2a := Lib.hid (Hv2.out.keepb hba)
   clear hba hloc0
   go_wp2_with fail
   refine (ref_check_bad n2 _ ys _ Hv2a.out h2).mono ?_
   rintro e wb ⟨rfl, hbb⟩
   have hlocb := hloca.next (grownBy_below hbb none) (fun _ h => by cases h)
   clear hbb hloca
   go_wp2_with fail
   go_ret
   exact ⟨ret_bool hres.out.symm, below_grownBy hlocb.grown⟩
 ·have hres := Lib.hid (twoB_no (n := n) (n2 := n2) (xs := xs) (ys := ys) (fun h => h1 h.1))
  go_enter Tryz.func147, Tryz.ntmps147
  go_wp2_with fail
  refine (ref_check_bad n _ xs _ Hv.out h1).mono ?_
  rintro e wa ⟨rfl, hba⟩
  have hloca := hloc0.next (grownBy_below hba none) (fun _ h => by cases h)
  clear hba hloc0
  go_wp2_with fail
  go_ret
  exact ⟨ret_bool hres.out.symm, below_grownBy hloca.grown⟩
def BE (r : Bool × Int) (e : Ending) : Prop := e = .returned (.tuple #[.bool r.1, .int .i64 r.2])
theorem BE.of {r : Bool × Int} {b : Bool} {x : Int} (h : r = (b, x)) : BE r (.returned (.tuple #[.bool b, .int .i64 x])) := by subst h; rfl
set_option maxHeartbeats 1000000 in
theorem ref_includes (n n2 : Int) (v v2 : Value) (xs ys : List Int) (w : World) (hv : RL w.heap.size w v xs) (hv2 : RL w.heap.size w v2 ys) :
  Calls Tryz.prog 96 #[.agg #[.int .i64 n, v], .agg #[.int .i64 n2, v2]] w fun e w' => BE (incF n n2 xs ys) e ∧ Below w.heap.size w w' := by
 obtain ⟨ao, cap, rfl, hle, h0⟩ := hv.open
 obtain ⟨ao2, cap2, rfl, hle2, h02⟩ := hv2.open
 have hloc0 := Loc.two w (.cells #[.int .i64 n, (.slice ao xs.length cap)] 32) (.cells #[.int .i64 n2, (.slice ao2 ys.length cap2)] 32) none
 have Hv := Lib.hid (hv.keepb (below_grownBy hloc0.grown))
 have Hv2 := Lib.hid (hv2.keepb (below_grownBy hloc0.grown))
 clear hv hv2
 have H0 := Lib.hid h0
 have H02 := Lib.hid h02
 clear h0 h02
 by_cases h2 : Two n n2 xs ys
 ·have Hl := Lib.hid h2.len
  go_enter Tryz.func96, Tryz.ntmps96
  go_wp2_with fail
  refine (ref_two n n2 _ _ xs ys _ Hv.out Hv2.out).mono ?_
  rw [twoB_yes h2]
  rintro e wa ⟨rfl, hba⟩
  have hloca := hloc0.next (grownBy_below hba none) (fun _ h => by cases h)
  clear hba hloc0
  have H2 := Lib.hid h2
  clear h2
  go_wp2_with fail
  go_loopw [6] (fun i wr => ∃ q : Nat, q ≤ xs.length ∧ i = .int .i64 q ∧ LeTo xs ys q ∧ Loc w wr none [.cells #[.int .i64 n, (.slice ao xs.length cap)] 32, .cells #[.int .i64 n2, (.slice ao2 ys.length cap2)] 32]) (fun i _ => xs.length - (intOf i).toNat)
  case atStart => exact ⟨0, by omega, rfl, fun _ h => by omega, hloca⟩
  case round =>
   clear hloca
   obtain ⟨j, hj, rfl, heq, hloc⟩ := hrel
   have Heq := Lib.hid heq
   clear heq
   have c1 : wr.cell? ⟨w.heap.size, 1, none⟩ = some (.slice ao xs.length cap) := hloc.cell 0 rfl 1
   have c2 : wr.cell? ⟨w.heap.size + 1, 1, none⟩ = some (.slice ao2 ys.length cap2) := hloc.cell 1 rfl 1
   by_cases hlt : j < xs.length
   ·obtain ⟨b, off, rfl, hb, hc⟩ := H0.out (by omega)
    obtain ⟨b2, off2, rfl, hb2, hc2⟩ := H02.out (by have := Hl.out; omega)
    have x1 : wr.cell? ⟨b, off + j, none⟩ = some (.int .i64 (gi xs j)) := ((bcell (below_grownBy hloc.grown)).1 _ _ hb).trans (hc j hlt)
    have x2 : wr.cell? ⟨b2, off2 + j, none⟩ = some (.int .i64 (gi ys j)) := ((bcell (below_grownBy hloc.grown)).1 _ _ hb2).trans (hc2 j (by have := Hl.out; omega))
    have y1 : (j : Int) < xs.length := by omega
    have y2 : (j : Int) < ys.length := by have := Hl.out; omega
    clear hc hc2
    by_cases he : gi xs j < gi ys j
    ·have hres := Lib.hid (incF_gt H2.out (fun h => by have := h j hlt; omega))
     go_wp2_with fail
     go_quiet (fail)
     go_wp2_with fail
     go_ret2
     exact ⟨BE.of hres.out, (below_grownBy hloc.grown).trans ((below_drewN _ _).mono hloc.grown.size)⟩
    ·have he' : decide (gi xs j < gi ys j) = false := by simpa using he
     have He := Lib.hid (show gi ys j ≤ gi xs j by omega)
     clear he
     go_wp2_with fail
     go_quiet (fail)
     go_wp2_with fail
     go_roundw
     case rel => exact ⟨j + 1, by omega, by go_num, Heq.out.succ He.out, hloc.next (grownBy_below (below_drewN _ _) none) (fun _ h => by cases h)⟩
     case measure => simp [intOf]; omega
   ·have hdj : decide ((j : Int) < (xs.length : Int)) = false := by simp; omega
    have hres := Lib.hid (incF_yes H2.out (fun k hk => Heq.out k (by omega)))
    go_wp2_with fail
    go_ret2
    exact ⟨BE.of hres.out, below_grownBy hloc.grown⟩
 ·have hres := Lib.hid (incF_no h2)
  go_enter Tryz.func96, Tryz.ntmps96
  go_wp2_with fail
  refine (ref_two n n2 _ _ xs ys _ Hv.out Hv2.out).mono ?_
  rw [twoB_no h2]
  rintro e wa ⟨rfl, hba⟩
  have hloca := hloc0.next (grownBy_below hba none) (fun _ h => by cases h)
  clear hba hloc0 h2
  go_wp2_with fail
  go_ret2
  exact ⟨BE.of hres.out, below_grownBy hloca.grown⟩
end Go.Proofs.YtfphlpglgcmljaaGreat
