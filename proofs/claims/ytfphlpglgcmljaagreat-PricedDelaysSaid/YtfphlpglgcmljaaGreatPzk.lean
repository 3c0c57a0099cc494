/- The checks of constraints, of resets and of priced zones, of both sides. -/
import Derived.Test.YtfphlpglgcmljaaGreatHol
import Derived.Test.YtfphlpglgcmljaaGreatZprog
import Derived.Test.YtfphlpglgcmljaaGreatZref
namespace Go.Proofs.YtfphlpglgcmljaaGreat
open Go.RowKit
set_option linter.unusedVariables false

def btw (n a b : Int) : Bool := decide (a ≤ n) && decide (n ≤ b)
/-- A constraint of a flat with n clocks. -/
def cnB (n : Int) (x : Kc) : Bool := btw x.clock 1 n && btw x.c 0 1048576
def cnsB (n : Int) (cs : List Kc) : Bool := decide (cs.length ≤ 100) && cs.all (cnB n)
def ivB (x : Kc) : Bool := !x.lower && !(x.strict && decide (x.c = 0))
def invB (n : Int) (cs : List Kc) : Bool := cnsB n cs && cs.all ivB
def rsB (n : Int) (x : Int × Int) : Bool := btw x.1 1 n && btw x.2 0 1048576
def rssB (n : Int) (rs : List (Int × Int)) : Bool := decide (rs.length ≤ 100) && rs.all (rsB n)
def slB (r : Int) : Bool := btw r (-16777216) 16777216
def frB (l : Int) : Bool := decide (l = 1099511627776) || btw (l / 2) (-67108864) 67108864
def cstB (c : Int) : Bool := btw c (-1152921504606846976) 1152921504606846976
def rngB (xs : List Int) (c : Int) (rs : List Int) : Bool := cstB c && rs.all slB && xs.all frB
open Classical in
/-- Is a priced zone valid? -/
noncomputable def pzB (n : Int) (xs : List Int) (c : Int) (rs : List Int) : Bool := decide (OkZ n xs) && decide ((rs.length : Int) = n) && rngB xs c rs
noncomputable def pzE (n : Int) (xs : List Int) (c : Int) (rs : List Int) : Int := if pzB n xs c rs = true then 0 else 2
set_option maxHeartbeats 1000000 in
theorem between_int (n a b : Int) (w : World) : Calls Tryz.prog 41 #[.int .i64 n, .int .i64 a, .int .i64 b] w fun e w' => e = .returned (.bool (btw n a b)) ∧ w = w' := by
  cases h0 : decide (a ≤ n) with
  | false =>
    have HR := Lib.hid (show btw n a b = false by unfold btw; rw [h0]; rfl)
    go_enter Tryz.func41, Tryz.ntmps41
    go_wp2_with fail
    go_ret
    exact ⟨ret_bool HR.out.symm, rfl⟩
  | true =>
    cases h1 : decide (n ≤ b) with
    | false =>
      have HR := Lib.hid (show btw n a b = false by unfold btw; rw [h0, h1]; rfl)
      go_enter Tryz.func41, Tryz.ntmps41
      go_wp2_with fail
      go_ret
      exact ⟨ret_bool HR.out.symm, rfl⟩
    | true =>
      have HR := Lib.hid (show btw n a b = true by unfold btw; rw [h0, h1]; rfl)
      go_enter Tryz.func41, Tryz.ntmps41
      go_wp2_with fail
      go_ret
      exact ⟨ret_bool HR.out.symm, rfl⟩
set_option maxHeartbeats 1000000 in
theorem between_i64 (n a b : Int) (w : World) : Calls Tryz.prog 45 #[.int .i64 n, .int .i64 a, .int .i64 b] w fun e w' => e = .returned (.bool (btw n a b)) ∧ w = w' := by
  cases h0 : decide (a ≤ n) with
  | false =>
    have HR := Lib.hid (show btw n a b = false by unfold btw; rw [h0]; rfl)
    go_enter Tryz.func45, Tryz.ntmps45
    go_wp2_with fail
    go_ret
    exact ⟨ret_bool HR.out.symm, rfl⟩
  | true =>
    cases h1 : decide (n ≤ b) with
    | false =>
      have HR := Lib.hid (show btw n a b = false by unfold btw; rw [h0, h1]; rfl)
      go_enter Tryz.func45, Tryz.ntmps45
      go_wp2_with fail
      go_ret
      exact ⟨ret_bool HR.out.symm, rfl⟩
    | true =>
      have HR := Lib.hid (show btw n a b = true by unfold btw; rw [h0, h1]; rfl)
      go_enter Tryz.func45, Tryz.ntmps45
      go_wp2_with fail
      go_ret
      exact ⟨ret_bool HR.out.symm, rfl⟩
set_option maxHeartbeats 1000000 in
theorem test_con (x : Kc) (cb : Nat) (n : Int) (w : World) (hc : w.cell? ⟨cb, 0, none⟩ = some (.int .i64 n)) :
    Calls Tryz.prog 116 (#[encCon x] ++ #[.pointer (some ⟨cb, 0, none⟩)]) w fun e w' => e = .returned (.bool (cnB n x)) ∧ Below w.heap.size w w' := by
  have hloc := Loc.one w (.cells #[.int .i64 x.clock, .bool x.lower, .bool x.strict, .int .i64 x.c] 81) none
  have htb := World.block_lt_of_cell? w _ hc
  have hc2 := keepb hc (below_grownBy hloc.grown)
  clear hc
  show Calls Tryz.prog 116 #[encCon x, .pointer (some ⟨cb, 0, none⟩)] w _
  unfold encCon
  cases h0 : btw x.clock 1 n with
  | false =>
    have HR := Lib.hid (show cnB n x = false by unfold cnB; rw [h0]; rfl)
    have HB0 := Lib.hid (fun w => between_int x.clock 1 n w)
    rw [h0] at HB0
    clear h0 
    go_enter Tryz.func116, Tryz.ntmps116
    go_wp2_with fail
    refine (HB0.out _).mono ?_
    rintro e w1 ⟨rfl, rfl⟩
    go_wp2_with fail
    go_ret
    exact ⟨ret_bool HR.out.symm, below_grownBy hloc.grown⟩
  | true =>
    cases h1 : btw x.c 0 1048576 with
    | false =>
      have HR := Lib.hid (show cnB n x = false by unfold cnB; rw [h0, h1]; rfl)
      have HB0 := Lib.hid (fun w => between_int x.clock 1 n w)
      rw [h0] at HB0
      have HB1 := Lib.hid (fun w => between_i64 x.c 0 1048576 w)
      rw [h1] at HB1
      clear h0 h1
      go_enter Tryz.func116, Tryz.ntmps116
      go_wp2_with fail
      refine (HB0.out _).mono ?_
      rintro e w1 ⟨rfl, rfl⟩
      go_wp2_with fail
      refine (HB1.out _).mono ?_
      rintro e w1 ⟨rfl, rfl⟩
      go_wp2_with fail
      go_ret
      exact ⟨ret_bool HR.out.symm, below_grownBy hloc.grown⟩
    | true =>
      have HR := Lib.hid (show cnB n x = true by unfold cnB; rw [h0, h1]; rfl)
      have HB0 := Lib.hid (fun w => between_int x.clock 1 n w)
      rw [h0] at HB0
      have HB1 := Lib.hid (fun w => between_i64 x.c 0 1048576 w)
      rw [h1] at HB1
      clear h0 h1
      go_enter Tryz.func116, Tryz.ntmps116
      go_wp2_with fail
      refine (HB0.out _).mono ?_
      rintro e w1 ⟨rfl, rfl⟩
      go_wp2_with fail
      refine (HB1.out _).mono ?_
      rintro e w1 ⟨rfl, rfl⟩
      go_wp2_with fail
      go_ret
      exact ⟨ret_bool HR.out.symm, below_grownBy hloc.grown⟩

theorem ents_test_con : Enters Tryz.prog 116 := enters_of Tryz.func116 (by kernel_rfl) rfl
set_option maxHeartbeats 1000000 in
theorem test_res (x : (Int × Int)) (cb : Nat) (n : Int) (w : World) (hc : w.cell? ⟨cb, 0, none⟩ = some (.int .i64 n)) :
    Calls Tryz.prog 118 (#[encRes x] ++ #[.pointer (some ⟨cb, 0, none⟩)]) w fun e w' => e = .returned (.bool (rsB n x)) ∧ Below w.heap.size w w' := by
  have hloc := Loc.one w (.cells #[.int .i64 x.1, .int .i64 x.2] 48) none
  have htb := World.block_lt_of_cell? w _ hc
  have hc2 := keepb hc (below_grownBy hloc.grown)
  clear hc
  show Calls Tryz.prog 118 #[encRes x, .pointer (some ⟨cb, 0, none⟩)] w _
  unfold encRes
  cases h0 : btw x.1 1 n with
  | false =>
    have HR := Lib.hid (show rsB n x = false by unfold rsB; rw [h0]; rfl)
    have HB0 := Lib.hid (fun w => between_int x.1 1 n w)
    rw [h0] at HB0
    clear h0 
    go_enter Tryz.func118, Tryz.ntmps118
    go_wp2_with fail
    refine (HB0.out _).mono ?_
    rintro e w1 ⟨rfl, rfl⟩
    go_wp2_with fail
    go_ret
    exact ⟨ret_bool HR.out.symm, below_grownBy hloc.grown⟩
  | true =>
    cases h1 : btw x.2 0 1048576 with
    | false =>
      have HR := Lib.hid (show rsB n x = false by unfold rsB; rw [h0, h1]; rfl)
      have HB0 := Lib.hid (fun w => between_int x.1 1 n w)
      rw [h0] at HB0
      have HB1 := Lib.hid (fun w => between_i64 x.2 0 1048576 w)
      rw [h1] at HB1
      clear h0 h1
      go_enter Tryz.func118, Tryz.ntmps118
      go_wp2_with fail
      refine (HB0.out _).mono ?_
      rintro e w1 ⟨rfl, rfl⟩
      go_wp2_with fail
      refine (HB1.out _).mono ?_
      rintro e w1 ⟨rfl, rfl⟩
      go_wp2_with fail
      go_ret
      exact ⟨ret_bool HR.out.symm, below_grownBy hloc.grown⟩
    | true =>
      have HR := Lib.hid (show rsB n x = true by unfold rsB; rw [h0, h1]; rfl)
      have HB0 := Lib.hid (fun w => between_int x.1 1 n w)
      rw [h0] at HB0
      have HB1 := Lib.hid (fun w => between_i64 x.2 0 1048576 w)
      rw [h1] at HB1
      clear h0 h1
      go_enter Tryz.func118, Tryz.ntmps118
      go_wp2_with fail
      refine (HB0.out _).mono ?_
      rintro e w1 ⟨rfl, rfl⟩
      go_wp2_with fail
      refine (HB1.out _).mono ?_
      rintro e w1 ⟨rfl, rfl⟩
      go_wp2_with fail
      go_ret
      exact ⟨ret_bool HR.out.symm, below_grownBy hloc.grown⟩

theorem ents_test_res : Enters Tryz.prog 118 := enters_of Tryz.func118 (by kernel_rfl) rfl
set_option maxHeartbeats 1000000 in
theorem prog_constraints (n : Int) (v : Value) (cs : List Kc) (w : World) (hv : RX cdCon w.heap.size w v cs) :
    Calls Tryz.prog 48 #[.int .i64 n, v] w fun e w' => e = .returned (.bool (cnsB n cs)) ∧ Below w.heap.size w w' := by
  obtain ⟨ao, cap, rfl, hle, _⟩ := hv.open
  have hloc := Loc.one w (.cells #[.int .i64 n] 3) none
  have hp : Prd encCon (.func (.func 116) #[] #[.pointer (some ⟨w.heap.size, 0, none⟩)]) (w.alloc (.cells #[.int .i64 n] 3)) (cnB n) cs :=
    ⟨_, _, rfl, ents_test_con, fun x _ w' hw => test_con x w.heap.size n w' (keepb (hloc.cell 0 rfl 0) hw)⟩
  have HC := holds_Con _ _ cs _ _ (hv.keepb (below_grownBy hloc.grown)) hp
  clear hv hp
  cases h0 : decide (cs.length ≤ 100) with
  | false =>
    have HR := Lib.hid (show cnsB n cs = false by unfold cnsB; rw [h0]; rfl)
    have h1 : decide ((cs.length : Int) ≤ 100) = false := by simp at h0 ⊢; omega
    clear HC h0
    go_enter Tryz.func48, Tryz.ntmps48
    go_wp2_with fail
    go_ret
    exact ⟨ret_bool HR.out.symm, below_grownBy hloc.grown⟩
  | true =>
    have HR := Lib.hid (show cnsB n cs = cs.all (cnB n) by unfold cnsB; rw [h0]; rfl)
    have h1 : decide ((cs.length : Int) ≤ 100) = true := by simp at h0 ⊢; omega
    have HC := Lib.hid HC
    clear h0
    go_enter Tryz.func48, Tryz.ntmps48
    go_wp2_with fail
    refine HC.out.mono ?_
    rintro e w1 ⟨rfl, hb1⟩
    have hloc1 := hloc.next (grownBy_below hb1 none) (fun _ h => by cases h)
    clear hb1 hloc
    go_wp2_with fail
    go_ret
    exact ⟨ret_bool HR.out.symm, below_grownBy hloc1.grown⟩
set_option maxHeartbeats 1000000 in
theorem prog_resets (n : Int) (v : Value) (cs : List (Int × Int)) (w : World) (hv : RX cdRes w.heap.size w v cs) :
    Calls Tryz.prog 49 #[.int .i64 n, v] w fun e w' => e = .returned (.bool (rssB n cs)) ∧ Below w.heap.size w w' := by
  obtain ⟨ao, cap, rfl, hle, _⟩ := hv.open
  have hloc := Loc.one w (.cells #[.int .i64 n] 3) none
  have hp : Prd encRes (.func (.func 118) #[] #[.pointer (some ⟨w.heap.size, 0, none⟩)]) (w.alloc (.cells #[.int .i64 n] 3)) (rsB n) cs :=
    ⟨_, _, rfl, ents_test_res, fun x _ w' hw => test_res x w.heap.size n w' (keepb (hloc.cell 0 rfl 0) hw)⟩
  have HC := holds_Res _ _ cs _ _ (hv.keepb (below_grownBy hloc.grown)) hp
  clear hv hp
  cases h0 : decide (cs.length ≤ 100) with
  | false =>
    have HR := Lib.hid (show rssB n cs = false by unfold rssB; rw [h0]; rfl)
    have h1 : decide ((cs.length : Int) ≤ 100) = false := by simp at h0 ⊢; omega
    clear HC h0
    go_enter Tryz.func49, Tryz.ntmps49
    go_wp2_with fail
    go_ret
    exact ⟨ret_bool HR.out.symm, below_grownBy hloc.grown⟩
  | true =>
    have HR := Lib.hid (show rssB n cs = cs.all (rsB n) by unfold rssB; rw [h0]; rfl)
    have h1 : decide ((cs.length : Int) ≤ 100) = true := by simp at h0 ⊢; omega
    have HC := Lib.hid HC
    clear h0
    go_enter Tryz.func49, Tryz.ntmps49
    go_wp2_with fail
    refine HC.out.mono ?_
    rintro e w1 ⟨rfl, hb1⟩
    have hloc1 := hloc.next (grownBy_below hb1 none) (fun _ h => by cases h)
    clear hb1 hloc
    go_wp2_with fail
    go_ret
    exact ⟨ret_bool HR.out.symm, below_grownBy hloc1.grown⟩
set_option maxHeartbeats 1000000 in
theorem test_inv (x : Kc) (w : World) :
    Calls Tryz.prog 113 (#[encCon x] ++ #[]) w fun e w' => e = .returned (.bool (ivB x)) ∧ Below w.heap.size w w' := by
  obtain ⟨xk, xl, xs, xc⟩ := x
  have hloc := Loc.one w (.cells #[.int .i64 xk, .bool xl, .bool xs, .int .i64 xc] 81) none
  show Calls Tryz.prog 113 #[.agg #[.int .i64 xk, .bool xl, .bool xs, .int .i64 xc]] w _
  cases xl with
  | true =>
    have HR := Lib.hid (show ivB ⟨xk, true, xs, xc⟩ = false from rfl)
    go_enter Tryz.func113, Tryz.ntmps113
    go_wp2_with fail
    go_ret
    exact ⟨ret_bool HR.out.symm, below_grownBy hloc.grown⟩
  | false =>
    cases xs with
    | false =>
      have HR := Lib.hid (show ivB ⟨xk, false, false, xc⟩ = true from rfl)
      go_enter Tryz.func113, Tryz.ntmps113
      go_wp2_with fail
      go_ret
      exact ⟨ret_bool HR.out.symm, below_grownBy hloc.grown⟩
    | true =>
      by_cases h : xc = 0
      · subst h
        have HR := Lib.hid (show ivB ⟨xk, false, true, 0⟩ = false from rfl)
        go_enter Tryz.func113, Tryz.ntmps113
        go_wp2_with fail
        go_ret
        exact ⟨ret_bool HR.out.symm, below_grownBy hloc.grown⟩
      · have HR := Lib.hid (show ivB ⟨xk, false, true, xc⟩ = true by unfold ivB; simp [h])
        have hb : (xc == 0) = false := by simpa using h
        clear h
        go_enter Tryz.func113, Tryz.ntmps113
        go_wp2_with fail
        go_ret
        exact ⟨ret_bool HR.out.symm, below_grownBy hloc.grown⟩
theorem ents_inv : Enters Tryz.prog 113 := enters_of Tryz.func113 (by kernel_rfl) rfl
set_option maxHeartbeats 1000000 in
theorem prog_invariant (n : Int) (v : Value) (cs : List Kc) (w : World) (hv : RX cdCon w.heap.size w v cs) :
    Calls Tryz.prog 44 #[.int .i64 n, v] w fun e w' => e = .returned (.bool (invB n cs)) ∧ Below w.heap.size w w' := by
  obtain ⟨ao, cap, rfl, hle, _⟩ := hv.open
  have HV := Lib.hid hv
  have HC := Lib.hid (prog_constraints n _ cs w hv)
  have HI := Lib.hid (fun w' (hb : Below w.heap.size w w') => holds_Con _ _ cs ivB w' (HV.out.keepb hb) ⟨_, _, rfl, ents_inv, fun x _ w'' hw => test_inv x w''⟩)
  clear hv
  cases h0 : cnsB n cs with
  | false =>
    rw [h0] at HC
    have HR := Lib.hid (show invB n cs = false by unfold invB; rw [h0]; rfl)
    clear h0
    go_enter Tryz.func44, Tryz.ntmps44
    go_wp2_with fail
    refine HC.out.mono ?_
    rintro e w1 ⟨rfl, hb1⟩
    go_wp2_with fail
    go_ret
    exact ⟨ret_bool HR.out.symm, hb1⟩
  | true =>
    rw [h0] at HC
    have HR := Lib.hid (show invB n cs = cs.all ivB by unfold invB; rw [h0]; rfl)
    clear h0
    go_enter Tryz.func44, Tryz.ntmps44
    go_wp2_with fail
    refine HC.out.mono ?_
    rintro e w1 ⟨rfl, hb1⟩
    have HB := Lib.hid hb1
    clear hb1
    go_wp2_with fail
    refine (HI.out w1 HB.out).mono ?_
    rintro e w2 ⟨rfl, hb2⟩
    go_wp2_with fail
    go_ret
    exact ⟨ret_bool HR.out.symm, bt HB.out hb2⟩
theorem test_slope (x : Int) (w : World) :
    Calls Tryz.prog 135 (#[encI64 x] ++ #[]) w fun e w' => e = .returned (.bool (slB x)) ∧ Below w.heap.size w w' := by
  show Calls Tryz.prog 135 #[.int .i64 x] w _
  go_enter Tryz.func135, Tryz.ntmps135
  go_wp2_with fail
  refine (between_i64 _ _ _ _).mono ?_
  rintro e w1 ⟨rfl, rfl⟩
  go_wp2_with fail
  go_ret
  exact ⟨rfl, Below.refl _ _⟩
theorem test_far (x : Int) (w : World) :
    Calls Tryz.prog 137 (#[encLim x] ++ #[]) w fun e w' => e = .returned (.bool (frB x)) ∧ Below w.heap.size w w' := by
  show Calls Tryz.prog 137 #[.int .i64 x] w _
  by_cases h : x = 1099511627776
  · have HR := Lib.hid (show frB x = true by unfold frB; simp [h])
    subst h
    go_enter Tryz.func137, Tryz.ntmps137
    go_wp2_with fail
    go_ret
    exact ⟨ret_bool HR.out.symm, Below.refl _ _⟩
  · have HR := Lib.hid (show frB x = btw (x / 2) (-67108864) 67108864 by unfold frB; simp [h])
    have hb : (x == 1099511627776) = false := by simpa using h
    clear h
    go_enter Tryz.func137, Tryz.ntmps137
    go_wp2_with fail
    refine (between_i64 _ _ _ _).mono ?_
    rintro e w1 ⟨rfl, rfl⟩
    go_wp2_with fail
    go_ret
    exact ⟨ret_bool HR.out.symm, Below.refl _ _⟩
theorem ents_slope : Enters Tryz.prog 135 := enters_of Tryz.func135 (by kernel_rfl) rfl
theorem ents_far : Enters Tryz.prog 137 := enters_of Tryz.func137 (by kernel_rfl) rfl
theorem RL.re {B : Nat} {w : World} {v : Value} {xs : List Int} (h : RL B w v xs) : RX cdI64 B w v xs := by
  have e : ∀ ys : List Int, ys.flatMap cdI64.cells = ys.map (Value.int .i64) := by
    intro ys
    induction ys with
    | nil => rfl
    | cons x xs ih => rw [List.flatMap_cons, List.map_cons, ih]; rfl
  unfold RX; rw [e xs]; exact h
set_option maxRecDepth 100000 in
set_option maxHeartbeats 2000000 in
theorem prog_ranged (n c : Int) (v rv : Value) (xs rs : List Int) (w : World) (hv : RL w.heap.size w v xs) (hr : RL w.heap.size w rv rs) :
    Calls Tryz.prog 79 #[.agg #[.int .i64 n, v, .int .i64 c, rv]] w fun e w' => e = .returned (.bool (rngB xs c rs)) ∧ Below w.heap.size w w' := by
  obtain ⟨ao, cap, rfl, hle, _⟩ := hv.open
  obtain ⟨aor, capr, rfl, hler, _⟩ := hr.open
  have hloc := Loc.one w (.cells #[.int .i64 n, .slice ao xs.length cap, .int .i64 c, .slice aor rs.length capr] 35) none
  have H1 := Lib.hid (fun w' (hb : Below w.heap.size w w') => holds_I64 _ _ rs slB w' (RX.keepb (RL.re hr) hb) ⟨_, _, rfl, ents_slope, fun x _ w'' hw => test_slope x w''⟩)
  have H2 := Lib.hid (fun w' (hb : Below w.heap.size w w') => holds_Lim _ _ xs frB w' (RX.keepb (RL.re hv) hb) ⟨_, _, rfl, ents_far, fun x _ w'' hw => test_far x w''⟩)
  have H0 := Lib.hid (fun w => between_i64 c (-1152921504606846976) 1152921504606846976 w)
  clear hv hr
  cases h0 : cstB c with
  | false =>
    have HR := Lib.hid (show rngB xs c rs = false by unfold rngB; rw [h0]; rfl)
    unfold cstB at h0
    rw [h0] at H0
    clear h0
    go_enter Tryz.func79, Tryz.ntmps79
    go_wp2_with fail
    refine (H0.out _).mono ?_
    rintro e w1 ⟨rfl, rfl⟩
    go_wp2_with fail
    go_ret
    exact ⟨ret_bool HR.out.symm, below_grownBy hloc.grown⟩
  | true =>
    cases h1 : rs.all slB with
    | false =>
      have HR := Lib.hid (show rngB xs c rs = false by unfold rngB; rw [h0, h1]; rfl)
      unfold cstB at h0
      rw [h0] at H0
      rw [h1] at H1
      clear h0 h1
      go_enter Tryz.func79, Tryz.ntmps79
      go_wp2_with fail
      refine (H0.out _).mono ?_
      rintro e w1 ⟨rfl, rfl⟩
      go_wp2_with fail
      refine (H1.out _ (below_grownBy hloc.grown)).mono ?_
      rintro e w2 ⟨rfl, hb2⟩
      have hloc2 := hloc.next (grownBy_below hb2 none) (fun _ h => by cases h)
      clear hb2 hloc
      go_wp2_with fail
      go_ret
      exact ⟨ret_bool HR.out.symm, below_grownBy hloc2.grown⟩
    | true =>
      have HR := Lib.hid (show rngB xs c rs = xs.all frB by unfold rngB; rw [h0, h1]; rfl)
      unfold cstB at h0
      rw [h0] at H0
      rw [h1] at H1
      clear h0 h1
      go_enter Tryz.func79, Tryz.ntmps79
      go_wp2_with fail
      refine (H0.out _).mono ?_
      rintro e w1 ⟨rfl, rfl⟩
      go_wp2_with fail
      refine (H1.out _ (below_grownBy hloc.grown)).mono ?_
      rintro e w2 ⟨rfl, hb2⟩
      have hloc2 := hloc.next (grownBy_below hb2 none) (fun _ h => by cases h)
      clear hb2 hloc
      have z1 : w2.cell? ⟨w.heap.size, 1, none⟩ = some (.slice ao xs.length cap) := hloc2.cell 0 rfl 1
      go_wp2_with fail
      refine (H2.out _ (below_grownBy hloc2.grown)).mono ?_
      rintro e w3 ⟨rfl, hb3⟩
      have hloc3 := hloc2.next (grownBy_below hb3 none) (fun _ h => by cases h)
      clear hb3 hloc2 z1
      go_wp2_with fail
      go_ret
      exact ⟨ret_bool HR.out.symm, below_grownBy hloc3.grown⟩
end Go.Proofs.YtfphlpglgcmljaaGreat
