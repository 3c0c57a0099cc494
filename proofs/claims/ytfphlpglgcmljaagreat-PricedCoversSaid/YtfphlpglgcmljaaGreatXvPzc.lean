/- Part of the proof of priced_covers_proved: Pzk, Pzc. -/
import Derived.Test.YtfphlpglgcmljaaGreatXvHol
import Derived.Test.YtfphlpglgcmljaaGreatXvZprog
import Derived.Test.YtfphlpglgcmljaaGreatXvZref
namespace Go.Proofs.YtfphlpglgcmljaaGreat
open Go.RowKit
set_option linter.unusedVariables false
def btw (n a b : Int) : Bool := decide (a ≤ n) && decide (n ≤ b)
def slB (r : Int) : Bool := btw r (-16777216) 16777216
def frB (l : Int) : Bool := decide (l = 1099511627776) || btw (l / 2) (-67108864) 67108864
def cstB (c : Int) : Bool := btw c (-1152921504606846976) 1152921504606846976
def rngB (xs : List Int) (c : Int) (rs : List Int) : Bool := cstB c && rs.all slB && xs.all frB
open Classical in
/-- Is a priced zone valid? -/
noncomputable def pzB (n : Int) (xs : List Int) (c : Int) (rs : List Int) : Bool := decide (OkZ n xs) && decide ((rs.length : Int) = n) && rngB xs c rs
noncomputable def pzE (n : Int) (xs : List Int) (c : Int) (rs : List Int) : Int := if pzB n xs c rs = true then 0 else 2
set_option maxHeartbeats 1000000 in
theorem between_i64 (n a b : Int) (w : World) : Calls Tryz.prog 45 #[.int .i64 n, .int .i64 a, .int .i64 b] w fun e w' => e = .returned (.bool (btw n a b)) ∧ w = w' := by
 cases h0 : decide (a ≤ n) with
 | false =>
  have HR := Lib.hid (show btw n a b = false by unfold btw; rw [h0]; rfl)
  go_enter Tryz.func45, Tryz.ntmps45
  go_wp2_with fail
  go_ret
  exact ⟨ret_bool HR.out.symm, rfl⟩
 | true =>
  cases h1 : decide (n ≤ b) with
  | false =>
   have HR := Lib.hid (show btw n a b = false by unfold btw; rw [h0, h1]; rfl)
   go_enter Tryz.func45, Tryz.ntmps45
   go_wp2_with fail
   go_ret
   exact ⟨ret_bool HR.out.symm, rfl⟩
  | true =>
   have HR := Lib.hid (show btw n a b = true by unfold btw; rw [h0, h1]; rfl)
   go_enter Tryz.func45, Tryz.ntmps45
   go_wp2_with fail
   go_ret
   exact ⟨ret_bool HR.out.symm, rfl⟩
theorem test_slope (x : Int) (w : World) :
  Calls Tryz.prog 135 (#[encI64 x] ++ #[]) w fun e w' => e = .returned (.bool (slB x)) ∧ Below w.heap.size w w' := by
 show Calls Tryz.prog 135 #[.int .i64 x] w _
 go_enter Tryz.func135, Tryz.ntmps135
 go_wp2_with fail
 refine (between_i64 _ _ _ _).mono ?_
 rintro e w1 ⟨rfl, rfl⟩
 go_wp2_with fail
 go_ret
 exact ⟨rfl, Below.refl _ _⟩
theorem test_far (x : Int) (w : World) :
  Calls Tryz.prog 137 (#[encLim x] ++ #[]) w fun e w' => e = .returned (.bool (frB x)) ∧ Below w.heap.size w w' := by
 show Calls Tryz.prog 137 #[.int .i64 x] w _
 by_cases h : x = 1099511627776
 ·have HR := Lib.hid (show frB x = true by unfold frB; simp [h])
  subst h
  go_enter Tryz.func137, Tryz.ntmps137
  go_wp2_with fail
  go_ret
  exact ⟨ret_bool HR.out.symm, Below.refl _ _⟩
 ·have HR := Lib.hid (show frB x = btw (x / 2) (-67108864) 67108864 by unfold frB; simp [h])
  have hb : (x == 1099511627776) = false := by simpa using h
  clear h
  go_enter Tryz.func137, Tryz.ntmps137
  go_wp2_with fail
  refine (between_i64 _ _ _ _).mono ?_
  rintro e w1 ⟨rfl, rfl⟩
  go_wp2_with fail
  go_ret
  exact ⟨ret_bool HR.out.symm, Below.refl _ _⟩
theorem ents_slope : Enters Tryz.prog 135 := enters_of Tryz.func135 (by kernel_rfl) rfl
theorem ents_far : Enters Tryz.prog 137 := enters_of Tryz.func137 (by kernel_rfl) rfl
theorem RL.re {B : Nat} {w : World} {v : Value} {xs : List Int} (h : RL B w v xs) : RX cdI64 B w v xs := by
 have e : ∀ ys : List Int, ys.flatMap cdI64.cells = ys.map (Value.int .i64) := by
  intro ys
  induction ys with
  | nil => rfl
  | cons x xs ih => rw [List.flatMap_cons, List.map_cons, ih]; rfl
 unfold RX; rw [e xs]; exact h
set_option maxRecDepth 100000 in
set_option maxHeartbeats 2000000 in
theorem prog_ranged (n c : Int) (v rv : Value) (xs rs : List Int) (w : World) (hv : RL w.heap.size w v xs) (hr : RL w.heap.size w rv rs) :
  Calls Tryz.prog 79 #[.agg #[.int .i64 n, v, .int .i64 c, rv]] w fun e w' => e = .returned (.bool (rngB xs c rs)) ∧ Below w.heap.size w w' := by
 obtain ⟨ao, cap, rfl, hle, _⟩ := hv.open
 obtain ⟨aor, capr, rfl, hler, _⟩ := hr.open
 have hloc := Loc.one w (.cells #[.int .i64 n, .slice ao xs.length cap, .int .i64 c, .slice aor rs.length capr] 35) none
 have H1 := Lib.hid (fun w' (hb : Below w.heap.size w w') => holds_I64 _ _ rs slB w' (RX.keepb (RL.re hr) hb) ⟨_, _, rfl, ents_slope, fun x _ w'' hw => test_slope x w''⟩)
 have H2 := Lib.hid (fun w' (hb : Below w.heap.size w w') => holds_Lim _ _ xs frB w' (RX.keepb (RL.re hv) hb) ⟨_, _, rfl, ents_far, fun x _ w'' hw => test_far x w''⟩)
 have H0 := Lib.hid (fun w => between_i64 c (-1152921504606846976) 1152921504606846976 w)
 clear hv hr
 cases h0 : cstB c with
 | false =>
  have HR := Lib.hid (show rngB xs c rs = false by unfold rngB; rw [h0]; rfl)
  unfold cstB at h0
  rw [h0] at H0
  clear h0
  go_enter Tryz.func79, Tryz.ntmps79
  go_wp2_with fail
  refine (H0.out _).mono ?_
  rintro e w1 ⟨rfl, rfl⟩
  go_wp2_with fail
  go_ret
  exact ⟨ret_bool HR.out.symm, below_grownBy hloc.grown⟩
 | true =>
  cases h1 : rs.all slB with
  | false =>
   have HR := Lib.hid (show rngB xs c rs = false by unfold rngB; rw [h0, h1]; rfl)
   unfold cstB at h0
   rw [h0] at H0
   rw [h1] at H1
   clear h0 h1
   go_enter Tryz.func79, Tryz.ntmps79
   go_wp2_with fail
   refine (H0.out _).mono ?_
   rintro e w1 ⟨rfl, rfl⟩
   go_wp2_with fail
   refine (H1.out _ (below_grownBy hloc.grown)).mono ?_
   rintro e w2 ⟨rfl, hb2⟩
   have hloc2 := hloc.next (grownBy_below hb2 none) (fun _ h => by cases h)
   clear hb2 hloc
   go_wp2_with fail
   go_ret
   exact ⟨ret_bool HR.out.symm, below_grownBy hloc2.grown⟩
  | true =>
   have HR := Lib.hid (show rngB xs c rs = xs.all frB by unfold rngB; rw [h0, h1]; rfl)
   unfold cstB at h0
   rw [h0] at H0
   rw [h1] at H1
   clear h0 h1
   go_enter Tryz.func79, Tryz.ntmps79
   go_wp2_with fail
   refine (H0.out _).mono ?_
   rintro e w1 ⟨rfl, rfl⟩
   go_wp2_with fail
   refine (H1.out _ (below_grownBy hloc.grown)).mono ?_
   rintro e w2 ⟨rfl, hb2⟩
   have hloc2 := hloc.next (grownBy_below hb2 none) (fun _ h => by cases h)
   clear hb2 hloc
   have z1 : w2.cell? ⟨w.heap.size, 1, none⟩ = some (.slice ao xs.length cap) := hloc2.cell 0 rfl 1
   go_wp2_with fail
   refine (H2.out _ (below_grownBy hloc2.grown)).mono ?_
   rintro e w3 ⟨rfl, hb3⟩
   have hloc3 := hloc2.next (grownBy_below hb3 none) (fun _ h => by cases h)
   clear hb3 hloc2 z1
   go_wp2_with fail
   go_ret
   exact ⟨ret_bool HR.out.symm, below_grownBy hloc3.grown⟩
set_option linter.unusedVariables false
theorem pzE_zone {n c : Int} {xs rs : List Int} (h : ¬ OkZ n xs) : pzE n xs c rs = 2 := by unfold pzE pzB; simp [h]
theorem pzE_len {n c : Int} {xs rs : List Int} (h : ¬ (rs.length : Int) = n) : pzE n xs c rs = 2 := by unfold pzE pzB; simp [h]
theorem pzE_rng {n c : Int} {xs rs : List Int} (h : rngB xs c rs = false) : pzE n xs c rs = 2 := by unfold pzE pzB; simp [h]
theorem pzE_ok {n c : Int} {xs rs : List Int} (h : OkZ n xs) (h2 : (rs.length : Int) = n) (h3 : rngB xs c rs = true) : pzE n xs c rs = 0 := by unfold pzE pzB; simp [h, h2, h3]
set_option maxRecDepth 100000 in
set_option maxHeartbeats 2000000 in
theorem prog_pcheck (n c : Int) (v rv : Value) (xs rs : List Int) (w : World) (hv : RL w.heap.size w v xs) (hr : RL w.heap.size w rv rs) :
  Calls Tryz.prog 36 #[.agg #[.int .i64 n, v, .int .i64 c, rv]] w fun e w' => e = .returned (.int .i64 (pzE n xs c rs)) ∧ Below w.heap.size w w' := by
 obtain ⟨ao, cap, rfl, hle, _⟩ := hv.open
 obtain ⟨aor, capr, rfl, hler, _⟩ := hr.open
 have hloc := Loc.one w (.cells #[.int .i64 n, .slice ao xs.length cap, .int .i64 c, .slice aor rs.length capr] 35) none
 have Hv := Lib.hid hv
 have Hr := Lib.hid hr
 have H0 := Lib.hid (prog_check n _ xs _ (hv.keepb (below_grownBy hloc.grown)))
 clear hv hr
 by_cases hok : OkZ n xs
 rotate_left
 ·have HR := Lib.hid (pzE_zone (c := c) (rs := rs) hok)
  rw [okErr_no hok] at H0
  clear hok
  go_enter Tryz.func36, Tryz.ntmps36
  go_wp2_with fail
  refine H0.out.mono ?_
  rintro e w1 ⟨rfl, hb1⟩
  have hloc1 := hloc.next (grownBy_below hb1 none) (fun _ h => by cases h)
  clear hb1 hloc
  go_wp2_with fail
  go_ret
  exact ⟨ret_int HR.out.symm, below_grownBy hloc1.grown⟩
 rw [okErr_yes hok] at H0
 by_cases hl : (rs.length : Int) = n
 rotate_left
 ·have HR := Lib.hid (pzE_len (xs := xs) (c := c) hl)
  have hlb : ((rs.length : Int) != n) = true := by simpa using hl
  clear hok hl
  go_enter Tryz.func36, Tryz.ntmps36
  go_wp2_with fail
  refine H0.out.mono ?_
  rintro e w1 ⟨rfl, hb1⟩
  have hloc1 := hloc.next (grownBy_below hb1 none) (fun _ h => by cases h)
  clear hb1 hloc
  have z0 : w1.cell? ⟨w.heap.size, 0, none⟩ = some (.int .i64 n) := hloc1.cell 0 rfl 0
  have z3 : w1.cell? ⟨w.heap.size, 3, none⟩ = some (.slice aor rs.length capr) := hloc1.cell 0 rfl 3
  go_wp2_with fail
  go_ret
  exact ⟨ret_int HR.out.symm, below_grownBy hloc1.grown⟩
 have hlb : ((rs.length : Int) != n) = false := by simpa using hl
 have H1 := Lib.hid (fun w' (hb : Below w.heap.size w w') => prog_ranged n c _ _ xs rs w' (Hv.out.keepb hb) (Hr.out.keepb hb))
 have HP1 := Lib.hid (fun h => pzE_rng (n := n) (xs := xs) (c := c) (rs := rs) h)
 have HP2 := Lib.hid (fun h => pzE_ok (c := c) hok hl h)
 clear hok hl
 cases hg : rngB xs c rs with
 | false =>
  have HR := Lib.hid (HP1.out hg)
  rw [hg] at H1
  clear hg
  go_enter Tryz.func36, Tryz.ntmps36
  go_wp2_with fail
  refine H0.out.mono ?_
  rintro e w1 ⟨rfl, hb1⟩
  have hloc1 := hloc.next (grownBy_below hb1 none) (fun _ h => by cases h)
  clear hb1 hloc
  have z0 : w1.cell? ⟨w.heap.size, 0, none⟩ = some (.int .i64 n) := hloc1.cell 0 rfl 0
  have z1 : w1.cell? ⟨w.heap.size, 1, none⟩ = some (.slice ao xs.length cap) := hloc1.cell 0 rfl 1
  have z2 : w1.cell? ⟨w.heap.size, 2, none⟩ = some (.int .i64 c) := hloc1.cell 0 rfl 2
  have z3 : w1.cell? ⟨w.heap.size, 3, none⟩ = some (.slice aor rs.length capr) := hloc1.cell 0 rfl 3
  go_wp2_with fail
  refine (H1.out w1 (below_grownBy hloc1.grown)).mono ?_
  rintro e w2 ⟨rfl, hb2⟩
  have hloc2 := hloc1.next (grownBy_below hb2 none) (fun _ h => by cases h)
  clear hb2 hloc1 z0 z1 z2 z3
  go_wp2_with fail
  go_ret
  exact ⟨ret_int HR.out.symm, below_grownBy hloc2.grown⟩
 | true =>
  have HR := Lib.hid (HP2.out hg)
  rw [hg] at H1
  clear hg
  go_enter Tryz.func36, Tryz.ntmps36
  go_wp2_with fail
  refine H0.out.mono ?_
  rintro e w1 ⟨rfl, hb1⟩
  have hloc1 := hloc.next (grownBy_below hb1 none) (fun _ h => by cases h)
  clear hb1 hloc
  have z0 : w1.cell? ⟨w.heap.size, 0, none⟩ = some (.int .i64 n) := hloc1.cell 0 rfl 0
  have z1 : w1.cell? ⟨w.heap.size, 1, none⟩ = some (.slice ao xs.length cap) := hloc1.cell 0 rfl 1
  have z2 : w1.cell? ⟨w.heap.size, 2, none⟩ = some (.int .i64 c) := hloc1.cell 0 rfl 2
  have z3 : w1.cell? ⟨w.heap.size, 3, none⟩ = some (.slice aor rs.length capr) := hloc1.cell 0 rfl 3
  go_wp2_with fail
  refine (H1.out w1 (below_grownBy hloc1.grown)).mono ?_
  rintro e w2 ⟨rfl, hb2⟩
  have hloc2 := hloc1.next (grownBy_below hb2 none) (fun _ h => by cases h)
  clear hb2 hloc1 z0 z1 z2 z3
  go_wp2_with fail
  go_ret
  exact ⟨ret_int HR.out.symm, below_grownBy hloc2.grown⟩
set_option maxHeartbeats 1000000 in
theorem ref_within (n m : Int) (w : World) (hm0 : 0 ≤ m) (hm1 : m ≤ 4611686018427387904) : Calls Tryz.prog 108 #[.int .i64 n, .int .i64 m] w fun e w' => e = .returned (.bool (btw n (-m) m)) ∧ w = w' := by
 cases h0 : decide (-m ≤ n) with
 | false =>
  have HR := Lib.hid (show btw n (-m) m = false by unfold btw; rw [h0]; rfl)
  go_enter Tryz.func108, Tryz.ntmps108
  go_wp2_with fail
  go_ret
  exact ⟨ret_bool HR.out.symm, rfl⟩
 | true =>
  cases h1 : decide (n ≤ m) with
  | false =>
   have HR := Lib.hid (show btw n (-m) m = false by unfold btw; rw [h0, h1]; rfl)
   go_enter Tryz.func108, Tryz.ntmps108
   go_wp2_with fail
   go_ret
   exact ⟨ret_bool HR.out.symm, rfl⟩
  | true =>
   have HR := Lib.hid (show btw n (-m) m = true by unfold btw; rw [h0, h1]; rfl)
   go_enter Tryz.func108, Tryz.ntmps108
   go_wp2_with fail
   go_ret
   exact ⟨ret_bool HR.out.symm, rfl⟩
def YesTo {α : Type} (c : Cd α) (p : α → Bool) (xs : List α) (q : Nat) : Prop := ∀ k, k < q → p (ge c xs k) = true
theorem YesTo.succ {α : Type} {c : Cd α} {p : α → Bool} {xs : List α} {q : Nat} (h : YesTo c p xs q) (h' : p (ge c xs q) = true) : YesTo c p xs (q + 1) := fun k hk => by
 by_cases e : k = q
 ·subst e; exact h'
 ·exact h k (by omega)
theorem YesTo.all {α : Type} {c : Cd α} {p : α → Bool} {xs : List α} (h : YesTo c p xs xs.length) : xs.all p = true := by
 rw [List.all_eq_true]
 intro x hx
 obtain ⟨k, hk, e⟩ := List.mem_iff_getElem.1 hx
 have := h k hk
 rwa [ge_of c hk, e] at this
theorem not_all_ge {α : Type} {c : Cd α} {p : α → Bool} {xs : List α} {q : Nat} (hq : q < xs.length) (h : p (ge c xs q) = false) : xs.all p = false := by
 rw [List.all_eq_false]
 exact ⟨_, ge_mem c hq, by simp [h]⟩
theorem frB_nl {l : Int} (h : l = 1099511627776) : frB l = true := by unfold frB; simp [h]
theorem frB_fin {l : Int} (h : ¬ l = 1099511627776) : frB l = btw (l / 2) (-67108864) 67108864 := by unfold frB; simp [h]
set_option maxRecDepth 100000 in
set_option maxHeartbeats 2000000 in
theorem ref_near (n : Int) (v : Value) (cs : List Int) (w : World) (hv : RL w.heap.size w v cs) :
  Calls Tryz.prog 107 #[.agg #[.int .i64 n, v]] w fun e w' => e = .returned (.bool (cs.all frB)) ∧ Below w.heap.size w w' := by
 obtain ⟨ao, cap, rfl, hle, h0⟩ := (RL.re hv).open
 have hloc := Loc.one w (.cells #[.int .i64 n, .slice ao cs.length cap] 32) none
 have H0 := Lib.hid h0
 clear hv h0
 go_enter Tryz.func107, Tryz.ntmps107
 go_wp2_with fail
 go_loopw [3] (fun i wr => ∃ k : Nat, k ≤ cs.length ∧ i = .int .i64 k ∧ YesTo cdI64 frB cs k ∧ Loc w wr none [.cells #[.int .i64 n, .slice ao cs.length cap] 32]) (fun i _ => cs.length - (intOf i).toNat)
 case atStart => exact ⟨0, Nat.zero_le _, rfl, fun k hk => by omega, hloc⟩
 case round =>
  clear hloc
  obtain ⟨k, hk, rfl, hyes, hloc⟩ := hrel
  have Hyes := Lib.hid hyes
  have Hbel := Lib.hid (below_grownBy hloc.grown)
  have z1 : wr.cell? ⟨w.heap.size, 1, none⟩ = some (.slice ao cs.length cap) := hloc.cell 0 rfl 1
  clear hyes
  by_cases hlt : k < cs.length
  ·have htk : decide ((k : Int) < (cs.length : Int)) = true := by simp; omega
   obtain ⟨b, off, rfl, hb, hc⟩ := H0.out (by omega)
   obtain ⟨E, hE⟩ : ∃ E, ge cdI64 cs k = E := ⟨_, rfl⟩
   have x0 : wr.cell? ⟨b, off + k, none⟩ = some (.int .i64 E) := by
    have h := ((bcell Hbel.out).1 b (off + (k * 1 + 0)) hb).trans (hc k 0 hlt (by decide))
    rw [hE] at h
    rw [show off + k = off + (k * 1 + 0) by omega]
    exact h
   have HE := Lib.hid hE
   have HNO := Lib.hid (fun (h : frB E = false) => not_all_ge (c := cdI64) (p := frB) (xs := cs) (q := k) hlt (by rw [hE]; exact h))
   have HYE := Lib.hid (fun (h : frB E = true) => Hyes.out.succ (by rw [hE]; exact h))
   have k0 : (k : Int) < cs.length := by omega
   have k1 : (0 : Int) ≤ (k : Int) := by omega
   clear hc hE hlt
   by_cases hn : E = 1099511627776
   ·have HQ := Lib.hid (HYE.out (frB_nl hn))
    have hnb : (E != 1099511627776) = false := by simpa using hn
    clear hn
    go_wp2_with fail
    go_roundw
    case rel => exact ⟨k + 1, by omega, by go_num, HQ.out, hloc⟩
    case measure => simp [intOf]; omega
   ·have HF := Lib.hid (frB_fin hn)
    have hnb : (E != 1099511627776) = true := by simpa using hn
    have HC := Lib.hid (fun w => ref_within (E / 2) 67108864 w (by omega) (by omega))
    clear hn
    cases hq : btw (E / 2) (-67108864) 67108864 with
    | false =>
     have HR := Lib.hid (HNO.out (HF.out.trans hq))
     rw [hq] at HC
     clear hq
     go_wp2_with fail
     refine (HC.out wr).mono ?_
     rintro e w3 ⟨rfl, rfl⟩
     go_wp2_with fail
     go_ret
     exact ⟨ret_bool HR.out.symm, Hbel.out⟩
    | true =>
     have HQ := Lib.hid (HYE.out (HF.out.trans hq))
     rw [hq] at HC
     clear hq
     go_wp2_with fail
     refine (HC.out wr).mono ?_
     rintro e w3 ⟨rfl, rfl⟩
     go_wp2_with fail
     go_roundw
     case rel => exact ⟨k + 1, by omega, by go_num, HQ.out, hloc⟩
     case measure => simp [intOf]; omega
  ·have htk : decide ((k : Int) < (cs.length : Int)) = false := by simp; omega
   have HALL := Lib.hid (YesTo.all (c := cdI64) (p := frB) (xs := cs) (by rw [show cs.length = k by omega]; exact Hyes.out))
   go_wp2_with fail
   go_ret
   exact ⟨ret_bool HALL.out.symm, Hbel.out⟩
theorem rngB_far {xs rs : List Int} {c : Int} (h : xs.all frB = false) : rngB xs c rs = false := by unfold rngB; rw [h]; simp
theorem rngB_cst {xs rs : List Int} {c : Int} (h : cstB c = false) : rngB xs c rs = false := by unfold rngB; rw [h]; simp
theorem rngB_slope {xs rs : List Int} {c : Int} (h : rs.all slB = false) : rngB xs c rs = false := by unfold rngB; rw [h]; simp
theorem rngB_ok {xs rs : List Int} {c : Int} (h : xs.all frB = true) (h2 : cstB c = true) (h3 : rs.all slB = true) : rngB xs c rs = true := by unfold rngB; rw [h, h2, h3]; rfl
set_option maxRecDepth 100000 in
set_option maxHeartbeats 2000000 in
theorem ref_pcheck (n c : Int) (v rv : Value) (xs rs : List Int) (w : World) (hv : RL w.heap.size w v xs) (hr : RL w.heap.size w rv rs) :
  Calls Tryz.prog 37 #[.agg #[.int .i64 n, v, .int .i64 c, rv]] w fun e w' => e = .returned (.int .i64 (pzE n xs c rs)) ∧ Below w.heap.size w w' := by
 obtain ⟨ao, cap, rfl, hle, _⟩ := hv.open
 obtain ⟨aor, capr, rfl, hler, h0r⟩ := (RL.re hr).open
 have hloc := Loc.one w (.cells #[.int .i64 n, .slice ao xs.length cap, .int .i64 c, .slice aor rs.length capr] 35) none
 have H0r := Lib.hid h0r
 have Hv := Lib.hid hv
 have H0 := Lib.hid (ref_check n _ xs _ (hv.keepb (below_grownBy hloc.grown)))
 have H1 := Lib.hid (fun w' (hb : Below w.heap.size w w') => ref_near n _ xs w' (Hv.out.keepb hb))
 have H2 := Lib.hid (fun w => ref_within c 1152921504606846976 w (by omega) (by omega))
 clear hv hr h0r
 by_cases hok : OkZ n xs
 rotate_left
 ·have HR := Lib.hid (pzE_zone (c := c) (rs := rs) hok)
  rw [okErr_no hok] at H0
  clear hok
  go_enter Tryz.func37, Tryz.ntmps37
  go_wp2_with fail
  refine H0.out.mono ?_
  rintro e w1 ⟨rfl, hb1⟩
  have hloc1 := hloc.next (grownBy_below hb1 none) (fun _ h => by cases h)
  clear hb1 hloc
  go_wp2_with fail
  go_ret
  exact ⟨ret_int HR.out.symm, below_grownBy hloc1.grown⟩
 rw [okErr_yes hok] at H0
 have HPN := Lib.hid (fun h => pzE_rng (n := n) (xs := xs) (c := c) (rs := rs) h)
 cases hf : xs.all frB with
 | false =>
  have HR := Lib.hid (HPN.out (rngB_far hf))
  rw [hf] at H1
  clear hok hf
  go_enter Tryz.func37, Tryz.ntmps37
  go_wp2_with fail
  refine H0.out.mono ?_
  rintro e w1 ⟨rfl, hb1⟩
  have hloc1 := hloc.next (grownBy_below hb1 none) (fun _ h => by cases h)
  clear hb1 hloc
  have z0 : w1.cell? ⟨w.heap.size, 0, none⟩ = some (.int .i64 n) := hloc1.cell 0 rfl 0
  have z1 : w1.cell? ⟨w.heap.size, 1, none⟩ = some (.slice ao xs.length cap) := hloc1.cell 0 rfl 1
  have z2 : w1.cell? ⟨w.heap.size, 2, none⟩ = some (.int .i64 c) := hloc1.cell 0 rfl 2
  have z3 : w1.cell? ⟨w.heap.size, 3, none⟩ = some (.slice aor rs.length capr) := hloc1.cell 0 rfl 3
  go_wp2_with fail
  refine (H1.out w1 (below_grownBy hloc1.grown)).mono ?_
  rintro e w2 ⟨rfl, hb2⟩
  have hloc2 := hloc1.next (grownBy_below hb2 none) (fun _ h => by cases h)
  clear hb2 hloc1 z0 z1 z2 z3
  go_wp2_with fail
  go_ret
  exact ⟨ret_int HR.out.symm, below_grownBy hloc2.grown⟩
 | true =>
  rw [hf] at H1
  by_cases hl : (rs.length : Int) = n
  rotate_left
  ·have HR := Lib.hid (pzE_len (xs := xs) (c := c) hl)
   have hlb : ((rs.length : Int) != n) = true := by simpa using hl
   clear hok hl hf
   go_enter Tryz.func37, Tryz.ntmps37
   go_wp2_with fail
   refine H0.out.mono ?_
   rintro e w1 ⟨rfl, hb1⟩
   have hloc1 := hloc.next (grownBy_below hb1 none) (fun _ h => by cases h)
   clear hb1 hloc
   have z0 : w1.cell? ⟨w.heap.size, 0, none⟩ = some (.int .i64 n) := hloc1.cell 0 rfl 0
   have z1 : w1.cell? ⟨w.heap.size, 1, none⟩ = some (.slice ao xs.length cap) := hloc1.cell 0 rfl 1
   have z2 : w1.cell? ⟨w.heap.size, 2, none⟩ = some (.int .i64 c) := hloc1.cell 0 rfl 2
   have z3 : w1.cell? ⟨w.heap.size, 3, none⟩ = some (.slice aor rs.length capr) := hloc1.cell 0 rfl 3
   go_wp2_with fail
   refine (H1.out w1 (below_grownBy hloc1.grown)).mono ?_
   rintro e w2 ⟨rfl, hb2⟩
   have hloc2 := hloc1.next (grownBy_below hb2 none) (fun _ h => by cases h)
   clear hb2 hloc1 z0 z1 z2 z3
   have z0 : w2.cell? ⟨w.heap.size, 0, none⟩ = some (.int .i64 n) := hloc2.cell 0 rfl 0
   have z1 : w2.cell? ⟨w.heap.size, 1, none⟩ = some (.slice ao xs.length cap) := hloc2.cell 0 rfl 1
   have z2 : w2.cell? ⟨w.heap.size, 2, none⟩ = some (.int .i64 c) := hloc2.cell 0 rfl 2
   have z3 : w2.cell? ⟨w.heap.size, 3, none⟩ = some (.slice aor rs.length capr) := hloc2.cell 0 rfl 3
   go_wp2_with fail
   go_ret
   exact ⟨ret_int HR.out.symm, below_grownBy hloc2.grown⟩
  have hlb : ((rs.length : Int) != n) = false := by simpa using hl
  have HPY := Lib.hid (fun h => pzE_ok (c := c) hok hl h)
  cases hs : btw c (-1152921504606846976) 1152921504606846976 with
  | false =>
   have HR := Lib.hid (HPN.out (rngB_cst (show cstB c = false from hs)))
   rw [hs] at H2
   clear hok hl hf hs
   go_enter Tryz.func37, Tryz.ntmps37
   go_wp2_with fail
   refine H0.out.mono ?_
   rintro e w1 ⟨rfl, hb1⟩
   have hloc1 := hloc.next (grownBy_below hb1 none) (fun _ h => by cases h)
   clear hb1 hloc
   have z0 : w1.cell? ⟨w.heap.size, 0, none⟩ = some (.int .i64 n) := hloc1.cell 0 rfl 0
   have z1 : w1.cell? ⟨w.heap.size, 1, none⟩ = some (.slice ao xs.length cap) := hloc1.cell 0 rfl 1
   have z2 : w1.cell? ⟨w.heap.size, 2, none⟩ = some (.int .i64 c) := hloc1.cell 0 rfl 2
   have z3 : w1.cell? ⟨w.heap.size, 3, none⟩ = some (.slice aor rs.length capr) := hloc1.cell 0 rfl 3
   go_wp2_with fail
   refine (H1.out w1 (below_grownBy hloc1.grown)).mono ?_
   rintro e w2 ⟨rfl, hb2⟩
   have hloc2 := hloc1.next (grownBy_below hb2 none) (fun _ h => by cases h)
   clear hb2 hloc1 z0 z1 z2 z3
   have z0 : w2.cell? ⟨w.heap.size, 0, none⟩ = some (.int .i64 n) := hloc2.cell 0 rfl 0
   have z1 : w2.cell? ⟨w.heap.size, 1, none⟩ = some (.slice ao xs.length cap) := hloc2.cell 0 rfl 1
   have z2 : w2.cell? ⟨w.heap.size, 2, none⟩ = some (.int .i64 c) := hloc2.cell 0 rfl 2
   have z3 : w2.cell? ⟨w.heap.size, 3, none⟩ = some (.slice aor rs.length capr) := hloc2.cell 0 rfl 3
   go_wp2_with fail
   refine (H2.out w2).mono ?_
   rintro e w3 ⟨rfl, rfl⟩
   go_wp2_with fail
   go_ret
   exact ⟨ret_int HR.out.symm, below_grownBy hloc2.grown⟩
  | true =>
   have HFA := Lib.hid (fun h => rngB_ok hf (show cstB c = true from hs) (rs := rs) h)
   rw [hs] at H2
   clear hok hl hf hs
   go_enter Tryz.func37, Tryz.ntmps37
   go_wp2_with fail
   refine H0.out.mono ?_
   rintro e w1 ⟨rfl, hb1⟩
   have hloc1 := hloc.next (grownBy_below hb1 none) (fun _ h => by cases h)
   clear hb1 hloc
   have z0 : w1.cell? ⟨w.heap.size, 0, none⟩ = some (.int .i64 n) := hloc1.cell 0 rfl 0
   have z1 : w1.cell? ⟨w.heap.size, 1, none⟩ = some (.slice ao xs.length cap) := hloc1.cell 0 rfl 1
   have z2 : w1.cell? ⟨w.heap.size, 2, none⟩ = some (.int .i64 c) := hloc1.cell 0 rfl 2
   have z3 : w1.cell? ⟨w.heap.size, 3, none⟩ = some (.slice aor rs.length capr) := hloc1.cell 0 rfl 3
   go_wp2_with fail
   refine (H1.out w1 (below_grownBy hloc1.grown)).mono ?_
   rintro e w2 ⟨rfl, hb2⟩
   have hloc2 := hloc1.next (grownBy_below hb2 none) (fun _ h => by cases h)
   clear hb2 hloc1 z0 z1 z2 z3
   have z0 : w2.cell? ⟨w.heap.size, 0, none⟩ = some (.int .i64 n) := hloc2.cell 0 rfl 0
   have z1 : w2.cell? ⟨w.heap.size, 1, none⟩ = some (.slice ao xs.length cap) := hloc2.cell 0 rfl 1
   have z2 : w2.cell? ⟨w.heap.size, 2, none⟩ = some (.int .i64 c) := hloc2.cell 0 rfl 2
   have z3 : w2.cell? ⟨w.heap.size, 3, none⟩ = some (.slice aor rs.length capr) := hloc2.cell 0 rfl 3
   go_wp2_with fail
   refine (H2.out w2).mono ?_
   rintro e w3 ⟨rfl, rfl⟩
   go_wp2_with fail
   clear z0 z1 z2 z3
   go_loopw [3] (fun i wr => ∃ k : Nat, k ≤ rs.length ∧ i = .int .i64 k ∧ YesTo cdI64 slB rs k ∧ Loc w wr none [.cells #[.int .i64 n, .slice ao xs.length cap, .int .i64 c, .slice aor rs.length capr] 35]) (fun i _ => rs.length - (intOf i).toNat)
   case atStart => exact ⟨0, Nat.zero_le _, rfl, fun k hk => by omega, hloc2⟩
   case round =>
    clear hloc2
    obtain ⟨k, hk, rfl, hyes, hloc⟩ := hrel
    have Hyes := Lib.hid hyes
    have Hbel := Lib.hid (below_grownBy hloc.grown)
    have z3 : wr.cell? ⟨w.heap.size, 3, none⟩ = some (.slice aor rs.length capr) := hloc.cell 0 rfl 3
    clear hyes
    by_cases hlt : k < rs.length
    ·have htk : decide ((k : Int) < (rs.length : Int)) = true := by simp; omega
     obtain ⟨b, off, rfl, hb, hc⟩ := H0r.out (by omega)
     obtain ⟨E, hE⟩ : ∃ E, ge cdI64 rs k = E := ⟨_, rfl⟩
     have x0 : wr.cell? ⟨b, off + k, none⟩ = some (.int .i64 E) := by
      have h := ((bcell Hbel.out).1 b (off + (k * 1 + 0)) hb).trans (hc k 0 hlt (by decide))
      rw [hE] at h
      rw [show off + k = off + (k * 1 + 0) by omega]
      exact h
     have HE := Lib.hid hE
     have HNO := Lib.hid (fun (h : slB E = false) => not_all_ge (c := cdI64) (p := slB) (xs := rs) (q := k) hlt (by rw [hE]; exact h))
     have HYE := Lib.hid (fun (h : slB E = true) => Hyes.out.succ (by rw [hE]; exact h))
     have k0 : (k : Int) < rs.length := by omega
     have k1 : (0 : Int) ≤ (k : Int) := by omega
     have HC := Lib.hid (fun w => ref_within E 16777216 w (by omega) (by omega))
     clear hc hE hlt
     cases hq : btw E (-16777216) 16777216 with
     | false =>
      have HR := Lib.hid (HPN.out (rngB_slope (HNO.out hq)))
      rw [hq] at HC
      clear hq
      go_wp2_with fail
      refine (HC.out wr).mono ?_
      rintro e w3 ⟨rfl, rfl⟩
      go_wp2_with fail
      go_ret
      exact ⟨ret_int HR.out.symm, Hbel.out⟩
     | true =>
      have HQ := Lib.hid (HYE.out hq)
      rw [hq] at HC
      clear hq
      go_wp2_with fail
      refine (HC.out wr).mono ?_
      rintro e w3 ⟨rfl, rfl⟩
      go_wp2_with fail
      go_roundw
      case rel => exact ⟨k + 1, by omega, by go_num, HQ.out, hloc⟩
      case measure => simp [intOf]; omega
    ·have htk : decide ((k : Int) < (rs.length : Int)) = false := by simp; omega
     have HR := Lib.hid (HPY.out (HFA.out (YesTo.all (c := cdI64) (p := slB) (xs := rs) (by rw [show rs.length = k by omega]; exact Hyes.out))))
     go_wp2_with fail
     go_ret
     exact ⟨ret_int HR.out.symm, Hbel.out⟩
end Go.Proofs.YtfphlpglgcmljaaGreat
