/- Stay as a function on lists; the reference's Neg and told. -/
import Derived.Test.YtkgaipcgdldfdaaRpt
namespace Go.Proofs.Ytkgaipcgdldfdaa
open Go.RowKit
set_option linter.unusedVariables false

def spz : Sp := ⟨0, 0, 0, 0, false, false, false, false⟩
/-- Is an interval without any number? -/
def empS (s : Sp) : Bool := !s.nh && (decide (0 < (cmpR s.ln s.ld s.hn s.hd).1) || (decide ((cmpR s.ln s.ld s.hn s.hd).1 = 0) && (s.lo || s.ho)))
def toldF (s : Sp) : Sp × Int := if empS s = true then (spz, 4) else (s, 0)
def stayS (N : Nat) (xs : List Int) (ps : List (Int × Int)) : Sp := stayTo N xs ((0, 1) :: ps) N
open Classical in
/-- What Stay returns. -/
noncomputable def stayF (n : Int) (xs : List Int) (ps : List (Int × Int)) : Sp × Int :=
  if readyF n xs ps = 0 then (if (stayS ps.length xs ps).wd = true then (spz, 7) else if SuTo ps.length xs ((0, 1) :: ps) 1 (ps.length + 1) then toldF (stayS ps.length xs ps) else (spz, 4)) else (spz, readyF n xs ps)
def SE (r : Sp × Int) (e : Ending) : Prop := e = .returned (.tuple #[r.1.delays, .int .i64 r.2])
theorem SE.of {r : Sp × Int} {s : Sp} {x : Int} (h : r = (s, x)) : SE r (.returned (.tuple #[s.delays, .int .i64 x])) := by subst h; rfl
theorem stayF_no {n x : Int} {xs : List Int} {ps : List (Int × Int)} (h : readyF n xs ps = x) (hx : ¬ x = 0) : stayF n xs ps = (spz, x) := by unfold stayF; rw [h, if_neg hx]
theorem stayF_wide {n : Int} {xs : List Int} {ps : List (Int × Int)} (h : readyF n xs ps = 0) (hw : (stayS ps.length xs ps).wd = true) : stayF n xs ps = (spz, 7) := by unfold stayF; rw [if_pos h, if_pos hw]
theorem stayF_none {n : Int} {xs : List Int} {ps : List (Int × Int)} (h : readyF n xs ps = 0) (hw : (stayS ps.length xs ps).wd = false) (hs : ¬ SuTo ps.length xs ((0, 1) :: ps) 1 (ps.length + 1)) : stayF n xs ps = (spz, 4) := by unfold stayF; rw [if_pos h, if_neg (by rw [hw]; decide), if_neg hs]
theorem stayF_told {n : Int} {xs : List Int} {ps : List (Int × Int)} (h : readyF n xs ps = 0) (hw : (stayS ps.length xs ps).wd = false) (hs : SuTo ps.length xs ((0, 1) :: ps) 1 (ps.length + 1)) : stayF n xs ps = toldF (stayS ps.length xs ps) := by unfold stayF; rw [if_pos h, if_neg (by rw [hw]; decide), if_pos hs]
theorem toldF_nh {s : Sp} (h : s.nh = true) : toldF s = (s, 0) := by unfold toldF empS; simp [h]
theorem toldF_neg {s : Sp} (h : (cmpR s.ln s.ld s.hn s.hd).1 = -1) : toldF s = (s, 0) := by unfold toldF empS; simp [h]
theorem toldF_pos {s : Sp} (hn : s.nh = false) (h : (cmpR s.ln s.ld s.hn s.hd).1 = 1) : toldF s = (spz, 4) := by unfold toldF empS; simp [h, hn]
theorem toldF_open {s : Sp} (hn : s.nh = false) (h : (cmpR s.ln s.ld s.hn s.hd).1 = 0) (ho : (s.lo || s.ho) = true) : toldF s = (spz, 4) := by unfold toldF empS; rw [h, hn, ho]; rfl
theorem toldF_shut {s : Sp} (h : (cmpR s.ln s.ld s.hn s.hd).1 = 0) (ho : (s.lo || s.ho) = false) : toldF s = (s, 0) := by unfold toldF empS; rw [h, ho]; simp
theorem ptok_of {n : Int} {xs : List Int} {ps : List (Int × Int)} (h : readyF n xs ps = 0) (hI : ∀ k, k < ps.length → I64 (gq ps k).1) : PtOk ps.length ps := by
  obtain ⟨hfit, hall, had⟩ := readyF_inv h
  have hv : ∀ k, k ≤ ps.length → okP (gq ((0, 1) :: ps) k) = true := fun k hk => by rw [gq_ck]; exact ck_all hall hk
  refine ⟨rfl, q_i64 rfl hI, fun k hk => okP_vr (hv k hk), fun i j hi hj => ?_⟩
  have := had i j (by omega) (by omega)
  rw [← df_dif (ck_all hall hi) (ck_all hall (by omega))] at this
  exact this
set_option maxRecDepth 100000 in
set_option maxHeartbeats 2000000 in
theorem r1_neg (a b : Int) (w : World) (h1 : vr a b = true) :
    Calls Try.prog 91 #[.agg #[.int .i64 a, .int .i64 b]] w fun e w' => e = .returned (.tuple #[.agg #[.int .i64 (-a), .int .i64 b], .int .i64 0]) ∧ Below w.heap.size w w' := by
  have hloc0 := Loc.two w (.cells #[.int .i64 a, .int .i64 b] 48) (.cells #[.int .i64 0, .int .i64 0] 48) none
  obtain ⟨p1, p2, p3, p4⟩ := vr_bd h1
  go_enter Try.func91, Try.ntmps91
  go_wp2_with fail
  refine (r1_valid_yes a b _ h1).mono ?_
  rintro e w2 ⟨rfl, hb2⟩
  have hloc2 := hloc0.next (grownBy_below hb2 none) (fun _ h => by cases h)
  have l0 : w2.cell? ⟨w.heap.size, 0, none⟩ = some (.int .i64 a) := hloc2.cell 0 rfl 0
  have l1 : w2.cell? ⟨w.heap.size, 1, none⟩ = some (.int .i64 b) := hloc2.cell 0 rfl 1
  have l2 : w2.frozen? ⟨w.heap.size, 0, none⟩ = false := hloc2.free 0 rfl 0
  have r0 : w2.cell? ⟨w.heap.size + 1, 0, none⟩ = some (.int .i64 0) := hloc2.cell 1 rfl 0
  have r1 : w2.cell? ⟨w.heap.size + 1, 1, none⟩ = some (.int .i64 0) := hloc2.cell 1 rfl 1
  have r2 : w2.frozen? ⟨w.heap.size + 1, 0, none⟩ = false := hloc2.free 1 rfl 0
  have r3 : w2.frozen? ⟨w.heap.size + 1, 1, none⟩ = false := hloc2.free 1 rfl 1
  have Hb := Lib.hid (below_grownBy hloc2.grown)
  clear hb2 hloc0 hloc2 h1
  go_wp2_with fail
  refine bodyPost_ret (v := .tuple #[.agg #[.int .i64 (-a), .int .i64 b], .int .i64 0]) (by simp [results, Try.results91, go_sem, r0, r1]) rfl ⟨rfl, ?_⟩
  exact ((Hb.out.setCell (by simp) _).setCell (by simp) _)
set_option maxRecDepth 100000 in
set_option maxHeartbeats 4000000 in
theorem ref_told (sb : Nat) (s : Sp) (w : World) (hs : w.heap[sb]? = some (.cells s.cs 108 (0, 0))) :
    Calls Try.prog 94 #[.pointer (some ⟨sb, 0, none⟩)] w fun e w' => SE (toldF s) e ∧ Below w.heap.size w w' := by
  have hsb : sb < w.heap.size := (Array.getElem?_eq_some_iff.1 hs).1
  have hloc0 := Loc.one w (.cells #[.int .i64 0, .int .i64 0, .int .i64 0, .int .i64 0, .bool false, .bool false, .bool false] 50) none
  have hS := (hloc0.grown.block sb hsb (by simp)).trans hs
  clear hs
  obtain ⟨ln, ld, hn, hd, lo, ho, nh, wd⟩ := s

  have s0 : (w.alloc (.cells #[.int .i64 0, .int .i64 0, .int .i64 0, .int .i64 0, .bool false, .bool false, .bool false] 50)).cell? ⟨sb, 0, none⟩ = some (.int .i64 ln) := cell_of_row _ sb 0 _ _ _ hS
  have s1 : (w.alloc (.cells #[.int .i64 0, .int .i64 0, .int .i64 0, .int .i64 0, .bool false, .bool false, .bool false] 50)).cell? ⟨sb, 1, none⟩ = some (.int .i64 ld) := cell_of_row _ sb 1 _ _ _ hS
  have s2 : (w.alloc (.cells #[.int .i64 0, .int .i64 0, .int .i64 0, .int .i64 0, .bool false, .bool false, .bool false] 50)).cell? ⟨sb, 2, none⟩ = some (.int .i64 hn) := cell_of_row _ sb 2 _ _ _ hS
  have s3 : (w.alloc (.cells #[.int .i64 0, .int .i64 0, .int .i64 0, .int .i64 0, .bool false, .bool false, .bool false] 50)).cell? ⟨sb, 3, none⟩ = some (.int .i64 hd) := cell_of_row _ sb 3 _ _ _ hS
  have s4 : (w.alloc (.cells #[.int .i64 0, .int .i64 0, .int .i64 0, .int .i64 0, .bool false, .bool false, .bool false] 50)).cell? ⟨sb, 4, none⟩ = some (.bool lo) := cell_of_row _ sb 4 _ _ _ hS
  have s5 : (w.alloc (.cells #[.int .i64 0, .int .i64 0, .int .i64 0, .int .i64 0, .bool false, .bool false, .bool false] 50)).cell? ⟨sb, 5, none⟩ = some (.bool ho) := cell_of_row _ sb 5 _ _ _ hS
  have s6 : (w.alloc (.cells #[.int .i64 0, .int .i64 0, .int .i64 0, .int .i64 0, .bool false, .bool false, .bool false] 50)).cell? ⟨sb, 6, none⟩ = some (.bool nh) := cell_of_row _ sb 6 _ _ _ hS
  obtain ⟨C, hC⟩ : ∃ C, C = cmpR ln ld hn hd := ⟨_, rfl⟩
  have hcv := cmpR_val ln ld hn hd
  rw [← hC] at hcv
  have HC := Lib.hid hC.symm
  clear hC
  obtain ⟨c, ce⟩ := C
  simp only at hcv
  have Hcv := Lib.hid hcv
  clear hcv
  go_enter Try.func94, Try.ntmps94
  go_wp2_with fail
  generalize w.alloc (.cells #[.int .i64 0, .int .i64 0, .int .i64 0, .int .i64 0, .bool false, .bool false, .bool false] 50) = W at *
  go_region_held3 (fun w' => w'.cell? ⟨sb, 0, none⟩ = some (.int .i64 ln) ∧ w'.cell? ⟨sb, 1, none⟩ = some (.int .i64 ld) ∧ w'.cell? ⟨sb, 2, none⟩ = some (.int .i64 hn) ∧ w'.cell? ⟨sb, 3, none⟩ = some (.int .i64 hd))
    (first | exact ⟨by assumption, by assumption, by assumption, by assumption⟩ | go_keep)
    (first
      | (go_at_call 117; refine (r1_cmp ln ld hn hd _).mono ?_; rw [HC.out]; rintro e w7 ⟨rfl, hb7⟩; have q0 := keepb (show W.drew.cell? _ = _ from s0) hb7; have q1 := keepb (show W.drew.cell? _ = _ from s1) hb7; have q2 := keepb (show W.drew.cell? _ = _ from s2) hb7; have q3 := keepb (show W.drew.cell? _ = _ from s3) hb7))
  have hloc7 := hloc0.next (grownBy_trans (grownBy_drew W none) (grownBy_below hb7 none)) (fun _ h => by cases h)
  have hS7 := (hb7.block sb (show sb < W.drew.heap.size from (Array.getElem?_eq_some_iff.1 hS).1)).trans (show W.drew.heap[sb]? = _ from hS)
  clear hloc0 hS hb7 s0 s1 s2 s3 s4 s5 s6 q0 q1 q2 q3
  have t0 : w7.cell? ⟨w.heap.size, 0, none⟩ = some (.int .i64 0) := hloc7.cell 0 rfl 0
  have f0 : w7.frozen? ⟨w.heap.size, 0, none⟩ = false := hloc7.free 0 rfl 0
  have t1 : w7.cell? ⟨w.heap.size, 1, none⟩ = some (.int .i64 0) := hloc7.cell 0 rfl 1
  have f1 : w7.frozen? ⟨w.heap.size, 1, none⟩ = false := hloc7.free 0 rfl 1
  have t2 : w7.cell? ⟨w.heap.size, 2, none⟩ = some (.int .i64 0) := hloc7.cell 0 rfl 2
  have f2 : w7.frozen? ⟨w.heap.size, 2, none⟩ = false := hloc7.free 0 rfl 2
  have t3 : w7.cell? ⟨w.heap.size, 3, none⟩ = some (.int .i64 0) := hloc7.cell 0 rfl 3
  have f3 : w7.frozen? ⟨w.heap.size, 3, none⟩ = false := hloc7.free 0 rfl 3
  have t4 : w7.cell? ⟨w.heap.size, 4, none⟩ = some (.bool false) := hloc7.cell 0 rfl 4
  have f4 : w7.frozen? ⟨w.heap.size, 4, none⟩ = false := hloc7.free 0 rfl 4
  have t5 : w7.cell? ⟨w.heap.size, 5, none⟩ = some (.bool false) := hloc7.cell 0 rfl 5
  have f5 : w7.frozen? ⟨w.heap.size, 5, none⟩ = false := hloc7.free 0 rfl 5
  have t6 : w7.cell? ⟨w.heap.size, 6, none⟩ = some (.bool false) := hloc7.cell 0 rfl 6
  have f6 : w7.frozen? ⟨w.heap.size, 6, none⟩ = false := hloc7.free 0 rfl 6
  have s0 : w7.cell? ⟨sb, 0, none⟩ = some (.int .i64 ln) := cell_of_row _ sb 0 _ _ _ hS7
  have s1 : w7.cell? ⟨sb, 1, none⟩ = some (.int .i64 ld) := cell_of_row _ sb 1 _ _ _ hS7
  have s2 : w7.cell? ⟨sb, 2, none⟩ = some (.int .i64 hn) := cell_of_row _ sb 2 _ _ _ hS7
  have s3 : w7.cell? ⟨sb, 3, none⟩ = some (.int .i64 hd) := cell_of_row _ sb 3 _ _ _ hS7
  have s4 : w7.cell? ⟨sb, 4, none⟩ = some (.bool lo) := cell_of_row _ sb 4 _ _ _ hS7
  have s5 : w7.cell? ⟨sb, 5, none⟩ = some (.bool ho) := cell_of_row _ sb 5 _ _ _ hS7
  have s6 : w7.cell? ⟨sb, 6, none⟩ = some (.bool nh) := cell_of_row _ sb 6 _ _ _ hS7
  have hb6 := below_grownBy hloc7.grown
  cases nh with
  | true =>
    have HT := Lib.hid (toldF_nh (s := ⟨ln, ld, hn, hd, lo, ho, true, wd⟩) rfl)
    go_wp2_with fail
    refine bodyPost_ret (v := .tuple #[(⟨ln, ld, hn, hd, lo, ho, true, wd⟩ : Sp).delays, .int .i64 0]) (by simp [results, Try.results94, go_sem, Sp.delays, t0, t1, t2, t3, t4, t5, t6]) rfl ⟨SE.of HT.out, ?_⟩
    exact (((((((hb6).setCell (Nat.le_refl _) _).setCell (Nat.le_refl _) _).setCell (Nat.le_refl _) _).setCell (Nat.le_refl _) _).setCell (Nat.le_refl _) _).setCell (Nat.le_refl _) _).setCell (Nat.le_refl _) _
  | false =>
    rcases Hcv.out with h | h | h
    · subst h
      have HT := Lib.hid (toldF_neg (s := ⟨ln, ld, hn, hd, lo, ho, false, wd⟩) (by show (cmpR ln ld hn hd).1 = -1; rw [HC.out]))
      go_wp2_with fail
      refine bodyPost_ret (v := .tuple #[(⟨ln, ld, hn, hd, lo, ho, false, wd⟩ : Sp).delays, .int .i64 0]) (by simp [results, Try.results94, go_sem, Sp.delays, t0, t1, t2, t3, t4, t5, t6]) rfl ⟨SE.of HT.out, ?_⟩
      exact (((((((hb6).setCell (Nat.le_refl _) _).setCell (Nat.le_refl _) _).setCell (Nat.le_refl _) _).setCell (Nat.le_refl _) _).setCell (Nat.le_refl _) _).setCell (Nat.le_refl _) _).setCell (Nat.le_refl _) _
    · subst h
      cases lo with
      | true =>
        have HT := Lib.hid (toldF_open (s := ⟨ln, ld, hn, hd, true, ho, false, wd⟩) rfl (by show (cmpR ln ld hn hd).1 = 0; rw [HC.out]) rfl)
        go_wp2_with fail
        refine bodyPost_ret (v := .tuple #[(spz : Sp).delays, .int .i64 4]) (by simp [results, Try.results94, go_sem, Sp.delays, spz, t0, t1, t2, t3, t4, t5, t6]) rfl ⟨SE.of HT.out, ?_⟩
        exact (((((((hb6).setCell (Nat.le_refl _) _).setCell (Nat.le_refl _) _).setCell (Nat.le_refl _) _).setCell (Nat.le_refl _) _).setCell (Nat.le_refl _) _).setCell (Nat.le_refl _) _).setCell (Nat.le_refl _) _
      | false =>
        cases ho with
        | true =>
          have HT := Lib.hid (toldF_open (s := ⟨ln, ld, hn, hd, false, true, false, wd⟩) rfl (by show (cmpR ln ld hn hd).1 = 0; rw [HC.out]) rfl)
          go_wp2_with fail
          refine bodyPost_ret (v := .tuple #[(spz : Sp).delays, .int .i64 4]) (by simp [results, Try.results94, go_sem, Sp.delays, spz, t0, t1, t2, t3, t4, t5, t6]) rfl ⟨SE.of HT.out, ?_⟩
          exact (((((((hb6).setCell (Nat.le_refl _) _).setCell (Nat.le_refl _) _).setCell (Nat.le_refl _) _).setCell (Nat.le_refl _) _).setCell (Nat.le_refl _) _).setCell (Nat.le_refl _) _).setCell (Nat.le_refl _) _
        | false =>
          have HT := Lib.hid (toldF_shut (s := ⟨ln, ld, hn, hd, false, false, false, wd⟩) (by show (cmpR ln ld hn hd).1 = 0; rw [HC.out]) rfl)
          go_wp2_with fail
          refine bodyPost_ret (v := .tuple #[(⟨ln, ld, hn, hd, false, false, false, wd⟩ : Sp).delays, .int .i64 0]) (by simp [results, Try.results94, go_sem, Sp.delays, t0, t1, t2, t3, t4, t5, t6]) rfl ⟨SE.of HT.out, ?_⟩
          exact (((((((hb6).setCell (Nat.le_refl _) _).setCell (Nat.le_refl _) _).setCell (Nat.le_refl _) _).setCell (Nat.le_refl _) _).setCell (Nat.le_refl _) _).setCell (Nat.le_refl _) _).setCell (Nat.le_refl _) _
    · subst h
      have HT := Lib.hid (toldF_pos (s := ⟨ln, ld, hn, hd, lo, ho, false, wd⟩) rfl (by show (cmpR ln ld hn hd).1 = 1; rw [HC.out]))
      go_wp2_with fail
      refine bodyPost_ret (v := .tuple #[(spz : Sp).delays, .int .i64 4]) (by simp [results, Try.results94, go_sem, Sp.delays, spz, t0, t1, t2, t3, t4, t5, t6]) rfl ⟨SE.of HT.out, ?_⟩
      exact (((((((hb6).setCell (Nat.le_refl _) _).setCell (Nat.le_refl _) _).setCell (Nat.le_refl _) _).setCell (Nat.le_refl _) _).setCell (Nat.le_refl _) _).setCell (Nat.le_refl _) _).setCell (Nat.le_refl _) _
end Go.Proofs.Ytkgaipcgdldfdaa
