/- Stay as a function on lists; the reference's Neg and told. The program's Stay. -/
import Derived.Test.YtkgaipcgdldfdaaRpt
namespace Go.Proofs.Ytkgaipcgdldfdaa
open Go.RowKit
set_option linter.unusedVariables false

def spz : Sp := ⟨0, 0, 0, 0, false, false, false, false⟩
/-- Is an interval without any number? -/
def empS (s : Sp) : Bool := !s.nh && (decide (0 < (cmpR s.ln s.ld s.hn s.hd).1) || (decide ((cmpR s.ln s.ld s.hn s.hd).1 = 0) && (s.lo || s.ho)))
def toldF (s : Sp) : Sp × Int := if empS s = true then (spz, 4) else (s, 0)
def stayS (N : Nat) (xs : List Int) (ps : List (Int × Int)) : Sp := stayTo N xs ((0, 1) :: ps) N
open Classical in
/-- What Stay returns. -/
noncomputable def stayF (n : Int) (xs : List Int) (ps : List (Int × Int)) : Sp × Int :=
  if readyF n xs ps = 0 then (if (stayS ps.length xs ps).wd = true then (spz, 7) else if SuTo ps.length xs ((0, 1) :: ps) 1 (ps.length + 1) then toldF (stayS ps.length xs ps) else (spz, 4)) else (spz, readyF n xs ps)
def SE (r : Sp × Int) (e : Ending) : Prop := e = .returned (.tuple #[r.1.delays, .int .i64 r.2])
theorem SE.of {r : Sp × Int} {s : Sp} {x : Int} (h : r = (s, x)) : SE r (.returned (.tuple #[s.delays, .int .i64 x])) := by subst h; rfl
theorem stayF_no {n x : Int} {xs : List Int} {ps : List (Int × Int)} (h : readyF n xs ps = x) (hx : ¬ x = 0) : stayF n xs ps = (spz, x) := by unfold stayF; rw [h, if_neg hx]
theorem stayF_wide {n : Int} {xs : List Int} {ps : List (Int × Int)} (h : readyF n xs ps = 0) (hw : (stayS ps.length xs ps).wd = true) : stayF n xs ps = (spz, 7) := by unfold stayF; rw [if_pos h, if_pos hw]
theorem stayF_none {n : Int} {xs : List Int} {ps : List (Int × Int)} (h : readyF n xs ps = 0) (hw : (stayS ps.length xs ps).wd = false) (hs : ¬ SuTo ps.length xs ((0, 1) :: ps) 1 (ps.length + 1)) : stayF n xs ps = (spz, 4) := by unfold stayF; rw [if_pos h, if_neg (by rw [hw]; decide), if_neg hs]
theorem stayF_told {n : Int} {xs : List Int} {ps : List (Int × Int)} (h : readyF n xs ps = 0) (hw : (stayS ps.length xs ps).wd = false) (hs : SuTo ps.length xs ((0, 1) :: ps) 1 (ps.length + 1)) : stayF n xs ps = toldF (stayS ps.length xs ps) := by unfold stayF; rw [if_pos h, if_neg (by rw [hw]; decide), if_pos hs]
theorem toldF_nh {s : Sp} (h : s.nh = true) : toldF s = (s, 0) := by unfold toldF empS; simp [h]
theorem toldF_neg {s : Sp} (h : (cmpR s.ln s.ld s.hn s.hd).1 = -1) : toldF s = (s, 0) := by unfold toldF empS; simp [h]
theorem toldF_pos {s : Sp} (hn : s.nh = false) (h : (cmpR s.ln s.ld s.hn s.hd).1 = 1) : toldF s = (spz, 4) := by unfold toldF empS; simp [h, hn]
theorem toldF_open {s : Sp} (hn : s.nh = false) (h : (cmpR s.ln s.ld s.hn s.hd).1 = 0) (ho : (s.lo || s.ho) = true) : toldF s = (spz, 4) := by unfold toldF empS; rw [h, hn, ho]; rfl
theorem toldF_shut {s : Sp} (h : (cmpR s.ln s.ld s.hn s.hd).1 = 0) (ho : (s.lo || s.ho) = false) : toldF s = (s, 0) := by unfold toldF empS; rw [h, ho]; simp
theorem ptok_of {n : Int} {xs : List Int} {ps : List (Int × Int)} (h : readyF n xs ps = 0) (hI : ∀ k, k < ps.length → I64 (gq ps k).1) : PtOk ps.length ps := by
  obtain ⟨hfit, hall, had⟩ := readyF_inv h
  have hv : ∀ k, k ≤ ps.length → okP (gq ((0, 1) :: ps) k) = true := fun k hk => by rw [gq_ck]; exact ck_all hall hk
  refine ⟨rfl, q_i64 rfl hI, fun k hk => okP_vr (hv k hk), fun i j hi hj => ?_⟩
  have := had i j (by omega) (by omega)
  rw [← df_dif (ck_all hall hi) (ck_all hall (by omega))] at this
  exact this
set_option maxRecDepth 100000 in
set_option maxHeartbeats 2000000 in
theorem r1_neg (a b : Int) (w : World) (h1 : vr a b = true) :
    Calls Try.prog 91 #[.agg #[.int .i64 a, .int .i64 b]] w fun e w' => e = .returned (.tuple #[.agg #[.int .i64 (-a), .int .i64 b], .int .i64 0]) ∧ Below w.heap.size w w' := by
  have hloc0 := Loc.two w (.cells #[.int .i64 a, .int .i64 b] 48) (.cells #[.int .i64 0, .int .i64 0] 48) none
  obtain ⟨p1, p2, p3, p4⟩ := vr_bd h1
  go_enter Try.func91, Try.ntmps91
  go_wp2_with fail
  refine (r1_valid_yes a b _ h1).mono ?_
  rintro e w2 ⟨rfl, hb2⟩
  have hloc2 := hloc0.next (grownBy_below hb2 none) (fun _ h => by cases h)
  have l0 : w2.cell? ⟨w.heap.size, 0, none⟩ = some (.int .i64 a) := hloc2.cell 0 rfl 0
  have l1 : w2.cell? ⟨w.heap.size, 1, none⟩ = some (.int .i64 b) := hloc2.cell 0 rfl 1
  have l2 : w2.frozen? ⟨w.heap.size, 0, none⟩ = false := hloc2.free 0 rfl 0
  have r0 : w2.cell? ⟨w.heap.size + 1, 0, none⟩ = some (.int .i64 0) := hloc2.cell 1 rfl 0
  have r1 : w2.cell? ⟨w.heap.size + 1, 1, none⟩ = some (.int .i64 0) := hloc2.cell 1 rfl 1
  have r2 : w2.frozen? ⟨w.heap.size + 1, 0, none⟩ = false := hloc2.free 1 rfl 0
  have r3 : w2.frozen? ⟨w.heap.size + 1, 1, none⟩ = false := hloc2.free 1 rfl 1
  have Hb := Lib.hid (below_grownBy hloc2.grown)
  clear hb2 hloc0 hloc2 h1
  go_wp2_with fail
  refine bodyPost_ret (v := .tuple #[.agg #[.int .i64 (-a), .int .i64 b], .int .i64 0]) (by simp [results, Try.results91, go_sem, r0, r1]) rfl ⟨rfl, ?_⟩
  exact ((Hb.out.setCell (by simp) _).setCell (by simp) _)
set_option maxRecDepth 100000 in
set_option maxHeartbeats 4000000 in
theorem ref_told (sb : Nat) (s : Sp) (w : World) (hs : w.heap[sb]? = some (.cells s.cs 108 (0, 0))) :
    Calls Try.prog 94 #[.pointer (some ⟨sb, 0, none⟩)] w fun e w' => SE (toldF s) e ∧ Below w.heap.size w w' := by
  have hsb : sb < w.heap.size := (Array.getElem?_eq_some_iff.1 hs).1
  have hloc0 := Loc.one w (.cells #[.int .i64 0, .int .i64 0, .int .i64 0, .int .i64 0, .bool false, .bool false, .bool false] 50) none
  have hS := (hloc0.grown.block sb hsb (by simp)).trans hs
  clear hs
  obtain ⟨ln, ld, hn, hd, lo, ho, nh, wd⟩ := s

  have s0 : (w.alloc (.cells #[.int .i64 0, .int .i64 0, .int .i64 0, .int .i64 0, .bool false, .bool false, .bool false] 50)).cell? ⟨sb, 0, none⟩ = some (.int .i64 ln) := cell_of_row _ sb 0 _ _ _ hS
  have s1 : (w.alloc (.cells #[.int .i64 0, .int .i64 0, .int .i64 0, .int .i64 0, .bool false, .bool false, .bool false] 50)).cell? ⟨sb, 1, none⟩ = some (.int .i64 ld) := cell_of_row _ sb 1 _ _ _ hS
  have s2 : (w.alloc (.cells #[.int .i64 0, .int .i64 0, .int .i64 0, .int .i64 0, .bool false, .bool false, .bool false] 50)).cell? ⟨sb, 2, none⟩ = some (.int .i64 hn) := cell_of_row _ sb 2 _ _ _ hS
  have s3 : (w.alloc (.cells #[.int .i64 0, .int .i64 0, .int .i64 0, .int .i64 0, .bool false, .bool false, .bool false] 50)).cell? ⟨sb, 3, none⟩ = some (.int .i64 hd) := cell_of_row _ sb 3 _ _ _ hS
  have s4 : (w.alloc (.cells #[.int .i64 0, .int .i64 0, .int .i64 0, .int .i64 0, .bool false, .bool false, .bool false] 50)).cell? ⟨sb, 4, none⟩ = some (.bool lo) := cell_of_row _ sb 4 _ _ _ hS
  have s5 : (w.alloc (.cells #[.int .i64 0, .int .i64 0, .int .i64 0, .int .i64 0, .bool false, .bool false, .bool false] 50)).cell? ⟨sb, 5, none⟩ = some (.bool ho) := cell_of_row _ sb 5 _ _ _ hS
  have s6 : (w.alloc (.cells #[.int .i64 0, .int .i64 0, .int .i64 0, .int .i64 0, .bool false, .bool false, .bool false] 50)).cell? ⟨sb, 6, none⟩ = some (.bool nh) := cell_of_row _ sb 6 _ _ _ hS
  obtain ⟨C, hC⟩ : ∃ C, C = cmpR ln ld hn hd := ⟨_, rfl⟩
  have hcv := cmpR_val ln ld hn hd
  rw [← hC] at hcv
  have HC := Lib.hid hC.symm
  clear hC
  obtain ⟨c, ce⟩ := C
  simp only at hcv
  have Hcv := Lib.hid hcv
  clear hcv
  go_enter Try.func94, Try.ntmps94
  go_wp2_with fail
  generalize w.alloc (.cells #[.int .i64 0, .int .i64 0, .int .i64 0, .int .i64 0, .bool false, .bool false, .bool false] 50) = W at *
  go_region_held3 (fun w' => w'.cell? ⟨sb, 0, none⟩ = some (.int .i64 ln) ∧ w'.cell? ⟨sb, 1, none⟩ = some (.int .i64 ld) ∧ w'.cell? ⟨sb, 2, none⟩ = some (.int .i64 hn) ∧ w'.cell? ⟨sb, 3, none⟩ = some (.int .i64 hd))
    (first | exact ⟨by assumption, by assumption, by assumption, by assumption⟩ | go_keep)
    (first
      | (go_at_call 117; refine (r1_cmp ln ld hn hd _).mono ?_; rw [HC.out]; rintro e w7 ⟨rfl, hb7⟩; have q0 := keepb (show W.drew.cell? _ = _ from s0) hb7; have q1 := keepb (show W.drew.cell? _ = _ from s1) hb7; have q2 := keepb (show W.drew.cell? _ = _ from s2) hb7; have q3 := keepb (show W.drew.cell? _ = _ from s3) hb7))
  have hloc7 := hloc0.next (grownBy_trans (grownBy_drew W none) (grownBy_below hb7 none)) (fun _ h => by cases h)
  have hS7 := (hb7.block sb (show sb < W.drew.heap.size from (Array.getElem?_eq_some_iff.1 hS).1)).trans (show W.drew.heap[sb]? = _ from hS)
  clear hloc0 hS hb7 s0 s1 s2 s3 s4 s5 s6 q0 q1 q2 q3
  have t0 : w7.cell? ⟨w.heap.size, 0, none⟩ = some (.int .i64 0) := hloc7.cell 0 rfl 0
  have f0 : w7.frozen? ⟨w.heap.size, 0, none⟩ = false := hloc7.free 0 rfl 0
  have t1 : w7.cell? ⟨w.heap.size, 1, none⟩ = some (.int .i64 0) := hloc7.cell 0 rfl 1
  have f1 : w7.frozen? ⟨w.heap.size, 1, none⟩ = false := hloc7.free 0 rfl 1
  have t2 : w7.cell? ⟨w.heap.size, 2, none⟩ = some (.int .i64 0) := hloc7.cell 0 rfl 2
  have f2 : w7.frozen? ⟨w.heap.size, 2, none⟩ = false := hloc7.free 0 rfl 2
  have t3 : w7.cell? ⟨w.heap.size, 3, none⟩ = some (.int .i64 0) := hloc7.cell 0 rfl 3
  have f3 : w7.frozen? ⟨w.heap.size, 3, none⟩ = false := hloc7.free 0 rfl 3
  have t4 : w7.cell? ⟨w.heap.size, 4, none⟩ = some (.bool false) := hloc7.cell 0 rfl 4
  have f4 : w7.frozen? ⟨w.heap.size, 4, none⟩ = false := hloc7.free 0 rfl 4
  have t5 : w7.cell? ⟨w.heap.size, 5, none⟩ = some (.bool false) := hloc7.cell 0 rfl 5
  have f5 : w7.frozen? ⟨w.heap.size, 5, none⟩ = false := hloc7.free 0 rfl 5
  have t6 : w7.cell? ⟨w.heap.size, 6, none⟩ = some (.bool false) := hloc7.cell 0 rfl 6
  have f6 : w7.frozen? ⟨w.heap.size, 6, none⟩ = false := hloc7.free 0 rfl 6
  have s0 : w7.cell? ⟨sb, 0, none⟩ = some (.int .i64 ln) := cell_of_row _ sb 0 _ _ _ hS7
  have s1 : w7.cell? ⟨sb, 1, none⟩ = some (.int .i64 ld) := cell_of_row _ sb 1 _ _ _ hS7
  have s2 : w7.cell? ⟨sb, 2, none⟩ = some (.int .i64 hn) := cell_of_row _ sb 2 _ _ _ hS7
  have s3 : w7.cell? ⟨sb, 3, none⟩ = some (.int .i64 hd) := cell_of_row _ sb 3 _ _ _ hS7
  have s4 : w7.cell? ⟨sb, 4, none⟩ = some (.bool lo) := cell_of_row _ sb 4 _ _ _ hS7
  have s5 : w7.cell? ⟨sb, 5, none⟩ = some (.bool ho) := cell_of_row _ sb 5 _ _ _ hS7
  have s6 : w7.cell? ⟨sb, 6, none⟩ = some (.bool nh) := cell_of_row _ sb 6 _ _ _ hS7
  have hb6 := below_grownBy hloc7.grown
  cases nh with
  | true =>
    have HT := Lib.hid (toldF_nh (s := ⟨ln, ld, hn, hd, lo, ho, true, wd⟩) rfl)
    go_wp2_with fail
    refine bodyPost_ret (v := .tuple #[(⟨ln, ld, hn, hd, lo, ho, true, wd⟩ : Sp).delays, .int .i64 0]) (by simp [results, Try.results94, go_sem, Sp.delays, t0, t1, t2, t3, t4, t5, t6]) rfl ⟨SE.of HT.out, ?_⟩
    exact (((((((hb6).setCell (Nat.le_refl _) _).setCell (Nat.le_refl _) _).setCell (Nat.le_refl _) _).setCell (Nat.le_refl _) _).setCell (Nat.le_refl _) _).setCell (Nat.le_refl _) _).setCell (Nat.le_refl _) _
  | false =>
    rcases Hcv.out with h | h | h
    · subst h
      have HT := Lib.hid (toldF_neg (s := ⟨ln, ld, hn, hd, lo, ho, false, wd⟩) (by show (cmpR ln ld hn hd).1 = -1; rw [HC.out]))
      go_wp2_with fail
      refine bodyPost_ret (v := .tuple #[(⟨ln, ld, hn, hd, lo, ho, false, wd⟩ : Sp).delays, .int .i64 0]) (by simp [results, Try.results94, go_sem, Sp.delays, t0, t1, t2, t3, t4, t5, t6]) rfl ⟨SE.of HT.out, ?_⟩
      exact (((((((hb6).setCell (Nat.le_refl _) _).setCell (Nat.le_refl _) _).setCell (Nat.le_refl _) _).setCell (Nat.le_refl _) _).setCell (Nat.le_refl _) _).setCell (Nat.le_refl _) _).setCell (Nat.le_refl _) _
    · subst h
      cases lo with
      | true =>
        have HT := Lib.hid (toldF_open (s := ⟨ln, ld, hn, hd, true, ho, false, wd⟩) rfl (by show (cmpR ln ld hn hd).1 = 0; rw [HC.out]) rfl)
        go_wp2_with fail
        refine bodyPost_ret (v := .tuple #[(spz : Sp).delays, .int .i64 4]) (by simp [results, Try.results94, go_sem, Sp.delays, spz, t0, t1, t2, t3, t4, t5, t6]) rfl ⟨SE.of HT.out, ?_⟩
        exact (((((((hb6).setCell (Nat.le_refl _) _).setCell (Nat.le_refl _) _).setCell (Nat.le_refl _) _).setCell (Nat.le_refl _) _).setCell (Nat.le_refl _) _).setCell (Nat.le_refl _) _).setCell (Nat.le_refl _) _
      | false =>
        cases ho with
        | true =>
          have HT := Lib.hid (toldF_open (s := ⟨ln, ld, hn, hd, false, true, false, wd⟩) rfl (by show (cmpR ln ld hn hd).1 = 0; rw [HC.out]) rfl)
          go_wp2_with fail
          refine bodyPost_ret (v := .tuple #[(spz : Sp).delays, .int .i64 4]) (by simp [results, Try.results94, go_sem, Sp.delays, spz, t0, t1, t2, t3, t4, t5, t6]) rfl ⟨SE.of HT.out, ?_⟩
          exact (((((((hb6).setCell (Nat.le_refl _) _).setCell (Nat.le_refl _) _).setCell (Nat.le_refl _) _).setCell (Nat.le_refl _) _).setCell (Nat.le_refl _) _).setCell (Nat.le_refl _) _).setCell (Nat.le_refl _) _
        | false =>
          have HT := Lib.hid (toldF_shut (s := ⟨ln, ld, hn, hd, false, false, false, wd⟩) (by show (cmpR ln ld hn hd).1 = 0; rw [HC.out]) rfl)
          go_wp2_with fail
          refine bodyPost_ret (v := .tuple #[(⟨ln, ld, hn, hd, false, false, false, wd⟩ : Sp).delays, .int .i64 0]) (by simp [results, Try.results94, go_sem, Sp.delays, t0, t1, t2, t3, t4, t5, t6]) rfl ⟨SE.of HT.out, ?_⟩
          exact (((((((hb6).setCell (Nat.le_refl _) _).setCell (Nat.le_refl _) _).setCell (Nat.le_refl _) _).setCell (Nat.le_refl _) _).setCell (Nat.le_refl _) _).setCell (Nat.le_refl _) _).setCell (Nat.le_refl _) _
    · subst h
      have HT := Lib.hid (toldF_pos (s := ⟨ln, ld, hn, hd, lo, ho, false, wd⟩) rfl (by show (cmpR ln ld hn hd).1 = 1; rw [HC.out]))
      go_wp2_with fail
      refine bodyPost_ret (v := .tuple #[(spz : Sp).delays, .int .i64 4]) (by simp [results, Try.results94, go_sem, Sp.delays, spz, t0, t1, t2, t3, t4, t5, t6]) rfl ⟨SE.of HT.out, ?_⟩
      exact (((((((hb6).setCell (Nat.le_refl _) _).setCell (Nat.le_refl _) _).setCell (Nat.le_refl _) _).setCell (Nat.le_refl _) _).setCell (Nat.le_refl _) _).setCell (Nat.le_refl _) _).setCell (Nat.le_refl _) _
end Go.Proofs.Ytkgaipcgdldfdaa
namespace Go.Proofs.Ytkgaipcgdldfdaa
open Go.RowKit
set_option linter.unusedVariables false

set_option maxRecDepth 100000 in
set_option maxHeartbeats 8000000 in
theorem prog_stay_ok (N : Nat) (v pv : Value) (xs : List Int) (ps : List (Int × Int)) (w : World) (hv : RL w.heap.size w v xs) (hp : RQ w.heap.size w pv ps) (hok : OkZ N xs) (hps : PtOk N ps) (r : Sp × Int)
    (h1 : (stayTo N xs ((0, 1) :: ps) N).wd = true → r = (spz, 7))
    (h2 : (stayTo N xs ((0, 1) :: ps) N).wd = false → ¬ SuTo N xs ((0, 1) :: ps) 1 (N + 1) → r = (spz, 4))
    (h3 : (stayTo N xs ((0, 1) :: ps) N).wd = false → SuTo N xs ((0, 1) :: ps) 1 (N + 1) → r = toldF (stayTo N xs ((0, 1) :: ps) N)) :
    Calls Try.prog 34 #[.agg #[.int .i64 N, v], pv] w fun e w' => SE r e ∧ Below w.heap.size w w' := by
  have H1 := Lib.hid h1
  have H2 := Lib.hid h2
  have H3 := Lib.hid h3
  clear h1 h2 h3
  have hN : N ≤ 10 := by have := hok.hi; omega
  have Hx := Lib.hid (show xs.length = (N + 1) * (N + 1) by have := hok.len; rwa [Int.toNat_natCast] at this)
  obtain ⟨aoz, capz, rfl, hlez, h0z⟩ := hv.open
  obtain ⟨bz, oz, rfl, hbz, hcz⟩ := h0z (by rw [Hx.out]; exact Nat.mul_pos (by omega) (by omega))
  obtain ⟨aop, capp, rfl, hlep, _⟩ := hp.open
  have Hcz := Lib.hid hcz
  have hloc0 := Loc.two w (.cells #[.int .i64 N, .slice (some ⟨bz, oz, none⟩) xs.length capz] 24) (.cells #[.int .i64 0, .int .i64 0, .int .i64 0, .int .i64 0, .bool false, .bool false, .bool false] 50) none
  have Hok := Lib.hid hok
  have Hps := Lib.hid hps
  have hQl : ((0, 1) :: ps : List (Int × Int)).length = N + 1 := by rw [List.length_cons, hps.len]
  have Hv := Lib.hid hv
  have Hp := Lib.hid hp
  clear hv hp hok hps h0z hcz
  have hbd := Hps.out.bd
  have hval := Hps.out.val
  have Hat := Lib.hid (fun w1 (hb : Below w.heap.size w w1) => prog_pat N _ _ xs ps w1 (Hv.out.keepb hb) (Hp.out.keepb hb) Hok.out Hps.out)
  generalize hQ : ((0, 1) :: ps : List (Int × Int)) = Q at *
  have HBd := Lib.hid hbd
  have HVal := Lib.hid hval
  have HQl := Lib.hid hQl
  clear hbd hval hQ Hps hQl
  go_enter Try.func34, Try.ntmps34
  go_wp2_with fail
  refine (Hat.out _ (below_grownBy hloc0.grown)).mono ?_
  rintro e w1 ⟨⟨qv, rfl, hown⟩, hb1⟩
  have e2 : ((w.alloc (.cells #[.int .i64 N, .slice (some ⟨bz, oz, none⟩) xs.length capz] 24)).alloc (.cells #[.int .i64 0, .int .i64 0, .int .i64 0, .int .i64 0, .bool false, .bool false, .bool false] 50)).heap.size = w.heap.size + 2 := by simp
  rw [e2] at hown
  have hloc1 := hloc0.next (grownBy_below hb1 none) (fun _ h => by cases h)
  clear hb1 hloc0 Hat e2
  have HLz := Lib.hid (show RL w1.heap.size w1 (.slice (some ⟨bz, oz, none⟩) xs.length capz) xs from Hv.out.keepb (below_grownBy hloc1.grown))
  generalize hLz : xs.length = Lz at *
  have ho := hown
  unfold OQ at ho
  rw [HQl.out] at ho
  obtain ⟨g, cap, rfl, hgb, hgs, hgc, hgm⟩ := own_form ho (by omega)
  clear ho
  go_wp2_with (go_at_call 86; refine (prog_span _).mono ?_; rintro e wa ⟨rfl, rfl⟩)
  have hS0 := heap_alloc_new w1 (.cells sp0.cs 101)
  have hloc2 := hloc1.next (World.grownBy_alloc w1 (.cells sp0.cs 101) none) (fun _ h => by cases h)
  have hown2 : OQ 48 (w.heap.size + 2) (w1.alloc (.cells sp0.cs 101)) _ Q := World.ownsRow.alloc hown _
  have hgsb : g ≠ w1.heap.size := by omega
  have hwsb : w.heap.size + 2 ≤ w1.heap.size := hloc1.size
  generalize hSB : w1.heap.size = sb at *
  generalize w1.alloc (.cells sp0.cs 101) = wr1 at *
  clear hown hloc1
  go_loopw [9] (fun k wr => ∃ i : Nat, i ≤ N ∧ k = .int .i64 ((i : Int) + 1) ∧ wr.heap[sb]? = some (.cells (stayTo N xs Q i).cs 101 (0, 0)) ∧ OQ 48 (w.heap.size + 2) wr (.slice (some ⟨g, 0, none⟩) (N + 1) cap) Q ∧ Loc w wr none [.cells #[.int .i64 N, .slice (some ⟨bz, oz, none⟩) Lz capz] 24, .cells #[.int .i64 0, .int .i64 0, .int .i64 0, .int .i64 0, .bool false, .bool false, .bool false] 50]) (fun k _ => N + 1 - (intOf k).toNat)
  case atStart => exact ⟨0, by omega, rfl, hS0, hown2, hloc2⟩
  case round =>
    clear hS0 hown2 hloc2
    obtain ⟨i, hi, rfl, hS, hown, hloc⟩ := hrel
    have Hown := Lib.hid hown
    have z1 : wr.cell? ⟨w.heap.size, 1, none⟩ = some (.slice (some ⟨bz, oz, none⟩) Lz capz) := hloc.cell 0 rfl 1
    have hsz2 : sb < wr.heap.size := (Array.getElem?_eq_some_iff.1 hS).1
    by_cases hil : i < N
    · have hi1 : (i : Int) + 1 < (N : Int) + 1 := by omega
      have hi0 : (0 : Int) ≤ (i : Int) + 1 := by omega
      have hit : ((i : Int) + 1).toNat = i + 1 := by omega
      have hq2 := OQ.at hown (j := i + 1) (by have := HQl.out; omega)
      obtain ⟨q0, q1⟩ := hq2
      have HS2 := Lib.hid (show stayTo N xs Q (i + 1) = cutF (cutF (stayTo N xs Q i) (-(gq Q (i + 1)).1) (gq Q (i + 1)).2 (ent N xs (i + 1) 0) false) (-(gq Q (i + 1)).1) (gq Q (i + 1)).2 (ent N xs 0 (i + 1)) true from rfl)
      have I1 := stayTo_i64 N xs Q i
      have I5 := HBd.out (i + 1) (by omega)
      have hvl := (HVal.out (i + 1) (by omega)).1
      generalize gq Q (i + 1) = p at *
      obtain ⟨pn, pd⟩ := p
      simp only at q0 q1 HS2 I5 hvl
      have hng : ngR pn pd = ((-pn, pd), 0) := by unfold ngR; rw [if_pos hvl]
      have I6 : I64 (-pn) := by have := vr_bd hvl; unfold I64; omega
      have I3 := cutF_i64 (-pn) pd (ent N xs (i + 1) 0) false I1
      have k1 : (i + 1) * (N + 1) + 0 < Lz := by rw [Hx.out]; exact idx_lt N (i + 1) 0 (by omega) (by omega)
      have k2 : 0 * (N + 1) + (i + 1) < Lz := by rw [Hx.out]; exact idx_lt N 0 (i + 1) (by omega) (by omega)
      have m1 := ((bcell (below_grownBy hloc.grown)).1 _ _ hbz).trans (Hcz.out ((i + 1) * (N + 1) + 0) k1)
      have m2 := ((bcell (below_grownBy hloc.grown)).1 _ _ hbz).trans (Hcz.out (0 * (N + 1) + (i + 1)) k2)
      have e1 : ent N xs (i + 1) 0 = gi xs ((i + 1) * (N + 1) + 0) := rfl
      have e2 : ent N xs 0 (i + 1) = gi xs (0 * (N + 1) + (i + 1)) := rfl
      have hwsb2 : w.heap.size ≠ sb := by omega
      have hbz2 : bz ≠ sb := by omega
      have h1 := idx_bd N (i + 1) hN (by omega)
      have hn1 : (((i + 1) * (N + 1) : Nat) : Int) = ((i : Int) + 1) * ((N : Int) + 1) := by push_cast; rfl
      have hL1 : ((i : Int) + 1) * ((N : Int) + 1) < Lz := by omega
      have hL2 : (i : Int) + 1 < Lz := by omega
      have hz1 : (0 : Int) ≤ ((i : Int) + 1) * ((N : Int) + 1) := by omega
      have hnt : (((i : Int) + 1) * ((N : Int) + 1)).toNat = (i + 1) * (N + 1) := by omega
      have hw1 : IntKind.i64.wrap (((i : Int) + 1) * ((N : Int) + 1)) = ((i : Int) + 1) * ((N : Int) + 1) := IntWalk.i64_in _ (by push_cast at h1; omega)
      simp only [Nat.zero_mul, Nat.zero_add, Nat.add_zero] at m1 m2 e1 e2
      rw [e1, e2] at HS2
      rw [e1] at I3
      clear e1 e2 k1 k2 h1 hn1 hown
      go_wp2_with (go_at_call 87; refine (pr_neg pn pd _ I5).mono ?_; rw [hng]; rintro e w5 ⟨rfl, hb5⟩)
      have bA : Below wr.heap.size wr (w5.alloc (.cells #[.int .i64 (-pn), .int .i64 pd] 48)) := hb5.alloc hb5.size _
      have hxb := heap_alloc_new w5 (.cells #[.int .i64 (-pn), .int .i64 pd] 48)
      have x0 := cell_of_row _ w5.heap.size 0 _ _ _ hxb
      have x1 := cell_of_row _ w5.heap.size 1 _ _ _ hxb
      have z1' := keepb z1 bA
      have m1' := keepb m1 bA
      have m2' := keepb m2 bA
      have hS' := (bA.block sb hsz2).trans hS
      have hxsb : w5.heap.size ≠ sb := by have := hb5.size; omega
      have hGA : wr.grownBy (w5.alloc (.cells #[.int .i64 (-pn), .int .i64 pd] 48)) (some sb) := grownBy_below bA _
      clear z1 m1 m2 hS q0 q1 hxb bA hb5
      generalize hXB : w5.heap.size = xb at *
      generalize hV : w5.alloc (.cells #[.int .i64 (-pn), .int .i64 pd] 48) = V at *
      clear hV hXB
      go_region_held3 (fun w' => w'.cell? ⟨w.heap.size, 1, none⟩ = some (.slice (some ⟨bz, oz, none⟩) Lz capz) ∧ w'.cell? ⟨xb, 0, none⟩ = some (.int .i64 (-pn)) ∧ w'.cell? ⟨xb, 1, none⟩ = some (.int .i64 pd) ∧ w'.cell? ⟨bz, oz + (i + 1) * (N + 1), none⟩ = some (.int .i64 (gi xs ((i + 1) * (N + 1)))))
        (first | exact ⟨by assumption, by assumption, by assumption, by assumption⟩ | go_keep)
        (first
          | (go_at_call 88; refine (prog_cut sb _ (-pn) pd _ false _ I6 I1.1 I1.2 (show V.drew.heap[sb]? = _ from hS')).mono ?_; rintro e w6 ⟨rfl, hS5, hg5⟩; have p1 := keepg (show V.drew.cell? _ = _ from z1') hg5 hwsb2; have p2 := keepg (show V.drew.cell? _ = _ from x0) hg5 hxsb; have p3 := keepg (show V.drew.cell? _ = _ from x1) hg5 hxsb; have p4 := keepg (show V.drew.cell? _ = _ from m1') hg5 hbz2))
      have p5 := keepg (show V.drew.cell? _ = _ from m2') hg5 hbz2
      have hG5 : wr.grownBy w6 (some sb) := grownBy_trans hGA (grownBy_trans (grownBy_drew _ _) hg5)
      clear z1' x0 x1 m1' m2' hS' hGA hg5 p4
      go_wp2_with fail
      go_region_held3 (fun w' => w'.cell? ⟨w.heap.size, 1, none⟩ = some (.slice (some ⟨bz, oz, none⟩) Lz capz) ∧ w'.cell? ⟨xb, 0, none⟩ = some (.int .i64 (-pn)) ∧ w'.cell? ⟨xb, 1, none⟩ = some (.int .i64 pd) ∧ w'.cell? ⟨bz, oz + (i + 1), none⟩ = some (.int .i64 (gi xs (i + 1))))
        (first | exact ⟨by assumption, by assumption, by assumption, by assumption⟩ | go_keep)
        (first
          | (go_at_call 88; refine (prog_cut sb _ (-pn) pd _ true _ I6 I3.1 I3.2 (show w6.drew.heap[sb]? = _ from hS5)).mono ?_; rintro e w7 ⟨rfl, hS6, hg6⟩; have r1 := keepg (show w6.drew.cell? _ = _ from p1) hg6 hwsb2; have r2 := keepg (show w6.drew.cell? _ = _ from p2) hg6 hxsb; have r3 := keepg (show w6.drew.cell? _ = _ from p3) hg6 hxsb; have r4 := keepg (show w6.drew.cell? _ = _ from p5) hg6 hbz2))
      have hG6 : wr.grownBy w7 (some sb) := grownBy_trans hG5 (grownBy_trans (grownBy_drew _ _) hg6)
      go_wp2_with fail
      go_roundw
      case rel => exact ⟨i + 1, by omega, by go_num, by rw [HS2.out]; exact hS6, World.ownsRow.kept Hown.out hG6 (.inr (by intro e; exact hgsb (Option.some.inj e))), hloc.anyrow hG6 (fun g' e => by cases e; show w.heap.size + 2 ≤ sb; omega)⟩
      case measure => simp [intOf]; omega
    · obtain rfl : i = N := by omega
      have hil' : ¬ ((i : Int) + 1 < (i : Int) + 1) := by omega
      have hrq : RQ wr.heap.size wr (.slice (some ⟨g, 0, none⟩) (i + 1) cap) Q := hown.rq
      have hzz : RL wr.heap.size wr (.slice (some ⟨bz, oz, none⟩) Lz capz) xs := Hv.out.keepb (below_grownBy hloc.grown)
      have z0 : wr.cell? ⟨w.heap.size, 0, none⟩ = some (.int .i64 i) := hloc.cell 0 rfl 0
      have hsu := Lib.hid (fun w' (hb : Below wr.heap.size wr w') => prog_suits i 1 _ _ xs Q w' (hzz.keepb hb) (hrq.keepb hb) (by rw [hLz]; exact Hx.out) hN HQl.out HBd.out (by omega))
      generalize hSF : stayTo i xs Q i = S at *
      have HSF := Lib.hid hSF
      clear hSF hown hrq hzz
      obtain ⟨ln, ld, hn, hd, lo, ho, nh, wd⟩ := S
      have s7 : wr.cell? ⟨sb, 7, none⟩ = some (.bool wd) := cell_of_row _ sb 7 _ _ _ hS
      cases wd with
      | true =>
        have HT := Lib.hid (H1.out (by simp))
        have hb6 := below_grownBy hloc.grown
        have t0 : wr.cell? ⟨w.heap.size + 1, 0, none⟩ = some (.int .i64 0) := hloc.cell 1 rfl 0
        have f0 : wr.frozen? ⟨w.heap.size + 1, 0, none⟩ = false := hloc.free 1 rfl 0
        have t1 : wr.cell? ⟨w.heap.size + 1, 1, none⟩ = some (.int .i64 0) := hloc.cell 1 rfl 1
        have f1 : wr.frozen? ⟨w.heap.size + 1, 1, none⟩ = false := hloc.free 1 rfl 1
        have t2 : wr.cell? ⟨w.heap.size + 1, 2, none⟩ = some (.int .i64 0) := hloc.cell 1 rfl 2
        have f2 : wr.frozen? ⟨w.heap.size + 1, 2, none⟩ = false := hloc.free 1 rfl 2
        have t3 : wr.cell? ⟨w.heap.size + 1, 3, none⟩ = some (.int .i64 0) := hloc.cell 1 rfl 3
        have f3 : wr.frozen? ⟨w.heap.size + 1, 3, none⟩ = false := hloc.free 1 rfl 3
        have t4 : wr.cell? ⟨w.heap.size + 1, 4, none⟩ = some (.bool false) := hloc.cell 1 rfl 4
        have f4 : wr.frozen? ⟨w.heap.size + 1, 4, none⟩ = false := hloc.free 1 rfl 4
        have t5 : wr.cell? ⟨w.heap.size + 1, 5, none⟩ = some (.bool false) := hloc.cell 1 rfl 5
        have f5 : wr.frozen? ⟨w.heap.size + 1, 5, none⟩ = false := hloc.free 1 rfl 5
        have t6 : wr.cell? ⟨w.heap.size + 1, 6, none⟩ = some (.bool false) := hloc.cell 1 rfl 6
        have f6 : wr.frozen? ⟨w.heap.size + 1, 6, none⟩ = false := hloc.free 1 rfl 6
        go_wp2_with fail
        refine bodyPost_ret (v := .tuple #[(spz : Sp).delays, .int .i64 7]) (by simp [results, Try.results34, go_sem, Sp.delays, spz, t0, t1, t2, t3, t4, t5, t6]) rfl ⟨SE.of HT.out, ?_⟩
        exact (((((((hb6).setCell (Nat.le_add_right _ 1) _).setCell (Nat.le_add_right _ 1) _).setCell (Nat.le_add_right _ 1) _).setCell (Nat.le_add_right _ 1) _).setCell (Nat.le_add_right _ 1) _).setCell (Nat.le_add_right _ 1) _).setCell (Nat.le_add_right _ 1) _
      | false =>
        go_wp2_with fail
        refine (hsu.out wr (Below.refl _ _)).mono ?_
        rintro e w6 ⟨⟨b, rfl, hb⟩, hb6⟩
        have hsb6 : sb < wr.heap.size := (Array.getElem?_eq_some_iff.1 hS).1
        have hS6 := (hb6.block sb hsb6).trans hS
        have hloc6 := hloc.next (grownBy_below hb6 none) (fun _ h => by cases h)
        cases b with
        | false =>
          have HT := Lib.hid (H2.out (by simp) (fun h => by have := hb.2 h; cases this))
          clear hb hb6 hS hloc s7 z0 hsb6
          have hb6 := below_grownBy hloc6.grown
          have t0 : w6.cell? ⟨w.heap.size + 1, 0, none⟩ = some (.int .i64 0) := hloc6.cell 1 rfl 0
          have f0 : w6.frozen? ⟨w.heap.size + 1, 0, none⟩ = false := hloc6.free 1 rfl 0
          have t1 : w6.cell? ⟨w.heap.size + 1, 1, none⟩ = some (.int .i64 0) := hloc6.cell 1 rfl 1
          have f1 : w6.frozen? ⟨w.heap.size + 1, 1, none⟩ = false := hloc6.free 1 rfl 1
          have t2 : w6.cell? ⟨w.heap.size + 1, 2, none⟩ = some (.int .i64 0) := hloc6.cell 1 rfl 2
          have f2 : w6.frozen? ⟨w.heap.size + 1, 2, none⟩ = false := hloc6.free 1 rfl 2
          have t3 : w6.cell? ⟨w.heap.size + 1, 3, none⟩ = some (.int .i64 0) := hloc6.cell 1 rfl 3
          have f3 : w6.frozen? ⟨w.heap.size + 1, 3, none⟩ = false := hloc6.free 1 rfl 3
          have t4 : w6.cell? ⟨w.heap.size + 1, 4, none⟩ = some (.bool false) := hloc6.cell 1 rfl 4
          have f4 : w6.frozen? ⟨w.heap.size + 1, 4, none⟩ = false := hloc6.free 1 rfl 4
          have t5 : w6.cell? ⟨w.heap.size + 1, 5, none⟩ = some (.bool false) := hloc6.cell 1 rfl 5
          have f5 : w6.frozen? ⟨w.heap.size + 1, 5, none⟩ = false := hloc6.free 1 rfl 5
          have t6 : w6.cell? ⟨w.heap.size + 1, 6, none⟩ = some (.bool false) := hloc6.cell 1 rfl 6
          have f6 : w6.frozen? ⟨w.heap.size + 1, 6, none⟩ = false := hloc6.free 1 rfl 6
          go_wp2_with fail
          refine bodyPost_ret (v := .tuple #[(spz : Sp).delays, .int .i64 4]) (by simp [results, Try.results34, go_sem, Sp.delays, spz, t0, t1, t2, t3, t4, t5, t6]) rfl ⟨SE.of HT.out, ?_⟩
          exact (((((((hb6).setCell (Nat.le_add_right _ 1) _).setCell (Nat.le_add_right _ 1) _).setCell (Nat.le_add_right _ 1) _).setCell (Nat.le_add_right _ 1) _).setCell (Nat.le_add_right _ 1) _).setCell (Nat.le_add_right _ 1) _).setCell (Nat.le_add_right _ 1) _
        | true =>
          have HR := Lib.hid (H3.out (by simp) (hb.1 rfl))
          clear hb hb6 hS hloc s7 z0 hsb6
          have hb6 := below_grownBy hloc6.grown
          have s0 : w6.cell? ⟨sb, 0, none⟩ = some (.int .i64 ln) := cell_of_row _ sb 0 _ _ _ hS6
          have s1 : w6.cell? ⟨sb, 1, none⟩ = some (.int .i64 ld) := cell_of_row _ sb 1 _ _ _ hS6
          have s2 : w6.cell? ⟨sb, 2, none⟩ = some (.int .i64 hn) := cell_of_row _ sb 2 _ _ _ hS6
          have s3 : w6.cell? ⟨sb, 3, none⟩ = some (.int .i64 hd) := cell_of_row _ sb 3 _ _ _ hS6
          have s4 : w6.cell? ⟨sb, 4, none⟩ = some (.bool lo) := cell_of_row _ sb 4 _ _ _ hS6
          have s5 : w6.cell? ⟨sb, 5, none⟩ = some (.bool ho) := cell_of_row _ sb 5 _ _ _ hS6
          have s6 : w6.cell? ⟨sb, 6, none⟩ = some (.bool nh) := cell_of_row _ sb 6 _ _ _ hS6
          have t0 : w6.cell? ⟨w.heap.size + 1, 0, none⟩ = some (.int .i64 0) := hloc6.cell 1 rfl 0
          have f0 : w6.frozen? ⟨w.heap.size + 1, 0, none⟩ = false := hloc6.free 1 rfl 0
          have t1 : w6.cell? ⟨w.heap.size + 1, 1, none⟩ = some (.int .i64 0) := hloc6.cell 1 rfl 1
          have f1 : w6.frozen? ⟨w.heap.size + 1, 1, none⟩ = false := hloc6.free 1 rfl 1
          have t2 : w6.cell? ⟨w.heap.size + 1, 2, none⟩ = some (.int .i64 0) := hloc6.cell 1 rfl 2
          have f2 : w6.frozen? ⟨w.heap.size + 1, 2, none⟩ = false := hloc6.free 1 rfl 2
          have t3 : w6.cell? ⟨w.heap.size + 1, 3, none⟩ = some (.int .i64 0) := hloc6.cell 1 rfl 3
          have f3 : w6.frozen? ⟨w.heap.size + 1, 3, none⟩ = false := hloc6.free 1 rfl 3
          have t4 : w6.cell? ⟨w.heap.size + 1, 4, none⟩ = some (.bool false) := hloc6.cell 1 rfl 4
          have f4 : w6.frozen? ⟨w.heap.size + 1, 4, none⟩ = false := hloc6.free 1 rfl 4
          have t5 : w6.cell? ⟨w.heap.size + 1, 5, none⟩ = some (.bool false) := hloc6.cell 1 rfl 5
          have f5 : w6.frozen? ⟨w.heap.size + 1, 5, none⟩ = false := hloc6.free 1 rfl 5
          have t6 : w6.cell? ⟨w.heap.size + 1, 6, none⟩ = some (.bool false) := hloc6.cell 1 rfl 6
          have f6 : w6.frozen? ⟨w.heap.size + 1, 6, none⟩ = false := hloc6.free 1 rfl 6
          cases nh with
          | true =>
            have HT := Lib.hid (HR.out.trans (toldF_nh (s := ⟨ln, ld, hn, hd, lo, ho, true, false⟩) rfl))
            go_wp2_with fail
            refine bodyPost_ret (v := .tuple #[(⟨ln, ld, hn, hd, lo, ho, true, false⟩ : Sp).delays, .int .i64 0]) (by simp [results, Try.results34, go_sem, Sp.delays, t0, t1, t2, t3, t4, t5, t6]) rfl ⟨SE.of HT.out, ?_⟩
            exact (((((((hb6).setCell (Nat.le_add_right _ 1) _).setCell (Nat.le_add_right _ 1) _).setCell (Nat.le_add_right _ 1) _).setCell (Nat.le_add_right _ 1) _).setCell (Nat.le_add_right _ 1) _).setCell (Nat.le_add_right _ 1) _).setCell (Nat.le_add_right _ 1) _
          | false =>
            have hnl : I64 ln := by have := stayTo_i64 i xs Q i; rw [HSF.out] at this; exact this.1
            have hnh : I64 hn := by have := stayTo_i64 i xs Q i; rw [HSF.out] at this; exact this.2
            go_wp2_with fail
            obtain ⟨C, hC⟩ : ∃ C, C = cmpR ln ld hn hd := ⟨_, rfl⟩
            have hcv := cmpR_val ln ld hn hd
            rw [← hC] at hcv
            have HC := Lib.hid hC.symm
            have HC2 := Lib.hid ((cm_eq ln ld hn hd).trans hC.symm)
            clear hC
            obtain ⟨c, ce⟩ := C
            simp only at hcv
            have Hcv := Lib.hid hcv
            clear hcv
            go_region_held3 (fun w' => w'.cell? ⟨sb, 0, none⟩ = some (.int .i64 ln) ∧ w'.cell? ⟨sb, 1, none⟩ = some (.int .i64 ld) ∧ w'.cell? ⟨sb, 2, none⟩ = some (.int .i64 hn) ∧ w'.cell? ⟨sb, 3, none⟩ = some (.int .i64 hd))
              (first | exact ⟨by assumption, by assumption, by assumption, by assumption⟩ | go_keep)
              (first
                | (go_at_call 89; refine (pr_cmp ln ld hn hd _ hnl hnh).mono ?_; rw [HC2.out]; rintro e w7 ⟨rfl, hb7⟩; have q0 := keepb (show w6.drew.cell? _ = _ from s0) hb7; have q1 := keepb (show w6.drew.cell? _ = _ from s1) hb7; have q2 := keepb (show w6.drew.cell? _ = _ from s2) hb7; have q3 := keepb (show w6.drew.cell? _ = _ from s3) hb7))
            have hloc7 := hloc6.next (grownBy_trans (grownBy_drew w6 none) (grownBy_below hb7 none)) (fun _ h => by cases h)
            have hS7 := (hb7.block sb (show sb < w6.drew.heap.size from (Array.getElem?_eq_some_iff.1 hS6).1)).trans (show w6.drew.heap[sb]? = _ from hS6)
            clear hloc6 hS6 hb7 hb6 s0 s1 s2 s3 s4 s5 s6 q0 q1 q2 q3 t0 f0 t1 f1 t2 f2 t3 f3 t4 f4 t5 f5 t6 f6
            have hb6 := below_grownBy hloc7.grown
            have s0 : w7.cell? ⟨sb, 0, none⟩ = some (.int .i64 ln) := cell_of_row _ sb 0 _ _ _ hS7
            have s1 : w7.cell? ⟨sb, 1, none⟩ = some (.int .i64 ld) := cell_of_row _ sb 1 _ _ _ hS7
            have s2 : w7.cell? ⟨sb, 2, none⟩ = some (.int .i64 hn) := cell_of_row _ sb 2 _ _ _ hS7
            have s3 : w7.cell? ⟨sb, 3, none⟩ = some (.int .i64 hd) := cell_of_row _ sb 3 _ _ _ hS7
            have s4 : w7.cell? ⟨sb, 4, none⟩ = some (.bool lo) := cell_of_row _ sb 4 _ _ _ hS7
            have s5 : w7.cell? ⟨sb, 5, none⟩ = some (.bool ho) := cell_of_row _ sb 5 _ _ _ hS7
            have s6 : w7.cell? ⟨sb, 6, none⟩ = some (.bool false) := cell_of_row _ sb 6 _ _ _ hS7
            have t0 : w7.cell? ⟨w.heap.size + 1, 0, none⟩ = some (.int .i64 0) := hloc7.cell 1 rfl 0
            have f0 : w7.frozen? ⟨w.heap.size + 1, 0, none⟩ = false := hloc7.free 1 rfl 0
            have t1 : w7.cell? ⟨w.heap.size + 1, 1, none⟩ = some (.int .i64 0) := hloc7.cell 1 rfl 1
            have f1 : w7.frozen? ⟨w.heap.size + 1, 1, none⟩ = false := hloc7.free 1 rfl 1
            have t2 : w7.cell? ⟨w.heap.size + 1, 2, none⟩ = some (.int .i64 0) := hloc7.cell 1 rfl 2
            have f2 : w7.frozen? ⟨w.heap.size + 1, 2, none⟩ = false := hloc7.free 1 rfl 2
            have t3 : w7.cell? ⟨w.heap.size + 1, 3, none⟩ = some (.int .i64 0) := hloc7.cell 1 rfl 3
            have f3 : w7.frozen? ⟨w.heap.size + 1, 3, none⟩ = false := hloc7.free 1 rfl 3
            have t4 : w7.cell? ⟨w.heap.size + 1, 4, none⟩ = some (.bool false) := hloc7.cell 1 rfl 4
            have f4 : w7.frozen? ⟨w.heap.size + 1, 4, none⟩ = false := hloc7.free 1 rfl 4
            have t5 : w7.cell? ⟨w.heap.size + 1, 5, none⟩ = some (.bool false) := hloc7.cell 1 rfl 5
            have f5 : w7.frozen? ⟨w.heap.size + 1, 5, none⟩ = false := hloc7.free 1 rfl 5
            have t6 : w7.cell? ⟨w.heap.size + 1, 6, none⟩ = some (.bool false) := hloc7.cell 1 rfl 6
            have f6 : w7.frozen? ⟨w.heap.size + 1, 6, none⟩ = false := hloc7.free 1 rfl 6
            rcases Hcv.out with h | h | h
            · subst h
              have HT := Lib.hid (HR.out.trans (toldF_neg (s := ⟨ln, ld, hn, hd, lo, ho, false, false⟩) (by show (cmpR ln ld hn hd).1 = -1; rw [HC.out])))
              go_wp2_with fail
              refine bodyPost_ret (v := .tuple #[(⟨ln, ld, hn, hd, lo, ho, false, false⟩ : Sp).delays, .int .i64 0]) (by simp [results, Try.results34, go_sem, Sp.delays, t0, t1, t2, t3, t4, t5, t6]) rfl ⟨SE.of HT.out, ?_⟩
              exact (((((((hb6).setCell (Nat.le_add_right _ 1) _).setCell (Nat.le_add_right _ 1) _).setCell (Nat.le_add_right _ 1) _).setCell (Nat.le_add_right _ 1) _).setCell (Nat.le_add_right _ 1) _).setCell (Nat.le_add_right _ 1) _).setCell (Nat.le_add_right _ 1) _
            · subst h
              cases lo with
              | true =>
                have HT := Lib.hid (HR.out.trans (toldF_open (s := ⟨ln, ld, hn, hd, true, ho, false, false⟩) rfl (by show (cmpR ln ld hn hd).1 = 0; rw [HC.out]) rfl))
                go_wp2_with fail
                refine bodyPost_ret (v := .tuple #[(spz : Sp).delays, .int .i64 4]) (by simp [results, Try.results34, go_sem, Sp.delays, spz, t0, t1, t2, t3, t4, t5, t6]) rfl ⟨SE.of HT.out, ?_⟩
                exact (((((((hb6).setCell (Nat.le_add_right _ 1) _).setCell (Nat.le_add_right _ 1) _).setCell (Nat.le_add_right _ 1) _).setCell (Nat.le_add_right _ 1) _).setCell (Nat.le_add_right _ 1) _).setCell (Nat.le_add_right _ 1) _).setCell (Nat.le_add_right _ 1) _
              | false =>
                cases ho with
                | true =>
                  have HT := Lib.hid (HR.out.trans (toldF_open (s := ⟨ln, ld, hn, hd, false, true, false, false⟩) rfl (by show (cmpR ln ld hn hd).1 = 0; rw [HC.out]) rfl))
                  go_wp2_with fail
                  refine bodyPost_ret (v := .tuple #[(spz : Sp).delays, .int .i64 4]) (by simp [results, Try.results34, go_sem, Sp.delays, spz, t0, t1, t2, t3, t4, t5, t6]) rfl ⟨SE.of HT.out, ?_⟩
                  exact (((((((hb6).setCell (Nat.le_add_right _ 1) _).setCell (Nat.le_add_right _ 1) _).setCell (Nat.le_add_right _ 1) _).setCell (Nat.le_add_right _ 1) _).setCell (Nat.le_add_right _ 1) _).setCell (Nat.le_add_right _ 1) _).setCell (Nat.le_add_right _ 1) _
                | false =>
                  have HT := Lib.hid (HR.out.trans (toldF_shut (s := ⟨ln, ld, hn, hd, false, false, false, false⟩) (by show (cmpR ln ld hn hd).1 = 0; rw [HC.out]) rfl))
                  go_wp2_with fail
                  refine bodyPost_ret (v := .tuple #[(⟨ln, ld, hn, hd, false, false, false, false⟩ : Sp).delays, .int .i64 0]) (by simp [results, Try.results34, go_sem, Sp.delays, t0, t1, t2, t3, t4, t5, t6]) rfl ⟨SE.of HT.out, ?_⟩
                  exact (((((((hb6).setCell (Nat.le_add_right _ 1) _).setCell (Nat.le_add_right _ 1) _).setCell (Nat.le_add_right _ 1) _).setCell (Nat.le_add_right _ 1) _).setCell (Nat.le_add_right _ 1) _).setCell (Nat.le_add_right _ 1) _).setCell (Nat.le_add_right _ 1) _
            · subst h
              have HT := Lib.hid (HR.out.trans (toldF_pos (s := ⟨ln, ld, hn, hd, lo, ho, false, false⟩) rfl (by show (cmpR ln ld hn hd).1 = 1; rw [HC.out])))
              go_wp2_with fail
              refine bodyPost_ret (v := .tuple #[(spz : Sp).delays, .int .i64 4]) (by simp [results, Try.results34, go_sem, Sp.delays, spz, t0, t1, t2, t3, t4, t5, t6]) rfl ⟨SE.of HT.out, ?_⟩
              exact (((((((hb6).setCell (Nat.le_add_right _ 1) _).setCell (Nat.le_add_right _ 1) _).setCell (Nat.le_add_right _ 1) _).setCell (Nat.le_add_right _ 1) _).setCell (Nat.le_add_right _ 1) _).setCell (Nat.le_add_right _ 1) _).setCell (Nat.le_add_right _ 1) _
set_option maxRecDepth 100000 in
set_option maxHeartbeats 2000000 in
theorem prog_stay_any (n : Int) (v pv : Value) (xs : List Int) (ps : List (Int × Int)) (w : World) (hv : RL w.heap.size w v xs) (hp : RQ w.heap.size w pv ps) (hI : ∀ k, k < ps.length → I64 (gq ps k).1) :
    Calls Try.prog 34 #[.agg #[.int .i64 n, v], pv] w fun e w' => SE (stayF n xs ps) e ∧ Below w.heap.size w w' := by
  by_cases hr : readyF n xs ps = 0
  · obtain ⟨hfit, _, _⟩ := readyF_inv hr
    obtain rfl : (ps.length : Int) = n := hfit.2
    exact prog_stay_ok ps.length v pv xs ps w hv hp hfit.1 (ptok_of hr hI) _ (stayF_wide hr) (stayF_none hr) (stayF_told hr)
  · have HT := Lib.hid (stayF_no (n := n) (xs := xs) (ps := ps) rfl hr)
    have hr' : (readyF n xs ps != 0) = true := by simpa using hr
    obtain ⟨aoz, capz, rfl, hlez, _⟩ := hv.open
    obtain ⟨aop, capp, rfl, hlep, _⟩ := hp.open
    have hloc0 := Loc.two w (.cells #[.int .i64 n, .slice aoz xs.length capz] 24) (.cells #[.int .i64 0, .int .i64 0, .int .i64 0, .int .i64 0, .bool false, .bool false, .bool false] 50) none
    have Hv := Lib.hid (hv.keepb (below_grownBy hloc0.grown))
    have Hp := Lib.hid (hp.keepb (below_grownBy hloc0.grown))
    have HI := Lib.hid hI
    clear hv hp hI
    go_enter Try.func34, Try.ntmps34
    go_wp2_with fail
    refine (prog_at n _ _ xs ps _ Hv.out Hp.out HI.out).mono ?_
    rintro e w1 ⟨⟨qv, rfl, hown⟩, hb1⟩
    have hloc1 := hloc0.next (grownBy_below hb1 none) (fun _ h => by cases h)
    clear hb1 hloc0 hr hown
    have hb6 := below_grownBy hloc1.grown
    generalize readyF n xs ps = x at *
    have t0 : w1.cell? ⟨w.heap.size + 1, 0, none⟩ = some (.int .i64 0) := hloc1.cell 1 rfl 0
    have f0 : w1.frozen? ⟨w.heap.size + 1, 0, none⟩ = false := hloc1.free 1 rfl 0
    have t1 : w1.cell? ⟨w.heap.size + 1, 1, none⟩ = some (.int .i64 0) := hloc1.cell 1 rfl 1
    have f1 : w1.frozen? ⟨w.heap.size + 1, 1, none⟩ = false := hloc1.free 1 rfl 1
    have t2 : w1.cell? ⟨w.heap.size + 1, 2, none⟩ = some (.int .i64 0) := hloc1.cell 1 rfl 2
    have f2 : w1.frozen? ⟨w.heap.size + 1, 2, none⟩ = false := hloc1.free 1 rfl 2
    have t3 : w1.cell? ⟨w.heap.size + 1, 3, none⟩ = some (.int .i64 0) := hloc1.cell 1 rfl 3
    have f3 : w1.frozen? ⟨w.heap.size + 1, 3, none⟩ = false := hloc1.free 1 rfl 3
    have t4 : w1.cell? ⟨w.heap.size + 1, 4, none⟩ = some (.bool false) := hloc1.cell 1 rfl 4
    have f4 : w1.frozen? ⟨w.heap.size + 1, 4, none⟩ = false := hloc1.free 1 rfl 4
    have t5 : w1.cell? ⟨w.heap.size + 1, 5, none⟩ = some (.bool false) := hloc1.cell 1 rfl 5
    have f5 : w1.frozen? ⟨w.heap.size + 1, 5, none⟩ = false := hloc1.free 1 rfl 5
    have t6 : w1.cell? ⟨w.heap.size + 1, 6, none⟩ = some (.bool false) := hloc1.cell 1 rfl 6
    have f6 : w1.frozen? ⟨w.heap.size + 1, 6, none⟩ = false := hloc1.free 1 rfl 6
    go_wp2_with fail
    refine bodyPost_ret (v := .tuple #[(spz : Sp).delays, .int .i64 x]) (by simp [results, Try.results34, go_sem, Sp.delays, spz, t0, t1, t2, t3, t4, t5, t6]) rfl ⟨SE.of HT.out, ?_⟩
    exact (((((((hb6).setCell (Nat.le_add_right _ 1) _).setCell (Nat.le_add_right _ 1) _).setCell (Nat.le_add_right _ 1) _).setCell (Nat.le_add_right _ 1) _).setCell (Nat.le_add_right _ 1) _).setCell (Nat.le_add_right _ 1) _).setCell (Nat.le_add_right _ 1) _
end Go.Proofs.Ytkgaipcgdldfdaa
