/- The program's span, and what cutting makes of it. -/
import Derived.Test.YtkgaipcgdldfdaaPrat
import Derived.Test.YtkgaipcgdldfdaaWid1
import Derived.Test.YtkgaipcgdldfdaaBox
import Derived.Deep.DeepCutAuto
namespace Go.Proofs.Ytkgaipcgdldfdaa
open Go.RowKit
set_option linter.unusedVariables false

/-- An interval: its ends, whether they are without them, whether there is no upper one, whether a number was out of range. -/
structure Sp where
  ln : Int
  ld : Int
  hn : Int
  hd : Int
  lo : Bool
  ho : Bool
  nh : Bool
  wd : Bool
deriving DecidableEq
def Sp.cs (s : Sp) : Array Value := #[.int .i64 s.ln, .int .i64 s.ld, .int .i64 s.hn, .int .i64 s.hd, .bool s.lo, .bool s.ho, .bool s.nh, .bool s.wd]
def cutY (xn xd l : Int) (ab : Bool) : (Int × Int) × Int := addR xn xd (if ab then - spC l else spC l) 1
def cutF (s : Sp) (xn xd l : Int) (ab : Bool) : Sp :=
  if spE l ≠ 0 then s
  else if (cutY xn xd l ab).2 ≠ 0 then { s with wd := true }
  else if ab = true then
    (if -(cmR (cutY xn xd l ab).1.1 (cutY xn xd l ab).1.2 s.ln s.ld).1 < 0 then { s with ln := (cutY xn xd l ab).1.1, ld := (cutY xn xd l ab).1.2, lo := spS l }
     else if -(cmR (cutY xn xd l ab).1.1 (cutY xn xd l ab).1.2 s.ln s.ld).1 = 0 then { s with lo := s.lo || spS l } else s)
  else if s.nh = true then { s with hn := (cutY xn xd l ab).1.1, hd := (cutY xn xd l ab).1.2, ho := spS l, nh := false }
  else (if (cmR (cutY xn xd l ab).1.1 (cutY xn xd l ab).1.2 s.hn s.hd).1 < 0 then { s with hn := (cutY xn xd l ab).1.1, hd := (cutY xn xd l ab).1.2, ho := spS l, nh := false }
     else if (cmR (cutY xn xd l ab).1.1 (cutY xn xd l ab).1.2 s.hn s.hd).1 = 0 then { s with ho := s.ho || spS l } else s)
theorem cmR_val (a b c d : Int) : (cmR a b c d).1 = -1 ∨ (cmR a b c d).1 = 0 ∨ (cmR a b c d).1 = 1 := by
  unfold cmR; split
  · simp only; split
    · simp
    · split <;> simp
  · simp
theorem grown_set {w w' : World} {g i : Nat} {v : Value} (h : w.grownBy w' (some g)) : w.grownBy (w'.setCell ⟨g, i, none⟩ v) (some g) :=
  grownBy_trans h ⟨rfl, rfl, rfl, by simp [World.setCell], fun k _ hk => Below.heap_setCell _ _ _ _ (by intro e; exact hk (by rw [e]))⟩
theorem mk_i64 {n d p q e : Int} (hd : 0 < d) (h : mkR n d = ((p, q), e)) (he : e = 0) : I64 p := by
  have := mkR_val hd h he
  obtain ⟨_, _, h3⟩ := this
  have := vr_bd h3
  unfold I64; omega
theorem spC_bd (l : Int) : -1073741824 ≤ spC l ∧ spC l ≤ 1073741824 := by
  unfold spC
  split
  · rename_i h
    have hv : vld l = true := by
      unfold spE at h; cases e : vld l with
      | true => rfl
      | false => rw [e] at h; simp at h
    rw [vld_iff] at hv
    have hn : l ≠ 1099511627776 := by
      intro e; subst e
      have : spE 1099511627776 = 4 := rfl
      rw [this] at h; cases h
    omega
  · omega
set_option maxRecDepth 100000 in
set_option maxHeartbeats 8000000 in
theorem prog_cut (sb : Nat) (s : Sp) (xn xd l : Int) (ab : Bool) (w : World) (hx : I64 xn) (hl : I64 s.ln) (hh : I64 s.hn) (hs : w.heap[sb]? = some (.cells s.cs 101 (0, 0))) :
    Calls Try.prog 88 #[.pointer (some ⟨sb, 0, none⟩), .agg #[.int .i64 xn, .int .i64 xd], .int .i64 l, .bool ab] w fun e w' => e = .returned (.tuple #[]) ∧ w'.heap[sb]? = some (.cells (cutF s xn xd l ab).cs 101 (0, 0)) ∧ w.grownBy w' (some sb) := by
  have hsb : sb < w.heap.size := (Array.getElem?_eq_some_iff.1 hs).1
  have hloc0 := Loc.one w (.cells #[.int .i64 xn, .int .i64 xd] 48) none
  have Hs := Lib.hid hs
  obtain ⟨ln, ld, hn, hd, lo, ho, nh, wd⟩ := s
  simp only at hl hh
  obtain ⟨c1, c2⟩ := spC_bd l
  have HF := Lib.hid (show cutF ⟨ln, ld, hn, hd, lo, ho, nh, wd⟩ xn xd l ab = _ from rfl)
  by_cases hE : spE l = 0
  rotate_left
  · have hEb : (spE l != 0) = true := by simpa using hE
    have HR := Lib.hid (show cutF ⟨ln, ld, hn, hd, lo, ho, nh, wd⟩ xn xd l ab = ⟨ln, ld, hn, hd, lo, ho, nh, wd⟩ by unfold cutF; rw [if_pos hE])
    have Hold := Lib.hid ((heap_alloc_old w (.cells #[.int .i64 xn, .int .i64 xd] 48) hsb).trans Hs.out)
    clear hE hs
    go_enter Try.func88, Try.ntmps88
    go_wp2_with (go_at_call 132; refine (prog_split _ _).mono ?_; rintro e w9 ⟨rfl, rfl⟩)
    refine bodyPost_ret (results_none rfl _ _ _) rfl ?_
    exact ⟨rfl, by rw [HR.out]; exact Hold.out, World.grownBy_alloc _ _ _⟩
  have hEb : (spE l != 0) = false := by simpa using hE
  have HC := Lib.hid (show -9223372036854775808 ≤ - spC l ∧ - spC l ≤ 9223372036854775807 by omega)
  cases ab
  · skip
    have HA := Lib.hid (show cutY xn xd l false = addR xn xd (spC l) 1 from rfl)
    clear hs
    go_enter Try.func88, Try.ntmps88
    go_wp2_with (go_at_call 132; refine (prog_split _ _).mono ?_; rintro e w9 ⟨rfl, rfl⟩)
    refine (pr_add xn xd (spC l) 1 _ hx ⟨by omega, by omega⟩).mono ?_
    rw [← HA.out]
    have HYi := Lib.hid (show (cutY xn xd l false).2 = 0 → I64 (cutY xn xd l false).1.1 from fun he => by
      rw [HA.out] at he ⊢
      unfold addR at he ⊢
      split at he
      · rename_i hv
        rw [if_pos hv]
        exact mk_i64 (d := xd * 1) (by have := vr_bd hv.1; omega) rfl he
      · cases he)
    generalize hY : cutY xn xd l false = Y at HYi
    have HY := Lib.hid hY
    clear hY HA
    obtain ⟨⟨yn, yd⟩, ye⟩ := Y
    simp only at HYi
    rintro e w2 ⟨he, hb2⟩
    obtain rfl : e = .returned (.tuple #[.agg #[.int .i64 yn, .int .i64 yd], .int .i64 ye]) := he
    have hbx := bal hb2 (.cells #[.int .i64 yn, .int .i64 yd] 48)
    have hS2 := (hbx.block sb (by have := hloc0.size; simp at *; omega)).trans ((heap_alloc_old w (.cells #[.int .i64 xn, .int .i64 xd] 48) hsb).trans Hs.out)
    have y0 := cell_of_row _ w2.heap.size 0 _ _ _ (heap_alloc_new w2 (.cells #[.int .i64 yn, .int .i64 yd] 48))
    have y1 := cell_of_row _ w2.heap.size 1 _ _ _ (heap_alloc_new w2 (.cells #[.int .i64 yn, .int .i64 yd] 48))
    have hGV := grownBy_trans (World.grownBy_alloc w (.cells #[.int .i64 xn, .int .i64 xd] 48) (some sb)) (grownBy_below hbx (some sb))
    have hyb : w2.heap.size ≠ sb := by have := hb2.size; simp at this; omega
    clear hb2 hbx
    by_cases he : ye = 0
    rotate_left
    · have heb : (ye != 0) = true := by simpa using he
      have HR := Lib.hid (show cutF ⟨ln, ld, hn, hd, lo, ho, nh, wd⟩ xn xd l false = ⟨ln, ld, hn, hd, lo, ho, nh, true⟩ by unfold cutF; rw [if_neg (by simp [hE]), if_pos (by rw [HY.out]; exact he)])
      clear he
      go_upto_region 7 with fail
      generalize w2.alloc (.cells #[.int .i64 yn, .int .i64 yd] 48) = V at *
      have s0 : V.cell? ⟨sb, 0, none⟩ = some (.int .i64 ln) := cell_of_row _ sb 0 _ _ _ hS2
      have f0 : V.frozen? ⟨sb, 0, none⟩ = false := frozen_of_row _ sb 0 _ _ hS2
      have s1 : V.cell? ⟨sb, 1, none⟩ = some (.int .i64 ld) := cell_of_row _ sb 1 _ _ _ hS2
      have f1 : V.frozen? ⟨sb, 1, none⟩ = false := frozen_of_row _ sb 1 _ _ hS2
      have s2 : V.cell? ⟨sb, 2, none⟩ = some (.int .i64 hn) := cell_of_row _ sb 2 _ _ _ hS2
      have f2 : V.frozen? ⟨sb, 2, none⟩ = false := frozen_of_row _ sb 2 _ _ hS2
      have s3 : V.cell? ⟨sb, 3, none⟩ = some (.int .i64 hd) := cell_of_row _ sb 3 _ _ _ hS2
      have f3 : V.frozen? ⟨sb, 3, none⟩ = false := frozen_of_row _ sb 3 _ _ hS2
      have s4 : V.cell? ⟨sb, 4, none⟩ = some (.bool lo) := cell_of_row _ sb 4 _ _ _ hS2
      have f4 : V.frozen? ⟨sb, 4, none⟩ = false := frozen_of_row _ sb 4 _ _ hS2
      have s5 : V.cell? ⟨sb, 5, none⟩ = some (.bool ho) := cell_of_row _ sb 5 _ _ _ hS2
      have f5 : V.frozen? ⟨sb, 5, none⟩ = false := frozen_of_row _ sb 5 _ _ hS2
      have s6 : V.cell? ⟨sb, 6, none⟩ = some (.bool nh) := cell_of_row _ sb 6 _ _ _ hS2
      have f6 : V.frozen? ⟨sb, 6, none⟩ = false := frozen_of_row _ sb 6 _ _ hS2
      have s7 : V.cell? ⟨sb, 7, none⟩ = some (.bool wd) := cell_of_row _ sb 7 _ _ _ hS2
      have f7 : V.frozen? ⟨sb, 7, none⟩ = false := frozen_of_row _ sb 7 _ _ hS2
      go_wp2_with fail
      refine bodyPost_ret (results_none rfl _ _ _) rfl ?_
      refine ⟨rfl, ?_, grown_set hGV⟩
      rw [HR.out]
      exact heap_setCell_same _ sb 7 _ _ _ hS2
    obtain rfl : ye = 0 := he
    have hYi := HYi.out rfl
    have HFF := Lib.hid (show cutF ⟨ln, ld, hn, hd, lo, ho, nh, wd⟩ xn xd l false = if nh = true then ⟨ln, ld, yn, yd, lo, spS l, false, wd⟩ else if (cmR yn yd hn hd).1 < 0 then ⟨ln, ld, yn, yd, lo, spS l, false, wd⟩ else if (cmR yn yd hn hd).1 = 0 then ⟨ln, ld, hn, hd, lo, ho || spS l, nh, wd⟩ else ⟨ln, ld, hn, hd, lo, ho, nh, wd⟩ by
      unfold cutF
      rw [if_neg (by simp [hE]), HY.out, if_neg (by simp), if_neg (by simp)])
    go_upto_region 8 with fail
    generalize w2.alloc (.cells #[.int .i64 yn, .int .i64 yd] 48) = V at *
    go_wp2_with fail
    go_quiet (fail)
    have hS3 : (V.drewN nq).heap[sb]? = _ := hS2
    have z0 : (V.drewN nq).cell? ⟨w2.heap.size, 0, none⟩ = some (.int .i64 yn) := y0
    have z1 : (V.drewN nq).cell? ⟨w2.heap.size, 1, none⟩ = some (.int .i64 yd) := y1
    have hG3 : w.grownBy (V.drewN nq) (some sb) := grownBy_trans hGV (grownBy_below (below_drewN _ _) _)
    clear hS2 y0 y1 hGV
    generalize V.drewN nq = W at *
    have hS2 := hS3
    have y0 := z0
    have y1 := z1
    have hGV := hG3
    clear hS3 z0 z1 hG3
    cases nh
    rotate_left
    · have HR := Lib.hid (HFF.out.trans (if_pos rfl))
      have s0 : W.cell? ⟨sb, 0, none⟩ = some (.int .i64 ln) := cell_of_row _ sb 0 _ _ _ hS2
      have f0 : W.frozen? ⟨sb, 0, none⟩ = false := frozen_of_row _ sb 0 _ _ hS2
      have s1 : W.cell? ⟨sb, 1, none⟩ = some (.int .i64 ld) := cell_of_row _ sb 1 _ _ _ hS2
      have f1 : W.frozen? ⟨sb, 1, none⟩ = false := frozen_of_row _ sb 1 _ _ hS2
      have s2 : W.cell? ⟨sb, 2, none⟩ = some (.int .i64 hn) := cell_of_row _ sb 2 _ _ _ hS2
      have f2 : W.frozen? ⟨sb, 2, none⟩ = false := frozen_of_row _ sb 2 _ _ hS2
      have s3 : W.cell? ⟨sb, 3, none⟩ = some (.int .i64 hd) := cell_of_row _ sb 3 _ _ _ hS2
      have f3 : W.frozen? ⟨sb, 3, none⟩ = false := frozen_of_row _ sb 3 _ _ hS2
      have s4 : W.cell? ⟨sb, 4, none⟩ = some (.bool lo) := cell_of_row _ sb 4 _ _ _ hS2
      have f4 : W.frozen? ⟨sb, 4, none⟩ = false := frozen_of_row _ sb 4 _ _ hS2
      have s5 : W.cell? ⟨sb, 5, none⟩ = some (.bool ho) := cell_of_row _ sb 5 _ _ _ hS2
      have f5 : W.frozen? ⟨sb, 5, none⟩ = false := frozen_of_row _ sb 5 _ _ hS2
      have s6 : W.cell? ⟨sb, 6, none⟩ = some (.bool true) := cell_of_row _ sb 6 _ _ _ hS2
      have f6 : W.frozen? ⟨sb, 6, none⟩ = false := frozen_of_row _ sb 6 _ _ hS2
      have s7 : W.cell? ⟨sb, 7, none⟩ = some (.bool wd) := cell_of_row _ sb 7 _ _ _ hS2
      have f7 : W.frozen? ⟨sb, 7, none⟩ = false := frozen_of_row _ sb 7 _ _ hS2
      go_wp2_with fail
      first
        | go_end0
        | refine bodyPost_ret (results_none rfl _ _ _) rfl ?_
      have k0 := heap_setCell_same _ sb 2 _ _ (.int .i64 yn) hS2
      have k1 := heap_setCell_same _ sb 3 _ _ (.int .i64 yd) k0
      have k2 := heap_setCell_same _ sb 5 _ _ (.bool (spS l)) k1
      have k3 := heap_setCell_same _ sb 6 _ _ (.bool false) k2
      exact ⟨rfl, by rw [HR.out]; exact k3, (grown_set (grown_set (grown_set (grown_set hGV))))⟩
    have s0 : W.cell? ⟨sb, 0, none⟩ = some (.int .i64 ln) := cell_of_row _ sb 0 _ _ _ hS2
    have f0 : W.frozen? ⟨sb, 0, none⟩ = false := frozen_of_row _ sb 0 _ _ hS2
    have s1 : W.cell? ⟨sb, 1, none⟩ = some (.int .i64 ld) := cell_of_row _ sb 1 _ _ _ hS2
    have f1 : W.frozen? ⟨sb, 1, none⟩ = false := frozen_of_row _ sb 1 _ _ hS2
    have s2 : W.cell? ⟨sb, 2, none⟩ = some (.int .i64 hn) := cell_of_row _ sb 2 _ _ _ hS2
    have f2 : W.frozen? ⟨sb, 2, none⟩ = false := frozen_of_row _ sb 2 _ _ hS2
    have s3 : W.cell? ⟨sb, 3, none⟩ = some (.int .i64 hd) := cell_of_row _ sb 3 _ _ _ hS2
    have f3 : W.frozen? ⟨sb, 3, none⟩ = false := frozen_of_row _ sb 3 _ _ hS2
    have s4 : W.cell? ⟨sb, 4, none⟩ = some (.bool lo) := cell_of_row _ sb 4 _ _ _ hS2
    have f4 : W.frozen? ⟨sb, 4, none⟩ = false := frozen_of_row _ sb 4 _ _ hS2
    have s5 : W.cell? ⟨sb, 5, none⟩ = some (.bool ho) := cell_of_row _ sb 5 _ _ _ hS2
    have f5 : W.frozen? ⟨sb, 5, none⟩ = false := frozen_of_row _ sb 5 _ _ hS2
    have s6 : W.cell? ⟨sb, 6, none⟩ = some (.bool false) := cell_of_row _ sb 6 _ _ _ hS2
    have f6 : W.frozen? ⟨sb, 6, none⟩ = false := frozen_of_row _ sb 6 _ _ hS2
    have s7 : W.cell? ⟨sb, 7, none⟩ = some (.bool wd) := cell_of_row _ sb 7 _ _ _ hS2
    have f7 : W.frozen? ⟨sb, 7, none⟩ = false := frozen_of_row _ sb 7 _ _ hS2
    obtain ⟨K, hK⟩ : ∃ K, K = cmR yn yd hn hd := ⟨_, rfl⟩
    have HK := Lib.hid hK
    have hkv := cmR_val yn yd hn hd
    rw [← hK] at HFF hkv
    clear hK
    obtain ⟨k, k2⟩ := K
    simp only at hkv
    rcases hkv with rfl | rfl | rfl
    · have HR := Lib.hid (HFF.out.trans ((if_neg (by simp)).trans (if_pos (by omega))))
      go_wp2_with fail
      go_region_held3 (fun w' => w'.cell? ⟨w2.heap.size, 0, none⟩ = some (.int .i64 yn) ∧ w'.cell? ⟨w2.heap.size, 1, none⟩ = some (.int .i64 yd) ∧ w'.cell? ⟨sb, 2, none⟩ = some (.int .i64 hn) ∧ w'.cell? ⟨sb, 3, none⟩ = some (.int .i64 hd))
        (first | exact ⟨by assumption, by assumption, by assumption, by assumption⟩ | go_keep)
        (first
          | (go_at_call 89; refine (pr_cmp yn yd hn hd _ hYi hh).mono ?_; rw [← HK.out]; rintro e w8 ⟨rfl, hb8⟩; have q0 := keepb (show W.drew.cell? ⟨w2.heap.size, 0, none⟩ = _ from y0) hb8; have q1 := keepb (show W.drew.cell? ⟨w2.heap.size, 1, none⟩ = _ from y1) hb8; have q2 := keepb (show W.drew.cell? ⟨sb, 2, none⟩ = _ from s2) hb8; have q3 := keepb (show W.drew.cell? ⟨sb, 3, none⟩ = _ from s3) hb8))
      have hS9 := (hb8.block sb (show sb < W.heap.size from (Array.getElem?_eq_some_iff.1 hS2).1)).trans (show W.drew.heap[sb]? = _ from hS2)
      have hG9 : w.grownBy w8 (some sb) := grownBy_trans hGV (grownBy_trans (grownBy_drew _ _) (grownBy_below hb8 _))
      clear hS2 hGV y0 y1 s0 f0 s1 f1 s2 f2 s3 f3 s4 f4 s5 f5 s6 f6 s7 f7 hb8
      have hS2 := hS9
      have hGV := hG9
      have y0 := q0
      have y1 := q1
      clear hS9 hG9 q0 q1 q2 q3
      have s0 : w8.cell? ⟨sb, 0, none⟩ = some (.int .i64 ln) := cell_of_row _ sb 0 _ _ _ hS2
      have f0 : w8.frozen? ⟨sb, 0, none⟩ = false := frozen_of_row _ sb 0 _ _ hS2
      have s1 : w8.cell? ⟨sb, 1, none⟩ = some (.int .i64 ld) := cell_of_row _ sb 1 _ _ _ hS2
      have f1 : w8.frozen? ⟨sb, 1, none⟩ = false := frozen_of_row _ sb 1 _ _ hS2
      have s2 : w8.cell? ⟨sb, 2, none⟩ = some (.int .i64 hn) := cell_of_row _ sb 2 _ _ _ hS2
      have f2 : w8.frozen? ⟨sb, 2, none⟩ = false := frozen_of_row _ sb 2 _ _ hS2
      have s3 : w8.cell? ⟨sb, 3, none⟩ = some (.int .i64 hd) := cell_of_row _ sb 3 _ _ _ hS2
      have f3 : w8.frozen? ⟨sb, 3, none⟩ = false := frozen_of_row _ sb 3 _ _ hS2
      have s4 : w8.cell? ⟨sb, 4, none⟩ = some (.bool lo) := cell_of_row _ sb 4 _ _ _ hS2
      have f4 : w8.frozen? ⟨sb, 4, none⟩ = false := frozen_of_row _ sb 4 _ _ hS2
      have s5 : w8.cell? ⟨sb, 5, none⟩ = some (.bool ho) := cell_of_row _ sb 5 _ _ _ hS2
      have f5 : w8.frozen? ⟨sb, 5, none⟩ = false := frozen_of_row _ sb 5 _ _ hS2
      have s6 : w8.cell? ⟨sb, 6, none⟩ = some (.bool false) := cell_of_row _ sb 6 _ _ _ hS2
      have f6 : w8.frozen? ⟨sb, 6, none⟩ = false := frozen_of_row _ sb 6 _ _ hS2
      have s7 : w8.cell? ⟨sb, 7, none⟩ = some (.bool wd) := cell_of_row _ sb 7 _ _ _ hS2
      have f7 : w8.frozen? ⟨sb, 7, none⟩ = false := frozen_of_row _ sb 7 _ _ hS2
      go_wp2_with fail
      first
        | go_end0
        | refine bodyPost_ret (results_none rfl _ _ _) rfl ?_
      have k0 := heap_setCell_same _ sb 2 _ _ (.int .i64 yn) hS2
      have k1 := heap_setCell_same _ sb 3 _ _ (.int .i64 yd) k0
      have k2 := heap_setCell_same _ sb 5 _ _ (.bool (spS l)) k1
      have k3 := heap_setCell_same _ sb 6 _ _ (.bool false) k2
      exact ⟨rfl, by rw [HR.out]; exact k3, (grown_set (grown_set (grown_set (grown_set hGV))))⟩
    · have HR := Lib.hid (HFF.out.trans ((if_neg (by simp)).trans ((if_neg (by omega)).trans (if_pos rfl))))
      go_wp2_with fail
      go_region_held3 (fun w' => w'.cell? ⟨w2.heap.size, 0, none⟩ = some (.int .i64 yn) ∧ w'.cell? ⟨w2.heap.size, 1, none⟩ = some (.int .i64 yd) ∧ w'.cell? ⟨sb, 2, none⟩ = some (.int .i64 hn) ∧ w'.cell? ⟨sb, 3, none⟩ = some (.int .i64 hd))
        (first | exact ⟨by assumption, by assumption, by assumption, by assumption⟩ | go_keep)
        (first
          | (go_at_call 89; refine (pr_cmp yn yd hn hd _ hYi hh).mono ?_; rw [← HK.out]; rintro e w8 ⟨rfl, hb8⟩; have q0 := keepb (show W.drew.cell? ⟨w2.heap.size, 0, none⟩ = _ from y0) hb8; have q1 := keepb (show W.drew.cell? ⟨w2.heap.size, 1, none⟩ = _ from y1) hb8; have q2 := keepb (show W.drew.cell? ⟨sb, 2, none⟩ = _ from s2) hb8; have q3 := keepb (show W.drew.cell? ⟨sb, 3, none⟩ = _ from s3) hb8))
      have hS9 := (hb8.block sb (show sb < W.heap.size from (Array.getElem?_eq_some_iff.1 hS2).1)).trans (show W.drew.heap[sb]? = _ from hS2)
      have hG9 : w.grownBy w8 (some sb) := grownBy_trans hGV (grownBy_trans (grownBy_drew _ _) (grownBy_below hb8 _))
      clear hS2 hGV y0 y1 s0 f0 s1 f1 s2 f2 s3 f3 s4 f4 s5 f5 s6 f6 s7 f7 hb8
      have hS2 := hS9
      have hGV := hG9
      have y0 := q0
      have y1 := q1
      clear hS9 hG9 q0 q1 q2 q3
      cases ho
      · skip
        have s0 : w8.cell? ⟨sb, 0, none⟩ = some (.int .i64 ln) := cell_of_row _ sb 0 _ _ _ hS2
        have f0 : w8.frozen? ⟨sb, 0, none⟩ = false := frozen_of_row _ sb 0 _ _ hS2
        have s1 : w8.cell? ⟨sb, 1, none⟩ = some (.int .i64 ld) := cell_of_row _ sb 1 _ _ _ hS2
        have f1 : w8.frozen? ⟨sb, 1, none⟩ = false := frozen_of_row _ sb 1 _ _ hS2
        have s2 : w8.cell? ⟨sb, 2, none⟩ = some (.int .i64 hn) := cell_of_row _ sb 2 _ _ _ hS2
        have f2 : w8.frozen? ⟨sb, 2, none⟩ = false := frozen_of_row _ sb 2 _ _ hS2
        have s3 : w8.cell? ⟨sb, 3, none⟩ = some (.int .i64 hd) := cell_of_row _ sb 3 _ _ _ hS2
        have f3 : w8.frozen? ⟨sb, 3, none⟩ = false := frozen_of_row _ sb 3 _ _ hS2
        have s4 : w8.cell? ⟨sb, 4, none⟩ = some (.bool lo) := cell_of_row _ sb 4 _ _ _ hS2
        have f4 : w8.frozen? ⟨sb, 4, none⟩ = false := frozen_of_row _ sb 4 _ _ hS2
        have s5 : w8.cell? ⟨sb, 5, none⟩ = some (.bool false) := cell_of_row _ sb 5 _ _ _ hS2
        have f5 : w8.frozen? ⟨sb, 5, none⟩ = false := frozen_of_row _ sb 5 _ _ hS2
        have s6 : w8.cell? ⟨sb, 6, none⟩ = some (.bool false) := cell_of_row _ sb 6 _ _ _ hS2
        have f6 : w8.frozen? ⟨sb, 6, none⟩ = false := frozen_of_row _ sb 6 _ _ hS2
        have s7 : w8.cell? ⟨sb, 7, none⟩ = some (.bool wd) := cell_of_row _ sb 7 _ _ _ hS2
        have f7 : w8.frozen? ⟨sb, 7, none⟩ = false := frozen_of_row _ sb 7 _ _ hS2
        go_wp2_with fail
        first
          | go_end0
          | refine bodyPost_ret (results_none rfl _ _ _) rfl ?_
        have k0 := heap_setCell_same _ sb 5 _ _ (.bool (spS l)) hS2
        exact ⟨rfl, by rw [HR.out]; exact k0, (grown_set hGV)⟩
      · skip
        have s0 : w8.cell? ⟨sb, 0, none⟩ = some (.int .i64 ln) := cell_of_row _ sb 0 _ _ _ hS2
        have f0 : w8.frozen? ⟨sb, 0, none⟩ = false := frozen_of_row _ sb 0 _ _ hS2
        have s1 : w8.cell? ⟨sb, 1, none⟩ = some (.int .i64 ld) := cell_of_row _ sb 1 _ _ _ hS2
        have f1 : w8.frozen? ⟨sb, 1, none⟩ = false := frozen_of_row _ sb 1 _ _ hS2
        have s2 : w8.cell? ⟨sb, 2, none⟩ = some (.int .i64 hn) := cell_of_row _ sb 2 _ _ _ hS2
        have f2 : w8.frozen? ⟨sb, 2, none⟩ = false := frozen_of_row _ sb 2 _ _ hS2
        have s3 : w8.cell? ⟨sb, 3, none⟩ = some (.int .i64 hd) := cell_of_row _ sb 3 _ _ _ hS2
        have f3 : w8.frozen? ⟨sb, 3, none⟩ = false := frozen_of_row _ sb 3 _ _ hS2
        have s4 : w8.cell? ⟨sb, 4, none⟩ = some (.bool lo) := cell_of_row _ sb 4 _ _ _ hS2
        have f4 : w8.frozen? ⟨sb, 4, none⟩ = false := frozen_of_row _ sb 4 _ _ hS2
        have s5 : w8.cell? ⟨sb, 5, none⟩ = some (.bool true) := cell_of_row _ sb 5 _ _ _ hS2
        have f5 : w8.frozen? ⟨sb, 5, none⟩ = false := frozen_of_row _ sb 5 _ _ hS2
        have s6 : w8.cell? ⟨sb, 6, none⟩ = some (.bool false) := cell_of_row _ sb 6 _ _ _ hS2
        have f6 : w8.frozen? ⟨sb, 6, none⟩ = false := frozen_of_row _ sb 6 _ _ hS2
        have s7 : w8.cell? ⟨sb, 7, none⟩ = some (.bool wd) := cell_of_row _ sb 7 _ _ _ hS2
        have f7 : w8.frozen? ⟨sb, 7, none⟩ = false := frozen_of_row _ sb 7 _ _ hS2
        go_wp2_with fail
        first
          | go_end0
          | refine bodyPost_ret (results_none rfl _ _ _) rfl ?_
        have k0 := heap_setCell_same _ sb 5 _ _ (.bool true) hS2
        exact ⟨rfl, by rw [HR.out]; exact k0, (grown_set hGV)⟩
    · have HR := Lib.hid (HFF.out.trans ((if_neg (by simp)).trans ((if_neg (by omega)).trans (if_neg (by omega)))))
      go_wp2_with fail
      go_region_held3 (fun w' => w'.cell? ⟨w2.heap.size, 0, none⟩ = some (.int .i64 yn) ∧ w'.cell? ⟨w2.heap.size, 1, none⟩ = some (.int .i64 yd) ∧ w'.cell? ⟨sb, 2, none⟩ = some (.int .i64 hn) ∧ w'.cell? ⟨sb, 3, none⟩ = some (.int .i64 hd))
        (first | exact ⟨by assumption, by assumption, by assumption, by assumption⟩ | go_keep)
        (first
          | (go_at_call 89; refine (pr_cmp yn yd hn hd _ hYi hh).mono ?_; rw [← HK.out]; rintro e w8 ⟨rfl, hb8⟩; have q0 := keepb (show W.drew.cell? ⟨w2.heap.size, 0, none⟩ = _ from y0) hb8; have q1 := keepb (show W.drew.cell? ⟨w2.heap.size, 1, none⟩ = _ from y1) hb8; have q2 := keepb (show W.drew.cell? ⟨sb, 2, none⟩ = _ from s2) hb8; have q3 := keepb (show W.drew.cell? ⟨sb, 3, none⟩ = _ from s3) hb8))
      have hS9 := (hb8.block sb (show sb < W.heap.size from (Array.getElem?_eq_some_iff.1 hS2).1)).trans (show W.drew.heap[sb]? = _ from hS2)
      have hG9 : w.grownBy w8 (some sb) := grownBy_trans hGV (grownBy_trans (grownBy_drew _ _) (grownBy_below hb8 _))
      clear hS2 hGV y0 y1 s0 f0 s1 f1 s2 f2 s3 f3 s4 f4 s5 f5 s6 f6 s7 f7 hb8
      have hS2 := hS9
      have hGV := hG9
      have y0 := q0
      have y1 := q1
      clear hS9 hG9 q0 q1 q2 q3
      have s0 : w8.cell? ⟨sb, 0, none⟩ = some (.int .i64 ln) := cell_of_row _ sb 0 _ _ _ hS2
      have f0 : w8.frozen? ⟨sb, 0, none⟩ = false := frozen_of_row _ sb 0 _ _ hS2
      have s1 : w8.cell? ⟨sb, 1, none⟩ = some (.int .i64 ld) := cell_of_row _ sb 1 _ _ _ hS2
      have f1 : w8.frozen? ⟨sb, 1, none⟩ = false := frozen_of_row _ sb 1 _ _ hS2
      have s2 : w8.cell? ⟨sb, 2, none⟩ = some (.int .i64 hn) := cell_of_row _ sb 2 _ _ _ hS2
      have f2 : w8.frozen? ⟨sb, 2, none⟩ = false := frozen_of_row _ sb 2 _ _ hS2
      have s3 : w8.cell? ⟨sb, 3, none⟩ = some (.int .i64 hd) := cell_of_row _ sb 3 _ _ _ hS2
      have f3 : w8.frozen? ⟨sb, 3, none⟩ = false := frozen_of_row _ sb 3 _ _ hS2
      have s4 : w8.cell? ⟨sb, 4, none⟩ = some (.bool lo) := cell_of_row _ sb 4 _ _ _ hS2
      have f4 : w8.frozen? ⟨sb, 4, none⟩ = false := frozen_of_row _ sb 4 _ _ hS2
      have s5 : w8.cell? ⟨sb, 5, none⟩ = some (.bool ho) := cell_of_row _ sb 5 _ _ _ hS2
      have f5 : w8.frozen? ⟨sb, 5, none⟩ = false := frozen_of_row _ sb 5 _ _ hS2
      have s6 : w8.cell? ⟨sb, 6, none⟩ = some (.bool false) := cell_of_row _ sb 6 _ _ _ hS2
      have f6 : w8.frozen? ⟨sb, 6, none⟩ = false := frozen_of_row _ sb 6 _ _ hS2
      have s7 : w8.cell? ⟨sb, 7, none⟩ = some (.bool wd) := cell_of_row _ sb 7 _ _ _ hS2
      have f7 : w8.frozen? ⟨sb, 7, none⟩ = false := frozen_of_row _ sb 7 _ _ hS2
      go_wp2_with fail
      first
        | go_end0
        | refine bodyPost_ret (results_none rfl _ _ _) rfl ?_
      exact ⟨rfl, by rw [HR.out]; exact hS2, hGV⟩
  · skip
    have HA := Lib.hid (show cutY xn xd l true = addR xn xd (- spC l) 1 from rfl)
    clear hs
    go_enter Try.func88, Try.ntmps88
    go_wp2_with (go_at_call 132; refine (prog_split _ _).mono ?_; rintro e w9 ⟨rfl, rfl⟩)
    refine (pr_add xn xd (- spC l) 1 _ hx ⟨by omega, by omega⟩).mono ?_
    rw [← HA.out]
    have HYi := Lib.hid (show (cutY xn xd l true).2 = 0 → I64 (cutY xn xd l true).1.1 from fun he => by
      rw [HA.out] at he ⊢
      unfold addR at he ⊢
      split at he
      · rename_i hv
        rw [if_pos hv]
        exact mk_i64 (d := xd * 1) (by have := vr_bd hv.1; omega) rfl he
      · cases he)
    generalize hY : cutY xn xd l true = Y at HYi
    have HY := Lib.hid hY
    clear hY HA
    obtain ⟨⟨yn, yd⟩, ye⟩ := Y
    simp only at HYi
    rintro e w2 ⟨he, hb2⟩
    obtain rfl : e = .returned (.tuple #[.agg #[.int .i64 yn, .int .i64 yd], .int .i64 ye]) := he
    have hbx := bal hb2 (.cells #[.int .i64 yn, .int .i64 yd] 48)
    have hS2 := (hbx.block sb (by have := hloc0.size; simp at *; omega)).trans ((heap_alloc_old w (.cells #[.int .i64 xn, .int .i64 xd] 48) hsb).trans Hs.out)
    have y0 := cell_of_row _ w2.heap.size 0 _ _ _ (heap_alloc_new w2 (.cells #[.int .i64 yn, .int .i64 yd] 48))
    have y1 := cell_of_row _ w2.heap.size 1 _ _ _ (heap_alloc_new w2 (.cells #[.int .i64 yn, .int .i64 yd] 48))
    have hGV := grownBy_trans (World.grownBy_alloc w (.cells #[.int .i64 xn, .int .i64 xd] 48) (some sb)) (grownBy_below hbx (some sb))
    have hyb : w2.heap.size ≠ sb := by have := hb2.size; simp at this; omega
    clear hb2 hbx
    by_cases he : ye = 0
    rotate_left
    · have heb : (ye != 0) = true := by simpa using he
      have HR := Lib.hid (show cutF ⟨ln, ld, hn, hd, lo, ho, nh, wd⟩ xn xd l true = ⟨ln, ld, hn, hd, lo, ho, nh, true⟩ by unfold cutF; rw [if_neg (by simp [hE]), if_pos (by rw [HY.out]; exact he)])
      clear he
      go_upto_region 7 with fail
      generalize w2.alloc (.cells #[.int .i64 yn, .int .i64 yd] 48) = V at *
      have s0 : V.cell? ⟨sb, 0, none⟩ = some (.int .i64 ln) := cell_of_row _ sb 0 _ _ _ hS2
      have f0 : V.frozen? ⟨sb, 0, none⟩ = false := frozen_of_row _ sb 0 _ _ hS2
      have s1 : V.cell? ⟨sb, 1, none⟩ = some (.int .i64 ld) := cell_of_row _ sb 1 _ _ _ hS2
      have f1 : V.frozen? ⟨sb, 1, none⟩ = false := frozen_of_row _ sb 1 _ _ hS2
      have s2 : V.cell? ⟨sb, 2, none⟩ = some (.int .i64 hn) := cell_of_row _ sb 2 _ _ _ hS2
      have f2 : V.frozen? ⟨sb, 2, none⟩ = false := frozen_of_row _ sb 2 _ _ hS2
      have s3 : V.cell? ⟨sb, 3, none⟩ = some (.int .i64 hd) := cell_of_row _ sb 3 _ _ _ hS2
      have f3 : V.frozen? ⟨sb, 3, none⟩ = false := frozen_of_row _ sb 3 _ _ hS2
      have s4 : V.cell? ⟨sb, 4, none⟩ = some (.bool lo) := cell_of_row _ sb 4 _ _ _ hS2
      have f4 : V.frozen? ⟨sb, 4, none⟩ = false := frozen_of_row _ sb 4 _ _ hS2
      have s5 : V.cell? ⟨sb, 5, none⟩ = some (.bool ho) := cell_of_row _ sb 5 _ _ _ hS2
      have f5 : V.frozen? ⟨sb, 5, none⟩ = false := frozen_of_row _ sb 5 _ _ hS2
      have s6 : V.cell? ⟨sb, 6, none⟩ = some (.bool nh) := cell_of_row _ sb 6 _ _ _ hS2
      have f6 : V.frozen? ⟨sb, 6, none⟩ = false := frozen_of_row _ sb 6 _ _ hS2
      have s7 : V.cell? ⟨sb, 7, none⟩ = some (.bool wd) := cell_of_row _ sb 7 _ _ _ hS2
      have f7 : V.frozen? ⟨sb, 7, none⟩ = false := frozen_of_row _ sb 7 _ _ hS2
      go_wp2_with fail
      refine bodyPost_ret (results_none rfl _ _ _) rfl ?_
      refine ⟨rfl, ?_, grown_set hGV⟩
      rw [HR.out]
      exact heap_setCell_same _ sb 7 _ _ _ hS2
    obtain rfl : ye = 0 := he
    have hYi := HYi.out rfl
    have HFF := Lib.hid (show cutF ⟨ln, ld, hn, hd, lo, ho, nh, wd⟩ xn xd l true = if -(cmR yn yd ln ld).1 < 0 then ⟨yn, yd, hn, hd, spS l, ho, nh, wd⟩ else if -(cmR yn yd ln ld).1 = 0 then ⟨ln, ld, hn, hd, lo || spS l, ho, nh, wd⟩ else ⟨ln, ld, hn, hd, lo, ho, nh, wd⟩ by
      unfold cutF
      rw [if_neg (by simp [hE]), HY.out, if_neg (by simp), if_pos rfl])
    go_upto_region 8 with fail
    generalize w2.alloc (.cells #[.int .i64 yn, .int .i64 yd] 48) = V at *
    go_wp2_with fail
    go_quiet (fail)
    have hS3 : (V.drewN nq).heap[sb]? = _ := hS2
    have z0 : (V.drewN nq).cell? ⟨w2.heap.size, 0, none⟩ = some (.int .i64 yn) := y0
    have z1 : (V.drewN nq).cell? ⟨w2.heap.size, 1, none⟩ = some (.int .i64 yd) := y1
    have hG3 : w.grownBy (V.drewN nq) (some sb) := grownBy_trans hGV (grownBy_below (below_drewN _ _) _)
    clear hS2 y0 y1 hGV
    generalize V.drewN nq = V2 at *
    have hS2 := hS3
    have y0 := z0
    have y1 := z1
    have hGV := hG3
    clear hS3 z0 z1 hG3
    go_wp2_with fail
    go_quiet (fail)
    have hS3 : (V2.drewN nq).heap[sb]? = _ := hS2
    have z0 : (V2.drewN nq).cell? ⟨w2.heap.size, 0, none⟩ = some (.int .i64 yn) := y0
    have z1 : (V2.drewN nq).cell? ⟨w2.heap.size, 1, none⟩ = some (.int .i64 yd) := y1
    have hG3 : w.grownBy (V2.drewN nq) (some sb) := grownBy_trans hGV (grownBy_below (below_drewN _ _) _)
    clear hS2 y0 y1 hGV
    generalize V2.drewN nq = W at *
    have hS2 := hS3
    have y0 := z0
    have y1 := z1
    have hGV := hG3
    clear hS3 z0 z1 hG3
    have s0 : W.cell? ⟨sb, 0, none⟩ = some (.int .i64 ln) := cell_of_row _ sb 0 _ _ _ hS2
    have f0 : W.frozen? ⟨sb, 0, none⟩ = false := frozen_of_row _ sb 0 _ _ hS2
    have s1 : W.cell? ⟨sb, 1, none⟩ = some (.int .i64 ld) := cell_of_row _ sb 1 _ _ _ hS2
    have f1 : W.frozen? ⟨sb, 1, none⟩ = false := frozen_of_row _ sb 1 _ _ hS2
    have s2 : W.cell? ⟨sb, 2, none⟩ = some (.int .i64 hn) := cell_of_row _ sb 2 _ _ _ hS2
    have f2 : W.frozen? ⟨sb, 2, none⟩ = false := frozen_of_row _ sb 2 _ _ hS2
    have s3 : W.cell? ⟨sb, 3, none⟩ = some (.int .i64 hd) := cell_of_row _ sb 3 _ _ _ hS2
    have f3 : W.frozen? ⟨sb, 3, none⟩ = false := frozen_of_row _ sb 3 _ _ hS2
    have s4 : W.cell? ⟨sb, 4, none⟩ = some (.bool lo) := cell_of_row _ sb 4 _ _ _ hS2
    have f4 : W.frozen? ⟨sb, 4, none⟩ = false := frozen_of_row _ sb 4 _ _ hS2
    have s5 : W.cell? ⟨sb, 5, none⟩ = some (.bool ho) := cell_of_row _ sb 5 _ _ _ hS2
    have f5 : W.frozen? ⟨sb, 5, none⟩ = false := frozen_of_row _ sb 5 _ _ hS2
    have s6 : W.cell? ⟨sb, 6, none⟩ = some (.bool nh) := cell_of_row _ sb 6 _ _ _ hS2
    have f6 : W.frozen? ⟨sb, 6, none⟩ = false := frozen_of_row _ sb 6 _ _ hS2
    have s7 : W.cell? ⟨sb, 7, none⟩ = some (.bool wd) := cell_of_row _ sb 7 _ _ _ hS2
    have f7 : W.frozen? ⟨sb, 7, none⟩ = false := frozen_of_row _ sb 7 _ _ hS2
    obtain ⟨K, hK⟩ : ∃ K, K = cmR yn yd ln ld := ⟨_, rfl⟩
    have HK := Lib.hid hK
    have hkv := cmR_val yn yd ln ld
    rw [← hK] at HFF hkv
    clear hK
    obtain ⟨k, k2⟩ := K
    simp only at hkv
    rcases hkv with rfl | rfl | rfl
    · have HR := Lib.hid (HFF.out.trans ((if_neg (by simp)).trans (if_neg (by simp))))
      go_wp2_with fail
      go_region_held3 (fun w' => w'.cell? ⟨w2.heap.size, 0, none⟩ = some (.int .i64 yn) ∧ w'.cell? ⟨w2.heap.size, 1, none⟩ = some (.int .i64 yd) ∧ w'.cell? ⟨sb, 0, none⟩ = some (.int .i64 ln) ∧ w'.cell? ⟨sb, 1, none⟩ = some (.int .i64 ld))
        (first | exact ⟨by assumption, by assumption, by assumption, by assumption⟩ | go_keep)
        (first
          | (go_at_call 89; refine (pr_cmp yn yd ln ld _ hYi hl).mono ?_; rw [← HK.out]; rintro e w8 ⟨rfl, hb8⟩; have q0 := keepb (show W.drew.cell? ⟨w2.heap.size, 0, none⟩ = _ from y0) hb8; have q1 := keepb (show W.drew.cell? ⟨w2.heap.size, 1, none⟩ = _ from y1) hb8; have q2 := keepb (show W.drew.cell? ⟨sb, 0, none⟩ = _ from s0) hb8; have q3 := keepb (show W.drew.cell? ⟨sb, 1, none⟩ = _ from s1) hb8))
      have hS9 := (hb8.block sb (show sb < W.heap.size from (Array.getElem?_eq_some_iff.1 hS2).1)).trans (show W.drew.heap[sb]? = _ from hS2)
      have hG9 : w.grownBy w8 (some sb) := grownBy_trans hGV (grownBy_trans (grownBy_drew _ _) (grownBy_below hb8 _))
      clear hS2 hGV y0 y1 s0 f0 s1 f1 s2 f2 s3 f3 s4 f4 s5 f5 s6 f6 s7 f7 hb8
      have hS2 := hS9
      have hGV := hG9
      have y0 := q0
      have y1 := q1
      clear hS9 hG9 q0 q1 q2 q3
      have s0 : w8.cell? ⟨sb, 0, none⟩ = some (.int .i64 ln) := cell_of_row _ sb 0 _ _ _ hS2
      have f0 : w8.frozen? ⟨sb, 0, none⟩ = false := frozen_of_row _ sb 0 _ _ hS2
      have s1 : w8.cell? ⟨sb, 1, none⟩ = some (.int .i64 ld) := cell_of_row _ sb 1 _ _ _ hS2
      have f1 : w8.frozen? ⟨sb, 1, none⟩ = false := frozen_of_row _ sb 1 _ _ hS2
      have s2 : w8.cell? ⟨sb, 2, none⟩ = some (.int .i64 hn) := cell_of_row _ sb 2 _ _ _ hS2
      have f2 : w8.frozen? ⟨sb, 2, none⟩ = false := frozen_of_row _ sb 2 _ _ hS2
      have s3 : w8.cell? ⟨sb, 3, none⟩ = some (.int .i64 hd) := cell_of_row _ sb 3 _ _ _ hS2
      have f3 : w8.frozen? ⟨sb, 3, none⟩ = false := frozen_of_row _ sb 3 _ _ hS2
      have s4 : w8.cell? ⟨sb, 4, none⟩ = some (.bool lo) := cell_of_row _ sb 4 _ _ _ hS2
      have f4 : w8.frozen? ⟨sb, 4, none⟩ = false := frozen_of_row _ sb 4 _ _ hS2
      have s5 : w8.cell? ⟨sb, 5, none⟩ = some (.bool ho) := cell_of_row _ sb 5 _ _ _ hS2
      have f5 : w8.frozen? ⟨sb, 5, none⟩ = false := frozen_of_row _ sb 5 _ _ hS2
      have s6 : w8.cell? ⟨sb, 6, none⟩ = some (.bool nh) := cell_of_row _ sb 6 _ _ _ hS2
      have f6 : w8.frozen? ⟨sb, 6, none⟩ = false := frozen_of_row _ sb 6 _ _ hS2
      have s7 : w8.cell? ⟨sb, 7, none⟩ = some (.bool wd) := cell_of_row _ sb 7 _ _ _ hS2
      have f7 : w8.frozen? ⟨sb, 7, none⟩ = false := frozen_of_row _ sb 7 _ _ hS2
      go_wp2_with fail
      first
        | go_end0
        | refine bodyPost_ret (results_none rfl _ _ _) rfl ?_
      exact ⟨rfl, by rw [HR.out]; exact hS2, hGV⟩
    · have HR := Lib.hid (HFF.out.trans ((if_neg (by simp)).trans (if_pos (by simp))))
      go_wp2_with fail
      go_region_held3 (fun w' => w'.cell? ⟨w2.heap.size, 0, none⟩ = some (.int .i64 yn) ∧ w'.cell? ⟨w2.heap.size, 1, none⟩ = some (.int .i64 yd) ∧ w'.cell? ⟨sb, 0, none⟩ = some (.int .i64 ln) ∧ w'.cell? ⟨sb, 1, none⟩ = some (.int .i64 ld))
        (first | exact ⟨by assumption, by assumption, by assumption, by assumption⟩ | go_keep)
        (first
          | (go_at_call 89; refine (pr_cmp yn yd ln ld _ hYi hl).mono ?_; rw [← HK.out]; rintro e w8 ⟨rfl, hb8⟩; have q0 := keepb (show W.drew.cell? ⟨w2.heap.size, 0, none⟩ = _ from y0) hb8; have q1 := keepb (show W.drew.cell? ⟨w2.heap.size, 1, none⟩ = _ from y1) hb8; have q2 := keepb (show W.drew.cell? ⟨sb, 0, none⟩ = _ from s0) hb8; have q3 := keepb (show W.drew.cell? ⟨sb, 1, none⟩ = _ from s1) hb8))
      have hS9 := (hb8.block sb (show sb < W.heap.size from (Array.getElem?_eq_some_iff.1 hS2).1)).trans (show W.drew.heap[sb]? = _ from hS2)
      have hG9 : w.grownBy w8 (some sb) := grownBy_trans hGV (grownBy_trans (grownBy_drew _ _) (grownBy_below hb8 _))
      clear hS2 hGV y0 y1 s0 f0 s1 f1 s2 f2 s3 f3 s4 f4 s5 f5 s6 f6 s7 f7 hb8
      have hS2 := hS9
      have hGV := hG9
      have y0 := q0
      have y1 := q1
      clear hS9 hG9 q0 q1 q2 q3
      cases lo
      · skip
        have s0 : w8.cell? ⟨sb, 0, none⟩ = some (.int .i64 ln) := cell_of_row _ sb 0 _ _ _ hS2
        have f0 : w8.frozen? ⟨sb, 0, none⟩ = false := frozen_of_row _ sb 0 _ _ hS2
        have s1 : w8.cell? ⟨sb, 1, none⟩ = some (.int .i64 ld) := cell_of_row _ sb 1 _ _ _ hS2
        have f1 : w8.frozen? ⟨sb, 1, none⟩ = false := frozen_of_row _ sb 1 _ _ hS2
        have s2 : w8.cell? ⟨sb, 2, none⟩ = some (.int .i64 hn) := cell_of_row _ sb 2 _ _ _ hS2
        have f2 : w8.frozen? ⟨sb, 2, none⟩ = false := frozen_of_row _ sb 2 _ _ hS2
        have s3 : w8.cell? ⟨sb, 3, none⟩ = some (.int .i64 hd) := cell_of_row _ sb 3 _ _ _ hS2
        have f3 : w8.frozen? ⟨sb, 3, none⟩ = false := frozen_of_row _ sb 3 _ _ hS2
        have s4 : w8.cell? ⟨sb, 4, none⟩ = some (.bool false) := cell_of_row _ sb 4 _ _ _ hS2
        have f4 : w8.frozen? ⟨sb, 4, none⟩ = false := frozen_of_row _ sb 4 _ _ hS2
        have s5 : w8.cell? ⟨sb, 5, none⟩ = some (.bool ho) := cell_of_row _ sb 5 _ _ _ hS2
        have f5 : w8.frozen? ⟨sb, 5, none⟩ = false := frozen_of_row _ sb 5 _ _ hS2
        have s6 : w8.cell? ⟨sb, 6, none⟩ = some (.bool nh) := cell_of_row _ sb 6 _ _ _ hS2
        have f6 : w8.frozen? ⟨sb, 6, none⟩ = false := frozen_of_row _ sb 6 _ _ hS2
        have s7 : w8.cell? ⟨sb, 7, none⟩ = some (.bool wd) := cell_of_row _ sb 7 _ _ _ hS2
        have f7 : w8.frozen? ⟨sb, 7, none⟩ = false := frozen_of_row _ sb 7 _ _ hS2
        go_wp2_with fail
        first
          | go_end0
          | refine bodyPost_ret (results_none rfl _ _ _) rfl ?_
        have k0 := heap_setCell_same _ sb 4 _ _ (.bool (spS l)) hS2
        exact ⟨rfl, by rw [HR.out]; exact k0, (grown_set hGV)⟩
      · skip
        have s0 : w8.cell? ⟨sb, 0, none⟩ = some (.int .i64 ln) := cell_of_row _ sb 0 _ _ _ hS2
        have f0 : w8.frozen? ⟨sb, 0, none⟩ = false := frozen_of_row _ sb 0 _ _ hS2
        have s1 : w8.cell? ⟨sb, 1, none⟩ = some (.int .i64 ld) := cell_of_row _ sb 1 _ _ _ hS2
        have f1 : w8.frozen? ⟨sb, 1, none⟩ = false := frozen_of_row _ sb 1 _ _ hS2
        have s2 : w8.cell? ⟨sb, 2, none⟩ = some (.int .i64 hn) := cell_of_row _ sb 2 _ _ _ hS2
        have f2 : w8.frozen? ⟨sb, 2, none⟩ = false := frozen_of_row _ sb 2 _ _ hS2
        have s3 : w8.cell? ⟨sb, 3, none⟩ = some (.int .i64 hd) := cell_of_row _ sb 3 _ _ _ hS2
        have f3 : w8.frozen? ⟨sb, 3, none⟩ = false := frozen_of_row _ sb 3 _ _ hS2
        have s4 : w8.cell? ⟨sb, 4, none⟩ = some (.bool true) := cell_of_row _ sb 4 _ _ _ hS2
        have f4 : w8.frozen? ⟨sb, 4, none⟩ = false := frozen_of_row _ sb 4 _ _ hS2
        have s5 : w8.cell? ⟨sb, 5, none⟩ = some (.bool ho) := cell_of_row _ sb 5 _ _ _ hS2
        have f5 : w8.frozen? ⟨sb, 5, none⟩ = false := frozen_of_row _ sb 5 _ _ hS2
        have s6 : w8.cell? ⟨sb, 6, none⟩ = some (.bool nh) := cell_of_row _ sb 6 _ _ _ hS2
        have f6 : w8.frozen? ⟨sb, 6, none⟩ = false := frozen_of_row _ sb 6 _ _ hS2
        have s7 : w8.cell? ⟨sb, 7, none⟩ = some (.bool wd) := cell_of_row _ sb 7 _ _ _ hS2
        have f7 : w8.frozen? ⟨sb, 7, none⟩ = false := frozen_of_row _ sb 7 _ _ hS2
        go_wp2_with fail
        first
          | go_end0
          | refine bodyPost_ret (results_none rfl _ _ _) rfl ?_
        have k0 := heap_setCell_same _ sb 4 _ _ (.bool true) hS2
        exact ⟨rfl, by rw [HR.out]; exact k0, (grown_set hGV)⟩
    · have HR := Lib.hid (HFF.out.trans (if_pos (by simp)))
      go_wp2_with fail
      go_region_held3 (fun w' => w'.cell? ⟨w2.heap.size, 0, none⟩ = some (.int .i64 yn) ∧ w'.cell? ⟨w2.heap.size, 1, none⟩ = some (.int .i64 yd) ∧ w'.cell? ⟨sb, 0, none⟩ = some (.int .i64 ln) ∧ w'.cell? ⟨sb, 1, none⟩ = some (.int .i64 ld))
        (first | exact ⟨by assumption, by assumption, by assumption, by assumption⟩ | go_keep)
        (first
          | (go_at_call 89; refine (pr_cmp yn yd ln ld _ hYi hl).mono ?_; rw [← HK.out]; rintro e w8 ⟨rfl, hb8⟩; have q0 := keepb (show W.drew.cell? ⟨w2.heap.size, 0, none⟩ = _ from y0) hb8; have q1 := keepb (show W.drew.cell? ⟨w2.heap.size, 1, none⟩ = _ from y1) hb8; have q2 := keepb (show W.drew.cell? ⟨sb, 0, none⟩ = _ from s0) hb8; have q3 := keepb (show W.drew.cell? ⟨sb, 1, none⟩ = _ from s1) hb8))
      have hS9 := (hb8.block sb (show sb < W.heap.size from (Array.getElem?_eq_some_iff.1 hS2).1)).trans (show W.drew.heap[sb]? = _ from hS2)
      have hG9 : w.grownBy w8 (some sb) := grownBy_trans hGV (grownBy_trans (grownBy_drew _ _) (grownBy_below hb8 _))
      clear hS2 hGV y0 y1 s0 f0 s1 f1 s2 f2 s3 f3 s4 f4 s5 f5 s6 f6 s7 f7 hb8
      have hS2 := hS9
      have hGV := hG9
      have y0 := q0
      have y1 := q1
      clear hS9 hG9 q0 q1 q2 q3
      cases nh
      · skip
        have s0 : w8.cell? ⟨sb, 0, none⟩ = some (.int .i64 ln) := cell_of_row _ sb 0 _ _ _ hS2
        have f0 : w8.frozen? ⟨sb, 0, none⟩ = false := frozen_of_row _ sb 0 _ _ hS2
        have s1 : w8.cell? ⟨sb, 1, none⟩ = some (.int .i64 ld) := cell_of_row _ sb 1 _ _ _ hS2
        have f1 : w8.frozen? ⟨sb, 1, none⟩ = false := frozen_of_row _ sb 1 _ _ hS2
        have s2 : w8.cell? ⟨sb, 2, none⟩ = some (.int .i64 hn) := cell_of_row _ sb 2 _ _ _ hS2
        have f2 : w8.frozen? ⟨sb, 2, none⟩ = false := frozen_of_row _ sb 2 _ _ hS2
        have s3 : w8.cell? ⟨sb, 3, none⟩ = some (.int .i64 hd) := cell_of_row _ sb 3 _ _ _ hS2
        have f3 : w8.frozen? ⟨sb, 3, none⟩ = false := frozen_of_row _ sb 3 _ _ hS2
        have s4 : w8.cell? ⟨sb, 4, none⟩ = some (.bool lo) := cell_of_row _ sb 4 _ _ _ hS2
        have f4 : w8.frozen? ⟨sb, 4, none⟩ = false := frozen_of_row _ sb 4 _ _ hS2
        have s5 : w8.cell? ⟨sb, 5, none⟩ = some (.bool ho) := cell_of_row _ sb 5 _ _ _ hS2
        have f5 : w8.frozen? ⟨sb, 5, none⟩ = false := frozen_of_row _ sb 5 _ _ hS2
        have s6 : w8.cell? ⟨sb, 6, none⟩ = some (.bool false) := cell_of_row _ sb 6 _ _ _ hS2
        have f6 : w8.frozen? ⟨sb, 6, none⟩ = false := frozen_of_row _ sb 6 _ _ hS2
        have s7 : w8.cell? ⟨sb, 7, none⟩ = some (.bool wd) := cell_of_row _ sb 7 _ _ _ hS2
        have f7 : w8.frozen? ⟨sb, 7, none⟩ = false := frozen_of_row _ sb 7 _ _ hS2
        go_wp2_with fail
        first
          | go_end0
          | refine bodyPost_ret (results_none rfl _ _ _) rfl ?_
        have k0 := heap_setCell_same _ sb 0 _ _ (.int .i64 yn) hS2
        have k1 := heap_setCell_same _ sb 1 _ _ (.int .i64 yd) k0
        have k2 := heap_setCell_same _ sb 4 _ _ (.bool (spS l)) k1
        have k3 := heap_setCell_same _ sb 6 _ _ (.bool false) k2
        exact ⟨rfl, by rw [HR.out]; exact k3, (grown_set (grown_set (grown_set (grown_set hGV))))⟩
      · skip
        have s0 : w8.cell? ⟨sb, 0, none⟩ = some (.int .i64 ln) := cell_of_row _ sb 0 _ _ _ hS2
        have f0 : w8.frozen? ⟨sb, 0, none⟩ = false := frozen_of_row _ sb 0 _ _ hS2
        have s1 : w8.cell? ⟨sb, 1, none⟩ = some (.int .i64 ld) := cell_of_row _ sb 1 _ _ _ hS2
        have f1 : w8.frozen? ⟨sb, 1, none⟩ = false := frozen_of_row _ sb 1 _ _ hS2
        have s2 : w8.cell? ⟨sb, 2, none⟩ = some (.int .i64 hn) := cell_of_row _ sb 2 _ _ _ hS2
        have f2 : w8.frozen? ⟨sb, 2, none⟩ = false := frozen_of_row _ sb 2 _ _ hS2
        have s3 : w8.cell? ⟨sb, 3, none⟩ = some (.int .i64 hd) := cell_of_row _ sb 3 _ _ _ hS2
        have f3 : w8.frozen? ⟨sb, 3, none⟩ = false := frozen_of_row _ sb 3 _ _ hS2
        have s4 : w8.cell? ⟨sb, 4, none⟩ = some (.bool lo) := cell_of_row _ sb 4 _ _ _ hS2
        have f4 : w8.frozen? ⟨sb, 4, none⟩ = false := frozen_of_row _ sb 4 _ _ hS2
        have s5 : w8.cell? ⟨sb, 5, none⟩ = some (.bool ho) := cell_of_row _ sb 5 _ _ _ hS2
        have f5 : w8.frozen? ⟨sb, 5, none⟩ = false := frozen_of_row _ sb 5 _ _ hS2
        have s6 : w8.cell? ⟨sb, 6, none⟩ = some (.bool true) := cell_of_row _ sb 6 _ _ _ hS2
        have f6 : w8.frozen? ⟨sb, 6, none⟩ = false := frozen_of_row _ sb 6 _ _ hS2
        have s7 : w8.cell? ⟨sb, 7, none⟩ = some (.bool wd) := cell_of_row _ sb 7 _ _ _ hS2
        have f7 : w8.frozen? ⟨sb, 7, none⟩ = false := frozen_of_row _ sb 7 _ _ hS2
        go_wp2_with fail
        first
          | go_end0
          | refine bodyPost_ret (results_none rfl _ _ _) rfl ?_
        have k0 := heap_setCell_same _ sb 0 _ _ (.int .i64 yn) hS2
        have k1 := heap_setCell_same _ sb 1 _ _ (.int .i64 yd) k0
        have k2 := heap_setCell_same _ sb 4 _ _ (.bool (spS l)) k1
        have k3 := heap_setCell_same _ sb 6 _ _ (.bool true) k2
        exact ⟨rfl, by rw [HR.out]; exact k3, (grown_set (grown_set (grown_set (grown_set hGV))))⟩
end Go.Proofs.Ytkgaipcgdldfdaa
