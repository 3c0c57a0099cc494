/- The program's Meet and Hull. The reference's Meet and Hull. The program's Includes. -/
import Derived.Test.YtkgaipcgdldfdaaJoi2
import Derived.Test.YtkgaipcgdldfdaaInc
import Derived.Test.YtkgaipcgdldfdaaZref4
import Derived.Test.YtkgaipcgdldfdaaZprog
import Derived.BigQuiet
namespace Go.Proofs.Ytkgaipcgdldfdaa
open Go.RowKit
set_option linter.unusedVariables false

def jmax (a b : Int) : Int := if a < b then b else a
theorem jmax_vld {a b : Int} (h : vld a = true) (h' : vld b = true) : vld (jmax a b) = true := by
  unfold jmax; split <;> assumption
theorem meet_f (a b : Int) (w : World) : Calls Try.prog 119 #[.int .i64 a, .int .i64 b] w fun e w' => e = .returned (.int .i64 (imin a b)) ∧ w' = w := by
  have hmin := imin_fold
  go_enter Try.func119, Try.ntmps119
  go_wp2_with fail
  go_ret
  exact ⟨rfl, rfl⟩
theorem hull_f (a b : Int) (w : World) : Calls Try.prog 120 #[.int .i64 a, .int .i64 b] w fun e w' => e = .returned (.int .i64 (jmax a b)) ∧ w' = w := by
  have hmax : ∀ x y : Int, (if x < y then y else x) = jmax x y := fun _ _ => rfl
  go_enter Try.func120, Try.ntmps120
  go_wp2_with fail
  go_ret
  exact ⟨rfl, rfl⟩
theorem enters_meet : Enters Try.prog 119 := enters_of Try.func119 (by kernel_rfl) rfl
set_option maxRecDepth 100000 in
set_option maxHeartbeats 2000000 in
theorem prog_meet (n n2 : Int) (zv bv : Value) (xs ys : List Int) (w : World) (hz : RL w.heap.size w zv xs) (hb : RL w.heap.size w bv ys) :
    Calls Try.prog 57 #[.agg #[.int .i64 n, zv], .agg #[.int .i64 n2, bv]] w fun e w' => ZPost 60 w.heap.size n (joinF imin n xs n2 ys) e w' ∧ Below w.heap.size w w' := by
  obtain ⟨aoz, capz, rfl, hlez, _⟩ := hz.open
  obtain ⟨aob, capb, rfl, hleb, _⟩ := hb.open
  have hloc : Loc w (((w.alloc (.cells #[.int .i64 n, .slice aoz xs.length capz] 24)).alloc (.cells #[.int .i64 n2, .slice aob ys.length capb] 24)).alloc (.cells #[.int .i64 0, .slice none 0 0] 24)) none [.cells #[.int .i64 n, .slice aoz xs.length capz] 24, .cells #[.int .i64 n2, .slice aob ys.length capb] 24, .cells #[.int .i64 0, .slice none 0 0] 24] := Loc.three w _ _ _ _
  have Hz := Lib.hid (hz.keepb (below_grownBy hloc.grown))
  have Hb := Lib.hid (hb.keepb (below_grownBy hloc.grown))
  clear hz hb
  go_enter Try.func57, Try.ntmps57
  go_wp2_with fail
  refine (prog_joined imin _ n n2 _ _ xs ys _ Hz.out Hb.out enters_meet meet_f (fun _ _ h h' => imin_vld h h')).mono ?_
  generalize hR : joinF imin n xs n2 ys = R
  have HR := Lib.hid hR
  clear hR
  rintro e w5 ⟨⟨v5, rfl, ho5⟩, hb5⟩
  obtain ⟨ao5, cap5, rfl⟩ := owns_form ho5
  have hloc5 := hloc.next (grownBy_below hb5 none) (fun _ h => by cases h)
  have r0 : w5.cell? ⟨w.heap.size + 1 + 1, 0, none⟩ = some (.int .i64 0) := hloc5.cell 2 rfl 0
  have r1 : w5.cell? ⟨w.heap.size + 1 + 1, 1, none⟩ = some (.slice none 0 0) := hloc5.cell 2 rfl 1
  have r2 : w5.frozen? ⟨w.heap.size + 1 + 1, 0, none⟩ = false := hloc5.free 2 rfl 0
  have r3 : w5.frozen? ⟨w.heap.size + 1 + 1, 1, none⟩ = false := hloc5.free 2 rfl 1
  have Ho5 := Lib.hid (show OL 60 (w.heap.size + 3) w5 (.slice ao5 R.2.length cap5) R.2 from OL.mono ho5 (by simp))
  have HB5 := Lib.hid (below_grownBy hloc5.grown)
  clear ho5 hb5 hloc hloc5
  go_wp2_with fail
  refine bodyPost_ret (v := .tuple #[.agg #[.int .i64 (zdim R n), .slice ao5 R.2.length cap5], .int .i64 R.1]) (by simp [results, Try.results57, go_sem, r0, r1]) rfl ⟨⟨_, by rw [HR.out], ?_⟩, ?_⟩
  · rw [HR.out]; exact OL.mono (base := w.heap.size + 3) (own_set2 Ho5.out (by omega) _ _) (by omega)
  · exact (HB5.out.setCell (by show w.heap.size ≤ w.heap.size + 1 + 1; omega) _).setCell (by show w.heap.size ≤ w.heap.size + 1 + 1; omega) _
theorem enters_hull : Enters Try.prog 120 := enters_of Try.func120 (by kernel_rfl) rfl
set_option maxRecDepth 100000 in
set_option maxHeartbeats 2000000 in
theorem prog_hull (n n2 : Int) (zv bv : Value) (xs ys : List Int) (w : World) (hz : RL w.heap.size w zv xs) (hb : RL w.heap.size w bv ys) :
    Calls Try.prog 59 #[.agg #[.int .i64 n, zv], .agg #[.int .i64 n2, bv]] w fun e w' => ZPost 60 w.heap.size n (joinF jmax n xs n2 ys) e w' ∧ Below w.heap.size w w' := by
  obtain ⟨aoz, capz, rfl, hlez, _⟩ := hz.open
  obtain ⟨aob, capb, rfl, hleb, _⟩ := hb.open
  have hloc : Loc w (((w.alloc (.cells #[.int .i64 n, .slice aoz xs.length capz] 24)).alloc (.cells #[.int .i64 n2, .slice aob ys.length capb] 24)).alloc (.cells #[.int .i64 0, .slice none 0 0] 24)) none [.cells #[.int .i64 n, .slice aoz xs.length capz] 24, .cells #[.int .i64 n2, .slice aob ys.length capb] 24, .cells #[.int .i64 0, .slice none 0 0] 24] := Loc.three w _ _ _ _
  have Hz := Lib.hid (hz.keepb (below_grownBy hloc.grown))
  have Hb := Lib.hid (hb.keepb (below_grownBy hloc.grown))
  clear hz hb
  go_enter Try.func59, Try.ntmps59
  go_wp2_with fail
  refine (prog_joined jmax _ n n2 _ _ xs ys _ Hz.out Hb.out enters_hull hull_f (fun _ _ h h' => jmax_vld h h')).mono ?_
  generalize hR : joinF jmax n xs n2 ys = R
  have HR := Lib.hid hR
  clear hR
  rintro e w5 ⟨⟨v5, rfl, ho5⟩, hb5⟩
  obtain ⟨ao5, cap5, rfl⟩ := owns_form ho5
  have hloc5 := hloc.next (grownBy_below hb5 none) (fun _ h => by cases h)
  have r0 : w5.cell? ⟨w.heap.size + 1 + 1, 0, none⟩ = some (.int .i64 0) := hloc5.cell 2 rfl 0
  have r1 : w5.cell? ⟨w.heap.size + 1 + 1, 1, none⟩ = some (.slice none 0 0) := hloc5.cell 2 rfl 1
  have r2 : w5.frozen? ⟨w.heap.size + 1 + 1, 0, none⟩ = false := hloc5.free 2 rfl 0
  have r3 : w5.frozen? ⟨w.heap.size + 1 + 1, 1, none⟩ = false := hloc5.free 2 rfl 1
  have Ho5 := Lib.hid (show OL 60 (w.heap.size + 3) w5 (.slice ao5 R.2.length cap5) R.2 from OL.mono ho5 (by simp))
  have HB5 := Lib.hid (below_grownBy hloc5.grown)
  clear ho5 hb5 hloc hloc5
  go_wp2_with fail
  refine bodyPost_ret (v := .tuple #[.agg #[.int .i64 (zdim R n), .slice ao5 R.2.length cap5], .int .i64 R.1]) (by simp [results, Try.results59, go_sem, r0, r1]) rfl ⟨⟨_, by rw [HR.out], ?_⟩, ?_⟩
  · rw [HR.out]; exact OL.mono (base := w.heap.size + 3) (own_set2 Ho5.out (by omega) _ _) (by omega)
  · exact (HB5.out.setCell (by show w.heap.size ≤ w.heap.size + 1 + 1; omega) _).setCell (by show w.heap.size ≤ w.heap.size + 1 + 1; omega) _
end Go.Proofs.Ytkgaipcgdldfdaa
namespace Go.Proofs.Ytkgaipcgdldfdaa
open Go.RowKit
set_option linter.unusedVariables false

theorem fitJ_iff {n n2 : Int} {ys : List Int} : fitJ n n2 ys = true ↔ OkZ n2 ys ∧ n = n2 := by
  unfold fitJ
  rw [Bool.and_eq_true, beq_iff_eq, beq_iff_eq]
  constructor
  · rintro ⟨a, b⟩
    by_cases h : OkZ n2 ys
    · exact ⟨h, b⟩
    · rw [okErr_no h] at a; exact absurd a (by decide)
  · rintro ⟨a, b⟩; exact ⟨okErr_yes a, b⟩
theorem joinF_yes {op : Int → Int → Int} {n n2 : Int} {xs ys : List Int} (h : Two n n2 xs ys) : joinF op n xs n2 ys = closedF n.toNat (zipTo op xs ys xs.length) := by
  unfold joinF chgF; rw [if_pos ⟨h.1, fitJ_iff.2 ⟨h.2.1, h.2.2⟩⟩]
theorem joinF_no {op : Int → Int → Int} {n n2 : Int} {xs ys : List Int} (h : ¬ Two n n2 xs ys) : joinF op n xs n2 ys = (2, []) :=
  chgF_no (fun e => h ⟨e.1, (fitJ_iff.1 e.2).1, (fitJ_iff.1 e.2).2⟩)

theorem hp_lt2 {w : World} {b : Nat} {o : Obj} (h : w.heap[b]? = some o) : b < w.heap.size := (Array.getElem?_eq_some_iff.1 h).1

set_option maxRecDepth 100000 in
set_option maxHeartbeats 4000000 in
theorem ref_meet_no (n n2 : Int) (zv bv : Value) (xs ys : List Int) (w : World) (hz : RL w.heap.size w zv xs) (hb : RL w.heap.size w bv ys) (h2 : ¬ Two n n2 xs ys) :
    Calls Try.prog 58 #[.agg #[.int .i64 n, zv], .agg #[.int .i64 n2, bv]] w fun e w' => ZPost 60 w.heap.size n (joinF imin n xs n2 ys) e w' ∧ Below w.heap.size w w' := by
  obtain ⟨aoz, capz, rfl, hlez, _⟩ := hz.open
  obtain ⟨aob, capb, rfl, hleb, _⟩ := hb.open
  have hloc := Loc.three w (.cells #[.int .i64 n, .slice aoz xs.length capz] 24) (.cells #[.int .i64 n2, .slice aob ys.length capb] 24) (.cells #[.int .i64 0, .slice none 0 0] 24) none
  have Hz := Lib.hid (hz.keepb (below_grownBy hloc.grown))
  have Hb := Lib.hid (hb.keepb (below_grownBy hloc.grown))
  have hres := Lib.hid (joinF_no (op := imin) h2)
  clear hz hb
  go_enter Try.func58, Try.ntmps58
  go_wp2_with fail
  refine (ref_two n n2 _ _ xs ys _ Hz.out Hb.out).mono ?_
  rw [twoB_no h2]
  rintro e wa ⟨rfl, hba⟩
  have hloca := hloc.next (grownBy_below hba none) (fun _ h => by cases h)
  have r0 : wa.cell? ⟨w.heap.size + 1 + 1, 0, none⟩ = some (.int .i64 0) := hloca.cell 2 rfl 0
  have r1 : wa.cell? ⟨w.heap.size + 1 + 1, 1, none⟩ = some (.slice none 0 0) := hloca.cell 2 rfl 1
  have r2 : wa.frozen? ⟨w.heap.size + 1 + 1, 0, none⟩ = false := hloca.free 2 rfl 0
  have r3 : wa.frozen? ⟨w.heap.size + 1 + 1, 1, none⟩ = false := hloca.free 2 rfl 1
  clear hba hloc h2
  go_wp2_with fail
  refine bodyPost_ret (v := .tuple #[.agg #[.int .i64 0, .slice none 0 0], .int .i64 2]) (by simp [results, Try.results58, go_sem, r0, r1]) rfl ⟨ZPost.err hres.out (by omega) _, ?_⟩
  exact ((below_grownBy hloca.grown).setCell (by show w.heap.size ≤ w.heap.size + 1 + 1; omega) _).setCell (by show w.heap.size ≤ w.heap.size + 1 + 1; omega) _

set_option maxRecDepth 100000 in
set_option maxHeartbeats 4000000 in
theorem ref_meet_yes (N : Nat) (n2 : Int) (zv bv : Value) (xs ys : List Int) (w : World) (hz : RL w.heap.size w zv xs) (hb : RL w.heap.size w bv ys) (h2 : Two N n2 xs ys) :
    Calls Try.prog 58 #[.agg #[.int .i64 N, zv], .agg #[.int .i64 n2, bv]] w fun e w' => ZPost 60 w.heap.size N (joinF imin N xs n2 ys) e w' ∧ Below w.heap.size w w' := by
  obtain ⟨aoz, capz, rfl, hlez, _⟩ := hz.open
  obtain ⟨aob, capb, rfl, hleb, h0b⟩ := hb.open
  have hloc := Loc.three w (.cells #[.int .i64 N, .slice aoz xs.length capz] 24) (.cells #[.int .i64 n2, .slice aob ys.length capb] 24) (.cells #[.int .i64 0, .slice none 0 0] 24) none
  have hN : N ≤ 10 := by have := h2.1.hi; omega
  have Hx := Lib.hid (show xs.length = (N + 1) * (N + 1) by have := h2.1.len; rwa [Int.toNat_natCast] at this)
  have Hl := Lib.hid h2.len
  have hpos : 0 < xs.length := by rw [Hx.out]; exact Nat.mul_pos (by omega) (by omega)
  obtain ⟨bz, oz, rfl, hbz, hcz⟩ := h0b (by have := Hl.out; omega)
  have Hcz := Lib.hid hcz
  have Hz := Lib.hid (hz.keepb (below_grownBy hloc.grown))
  have Hb := Lib.hid (hb.keepb (below_grownBy hloc.grown))
  have Hz0 := Lib.hid hz
  have hres := Lib.hid (show closedF N (zipTo imin xs ys xs.length) = joinF imin N xs n2 ys by rw [joinF_yes (op := imin) h2, Int.toNat_natCast])
  have hxb : xs.length ≤ 1000 := by
    have : xs.length ≤ 121 := by rw [Hx.out]; exact Nat.mul_le_mul (by omega : N + 1 ≤ 11) (by omega : N + 1 ≤ 11)
    omega
  clear hz hb h0b hcz
  go_enter Try.func58, Try.ntmps58
  go_wp2_with fail
  refine (ref_two N n2 _ _ xs ys _ Hz.out Hb.out).mono ?_
  rw [twoB_yes h2]
  rintro e wa ⟨rfl, hba⟩
  have hloca := hloc.next (grownBy_below hba none) (fun _ h => by cases h)
  have z0 : wa.cell? ⟨w.heap.size, 0, none⟩ = some (.int .i64 N) := hloca.cell 0 rfl 0
  have z1 : wa.cell? ⟨w.heap.size, 1, none⟩ = some (.slice aoz xs.length capz) := hloca.cell 0 rfl 1
  have Hza := Lib.hid (Hz0.out.keepb (below_grownBy hloca.grown))
  clear hba hloc h2
  go_wp2_with fail
  refine (ref_copied N _ xs _ Hza.out hxb).mono ?_
  rintro e w2 ⟨v2, rfl, ho2, hb2⟩
  obtain ⟨g, cap2, rfl, hg2, hg3, _, _⟩ := ho2.open hpos
  have hloc2 := (hloca.next (grownBy_below hb2 none) (fun _ h => by cases h)).next (World.grownBy_alloc w2 (.cells #[.int .i64 N, .slice (some ⟨g, 0, none⟩) xs.length cap2] 24) none) (fun _ h => by cases h)
  have hsz : w.heap.size + 3 ≤ wa.heap.size := hloca.size
  have H6 := heap_alloc_new w2 (.cells #[.int .i64 N, .slice (some ⟨g, 0, none⟩) xs.length cap2] 24)
  have hown : OL 60 wa.heap.size (w2.alloc (.cells #[.int .i64 N, .slice (some ⟨g, 0, none⟩) xs.length cap2] 24)) (.slice (some ⟨g, 0, none⟩) xs.length cap2) xs := World.ownsRow.alloc ho2 _
  have hb6 : wa.heap.size ≤ w2.heap.size := hb2.size
  clear ho2 hb2 hloca z0 z1
  go_wp2_with fail
  generalize hB6 : w2.heap.size = b6 at *
  generalize w2.alloc (.cells #[.int .i64 N, .slice (some ⟨g, 0, none⟩) xs.length cap2] 24) = W2 at *
  go_loopw [7] (fun k wr => ∃ q : Nat, q ≤ xs.length ∧ k = .int .i64 q ∧ wr.heap[b6]? = some (.cells #[.int .i64 N, .slice (some ⟨g, 0, none⟩) xs.length cap2] 24 (0, 0)) ∧ OL 60 wa.heap.size wr (.slice (some ⟨g, 0, none⟩) xs.length cap2) (zipTo imin xs ys q) ∧ Loc w wr none [.cells #[.int .i64 N, .slice aoz xs.length capz] 24, .cells #[.int .i64 n2, .slice (some ⟨bz, oz, none⟩) ys.length capb] 24, .cells #[.int .i64 0, .slice none 0 0] 24]) (fun k _ => xs.length - (intOf k).toNat)
  case atStart => exact ⟨0, by omega, rfl, H6, hown, hloc2⟩
  case round =>
    clear H6 hown hloc2
    obtain ⟨q, hq, rfl, H6, hown, hloc⟩ := hrel
    have hlA := Lib.hid (zipTo_len imin xs ys q)
    have t0 : wr.cell? ⟨b6, 0, none⟩ = some (.int .i64 N) := cell_of_row _ b6 0 _ _ _ H6
    have t1 : wr.cell? ⟨b6, 1, none⟩ = some (.slice (some ⟨g, 0, none⟩) xs.length cap2) := cell_of_row _ b6 1 _ _ _ H6
    have y1 : wr.cell? ⟨w.heap.size + 1, 1, none⟩ = some (.slice (some ⟨bz, oz, none⟩) ys.length capb) := hloc.cell 1 rfl 1
    by_cases hlt : q < xs.length
    · have hq1 : (q : Int) < (xs.length : Int) := by omega
      have hq2 : (q : Int) < (ys.length : Int) := by have := Hl.out; omega
      have hq0 : (0 : Int) ≤ (q : Int) := by omega
      have xa := ol_cell hown (k := q) (by rw [hlA.out]; exact hlt)
      have x0 := xa.1
      have xf := xa.2
      have m1 := ((bcell (below_grownBy hloc.grown)).1 _ _ hbz).trans (Hcz.out q (by have := Hl.out; omega))
      have Hst := Lib.hid (show zipTo imin xs ys (q + 1) = (zipTo imin xs ys q).set q (imin (gi (zipTo imin xs ys q) q) (gi ys q)) from rfl)
      have Hown := Lib.hid hown
      have Hloc := Lib.hid hloc
      have HH6 := Lib.hid H6
      have n1 : g ≠ b6 := by omega
      have n2 : b6 ≠ g := by omega
      have n3 : g ≠ w.heap.size + 1 := by omega
      have n4 : w.heap.size + 1 ≠ g := by omega
      have n5 : bz ≠ g := by omega
      have hop : ∀ x y : Int, (if y < x then y else x) = imin x y := imin_fold
      clear xa hown hloc H6
      generalize hA : zipTo imin xs ys q = M at *
      clear hA
      go_upto_region 7 with fail
      go_region
      go_wp2_with fail
      have hsd := OL.stored Hown.out hlA.out.symm q (imin (gi M q) (gi ys q))
      have hg' := grownBy_trans hsd.2 (grownBy_drew _ (some g))
      go_roundw
      case rel => exact ⟨q + 1, by omega, by go_num, (hg'.block b6 (hp_lt2 HH6.out) (fun e => n2 (Option.some.inj e))).trans HH6.out, by rw [Hst.out]; exact hsd.1.drew, Hloc.out.anyrow hg' (fun k e => by cases e; show w.heap.size + 3 ≤ g; omega)⟩
      case measure => simp [intOf]; omega
    · have hdq : decide ((q : Int) < (xs.length : Int)) = false := by simp; omega
      obtain rfl : q = xs.length := by omega
      have hwb : wa.heap.size ≤ wr.heap.size := by have := hp_lt2 H6; omega
      go_wp2_with fail
      refine (ref_closed N _ _ wa.heap.size wr hown hwb hN (hlA.out.trans Hx.out)).mono ?_
      rw [hres.out]
      generalize hR : joinF imin (N : Int) xs n2 ys = R
      have HR := Lib.hid hR
      clear hR
      rintro e w5 ⟨⟨v5, rfl, ho5⟩, hb5⟩
      obtain ⟨ao5, cap5, rfl⟩ := owns_form ho5
      have hloc5 := hloc.belowB hb5 (by simpa using hsz)
      have r0 : w5.cell? ⟨w.heap.size + 1 + 1, 0, none⟩ = some (.int .i64 0) := hloc5.cell 2 rfl 0
      have r1 : w5.cell? ⟨w.heap.size + 1 + 1, 1, none⟩ = some (.slice none 0 0) := hloc5.cell 2 rfl 1
      have r2 : w5.frozen? ⟨w.heap.size + 1 + 1, 0, none⟩ = false := hloc5.free 2 rfl 0
      have r3 : w5.frozen? ⟨w.heap.size + 1 + 1, 1, none⟩ = false := hloc5.free 2 rfl 1
      have Ho5 := Lib.hid ho5
      have Hb5 := Lib.hid (below_grownBy hloc5.grown)
      clear ho5 hb5 hloc hloc5 hown H6 t0 t1 y1
      go_wp2_with fail
      refine bodyPost_ret (v := .tuple #[.agg #[.int .i64 (zdim R N), .slice ao5 R.2.length cap5], .int .i64 R.1]) (by simp [results, Try.results58, go_sem, r0, r1]) rfl ⟨⟨_, by rw [HR.out], ?_⟩, ?_⟩
      · rw [HR.out]; exact OL.mono (base := wa.heap.size) (own_set2 Ho5.out (by omega) _ _) (by omega)
      · exact (Hb5.out.setCell (by show w.heap.size ≤ w.heap.size + 1 + 1; omega) _).setCell (by show w.heap.size ≤ w.heap.size + 1 + 1; omega) _
theorem ref_meet (n n2 : Int) (zv bv : Value) (xs ys : List Int) (w : World) (hz : RL w.heap.size w zv xs) (hb : RL w.heap.size w bv ys) :
    Calls Try.prog 58 #[.agg #[.int .i64 n, zv], .agg #[.int .i64 n2, bv]] w fun e w' => ZPost 60 w.heap.size n (joinF imin n xs n2 ys) e w' ∧ Below w.heap.size w w' := by
  by_cases h2 : Two n n2 xs ys
  · obtain ⟨N, rfl⟩ := Int.eq_ofNat_of_zero_le h2.1.lo
    exact ref_meet_yes N n2 zv bv xs ys w hz hb h2
  · exact ref_meet_no n n2 zv bv xs ys w hz hb h2

set_option maxRecDepth 100000 in
set_option maxHeartbeats 4000000 in
theorem ref_hull_no (n n2 : Int) (zv bv : Value) (xs ys : List Int) (w : World) (hz : RL w.heap.size w zv xs) (hb : RL w.heap.size w bv ys) (h2 : ¬ Two n n2 xs ys) :
    Calls Try.prog 60 #[.agg #[.int .i64 n, zv], .agg #[.int .i64 n2, bv]] w fun e w' => ZPost 60 w.heap.size n (joinF jmax n xs n2 ys) e w' ∧ Below w.heap.size w w' := by
  obtain ⟨aoz, capz, rfl, hlez, _⟩ := hz.open
  obtain ⟨aob, capb, rfl, hleb, _⟩ := hb.open
  have hloc := Loc.three w (.cells #[.int .i64 n, .slice aoz xs.length capz] 24) (.cells #[.int .i64 n2, .slice aob ys.length capb] 24) (.cells #[.int .i64 0, .slice none 0 0] 24) none
  have Hz := Lib.hid (hz.keepb (below_grownBy hloc.grown))
  have Hb := Lib.hid (hb.keepb (below_grownBy hloc.grown))
  have hres := Lib.hid (joinF_no (op := jmax) h2)
  clear hz hb
  go_enter Try.func60, Try.ntmps60
  go_wp2_with fail
  refine (ref_two n n2 _ _ xs ys _ Hz.out Hb.out).mono ?_
  rw [twoB_no h2]
  rintro e wa ⟨rfl, hba⟩
  have hloca := hloc.next (grownBy_below hba none) (fun _ h => by cases h)
  have r0 : wa.cell? ⟨w.heap.size + 1 + 1, 0, none⟩ = some (.int .i64 0) := hloca.cell 2 rfl 0
  have r1 : wa.cell? ⟨w.heap.size + 1 + 1, 1, none⟩ = some (.slice none 0 0) := hloca.cell 2 rfl 1
  have r2 : wa.frozen? ⟨w.heap.size + 1 + 1, 0, none⟩ = false := hloca.free 2 rfl 0
  have r3 : wa.frozen? ⟨w.heap.size + 1 + 1, 1, none⟩ = false := hloca.free 2 rfl 1
  clear hba hloc h2
  go_wp2_with fail
  refine bodyPost_ret (v := .tuple #[.agg #[.int .i64 0, .slice none 0 0], .int .i64 2]) (by simp [results, Try.results60, go_sem, r0, r1]) rfl ⟨ZPost.err hres.out (by omega) _, ?_⟩
  exact ((below_grownBy hloca.grown).setCell (by show w.heap.size ≤ w.heap.size + 1 + 1; omega) _).setCell (by show w.heap.size ≤ w.heap.size + 1 + 1; omega) _

set_option maxRecDepth 100000 in
set_option maxHeartbeats 4000000 in
theorem ref_hull_yes (N : Nat) (n2 : Int) (zv bv : Value) (xs ys : List Int) (w : World) (hz : RL w.heap.size w zv xs) (hb : RL w.heap.size w bv ys) (h2 : Two N n2 xs ys) :
    Calls Try.prog 60 #[.agg #[.int .i64 N, zv], .agg #[.int .i64 n2, bv]] w fun e w' => ZPost 60 w.heap.size N (joinF jmax N xs n2 ys) e w' ∧ Below w.heap.size w w' := by
  obtain ⟨aoz, capz, rfl, hlez, _⟩ := hz.open
  obtain ⟨aob, capb, rfl, hleb, h0b⟩ := hb.open
  have hloc := Loc.three w (.cells #[.int .i64 N, .slice aoz xs.length capz] 24) (.cells #[.int .i64 n2, .slice aob ys.length capb] 24) (.cells #[.int .i64 0, .slice none 0 0] 24) none
  have hN : N ≤ 10 := by have := h2.1.hi; omega
  have Hx := Lib.hid (show xs.length = (N + 1) * (N + 1) by have := h2.1.len; rwa [Int.toNat_natCast] at this)
  have Hl := Lib.hid h2.len
  have hpos : 0 < xs.length := by rw [Hx.out]; exact Nat.mul_pos (by omega) (by omega)
  obtain ⟨bz, oz, rfl, hbz, hcz⟩ := h0b (by have := Hl.out; omega)
  have Hcz := Lib.hid hcz
  have Hz := Lib.hid (hz.keepb (below_grownBy hloc.grown))
  have Hb := Lib.hid (hb.keepb (below_grownBy hloc.grown))
  have Hz0 := Lib.hid hz
  have hres := Lib.hid (show closedF N (zipTo jmax xs ys xs.length) = joinF jmax N xs n2 ys by rw [joinF_yes (op := jmax) h2, Int.toNat_natCast])
  have hxb : xs.length ≤ 1000 := by
    have : xs.length ≤ 121 := by rw [Hx.out]; exact Nat.mul_le_mul (by omega : N + 1 ≤ 11) (by omega : N + 1 ≤ 11)
    omega
  clear hz hb h0b hcz
  go_enter Try.func60, Try.ntmps60
  go_wp2_with fail
  refine (ref_two N n2 _ _ xs ys _ Hz.out Hb.out).mono ?_
  rw [twoB_yes h2]
  rintro e wa ⟨rfl, hba⟩
  have hloca := hloc.next (grownBy_below hba none) (fun _ h => by cases h)
  have z0 : wa.cell? ⟨w.heap.size, 0, none⟩ = some (.int .i64 N) := hloca.cell 0 rfl 0
  have z1 : wa.cell? ⟨w.heap.size, 1, none⟩ = some (.slice aoz xs.length capz) := hloca.cell 0 rfl 1
  have Hza := Lib.hid (Hz0.out.keepb (below_grownBy hloca.grown))
  clear hba hloc h2
  go_wp2_with fail
  refine (ref_copied N _ xs _ Hza.out hxb).mono ?_
  rintro e w2 ⟨v2, rfl, ho2, hb2⟩
  obtain ⟨g, cap2, rfl, hg2, hg3, _, _⟩ := ho2.open hpos
  have hloc2 := (hloca.next (grownBy_below hb2 none) (fun _ h => by cases h)).next (World.grownBy_alloc w2 (.cells #[.int .i64 N, .slice (some ⟨g, 0, none⟩) xs.length cap2] 24) none) (fun _ h => by cases h)
  have hsz : w.heap.size + 3 ≤ wa.heap.size := hloca.size
  have H6 := heap_alloc_new w2 (.cells #[.int .i64 N, .slice (some ⟨g, 0, none⟩) xs.length cap2] 24)
  have hown : OL 60 wa.heap.size (w2.alloc (.cells #[.int .i64 N, .slice (some ⟨g, 0, none⟩) xs.length cap2] 24)) (.slice (some ⟨g, 0, none⟩) xs.length cap2) xs := World.ownsRow.alloc ho2 _
  have hb6 : wa.heap.size ≤ w2.heap.size := hb2.size
  clear ho2 hb2 hloca z0 z1
  go_wp2_with fail
  generalize hB6 : w2.heap.size = b6 at *
  generalize w2.alloc (.cells #[.int .i64 N, .slice (some ⟨g, 0, none⟩) xs.length cap2] 24) = W2 at *
  go_loopw [7] (fun k wr => ∃ q : Nat, q ≤ xs.length ∧ k = .int .i64 q ∧ wr.heap[b6]? = some (.cells #[.int .i64 N, .slice (some ⟨g, 0, none⟩) xs.length cap2] 24 (0, 0)) ∧ OL 60 wa.heap.size wr (.slice (some ⟨g, 0, none⟩) xs.length cap2) (zipTo jmax xs ys q) ∧ Loc w wr none [.cells #[.int .i64 N, .slice aoz xs.length capz] 24, .cells #[.int .i64 n2, .slice (some ⟨bz, oz, none⟩) ys.length capb] 24, .cells #[.int .i64 0, .slice none 0 0] 24]) (fun k _ => xs.length - (intOf k).toNat)
  case atStart => exact ⟨0, by omega, rfl, H6, hown, hloc2⟩
  case round =>
    clear H6 hown hloc2
    obtain ⟨q, hq, rfl, H6, hown, hloc⟩ := hrel
    have hlA := Lib.hid (zipTo_len jmax xs ys q)
    have t0 : wr.cell? ⟨b6, 0, none⟩ = some (.int .i64 N) := cell_of_row _ b6 0 _ _ _ H6
    have t1 : wr.cell? ⟨b6, 1, none⟩ = some (.slice (some ⟨g, 0, none⟩) xs.length cap2) := cell_of_row _ b6 1 _ _ _ H6
    have y1 : wr.cell? ⟨w.heap.size + 1, 1, none⟩ = some (.slice (some ⟨bz, oz, none⟩) ys.length capb) := hloc.cell 1 rfl 1
    by_cases hlt : q < xs.length
    · have hq1 : (q : Int) < (xs.length : Int) := by omega
      have hq2 : (q : Int) < (ys.length : Int) := by have := Hl.out; omega
      have hq0 : (0 : Int) ≤ (q : Int) := by omega
      have xa := ol_cell hown (k := q) (by rw [hlA.out]; exact hlt)
      have x0 := xa.1
      have xf := xa.2
      have m1 := ((bcell (below_grownBy hloc.grown)).1 _ _ hbz).trans (Hcz.out q (by have := Hl.out; omega))
      have Hst := Lib.hid (show zipTo jmax xs ys (q + 1) = (zipTo jmax xs ys q).set q (jmax (gi (zipTo jmax xs ys q) q) (gi ys q)) from rfl)
      have Hown := Lib.hid hown
      have Hloc := Lib.hid hloc
      have HH6 := Lib.hid H6
      have n1 : g ≠ b6 := by omega
      have n2 : b6 ≠ g := by omega
      have n3 : g ≠ w.heap.size + 1 := by omega
      have n4 : w.heap.size + 1 ≠ g := by omega
      have n5 : bz ≠ g := by omega
      have hop : ∀ x y : Int, (if x < y then y else x) = jmax x y := (fun x y => (rfl : (if x < y then y else x) = jmax x y))
      clear xa hown hloc H6
      generalize hA : zipTo jmax xs ys q = M at *
      clear hA
      go_upto_region 7 with fail
      go_region
      go_wp2_with fail
      have hsd := OL.stored Hown.out hlA.out.symm q (jmax (gi M q) (gi ys q))
      have hg' := grownBy_trans hsd.2 (grownBy_drew _ (some g))
      go_roundw
      case rel => exact ⟨q + 1, by omega, by go_num, (hg'.block b6 (hp_lt2 HH6.out) (fun e => n2 (Option.some.inj e))).trans HH6.out, by rw [Hst.out]; exact hsd.1.drew, Hloc.out.anyrow hg' (fun k e => by cases e; show w.heap.size + 3 ≤ g; omega)⟩
      case measure => simp [intOf]; omega
    · have hdq : decide ((q : Int) < (xs.length : Int)) = false := by simp; omega
      obtain rfl : q = xs.length := by omega
      have hwb : wa.heap.size ≤ wr.heap.size := by have := hp_lt2 H6; omega
      go_wp2_with fail
      refine (ref_closed N _ _ wa.heap.size wr hown hwb hN (hlA.out.trans Hx.out)).mono ?_
      rw [hres.out]
      generalize hR : joinF jmax (N : Int) xs n2 ys = R
      have HR := Lib.hid hR
      clear hR
      rintro e w5 ⟨⟨v5, rfl, ho5⟩, hb5⟩
      obtain ⟨ao5, cap5, rfl⟩ := owns_form ho5
      have hloc5 := hloc.belowB hb5 (by simpa using hsz)
      have r0 : w5.cell? ⟨w.heap.size + 1 + 1, 0, none⟩ = some (.int .i64 0) := hloc5.cell 2 rfl 0
      have r1 : w5.cell? ⟨w.heap.size + 1 + 1, 1, none⟩ = some (.slice none 0 0) := hloc5.cell 2 rfl 1
      have r2 : w5.frozen? ⟨w.heap.size + 1 + 1, 0, none⟩ = false := hloc5.free 2 rfl 0
      have r3 : w5.frozen? ⟨w.heap.size + 1 + 1, 1, none⟩ = false := hloc5.free 2 rfl 1
      have Ho5 := Lib.hid ho5
      have Hb5 := Lib.hid (below_grownBy hloc5.grown)
      clear ho5 hb5 hloc hloc5 hown H6 t0 t1 y1
      go_wp2_with fail
      refine bodyPost_ret (v := .tuple #[.agg #[.int .i64 (zdim R N), .slice ao5 R.2.length cap5], .int .i64 R.1]) (by simp [results, Try.results60, go_sem, r0, r1]) rfl ⟨⟨_, by rw [HR.out], ?_⟩, ?_⟩
      · rw [HR.out]; exact OL.mono (base := wa.heap.size) (own_set2 Ho5.out (by omega) _ _) (by omega)
      · exact (Hb5.out.setCell (by show w.heap.size ≤ w.heap.size + 1 + 1; omega) _).setCell (by show w.heap.size ≤ w.heap.size + 1 + 1; omega) _
theorem ref_hull (n n2 : Int) (zv bv : Value) (xs ys : List Int) (w : World) (hz : RL w.heap.size w zv xs) (hb : RL w.heap.size w bv ys) :
    Calls Try.prog 60 #[.agg #[.int .i64 n, zv], .agg #[.int .i64 n2, bv]] w fun e w' => ZPost 60 w.heap.size n (joinF jmax n xs n2 ys) e w' ∧ Below w.heap.size w w' := by
  by_cases h2 : Two n n2 xs ys
  · obtain ⟨N, rfl⟩ := Int.eq_ofNat_of_zero_le h2.1.lo
    exact ref_hull_yes N n2 zv bv xs ys w hz hb h2
  · exact ref_hull_no n n2 zv bv xs ys w hz hb h2
end Go.Proofs.Ytkgaipcgdldfdaa
namespace Go.Proofs.Ytkgaipcgdldfdaa
open Go.RowKit
set_option linter.unusedVariables false

set_option maxHeartbeats 2000000 in
theorem prog_includes (n n2 : Int) (v v2 : Value) (xs ys : List Int) (w : World) (hv : RL w.heap.size w v xs) (hv2 : RL w.heap.size w v2 ys) :
    Calls Try.prog 54 #[.agg #[.int .i64 n, v], .agg #[.int .i64 n2, v2]] w fun e w' => BE (incF n n2 xs ys) e ∧ Below w.heap.size w w' := by
  obtain ⟨ao, cap, rfl, hle, h0⟩ := hv.open
  obtain ⟨ao2, cap2, rfl, hle2, h02⟩ := hv2.open
  have hloc0 := Loc.two w (.cells #[.int .i64 n, (.slice ao xs.length cap)] 24) (.cells #[.int .i64 n2, (.slice ao2 ys.length cap2)] 24) none
  have Hv := Lib.hid (hv.keepb (below_grownBy hloc0.grown))
  have Hv2 := Lib.hid (hv2.keepb (below_grownBy hloc0.grown))
  have H0 := Lib.hid h0
  have H02 := Lib.hid h02
  clear hv hv2 h0 h02
  by_cases h1 : OkZ n xs
  · have e1 := okErr_yes h1
    by_cases h2 : OkZ n2 ys
    · have e2 := okErr_yes h2
      by_cases hn : n = n2
      · have hn' : (n != n2) = false := by simpa using hn
        have H2 := Lib.hid (show Two n n2 xs ys from ⟨h1, h2, hn⟩)
        have Hl := Lib.hid H2.out.len
        clear h1 h2 hn
        go_enter Try.func54, Try.ntmps54
        go_wp2_with fail
        refine (prog_check n _ xs _ Hv.out).mono ?_
        rw [e1]
        rintro e wa ⟨rfl, hba⟩
        have hloca := hloc0.next (grownBy_below hba none) (fun _ h => by cases h)
        have a1 : wa.cell? ⟨w.heap.size + 1, 0, none⟩ = some (.int .i64 n2) := hloca.cell 1 rfl 0
        have a2 : wa.cell? ⟨w.heap.size + 1, 1, none⟩ = some (.slice ao2 ys.length cap2) := hloca.cell 1 rfl 1
        have Hv2a := Lib.hid (Hv2.out.keepb hba)
        clear hba hloc0
        go_wp2_with fail
        refine (prog_check n2 _ ys _ Hv2a.out).mono ?_
        rw [e2]
        rintro e wb ⟨rfl, hbb⟩
        have hlocb := hloca.next (grownBy_below hbb none) (fun _ h => by cases h)
        have c1 : wb.cell? ⟨w.heap.size + 1, 0, none⟩ = some (.int .i64 n2) := hlocb.cell 1 rfl 0
        have c2 : wb.cell? ⟨w.heap.size, 0, none⟩ = some (.int .i64 n) := hlocb.cell 0 rfl 0
        have c3 : wb.cell? ⟨w.heap.size, 1, none⟩ = some (.slice ao xs.length cap) := hlocb.cell 0 rfl 1
        clear hbb hloca a1 a2
        clear e1 e2
        go_wp2_with fail
        go_loopw [6, 7, 26] (fun i6 i7 i wr => ∃ q : Nat, q ≤ xs.length ∧ i = .int .i64 q ∧ LeTo xs ys q ∧ Loc w wr none [.cells #[.int .i64 n, (.slice ao xs.length cap)] 24, .cells #[.int .i64 n2, (.slice ao2 ys.length cap2)] 24]) (fun _ _ i _ => xs.length - (intOf i).toNat)
        case atStart => exact ⟨0, by omega, rfl, fun _ h => by omega, hlocb⟩
        case round =>
          clear hlocb c1 c2 c3
          obtain ⟨j, hj, rfl, heq, hloc⟩ := hrel
          have Heq := Lib.hid heq
          clear heq
          have c2 : wr.cell? ⟨w.heap.size + 1, 1, none⟩ = some (.slice ao2 ys.length cap2) := hloc.cell 1 rfl 1
          by_cases hlt : j < xs.length
          · obtain ⟨b, off, rfl, hb, hc⟩ := H0.out (by omega)
            obtain ⟨b2, off2, rfl, hb2, hc2⟩ := H02.out (by have := Hl.out; omega)
            have x1 : wr.cell? ⟨b, off + j, none⟩ = some (.int .i64 (gi xs j)) := ((bcell (below_grownBy hloc.grown)).1 _ _ hb).trans (hc j hlt)
            have x2 : wr.cell? ⟨b2, off2 + j, none⟩ = some (.int .i64 (gi ys j)) := ((bcell (below_grownBy hloc.grown)).1 _ _ hb2).trans (hc2 j (by have := Hl.out; omega))
            have y1 : (j : Int) < xs.length := by omega
            have y2 : (j : Int) < ys.length := by have := Hl.out; omega
            clear hc hc2
            by_cases he : gi xs j < gi ys j
            · have hres := Lib.hid (incF_gt H2.out (fun h => by have := h j hlt; omega))
              have he' : decide (gi xs j < gi ys j) = true := by simpa using he
              clear he
              go_wp2_with fail
              go_ret2
              exact ⟨BE.of hres.out, below_grownBy hloc.grown⟩
            · have he' : decide (gi xs j < gi ys j) = false := by simpa using he
              have He := Lib.hid (show gi ys j ≤ gi xs j by omega)
              clear he
              go_wp2_with fail
              go_roundw
              case rel => exact ⟨j + 1, by omega, by go_num, Heq.out.succ He.out, hloc⟩
              case measure => simp [intOf]; omega
          · have hdj : decide ((j : Int) < (xs.length : Int)) = false := by simp; omega
            have hres := Lib.hid (incF_yes H2.out (fun k hk => Heq.out k (by omega)))
            go_wp2_with fail
            go_ret2
            exact ⟨BE.of hres.out, below_grownBy hloc.grown⟩
      · have hn' : (n != n2) = true := by simpa using hn
        have hres := Lib.hid (incF_no (n := n) (n2 := n2) (xs := xs) (ys := ys) (fun h => hn h.2.2))
        clear hn h1 h2
        go_enter Try.func54, Try.ntmps54
        go_wp2_with fail
        refine (prog_check n _ xs _ Hv.out).mono ?_
        rw [e1]
        rintro e wa ⟨rfl, hba⟩
        have hloca := hloc0.next (grownBy_below hba none) (fun _ h => by cases h)
        have a1 : wa.cell? ⟨w.heap.size + 1, 0, none⟩ = some (.int .i64 n2) := hloca.cell 1 rfl 0
        have a2 : wa.cell? ⟨w.heap.size + 1, 1, none⟩ = some (.slice ao2 ys.length cap2) := hloca.cell 1 rfl 1
        have Hv2a := Lib.hid (Hv2.out.keepb hba)
        clear hba hloc0
        go_wp2_with fail
        refine (prog_check n2 _ ys _ Hv2a.out).mono ?_
        rw [e2]
        rintro e wb ⟨rfl, hbb⟩
        have hlocb := hloca.next (grownBy_below hbb none) (fun _ h => by cases h)
        have c1 : wb.cell? ⟨w.heap.size + 1, 0, none⟩ = some (.int .i64 n2) := hlocb.cell 1 rfl 0
        have c2 : wb.cell? ⟨w.heap.size, 0, none⟩ = some (.int .i64 n) := hlocb.cell 0 rfl 0
        have c3 : wb.cell? ⟨w.heap.size, 1, none⟩ = some (.slice ao xs.length cap) := hlocb.cell 0 rfl 1
        clear hbb hloca a1 a2
        go_wp2_with fail
        go_ret2
        exact ⟨BE.of hres.out, below_grownBy hlocb.grown⟩
    · have e2 := okErr_no h2
      have hres := Lib.hid (incF_no (n := n) (n2 := n2) (xs := xs) (ys := ys) (fun h => h2 h.2.1))
      clear h1 h2
      go_enter Try.func54, Try.ntmps54
      go_wp2_with fail
      refine (prog_check n _ xs _ Hv.out).mono ?_
      rw [e1]
      rintro e wa ⟨rfl, hba⟩
      have hloca := hloc0.next (grownBy_below hba none) (fun _ h => by cases h)
      have a1 : wa.cell? ⟨w.heap.size + 1, 0, none⟩ = some (.int .i64 n2) := hloca.cell 1 rfl 0
      have a2 : wa.cell? ⟨w.heap.size + 1, 1, none⟩ = some (.slice ao2 ys.length cap2) := hloca.cell 1 rfl 1
      have Hv2a := Lib.hid (Hv2.out.keepb hba)
      clear hba hloc0
      go_wp2_with fail
      refine (prog_check n2 _ ys _ Hv2a.out).mono ?_
      rw [e2]
      rintro e wb ⟨rfl, hbb⟩
      have hlocb := hloca.next (grownBy_below hbb none) (fun _ h => by cases h)
      have c1 : wb.cell? ⟨w.heap.size + 1, 0, none⟩ = some (.int .i64 n2) := hlocb.cell 1 rfl 0
      have c2 : wb.cell? ⟨w.heap.size, 0, none⟩ = some (.int .i64 n) := hlocb.cell 0 rfl 0
      have c3 : wb.cell? ⟨w.heap.size, 1, none⟩ = some (.slice ao xs.length cap) := hlocb.cell 0 rfl 1
      clear hbb hloca a1 a2
      go_wp2_with fail
      go_ret2
      exact ⟨BE.of hres.out, below_grownBy hlocb.grown⟩
  · have e1 := okErr_no h1
    have hres := Lib.hid (incF_no (n := n) (n2 := n2) (xs := xs) (ys := ys) (fun h => h1 h.1))
    clear h1
    go_enter Try.func54, Try.ntmps54
    go_wp2_with fail
    refine (prog_check n _ xs _ Hv.out).mono ?_
    rw [e1]
    rintro e wa ⟨rfl, hba⟩
    have hloca := hloc0.next (grownBy_below hba none) (fun _ h => by cases h)
    have a1 : wa.cell? ⟨w.heap.size + 1, 0, none⟩ = some (.int .i64 n2) := hloca.cell 1 rfl 0
    have a2 : wa.cell? ⟨w.heap.size + 1, 1, none⟩ = some (.slice ao2 ys.length cap2) := hloca.cell 1 rfl 1
    have Hv2a := Lib.hid (Hv2.out.keepb hba)
    clear hba hloc0
    go_wp2_with fail
    go_ret2
    exact ⟨BE.of hres.out, below_grownBy hloca.grown⟩
end Go.Proofs.Ytkgaipcgdldfdaa
