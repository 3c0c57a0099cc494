/- The reference's Stay. -/
import Derived.Test.YtkgaipcgdldfdaaSyp
namespace Go.Proofs.Ytkgaipcgdldfdaa
open Go.RowKit
set_option linter.unusedVariables false

def AllM1 (N : Nat) (xs : List Int) (ps : List (Int × Int)) (q : Nat) : Prop := ∀ i j, 1 ≤ i → i < q → 1 ≤ j → j ≤ N → mt N xs ps i j = true
def RowM1 (N : Nat) (xs : List Int) (ps : List (Int × Int)) (i q : Nat) : Prop := ∀ j, 1 ≤ j → j < q → mt N xs ps i j = true
theorem AllM1.succ {N : Nat} {xs : List Int} {ps : List (Int × Int)} {q : Nat} (h : AllM1 N xs ps q) (h' : RowM1 N xs ps q (N + 1)) : AllM1 N xs ps (q + 1) := fun i j h1 hi h2 hj => by
  by_cases e : i = q
  · subst e; exact h' j h2 (by omega)
  · exact h i j h1 (by omega) h2 hj
theorem RowM1.succ {N : Nat} {xs : List Int} {ps : List (Int × Int)} {i q : Nat} (h : RowM1 N xs ps i q) (h' : mt N xs ps i q = true) : RowM1 N xs ps i (q + 1) := fun j h1 hj => by
  by_cases e : j = q
  · subst e; exact h'
  · exact h j h1 (by omega)
theorem su1_iff {N : Nat} {xs : List Int} {ps : List (Int × Int)} (hlen : ps.length = N) (hA : AllP ps ps.length) : SuTo N xs ((0, 1) :: ps) 1 (N + 1) ↔ AllM1 N xs ps (N + 1) := by
  have e : ∀ i j, i ≤ N → j ≤ N → pm N xs ((0, 1) :: ps) i j = mt N xs ps i j := fun i j hi hj => by
    unfold pm mt
    rw [df_dif (ck_all hA (by omega)) (ck_all hA (by omega))]
  constructor
  · intro h i j h1 hi h2 hj
    rw [← e i j (by omega) hj]
    exact h i h1 hi j h2 (by omega)
  · intro h i h1 hi j h2 hj
    rw [e i j (by omega) (by omega)]
    exact h i j h1 hi h2 (by omega)
set_option maxRecDepth 100000 in
set_option maxHeartbeats 8000000 in
theorem ref_stay (n : Int) (zv v : Value) (xs : List Int) (ps : List (Int × Int)) (w : World) (hz : RL w.heap.size w zv xs) (hv : RQ w.heap.size w v ps) :
    Calls Try.prog 35 #[.agg #[.int .i64 n, zv], v] w fun e w' => SE (stayF n xs ps) e ∧ Below w.heap.size w w' := by
  obtain ⟨aoz, capz, rfl, hlez, _⟩ := hz.open
  obtain ⟨ao, cap, rfl, hle, _⟩ := hv.open
  have hloc0 := Loc.two w (.cells #[.int .i64 n, .slice aoz xs.length capz] 24) (.cells #[.int .i64 0, .int .i64 0, .int .i64 0, .int .i64 0, .bool false, .bool false, .bool false] 50) none
  have Hz := Lib.hid (hz.keepb (below_grownBy hloc0.grown))
  have Hv := Lib.hid (hv.keepb (below_grownBy hloc0.grown))
  have Hzw := Lib.hid hz
  have Hvw := Lib.hid hv
  clear hz hv
  by_cases hr : readyF n xs ps = 0
  rotate_left
  · have HT := Lib.hid (stayF_no (n := n) (xs := xs) (ps := ps) rfl hr)
    have hr' : (readyF n xs ps != 0) = true := by simpa using hr
    go_enter Try.func35, Try.ntmps35
    go_wp2_with fail
    refine (ref_ready _ _ _ xs ps _ Hz.out Hv.out).mono ?_
    rintro e w1 ⟨rfl, hb1⟩
    have hloc1 := hloc0.next (grownBy_below hb1 none) (fun _ h => by cases h)
    clear hb1 hloc0 hr
    have hb6 := below_grownBy hloc1.grown
    generalize readyF n xs ps = x at *
    have t0 : w1.cell? ⟨w.heap.size + 1, 0, none⟩ = some (.int .i64 0) := hloc1.cell 1 rfl 0
    have f0 : w1.frozen? ⟨w.heap.size + 1, 0, none⟩ = false := hloc1.free 1 rfl 0
    have t1 : w1.cell? ⟨w.heap.size + 1, 1, none⟩ = some (.int .i64 0) := hloc1.cell 1 rfl 1
    have f1 : w1.frozen? ⟨w.heap.size + 1, 1, none⟩ = false := hloc1.free 1 rfl 1
    have t2 : w1.cell? ⟨w.heap.size + 1, 2, none⟩ = some (.int .i64 0) := hloc1.cell 1 rfl 2
    have f2 : w1.frozen? ⟨w.heap.size + 1, 2, none⟩ = false := hloc1.free 1 rfl 2
    have t3 : w1.cell? ⟨w.heap.size + 1, 3, none⟩ = some (.int .i64 0) := hloc1.cell 1 rfl 3
    have f3 : w1.frozen? ⟨w.heap.size + 1, 3, none⟩ = false := hloc1.free 1 rfl 3
    have t4 : w1.cell? ⟨w.heap.size + 1, 4, none⟩ = some (.bool false) := hloc1.cell 1 rfl 4
    have f4 : w1.frozen? ⟨w.heap.size + 1, 4, none⟩ = false := hloc1.free 1 rfl 4
    have t5 : w1.cell? ⟨w.heap.size + 1, 5, none⟩ = some (.bool false) := hloc1.cell 1 rfl 5
    have f5 : w1.frozen? ⟨w.heap.size + 1, 5, none⟩ = false := hloc1.free 1 rfl 5
    have t6 : w1.cell? ⟨w.heap.size + 1, 6, none⟩ = some (.bool false) := hloc1.cell 1 rfl 6
    have f6 : w1.frozen? ⟨w.heap.size + 1, 6, none⟩ = false := hloc1.free 1 rfl 6
    go_wp2_with fail
    refine bodyPost_ret (v := .tuple #[(spz : Sp).delays, .int .i64 x]) (by simp [results, Try.results35, go_sem, Sp.delays, spz, t0, t1, t2, t3, t4, t5, t6]) rfl ⟨SE.of HT.out, ?_⟩
    exact (((((((hb6).setCell (Nat.le_add_right _ 1) _).setCell (Nat.le_add_right _ 1) _).setCell (Nat.le_add_right _ 1) _).setCell (Nat.le_add_right _ 1) _).setCell (Nat.le_add_right _ 1) _).setCell (Nat.le_add_right _ 1) _).setCell (Nat.le_add_right _ 1) _
  obtain ⟨hfit, hall, had⟩ := readyF_inv hr
  obtain rfl : (ps.length : Int) = n := hfit.2
  have HA := Lib.hid hall
  have hN : ps.length ≤ 10 := by have := hfit.1.hi; omega
  have Hx := Lib.hid (show xs.length = (ps.length + 1) * (ps.length + 1) by have := hfit.1.len; rwa [Int.toNat_natCast] at this)
  have Hr := Lib.hid hr
  have H1 := Lib.hid (stayF_wide hr)
  have H2 := Lib.hid (fun h (k : ¬ AllM1 ps.length xs ps (ps.length + 1)) => stayF_none hr h (fun h' => k ((su1_iff rfl hall).1 h')))
  have H3 := Lib.hid (fun h (k : AllM1 ps.length xs ps (ps.length + 1)) => stayF_told hr h ((su1_iff rfl hall).2 k))
  clear hr hfit hall had
  go_enter Try.func35, Try.ntmps35
  go_wp2_with fail
  refine (ref_ready _ _ _ xs ps _ Hz.out Hv.out).mono ?_
  rw [Hr.out]
  rintro e wa ⟨rfl, hba⟩
  have hloc1 := hloc0.next (grownBy_below hba none) (fun _ h => by cases h)
  clear hba hloc0 Hz Hv Hr
  go_wp2_with (go_at_call 90; refine (ref_start _).mono ?_; rintro e wb ⟨rfl, rfl⟩)
  have hS0 := heap_alloc_new wa (.cells sp0.cs 108)
  have hloc3 := hloc1.next (World.grownBy_alloc wa (.cells sp0.cs 108) none) (fun _ h => by cases h)
  have hwsb : w.heap.size + 2 ≤ wa.heap.size := hloc1.size
  generalize hSB : wa.heap.size = sb at *
  generalize wa.alloc (.cells sp0.cs 108) = wr1 at *
  clear hloc1 hSB
  go_loopw [8] (fun k wr => ∃ q : Nat, 1 ≤ q ∧ q ≤ ps.length + 1 ∧ k = .int .i64 q ∧ wr.heap[sb]? = some (.cells (stayTo ps.length xs ((0, 1) :: ps) (q - 1)).cs 108 (0, 0)) ∧ Loc w wr none [.cells #[.int .i64 ps.length, .slice aoz xs.length capz] 24, .cells #[.int .i64 0, .int .i64 0, .int .i64 0, .int .i64 0, .bool false, .bool false, .bool false] 50]) (fun k _ => ps.length + 1 - (intOf k).toNat)
  case atStart => exact ⟨1, Nat.le_refl _, by omega, rfl, hS0, hloc3⟩
  case round =>
    clear hS0 hloc3
    obtain ⟨q, hq1, hq2, rfl, hS', hloc⟩ := hrel
    obtain ⟨m, rfl⟩ : ∃ m, q = m + 1 := ⟨q - 1, by omega⟩
    have hSwr : wr.heap[sb]? = some (.cells (stayTo ps.length xs ((0, 1) :: ps) m).cs 108 (0, 0)) := hS'
    clear hS'
    have z0wr : wr.cell? ⟨w.heap.size, 0, none⟩ = some (.int .i64 ps.length) := hloc.cell 0 rfl 0
    have z1wr : wr.cell? ⟨w.heap.size, 1, none⟩ = some (.slice aoz xs.length capz) := hloc.cell 0 rfl 1
    have hsbwr : sb < wr.heap.size := (Array.getElem?_eq_some_iff.1 hSwr).1
    by_cases hml : m < ps.length
    · have htm : decide (((m + 1 : Nat) : Int) ≤ (ps.length : Int)) = true := by simp; omega
      have Hv1 := Lib.hid (Hvw.out.keepb (below_grownBy hloc.grown))
      have HS2 := Lib.hid (show stayTo ps.length xs ((0, 1) :: ps) (m + 1) = cutF (cutF (stayTo ps.length xs ((0, 1) :: ps) m) (-(ck ps (m + 1)).1) (ck ps (m + 1)).2 (ent ps.length xs (m + 1) 0) false) (-(ck ps (m + 1)).1) (ck ps (m + 1)).2 (ent ps.length xs 0 (m + 1)) true by rw [← gq_ck]; rfl)
      have hvl : vr (ck ps (m + 1)).1 (ck ps (m + 1)).2 = true := (okP_vr (ck_all HA.out (by omega))).1
      generalize hck : ck ps (m + 1) = P at *
      obtain ⟨pn, pd⟩ := P
      simp only at hvl HS2
      have Hck := Lib.hid hck
      generalize hS : stayTo ps.length xs ((0, 1) :: ps) m = S at *
      have belowIdx := Lib.hid (show gi xs (((m : Int) + 1).toNat * (ps.length + 1) + (0 : Int).toNat) = ent ps.length xs (m + 1) 0 by unfold ent; rw [show ((m : Int) + 1).toNat = m + 1 by omega]; rfl)
      have aboveIdx := Lib.hid (show gi xs ((0 : Int).toNat * (ps.length + 1) + ((m : Int) + 1).toNat) = ent ps.length xs 0 (m + 1) by unfold ent; rw [show ((m : Int) + 1).toNat = m + 1 by omega]; rfl)
      clear hck hS
      go_wp2_with (first
        | (go_at_call 84; refine (ref_clock _ ps (m + 1) _ Hv1.out (by omega)).mono ?_; rw [Hck.out]; rintro e w1 ⟨rfl, hb1⟩)
        | (go_at_call 91; refine (r1_neg pn pd _ hvl).mono ?_; rintro e w2 ⟨rfl, hb2⟩))
      have bA : Below wr.heap.size wr (w2.alloc (.cells #[.int .i64 (-pn), .int .i64 pd] 48)) := bal (bt hb1 hb2) _
      have hxb := heap_alloc_new w2 (.cells #[.int .i64 (-pn), .int .i64 pd] 48)
      have x0 := cell_of_row _ w2.heap.size 0 _ _ _ hxb
      have x1 := cell_of_row _ w2.heap.size 1 _ _ _ hxb
      have z0' := keepb z0wr bA
      have z1' := keepb z1wr bA
      have hS' := (bA.block sb hsbwr).trans hSwr
      have hsz2 : wr.heap.size ≤ w2.heap.size := (bt hb1 hb2).size
      have hxsb : w2.heap.size ≠ sb := by omega
      have hGA : wr.grownBy (w2.alloc (.cells #[.int .i64 (-pn), .int .i64 pd] 48)) (some sb) := grownBy_below bA _
      have HZA := Lib.hid (Hzw.out.keepb (below_grownBy (hloc.next (grownBy_below bA none) (fun _ h => by cases h)).grown))
      have hwsb2 : w.heap.size ≠ sb := by omega
      have hsbV : sb < (w2.alloc (.cells #[.int .i64 (-pn), .int .i64 pd] 48)).heap.size := (Array.getElem?_eq_some_iff.1 hS').1
      clear z0wr z1wr hSwr hxb bA hb1 hb2 hsbwr
      generalize hXB : w2.heap.size = xb at *
      generalize hV : w2.alloc (.cells #[.int .i64 (-pn), .int .i64 pd] 48) = V at *
      clear hV hXB
      go_region_held3 (fun w' => w'.cell? ⟨w.heap.size, 0, none⟩ = some (.int .i64 ps.length) ∧ w'.cell? ⟨w.heap.size, 1, none⟩ = some (.slice aoz xs.length capz) ∧ w'.cell? ⟨xb, 0, none⟩ = some (.int .i64 (-pn)) ∧ w'.cell? ⟨xb, 1, none⟩ = some (.int .i64 pd))
        (first | exact ⟨by assumption, by assumption, by assumption, by assumption⟩ | go_keep)
        (first
          | (go_at_call 77; refine (ref_at ps.length _ _ _ xs _ HZA.out.drew hN (by omega) (by omega) (by omega) (by omega) Hx.out).mono ?_; rw [belowIdx.out]; rintro e wbB ⟨rfl, hbB⟩; have b0B := keepb (show V.drew.cell? _ = _ from z0') hbB; have b1B := keepb (show V.drew.cell? _ = _ from z1') hbB; have b2B := keepb (show V.drew.cell? _ = _ from x0) hbB; have b3B := keepb (show V.drew.cell? _ = _ from x1) hbB)
          | (go_at_call 92; refine (ref_below sb _ (-pn) pd _ wbB ((hbB.block sb (show sb < V.heap.size from hsbV)).trans (show V.drew.heap[sb]? = _ from hS'))).mono ?_; rintro e wcB ⟨rfl, hSB, hgB⟩; have c0B := keepg b0B hgB hwsb2; have c1B := keepg b1B hgB hwsb2; have c2B := keepg b2B hgB hxsb; have c3B := keepg b3B hgB hxsb))
      have hGB : wr.grownBy wcB (some sb) := grownBy_trans hGA (grownBy_trans (grownBy_drew _ _) (grownBy_trans (grownBy_below hbB _) hgB))
      have hlocB := hloc.anyrow hGB (fun g e => by cases e; show w.heap.size + 2 ≤ sb; omega)
      have HZB := Lib.hid (Hzw.out.keepb (below_grownBy hlocB.grown))
      have hsbB : sb < wcB.heap.size := (Array.getElem?_eq_some_iff.1 hSB).1
      clear z0' z1' x0 x1 hS' hsbV hbB hgB b0B b1B b2B b3B hGA
      go_wp2_with fail
      go_region_held3 (fun w' => w'.cell? ⟨w.heap.size, 0, none⟩ = some (.int .i64 ps.length) ∧ w'.cell? ⟨w.heap.size, 1, none⟩ = some (.slice aoz xs.length capz) ∧ w'.cell? ⟨xb, 0, none⟩ = some (.int .i64 (-pn)) ∧ w'.cell? ⟨xb, 1, none⟩ = some (.int .i64 pd))
        (first | exact ⟨by assumption, by assumption, by assumption, by assumption⟩ | go_keep)
        (first
          | (go_at_call 77; refine (ref_at ps.length _ _ _ xs _ HZB.out.drew hN (by omega) (by omega) (by omega) (by omega) Hx.out).mono ?_; rw [aboveIdx.out]; rintro e wbA ⟨rfl, hbA⟩; have b0A := keepb (show wcB.drew.cell? _ = _ from c0B) hbA; have b1A := keepb (show wcB.drew.cell? _ = _ from c1B) hbA; have b2A := keepb (show wcB.drew.cell? _ = _ from c2B) hbA; have b3A := keepb (show wcB.drew.cell? _ = _ from c3B) hbA)
          | (go_at_call 93; refine (ref_above sb _ (-pn) pd _ wbA ((hbA.block sb (show sb < wcB.heap.size from hsbB)).trans (show wcB.drew.heap[sb]? = _ from hSB))).mono ?_; rintro e wcA ⟨rfl, hSA, hgA⟩; have c0A := keepg b0A hgA hwsb2; have c1A := keepg b1A hgA hwsb2; have c2A := keepg b2A hgA hxsb; have c3A := keepg b3A hgA hxsb))
      have hGC : wr.grownBy wcA (some sb) := grownBy_trans hGB (grownBy_trans (grownBy_drew _ _) (grownBy_trans (grownBy_below hbA _) hgA))
      have hlocC := hloc.anyrow hGC (fun g e => by cases e; show w.heap.size + 2 ≤ sb; omega)
      go_wp2_with fail
      go_roundw
      case rel => exact ⟨m + 2, by omega, by omega, by go_num, by show wcA.heap[sb]? = some (.cells (stayTo ps.length xs ((0, 1) :: ps) (m + 1)).cs 108 (0, 0)); rw [HS2.out]; exact hSA, hlocC⟩
      case measure => simp [intOf]; omega
    · have htm : decide (((m + 1 : Nat) : Int) ≤ (ps.length : Int)) = false := by simp; omega
      obtain rfl : m = ps.length := by omega
      have HW1 := Lib.hid (show (stayTo ps.length xs ((0, 1) :: ps) ps.length).wd = true → stayF ps.length xs ps = (spz, 7) from H1.out)
      have HW2 := Lib.hid (show (stayTo ps.length xs ((0, 1) :: ps) ps.length).wd = false → ¬ AllM1 ps.length xs ps (ps.length + 1) → stayF ps.length xs ps = (spz, 4) from H2.out)
      have HW3 := Lib.hid (show (stayTo ps.length xs ((0, 1) :: ps) ps.length).wd = false → AllM1 ps.length xs ps (ps.length + 1) → stayF ps.length xs ps = toldF (stayTo ps.length xs ((0, 1) :: ps) ps.length) from H3.out)
      generalize stayTo ps.length xs ((0, 1) :: ps) ps.length = S at *
      clear H1 H2 H3
      obtain ⟨ln, ld, hn, hd, lo, ho, nh, wd⟩ := S
      have s7 : wr.cell? ⟨sb, 7, none⟩ = some (.bool wd) := cell_of_row _ sb 7 _ _ _ hSwr
      cases wd with
      | true =>
        have HT := Lib.hid (HW1.out (by simp))
        have hb6 := below_grownBy hloc.grown
        have t0 : wr.cell? ⟨w.heap.size + 1, 0, none⟩ = some (.int .i64 0) := hloc.cell 1 rfl 0
        have f0 : wr.frozen? ⟨w.heap.size + 1, 0, none⟩ = false := hloc.free 1 rfl 0
        have t1 : wr.cell? ⟨w.heap.size + 1, 1, none⟩ = some (.int .i64 0) := hloc.cell 1 rfl 1
        have f1 : wr.frozen? ⟨w.heap.size + 1, 1, none⟩ = false := hloc.free 1 rfl 1
        have t2 : wr.cell? ⟨w.heap.size + 1, 2, none⟩ = some (.int .i64 0) := hloc.cell 1 rfl 2
        have f2 : wr.frozen? ⟨w.heap.size + 1, 2, none⟩ = false := hloc.free 1 rfl 2
        have t3 : wr.cell? ⟨w.heap.size + 1, 3, none⟩ = some (.int .i64 0) := hloc.cell 1 rfl 3
        have f3 : wr.frozen? ⟨w.heap.size + 1, 3, none⟩ = false := hloc.free 1 rfl 3
        have t4 : wr.cell? ⟨w.heap.size + 1, 4, none⟩ = some (.bool false) := hloc.cell 1 rfl 4
        have f4 : wr.frozen? ⟨w.heap.size + 1, 4, none⟩ = false := hloc.free 1 rfl 4
        have t5 : wr.cell? ⟨w.heap.size + 1, 5, none⟩ = some (.bool false) := hloc.cell 1 rfl 5
        have f5 : wr.frozen? ⟨w.heap.size + 1, 5, none⟩ = false := hloc.free 1 rfl 5
        have t6 : wr.cell? ⟨w.heap.size + 1, 6, none⟩ = some (.bool false) := hloc.cell 1 rfl 6
        have f6 : wr.frozen? ⟨w.heap.size + 1, 6, none⟩ = false := hloc.free 1 rfl 6
        go_wp2_with fail
        refine bodyPost_ret (v := .tuple #[(spz : Sp).delays, .int .i64 7]) (by simp [results, Try.results35, go_sem, Sp.delays, spz, t0, t1, t2, t3, t4, t5, t6]) rfl ⟨SE.of HT.out, ?_⟩
        exact (((((((hb6).setCell (Nat.le_add_right _ 1) _).setCell (Nat.le_add_right _ 1) _).setCell (Nat.le_add_right _ 1) _).setCell (Nat.le_add_right _ 1) _).setCell (Nat.le_add_right _ 1) _).setCell (Nat.le_add_right _ 1) _).setCell (Nat.le_add_right _ 1) _
      | false =>
        have HN4 := Lib.hid (HW2.out (by simp))
        have HTD := Lib.hid (HW3.out (by simp))
        have HlV := Lib.hid hloc
        have HsV := Lib.hid hSwr
        obtain ⟨V, hV⟩ : ∃ V, V = wr := ⟨_, rfl⟩
        have HbV := Lib.hid (show Below V.heap.size V wr by rw [hV]; exact Below.refl _ _)
        have HlV : Hid (Loc w V none [.cells #[.int .i64 ps.length, .slice aoz xs.length capz] 24, .cells #[.int .i64 0, .int .i64 0, .int .i64 0, .int .i64 0, .bool false, .bool false, .bool false] 50]) := by rw [hV]; exact HlV
        have HsV : Hid (V.heap[sb]? = some (.cells (Sp.cs ⟨ln, ld, hn, hd, lo, ho, nh, false⟩) 108 (0, 0))) := by rw [hV]; exact HsV
        have z0V : V.cell? ⟨w.heap.size, 0, none⟩ = some (.int .i64 ps.length) := by rw [hV]; exact z0wr
        have z1V : V.cell? ⟨w.heap.size, 1, none⟩ = some (.slice aoz xs.length capz) := by rw [hV]; exact z1wr
        have Z0V := Lib.hid z0V
        have Z1V := Lib.hid z1V
        clear HW1 HW2 HW3 z0V z1V hV hloc hsbwr
        go_wp2_with fail
        go_loopw [11, 12, 13, 14, 15, 16] (fun i _ _ _ _ _ wr => ∃ q : Nat, 1 ≤ q ∧ q ≤ ps.length + 1 ∧ i = .int .i64 q ∧ AllM1 ps.length xs ps q ∧ Below V.heap.size V wr) (fun i _ _ _ _ _ _ => ps.length + 1 - (intOf i).toNat)
        case atStart => exact ⟨1, Nat.le_refl _, by omega, rfl, fun i j h1 h2 => by omega, HbV.out⟩
        case round =>
          clear z0wr z1wr s7 hSwr HbV
          obtain ⟨i, hi1, hi, rfl, had, hbel⟩ := hrel
          have Had := Lib.hid had
          have Hbel := Lib.hid hbel
          clear had hbel
          have c0 := keepb Z0V.out Hbel.out
          by_cases hlt : i ≤ ps.length
          · go_wp2_with fail
            go_loopw [12, 13, 14, 15, 16] (fun j _ _ _ _ wr => ∃ q : Nat, 1 ≤ q ∧ q ≤ ps.length + 1 ∧ j = .int .i64 q ∧ RowM1 ps.length xs ps i q ∧ Below V.heap.size V wr) (fun j _ _ _ _ _ => ps.length + 1 - (intOf j).toNat)
            case atStart => exact ⟨1, Nat.le_refl _, by omega, rfl, fun j h1 h2 => by omega, Hbel.out⟩
            case round =>
              clear c0 Hbel
              obtain ⟨j, hj1, hj, rfl, hrd, hbel⟩ := hrel
              have Hrd := Lib.hid hrd
              have Hbel := Lib.hid hbel
              clear hrd hbel
              have c0 := keepb Z0V.out Hbel.out
              have c1 := keepb Z1V.out Hbel.out
              by_cases hlt2 : j ≤ ps.length
              · have Hloc := Lib.hid (HlV.out.next (grownBy_below Hbel.out none) (fun _ h => by cases h))
                have Hv1 := Lib.hid (Hvw.out.keepb (below_grownBy Hloc.out.grown))
                have Hz1 := Lib.hid (Hzw.out.keepb (below_grownBy Hloc.out.grown))
                generalize hD : dif ps i j = D
                obtain ⟨⟨p, q⟩, x⟩ := D
                have HD := Lib.hid hD
                have hM : mt ps.length xs ps i j = (meetR p q (gi xs (i * (ps.length + 1) + j))).1 := by unfold mt; rw [hD]
                generalize hB : meetR p q (gi xs (i * (ps.length + 1) + j)) = B at hM
                obtain ⟨b, y⟩ := B
                have HB := Lib.hid hB
                have HM := Lib.hid hM
                clear hD hB hM
                go_wp2_with (first
                  | (go_at_call 40; (refine (r1_sub _ _ _ _ _).mono ?_); rintro e w3 ⟨he, hb3⟩; (obtain rfl : e = .returned (.tuple #[.agg #[.int .i64 p, .int .i64 q], .int .i64 x]) := he.trans (by rw [show subR (ck ps i).1 (ck ps i).2 (ck ps j).1 (ck ps j).2 = ((p, q), x) from HD.out])))
                  | (go_at_call 84; (first
                    | ((with_reducible refine (ref_clock _ ps i _ Hv1.out (by omega)).mono ?_); rintro e w1 ⟨rfl, hb1⟩)
                    | ((with_reducible refine (ref_clock _ ps j _ (Hv1.out.keepb hb1) (by omega)).mono ?_); rintro e w2 ⟨rfl, hb2⟩))))
                have hb4 := bal (bt (bt hb1 hb2) hb3) (.cells #[.int .i64 p, .int .i64 q] 48)
                have d0 := keepb c0 hb4
                have d1 := keepb c1 hb4
                have Hz4 := Lib.hid (Hz1.out.keepb hb4)
                have hlw : w.heap.size < w3.heap.size + 1 := by have := World.block_lt_of_cell? _ _ d0; simpa using this
                have r0 : (w3.alloc (.cells #[.int .i64 p, .int .i64 q] 48)).cell? ⟨w3.heap.size, 0, none⟩ = some (.int .i64 p) := by go_simp
                have r1 : (w3.alloc (.cells #[.int .i64 p, .int .i64 q] 48)).cell? ⟨w3.heap.size, 1, none⟩ = some (.int .i64 q) := by go_simp
                have Hb4 := Lib.hid (bt Hbel.out hb4)
                generalize hW4 : w3.alloc (.cells #[.int .i64 p, .int .i64 q] 48) = w4 at *
                generalize hR3 : w3.heap.size = R3 at *
                clear hb1 hb2 hb3 hb4 c0 c1 hW4 hR3
                have e0 : w4.drew.cell? ⟨w.heap.size, 0, none⟩ = some (.int .i64 ps.length) := d0
                have e1 : w4.drew.cell? ⟨w.heap.size, 1, none⟩ = some (.slice aoz xs.length capz) := d1
                have e2 : w4.drew.cell? ⟨R3, 0, none⟩ = some (.int .i64 p) := r0
                have e3 : w4.drew.cell? ⟨R3, 1, none⟩ = some (.int .i64 q) := r1
                cases b with
                | false =>
                  have HT := Lib.hid (HN4.out (fun h => by have := h i j hi1 (by omega) hj1 hlt2; rw [HM.out] at this; cases this))
                  go_region_held3 (fun w' => w'.cell? ⟨w.heap.size, 0, none⟩ = some (.int .i64 ps.length) ∧ w'.cell? ⟨w.heap.size, 1, none⟩ = some (.slice aoz xs.length capz) ∧ w'.cell? ⟨R3, 0, none⟩ = some (.int .i64 p) ∧ w'.cell? ⟨R3, 1, none⟩ = some (.int .i64 q))
                    (first | exact ⟨by assumption, by assumption, by assumption, by assumption⟩ | go_keep)
                    (first
                      | (go_at_call 77; refine (ref_at ps.length _ _ _ xs _ Hz4.out.drew hN (by omega) (by omega) (by omega) (by omega) Hx.out).mono ?_; rintro e w5 ⟨rfl, hb5⟩; have k0 := keepb e0 hb5; have k1 := keepb e1 hb5; have k2 := keepb e2 hb5; have k3 := keepb e3 hb5)
                      | (go_at_call 85; refine (r2_meets _ _ _ _).mono ?_; rintro e w6 ⟨he, hb6⟩; (obtain rfl : e = .returned (.tuple #[.bool false, .int .i64 y]) := he.trans (by rw [HB.out])); have m0 := keepb k0 hb6; have m1 := keepb k1 hb6; have m2 := keepb k2 hb6; have m3 := keepb k3 hb6))
                  have Hloc7 := HlV.out.next (grownBy_below (bt (bt (Hb4.out.drew) hb5) hb6) none) (fun _ h => by cases h)
                  have hb6 := below_grownBy Hloc7.grown
                  have t0 : w6.cell? ⟨w.heap.size + 1, 0, none⟩ = some (.int .i64 0) := Hloc7.cell 1 rfl 0
                  have f0 : w6.frozen? ⟨w.heap.size + 1, 0, none⟩ = false := Hloc7.free 1 rfl 0
                  have t1 : w6.cell? ⟨w.heap.size + 1, 1, none⟩ = some (.int .i64 0) := Hloc7.cell 1 rfl 1
                  have f1 : w6.frozen? ⟨w.heap.size + 1, 1, none⟩ = false := Hloc7.free 1 rfl 1
                  have t2 : w6.cell? ⟨w.heap.size + 1, 2, none⟩ = some (.int .i64 0) := Hloc7.cell 1 rfl 2
                  have f2 : w6.frozen? ⟨w.heap.size + 1, 2, none⟩ = false := Hloc7.free 1 rfl 2
                  have t3 : w6.cell? ⟨w.heap.size + 1, 3, none⟩ = some (.int .i64 0) := Hloc7.cell 1 rfl 3
                  have f3 : w6.frozen? ⟨w.heap.size + 1, 3, none⟩ = false := Hloc7.free 1 rfl 3
                  have t4 : w6.cell? ⟨w.heap.size + 1, 4, none⟩ = some (.bool false) := Hloc7.cell 1 rfl 4
                  have f4 : w6.frozen? ⟨w.heap.size + 1, 4, none⟩ = false := Hloc7.free 1 rfl 4
                  have t5 : w6.cell? ⟨w.heap.size + 1, 5, none⟩ = some (.bool false) := Hloc7.cell 1 rfl 5
                  have f5 : w6.frozen? ⟨w.heap.size + 1, 5, none⟩ = false := Hloc7.free 1 rfl 5
                  have t6 : w6.cell? ⟨w.heap.size + 1, 6, none⟩ = some (.bool false) := Hloc7.cell 1 rfl 6
                  have f6 : w6.frozen? ⟨w.heap.size + 1, 6, none⟩ = false := Hloc7.free 1 rfl 6
                  go_wp2_with fail
                  refine bodyPost_ret (v := .tuple #[(spz : Sp).delays, .int .i64 4]) (by simp [results, Try.results35, go_sem, Sp.delays, spz, t0, t1, t2, t3, t4, t5, t6]) rfl ⟨SE.of HT.out, ?_⟩
                  exact (((((((hb6).setCell (Nat.le_add_right _ 1) _).setCell (Nat.le_add_right _ 1) _).setCell (Nat.le_add_right _ 1) _).setCell (Nat.le_add_right _ 1) _).setCell (Nat.le_add_right _ 1) _).setCell (Nat.le_add_right _ 1) _).setCell (Nat.le_add_right _ 1) _
                | true =>
                  have hst := Lib.hid (Hrd.out.succ HM.out)
                  go_region_held3 (fun w' => w'.cell? ⟨w.heap.size, 0, none⟩ = some (.int .i64 ps.length) ∧ w'.cell? ⟨w.heap.size, 1, none⟩ = some (.slice aoz xs.length capz) ∧ w'.cell? ⟨R3, 0, none⟩ = some (.int .i64 p) ∧ w'.cell? ⟨R3, 1, none⟩ = some (.int .i64 q))
                    (first | exact ⟨by assumption, by assumption, by assumption, by assumption⟩ | go_keep)
                    (first
                      | (go_at_call 77; refine (ref_at ps.length _ _ _ xs _ Hz4.out.drew hN (by omega) (by omega) (by omega) (by omega) Hx.out).mono ?_; rintro e w5 ⟨rfl, hb5⟩; have k0 := keepb e0 hb5; have k1 := keepb e1 hb5; have k2 := keepb e2 hb5; have k3 := keepb e3 hb5)
                      | (go_at_call 85; refine (r2_meets _ _ _ _).mono ?_; rintro e w6 ⟨he, hb6⟩; (obtain rfl : e = .returned (.tuple #[.bool true, .int .i64 y]) := he.trans (by rw [HB.out])); have m0 := keepb k0 hb6; have m1 := keepb k1 hb6; have m2 := keepb k2 hb6; have m3 := keepb k3 hb6))
                  go_wp2_with fail
                  go_roundw
                  case rel => ((repeat apply Exists.intro); exact ⟨⟨j + 1, by omega, by omega, by go_num, hst.out, bt (bt (Hb4.out.drew) hb5) hb6⟩, rfl⟩)
                  case measure => simp [intOf]; omega
              · have hd' : decide ((j : Int) ≤ (ps.length : Int)) = false := by simp; omega
                have HQj := Lib.hid (show j = ps.length + 1 by omega)
                go_wp2_with fail
                go_roundw
                case rel => exact ⟨i + 1, by omega, by omega, by go_num, Had.out.succ (by rw [← HQj.out]; exact Hrd.out), Hbel.out⟩
                case measure => simp [intOf]; omega
          · have hd' : decide ((i : Int) ≤ (ps.length : Int)) = false := by simp; omega
            have HQi := Lib.hid (show i = ps.length + 1 by omega)
            have HR := Lib.hid (HTD.out (by rw [← HQi.out]; exact Had.out))
            have HSr := Lib.hid ((Hbel.out.block sb (Array.getElem?_eq_some_iff.1 HsV.out).1).trans HsV.out)
            obtain ⟨R, hR⟩ : ∃ R, R = toldF ⟨ln, ld, hn, hd, lo, ho, nh, false⟩ := ⟨_, rfl⟩
            have HRR := Lib.hid hR.symm
            have HT := Lib.hid (HR.out.trans hR.symm)
            clear hR
            obtain ⟨⟨an, ad, bn, bd, ao', bo', ah, aw⟩, x⟩ := R
            go_wp2_with fail
            refine (ref_told sb _ _ HSr.out).mono ?_
            rw [HRR.out]
            rintro e w9 ⟨he, hb9⟩
            obtain rfl : e = .returned (.tuple #[.agg #[.int .i64 an, .int .i64 ad, .int .i64 bn, .int .i64 bd, .bool ao', .bool bo', .bool ah], .int .i64 x]) := he
            have Hloc9 := HlV.out.next (grownBy_below (bt Hbel.out hb9) none) (fun _ h => by cases h)
            have hb6 := below_grownBy Hloc9.grown
            clear hb9 c0
            have t0 : w9.cell? ⟨w.heap.size + 1, 0, none⟩ = some (.int .i64 0) := Hloc9.cell 1 rfl 0
            have f0 : w9.frozen? ⟨w.heap.size + 1, 0, none⟩ = false := Hloc9.free 1 rfl 0
            have t1 : w9.cell? ⟨w.heap.size + 1, 1, none⟩ = some (.int .i64 0) := Hloc9.cell 1 rfl 1
            have f1 : w9.frozen? ⟨w.heap.size + 1, 1, none⟩ = false := Hloc9.free 1 rfl 1
            have t2 : w9.cell? ⟨w.heap.size + 1, 2, none⟩ = some (.int .i64 0) := Hloc9.cell 1 rfl 2
            have f2 : w9.frozen? ⟨w.heap.size + 1, 2, none⟩ = false := Hloc9.free 1 rfl 2
            have t3 : w9.cell? ⟨w.heap.size + 1, 3, none⟩ = some (.int .i64 0) := Hloc9.cell 1 rfl 3
            have f3 : w9.frozen? ⟨w.heap.size + 1, 3, none⟩ = false := Hloc9.free 1 rfl 3
            have t4 : w9.cell? ⟨w.heap.size + 1, 4, none⟩ = some (.bool false) := Hloc9.cell 1 rfl 4
            have f4 : w9.frozen? ⟨w.heap.size + 1, 4, none⟩ = false := Hloc9.free 1 rfl 4
            have t5 : w9.cell? ⟨w.heap.size + 1, 5, none⟩ = some (.bool false) := Hloc9.cell 1 rfl 5
            have f5 : w9.frozen? ⟨w.heap.size + 1, 5, none⟩ = false := Hloc9.free 1 rfl 5
            have t6 : w9.cell? ⟨w.heap.size + 1, 6, none⟩ = some (.bool false) := Hloc9.cell 1 rfl 6
            have f6 : w9.frozen? ⟨w.heap.size + 1, 6, none⟩ = false := Hloc9.free 1 rfl 6
            go_wp2_with fail
            refine bodyPost_ret (v := .tuple #[(⟨an, ad, bn, bd, ao', bo', ah, aw⟩ : Sp).delays, .int .i64 x]) (by simp [results, Try.results35, go_sem, Sp.delays, t0, t1, t2, t3, t4, t5, t6]) rfl ⟨SE.of HT.out, ?_⟩
            exact (((((((hb6).setCell (Nat.le_add_right _ 1) _).setCell (Nat.le_add_right _ 1) _).setCell (Nat.le_add_right _ 1) _).setCell (Nat.le_add_right _ 1) _).setCell (Nat.le_add_right _ 1) _).setCell (Nat.le_add_right _ 1) _).setCell (Nat.le_add_right _ 1) _
end Go.Proofs.Ytkgaipcgdldfdaa
