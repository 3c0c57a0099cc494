/- Part of the proof of priced_resets_proved: Rand. -/
import Derived.Test.YtfphlpglgcmljaaGreatXsQ
import Derived.Test.YtfphlpglgcmljaaGreatXsInc
import Derived.Test.YtfphlpglgcmljaaGreatXsZref4
namespace Go.Proofs.YtfphlpglgcmljaaGreat
open Go.RowKit
set_option linter.unusedVariables false
def kOk (N : Nat) (c : Int × Int × Int) : Bool := decide (0 ≤ c.1 ∧ c.1 ≤ N ∧ 0 ≤ c.2.1 ∧ c.2.1 ≤ N) && vld c.2.2
def andTo (N : Nat) (m : List Int) (cs : List (Int × Int × Int)) : Nat → List Int
 | 0 => m
 | q + 1 => (andTo N m cs q).set ((gk cs q).1.toNat * (N + 1) + (gk cs q).2.1.toNat) (imin (gi (andTo N m cs q) ((gk cs q).1.toNat * (N + 1) + (gk cs q).2.1.toNat)) (gk cs q).2.2)
theorem andTo_len (N : Nat) (m : List Int) (cs : List (Int × Int × Int)) (q : Nat) : (andTo N m cs q).length = m.length := by
 induction q with
 | zero => rfl
 | succ q ih => rw [andTo, List.length_set, ih]
def AllK (N : Nat) (cs : List (Int × Int × Int)) (q : Nat) : Prop := ∀ k, k < q → kOk N (gk cs k) = true
theorem AllK.succ {N : Nat} {cs : List (Int × Int × Int)} {q : Nat} (h : AllK N cs q) (h' : kOk N (gk cs q) = true) : AllK N cs (q + 1) := fun k hk => by
 by_cases e : k = q
 ·subst e; exact h'
 ·exact h k (by omega)
open Classical in
/-- What And returns. -/
noncomputable def andF (n : Int) (xs : List Int) (cs : List (Int × Int × Int)) : Int × List Int :=
 if OkZ n xs ∧ AllK n.toNat cs cs.length then closedF n.toNat (andTo n.toNat xs cs cs.length) else (2, [])
theorem andF_no {n : Int} {xs : List Int} {cs : List (Int × Int × Int)} (h : ¬ (OkZ n xs ∧ AllK n.toNat cs cs.length)) : andF n xs cs = (2, []) := by unfold andF; rw [if_neg h]
theorem andF_yes {N : Nat} {xs : List Int} {cs : List (Int × Int × Int)} (h : OkZ N xs) (h' : AllK N cs cs.length) : andF N xs cs = closedF N (andTo N xs cs cs.length) := by
 unfold andF; rw [if_pos ⟨h, by rw [Int.toNat_natCast]; exact h'⟩, Int.toNat_natCast]
theorem kOk_iff (N : Nat) (I J L : Int) : kOk N (I, J, L) = true ↔ (0 ≤ I ∧ I ≤ N ∧ 0 ≤ J ∧ J ≤ N ∧ vld L = true) := by
 unfold kOk; rw [Bool.and_eq_true, decide_eq_true_eq]
 exact ⟨fun h => ⟨h.1.1, h.1.2.1, h.1.2.2.1, h.1.2.2.2, h.2⟩, fun h => ⟨⟨h.1, h.2.1, h.2.2.1, h.2.2.2.1⟩, h.2.2.2.2⟩⟩
theorem Loc.put {w wr : World} {row : Option Nat} {l : List Obj} (h : Loc w wr row l) (i : Nat) {cs : Array Value} {t : TypeId} (hl : l[i]? = some (.cells cs t (0, 0))) (k : Nat) (v : Value) :
  Loc w (wr.setCell ⟨w.heap.size + i, k, none⟩ v) row (l.set i (.cells (cs.setIfInBounds k v) t (0, 0))) := by
 have hil := (List.getElem?_eq_some_iff.1 hl).1
 have hs := h.size
 have hb : wr.heap[w.heap.size + i]? = some (.cells cs t (0, 0)) := by rw [h.objs i hil]; exact hl
 refine ⟨⟨h.grown.os, h.grown.tape, h.grown.output, by simp [World.setCell]; exact h.grown.size, fun j hj hne => ?_⟩, fun j hj => ?_, by simp [World.setCell]; exact hs⟩
 ·rw [Below.heap_setCell _ _ _ _ (by simp; omega)]; exact h.grown.block j hj hne
 ·rw [List.length_set] at hj
  by_cases e : j = i
  ·subst e
   rw [heap_setCell_same _ _ _ _ _ _ hb, List.getElem?_set_self hil]
  ·rw [Below.heap_setCell _ _ _ _ (by simp; omega), List.getElem?_set_ne (by omega)]; exact h.objs j hj
theorem Loc.belowB {w wr w' : World} {l : List Obj} {B : Nat} (h : Loc w wr none l) (hb : Below B wr w') (hB : w.heap.size + l.length ≤ B) : Loc w w' none l :=
 ⟨⟨hb.os.trans h.grown.os, hb.tape.trans h.grown.tape, hb.output.trans h.grown.output, Nat.le_trans h.grown.size hb.size, fun i hi hne => (hb.block i (by omega)).trans (h.grown.block i hi hne)⟩,
  fun i hi => (hb.block _ (by omega)).trans (h.objs i hi), Nat.le_trans h.size hb.size⟩
set_option maxRecDepth 100000 in
set_option maxHeartbeats 4000000 in
theorem ref_and (n : Int) (zv v : Value) (xs : List Int) (cs : List (Int × Int × Int)) (w : World) (hz : RL w.heap.size w zv xs) (hv : RK w.heap.size w v cs) :
    Calls Tryz.prog 65 #[.agg #[.int .i64 n, zv], v] w fun e w' => ZPost 63 w.heap.size n (andF n xs cs) e w' ∧ Below w.heap.size w w' := by
  obtain ⟨aoz, capz, rfl, hlez, _⟩ := hz.open
  obtain ⟨ao, cap, rfl, hle, h0⟩ := hv.open
  have hloc0 := Loc.two w (.cells #[.int .i64 n, .slice aoz xs.length capz] 32) (.cells #[.int .i64 0, .slice none 0 0] 32) none
  have Hz := Lib.hid (hz.keepb (below_grownBy hloc0.grown))
  have Hzw := Lib.hid hz
  have H0 := Lib.hid h0
  clear hz hv h0
  by_cases hok : OkZ n xs
  · obtain ⟨N, rfl⟩ : ∃ N : Nat, n = N := ⟨n.toNat, by have := hok.lo; omega⟩
    have Hok := Lib.hid hok
    have hN : N ≤ 10 := by have := hok.hi; omega
    have Hx := Lib.hid (show xs.length = (N + 1) * (N + 1) by have := hok.len; rwa [Int.toNat_natCast] at this)
    clear hok
    go_enter Tryz.func65, Tryz.ntmps65
    go_wp2_with fail
    refine (ref_check_ok _ _ xs _ Hz.out Hok.out).mono ?_
    rintro e wa ⟨rfl, hba⟩
    have hloca := hloc0.next (grownBy_below hba none) (fun _ h => by cases h)
    clear hba hloc0
    go_wp2_with fail
    go_loopw [6] (fun i wr => ∃ q : Nat, q ≤ cs.length ∧ i = .int .i64 q ∧ AllK N cs q ∧ Loc w wr none [.cells #[.int .i64 N, .slice aoz xs.length capz] 32, .cells #[.int .i64 0, .slice none 0 0] 32]) (fun i _ => cs.length - (intOf i).toNat)
    case atStart => exact ⟨0, by omega, rfl, fun _ h => by omega, hloca⟩
    case round =>
      clear hloca
      obtain ⟨q, hq, rfl, hall, hloc⟩ := hrel
      have Hall := Lib.hid hall
      clear hall
      have c0 : wr.cell? ⟨w.heap.size, 0, none⟩ = some (.int .i64 N) := hloc.cell 0 rfl 0
      have c1 : wr.cell? ⟨w.heap.size, 1, none⟩ = some (.slice aoz xs.length capz) := hloc.cell 0 rfl 1
      have r0 : wr.cell? ⟨w.heap.size + 1, 0, none⟩ = some (.int .i64 0) := hloc.cell 1 rfl 0
      have r1 : wr.cell? ⟨w.heap.size + 1, 1, none⟩ = some (.slice none 0 0) := hloc.cell 1 rfl 1
      have r2 : wr.frozen? ⟨w.heap.size + 1, 0, none⟩ = false := hloc.free 1 rfl 0
      have r3 : wr.frozen? ⟨w.heap.size + 1, 1, none⟩ = false := hloc.free 1 rfl 1
      by_cases hlt : q < cs.length
      · obtain ⟨b, off, rfl, hb, hc⟩ := H0.out (by omega)
        obtain ⟨x1, x2, x3⟩ := hc q hlt
        have y1 := ((bcell (below_grownBy hloc.grown)).1 _ _ hb).trans x1
        have y2 := ((bcell (below_grownBy hloc.grown)).1 _ _ hb).trans x2
        have y3 := ((bcell (below_grownBy hloc.grown)).1 _ _ hb).trans x3
        have y4 : (q : Int) < cs.length := by omega
        clear hc x1 x2 x3
        generalize hG : gk cs q = c at y1 y2 y3
        obtain ⟨I, J, L⟩ := c
        have HG := Lib.hid hG
        clear hG
        by_cases hk : kOk N (I, J, L) = true
        · have hst := Lib.hid (Hall.out.succ (by rw [HG.out]; exact hk))
          obtain ⟨k1, k2, k3, k4, k5⟩ := (kOk_iff N I J L).1 hk
          have d1 : decide (I < 0) = false := by simp; omega
          have d2 : decide ((N : Int) < I) = false := by simp; omega
          have d3 : decide (J < 0) = false := by simp; omega
          have d4 : decide ((N : Int) < J) = false := by simp; omega
          clear hk
          go_wp2_with fail
          go_quiet ((go_at_call 125; exact quiet_same0 (by have := ref_valid L; rw [k5] at this; exact this _)))
          go_wp2_with fail
          go_roundw
          case rel => exact ⟨q + 1, by omega, by go_num, hst.out, hloc.next (grownBy_below (bdn (Below.refl _ _) _) none) (fun _ h => by cases h)⟩
          case measure => simp [intOf]; omega
        · have hres := Lib.hid (andF_no (n := (N : Int)) (xs := xs) (cs := cs) (fun h => hk (by have := h.2 q (by omega); rw [HG.out, Int.toNat_natCast] at this; exact this)))
          have hk2 := fun h => hk ((kOk_iff N I J L).2 h)
          clear hk
          by_cases d0 : I < 0
          · have e0 : decide (I < 0) = true := by simpa using d0
            go_wp2_with fail
            go_quiet (fail)
            go_wp2_with fail
            refine bodyPost_ret (v := .tuple #[.agg #[.int .i64 0, .slice none 0 0], .int .i64 2]) (by simp [results, Tryz.results65, go_sem, r0, r1]) rfl ⟨ZPost.err hres.out (by omega) _, ?_⟩
            exact ((bdn (below_grownBy hloc.grown) _).setCell (by simp) _).setCell (by simp) _
          · have e0 : decide (I < 0) = false := by simpa using d0
            by_cases d1 : (N : Int) < I
            · have e1 : decide ((N : Int) < I) = true := by simpa using d1
              go_wp2_with fail
              go_quiet (fail)
              go_wp2_with fail
              refine bodyPost_ret (v := .tuple #[.agg #[.int .i64 0, .slice none 0 0], .int .i64 2]) (by simp [results, Tryz.results65, go_sem, r0, r1]) rfl ⟨ZPost.err hres.out (by omega) _, ?_⟩
              exact ((bdn (below_grownBy hloc.grown) _).setCell (by simp) _).setCell (by simp) _
            · have e1 : decide ((N : Int) < I) = false := by simpa using d1
              by_cases d2 : J < 0
              · have e2 : decide (J < 0) = true := by simpa using d2
                go_wp2_with fail
                go_quiet (fail)
                go_wp2_with fail
                refine bodyPost_ret (v := .tuple #[.agg #[.int .i64 0, .slice none 0 0], .int .i64 2]) (by simp [results, Tryz.results65, go_sem, r0, r1]) rfl ⟨ZPost.err hres.out (by omega) _, ?_⟩
                exact ((bdn (below_grownBy hloc.grown) _).setCell (by simp) _).setCell (by simp) _
              · have e2 : decide (J < 0) = false := by simpa using d2
                by_cases d3 : (N : Int) < J
                · have e3 : decide ((N : Int) < J) = true := by simpa using d3
                  go_wp2_with fail
                  go_quiet (fail)
                  go_wp2_with fail
                  refine bodyPost_ret (v := .tuple #[.agg #[.int .i64 0, .slice none 0 0], .int .i64 2]) (by simp [results, Tryz.results65, go_sem, r0, r1]) rfl ⟨ZPost.err hres.out (by omega) _, ?_⟩
                  exact ((bdn (below_grownBy hloc.grown) _).setCell (by simp) _).setCell (by simp) _
                · have e3 : decide ((N : Int) < J) = false := by simpa using d3
                  have d4 : vld L = false := by
                    cases h : vld L
                    · rfl
                    · exact absurd ⟨by omega, by omega, by omega, by omega, h⟩ hk2
                  clear hk2
                  go_wp2_with fail
                  go_quiet ((go_at_call 125; exact quiet_same0 (by have := ref_valid L; rw [d4] at this; exact this _)))
                  go_wp2_with fail
                  refine bodyPost_ret (v := .tuple #[.agg #[.int .i64 0, .slice none 0 0], .int .i64 2]) (by simp [results, Tryz.results65, go_sem, r0, r1]) rfl ⟨ZPost.err hres.out (by omega) _, ?_⟩
                  exact ((bdn (below_grownBy hloc.grown) _).setCell (by simp) _).setCell (by simp) _
      · have hd : decide ((q : Int) < (cs.length : Int)) = false := by simp; omega
        obtain ⟨wo, rfl⟩ : ∃ wo : World, wo = wr := ⟨_, rfl⟩
        have HK := Lib.hid (show AllK N cs cs.length from fun k hk => Hall.out k (by omega))
        have hres := Lib.hid (andF_yes Hok.out HK.out)
        have Hz1 := Lib.hid (Hzw.out.keepb (below_grownBy hloc.grown))
        have hxb : xs.length ≤ 1000 := by have : xs.length ≤ 121 := by rw [Hx.out]; exact Nat.mul_le_mul (by omega : N + 1 ≤ 11) (by omega : N + 1 ≤ 11)
                                          omega
        go_wp2_with fail
        refine (ref_copied N _ xs _ Hz1.out hxb).mono ?_
        rintro e w2 ⟨v2, rfl, ho2, hb2⟩
        have hpos : 0 < xs.length := by rw [Hx.out]; exact Nat.mul_pos (by omega) (by omega)
        obtain ⟨g, cap2, rfl, hg2, hg3, _, _⟩ := ho2.open hpos
        have hloc2 := hloc.next (grownBy_below hb2 none) (fun _ h => by cases h)
        have hsz2 : w.heap.size + 2 ≤ wo.heap.size := hloc.size
        have q0 : w2.cell? ⟨w.heap.size, 0, none⟩ = some (.int .i64 N) := hloc2.cell 0 rfl 0
        have q1 : w2.cell? ⟨w.heap.size, 1, none⟩ = some (.slice aoz xs.length capz) := hloc2.cell 0 rfl 1
        have q2 : w2.frozen? ⟨w.heap.size, 0, none⟩ = false := hloc2.free 0 rfl 0
        have q3 : w2.frozen? ⟨w.heap.size, 1, none⟩ = false := hloc2.free 0 rfl 1
        have ho3 := own_set2 (w := w2) ho2 (b := w.heap.size) (by omega) (.int .i64 N) (.slice (some ⟨g, 0, none⟩) xs.length cap2)
        have hloc3 := (hloc2.put 0 rfl 0 (.int .i64 N)).put 0 rfl 1 (.slice (some ⟨g, 0, none⟩) xs.length cap2)
        clear hb2 ho2 hloc hloc2 c0 c1 r0 r1 r2 r3
        go_wp2_with fail
        go_loopw [7] (fun i wr2 => ∃ q : Nat, q ≤ cs.length ∧ i = .int .i64 q ∧ OL 63 wo.heap.size wr2 (.slice (some ⟨g, 0, none⟩) xs.length cap2) (andTo N xs cs q) ∧ Loc w wr2 none [.cells #[.int .i64 N, .slice (some ⟨g, 0, none⟩) xs.length cap2] 32, .cells #[.int .i64 0, .slice none 0 0] 32]) (fun i _ => cs.length - (intOf i).toNat)
        case atStart => exact ⟨0, by omega, rfl, ho3, hloc3⟩
        case round =>
          clear ho3 hloc3 q0 q1 q2 q3
          obtain ⟨q, hq, rfl, hown, hloc⟩ := hrel
          have c0 : wr.cell? ⟨w.heap.size, 0, none⟩ = some (.int .i64 N) := hloc.cell 0 rfl 0
          have c1 : wr.cell? ⟨w.heap.size, 1, none⟩ = some (.slice (some ⟨g, 0, none⟩) xs.length cap2) := hloc.cell 0 rfl 1
          have hlA := Lib.hid (andTo_len N xs cs q)
          by_cases hlt2 : q < cs.length
          · obtain ⟨b, off, rfl, hb, hc⟩ := H0.out (by omega)
            obtain ⟨x1, x2, x3⟩ := hc q hlt2
            have hkk := HK.out q hlt2
            have Hst := Lib.hid (show andTo N xs cs (q + 1) = (andTo N xs cs q).set ((gk cs q).1.toNat * (N + 1) + (gk cs q).2.1.toNat) (imin (gi (andTo N xs cs q) ((gk cs q).1.toNat * (N + 1) + (gk cs q).2.1.toNat)) (gk cs q).2.2) from rfl)
            generalize hG : gk cs q = c at x1 x2 x3 hkk Hst
            obtain ⟨I, J, L⟩ := c
            obtain ⟨k1, k2, k3, k4, k5⟩ := (kOk_iff N I J L).1 hkk
            have y1 := ((bcell (below_grownBy hloc.grown)).1 _ _ hb).trans x1
            have y2 := ((bcell (below_grownBy hloc.grown)).1 _ _ hb).trans x2
            have y3 := ((bcell (below_grownBy hloc.grown)).1 _ _ hb).trans x3
            have y4 : (q : Int) < cs.length := by omega
            have hmin := imin_fold
            clear hc x1 x2 x3 hkk k5 hG
            generalize hA : andTo N xs cs q = M at hown hlA Hst
            clear hA
            go_wp2_with fail
            have e0 : wr.drew.cell? ⟨w.heap.size, 0, none⟩ = some (.int .i64 N) := c0
            have e1 : wr.drew.cell? ⟨w.heap.size, 1, none⟩ = some (.slice (some ⟨g, 0, none⟩) xs.length cap2) := c1
            have e2 : wr.drew.cell? ⟨b, off + q * 3, none⟩ = some (.int .i64 I) := y1
            have e3 : wr.drew.cell? ⟨b, off + q * 3 + 1, none⟩ = some (.int .i64 J) := y2
            have e4 : wr.drew.cell? ⟨b, off + q * 3 + 2, none⟩ = some (.int .i64 L) := y3
            have hown' := hown.drew
            have b0 : Below wr.heap.size wr wr.drew := (Below.refl _ _).drew
            go_region_held3 (fun w' => w'.cell? ⟨w.heap.size, 0, none⟩ = some (.int .i64 N) ∧ w'.cell? ⟨w.heap.size, 1, none⟩ = some (.slice (some ⟨g, 0, none⟩) xs.length cap2) ∧ w'.cell? ⟨b, off + q * 3, none⟩ = some (.int .i64 I) ∧ w'.cell? ⟨b, off + q * 3 + 1, none⟩ = some (.int .i64 J) ∧ w'.cell? ⟨b, off + q * 3 + 2, none⟩ = some (.int .i64 L))
              (first | exact ⟨by assumption, by assumption, by assumption, by assumption, by assumption⟩ | go_keep)
              (first
                | (go_at_call 89; refine (ref_at N _ _ _ M _ (OL.rl (by assumption)) hN (by omega) (by omega) (by omega) (by omega) (hlA.out.trans Hx.out)).mono ?_; rintro e w1 ⟨rfl, hb1⟩; have k0 := keepb e0 hb1; have k1 := keepb e1 hb1; have k2 := keepb e2 hb1; have k3 := keepb e3 hb1; have k4 := keepb e4 hb1; have o1 := OL.keepb hown' hb1; have b1 := bt (a := wr) b0 hb1)
                | (go_at_call 123; refine (ref_set N _ _ _ g cap2 _ M wo.heap.size _ (by assumption) hN (by omega) (by omega) (by omega) (by omega) (hlA.out.trans Hx.out)).mono ?_; rintro e w4 ⟨rfl, hown4, hg4⟩; have n0 := keepg k0 hg4 (by omega); have n1 := keepg k1 hg4 (by omega); have n2 := keepg k2 hg4 (by omega); have n3 := keepg k3 hg4 (by omega); have n4 := keepg k4 hg4 (by omega)))
            go_wp2_with fail
            go_roundw
            case rel => exact ⟨q + 1, by omega, by go_num, by rw [Hst.out]; exact hown4, hloc.anyrow (grownBy_trans (grownBy_below b1 _) hg4) (fun _ h => by simp at h; subst h; exact Nat.le_trans hsz2 (by omega))⟩
            case measure => simp [intOf]; omega
          · have hd2 : decide ((q : Int) < (cs.length : Int)) = false := by simp; omega
            have HF := Lib.hid (show closedF N (andTo N xs cs q) = andF N xs cs by rw [hres.out, show q = cs.length by omega])
            have hwb : wo.heap.size ≤ wr.heap.size := Nat.le_trans (Nat.le_trans (by omega) (show g + 1 ≤ wr.heap.size by
              obtain ⟨g', _, e1, _, e2, _⟩ := hown.open (by rw [hlA.out]; exact hpos)
              simp only [Value.slice.injEq, Option.some.injEq, Addr.mk.injEq, and_true] at e1
              omega)) (Nat.le_refl _)
            generalize hA : andTo N xs cs q = M at hown hlA HF
            clear hA
            go_wp2_with fail
            refine (ref_closed N _ M wo.heap.size wr (by have e := hlA.out; exact hown) hwb hN (hlA.out.trans Hx.out)).mono ?_
            rw [HF.out]
            generalize hR : andF (N : Int) xs cs = R
            have HR := Lib.hid hR
            clear hR
            rintro e w5 ⟨⟨v5, rfl, ho5⟩, hb5⟩
            obtain ⟨ao5, cap5, rfl⟩ := owns_form ho5
            have hloc5 := hloc.belowB hb5 (by simpa using hsz2)
            have r0 : w5.cell? ⟨w.heap.size + 1, 0, none⟩ = some (.int .i64 0) := hloc5.cell 1 rfl 0
            have r1 : w5.cell? ⟨w.heap.size + 1, 1, none⟩ = some (.slice none 0 0) := hloc5.cell 1 rfl 1
            have r2 : w5.frozen? ⟨w.heap.size + 1, 0, none⟩ = false := hloc5.free 1 rfl 0
            have r3 : w5.frozen? ⟨w.heap.size + 1, 1, none⟩ = false := hloc5.free 1 rfl 1
            have Ho5 := Lib.hid ho5
            have Hb5 := Lib.hid (below_grownBy hloc5.grown)
            clear ho5 hb5 hloc hloc5 c0 c1 hown
            go_wp2_with fail
            refine bodyPost_ret (v := .tuple #[.agg #[.int .i64 (zdim R N), .slice ao5 R.2.length cap5], .int .i64 R.1]) (by simp [results, Tryz.results65, go_sem, r0, r1]) rfl ⟨⟨_, by rw [HR.out], ?_⟩, ?_⟩
            · rw [HR.out]; exact OL.mono (base := wo.heap.size) (own_set2 Ho5.out (by omega) _ _) (by omega)
            · exact (Hb5.out.setCell (by simp) _).setCell (by simp) _
  · have hres := Lib.hid (andF_no (n := n) (xs := xs) (cs := cs) (fun h => hok h.1))
    go_enter Tryz.func65, Tryz.ntmps65
    go_wp2_with fail
    refine (ref_check_bad _ _ xs _ Hz.out hok).mono ?_
    rintro e wa ⟨rfl, hba⟩
    have hloca := hloc0.next (grownBy_below hba none) (fun _ h => by cases h)
    have r0 : wa.cell? ⟨w.heap.size + 1, 0, none⟩ = some (.int .i64 0) := hloca.cell 1 rfl 0
    have r1 : wa.cell? ⟨w.heap.size + 1, 1, none⟩ = some (.slice none 0 0) := hloca.cell 1 rfl 1
    have r2 : wa.frozen? ⟨w.heap.size + 1, 0, none⟩ = false := hloca.free 1 rfl 0
    have r3 : wa.frozen? ⟨w.heap.size + 1, 1, none⟩ = false := hloca.free 1 rfl 1
    clear hba hloc0
    go_wp2_with fail
    refine bodyPost_ret (v := .tuple #[.agg #[.int .i64 0, .slice none 0 0], .int .i64 2]) (by simp [results, Tryz.results65, go_sem, r0, r1]) rfl ⟨ZPost.err hres.out (by omega) _, ?_⟩
    exact ((below_grownBy hloca.grown).setCell (by simp) _).setCell (by simp) _
end Go.Proofs.YtfphlpglgcmljaaGreat
