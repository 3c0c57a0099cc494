/- Part of the proof of priced_clears_proved: Pand2. -/
import Derived.Shelf.Abstract
import Derived.Laws.CopyOwn
import Derived.Deep.OwnRows
import Derived.Shelf.Bits.Mul64
import Derived.Deep.RegionLaw
import Derived.Deep.RegionHeld3
import Derived.Test.YtfphlpglgcmljaaGreatXcZref
import Derived.Test.YtfphlpglgcmljaaGreatXcZof
import Derived.Test.YtfphlpglgcmljaaGreatXcZzone
import Derived.Test.YtfphlpglgcmljaaGreatXcRand
namespace Go.Proofs.YtfphlpglgcmljaaGreat
open Go.RowKit
set_option linter.unusedVariables false
theorem Mat.alloc {base N : Nat} {w : World} {rv av : Value} {xs : List Int} (h : Mat base w N rv av xs) (o : Obj) : Mat base (w.alloc o) N rv av xs := by
 obtain ⟨ga, h1, h2, h3, h4⟩ := h
 exact ⟨ga, h1, World.ownsRow.alloc h2 o, World.ownsRow.alloc h3 o, h4⟩
open Classical in
/-- What changed returns. -/
noncomputable def chgF (n : Int) (xs : List Int) (fits : Bool) (ys : List Int) : Int × List Int := if OkZ n xs ∧ fits = true then closedF n.toNat ys else (2, [])
theorem chgF_no {n : Int} {xs ys : List Int} {fits : Bool} (h : ¬ (OkZ n xs ∧ fits = true)) : chgF n xs fits ys = (2, []) := by unfold chgF; rw [if_neg h]
theorem chgF_yes {N : Nat} {xs ys : List Int} {fits : Bool} (h : OkZ N xs) (h' : fits = true) : chgF N xs fits ys = closedF N ys := by unfold chgF; rw [if_pos ⟨h, h'⟩, Int.toNat_natCast]
set_option maxHeartbeats 1000000 in
theorem prog_changed_bad (n : Int) (zv fv : Value) (xs ys : List Int) (fits : Bool) (w : World) (hz : RL w.heap.size w zv xs) (hno : ¬ (OkZ n xs ∧ fits = true)) :
  Calls Tryz.prog 120 #[.agg #[.int .i64 n, zv], .bool fits, fv] w fun e w' => ZPost 63 w.heap.size n (chgF n xs fits ys) e w' ∧ Below w.heap.size w w' := by
 have hres := Lib.hid (chgF_no (ys := ys) hno)
 obtain ⟨aoz, capz, rfl, hlez, _⟩ := hz.open
 have hloc0 := Loc.two w (.cells #[.int .i64 n, .slice aoz xs.length capz] 32) (.cells #[.int .i64 0, .slice none 0 0] 32) none
 have Hz := Lib.hid (hz.keepb (below_grownBy hloc0.grown))
 clear hz
 by_cases hok : OkZ n xs
 ·have hf : fits = false := by cases fits with
   | false => rfl
   | true => exact absurd ⟨hok, rfl⟩ hno
  subst hf
  have he := okErr_yes hok
  clear hno hok
  go_enter Tryz.func120, Tryz.ntmps120
  go_wp2_with fail
  refine (prog_check n _ xs _ Hz.out).mono ?_
  rw [he]
  rintro e w1 ⟨rfl, hb1⟩
  have hloca := hloc0.next (grownBy_below hb1 none) (fun _ h => by cases h)
  have r0 : w1.cell? ⟨w.heap.size + 1, 0, none⟩ = some (.int .i64 0) := hloca.cell 1 rfl 0
  have r1 : w1.cell? ⟨w.heap.size + 1, 1, none⟩ = some (.slice none 0 0) := hloca.cell 1 rfl 1
  have r2 : w1.frozen? ⟨w.heap.size + 1, 0, none⟩ = false := hloca.free 1 rfl 0
  have r3 : w1.frozen? ⟨w.heap.size + 1, 1, none⟩ = false := hloca.free 1 rfl 1
  clear hb1 hloc0
  go_wp2_with fail
  refine bodyPost_ret (v := .tuple #[.agg #[.int .i64 0, .slice none 0 0], .int .i64 2]) (by simp [results, Tryz.results120, go_sem, r0, r1]) rfl ⟨ZPost.err hres.out (by omega) _, ?_⟩
  exact ((below_grownBy hloca.grown).setCell (by simp) _).setCell (by simp) _
 ·have he := okErr_no hok
  clear hno hok
  go_enter Tryz.func120, Tryz.ntmps120
  go_wp2_with fail
  refine (prog_check n _ xs _ Hz.out).mono ?_
  rw [he]
  rintro e w1 ⟨rfl, hb1⟩
  have hloca := hloc0.next (grownBy_below hb1 none) (fun _ h => by cases h)
  have r0 : w1.cell? ⟨w.heap.size + 1, 0, none⟩ = some (.int .i64 0) := hloca.cell 1 rfl 0
  have r1 : w1.cell? ⟨w.heap.size + 1, 1, none⟩ = some (.slice none 0 0) := hloca.cell 1 rfl 1
  have r2 : w1.frozen? ⟨w.heap.size + 1, 0, none⟩ = false := hloca.free 1 rfl 0
  have r3 : w1.frozen? ⟨w.heap.size + 1, 1, none⟩ = false := hloca.free 1 rfl 1
  clear hb1 hloc0
  go_wp2_with fail
  refine bodyPost_ret (v := .tuple #[.agg #[.int .i64 0, .slice none 0 0], .int .i64 2]) (by simp [results, Tryz.results120, go_sem, r0, r1]) rfl ⟨ZPost.err hres.out (by omega) _, ?_⟩
  exact ((below_grownBy hloca.grown).setCell (by simp) _).setCell (by simp) _
set_option maxRecDepth 100000 in
set_option maxHeartbeats 2000000 in
theorem prog_changed_ok (N : Nat) (zv : Value) (xs ys : List Int) (f : FuncId) (cap : Array Value) (w : World) (hz : RL w.heap.size w zv xs) (hok : OkZ N xs) (hent : Enters Tryz.prog f)
  (hF : ∀ base rv av w', Below w.heap.size w w' → w.heap.size + 2 ≤ base → base ≤ w'.heap.size → Mat base w' N rv av xs → Calls Tryz.prog f (#[rv] ++ cap) w' fun e w'' => e = .returned (.tuple #[]) ∧ Mat base w'' N rv av ys ∧ w'.grownBy w'' av.ownBlock)
  (hl : ys.length = xs.length) (hv : ys.all vld = true) :
  Calls Tryz.prog 120 #[.agg #[.int .i64 N, zv], .bool true, .func (.func f) #[] cap] w fun e w' => ZPost 63 w.heap.size N (chgF N xs true ys) e w' ∧ Below w.heap.size w w' := by
 have hN : N ≤ 10 := by have := hok.hi; omega
 have hlen : xs.length = (N + 1) * (N + 1) := by have := hok.len; rwa [Int.toNat_natCast] at this
 have hres := Lib.hid (show progZ N ys = chgF N xs true ys from (progZ_eq (hl.trans hlen) hv).trans (chgF_yes hok rfl).symm)
 have he := okErr_yes hok
 obtain ⟨aoz, capz, rfl, hlez, _⟩ := hz.open
 have hloc0 := Loc.two w (.cells #[.int .i64 N, .slice aoz xs.length capz] 32) (.cells #[.int .i64 0, .slice none 0 0] 32) none
 have Hz := Lib.hid hz
 have Hz0 := Lib.hid (hz.keepb (below_grownBy hloc0.grown))
 have Hx := Lib.hid hlen
 have Hy := Lib.hid (hl.trans hlen)
 have HF := Lib.hid hF
 have hent' : ∀ (args : Array Value) (w : World), (callFunc f args).run Tryz.prog w = .ok (.enter f args) w := hent
 clear hent
 clear hz hok hF hl hv hlen
 go_enter Tryz.func120, Tryz.ntmps120
 go_wp2_with fail
 refine (prog_check N _ xs _ Hz0.out).mono ?_
 rw [he]
 rintro e w1 ⟨rfl, hb1⟩
 have hloc1 := hloc0.next (grownBy_below hb1 none) (fun _ h => by cases h)
 have c0 : w1.cell? ⟨w.heap.size, 0, none⟩ = some (.int .i64 N) := hloc1.cell 0 rfl 0
 have c1 : w1.cell? ⟨w.heap.size, 1, none⟩ = some (.slice aoz xs.length capz) := hloc1.cell 0 rfl 1
 have Hz1 := Lib.hid (Hz.out.keepb (below_grownBy hloc1.grown))
 clear hb1 hloc0 he
 go_wp2_with fail
 refine (prog_of N _ xs _ Hz1.out hN Hx.out).mono ?_
 rintro e w2 ⟨rv, av, rfl, hm, hb2⟩
 have hloc2 := hloc1.next (grownBy_below hb2 none) (fun _ h => by cases h)
 have Hs1 := Lib.hid (show w.heap.size + 2 ≤ w1.heap.size from hloc1.size)
 have Hb2 := Lib.hid hb2.size
 obtain ⟨ga, gr, capr, capa, rfl, rfl, _, hgr, hga, hbg, _, _⟩ := hm.open Hx.out
 have Hm := Lib.hid hm
 clear hm hb2 hloc1 c0 c1
 go_wp2_with fail
 refine (HF.out w1.heap.size _ _ _ ?hb Hs1.out ?hs (Mat.alloc Hm.out _)).mono ?_
 case hb => exact (below_grownBy hloc2.grown).alloc (by have := hloc2.size; omega) _
 case hs => have := Hb2.out; simp; omega
 rintro e w3 ⟨rfl, hm3, hg3⟩
 have hg3' : (w2.alloc (.cells #[.int .i64 N, .slice (some ⟨gr, 0, none⟩) (N + 1) capr, .slice (some ⟨ga, 0, none⟩) xs.length capa] 175)).grownBy w3 (some ga) := hg3
 have hbox : w3.heap[w2.heap.size]? = some (.cells #[.int .i64 N, .slice (some ⟨gr, 0, none⟩) (N + 1) capr, .slice (some ⟨ga, 0, none⟩) xs.length capa] 175 (0, 0)) := (hg3'.block _ (by simp) (by simp; omega)).trans (heap_alloc_new w2 _)
 have b0 : w3.cell? ⟨w2.heap.size, 0, none⟩ = some (.int .i64 N) := cell_of_row w3 _ 0 _ _ _ hbox
 have b1 : w3.cell? ⟨w2.heap.size, 1, none⟩ = some (.slice (some ⟨gr, 0, none⟩) (N + 1) capr) := cell_of_row w3 _ 1 _ _ _ hbox
 have b2 : w3.cell? ⟨w2.heap.size, 2, none⟩ = some (.slice (some ⟨ga, 0, none⟩) xs.length capa) := cell_of_row w3 _ 2 _ _ _ hbox
 have hloc3 := (hloc2.next (World.grownBy_alloc w2 _ none) (fun _ h => by cases h)).anyrow hg3' (fun g h => by cases h; have := Hs1.out; show w.heap.size + 2 ≤ ga; omega)
 have Hm3 := Lib.hid hm3
 have Hs3 := Lib.hid (show w1.heap.size ≤ w3.heap.size by have := hg3'.size; have := Hb2.out; simp at *; omega)
 clear hg3 hg3' hbox hm3 hloc2
 go_wp2_with fail
 refine (prog_zone N _ _ ys _ w3 Hm3.out Hs3.out hN Hy.out).mono ?_
 rw [hres.out]
 generalize hR : chgF N xs true ys = R
 have HR := Lib.hid hR
 clear hR
 rintro e w5 ⟨⟨v5, rfl, ho5⟩, hb5⟩
 obtain ⟨ao5, cap5, rfl⟩ := owns_form ho5
 have hloc5 := hloc3.belowB hb5 Hs1.out
 have r0 : w5.cell? ⟨w.heap.size + 1, 0, none⟩ = some (.int .i64 0) := hloc5.cell 1 rfl 0
 have r1 : w5.cell? ⟨w.heap.size + 1, 1, none⟩ = some (.slice none 0 0) := hloc5.cell 1 rfl 1
 have r2 : w5.frozen? ⟨w.heap.size + 1, 0, none⟩ = false := hloc5.free 1 rfl 0
 have r3 : w5.frozen? ⟨w.heap.size + 1, 1, none⟩ = false := hloc5.free 1 rfl 1
 have Ho5 := Lib.hid (show OL 63 (w.heap.size + 2) w5 (.slice ao5 R.2.length cap5) R.2 from OL.mono ho5 Hs1.out)
 have HB5 := Lib.hid (below_grownBy hloc5.grown)
 clear ho5 hb5 hloc3 hloc5 b0 b1 b2
 go_wp2_with fail
 refine bodyPost_ret (v := .tuple #[.agg #[.int .i64 (zdim R N), .slice ao5 R.2.length cap5], .int .i64 R.1]) (by simp [results, Tryz.results120, go_sem, r0, r1]) rfl ⟨⟨_, by rw [HR.out], ?_⟩, ?_⟩
 ·rw [HR.out]; exact OL.mono (base := w.heap.size + 2) (own_set2 Ho5.out (by omega) _ _) (by omega)
 ·exact (HB5.out.setCell (by simp) _).setCell (by simp) _
set_option linter.unusedVariables false
set_option maxRecDepth 100000 in
set_option maxHeartbeats 2000000 in
theorem prog_and_change (N base pb : Nat) (rv av lv : Value) (xs : List Int) (cs : List (Int × Int × Int)) (w : World) (hm : Mat base w N rv av xs) (hpb : pb < base) (hp : w.cell? ⟨pb, 0, none⟩ = some lv) (hk : RK base w lv cs) (hbase : base ≤ w.heap.size)
  (hall : AllK N cs cs.length) (hN : N ≤ 10) (hx : xs.length = (N + 1) * (N + 1)) :
  Calls Tryz.prog 133 #[rv, .pointer (some ⟨pb, 0, none⟩)] w fun e w' => e = .returned (.tuple #[]) ∧ Mat base w' N rv av (andTo N xs cs cs.length) ∧ w.grownBy w' av.ownBlock := by
 obtain ⟨ga, gr, capr, capa, rfl, rfl, hne, hgr, hga, hbg, hown, hrows⟩ := hm.open hx
 obtain ⟨ao, cap, rfl, hle, h0⟩ := hk.open
 have Hx := Lib.hid hx
 have Hrows := Lib.hid hrows
 have Hm := Lib.hid hm
 have H0 := Lib.hid h0
 have HK := Lib.hid hall
 clear hx hrows hm h0 hk hall
 generalize hL : xs.length = L at *
 have HL := Lib.hid hL
 clear hL
 have hmin := imin_fold
 go_enter Tryz.func133, Tryz.ntmps133
 go_wp2_with fail
 go_loopw [7] (fun i wr => ∃ q : Nat, q ≤ cs.length ∧ i = .int .i64 q ∧ OL 63 base wr (.slice (some ⟨ga, 0, none⟩) L capa) (andTo N xs cs q) ∧ w.grownBy wr (some ga)) (fun i _ => cs.length - (intOf i).toNat)
 case atStart => exact ⟨0, by omega, rfl, hown, grownBy_below (Below.refl _ _) _⟩
 case round =>
  clear hown
  obtain ⟨q, hq, rfl, hown, hgw⟩ := hrel
  have hlA := Lib.hid ((andTo_len N xs cs q).trans HL.out)
  by_cases hlt : q < cs.length
  ·obtain ⟨b, off, rfl, hb, hc⟩ := H0.out (by omega)
   obtain ⟨x1, x2, x3⟩ := hc q hlt
   have hkk := HK.out q hlt
   have Hst := Lib.hid (show andTo N xs cs (q + 1) = (andTo N xs cs q).set ((gk cs q).1.toNat * (N + 1) + (gk cs q).2.1.toNat) (imin (gi (andTo N xs cs q) ((gk cs q).1.toNat * (N + 1) + (gk cs q).2.1.toNat)) (gk cs q).2.2) from rfl)
   generalize hG : gk cs q = c at x1 x2 x3 hkk Hst
   obtain ⟨I, J, Lc⟩ := c
   obtain ⟨k1, k2, k3, k4, k5⟩ := (kOk_iff N I J Lc).1 hkk
   obtain ⟨i, rfl⟩ := Int.eq_ofNat_of_zero_le k1
   obtain ⟨j, rfl⟩ := Int.eq_ofNat_of_zero_le k3
   have y1 := ((gcell hgw).1 _ _ (by omega) (by omega)).trans x1
   have y2 := ((gcell hgw).1 _ _ (by omega) (by omega)).trans x2
   have y3 := ((gcell hgw).1 _ _ (by omega) (by omega)).trans x3
   have y4 : (q : Int) < cs.length := by omega
   have hi' : i ≤ N := by omega
   have hj' : j ≤ N := by omega
   simp only [Int.toNat_natCast] at Hst
   clear hc x1 x2 x3 hkk k5 hG k1 k3
   generalize hA : andTo N xs cs q = M at hown hlA Hst
   clear hA
   go_wp2_with fail
   have hsz := hgw.size
   have hg2 : w.grownBy (wr.alloc (.cells #[.int .i64 i, .int .i64 j, .int .i64 Lc] 98)) (some ga) := grownBy_trans hgw (World.grownBy_alloc _ _ _)
   have hown2 : OL 63 base (wr.alloc (.cells #[.int .i64 i, .int .i64 j, .int .i64 Lc] 98)) (.slice (some ⟨ga, 0, none⟩) L capa) M := World.ownsRow.alloc hown _
   have hnew := heap_alloc_new wr (.cells #[.int .i64 i, .int .i64 j, .int .i64 Lc] 98)
   have z0 : (wr.alloc (.cells #[.int .i64 i, .int .i64 j, .int .i64 Lc] 98)).cell? ⟨wr.heap.size, 0, none⟩ = some (.int .i64 i) := cell_of_row _ _ 0 _ _ _ hnew
   have z1 : (wr.alloc (.cells #[.int .i64 i, .int .i64 j, .int .i64 Lc] 98)).cell? ⟨wr.heap.size, 1, none⟩ = some (.int .i64 j) := cell_of_row _ _ 1 _ _ _ hnew
   have z2 : (wr.alloc (.cells #[.int .i64 i, .int .i64 j, .int .i64 Lc] 98)).cell? ⟨wr.heap.size, 2, none⟩ = some (.int .i64 Lc) := cell_of_row _ _ 2 _ _ _ hnew
   have gI : (wr.alloc (.cells #[.int .i64 i, .int .i64 j, .int .i64 Lc] 98)).cell? ⟨gr, i, none⟩ = some (.slice (some ⟨ga, i * (N + 1), none⟩) (N + 1) (N + 1)) := ((gcell hg2).1 gr i hgr hne).trans (Hrows.out i hi')
   have xa := ol_cell hown2 (k := i * (N + 1) + j) (by rw [hlA.out, Hx.out]; exact idx_lt N i j hi' hj')
   have x0 := xa.1
   have xf := xa.2
   have hz0 : wr.heap.size ≠ ga := by omega
   have hz1 : ga ≠ wr.heap.size := by omega
   have hne' : ga ≠ gr := fun e => hne e.symm
   have ii0 : (0 : Int) ≤ (i : Int) := by omega
   have jj0 : (0 : Int) ≤ (j : Int) := by omega
   have ii1 : (i : Int) < (N : Int) + 1 := by omega
   have jj1 : (j : Int) < (N : Int) + 1 := by omega
   have Hg2 := Lib.hid hg2
   have Hown2 := Lib.hid hown2
   clear hnew hown hgw hg2 hown2 y1 y2 y3 xa
   generalize wr.alloc (.cells #[.int .i64 i, .int .i64 j, .int .i64 Lc] 98) = W2 at *
   generalize wr.heap.size = B at *
   go_region
   go_wp2_with fail
   have hsd := OL.stored Hown2.out hlA.out.symm (i * (N + 1) + j) (imin (gi M (i * (N + 1) + j)) Lc)
   go_roundw
   case rel => exact ⟨q + 1, by omega, by go_num, by rw [Hst.out]; exact hsd.1.drew, grownBy_trans (grownBy_trans Hg2.out hsd.2) (grownBy_drew _ _)⟩
   case measure => simp [intOf]; omega
  ·have hd2 : decide ((q : Int) < (cs.length : Int)) = false := by simp; omega
   obtain rfl : q = cs.length := by omega
   go_wp2_with fail
   go_end0
   refine ⟨rfl, ?_, hgw⟩
   obtain ⟨g', e1, e2, e3, e4⟩ := Hm.out
   simp only [Value.ownBlock, Option.some.injEq] at e1
   subst e1
   exact ⟨ga, rfl, hown, World.ownsRow.kept e3 hgw (.inr e4), e4⟩
set_option linter.unusedVariables false
def ftB (n : Int) (c : Int × Int × Int) : Bool := decide (0 ≤ c.1 ∧ c.1 ≤ n ∧ 0 ≤ c.2.1 ∧ c.2.1 ≤ n) && vld c.2.2
def fitTo (n : Int) (cs : List (Int × Int × Int)) : Nat → Bool
 | 0 => true
 | q + 1 => fitTo n cs q && ftB n (gk cs q)
theorem fitTo_iff (N : Nat) (cs : List (Int × Int × Int)) (q : Nat) : fitTo N cs q = true ↔ AllK N cs q := by
 induction q with
 | zero => simp [fitTo, AllK]
 | succ q ih =>
  rw [fitTo, Bool.and_eq_true, ih]
  constructor
  ·rintro ⟨a, b⟩; exact a.succ b
  ·intro h; exact ⟨fun k hk => h k (by omega), h q (by omega)⟩
theorem andTo_vld {N : Nat} {xs : List Int} {cs : List (Int × Int × Int)} (hx : xs.all vld = true) (hlen : xs.length = (N + 1) * (N + 1)) (q : Nat) (hk : AllK N cs q) : (andTo N xs cs q).all vld = true := by
 induction q with
 | zero => exact hx
 | succ q ih =>
  have ih := ih (fun k h => hk k (by omega))
  have kq := hk q (by omega)
  have sq : andTo N xs cs (q + 1) = (andTo N xs cs q).set ((gk cs q).1.toNat * (N + 1) + (gk cs q).2.1.toNat) (imin (gi (andTo N xs cs q) ((gk cs q).1.toNat * (N + 1) + (gk cs q).2.1.toNat)) (gk cs q).2.2) := rfl
  rw [sq]
  generalize gk cs q = c at *
  obtain ⟨I, J, L⟩ := c
  obtain ⟨k1, k2, k3, k4, k5⟩ := (kOk_iff N I J L).1 kq
  rw [List.all_eq_true] at ih ⊢
  intro x hm
  rcases List.mem_or_eq_of_mem_set hm with h | h
  ·exact ih x h
  ·rw [h]
   rcases (imin_le (gi (andTo N xs cs q) (I.toNat * (N + 1) + J.toNat)) L).2.2 with e | e <;> simp only [e]
   ·exact ih _ (gi_mem (by rw [andTo_len, hlen]; exact idx_lt N _ _ (by omega) (by omega)))
   ·exact k5
theorem chg_and {n : Int} {xs : List Int} {cs : List (Int × Int × Int)} : chgF n xs (fitTo n cs cs.length) (andTo n.toNat xs cs cs.length) = andF n xs cs := by
 by_cases h : OkZ n xs
 ·obtain ⟨N, rfl⟩ := Int.eq_ofNat_of_zero_le h.lo
  rw [Int.toNat_natCast]
  cases hf : fitTo N cs cs.length with
  | true => rw [chgF_yes h rfl, andF_yes h ((fitTo_iff N cs _).1 hf)]
  | false => rw [chgF_no (fun e => by cases e.2), andF_no (fun e => by have := e.2; rw [Int.toNat_natCast] at this; rw [(fitTo_iff N cs _).2 this] at hf; cases hf)]
 ·rw [chgF_no (fun e => h e.1), andF_no (fun e => h e.1)]
theorem Loc.three (w : World) (a b c : Obj) (row : Option Nat) : Loc w (((w.alloc a).alloc b).alloc c) row [a, b, c] :=
 ⟨grownBy_trans (Loc.two w a b row).grown (World.grownBy_alloc _ _ _), fun i hi => by
  by_cases h : i < 2
  ·rw [Below.heap_alloc _ _ _ (by simp; omega), (Loc.two w a b row).objs i h]
   match i, h with
   | 0, _ => rfl
   | 1, _ => rfl
  ·have : i = 2 := by simp at hi; omega
   subst this
   have := heap_alloc_new ((w.alloc a).alloc b) c
   rw [show ((w.alloc a).alloc b).heap.size = w.heap.size + 2 by simp] at this
   exact this, by simp⟩
theorem enters_and : Enters Tryz.prog 133 := enters_of Tryz.func133 (by kernel_rfl) rfl
set_option maxRecDepth 100000 in
set_option maxHeartbeats 4000000 in
theorem prog_and (n : Int) (zv v : Value) (xs : List Int) (cs : List (Int × Int × Int)) (w : World) (hz : RL w.heap.size w zv xs) (hv : RK w.heap.size w v cs) :
  Calls Tryz.prog 75 #[.agg #[.int .i64 n, zv], v] w fun e w' => ZPost 63 w.heap.size n (andF n xs cs) e w' ∧ Below w.heap.size w w' := by
 obtain ⟨aoz, capz, rfl, hlez, _⟩ := hz.open
 obtain ⟨ao, cap, rfl, hle, h0⟩ := hv.open
 have hloc0 := Loc.next (row := none) (Loc.two w (.cells #[.int .i64 n, .slice aoz xs.length capz] 32) (.cells #[.slice ao cs.length cap] 96) none) (World.grownBy_alloc _ (.cells #[.int .i64 0, .slice none 0 0] 32) none) (fun _ h => by cases h)
 have hloc3 : Loc w (((w.alloc (.cells #[.int .i64 n, .slice aoz xs.length capz] 32)).alloc (.cells #[.slice ao cs.length cap] 96)).alloc (.cells #[.int .i64 0, .slice none 0 0] 32)) none [.cells #[.int .i64 n, .slice aoz xs.length capz] 32, .cells #[.slice ao cs.length cap] 96, .cells #[.int .i64 0, .slice none 0 0] 32] := Loc.three w _ _ _ _
 have Hz := Lib.hid hz
 have Hv := Lib.hid hv
 have H0 := Lib.hid h0
 have Hres := Lib.hid (chg_and (n := n) (xs := xs) (cs := cs))
 clear hz hv h0 hloc0
 go_enter Tryz.func75, Tryz.ntmps75
 go_wp2_with fail
 go_loopw [6, 11] (fun f i wr => ∃ q : Nat, q ≤ cs.length ∧ i = .int .i64 q ∧ f = .bool (fitTo n cs q) ∧ Loc w wr none [.cells #[.int .i64 n, .slice aoz xs.length capz] 32, .cells #[.slice ao cs.length cap] 96, .cells #[.int .i64 0, .slice none 0 0] 32]) (fun _ i _ => cs.length - (intOf i).toNat)
 case atStart => exact ⟨0, by omega, rfl, rfl, hloc3⟩
 case round =>
  clear hloc3
  obtain ⟨q, hq, rfl, rfl, hloc⟩ := hrel
  have c0 : wr.cell? ⟨w.heap.size, 0, none⟩ = some (.int .i64 n) := hloc.cell 0 rfl 0
  have c1 : wr.cell? ⟨w.heap.size, 1, none⟩ = some (.slice aoz xs.length capz) := hloc.cell 0 rfl 1
  have c2 : wr.cell? ⟨w.heap.size + 1, 0, none⟩ = some (.slice ao cs.length cap) := hloc.cell 1 rfl 0
  by_cases hlt : q < cs.length
  ·have y4 : (q : Int) < cs.length := by omega
   obtain ⟨b, off, rfl, hb, hc⟩ := H0.out (by omega)
   obtain ⟨x1, x2, x3⟩ := hc q hlt
   have y1 := ((bcell (below_grownBy hloc.grown)).1 _ _ hb).trans x1
   have y2 := ((bcell (below_grownBy hloc.grown)).1 _ _ hb).trans x2
   have y3 := ((bcell (below_grownBy hloc.grown)).1 _ _ hb).trans x3
   have Hst := Lib.hid (show fitTo n cs (q + 1) = (fitTo n cs q && ftB n (gk cs q)) from rfl)
   clear hc x1 x2 x3
   generalize hG : gk cs q = c at y1 y2 y3 Hst
   clear hG
   obtain ⟨I, J, Lc⟩ := c
   have hloc4 := hloc.next (World.grownBy_alloc wr (.cells #[.int .i64 I, .int .i64 J, .int .i64 Lc] 98) none) (fun _ h => by cases h)
   have cc0 : (wr.alloc (.cells #[.int .i64 I, .int .i64 J, .int .i64 Lc] 98)).cell? ⟨w.heap.size, 0, none⟩ = some (.int .i64 n) := hloc4.cell 0 rfl 0
   have Hloc4 := Lib.hid hloc4
   clear hloc hloc4
   cases hft : fitTo n cs q
   ·have HN := Lib.hid (show fitTo n cs (q + 1) = false by rw [Hst.out, hft]; rfl)
    clear hft
    go_wp2_with (go_at_call 132; refine (prog_valid _ _).mono ?_; (try rw [hvl]); rintro e w9 ⟨rfl, rfl⟩)
    go_roundw
    case rel => exact ⟨q + 1, by omega, by go_num, by rw [HN.out], Hloc4.out⟩
    case measure => simp [intOf]; omega
   have HF := Lib.hid hft
   clear hft
   by_cases hd1 : 0 ≤ I
   rotate_left
   ·have d1 : decide (0 ≤ I) = false := by simpa using hd1
    have HN := Lib.hid (show fitTo n cs (q + 1) = false by rw [Hst.out, HF.out, ftB, decide_eq_false (fun e => hd1 (by have := e.1; have := e.2.1; have := e.2.2.1; have := e.2.2.2; assumption))]; rfl)
    clear hd1
    go_wp2_with (go_at_call 132; refine (prog_valid _ _).mono ?_; (try rw [hvl]); rintro e w9 ⟨rfl, rfl⟩)
    go_roundw
    case rel => exact ⟨q + 1, by omega, by go_num, by rw [HN.out], Hloc4.out⟩
    case measure => simp [intOf]; omega
   have d1 : decide (0 ≤ I) = true := by simpa using hd1
   have Hd1 := Lib.hid hd1
   clear hd1
   by_cases hd2 : I ≤ n
   rotate_left
   ·have d2 : decide (I ≤ n) = false := by simpa using hd2
    have HN := Lib.hid (show fitTo n cs (q + 1) = false by rw [Hst.out, HF.out, ftB, decide_eq_false (fun e => hd2 (by have := e.1; have := e.2.1; have := e.2.2.1; have := e.2.2.2; assumption))]; rfl)
    clear hd2
    go_wp2_with (go_at_call 132; refine (prog_valid _ _).mono ?_; (try rw [hvl]); rintro e w9 ⟨rfl, rfl⟩)
    go_roundw
    case rel => exact ⟨q + 1, by omega, by go_num, by rw [HN.out], Hloc4.out⟩
    case measure => simp [intOf]; omega
   have d2 : decide (I ≤ n) = true := by simpa using hd2
   have Hd2 := Lib.hid hd2
   clear hd2
   by_cases hd3 : 0 ≤ J
   rotate_left
   ·have d3 : decide (0 ≤ J) = false := by simpa using hd3
    have HN := Lib.hid (show fitTo n cs (q + 1) = false by rw [Hst.out, HF.out, ftB, decide_eq_false (fun e => hd3 (by have := e.1; have := e.2.1; have := e.2.2.1; have := e.2.2.2; assumption))]; rfl)
    clear hd3
    go_wp2_with (go_at_call 132; refine (prog_valid _ _).mono ?_; (try rw [hvl]); rintro e w9 ⟨rfl, rfl⟩)
    go_roundw
    case rel => exact ⟨q + 1, by omega, by go_num, by rw [HN.out], Hloc4.out⟩
    case measure => simp [intOf]; omega
   have d3 : decide (0 ≤ J) = true := by simpa using hd3
   have Hd3 := Lib.hid hd3
   clear hd3
   by_cases hd4 : J ≤ n
   rotate_left
   ·have d4 : decide (J ≤ n) = false := by simpa using hd4
    have HN := Lib.hid (show fitTo n cs (q + 1) = false by rw [Hst.out, HF.out, ftB, decide_eq_false (fun e => hd4 (by have := e.1; have := e.2.1; have := e.2.2.1; have := e.2.2.2; assumption))]; rfl)
    clear hd4
    go_wp2_with (go_at_call 132; refine (prog_valid _ _).mono ?_; (try rw [hvl]); rintro e w9 ⟨rfl, rfl⟩)
    go_roundw
    case rel => exact ⟨q + 1, by omega, by go_num, by rw [HN.out], Hloc4.out⟩
    case measure => simp [intOf]; omega
   have d4 : decide (J ≤ n) = true := by simpa using hd4
   have Hd4 := Lib.hid hd4
   clear hd4
   have HN := Lib.hid (show fitTo n cs (q + 1) = vld Lc by rw [Hst.out, HF.out, ftB, decide_eq_true ⟨Hd1.out, Hd2.out, Hd3.out, Hd4.out⟩]; rfl)
   generalize hvl : vld Lc = bv at HN
   go_wp2_with (go_at_call 132; refine (prog_valid _ _).mono ?_; (try rw [hvl]); rintro e w9 ⟨rfl, rfl⟩)
   go_roundw
   case rel => exact ⟨q + 1, by omega, by go_num, by rw [HN.out], Hloc4.out⟩
   case measure => simp [intOf]; omega
  ·have hd2 : decide ((q : Int) < (cs.length : Int)) = false := by simp; omega
   obtain rfl : q = cs.length := by omega
   have Hz1 := Lib.hid (Hz.out.keepb (below_grownBy hloc.grown))
   have Hsz := Lib.hid (show w.heap.size + 3 ≤ wr.heap.size from hloc.size)
   go_wp2_with fail
   have key : Calls Tryz.prog 120 #[.agg #[.int .i64 n, .slice aoz xs.length capz], .bool (fitTo n cs cs.length), .func (.func 133) #[] #[.pointer (some ⟨w.heap.size + 1, 0, none⟩)]] wr fun e w' => ZPost 63 wr.heap.size n (andF n xs cs) e w' ∧ Below wr.heap.size wr w' := by
    rw [← Hres.out]
    by_cases hok : OkZ n xs ∧ fitTo n cs cs.length = true
    ·obtain ⟨N, rfl⟩ := Int.eq_ofNat_of_zero_le hok.1.lo
     have hN : N ≤ 10 := by have := hok.1.hi; omega
     have hlen : xs.length = (N + 1) * (N + 1) := by have := hok.1.len; rwa [Int.toNat_natCast] at this
     have hK := (fitTo_iff N cs _).1 hok.2
     have hvx := (dimF_nat hok.1.dim).2.2
     rw [Int.toNat_natCast, hok.2]
     refine prog_changed_ok N _ xs _ _ _ wr Hz1.out hok.1 enters_and (fun base rv av w' hb hb1 hb2 hm => ?_) (andTo_len N xs cs _) (andTo_vld hvx hlen _ hK)
     refine prog_and_change N base (w.heap.size + 1) rv av _ xs cs w' hm (by have := Hsz.out; omega) ((keepb c2 hb)) ?_ hb2 hK hN hlen
     exact RS.mono (RS.keep (RS.mono (RS.keep Hv.out (below_grownBy hloc.grown)) (show w.heap.size ≤ wr.heap.size by have := Hsz.out; omega)) hb) (by omega)
    ·exact prog_changed_bad n _ _ xs _ _ wr Hz1.out hok
   refine key.mono ?_
   generalize hR : andF n xs cs = R
   have HR := Lib.hid hR
   clear hR
   rintro e w5 ⟨⟨v5, rfl, ho5⟩, hb5⟩
   obtain ⟨ao5, cap5, rfl⟩ := owns_form ho5
   have hloc5 := hloc.next (grownBy_below hb5 none) (fun _ h => by cases h)
   have r0 : w5.cell? ⟨w.heap.size + 1 + 1, 0, none⟩ = some (.int .i64 0) := hloc5.cell 2 rfl 0
   have r1 : w5.cell? ⟨w.heap.size + 1 + 1, 1, none⟩ = some (.slice none 0 0) := hloc5.cell 2 rfl 1
   have r2 : w5.frozen? ⟨w.heap.size + 1 + 1, 0, none⟩ = false := hloc5.free 2 rfl 0
   have r3 : w5.frozen? ⟨w.heap.size + 1 + 1, 1, none⟩ = false := hloc5.free 2 rfl 1
   have Ho5 := Lib.hid (show OL 63 (w.heap.size + 3) w5 (.slice ao5 R.2.length cap5) R.2 from OL.mono ho5 Hsz.out)
   have HB5 := Lib.hid (below_grownBy hloc5.grown)
   clear ho5 hb5 hloc hloc5 key
   go_wp2_with fail
   refine bodyPost_ret (v := .tuple #[.agg #[.int .i64 (zdim R n), .slice ao5 R.2.length cap5], .int .i64 R.1]) (by simp [results, Tryz.results75, go_sem, r0, r1]) rfl ⟨⟨_, by rw [HR.out], ?_⟩, ?_⟩
   ·rw [HR.out]; exact OL.mono (base := w.heap.size + 3) (own_set2 Ho5.out (by omega) _ _) (by omega)
   ·exact (HB5.out.setCell (by show w.heap.size ≤ w.heap.size + 1 + 1; omega) _).setCell (by show w.heap.size ≤ w.heap.size + 1 + 1; omega) _
end Go.Proofs.YtfphlpglgcmljaaGreat
