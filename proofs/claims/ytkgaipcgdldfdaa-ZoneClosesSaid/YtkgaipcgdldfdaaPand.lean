/- The program's And: the function value that narrows a matrix. -/
import Derived.Test.YtkgaipcgdldfdaaChg
namespace Go.Proofs.Ytkgaipcgdldfdaa
open Go.RowKit
set_option linter.unusedVariables false

set_option maxRecDepth 100000 in
set_option maxHeartbeats 2000000 in
theorem prog_and_change (N base pb : Nat) (rv av lv : Value) (xs : List Int) (cs : List (Int × Int × Int)) (w : World) (hm : Mat base w N rv av xs) (hpb : pb < base) (hp : w.cell? ⟨pb, 0, none⟩ = some lv) (hk : RK base w lv cs) (hbase : base ≤ w.heap.size)
    (hall : AllK N cs cs.length) (hN : N ≤ 10) (hx : xs.length = (N + 1) * (N + 1)) :
    Calls Try.prog 101 #[rv, .pointer (some ⟨pb, 0, none⟩)] w fun e w' => e = .returned (.tuple #[]) ∧ Mat base w' N rv av (andTo N xs cs cs.length) ∧ w.grownBy w' av.ownBlock := by
  obtain ⟨ga, gr, capr, capa, rfl, rfl, hne, hgr, hga, hbg, hown, hrows⟩ := hm.open hx
  obtain ⟨ao, cap, rfl, hle, h0⟩ := hk.open
  have Hx := Lib.hid hx
  have Hrows := Lib.hid hrows
  have Hm := Lib.hid hm
  have H0 := Lib.hid h0
  have HK := Lib.hid hall
  clear hx hrows hm h0 hk hall
  generalize hL : xs.length = L at *
  have HL := Lib.hid hL
  clear hL
  have hmin := imin_fold
  go_enter Try.func101, Try.ntmps101
  go_wp2_with fail
  go_loopw [7] (fun i wr => ∃ q : Nat, q ≤ cs.length ∧ i = .int .i64 q ∧ OL 60 base wr (.slice (some ⟨ga, 0, none⟩) L capa) (andTo N xs cs q) ∧ w.grownBy wr (some ga)) (fun i _ => cs.length - (intOf i).toNat)
  case atStart => exact ⟨0, by omega, rfl, hown, grownBy_below (Below.refl _ _) _⟩
  case round =>
    clear hown
    obtain ⟨q, hq, rfl, hown, hgw⟩ := hrel
    have hlA := Lib.hid ((andTo_len N xs cs q).trans HL.out)
    by_cases hlt : q < cs.length
    · obtain ⟨b, off, rfl, hb, hc⟩ := H0.out (by omega)
      obtain ⟨x1, x2, x3⟩ := hc q hlt
      have hkk := HK.out q hlt
      have Hst := Lib.hid (show andTo N xs cs (q + 1) = (andTo N xs cs q).set ((gk cs q).1.toNat * (N + 1) + (gk cs q).2.1.toNat) (imin (gi (andTo N xs cs q) ((gk cs q).1.toNat * (N + 1) + (gk cs q).2.1.toNat)) (gk cs q).2.2) from rfl)
      generalize hG : gk cs q = c at x1 x2 x3 hkk Hst
      obtain ⟨I, J, Lc⟩ := c
      obtain ⟨k1, k2, k3, k4, k5⟩ := (kOk_iff N I J Lc).1 hkk
      obtain ⟨i, rfl⟩ := Int.eq_ofNat_of_zero_le k1
      obtain ⟨j, rfl⟩ := Int.eq_ofNat_of_zero_le k3
      have y1 := ((gcell hgw).1 _ _ (by omega) (by omega)).trans x1
      have y2 := ((gcell hgw).1 _ _ (by omega) (by omega)).trans x2
      have y3 := ((gcell hgw).1 _ _ (by omega) (by omega)).trans x3
      have y4 : (q : Int) < cs.length := by omega
      have hi' : i ≤ N := by omega
      have hj' : j ≤ N := by omega
      simp only [Int.toNat_natCast] at Hst
      clear hc x1 x2 x3 hkk k5 hG k1 k3
      generalize hA : andTo N xs cs q = M at hown hlA Hst
      clear hA
      go_wp2_with fail
      have hsz := hgw.size
      have hg2 : w.grownBy (wr.alloc (.cells #[.int .i64 i, .int .i64 j, .int .i64 Lc] 62)) (some ga) := grownBy_trans hgw (World.grownBy_alloc _ _ _)
      have hown2 : OL 60 base (wr.alloc (.cells #[.int .i64 i, .int .i64 j, .int .i64 Lc] 62)) (.slice (some ⟨ga, 0, none⟩) L capa) M := World.ownsRow.alloc hown _
      have hnew := heap_alloc_new wr (.cells #[.int .i64 i, .int .i64 j, .int .i64 Lc] 62)
      have z0 : (wr.alloc (.cells #[.int .i64 i, .int .i64 j, .int .i64 Lc] 62)).cell? ⟨wr.heap.size, 0, none⟩ = some (.int .i64 i) := cell_of_row _ _ 0 _ _ _ hnew
      have z1 : (wr.alloc (.cells #[.int .i64 i, .int .i64 j, .int .i64 Lc] 62)).cell? ⟨wr.heap.size, 1, none⟩ = some (.int .i64 j) := cell_of_row _ _ 1 _ _ _ hnew
      have z2 : (wr.alloc (.cells #[.int .i64 i, .int .i64 j, .int .i64 Lc] 62)).cell? ⟨wr.heap.size, 2, none⟩ = some (.int .i64 Lc) := cell_of_row _ _ 2 _ _ _ hnew
      have gI : (wr.alloc (.cells #[.int .i64 i, .int .i64 j, .int .i64 Lc] 62)).cell? ⟨gr, i, none⟩ = some (.slice (some ⟨ga, i * (N + 1), none⟩) (N + 1) (N + 1)) := ((gcell hg2).1 gr i hgr hne).trans (Hrows.out i hi')
      have xa := ol_cell hown2 (k := i * (N + 1) + j) (by rw [hlA.out, Hx.out]; exact idx_lt N i j hi' hj')
      have x0 := xa.1
      have xf := xa.2
      have hz0 : wr.heap.size ≠ ga := by omega
      have hz1 : ga ≠ wr.heap.size := by omega
      have hne' : ga ≠ gr := fun e => hne e.symm
      have ii0 : (0 : Int) ≤ (i : Int) := by omega
      have jj0 : (0 : Int) ≤ (j : Int) := by omega
      have ii1 : (i : Int) < (N : Int) + 1 := by omega
      have jj1 : (j : Int) < (N : Int) + 1 := by omega
      have Hg2 := Lib.hid hg2
      have Hown2 := Lib.hid hown2
      clear hnew hown hgw hg2 hown2 y1 y2 y3 xa
      generalize wr.alloc (.cells #[.int .i64 i, .int .i64 j, .int .i64 Lc] 62) = W2 at *
      generalize wr.heap.size = B at *
      go_region
      go_wp2_with fail
      have hsd := OL.stored Hown2.out hlA.out.symm (i * (N + 1) + j) (imin (gi M (i * (N + 1) + j)) Lc)
      go_roundw
      case rel => exact ⟨q + 1, by omega, by go_num, by rw [Hst.out]; exact hsd.1.drew, grownBy_trans (grownBy_trans Hg2.out hsd.2) (grownBy_drew _ _)⟩
      case measure => simp [intOf]; omega
    · have hd2 : decide ((q : Int) < (cs.length : Int)) = false := by simp; omega
      obtain rfl : q = cs.length := by omega
      go_wp2_with fail
      go_end0
      refine ⟨rfl, ?_, hgw⟩
      obtain ⟨g', e1, e2, e3, e4⟩ := Hm.out
      simp only [Value.ownBlock, Option.some.injEq] at e1
      subst e1
      exact ⟨ga, rfl, hown, World.ownsRow.kept e3 hgw (.inr e4), e4⟩
end Go.Proofs.Ytkgaipcgdldfdaa
