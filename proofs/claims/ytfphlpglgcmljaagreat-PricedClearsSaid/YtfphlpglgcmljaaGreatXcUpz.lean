/- Part of the proof of priced_clears_proved: Rst, Upz. -/
import Derived.Deep.RegionHeld3
import Derived.Laws.EntriesVeiled
import Derived.Laws.CopyOwn
import Derived.Deep.OwnRows
import Derived.Shelf.Bits.Mul64
import Derived.Deep.RegionLaw
import Derived.Test.YtfphlpglgcmljaaGreatXcPand2
import Derived.Test.YtfphlpglgcmljaaGreatXcZref
import Derived.Test.YtfphlpglgcmljaaGreatXcZof
import Derived.Test.YtfphlpglgcmljaaGreatXcZzone
import Derived.Test.YtfphlpglgcmljaaGreatXcRand
import Derived.Test.YtfphlpglgcmljaaGreatXcClx
namespace Go.Proofs.YtfphlpglgcmljaaGreat
open Go.RowKit
set_option linter.unusedVariables false
theorem set_all_vld {xs : List Int} (h : xs.all vld = true) (k : Nat) {l : Int} (hl : vld l = true) : (xs.set k l).all vld = true := by
 rw [List.all_eq_true] at h ⊢
 intro x hm
 rcases List.mem_or_eq_of_mem_set hm with h' | h'
 ·exact h x h'
 ·rw [h']; exact hl
theorem Mat.cap {base N gr capr : Nat} {w : World} {av : Value} {xs : List Int} (h : Mat base w N (.slice (some ⟨gr, 0, none⟩) (N + 1) capr) av xs) : N + 1 ≤ capr := by
 obtain ⟨ga, h1, h2, h3, h4⟩ := h
 rcases h3.2 with ⟨h5, h0⟩ | ⟨gr2, capr2, cur, h5, hb, hg, hnc, hcm, hcs, ht⟩
 ·omega
 ·injection h5 with _ _ h6
  subst h6
  exact hnc
set_option linter.unusedVariables false
def free1 (N : Nat) (xs : List Int) (i : Nat) : Nat → List Int
 | 0 => xs
 | q + 1 => ((free1 N xs i q).set (i * (N + 1) + q) 1099511627776).set (q * (N + 1) + i) 1099511627776
def free2 (N : Nat) (xs : List Int) (i : Nat) : Nat → List Int
 | 0 => xs
 | q + 1 => if q = i then free2 N xs i q else (free2 N xs i q).set (q * (N + 1) + i) (gi (free2 N xs i q) (q * (N + 1)))
def freeB (N : Nat) (xs : List Int) (i : Nat) : List Int := free2 N ((free1 N xs i (N + 1)).set (i * (N + 1) + i) 1) i (N + 1)
def setB (N : Nat) (xs : List Int) (i : Nat) (c : Int) : List Int :=
 (xs.set (i * (N + 1)) (imin (gi xs (i * (N + 1))) (2 * c + 1))).set i (imin (gi (xs.set (i * (N + 1)) (imin (gi xs (i * (N + 1))) (2 * c + 1))) i) (1 - 2 * c))
theorem free1_len (N : Nat) (xs : List Int) (i q : Nat) : (free1 N xs i q).length = xs.length := by
 induction q with
 | zero => rfl
 | succ q ih => rw [free1, List.length_set, List.length_set, ih]
theorem free2_len (N : Nat) (xs : List Int) (i q : Nat) : (free2 N xs i q).length = xs.length := by
 induction q with
 | zero => rfl
 | succ q ih =>
  rw [free2]
  split
  ·exact ih
  ·rw [List.length_set, ih]
theorem freeB_len (N : Nat) (xs : List Int) (i : Nat) : (freeB N xs i).length = xs.length := by rw [freeB, free2_len, List.length_set, free1_len]
theorem setB_len (N : Nat) (xs : List Int) (i : Nat) (c : Int) : (setB N xs i c).length = xs.length := by rw [setB, List.length_set, List.length_set]
theorem free1_vld {N : Nat} {xs : List Int} (i : Nat) (h : xs.all vld = true) (q : Nat) : (free1 N xs i q).all vld = true := by
 induction q with
 | zero => exact h
 | succ q ih => rw [free1]; exact set_all_vld (set_all_vld ih _ (by decide)) _ (by decide)
theorem all_gi {xs : List Int} (h : xs.all vld = true) {k : Nat} (hk : k < xs.length) : vld (gi xs k) = true := by
 rw [List.all_eq_true] at h
 exact h _ (gi_mem hk)
theorem free2_vld {N : Nat} {xs : List Int} (i : Nat) (h : xs.all vld = true) (hx : xs.length = (N + 1) * (N + 1)) (q : Nat) (hq : q ≤ N + 1) : (free2 N xs i q).all vld = true := by
 induction q with
 | zero => exact h
 | succ q ih =>
  rw [free2]
  split
  ·exact ih (by omega)
  ·refine set_all_vld (ih (by omega)) _ (all_gi (ih (by omega)) ?_)
   rw [free2_len, hx]
   have := idx_lt N q 0 (by omega) (by omega)
   omega
theorem freeB_vld {N : Nat} {xs : List Int} (i : Nat) (h : xs.all vld = true) (hx : xs.length = (N + 1) * (N + 1)) : (freeB N xs i).all vld = true :=
 free2_vld i (set_all_vld (free1_vld i h _) _ (by decide)) (by rw [List.length_set, free1_len, hx]) _ (by omega)
theorem imin_vld {a b : Int} (h : vld a = true) (h' : vld b = true) : vld (imin a b) = true := by
 rcases (imin_le a b).2.2 with e | e <;> rw [e] <;> assumption
set_option maxRecDepth 100000 in
set_option maxHeartbeats 2000000 in
theorem prog_set (N base i : Nat) (c : Int) (rv av : Value) (xs : List Int) (w : World) (hm : Mat base w N rv av xs) (hbase : base ≤ w.heap.size)
  (hN : N ≤ 10) (hx : xs.length = (N + 1) * (N + 1)) (hi : i ≤ N) (hc0 : 0 ≤ c) (hc1 : c ≤ 1048576) :
  Calls Tryz.prog 130 #[rv, .int .i64 i, .int .i64 c] w fun e w' => e = .returned (.tuple #[]) ∧ Mat base w' N rv av (setB N xs i c) ∧ w.grownBy w' av.ownBlock := by
 obtain ⟨ga, gr, capr, capa, rfl, rfl, hne, hgr, hga, hbg, hown, hrows⟩ := hm.open hx
 have Hx := Lib.hid hx
 have Hrows := Lib.hid hrows
 have Hm := Lib.hid hm
 have hr0 := hrows i hi
 have hr1 := hrows 0 (by omega)
 have hL1 := Lib.hid (show (xs.set (i * (N + 1)) (imin (gi xs (i * (N + 1))) (2 * c + 1))).length = xs.length by rw [List.length_set])
 have e1 : IntKind.i64.wrap (2 * c) = 2 * c := IntWalk.i64_in _ (by omega)
 have e2 : IntKind.i64.wrap (2 * c + 1) = 2 * c + 1 := IntWalk.i64_in _ (by omega)
 have e3 : IntKind.i64.wrap (1 - 2 * c) = 1 - 2 * c := IntWalk.i64_in _ (by omega)
 have hi1 : i * (N + 1) < xs.length := by have := idx_lt N i 0 hi (by omega); omega
 have xa := ol_cell hown (k := i * (N + 1)) hi1
 have x0 := xa.1
 have xf := xa.2
 have i0 : (0 : Int) ≤ (i : Int) := by omega
 have i1 : (i : Int) < (N : Int) + 1 := by omega
 have hgne : ga ≠ gr := fun e => hne e.symm
 have Hown := Lib.hid hown
 have hmin := imin_fold
 simp only [Nat.zero_mul] at hr1
 generalize hL : xs.length = L at *
 have HL := Lib.hid hL
 clear hL hx hrows hm xa hown
 go_enter Tryz.func130, Tryz.ntmps130
 go_wp2_with fail
 go_region
 go_wp2_with fail
 have hsd := OL.stored Hown.out HL.out.symm (i * (N + 1)) (imin (gi xs (i * (N + 1))) (2 * c + 1))
 have hO1 := hsd.1.drew
 have hG1 := grownBy_trans hsd.2 (grownBy_drew _ (some ga))
 have g0 := ((gcell hG1).1 gr i hgr hne).trans hr0
 have g1 := ((gcell hG1).1 gr 0 hgr hne).trans hr1
 have hsz := hG1.size
 have xb := ol_cell hO1 (k := i) (by rw [hL1.out, Hx.out]; have := idx_lt N 0 i (by omega) hi; omega)
 have u0 := xb.1
 have uf := xb.2
 have HO1 := Lib.hid hO1
 have HG1 := Lib.hid hG1
 have HD := Lib.hid (show setB N xs i c = (xs.set (i * (N + 1)) (imin (gi xs (i * (N + 1))) (2 * c + 1))).set i (imin (gi (xs.set (i * (N + 1)) (imin (gi xs (i * (N + 1))) (2 * c + 1))) i) (1 - 2 * c)) from rfl)
 clear hO1 hG1 hsd xb hr0 hr1 x0 xf
 generalize World.drew _ = W1 at *
 generalize xs.set (i * (N + 1)) _ = M at *
 go_region
 go_wp2_with fail
 go_end0
 have hs2 := OL.stored HO1.out hL1.out.symm i (imin (gi M i) (1 - 2 * c))
 refine ⟨rfl, ?_, grownBy_trans (grownBy_trans HG1.out hs2.2) (grownBy_drew _ _)⟩
 obtain ⟨g', e1, e2, e3, e4⟩ := Hm.out
 simp only [Value.ownBlock, Option.some.injEq] at e1
 subst e1
 rw [HD.out]
 exact ⟨ga, rfl, hs2.1.drew, World.ownsRow.kept e3 (grownBy_trans (grownBy_trans HG1.out hs2.2) (grownBy_drew _ _)) (.inr e4), e4⟩
set_option maxRecDepth 100000 in
set_option maxHeartbeats 4000000 in
theorem prog_free (N base i : Nat) (rv av : Value) (xs : List Int) (w : World) (hm : Mat base w N rv av xs) (hbase : base ≤ w.heap.size)
  (hN : N ≤ 10) (hx : xs.length = (N + 1) * (N + 1)) (hi : i ≤ N) :
  Calls Tryz.prog 129 #[rv, .int .i64 i] w fun e w' => e = .returned (.tuple #[]) ∧ Mat base w' N rv av (freeB N xs i) ∧ w.grownBy w' av.ownBlock := by
 obtain ⟨ga, gr, capr, capa, rfl, rfl, hne, hgr, hga, hbg, hown, hrows⟩ := hm.open hx
 have Hx := Lib.hid hx
 have Hrows := Lib.hid hrows
 have Hm := Lib.hid hm
 have i0 : (0 : Int) ≤ (i : Int) := by omega
 have i1 : (i : Int) < (N : Int) + 1 := by omega
 have hgne : ga ≠ gr := fun e => hne e.symm
 have Hown := Lib.hid hown
 generalize hL : xs.length = L at *
 have HL := Lib.hid hL
 clear hL hx hrows hm hown
 go_enter Tryz.func129, Tryz.ntmps129
 go_wp2_with fail
 go_loopw [4, 8] (fun i4 i9 wr => ∃ q : Nat, q ≤ N + 1 ∧ i9 = .int .i64 q ∧ OL 63 base wr (.slice (some ⟨ga, 0, none⟩) L capa) (free1 N xs i q) ∧ w.grownBy wr (some ga)) (fun _ i _ => N + 1 - (intOf i).toNat)
 case atStart => exact ⟨0, by omega, rfl, Hown.out, grownBy_below (Below.refl _ _) _⟩
 case round =>
  obtain ⟨q, hq, rfl, hown, hgw⟩ := hrel
  by_cases hlt : q < N + 1
  ·have hr0 := ((gcell hgw).1 gr i hgr hne).trans (Hrows.out i hi)
   have hr1 := ((gcell hgw).1 gr q hgr hne).trans (Hrows.out q (by omega))
   have y4 : (q : Int) < (N : Int) + 1 := by omega
   have q0 : (0 : Int) ≤ (q : Int) := by omega
   have hlA := Lib.hid ((free1_len N xs i q).trans HL.out)
   have hlB := Lib.hid (show ((free1 N xs i q).set (i * (N + 1) + q) 1099511627776).length = L by rw [List.length_set]; exact hlA.out)
   have hk1 : i * (N + 1) + q < L := by rw [Hx.out]; exact idx_lt N i q hi (by omega)
   have hk2 : q * (N + 1) + i < L := by rw [Hx.out]; exact idx_lt N q i (by omega) hi
   have xa := ol_cell hown (k := i * (N + 1) + q) (by rw [hlA.out]; exact hk1)
   have x0 := xa.1
   have xf := xa.2
   have xb := ol_cell hown (k := q * (N + 1) + i) (by rw [hlA.out]; exact hk2)
   have u0 := xb.1
   have uf := xb.2
   have Hst := Lib.hid (show free1 N xs i (q + 1) = ((free1 N xs i q).set (i * (N + 1) + q) 1099511627776).set (q * (N + 1) + i) 1099511627776 from rfl)
   have Hg := Lib.hid hgw
   have Hown2 := Lib.hid hown
   have hsz := hgw.size
   have hgr' : gr < wr.heap.size := by omega
   have hga' : ga < wr.heap.size := by omega
   clear hgw hown xa xb hk1 hgr hga hsz
   generalize hA : free1 N xs i q = M at *
   clear hA
   have hsd := OL.stored Hown2.out hlA.out.symm (i * (N + 1) + q) 1099511627776
   have xc := ol_cell hsd.1 (k := q * (N + 1) + i) (by rw [hlB.out]; exact hk2)
   have s0 := xc.1
   have sf := xc.2
   clear xc hk2
   have Hsd := Lib.hid hsd
   clear hsd
   go_wp2_with fail
   go_region
   go_wp2_with fail
   have hsd := Hsd.out
   have hsd2 := OL.stored hsd.1 hlB.out.symm (q * (N + 1) + i) 1099511627776
   go_roundw
   case rel => exact ⟨q + 1, by omega, by go_num, by rw [Hst.out]; exact hsd2.1.drew, grownBy_trans (grownBy_trans (grownBy_trans Hg.out hsd.2) hsd2.2) (grownBy_drew _ _)⟩
   case measure => simp [intOf]; omega
  ·have hd2 : decide ((q : Int) < (N : Int) + 1) = false := by simp; omega
   obtain rfl : q = N + 1 := by omega
   have hr0 := ((gcell hgw).1 gr i hgr hne).trans (Hrows.out i hi)
   have hlA := Lib.hid ((free1_len N xs i (N + 1)).trans HL.out)
   have xa := ol_cell hown (k := i * (N + 1) + i) (by rw [hlA.out, Hx.out]; exact idx_lt N i i hi hi)
   have x0 := xa.1
   have xf := xa.2
   have hlB := Lib.hid (show ((free1 N xs i (N + 1)).set (i * (N + 1) + i) 1).length = L by rw [List.length_set]; exact hlA.out)
   have hsd := OL.stored hown hlA.out.symm (i * (N + 1) + i) 1
   have Hst := Lib.hid (show freeB N xs i = free2 N ((free1 N xs i (N + 1)).set (i * (N + 1) + i) 1) i (N + 1) from rfl)
   have Hsd := Lib.hid hsd
   have Hg := Lib.hid (grownBy_trans hgw hsd.2)
   clear xa hown hsd hgw
   go_wp2_with fail
   generalize (free1 N xs i (N + 1)).set (i * (N + 1) + i) 1 = M at *
   have HO2 := Lib.hid Hsd.out.1
   have Hg2 := Lib.hid Hg.out
   clear Hsd Hg hr0 x0 xf
   generalize wr.setCell _ _ = W1 at *
   go_loopw [5, 32] (fun i5 i9 wr2 => ∃ q : Nat, q ≤ N + 1 ∧ i9 = .int .i64 q ∧ OL 63 base wr2 (.slice (some ⟨ga, 0, none⟩) L capa) (free2 N M i q) ∧ w.grownBy wr2 (some ga)) (fun _ i _ => N + 1 - (intOf i).toNat)
   case atStart => exact ⟨0, by omega, rfl, HO2.out, Hg2.out⟩
   case round =>
    clear HO2 Hg2 hd2
    obtain ⟨q, hq, rfl, hown, hgw⟩ := hrel
    have hlA := Lib.hid ((free2_len N M i q).trans hlB.out)
    by_cases hlt : q < N + 1
    ·have y4 : (q : Int) < (N : Int) + 1 := by omega
     have q0 : (0 : Int) ≤ (q : Int) := by omega
     by_cases hqi : q = i
     ·subst hqi
      have hd1 : ((q : Int) != (q : Int)) = false := by simp
      have Hst2 := Lib.hid (show free2 N M q (q + 1) = free2 N M q q by rw [free2, if_pos rfl])
      have Hg := Lib.hid hgw
      have Hown2 := Lib.hid hown
      clear hgw hown
      go_wp2_with fail
      go_roundw
      case rel => exact ⟨q + 1, by omega, by go_num, by rw [Hst2.out]; exact Hown2.out, Hg.out⟩
      case measure => simp [intOf]; omega
     ·have hd1 : ((q : Int) != (i : Int)) = true := by simp; omega
      have Hst2 := Lib.hid (show free2 N M i (q + 1) = (free2 N M i q).set (q * (N + 1) + i) (gi (free2 N M i q) (q * (N + 1))) by rw [free2, if_neg hqi])
      have hr1 := ((gcell hgw).1 gr q hgr hne).trans (Hrows.out q (by omega))
      have hk2 : q * (N + 1) + i < L := by rw [Hx.out]; exact idx_lt N q i (by omega) hi
      have hk1 : q * (N + 1) < L := by omega
      have xa := ol_cell hown (k := q * (N + 1)) (by rw [hlA.out]; exact hk1)
      have x0 := xa.1
      have xf := xa.2
      have xb := ol_cell hown (k := q * (N + 1) + i) (by rw [hlA.out]; exact hk2)
      have u0 := xb.1
      have uf := xb.2
      have Hg := Lib.hid hgw
      have Hown2 := Lib.hid hown
      clear hgw hown xa xb hk1 hk2 hqi
      generalize hA : free2 N M i q = Y at *
      clear hA
      go_wp2_with fail
      go_region
      go_wp2_with fail
      have hsd := OL.stored Hown2.out hlA.out.symm (q * (N + 1) + i) (gi Y (q * (N + 1)))
      go_roundw
      case rel => exact ⟨q + 1, by omega, by go_num, by rw [Hst2.out]; exact hsd.1.drew, grownBy_trans (grownBy_trans Hg.out hsd.2) (grownBy_drew _ _)⟩
      case measure => simp [intOf]; omega
    ·have hd2 : decide ((q : Int) < (N : Int) + 1) = false := by simp; omega
     obtain rfl : q = N + 1 := by omega
     have Hg := Lib.hid hgw
     have Hown2 := Lib.hid hown
     clear hgw hown
     go_wp2_with fail
     go_end0
     refine ⟨rfl, ?_, Hg.out⟩
     obtain ⟨g', e1, e2, e3, e4⟩ := Hm.out
     simp only [Value.ownBlock, Option.some.injEq] at e1
     subst e1
     rw [Hst.out]
     exact ⟨ga, rfl, Hown2.out, World.ownsRow.kept e3 Hg.out (.inr e4), e4⟩
set_option linter.unusedVariables false
def clkB (n i : Int) : Bool := decide (1 ≤ i ∧ i ≤ n)
def conB (c : Int) : Bool := decide (0 ≤ c ∧ c ≤ 1048576)
theorem prog_clock (n i : Int) (zv : Value) (w : World) : Calls Tryz.prog 126 #[.agg #[.int .i64 n, zv], .int .i64 i] w fun e w' => e = .returned (.bool (clkB n i)) ∧ Below w.heap.size w w' := by
 by_cases h : 1 ≤ i
 ·have h1 : decide (1 ≤ i) = true := by simpa using h
  have h2 : clkB n i = decide (i ≤ n) := by rw [clkB]; simp [h]
  rw [h2]
  have hb := Lib.hid (bdn ((Below.refl w.heap.size w).alloc (Nat.le_refl _) (.cells #[.int .i64 n, zv] 32)) 1)
  go_enter Tryz.func126, Tryz.ntmps126
  go_wp2_with fail
  go_ret
  exact ⟨rfl, (Below.refl w.heap.size w).alloc (Nat.le_refl _) _⟩
 ·have h1 : decide (1 ≤ i) = false := by simpa using h
  have h2 : clkB n i = false := by rw [clkB]; simp [h]
  rw [h2]
  go_enter Tryz.func126, Tryz.ntmps126
  go_wp2_with fail
  go_ret
  exact ⟨rfl, (Below.refl w.heap.size w).alloc (Nat.le_refl _) _⟩
theorem prog_zcon (c : Int) (w : World) : Calls Tryz.prog 127 #[.int .i64 c] w fun e w' => e = .returned (.bool (conB c)) ∧ w' = w := by
 by_cases h : 0 ≤ c
 ·have h1 : decide (0 ≤ c) = true := by simpa using h
  have h2 : conB c = decide (c ≤ 1048576) := by rw [conB]; simp [h]
  rw [h2]
  go_enter Tryz.func127, Tryz.ntmps127
  go_wp2_with fail
  go_ret
  exact ⟨rfl, rfl⟩
 ·have h1 : decide (0 ≤ c) = false := by simpa using h
  have h2 : conB c = false := by rw [conB]; simp [h]
  rw [h2]
  go_enter Tryz.func127, Tryz.ntmps127
  go_wp2_with fail
  go_ret
  exact ⟨rfl, rfl⟩
set_option maxRecDepth 100000 in
set_option maxHeartbeats 2000000 in
theorem prog_reset_change (N base i pb qb : Nat) (c : Int) (rv av : Value) (xs : List Int) (w : World) (hm : Mat base w N rv av xs) (hbase : base ≤ w.heap.size)
  (hN : N ≤ 10) (hx : xs.length = (N + 1) * (N + 1)) (hi : i ≤ N) (hc0 : 0 ≤ c) (hc1 : c ≤ 1048576) (hpb : pb < base) (hqb : qb < base) (hp : w.cell? ⟨pb, 0, none⟩ = some (.int .i64 i)) (hq : w.cell? ⟨qb, 0, none⟩ = some (.int .i64 c)) :
  Calls Tryz.prog 128 #[rv, .pointer (some ⟨pb, 0, none⟩), .pointer (some ⟨qb, 0, none⟩)] w fun e w' => e = .returned (.tuple #[]) ∧ Mat base w' N rv av (setB N (freeB N xs i) i c) ∧ w.grownBy w' av.ownBlock := by
 have Hm := Lib.hid hm
 have Hx := Lib.hid hx
 obtain ⟨ga, gr, capr, capa, rfl, rfl, hne, hgr, hga, hbg, hown, hrows⟩ := hm.open hx
 clear hm hrows hown hx
 generalize hL : xs.length = L at *
 have HL := Lib.hid hL
 clear hL
 go_enter Tryz.func128, Tryz.ntmps128
 go_wp2_with fail
 refine (prog_free N base i _ _ xs w Hm.out hbase hN (HL.out.trans Hx.out) hi).mono ?_
 rintro e w1 ⟨rfl, hm1, hg1⟩
 have hg1' : w.grownBy w1 (some ga) := hg1
 have p1 : w1.cell? ⟨pb, 0, none⟩ = some (.int .i64 i) := ((gcell hg1').1 _ _ (by omega) (by omega)).trans hp
 have q1 : w1.cell? ⟨qb, 0, none⟩ = some (.int .i64 c) := ((gcell hg1').1 _ _ (by omega) (by omega)).trans hq
 have hb1 : base ≤ w1.heap.size := Nat.le_trans hbase hg1'.size
 clear hp hq hg1
 go_wp2_with fail
 refine (prog_set N base i c _ _ (freeB N xs i) w1 hm1 hb1 hN ((freeB_len N xs i).trans (HL.out.trans Hx.out)) hi hc0 hc1).mono ?_
 rintro e w2 ⟨rfl, hm2, hg2⟩
 have hg2' : w1.grownBy w2 (some ga) := hg2
 clear hg2
 go_wp2_with fail
 go_end0
 exact ⟨rfl, hm2, grownBy_trans hg1' hg2'⟩
theorem Loc.four (w : World) (a b c d : Obj) (row : Option Nat) : Loc w ((((w.alloc a).alloc b).alloc c).alloc d) row [a, b, c, d] :=
 ⟨grownBy_trans (Loc.three w a b c row).grown (World.grownBy_alloc _ _ _), fun i hi => by
  by_cases h : i < 3
  ·rw [Below.heap_alloc _ _ _ (by simp; omega), (Loc.three w a b c row).objs i h]
   match i, h with
   | 0, _ => rfl
   | 1, _ => rfl
   | 2, _ => rfl
  ·have : i = 3 := by simp at hi; omega
   subst this
   have := heap_alloc_new (((w.alloc a).alloc b).alloc c) d
   rw [show (((w.alloc a).alloc b).alloc c).heap.size = w.heap.size + 3 by simp] at this
   exact this, by simp⟩
theorem setB_vld {N : Nat} {xs : List Int} (i : Nat) (c : Int) (h : xs.all vld = true) (hx : xs.length = (N + 1) * (N + 1)) (hi : i ≤ N) (h0 : 0 ≤ c) (h1 : c ≤ 1048576) : (setB N xs i c).all vld = true := by
 have e1 : vld (2 * c + 1) = true := by simp [vld]; omega
 have e2 : vld (1 - 2 * c) = true := by simp [vld]; omega
 have k1 : i * (N + 1) < xs.length := by have := idx_lt N i 0 hi (by omega); omega
 have k2 : i < xs.length := by have := idx_lt N 0 i (by omega) hi; omega
 have s1 := set_all_vld h (i * (N + 1)) (imin_vld (all_gi h k1) e1)
 exact set_all_vld s1 _ (imin_vld (all_gi s1 (by rw [List.length_set]; exact k2)) e2)
noncomputable def resetF (n : Int) (xs : List Int) (i c : Int) : Int × List Int := chgF n xs (clkB n i && conB c) (setB n.toNat (freeB n.toNat xs i.toNat) i.toNat c)
theorem enters_reset : Enters Tryz.prog 128 := enters_of Tryz.func128 (by kernel_rfl) rfl
set_option maxRecDepth 100000 in
set_option maxHeartbeats 4000000 in
theorem prog_reset_in (n i c : Int) (zv : Value) (xs : List Int) (w : World) (hz : RL w.heap.size w zv xs) (hi : clkB n i = true) :
  Calls Tryz.prog 72 #[.agg #[.int .i64 n, zv], .int .i64 i, .int .i64 c] w fun e w' => ZPost 63 w.heap.size n (resetF n xs i c) e w' ∧ Below w.heap.size w w' := by
 obtain ⟨aoz, capz, rfl, hlez, _⟩ := hz.open
 have hloc : Loc w ((((w.alloc (.cells #[.int .i64 n, .slice aoz xs.length capz] 32)).alloc (.cells #[.int .i64 i] 3)).alloc (.cells #[.int .i64 c] 2)).alloc (.cells #[.int .i64 0, .slice none 0 0] 32)) none [.cells #[.int .i64 n, .slice aoz xs.length capz] 32, .cells #[.int .i64 i] 3, .cells #[.int .i64 c] 2, .cells #[.int .i64 0, .slice none 0 0] 32] := Loc.four w _ _ _ _ _
 have Hz := Lib.hid hz
 clear hz
 have key : ∀ wr : World, Below w.heap.size w wr → w.heap.size + 3 ≤ wr.heap.size → wr.cell? ⟨w.heap.size + 1, 0, none⟩ = some (.int .i64 i) → wr.cell? ⟨w.heap.size + 2, 0, none⟩ = some (.int .i64 c) → Calls Tryz.prog 120 #[.agg #[.int .i64 n, .slice aoz xs.length capz], .bool (conB c), .func (.func 128) #[] #[.pointer (some ⟨w.heap.size + 1, 0, none⟩), .pointer (some ⟨w.heap.size + 2, 0, none⟩)]] wr fun e w' => ZPost 63 wr.heap.size n (resetF n xs i c) e w' ∧ Below wr.heap.size wr w' := by
  intro wr hbe hse hc1 hc2
  have Hz1 : RL wr.heap.size wr (.slice aoz xs.length capz) xs := Hz.out.keepb hbe
  unfold resetF
  rw [hi, Bool.true_and]
  by_cases hok : OkZ n xs ∧ conB c = true
  ·obtain ⟨N, rfl⟩ := Int.eq_ofNat_of_zero_le hok.1.lo
   have hN : N ≤ 10 := by have := hok.1.hi; omega
   have hlen : xs.length = (N + 1) * (N + 1) := by have := hok.1.len; rwa [Int.toNat_natCast] at this
   have hvx := (dimF_nat hok.1.dim).2.2
   have h3 : 1 ≤ i ∧ i ≤ N := by simpa [clkB] using hi
   obtain ⟨i', rfl⟩ := Int.eq_ofNat_of_zero_le (show 0 ≤ i by omega)
   have h4 : 0 ≤ c ∧ c ≤ 1048576 := by simpa [conB] using hok.2
   rw [Int.toNat_natCast, Int.toNat_natCast, hok.2]
   refine prog_changed_ok N _ xs _ _ _ wr Hz1 hok.1 enters_reset (fun base rv av w' hb hb1 hb2 hm => ?_) (by rw [setB_len, freeB_len]) (setB_vld i' c (freeB_vld i' hvx hlen) (by rw [freeB_len, hlen]) (by omega) h4.1 h4.2)
   exact prog_reset_change N base i' (w.heap.size + 1) (w.heap.size + 2) c rv av xs w' hm hb2 hN hlen (by omega) h4.1 h4.2 (by omega) (by omega) (keepb hc1 hb) (keepb hc2 hb)
  ·exact prog_changed_bad n _ _ xs _ _ wr Hz1 hok
 have Key := Lib.hid key
 clear key
 have c00 := hloc.cell 0 rfl 0
 have c01 := hloc.cell 0 rfl 1
 have c10 := hloc.cell 1 rfl 0
 have c20 := hloc.cell 2 rfl 0
 go_enter Tryz.func72, Tryz.ntmps72
 go_wp2_with fail
 have c20' := show World.cell? _ ⟨w.heap.size + 1 + 1, 0, none⟩ = _ from c20
 clear c20
 have Hi := Lib.hid hi
 generalize World.alloc _ (Obj.cells #[.int .i64 0, .slice none 0 0] 32) = W at *
 have Hloc := Lib.hid hloc
 have HW := Lib.hid (show w.heap.size + 4 ≤ W.heap.size from hloc.size)
 clear hloc hi
 have n0 : ¬ (w.heap.size = w.heap.size + 1 + 1 + 1) := by omega
 have n1 : ¬ (w.heap.size + 1 = w.heap.size + 1 + 1 + 1) := by omega
 have n2 : ¬ (w.heap.size + 1 + 1 + 1 = w.heap.size) := by omega
 have n3 : ¬ (w.heap.size + 1 + 1 + 1 = w.heap.size + 1) := by omega
 have n4 : ¬ (w.heap.size = w.heap.size + 1 + 1) := by omega
 have n5 : ¬ (w.heap.size + 1 + 1 = w.heap.size) := by omega
 generalize hR : resetF n xs i c = R at *
 have HR := Lib.hid hR
 clear hR
 go_region_held3 (fun w' => w'.cell? ⟨w.heap.size, 0, none⟩ = some (.int .i64 n) ∧ w'.cell? ⟨w.heap.size, 1, none⟩ = some (.slice aoz xs.length capz) ∧ w'.cell? ⟨w.heap.size + 1, 0, none⟩ = some (.int .i64 i) ∧ w'.cell? ⟨w.heap.size + 1 + 1, 0, none⟩ = some (.int .i64 c))
  (first | exact ⟨by assumption, by assumption, by assumption, by assumption⟩ | go_keep)
  (first
   | (go_at_call 126; refine (prog_clock n i _ _).mono ?_; rw [Hi.out]; rintro e w8 ⟨rfl, hb8⟩; have hloc8 := Hloc.out.next (grownBy_trans (grownBy_drew W none) (grownBy_below hb8 none)) (fun _ h => by cases h); have q0 : w8.cell? ⟨w.heap.size, 0, none⟩ = some (.int .i64 n) := hloc8.cell 0 rfl 0; have q1 : w8.cell? ⟨w.heap.size, 1, none⟩ = some (.slice aoz xs.length capz) := hloc8.cell 0 rfl 1; have q2 : w8.cell? ⟨w.heap.size + 1, 0, none⟩ = some (.int .i64 i) := hloc8.cell 1 rfl 0; have q3 : w8.cell? ⟨w.heap.size + 1 + 1, 0, none⟩ = some (.int .i64 c) := hloc8.cell 2 rfl 0)
   | (go_at_call 127; refine (prog_zcon c _).mono ?_; rintro e w9 ⟨rfl, rfl⟩)
   | (go_at_call 120; refine (Key.out _ (below_grownBy hloc8.grown) (by have := hloc8.size; simp at this; omega) q2 q3).mono ?_; rintro e w5 ⟨⟨v5, rfl, ho5⟩, hb5⟩; obtain ⟨ao5, cap5, rfl⟩ := owns_form ho5; have hloc5 := hloc8.next (grownBy_below hb5 none) (fun _ h => by cases h); have p0 : w5.cell? ⟨w.heap.size, 0, none⟩ = some (.int .i64 n) := hloc5.cell 0 rfl 0; have p1 : w5.cell? ⟨w.heap.size, 1, none⟩ = some (.slice aoz xs.length capz) := hloc5.cell 0 rfl 1; have p2 : w5.cell? ⟨w.heap.size + 1, 0, none⟩ = some (.int .i64 i) := hloc5.cell 1 rfl 0; have p3 : w5.cell? ⟨w.heap.size + 1 + 1, 0, none⟩ = some (.int .i64 c) := hloc5.cell 2 rfl 0; have r0 : w5.cell? ⟨w.heap.size + 1 + 1 + 1, 0, none⟩ = some (.int .i64 0) := hloc5.cell 3 rfl 0; have r1 : w5.cell? ⟨w.heap.size + 1 + 1 + 1, 1, none⟩ = some (.slice none 0 0) := hloc5.cell 3 rfl 1; have r2 : w5.frozen? ⟨w.heap.size + 1 + 1 + 1, 0, none⟩ = false := hloc5.free 3 rfl 0; have r3 : w5.frozen? ⟨w.heap.size + 1 + 1 + 1, 1, none⟩ = false := hloc5.free 3 rfl 1))
 all_goals
  go_wp2_with fail
  have Ho5 := Lib.hid (show OL 63 (w.heap.size + 4) w5 (.slice ao5 R.2.length cap5) R.2 from OL.mono ho5 (by have := hloc8.size; simp at this; omega))
  have HB5 := Lib.hid (below_grownBy hloc5.grown)
  refine bodyPost_ret (v := .tuple #[.agg #[.int .i64 (zdim R n), .slice ao5 R.2.length cap5], .int .i64 R.1]) (by simp [results, Tryz.results72, go_sem, r0, r1]) rfl ⟨⟨_, by rw [HR.out], ?_⟩, ?_⟩
  ·rw [HR.out]; exact OL.mono (base := w.heap.size + 4) (own_set2 Ho5.out (by omega) _ _) (by omega)
  ·exact (HB5.out.setCell (by simp; omega) _).setCell (by simp; omega) _
set_option linter.unusedVariables false
theorem lsum_val {a b : Int} (ha : vld a = true) (hb : vld b = true) (na : a ≠ 1099511627776) (nb : b ≠ 1099511627776) : lsum a b = a + b - (if a % 2 = 0 ∧ b % 2 = 0 then 0 else 1) := by
 rw [vld_iff] at ha hb
 unfold lsum
 rw [if_neg (by omega)]
 unfold wrap64
 split <;> omega
theorem ent_vld {N : Nat} {xs : List Int} (h : OkZ N xs) {i j : Nat} (hi : i ≤ N) (hj : j ≤ N) : vld (ent N xs i j) = true := (h.el hi hj).val
theorem ent_tri {N : Nat} {xs : List Int} (h : OkZ N xs) {i j k : Nat} (hi : i ≤ N) (hj : j ≤ N) (hk : k ≤ N) : ent N xs i j ≤ lsum (ent N xs i k) (ent N xs k j) := by
 have := h.tri i j k (by rw [Int.toNat_natCast]; exact hi) (by rw [Int.toNat_natCast]; exact hj) (by rw [Int.toNat_natCast]; exact hk)
 rw [Int.toNat_natCast] at this
 exact this
theorem ent_row {N : Nat} {xs : List Int} (h : OkZ N xs) {j : Nat} (hj : j ≤ N) : ent N xs 0 j ≤ 1 := by
 have := h.rowN hj
 unfold ent; rwa [Nat.zero_mul, Nat.zero_add]
theorem okz_of {N : Nat} {Z : List Int} (hN : N ≤ 10) (hl : Z.length = (N + 1) * (N + 1)) (hv : ∀ i j, i ≤ N → j ≤ N → vld (ent N Z i j) = true) (hd : ∀ i, i ≤ N → ent N Z i i = 1) (hr : ∀ j, j ≤ N → ent N Z 0 j ≤ 1)
  (ht : ∀ i j k, i ≤ N → j ≤ N → k ≤ N → ent N Z i j ≤ lsum (ent N Z i k) (ent N Z k j)) : OkZ N Z :=
 OkZ.mk' hN hl (fun i j hi hj => ⟨hv i j (by omega) hj, fun e => by subst e; exact hd i (by omega), fun e => by subst e; exact hr j hj⟩) (fun i j k hi hj hk => ht i j k (by omega) hj hk)
-- Up
end Go.Proofs.YtfphlpglgcmljaaGreat
