/- The program's set and free: what Reset, Free, Copy, Before do with a matrix. -/
import Derived.Test.YtkgaipcgdldfdaaUp
namespace Go.Proofs.Ytkgaipcgdldfdaa
open Go.RowKit
set_option linter.unusedVariables false

def free1 (N : Nat) (xs : List Int) (i : Nat) : Nat → List Int
  | 0 => xs
  | q + 1 => ((free1 N xs i q).set (i * (N + 1) + q) 1099511627776).set (q * (N + 1) + i) 1099511627776
def free2 (N : Nat) (xs : List Int) (i : Nat) : Nat → List Int
  | 0 => xs
  | q + 1 => if q = i then free2 N xs i q else (free2 N xs i q).set (q * (N + 1) + i) (gi (free2 N xs i q) (q * (N + 1)))
def freeB (N : Nat) (xs : List Int) (i : Nat) : List Int := free2 N ((free1 N xs i (N + 1)).set (i * (N + 1) + i) 1) i (N + 1)
def setB (N : Nat) (xs : List Int) (i : Nat) (c : Int) : List Int :=
  (xs.set (i * (N + 1)) (imin (gi xs (i * (N + 1))) (2 * c + 1))).set i (imin (gi (xs.set (i * (N + 1)) (imin (gi xs (i * (N + 1))) (2 * c + 1))) i) (1 - 2 * c))
theorem free1_len (N : Nat) (xs : List Int) (i q : Nat) : (free1 N xs i q).length = xs.length := by
  induction q with
  | zero => rfl
  | succ q ih => rw [free1, List.length_set, List.length_set, ih]
theorem free2_len (N : Nat) (xs : List Int) (i q : Nat) : (free2 N xs i q).length = xs.length := by
  induction q with
  | zero => rfl
  | succ q ih =>
    rw [free2]
    split
    · exact ih
    · rw [List.length_set, ih]
theorem freeB_len (N : Nat) (xs : List Int) (i : Nat) : (freeB N xs i).length = xs.length := by rw [freeB, free2_len, List.length_set, free1_len]
theorem setB_len (N : Nat) (xs : List Int) (i : Nat) (c : Int) : (setB N xs i c).length = xs.length := by rw [setB, List.length_set, List.length_set]
theorem free1_vld {N : Nat} {xs : List Int} (i : Nat) (h : xs.all vld = true) (q : Nat) : (free1 N xs i q).all vld = true := by
  induction q with
  | zero => exact h
  | succ q ih => rw [free1]; exact set_all_vld (set_all_vld ih _ (by decide)) _ (by decide)
theorem all_gi {xs : List Int} (h : xs.all vld = true) {k : Nat} (hk : k < xs.length) : vld (gi xs k) = true := by
  rw [List.all_eq_true] at h
  exact h _ (gi_mem hk)
theorem free2_vld {N : Nat} {xs : List Int} (i : Nat) (h : xs.all vld = true) (hx : xs.length = (N + 1) * (N + 1)) (q : Nat) (hq : q ≤ N + 1) : (free2 N xs i q).all vld = true := by
  induction q with
  | zero => exact h
  | succ q ih =>
    rw [free2]
    split
    · exact ih (by omega)
    · refine set_all_vld (ih (by omega)) _ (all_gi (ih (by omega)) ?_)
      rw [free2_len, hx]
      have := idx_lt N q 0 (by omega) (by omega)
      omega
theorem freeB_vld {N : Nat} {xs : List Int} (i : Nat) (h : xs.all vld = true) (hx : xs.length = (N + 1) * (N + 1)) : (freeB N xs i).all vld = true :=
  free2_vld i (set_all_vld (free1_vld i h _) _ (by decide)) (by rw [List.length_set, free1_len, hx]) _ (by omega)
theorem imin_vld {a b : Int} (h : vld a = true) (h' : vld b = true) : vld (imin a b) = true := by
  rcases (imin_le a b).2.2 with e | e <;> rw [e] <;> assumption

set_option maxRecDepth 100000 in
set_option maxHeartbeats 2000000 in
theorem prog_set (N base i : Nat) (c : Int) (rv av : Value) (xs : List Int) (w : World) (hm : Mat base w N rv av xs) (hbase : base ≤ w.heap.size)
    (hN : N ≤ 10) (hx : xs.length = (N + 1) * (N + 1)) (hi : i ≤ N) (hc0 : 0 ≤ c) (hc1 : c ≤ 1048576) :
    Calls Try.prog 109 #[rv, .int .i64 i, .int .i64 c] w fun e w' => e = .returned (.tuple #[]) ∧ Mat base w' N rv av (setB N xs i c) ∧ w.grownBy w' av.ownBlock := by
  obtain ⟨ga, gr, capr, capa, rfl, rfl, hne, hgr, hga, hbg, hown, hrows⟩ := hm.open hx
  have Hx := Lib.hid hx
  have Hrows := Lib.hid hrows
  have Hm := Lib.hid hm
  have hr0 := hrows i hi
  have hr1 := hrows 0 (by omega)
  have hL1 := Lib.hid (show (xs.set (i * (N + 1)) (imin (gi xs (i * (N + 1))) (2 * c + 1))).length = xs.length by rw [List.length_set])
  have e1 : IntKind.i64.wrap (2 * c) = 2 * c := IntWalk.i64_in _ (by omega)
  have e2 : IntKind.i64.wrap (2 * c + 1) = 2 * c + 1 := IntWalk.i64_in _ (by omega)
  have e3 : IntKind.i64.wrap (1 - 2 * c) = 1 - 2 * c := IntWalk.i64_in _ (by omega)
  have hi1 : i * (N + 1) < xs.length := by have := idx_lt N i 0 hi (by omega); omega
  have xa := ol_cell hown (k := i * (N + 1)) hi1
  have x0 := xa.1
  have xf := xa.2
  have i0 : (0 : Int) ≤ (i : Int) := by omega
  have i1 : (i : Int) < (N : Int) + 1 := by omega
  have hgne : ga ≠ gr := fun e => hne e.symm
  have Hown := Lib.hid hown
  have hmin := imin_fold
  simp only [Nat.zero_mul] at hr1
  generalize hL : xs.length = L at *
  have HL := Lib.hid hL
  clear hL hx hrows hm xa hown
  go_enter Try.func109, Try.ntmps109
  go_wp2_with fail
  go_region
  go_wp2_with fail
  have hsd := OL.stored Hown.out HL.out.symm (i * (N + 1)) (imin (gi xs (i * (N + 1))) (2 * c + 1))
  have hO1 := hsd.1.drew
  have hG1 := grownBy_trans hsd.2 (grownBy_drew _ (some ga))
  have g0 := ((gcell hG1).1 gr i hgr hne).trans hr0
  have g1 := ((gcell hG1).1 gr 0 hgr hne).trans hr1
  have hsz := hG1.size
  have xb := ol_cell hO1 (k := i) (by rw [hL1.out, Hx.out]; have := idx_lt N 0 i (by omega) hi; omega)
  have u0 := xb.1
  have uf := xb.2
  have HO1 := Lib.hid hO1
  have HG1 := Lib.hid hG1
  have HD := Lib.hid (show setB N xs i c = (xs.set (i * (N + 1)) (imin (gi xs (i * (N + 1))) (2 * c + 1))).set i (imin (gi (xs.set (i * (N + 1)) (imin (gi xs (i * (N + 1))) (2 * c + 1))) i) (1 - 2 * c)) from rfl)
  clear hO1 hG1 hsd xb hr0 hr1 x0 xf
  generalize World.drew _ = W1 at *
  generalize xs.set (i * (N + 1)) _ = M at *
  go_region
  go_wp2_with fail
  go_end0
  have hs2 := OL.stored HO1.out hL1.out.symm i (imin (gi M i) (1 - 2 * c))
  refine ⟨rfl, ?_, grownBy_trans (grownBy_trans HG1.out hs2.2) (grownBy_drew _ _)⟩
  obtain ⟨g', e1, e2, e3, e4⟩ := Hm.out
  simp only [Value.ownBlock, Option.some.injEq] at e1
  subst e1
  rw [HD.out]
  exact ⟨ga, rfl, hs2.1.drew, World.ownsRow.kept e3 (grownBy_trans (grownBy_trans HG1.out hs2.2) (grownBy_drew _ _)) (.inr e4), e4⟩

set_option maxRecDepth 100000 in
set_option maxHeartbeats 4000000 in
theorem prog_free (N base i : Nat) (rv av : Value) (xs : List Int) (w : World) (hm : Mat base w N rv av xs) (hbase : base ≤ w.heap.size)
    (hN : N ≤ 10) (hx : xs.length = (N + 1) * (N + 1)) (hi : i ≤ N) :
    Calls Try.prog 108 #[rv, .int .i64 i] w fun e w' => e = .returned (.tuple #[]) ∧ Mat base w' N rv av (freeB N xs i) ∧ w.grownBy w' av.ownBlock := by
  obtain ⟨ga, gr, capr, capa, rfl, rfl, hne, hgr, hga, hbg, hown, hrows⟩ := hm.open hx
  have Hx := Lib.hid hx
  have Hrows := Lib.hid hrows
  have Hm := Lib.hid hm
  have i0 : (0 : Int) ≤ (i : Int) := by omega
  have i1 : (i : Int) < (N : Int) + 1 := by omega
  have hgne : ga ≠ gr := fun e => hne e.symm
  have Hown := Lib.hid hown
  generalize hL : xs.length = L at *
  have HL := Lib.hid hL
  clear hL hx hrows hm hown
  go_enter Try.func108, Try.ntmps108
  go_wp2_with fail
  go_loopw [4, 8] (fun i4 i9 wr => ∃ q : Nat, q ≤ N + 1 ∧ i9 = .int .i64 q ∧ OL 60 base wr (.slice (some ⟨ga, 0, none⟩) L capa) (free1 N xs i q) ∧ w.grownBy wr (some ga)) (fun _ i _ => N + 1 - (intOf i).toNat)
  case atStart => exact ⟨0, by omega, rfl, Hown.out, grownBy_below (Below.refl _ _) _⟩
  case round =>
    obtain ⟨q, hq, rfl, hown, hgw⟩ := hrel
    by_cases hlt : q < N + 1
    · have hr0 := ((gcell hgw).1 gr i hgr hne).trans (Hrows.out i hi)
      have hr1 := ((gcell hgw).1 gr q hgr hne).trans (Hrows.out q (by omega))
      have y4 : (q : Int) < (N : Int) + 1 := by omega
      have q0 : (0 : Int) ≤ (q : Int) := by omega
      have hlA := Lib.hid ((free1_len N xs i q).trans HL.out)
      have hlB := Lib.hid (show ((free1 N xs i q).set (i * (N + 1) + q) 1099511627776).length = L by rw [List.length_set]; exact hlA.out)
      have hk1 : i * (N + 1) + q < L := by rw [Hx.out]; exact idx_lt N i q hi (by omega)
      have hk2 : q * (N + 1) + i < L := by rw [Hx.out]; exact idx_lt N q i (by omega) hi
      have xa := ol_cell hown (k := i * (N + 1) + q) (by rw [hlA.out]; exact hk1)
      have x0 := xa.1
      have xf := xa.2
      have xb := ol_cell hown (k := q * (N + 1) + i) (by rw [hlA.out]; exact hk2)
      have u0 := xb.1
      have uf := xb.2
      have Hst := Lib.hid (show free1 N xs i (q + 1) = ((free1 N xs i q).set (i * (N + 1) + q) 1099511627776).set (q * (N + 1) + i) 1099511627776 from rfl)
      have Hg := Lib.hid hgw
      have Hown2 := Lib.hid hown
      have hsz := hgw.size
      have hgr' : gr < wr.heap.size := by omega
      have hga' : ga < wr.heap.size := by omega
      clear hgw hown xa xb hk1 hgr hga hsz
      generalize hA : free1 N xs i q = M at *
      clear hA
      have hsd := OL.stored Hown2.out hlA.out.symm (i * (N + 1) + q) 1099511627776
      have xc := ol_cell hsd.1 (k := q * (N + 1) + i) (by rw [hlB.out]; exact hk2)
      have s0 := xc.1
      have sf := xc.2
      clear xc hk2
      have Hsd := Lib.hid hsd
      clear hsd
      go_wp2_with fail
      go_region
      go_wp2_with fail
      have hsd := Hsd.out
      have hsd2 := OL.stored hsd.1 hlB.out.symm (q * (N + 1) + i) 1099511627776
      go_roundw
      case rel => exact ⟨q + 1, by omega, by go_num, by rw [Hst.out]; exact hsd2.1.drew, grownBy_trans (grownBy_trans (grownBy_trans Hg.out hsd.2) hsd2.2) (grownBy_drew _ _)⟩
      case measure => simp [intOf]; omega
    · have hd2 : decide ((q : Int) < (N : Int) + 1) = false := by simp; omega
      obtain rfl : q = N + 1 := by omega
      have hr0 := ((gcell hgw).1 gr i hgr hne).trans (Hrows.out i hi)
      have hlA := Lib.hid ((free1_len N xs i (N + 1)).trans HL.out)
      have xa := ol_cell hown (k := i * (N + 1) + i) (by rw [hlA.out, Hx.out]; exact idx_lt N i i hi hi)
      have x0 := xa.1
      have xf := xa.2
      have hlB := Lib.hid (show ((free1 N xs i (N + 1)).set (i * (N + 1) + i) 1).length = L by rw [List.length_set]; exact hlA.out)
      have hsd := OL.stored hown hlA.out.symm (i * (N + 1) + i) 1
      have Hst := Lib.hid (show freeB N xs i = free2 N ((free1 N xs i (N + 1)).set (i * (N + 1) + i) 1) i (N + 1) from rfl)
      have Hsd := Lib.hid hsd
      have Hg := Lib.hid (grownBy_trans hgw hsd.2)
      clear xa hown hsd hgw
      go_wp2_with fail
      generalize (free1 N xs i (N + 1)).set (i * (N + 1) + i) 1 = M at *
      have HO2 := Lib.hid Hsd.out.1
      have Hg2 := Lib.hid Hg.out
      clear Hsd Hg hr0 x0 xf
      generalize wr.setCell _ _ = W1 at *
      go_loopw [5, 32] (fun i5 i9 wr2 => ∃ q : Nat, q ≤ N + 1 ∧ i9 = .int .i64 q ∧ OL 60 base wr2 (.slice (some ⟨ga, 0, none⟩) L capa) (free2 N M i q) ∧ w.grownBy wr2 (some ga)) (fun _ i _ => N + 1 - (intOf i).toNat)
      case atStart => exact ⟨0, by omega, rfl, HO2.out, Hg2.out⟩
      case round =>
        clear HO2 Hg2 hd2
        obtain ⟨q, hq, rfl, hown, hgw⟩ := hrel
        have hlA := Lib.hid ((free2_len N M i q).trans hlB.out)
        by_cases hlt : q < N + 1
        · have y4 : (q : Int) < (N : Int) + 1 := by omega
          have q0 : (0 : Int) ≤ (q : Int) := by omega
          by_cases hqi : q = i
          · subst hqi
            have hd1 : ((q : Int) != (q : Int)) = false := by simp
            have Hst2 := Lib.hid (show free2 N M q (q + 1) = free2 N M q q by rw [free2, if_pos rfl])
            have Hg := Lib.hid hgw
            have Hown2 := Lib.hid hown
            clear hgw hown
            go_wp2_with fail
            go_roundw
            case rel => exact ⟨q + 1, by omega, by go_num, by rw [Hst2.out]; exact Hown2.out, Hg.out⟩
            case measure => simp [intOf]; omega
          · have hd1 : ((q : Int) != (i : Int)) = true := by simp; omega
            have Hst2 := Lib.hid (show free2 N M i (q + 1) = (free2 N M i q).set (q * (N + 1) + i) (gi (free2 N M i q) (q * (N + 1))) by rw [free2, if_neg hqi])
            have hr1 := ((gcell hgw).1 gr q hgr hne).trans (Hrows.out q (by omega))
            have hk2 : q * (N + 1) + i < L := by rw [Hx.out]; exact idx_lt N q i (by omega) hi
            have hk1 : q * (N + 1) < L := by omega
            have xa := ol_cell hown (k := q * (N + 1)) (by rw [hlA.out]; exact hk1)
            have x0 := xa.1
            have xf := xa.2
            have xb := ol_cell hown (k := q * (N + 1) + i) (by rw [hlA.out]; exact hk2)
            have u0 := xb.1
            have uf := xb.2
            have Hg := Lib.hid hgw
            have Hown2 := Lib.hid hown
            clear hgw hown xa xb hk1 hk2 hqi
            generalize hA : free2 N M i q = Y at *
            clear hA
            go_wp2_with fail
            go_region
            go_wp2_with fail
            have hsd := OL.stored Hown2.out hlA.out.symm (q * (N + 1) + i) (gi Y (q * (N + 1)))
            go_roundw
            case rel => exact ⟨q + 1, by omega, by go_num, by rw [Hst2.out]; exact hsd.1.drew, grownBy_trans (grownBy_trans Hg.out hsd.2) (grownBy_drew _ _)⟩
            case measure => simp [intOf]; omega
        · have hd2 : decide ((q : Int) < (N : Int) + 1) = false := by simp; omega
          obtain rfl : q = N + 1 := by omega
          have Hg := Lib.hid hgw
          have Hown2 := Lib.hid hown
          clear hgw hown
          go_wp2_with fail
          go_end0
          refine ⟨rfl, ?_, Hg.out⟩
          obtain ⟨g', e1, e2, e3, e4⟩ := Hm.out
          simp only [Value.ownBlock, Option.some.injEq] at e1
          subst e1
          rw [Hst.out]
          exact ⟨ga, rfl, Hown2.out, World.ownsRow.kept e3 Hg.out (.inr e4), e4⟩
end Go.Proofs.Ytkgaipcgdldfdaa
