/- Part of the proof of priced_clears_proved: Zzone. -/
import Derived.BigRegion
import Derived.Test.YtfphlpglgcmljaaGreatXcZof
import Derived.Test.YtfphlpglgcmljaaGreatXcFw2
namespace Go.Proofs.YtfphlpglgcmljaaGreat
open Go.RowKit
theorem Mat.open {base N : Nat} {w : World} {rv av : Value} {xs : List Int} (h : Mat base w N rv av xs) (hx : xs.length = (N + 1) * (N + 1)) :
  ∃ ga gr capr capa, rv = .slice (some ⟨gr, 0, none⟩) (N + 1) capr ∧ av = .slice (some ⟨ga, 0, none⟩) xs.length capa ∧ gr ≠ ga ∧ gr < w.heap.size ∧ ga < w.heap.size ∧ base ≤ ga ∧
   OL 63 base w av xs ∧ (∀ i, i ≤ N → w.cell? ⟨gr, i, none⟩ = some (.slice (some ⟨ga, i * (N + 1), none⟩) (N + 1) (N + 1))) := by
 obtain ⟨ga, h1, h2, h3, h4⟩ := h
 obtain ⟨g', capa, rfl, h5, h6, _, _⟩ := h2.open (by rw [hx]; exact Nat.mul_pos (by omega) (by omega))
 simp only [Value.ownBlock, Option.some.injEq] at h1
 subst h1
 rcases h3.2 with ⟨rfl, h0⟩ | ⟨gr, capr, cur, rfl, hb, hg, hnc, hcm, hcs, ht⟩
 ·omega
 ·refine ⟨g', gr, capr, capa, rfl, rfl, fun e => h4 (by rw [e]; rfl), (Array.getElem?_eq_some_iff.1 hg).1, h6, h5, h2, fun i hi => ?_⟩
  rw [World.ownsRow.cellAt h3 i (by omega)]
  simp [rowsOf, List.getElem?_map, List.getElem?_range (show i < N + 1 by omega)]
theorem pI_none_mono {N k : Nat} {m : List Int} {n n' : Nat} (h : pI N k m n = none) (hn : n ≤ n') : pI N k m n' = none := by
  induction n' with
  | zero => have : n = 0 := by omega
            subst this; exact h
  | succ n' ih =>
    by_cases e : n = n' + 1
    · rw [← e]; exact h
    · simp only [pI, ih (by omega), Option.bind_none]
theorem pK_none_mono {N : Nat} {m : List Int} {n n' : Nat} (h : pK N m n = none) (hn : n ≤ n') : pK N m n' = none := by
  induction n' with
  | zero => have : n = 0 := by omega
            subst this; exact h
  | succ n' ih =>
    by_cases e : n = n' + 1
    · rw [← e]; exact h
    · simp only [pK, ih (by omega), Option.bind_none]
theorem progZ_none {N k i : Nat} {xs X M : List Int} (hk : k < N + 1) (hi : i < N + 1) (hX : capTo N xs (N + 1) = X) (hM : pK N X k = some M) (h : pI N k M (i + 1) = none) : progZ N xs = (4, []) := by
 have h1 : pK N X (k + 1) = none := by simp only [pK, hM, Option.bind_some]; exact pI_none_mono h (by omega)
 unfold progZ
 rw [hX, pK_none_mono h1 (by omega)]
set_option maxRecDepth 100000 in
set_option maxHeartbeats 4000000 in
theorem prog_zone (N : Nat) (rv av : Value) (xs : List Int) (base : Nat) (w : World) (hm : Mat base w N rv av xs) (hbase : base ≤ w.heap.size) (hN : N ≤ 10) (hx : xs.length = (N + 1) * (N + 1)) :
  Calls Tryz.prog 168 #[.agg #[.int .i64 N, rv, av]] w fun e w' => ZPost 63 base N (progZ N xs) e w' ∧ Below base w w' := by
 obtain ⟨ga, gr, capr, capa, rfl, rfl, hne, hgr, hga, hbg, hown, hrows⟩ := hm.open hx
 have Hx := Lib.hid hx
 have Hrows := Lib.hid hrows
 have Hm := Lib.hid hm
 clear hx hrows hm
 generalize hL : xs.length = L at *
 have HL := Lib.hid hL
 clear hL
 have hmin := imin_fold
 go_enter Tryz.func168, Tryz.ntmps168
 go_wp2_with fail
 go_loopw [17] (fun j wr => ∃ q : Nat, q ≤ N + 1 ∧ j = .int .i64 q ∧ OL 63 base wr (.slice (some ⟨ga, 0, none⟩) L capa) (capTo N xs q) ∧ Loc w wr (some ga) [.cells #[.int .i64 N, .slice (some ⟨gr, 0, none⟩) (N + 1) capr, .slice (some ⟨ga, 0, none⟩) L capa] 175, .cells #[.int .i64 0, .slice none 0 0] 32]) (fun j _ => N + 1 - (intOf j).toNat)
 case atStart => exact ⟨0, by omega, rfl, (OL.kept hown (grownBy_trans (World.grownBy_alloc _ _ none) (World.grownBy_alloc _ _ none)) (by simp [Value.ownBlock])), Loc.two _ _ _ _⟩
 case round =>
  clear hown
  obtain ⟨q, hq, rfl, hown, hloc⟩ := hrel
  have c0 : wr.cell? ⟨w.heap.size, 0, none⟩ = some (.int .i64 N) := hloc.cell 0 rfl 0
  have c1 : wr.cell? ⟨w.heap.size, 1, none⟩ = some (.slice (some ⟨gr, 0, none⟩) (N + 1) capr) := hloc.cell 0 rfl 1
  by_cases hlt : q < N + 1
  ·have htq : decide ((q : Int) < (N : Int) + 1) = true := by simp; omega
   have g0 : wr.cell? ⟨gr, 0, none⟩ = some (.slice (some ⟨ga, 0, none⟩) (N + 1) (N + 1)) := by have h := ((gcell hloc.grown).1 gr 0 hgr hne).trans (Hrows.out 0 (by omega)); rwa [Nat.zero_mul] at h
   have g1 : wr.cell? ⟨gr, q, none⟩ = some (.slice (some ⟨ga, q * (N + 1), none⟩) (N + 1) (N + 1)) := ((gcell hloc.grown).1 gr q hgr hne).trans (Hrows.out q (by omega))
   have hlen := Lib.hid ((capTo_len N xs q).trans (HL.out.trans Hx.out))
   have x0 := ol_cell hown (k := q) (by rw [hlen.out]; have := idx_lt N 0 q (by omega) (by omega); omega)
   have Hown := Lib.hid hown
   clear hown
   go_wp2_with fail
   go_region
   go_wp2_with fail
   have hsd := OL.stored Hown.out (by rw [hlen.out, HL.out.symm.trans (HL.out.trans Hx.out)]) q (imin (gi (capTo N xs q) q) 1)
   have Hst := Lib.hid (show capTo N xs (q + 1) = ((capTo N xs q).set q (imin (gi (capTo N xs q) q) 1)).set (q * (N + 1) + q) (imin (gi ((capTo N xs q).set q (imin (gi (capTo N xs q) q) 1)) (q * (N + 1) + q)) 1) from rfl)
   have hl2 := Lib.hid ((len_set (capTo N xs q) q (imin (gi (capTo N xs q) q) 1)).trans hlen.out)
   have hloc2 := (hloc.next hsd.2 (loc_row hga)).next (grownBy_drew _ _) (loc_row hga)
   have hown2 := hsd.1.drew
   generalize (capTo N xs q).set q (imin (gi (capTo N xs q) q) 1) = Y at hown2 hl2 Hst
   clear hsd x0 c0 c1 g0 g1 hloc
   generalize (wr.setCell ⟨ga, q, none⟩ (.int .i64 (imin (gi (capTo N xs q) q) 1))).drew = W2 at hown2 hloc2 ⊢
   have c0 : W2.cell? ⟨w.heap.size, 0, none⟩ = some (.int .i64 N) := hloc2.cell 0 rfl 0
   have c1 : W2.cell? ⟨w.heap.size, 1, none⟩ = some (.slice (some ⟨gr, 0, none⟩) (N + 1) capr) := hloc2.cell 0 rfl 1
   have g1 : W2.cell? ⟨gr, q, none⟩ = some (.slice (some ⟨ga, q * (N + 1), none⟩) (N + 1) (N + 1)) := ((gcell hloc2.grown).1 gr q hgr hne).trans (Hrows.out q (by omega))
   have x0 := ol_cell hown2 (k := q * (N + 1) + q) (by rw [hl2.out]; exact idx_lt N q q (by omega) (by omega))
   have Hown2 := Lib.hid hown2
   clear hown2
   go_region
   go_wp2_with fail
   have hsd := OL.stored Hown2.out (by rw [hl2.out, HL.out.symm.trans (HL.out.trans Hx.out)]) (q * (N + 1) + q) (imin (gi Y (q * (N + 1) + q)) 1)
   have hloc3 := (hloc2.next hsd.2 (loc_row hga)).next (grownBy_drew _ _) (loc_row hga)
   go_roundw
   case rel => exact ⟨q + 1, by omega, by go_num, by rw [Hst.out]; exact hsd.1.drew, hloc3⟩
   case measure => simp [intOf]; omega
  ·have hdq : decide ((q : Int) < (N : Int) + 1) = false := by simp; omega
   have HQq := Lib.hid (show q = N + 1 by omega)
   go_wp2_with fail
   generalize hX : capTo N xs q = X at hown
   have HX := Lib.hid (show capTo N xs (N + 1) = X by rw [← HQq.out]; exact hX)
   have hlX := Lib.hid (show X.length = (N + 1) * (N + 1) by rw [← hX]; exact (capTo_len N xs q).trans (HL.out.trans Hx.out))
   clear hX hdq c0 c1
   go_loopw [54] (fun k wr => ∃ q : Nat, q ≤ N + 1 ∧ k = .int .i64 q ∧ ∃ M, pK N X q = some M ∧ OL 63 base wr (.slice (some ⟨ga, 0, none⟩) L capa) (M) ∧ Loc w wr (some ga) [.cells #[.int .i64 N, .slice (some ⟨gr, 0, none⟩) (N + 1) capr, .slice (some ⟨ga, 0, none⟩) L capa] 175, .cells #[.int .i64 0, .slice none 0 0] 32]) (fun k _ => N + 1 - (intOf k).toNat)
   case atStart => exact ⟨0, by omega, rfl, X, rfl, hown, hloc⟩
   case round =>
    clear hown hloc
    obtain ⟨k, hk, rfl, M, hM, hown, hloc⟩ := hrel
    have HM := Lib.hid hM
    have hlM := Lib.hid (show M.length = (N + 1) * (N + 1) from (pK_len hM).trans hlX.out)
    clear hM
    have c0 : wr.cell? ⟨w.heap.size, 0, none⟩ = some (.int .i64 N) := hloc.cell 0 rfl 0
    have c1 : wr.cell? ⟨w.heap.size, 1, none⟩ = some (.slice (some ⟨gr, 0, none⟩) (N + 1) capr) := hloc.cell 0 rfl 1
    have g0 : k < N + 1 → wr.cell? ⟨gr, k, none⟩ = some (.slice (some ⟨ga, k * (N + 1), none⟩) (N + 1) (N + 1)) := fun h => ((gcell hloc.grown).1 gr k hgr hne).trans (Hrows.out k (by omega))
    by_cases hlt : k < N + 1
    ·have htk : decide ((k : Int) < (N : Int) + 1) = true := by simp; omega
     have g1 := g0 hlt
     clear g0
     go_wp2_with fail
     go_loopw [65] (fun i wr => ∃ q : Nat, q ≤ N + 1 ∧ i = .int .i64 q ∧ ∃ M', pI N k M q = some M' ∧ OL 63 base wr (.slice (some ⟨ga, 0, none⟩) L capa) (M') ∧ Loc w wr (some ga) [.cells #[.int .i64 N, .slice (some ⟨gr, 0, none⟩) (N + 1) capr, .slice (some ⟨ga, 0, none⟩) L capa] 175, .cells #[.int .i64 0, .slice none 0 0] 32]) (fun i _ => N + 1 - (intOf i).toNat)
     case atStart => exact ⟨0, by omega, rfl, M, rfl, hown, hloc⟩
     case round =>
      clear hown hloc c0 c1 g1
      obtain ⟨i, hi, rfl, M1, hM1, hown, hloc⟩ := hrel
      have HM1 := Lib.hid hM1
      have hlM1 := Lib.hid (show M1.length = (N + 1) * (N + 1) from (pI_len hM1).trans hlM.out)
      clear hM1
      have c0 : wr.cell? ⟨w.heap.size, 0, none⟩ = some (.int .i64 N) := hloc.cell 0 rfl 0
      have c1 : wr.cell? ⟨w.heap.size, 1, none⟩ = some (.slice (some ⟨gr, 0, none⟩) (N + 1) capr) := hloc.cell 0 rfl 1
      by_cases hlt2 : i < N + 1
      ·have hti : decide ((i : Int) < (N : Int) + 1) = true := by simp; omega
       have g1 : wr.cell? ⟨gr, i, none⟩ = some (.slice (some ⟨ga, i * (N + 1), none⟩) (N + 1) (N + 1)) := ((gcell hloc.grown).1 gr i hgr hne).trans (Hrows.out i (by omega))
       have x1 := (ol_cell hown (k := i * (N + 1) + k) (by rw [hlM1.out]; exact idx_lt N i k (by omega) (by omega))).1
       by_cases hnl : gi M1 (i * (N + 1) + k) = 1099511627776
       ·have hnl' : (gi M1 (i * (N + 1) + k) == 1099511627776) = true := by simpa using hnl
        have Hnl := Lib.hid hnl
        clear hnl
        have Hnext := Lib.hid (show pI N k M (i + 1) = some M1 by
         simp only [pI, HM1.out, Option.bind_some]
         rw [if_neg (by rw [Hnl.out]; omega)]
         unfold pRow; rw [if_pos Hnl.out])
        go_wp2_with fail
        go_region
        go_wp2_with fail
        go_roundw
        case rel => exact ⟨i + 1, by omega, by go_num, M1, Hnext.out, hown.drew, hloc.next (grownBy_drew _ _) (loc_row hga)⟩
        case measure => simp [intOf]; omega
       ·have hnl' : (gi M1 (i * (N + 1) + k) == 1099511627776) = false := by simpa using hnl
        have Hnl := Lib.hid hnl
        clear hnl
        go_wp2_with fail
        go_region
        go_wp2_with fail
        go_loopw [85] (fun j wr => ∃ q : Nat, q ≤ N + 1 ∧ j = .int .i64 q ∧ OL 63 base wr (.slice (some ⟨ga, 0, none⟩) L capa) (pJ N k i (gi M1 (i * (N + 1) + k)) M1 q) ∧ Loc w wr (some ga) [.cells #[.int .i64 N, .slice (some ⟨gr, 0, none⟩) (N + 1) capr, .slice (some ⟨ga, 0, none⟩) L capa] 175, .cells #[.int .i64 0, .slice none 0 0] 32]) (fun j _ => N + 1 - (intOf j).toNat)
        case atStart => exact ⟨0, by omega, rfl, hown.drew, hloc.next (grownBy_drew _ _) (loc_row hga)⟩
        case round =>
         clear hown hloc c0 c1 g1 x1
         obtain ⟨j, hj, rfl, hown, hloc⟩ := hrel
         have hlY := Lib.hid ((pJ_len N k i (gi M1 (i * (N + 1) + k)) M1 j).trans hlM1.out)
         by_cases hlt3 : j < N + 1
         ·have htj : decide ((j : Int) < (N : Int) + 1) = true := by simp; omega
          have hst : pJ N k i (gi M1 (i * (N + 1) + k)) M1 (j + 1) = if lsum (gi M1 (i * (N + 1) + k)) (gi (pJ N k i (gi M1 (i * (N + 1) + k)) M1 j) (k * (N + 1) + j)) < gi (pJ N k i (gi M1 (i * (N + 1) + k)) M1 j) (i * (N + 1) + j) then (pJ N k i (gi M1 (i * (N + 1) + k)) M1 j).set (i * (N + 1) + j) (lsum (gi M1 (i * (N + 1) + k)) (gi (pJ N k i (gi M1 (i * (N + 1) + k)) M1 j) (k * (N + 1) + j))) else pJ N k i (gi M1 (i * (N + 1) + k)) M1 j := rfl
          have Hst := Lib.hid hst
          clear hst
          generalize hY : pJ N k i (gi M1 (i * (N + 1) + k)) M1 j = Y at hown hlY Hst
          clear hY
          have x2 := ol_cell hown (k := k * (N + 1) + j) (by rw [hlY.out]; exact idx_lt N k j (by omega) (by omega))
          have x3 := ol_cell hown (k := i * (N + 1) + j) (by rw [hlY.out]; exact idx_lt N i j (by omega) (by omega))
          have hsd := Lib.hid (OL.stored hown (by rw [hlY.out, HL.out.symm.trans (HL.out.trans Hx.out)]) (i * (N + 1) + j) (lsum (gi M1 (i * (N + 1) + k)) (gi Y (k * (N + 1) + j))))
          have Hown := Lib.hid hown
          clear hown
          by_cases hc : lsum (gi M1 (i * (N + 1) + k)) (gi Y (k * (N + 1) + j)) < gi Y (i * (N + 1) + j)
          ·go_wp2_with (go_at_call 157; refine (prog_sum _ _ _).mono ?_; rintro e w9 ⟨rfl, rfl⟩)
           go_roundw
           case rel => exact ⟨j + 1, by omega, by go_num, by rw [Hst.out, if_pos hc]; exact hsd.out.1, hloc.next hsd.out.2 (loc_row hga)⟩
           case measure => simp [intOf]; omega
          ·have hc' : gi Y (i * (N + 1) + j) ≤ lsum (gi M1 (i * (N + 1) + k)) (gi Y (k * (N + 1) + j)) := by omega
           clear hc
           go_wp2_with (go_at_call 157; refine (prog_sum _ _ _).mono ?_; rintro e w9 ⟨rfl, rfl⟩)
           go_roundw
           case rel => exact ⟨j + 1, by omega, by go_num, by rw [Hst.out, if_neg (by omega)]; exact Hown.out, hloc⟩
           case measure => simp [intOf]; omega
         ·have hdj : decide ((j : Int) < (N : Int) + 1) = false := by simp; omega
          have HQj := Lib.hid (show j = N + 1 by omega)
          have hrow : pRow N k i M1 = pJ N k i (gi M1 (i * (N + 1) + k)) M1 j := by unfold pRow; rw [if_neg Hnl.out, HQj.out]
          have Hrow := Lib.hid hrow
          clear hrow
          generalize hY : pJ N k i (gi M1 (i * (N + 1) + k)) M1 j = Y at hown hlY Hrow
          clear hY
          have x2 := ol_cell hown (k := i * (N + 1) + i) (by rw [hlY.out]; exact idx_lt N i i (by omega) (by omega))
          by_cases hc : gi Y (i * (N + 1) + i) < 1
          ·have Hnext := Lib.hid (show pI N k M (i + 1) = none by
            simp only [pI, HM1.out, Option.bind_some]
            rw [if_pos ⟨Hnl.out, by rw [Hrow.out]; exact hc⟩])
           have hres := Lib.hid (progZ_none hlt hlt2 HX.out HM.out Hnext.out)
           have r0 : wr.cell? ⟨w.heap.size + 1, 0, none⟩ = some (.int .i64 0) := hloc.cell 1 rfl 0
           have r1 : wr.cell? ⟨w.heap.size + 1, 1, none⟩ = some (.slice none 0 0) := hloc.cell 1 rfl 1
           have r2 := hloc.free 1 rfl 0
           have r3 := hloc.free 1 rfl 1
           go_wp2_with fail
           refine bodyPost_ret (v := .tuple #[.agg #[.int .i64 0, .slice none 0 0], .int .i64 4]) (by simp [results, Tryz.results168, go_sem, r0, r1]) rfl ⟨ZPost.err hres.out (by omega) _, ?_⟩
           exact ((hloc.below hbg hbase).setCell (by simp; omega) _).setCell (by simp; omega) _
          ·have hc' : 1 ≤ gi Y (i * (N + 1) + i) := by omega
           clear hc
           have Hnext := Lib.hid (show pI N k M (i + 1) = some Y by
            simp only [pI, HM1.out, Option.bind_some]
            rw [if_neg (by rw [Hrow.out]; omega), Hrow.out])
           go_wp2_with fail
           go_roundw
           case rel => exact ⟨i + 1, by omega, by go_num, Y, Hnext.out, hown, hloc⟩
           case measure => simp [intOf]; omega
      ·have hdi : decide ((i : Int) < (N : Int) + 1) = false := by simp; omega
       have HQi := Lib.hid (show i = N + 1 by omega)
       go_wp2_with fail
       go_roundw
       case rel => exact ⟨k + 1, by omega, by go_num, M1, by simp only [pK, HM.out, Option.bind_some]; rw [← HQi.out]; exact HM1.out, hown, hloc⟩
       case measure => simp [intOf]; omega
    ·have hdk : decide ((k : Int) < (N : Int) + 1) = false := by simp; omega
     have HQk := Lib.hid (show k = N + 1 by omega)
     have c2 : wr.cell? ⟨w.heap.size, 2, none⟩ = some (.slice (some ⟨ga, 0, none⟩) L capa) := hloc.cell 0 rfl 2
     have HF := Lib.hid (show pK N (capTo N xs (N + 1)) (N + 1) = some M by rw [HX.out, ← HQk.out]; exact HM.out)
     have hlen := Lib.hid (show M.length = L by rw [hlM.out]; exact (HL.out.symm.trans (HL.out.trans Hx.out)).symm)
     have hLb := HL.out
     have hL9 : L ≤ 9223372036854775807 := by have := RS.le hown.rl; rw [hlen.out] at this; exact this
     clear g0 hLb
     go_wp2_with fail
     go_loopw [116] (fun i wr => ∃ q : Nat, q ≤ M.length ∧ i = .int .i64 q ∧ (M.take q).all vld = true ∧ OL 63 base wr (.slice (some ⟨ga, 0, none⟩) L capa) (M) ∧ Loc w wr (some ga) [.cells #[.int .i64 N, .slice (some ⟨gr, 0, none⟩) (N + 1) capr, .slice (some ⟨ga, 0, none⟩) L capa] 175, .cells #[.int .i64 0, .slice none 0 0] 32]) (fun i _ => L - (intOf i).toNat)
     case atStart => exact ⟨0, by omega, rfl, rfl, hown, hloc⟩
     case round =>
      clear hown hloc c0 c1 c2
      obtain ⟨j, hj, rfl, hval, hown, hloc⟩ := hrel
      have Hval := Lib.hid hval
      clear hval
      have c0 : wr.cell? ⟨w.heap.size, 0, none⟩ = some (.int .i64 N) := hloc.cell 0 rfl 0
      have c2 : wr.cell? ⟨w.heap.size, 2, none⟩ = some (.slice (some ⟨ga, 0, none⟩) L capa) := hloc.cell 0 rfl 2
      have r0 : wr.cell? ⟨w.heap.size + 1, 0, none⟩ = some (.int .i64 0) := hloc.cell 1 rfl 0
      have r1 : wr.cell? ⟨w.heap.size + 1, 1, none⟩ = some (.slice none 0 0) := hloc.cell 1 rfl 1
      have r2 := hloc.free 1 rfl 0
      have r3 := hloc.free 1 rfl 1
      by_cases hlt4 : j < L
      ·have htj : decide ((j : Int) < (L : Int)) = true := by simp; omega
       have hx1 := (ol_cell hown (k := j) (by rw [hlen.out]; omega)).1
       have Hown := Lib.hid hown
       clear hown
       by_cases hv1 : vld (gi M j) = true
       ·go_wp2_with (go_at_call 132; refine (prog_valid _ _).mono ?_; rintro e w1 ⟨rfl, rfl⟩)
        go_roundw
        case rel => exact ⟨j + 1, by rw [hlen.out]; omega, by go_num, all_take_succ Hval.out (by rw [hlen.out]; omega) hv1, Hown.out, hloc⟩
        case measure => simp [intOf]; omega
       ·have hv2 : vld (gi M j) = false := by simpa using hv1
        clear hv1
        have hres := Lib.hid (show progZ N xs = (7, []) by
         unfold progZ
         rw [HF.out]
         show (if M.all vld = true then _ else _) = _
         rw [if_neg (not_all_of (by rw [hlen.out]; omega) hv2)])
        go_wp2_with (go_at_call 132; refine (prog_valid _ _).mono ?_; rintro e w1 ⟨rfl, rfl⟩)
        refine bodyPost_ret (v := .tuple #[.agg #[.int .i64 0, .slice none 0 0], .int .i64 7]) (by simp [results, Tryz.results168, go_sem, r0, r1]) rfl ⟨ZPost.err hres.out (by omega) _, ?_⟩
        exact ((hloc.below hbg hbase).setCell (by simp; omega) _).setCell (by simp; omega) _
      ·have hdj : decide ((j : Int) < (L : Int)) = false := by simp; omega
       have hres := Lib.hid (show progZ N xs = (0, M) by
        unfold progZ
        rw [HF.out]
        show (if M.all vld = true then _ else _) = _
        rw [if_pos (by have := Hval.out; rwa [List.take_of_length_le (by rw [hlen.out]; omega)] at this)])
       go_wp2_with fail
       refine bodyPost_ret (v := .tuple #[.agg #[.int .i64 N, (.slice (some ⟨ga, 0, none⟩) L capa)], .int .i64 0]) (by simp [results, Tryz.results168, go_sem, r0, r1]) rfl ⟨ZPost.ok hres.out (ownsRow_other (ownsRow_other hown (by simp [Value.ownBlock]; omega)) (by simp [Value.ownBlock]; omega)), ?_⟩
       exact ((hloc.below hbg hbase).setCell (by simp; omega) _).setCell (by simp; omega) _
end Go.Proofs.YtfphlpglgcmljaaGreat
