/- The contract of the reference's Bounds and Greatest. -/
import Derived.Test.YtmjpcakikflcfaaWid2
import Derived.Test.YtmjpcakikflcfaaZref4
namespace Go.Proofs.Ytmjpcakikflcfaa
open Go.RowKit

set_option maxHeartbeats 2000000 in
theorem ref_bounds_no (n : Int) (v lv hgv : Value) (xs low high : List Int) (w : World) (hv : RL w.heap.size w v xs) (hl : RL w.heap.size w lv low) (hh : RL w.heap.size w hgv high)
    (hno : ¬ (OkZ n xs ∧ cstF n low = true ∧ cstF n high = true)) :
    Calls Try.prog 10 #[.agg #[.int .i64 n, v], lv, hgv] w fun e w' => ZPost 49 w.heap.size n (widB n xs low high) e w' ∧ Below w.heap.size w w' := by
  have Hres := Lib.hid (widB_no hno)
  obtain ⟨ao, cap, rfl, _⟩ := hv.open
  obtain ⟨aol, capl, rfl, _⟩ := hl.open
  obtain ⟨aoh, caph, rfl, _⟩ := hh.open
  by_cases h1 : OkZ n xs
  · have e1 := okErr_yes h1
    by_cases h2 : cstF n low = true
    · have h3 : cstF n high = false := by rw [Bool.eq_false_iff]; exact fun h => hno ⟨h1, h2, h⟩
      clear h1 hno
      have hloc0 := Loc.two w (.cells #[.int .i64 n, (.slice ao xs.length cap)] 24) (.cells #[.int .i64 0, .slice none 0 0] 24) none
      have Hv := Lib.hid hv
      have Hl := Lib.hid hl
      have Hh := Lib.hid hh
      clear hv hl hh
      go_enter Try.func10, Try.ntmps10
      go_wp2_with fail
      refine (ref_check n _ xs _ (Hv.out.keepb (below_grownBy hloc0.grown))).mono ?_
      rw [e1]
      rintro e w1 ⟨rfl, hb1⟩
      have hloc1 := hloc0.next (grownBy_below hb1 none) (fun _ h => by cases h)
      have c10 : w1.cell? ⟨w.heap.size, 0, none⟩ = some (.int .i64 n) := hloc1.cell 0 rfl 0
      have c11 : w1.cell? ⟨w.heap.size, 1, none⟩ = some (.slice ao xs.length cap) := hloc1.cell 0 rfl 1
      have r10 : w1.cell? ⟨w.heap.size + 1, 0, none⟩ = some (.int .i64 0) := hloc1.cell 1 rfl 0
      have r11 : w1.cell? ⟨w.heap.size + 1, 1, none⟩ = some (.slice none 0 0) := hloc1.cell 1 rfl 1
      have f10 := hloc1.free 1 rfl 0
      have f11 := hloc1.free 1 rfl 1
      clear hb1 hloc0
      go_wp2_with fail
      refine (ref_constants n _ _ low _ ⟨_, _, _, rfl⟩ (Hl.out.keepb (below_grownBy hloc1.grown))).mono ?_
      rw [h2]
      rintro e w2 ⟨rfl, hb2⟩
      have hloc2 := hloc1.next (grownBy_below hb2 none) (fun _ h => by cases h)
      have c20 : w2.cell? ⟨w.heap.size, 0, none⟩ = some (.int .i64 n) := hloc2.cell 0 rfl 0
      have c21 : w2.cell? ⟨w.heap.size, 1, none⟩ = some (.slice ao xs.length cap) := hloc2.cell 0 rfl 1
      have r20 : w2.cell? ⟨w.heap.size + 1, 0, none⟩ = some (.int .i64 0) := hloc2.cell 1 rfl 0
      have r21 : w2.cell? ⟨w.heap.size + 1, 1, none⟩ = some (.slice none 0 0) := hloc2.cell 1 rfl 1
      have f20 := hloc2.free 1 rfl 0
      have f21 := hloc2.free 1 rfl 1
      clear hb2 hloc1 c10 c11 r10 r11 f10 f11
      go_wp2_with fail
      refine (ref_constants n _ _ high _ ⟨_, _, _, rfl⟩ (Hh.out.keepb (below_grownBy hloc2.grown))).mono ?_
      rw [h3]
      rintro e w3 ⟨rfl, hb3⟩
      have hloc3 := hloc2.next (grownBy_below hb3 none) (fun _ h => by cases h)
      have c30 : w3.cell? ⟨w.heap.size, 0, none⟩ = some (.int .i64 n) := hloc3.cell 0 rfl 0
      have c31 : w3.cell? ⟨w.heap.size, 1, none⟩ = some (.slice ao xs.length cap) := hloc3.cell 0 rfl 1
      have r30 : w3.cell? ⟨w.heap.size + 1, 0, none⟩ = some (.int .i64 0) := hloc3.cell 1 rfl 0
      have r31 : w3.cell? ⟨w.heap.size + 1, 1, none⟩ = some (.slice none 0 0) := hloc3.cell 1 rfl 1
      have f30 := hloc3.free 1 rfl 0
      have f31 := hloc3.free 1 rfl 1
      clear hb3 hloc2 c20 c21 r20 r21 f20 f21
      go_wp2_with fail
      refine bodyPost_ret (v := .tuple #[.agg #[.int .i64 0, .slice none 0 0], .int .i64 2]) (by simp [results, Try.results10, go_sem, r30, r31]) rfl ⟨ZPost.err Hres.out (by omega) _, ?_⟩
      exact ((below_grownBy hloc3.grown).setCell (by simp) _).setCell (by simp) _
    · have h2' : cstF n low = false := by simpa using h2
      clear h1 h2 hno
      have hloc0 := Loc.two w (.cells #[.int .i64 n, (.slice ao xs.length cap)] 24) (.cells #[.int .i64 0, .slice none 0 0] 24) none
      have Hv := Lib.hid hv
      have Hl := Lib.hid hl
      have Hh := Lib.hid hh
      clear hv hl hh
      go_enter Try.func10, Try.ntmps10
      go_wp2_with fail
      refine (ref_check n _ xs _ (Hv.out.keepb (below_grownBy hloc0.grown))).mono ?_
      rw [e1]
      rintro e w1 ⟨rfl, hb1⟩
      have hloc1 := hloc0.next (grownBy_below hb1 none) (fun _ h => by cases h)
      have c10 : w1.cell? ⟨w.heap.size, 0, none⟩ = some (.int .i64 n) := hloc1.cell 0 rfl 0
      have c11 : w1.cell? ⟨w.heap.size, 1, none⟩ = some (.slice ao xs.length cap) := hloc1.cell 0 rfl 1
      have r10 : w1.cell? ⟨w.heap.size + 1, 0, none⟩ = some (.int .i64 0) := hloc1.cell 1 rfl 0
      have r11 : w1.cell? ⟨w.heap.size + 1, 1, none⟩ = some (.slice none 0 0) := hloc1.cell 1 rfl 1
      have f10 := hloc1.free 1 rfl 0
      have f11 := hloc1.free 1 rfl 1
      clear hb1 hloc0
      go_wp2_with fail
      refine (ref_constants n _ _ low _ ⟨_, _, _, rfl⟩ (Hl.out.keepb (below_grownBy hloc1.grown))).mono ?_
      rw [h2']
      rintro e w2 ⟨rfl, hb2⟩
      have hloc2 := hloc1.next (grownBy_below hb2 none) (fun _ h => by cases h)
      have c20 : w2.cell? ⟨w.heap.size, 0, none⟩ = some (.int .i64 n) := hloc2.cell 0 rfl 0
      have c21 : w2.cell? ⟨w.heap.size, 1, none⟩ = some (.slice ao xs.length cap) := hloc2.cell 0 rfl 1
      have r20 : w2.cell? ⟨w.heap.size + 1, 0, none⟩ = some (.int .i64 0) := hloc2.cell 1 rfl 0
      have r21 : w2.cell? ⟨w.heap.size + 1, 1, none⟩ = some (.slice none 0 0) := hloc2.cell 1 rfl 1
      have f20 := hloc2.free 1 rfl 0
      have f21 := hloc2.free 1 rfl 1
      clear hb2 hloc1 c10 c11 r10 r11 f10 f11
      go_wp2_with fail
      refine bodyPost_ret (v := .tuple #[.agg #[.int .i64 0, .slice none 0 0], .int .i64 2]) (by simp [results, Try.results10, go_sem, r20, r21]) rfl ⟨ZPost.err Hres.out (by omega) _, ?_⟩
      exact ((below_grownBy hloc2.grown).setCell (by simp) _).setCell (by simp) _
  · have e1 := okErr_no h1
    clear h1 hno
    have hloc0 := Loc.two w (.cells #[.int .i64 n, (.slice ao xs.length cap)] 24) (.cells #[.int .i64 0, .slice none 0 0] 24) none
    have Hv := Lib.hid hv
    have Hl := Lib.hid hl
    have Hh := Lib.hid hh
    clear hv hl hh
    go_enter Try.func10, Try.ntmps10
    go_wp2_with fail
    refine (ref_check n _ xs _ (Hv.out.keepb (below_grownBy hloc0.grown))).mono ?_
    rw [e1]
    rintro e w1 ⟨rfl, hb1⟩
    have hloc1 := hloc0.next (grownBy_below hb1 none) (fun _ h => by cases h)
    have c10 : w1.cell? ⟨w.heap.size, 0, none⟩ = some (.int .i64 n) := hloc1.cell 0 rfl 0
    have c11 : w1.cell? ⟨w.heap.size, 1, none⟩ = some (.slice ao xs.length cap) := hloc1.cell 0 rfl 1
    have r10 : w1.cell? ⟨w.heap.size + 1, 0, none⟩ = some (.int .i64 0) := hloc1.cell 1 rfl 0
    have r11 : w1.cell? ⟨w.heap.size + 1, 1, none⟩ = some (.slice none 0 0) := hloc1.cell 1 rfl 1
    have f10 := hloc1.free 1 rfl 0
    have f11 := hloc1.free 1 rfl 1
    clear hb1 hloc0
    go_wp2_with fail
    refine bodyPost_ret (v := .tuple #[.agg #[.int .i64 0, .slice none 0 0], .int .i64 2]) (by simp [results, Try.results10, go_sem, r10, r11]) rfl ⟨ZPost.err Hres.out (by omega) _, ?_⟩
    exact ((below_grownBy hloc1.grown).setCell (by simp) _).setCell (by simp) _

set_option maxHeartbeats 4000000 in
theorem ref_bounds_yes (N : Nat) (v lv hgv : Value) (xs low high : List Int) (w : World) (hv : RL w.heap.size w v xs) (hl : RL w.heap.size w lv low) (hh : RL w.heap.size w hgv high)
    (hyes : OkZ N xs ∧ cstF N low = true ∧ cstF N high = true) :
    Calls Try.prog 10 #[.agg #[.int .i64 N, v], lv, hgv] w fun e w' => ZPost 49 w.heap.size N (widB N xs low high) e w' ∧ Below w.heap.size w w' := by
  have Hres := Lib.hid (widB_yes hyes)
  obtain ⟨h1, h2, h3⟩ := hyes
  obtain ⟨ao, cap, rfl, _⟩ := hv.open
  obtain ⟨aol, capl, rfl, _⟩ := hl.open
  obtain ⟨aoh, caph, rfl, _⟩ := hh.open
  have e1 := okErr_yes h1
  have hN : N ≤ 10 := by have := h1.hi; omega
  have hx : xs.length = (N + 1) * (N + 1) := by have := h1.len; rwa [Int.toNat_natCast] at this
  have Hx := Lib.hid hx
  have Hxb := Lib.hid (show xs.length ≤ 121 by rw [hx]; exact Nat.mul_le_mul (by omega : N + 1 ≤ 11) (by omega : N + 1 ≤ 11))
  have Hok := Lib.hid h1
  have Hc2 := Lib.hid h2
  have Hc3 := Lib.hid h3
  obtain ⟨i0, hi, hz0, hz1, hz2⟩ := info_parts Try.infoLimit
  have Hi := Lib.hid hi
  have Hz0 := Lib.hid hz0
  have Hz1 := Lib.hid hz1
  have Hz2 := Lib.hid hz2
  clear h1 hx hi hz0 hz1 hz2
  have hloc0 := Loc.two w (.cells #[.int .i64 N, (.slice ao xs.length cap)] 24) (.cells #[.int .i64 0, .slice none 0 0] 24) none
  have Hv := Lib.hid hv
  have Hl := Lib.hid hl
  have Hh := Lib.hid hh
  clear hv hl hh
  go_enter Try.func10, Try.ntmps10
  go_wp2_with fail
  refine (ref_check N _ xs _ (Hv.out.keepb (below_grownBy hloc0.grown))).mono ?_
  rw [e1]
  rintro e w1 ⟨rfl, hb1⟩
  have hloc1 := hloc0.next (grownBy_below hb1 none) (fun _ h => by cases h)
  have c10 : w1.cell? ⟨w.heap.size, 0, none⟩ = some (.int .i64 N) := hloc1.cell 0 rfl 0
  have c11 : w1.cell? ⟨w.heap.size, 1, none⟩ = some (.slice ao xs.length cap) := hloc1.cell 0 rfl 1
  have r10 : w1.cell? ⟨w.heap.size + 1, 0, none⟩ = some (.int .i64 0) := hloc1.cell 1 rfl 0
  have r11 : w1.cell? ⟨w.heap.size + 1, 1, none⟩ = some (.slice none 0 0) := hloc1.cell 1 rfl 1
  have f10 := hloc1.free 1 rfl 0
  have f11 := hloc1.free 1 rfl 1
  clear hb1 hloc0
  go_wp2_with fail
  refine (ref_constants N _ _ low _ ⟨_, _, _, rfl⟩ (Hl.out.keepb (below_grownBy hloc1.grown))).mono ?_
  rw [h2]
  rintro e w2 ⟨rfl, hb2⟩
  have hloc2 := hloc1.next (grownBy_below hb2 none) (fun _ h => by cases h)
  have c20 : w2.cell? ⟨w.heap.size, 0, none⟩ = some (.int .i64 N) := hloc2.cell 0 rfl 0
  have c21 : w2.cell? ⟨w.heap.size, 1, none⟩ = some (.slice ao xs.length cap) := hloc2.cell 0 rfl 1
  have r20 : w2.cell? ⟨w.heap.size + 1, 0, none⟩ = some (.int .i64 0) := hloc2.cell 1 rfl 0
  have r21 : w2.cell? ⟨w.heap.size + 1, 1, none⟩ = some (.slice none 0 0) := hloc2.cell 1 rfl 1
  have f20 := hloc2.free 1 rfl 0
  have f21 := hloc2.free 1 rfl 1
  clear hb2 hloc1 c10 c11 r10 r11 f10 f11
  go_wp2_with fail
  refine (ref_constants N _ _ high _ ⟨_, _, _, rfl⟩ (Hh.out.keepb (below_grownBy hloc2.grown))).mono ?_
  rw [h3]
  rintro e w3 ⟨rfl, hb3⟩
  have hloc3 := hloc2.next (grownBy_below hb3 none) (fun _ h => by cases h)
  have c30 : w3.cell? ⟨w.heap.size, 0, none⟩ = some (.int .i64 N) := hloc3.cell 0 rfl 0
  have c31 : w3.cell? ⟨w.heap.size, 1, none⟩ = some (.slice ao xs.length cap) := hloc3.cell 0 rfl 1
  have r30 : w3.cell? ⟨w.heap.size + 1, 0, none⟩ = some (.int .i64 0) := hloc3.cell 1 rfl 0
  have r31 : w3.cell? ⟨w.heap.size + 1, 1, none⟩ = some (.slice none 0 0) := hloc3.cell 1 rfl 1
  have f30 := hloc3.free 1 rfl 0
  have f31 := hloc3.free 1 rfl 1
  clear hb3 hloc2 c20 c21 r20 r21 f20 f21 h2 h3 e1
  have s1 : w.heap.size < w3.heap.size := by have := hloc3.size; simp at this; omega
  have s2 : w.heap.size + 1 < w3.heap.size := by have := hloc3.size; simp at this; omega
  have Hw3 := Lib.hid (show RL w3.heap.size (w3.alloc (.cells #[] 49)) (.slice ao xs.length cap) xs from RS.keep (Hv.out.keepb (below_grownBy hloc3.grown)) ((Below.refl _ _).alloc (Nat.le_refl _) _))
  have Ho : Hid ((w3.alloc (.cells #[] 49)).ownsRow w3.heap.size 49 1 (.slice (some ⟨w3.heap.size, 0, none⟩) 0 0) 0 []) := Lib.hid (owns_empty (heap_alloc_new w3 _) (Nat.le_refl _))
  have Hm := Lib.hid (show 0 + xs.length ≤ maxLen by have := Hxb.out; unfold maxLen; omega)
  have Hby := Lib.hid (show (0 + xs.length) * 8 ≤ 140737488355328 by have := Hxb.out; omega)
  have Hba := Lib.hid (show w3.heap.size ≤ (w3.alloc (.cells #[] 49)).heap.size by simp)
  have Hlm := Lib.hid (show (xs.map (Value.int .i64)).length = xs.length * 1 by simp)
  go_wp2_with (at_builtin; (refine wpList_append_rs (v := .slice (some ⟨w3.heap.size, 0, none⟩) 0 0) (n := 0) (xs := []) (xv := (.slice ao xs.length cap)) (m := xs.length) (news := xs.map (Value.int .i64)) ?_ (.tmp 28) (.tmp 30) 22 ?_ w3.heap.size 49 i0 (.int .i64 0) 1 8 Try.undLimits Hi.out Hz0.out Hz1.out Hz2.out ?_ ?_ ?_ ?_ w3.heap.size ?_ ?_ ?_ ?_ ?_ ?_ ?_ ?_; rfl; rfl; rfl; decide; rfl; exact Ho.out; rfl; exact Hw3.out; exact Hlm.out; exact ints_oneCell' _; exact Hm.out; exact Hby.out; exact Hba.out; intro v' w4 hown4 hg4; obtain ⟨ao4, cap4, rfl⟩ := owns_form hown4))
  have hx0 : 0 + xs.length = xs.length := Nat.zero_add _
  rw [hx0] at hown4
  simp only [List.nil_append] at hown4
  have hloc4 := (hloc3.next (World.grownBy_alloc w3 (.cells #[] 49) none) (fun _ h => by cases h)).anyrow hg4 (fun k hk => by simp [Value.ownBlock] at hk; simp; omega)
  obtain ⟨g, capg, hgeq, hbg, hgl, hle4, hc4⟩ := OL.open hown4 (by rw [Hx.out]; exact Nat.mul_pos (by omega) (by omega))
  simp only [Value.slice.injEq, true_and] at hgeq
  obtain ⟨rfl, rfl⟩ := hgeq
  have Hown4 := Lib.hid hown4
  clear hown4 hc4 hg4 hloc3
  clear c30 c31 r30 r31 f30 f31
  go_loopw [9] (fun i wr => ∃ q : Nat, q ≤ N + 1 ∧ i = .int .i64 q ∧ ∃ m, Mid N low high xs m (q * (N + 1)) ∧ OL 49 w3.heap.size wr (.slice (some ⟨g, 0, none⟩) xs.length cap4) m ∧ Loc w wr none [.cells #[.int .i64 N, (.slice ao xs.length cap)] 24, .cells #[.int .i64 0, .slice none 0 0] 24]) (fun i _ => N + 1 - (intOf i).toNat)
  case atStart => exact ⟨0, by omega, rfl, xs, by rw [Nat.zero_mul]; exact Mid.start _ _ _ _, Hown4.out, hloc4⟩
  case round =>
    clear hloc4
    obtain ⟨i, hi, rfl, m, hm, hown, hloc⟩ := hrel
    have Hm1 := Lib.hid hm
    clear hm
    have c0 : wr.cell? ⟨w.heap.size, 0, none⟩ = some (.int .i64 N) := hloc.cell 0 rfl 0
    by_cases hlt : i ≤ N
    · go_wp2_with fail
      go_loopw [10] (fun j wr => ∃ q : Nat, q ≤ N + 1 ∧ j = .int .i64 q ∧ ∃ m, Mid N low high xs m (i * (N + 1) + q) ∧ OL 49 w3.heap.size wr (.slice (some ⟨g, 0, none⟩) xs.length cap4) m ∧ Loc w wr none [.cells #[.int .i64 N, (.slice ao xs.length cap)] 24, .cells #[.int .i64 0, .slice none 0 0] 24]) (fun j _ => N + 1 - (intOf j).toNat)
      case atStart => exact ⟨0, by omega, rfl, m, Hm1.out, hown, hloc⟩
      case round =>
        clear hown hloc c0
        obtain ⟨j, hj, rfl, m2, hm2, hown, hloc⟩ := hrel
        have Hm2 := Lib.hid hm2
        clear hm2
        have c0 : wr.cell? ⟨w.heap.size, 0, none⟩ = some (.int .i64 N) := hloc.cell 0 rfl 0
        by_cases hlt2 : j ≤ N
        · have b1 := idx_bd N i hN hlt
          by_cases hij : i = j
          · have hij' : ((i : Int) != (j : Int)) = false := by simp; omega
            have Hs := Lib.hid (show Mid N low high xs m2 (i * (N + 1) + (j + 1)) from (by have h := Hm2.out; subst hij; exact h.skip hlt))
            have Hij := Lib.hid hij
            clear hij
            go_wp2_with fail
            go_roundw
            case rel => exact ⟨j + 1, by omega, by go_num, m2, Hs.out, hown, hloc⟩
            case measure => simp [intOf]; omega
          · have hij' : ((i : Int) != (j : Int)) = true := by simp; omega
            have hlt3 := idx_lt N i j hlt hlt2
            have Hs := Lib.hid (Hm2.out.set hlt2 hij (by rw [Hx.out]; exact hlt3))
            have n1 := idx_nat N i j
            have l1 : (i : Int) * ((N : Int) + 1) + (j : Int) < xs.length := by
              have e2 := row_nat N i
              rw [← Hx.out] at hlt3; omega
            have x1 := ol_cell hown (k := i * (N + 1) + j) (by rw [Hm2.out.len, Hx.out]; exact hlt3)
            have hv1 := Lib.hid (show vld (gi m2 (i * (N + 1) + j)) = true by rw [Hm2.out.todo _ (Nat.le_refl _)]; exact Hok.out.val i j (by rw [Int.toNat_natCast]; exact hlt) (by rw [Int.toNat_natCast]; exact hlt2))
            have Hsd := Lib.hid (OL.stored hown Hm2.out.len.symm (i * (N + 1) + j) (wid low high i j (gi m2 (i * (N + 1) + j))))
            have Hij := Lib.hid hij
            have Hrl := Lib.hid (Hl.out.keepb (below_grownBy hloc.grown))
            have Hrh := Lib.hid (Hh.out.keepb (below_grownBy hloc.grown))
            clear hij hlt3 hown
            go_wp2_with (go_at_call 33; refine (ref_widened _ i j N _ _ low high _ Hrl.out Hrh.out (by have := cst_len Hc2.out; omega) (by have := cst_len Hc3.out; omega) hlt hlt2 hv1.out (fun k hk => cst_gi Hc3.out (by have := cst_len Hc3.out; omega))).mono ?_; rintro e w9 ⟨rfl, rfl⟩)
            go_roundw
            case rel => exact ⟨j + 1, by omega, by go_num, _, Hs.out, Hsd.out.1, hloc.anyrow Hsd.out.2 (fun k hk => by cases hk; simp; omega)⟩
            case measure => simp [intOf]; omega
        · have hdj : decide ((j : Int) ≤ (N : Int)) = false := by simp; omega
          have HQj := Lib.hid (show j = N + 1 by omega)
          go_wp2_with fail
          go_roundw
          case rel => exact ⟨i + 1, by omega, by go_num, m2, by have h := Hm2.out; rw [HQj.out] at h; rw [Nat.add_mul, Nat.one_mul]; exact h, hown, hloc⟩
          case measure => simp [intOf]; omega
    · have hdi : decide ((i : Int) ≤ (N : Int)) = false := by simp; omega
      have HQi := Lib.hid (show i = N + 1 by omega)
      go_wp2_with fail
      have hfin : m = widM N low high xs := Hm1.out.finish (by rw [HQi.out, Hx.out]; exact Nat.le_refl _)
      have Hown := Lib.hid (OL.rl hown)
      have Hb5 := Lib.hid (below_grownBy hloc.grown)
      clear hown hdi
      refine (ref_close N _ m wr Hown.out).mono ?_
      rintro e w5 ⟨⟨v5, rfl, hown5⟩, hb5⟩
      obtain ⟨ao5, cap5, rfl⟩ := owns_form hown5
      have hloc5 := hloc.next (grownBy_below hb5 none) (fun _ h => by cases h)
      have r0 : w5.cell? ⟨w.heap.size + 1, 0, none⟩ = some (.int .i64 0) := hloc5.cell 1 rfl 0
      have r1 : w5.cell? ⟨w.heap.size + 1, 1, none⟩ = some (.slice none 0 0) := hloc5.cell 1 rfl 1
      have f0 := hloc5.free 1 rfl 0
      have f1 := hloc5.free 1 rfl 1
      have hsz5 : w.heap.size + 2 ≤ wr.heap.size := hloc.size
      have Hown5 := Lib.hid hown5
      clear hown5 hb5 c0
      have hres : widB N xs low high = closeF N m := by rw [Hres.out, Int.toNat_natCast, ← hfin]
      have Hres2 := Lib.hid hres
      clear hfin hres
      go_wp2_with fail
      refine bodyPost_ret (v := .tuple #[.agg #[.int .i64 (zdim (closeF N m) N), .slice ao5 (closeF N m).2.length cap5], .int .i64 (closeF N m).1]) (by simp [results, Try.results10, go_sem, r0, r1]) rfl ⟨⟨_, by rw [Hres2.out], ?_⟩, ?_⟩
      · rw [Hres2.out]
        exact OL.mono (base := w.heap.size + 2) (own_set2 (owns_mono Hown5.out hsz5) (by omega) _ _) (by omega)
      · exact ((below_grownBy hloc5.grown).setCell (by simp) _).setCell (by simp) _
theorem ref_bounds (n : Int) (v lv hgv : Value) (xs low high : List Int) (w : World) (hv : RL w.heap.size w v xs) (hl : RL w.heap.size w lv low) (hh : RL w.heap.size w hgv high) :
    Calls Try.prog 10 #[.agg #[.int .i64 n, v], lv, hgv] w fun e w' => ZPost 49 w.heap.size n (widB n xs low high) e w' ∧ Below w.heap.size w w' := by
  by_cases h : OkZ n xs ∧ cstF n low = true ∧ cstF n high = true
  · obtain ⟨N, rfl⟩ := Int.eq_ofNat_of_zero_le h.1.lo
    exact ref_bounds_yes N v lv hgv xs low high w hv hl hh h
  · exact ref_bounds_no n v lv hgv xs low high w hv hl hh h
end Go.Proofs.Ytmjpcakikflcfaa
