/- Part of the proof of priced_resets_proved: Pla. -/
import Derived.Test.YtfphlpglgcmljaaGreatXsPzo
import Derived.Test.YtfphlpglgcmljaaGreatXsZref4
import Derived.Test.YtfphlpglgcmljaaGreatXsHeldU
import Derived.Test.YtfphlpglgcmljaaGreatXsFresh
namespace Go.Proofs.YtfphlpglgcmljaaGreat
open Go.RowKit
set_option linter.unusedVariables false
set_option maxHeartbeats 1000000 in
theorem law_zsame23 (n : Int) (v v2 : Value) (xs : List Int) (w : World) (hv : RL w.heap.size w v xs) (hv2 : RL w.heap.size w v2 xs) :
  Calls Tryz.prog 71 #[.agg #[.int .i64 n, v], .agg #[.int .i64 n, v2]] w fun e w' => e = .returned (.bool true) ∧ Below w.heap.size w w' := by
 obtain ⟨ao, cap, rfl, hle, h0⟩ := hv.open
 obtain ⟨ao2, cap2, rfl, hle2, h02⟩ := hv2.open
 have hloc0 := Loc.two w (.cells #[.int .i64 n, .slice ao xs.length cap] 32) (.cells #[.int .i64 n, .slice ao2 xs.length cap2] 32) none
 clear hv hv2
 have hn' : (n != n) = false := by simp
 have hl' : ((xs.length : Int) != (xs.length : Int)) = false := by simp
 go_enter Tryz.func71, Tryz.ntmps71
 go_wp2_with fail
 go_loopw [5] (fun i wr => ∃ q : Nat, q ≤ xs.length ∧ i = .int .i64 q ∧ Loc w wr none [.cells #[.int .i64 n, .slice ao xs.length cap] 32, .cells #[.int .i64 n, .slice ao2 xs.length cap2] 32]) (fun i _ => xs.length - (intOf i).toNat)
 case atStart => exact ⟨0, by omega, rfl, hloc0⟩
 case round =>
  clear hloc0
  obtain ⟨j, hj, rfl, hloc⟩ := hrel
  have c1 : wr.cell? ⟨w.heap.size, 1, none⟩ = some (.slice ao xs.length cap) := hloc.cell 0 rfl 1
  have c2 : wr.cell? ⟨w.heap.size + 1, 1, none⟩ = some (.slice ao2 xs.length cap2) := hloc.cell 1 rfl 1
  by_cases hlt : j < xs.length
  ·obtain ⟨b, off, rfl, hb, hc⟩ := h0 (by omega)
   obtain ⟨b2, off2, rfl, hb2, hc2⟩ := h02 (by omega)
   have x1 : wr.cell? ⟨b, off + j, none⟩ = some (.int .i64 (gi xs j)) := ((bcell (below_grownBy hloc.grown)).1 _ _ hb).trans (hc j hlt)
   have x2 : wr.cell? ⟨b2, off2 + j, none⟩ = some (.int .i64 (gi xs j)) := ((bcell (below_grownBy hloc.grown)).1 _ _ hb2).trans (hc2 j hlt)
   have y1 : (j : Int) < xs.length := by omega
   have he' : (gi xs j != gi xs j) = false := by simp
   clear hc hc2 h0 h02
   go_wp2_with fail
   go_quiet (fail)
   go_wp2_with fail
   go_roundw
   case rel => exact ⟨j + 1, by omega, by go_num, hloc.next (grownBy_below (below_drewN _ _) none) (fun _ h => by cases h)⟩
   case measure => simp [intOf]; omega
  ·have hdj : decide ((j : Int) < (xs.length : Int)) = false := by simp; omega
   go_wp2_with fail
   go_ret
   exact ⟨rfl, below_grownBy hloc.grown⟩
set_option maxHeartbeats 1000000 in
theorem law_lsame (v v2 : Value) (xs : List Int) (w : World) (hv : RL w.heap.size w v xs) (hv2 : RL w.heap.size w v2 xs) :
  Calls Tryz.prog 40 #[v, v2] w fun e w' => e = .returned (.bool true) ∧ Below w.heap.size w w' := by
 obtain ⟨ao, cap, rfl, hle, h0⟩ := hv.open
 obtain ⟨ao2, cap2, rfl, hle2, h02⟩ := hv2.open
 have hloc0 : Loc w w none [] := ⟨⟨rfl, rfl, rfl, Nat.le_refl _, fun _ _ _ => rfl⟩, fun i hi => by simp at hi, by simp⟩
 clear hv hv2
 have hl' : ((xs.length : Int) != (xs.length : Int)) = false := by simp
 go_enter Tryz.func40, Tryz.ntmps40
 go_wp2_with fail
 go_loopw [5] (fun i wr => ∃ q : Nat, q ≤ xs.length ∧ i = .int .i64 q ∧ Loc w wr none []) (fun i _ => xs.length - (intOf i).toNat)
 case atStart => exact ⟨0, by omega, rfl, hloc0⟩
 case round =>
  clear hloc0
  obtain ⟨j, hj, rfl, hloc⟩ := hrel
  by_cases hlt : j < xs.length
  ·obtain ⟨b, off, rfl, hb, hc⟩ := h0 (by omega)
   obtain ⟨b2, off2, rfl, hb2, hc2⟩ := h02 (by omega)
   have x1 : wr.cell? ⟨b, off + j, none⟩ = some (.int .i64 (gi xs j)) := ((bcell (below_grownBy hloc.grown)).1 _ _ hb).trans (hc j hlt)
   have x2 : wr.cell? ⟨b2, off2 + j, none⟩ = some (.int .i64 (gi xs j)) := ((bcell (below_grownBy hloc.grown)).1 _ _ hb2).trans (hc2 j hlt)
   have y1 : (j : Int) < xs.length := by omega
   have he' : (gi xs j != gi xs j) = false := by simp
   clear hc hc2 h0 h02
   go_wp2_with fail
   go_quiet (fail)
   go_wp2_with fail
   go_roundw
   case rel => exact ⟨j + 1, by omega, by go_num, hloc.next (grownBy_below (below_drewN _ _) none) (fun _ h => by cases h)⟩
   case measure => simp [intOf]; omega
  ·have hdj : decide ((j : Int) < (xs.length : Int)) = false := by simp; omega
   go_wp2_with fail
   go_ret
   exact ⟨rfl, below_grownBy hloc.grown⟩
set_option maxHeartbeats 1000000 in
theorem law_same23 (n c : Int) (v rv v2 rv2 : Value) (xs rs : List Int) (w : World) (hv : RL w.heap.size w v xs) (hr : RL w.heap.size w rv rs) (hv2 : RL w.heap.size w v2 xs) (hr2 : RL w.heap.size w rv2 rs) :
  Calls Tryz.prog 20 #[.agg #[.int .i64 n, v, .int .i64 c, rv], .agg #[.int .i64 n, v2, .int .i64 c, rv2]] w fun e w' => e = .returned (.bool true) ∧ Below w.heap.size w w' := by
 have Hv := Lib.hid hv
 have Hr := Lib.hid hr
 have Hv2 := Lib.hid hv2
 have Hr2 := Lib.hid hr2
 obtain ⟨ao, cap, rfl, hle, _⟩ := hv.open
 obtain ⟨aor, capr, rfl, hler, _⟩ := hr.open
 obtain ⟨ao2, cap2, rfl, hle2, _⟩ := hv2.open
 obtain ⟨aor2, capr2, rfl, hler2, _⟩ := hr2.open
 have hloc := Loc.two w (.cells #[.int .i64 n, .slice ao xs.length cap, .int .i64 c, .slice aor rs.length capr] 35) (.cells #[.int .i64 n, .slice ao2 xs.length cap2, .int .i64 c, .slice aor2 rs.length capr2] 35) none
 have hc' : (c == c) = true := by simp
 clear hv hr hv2 hr2
 go_enter Tryz.func20, Tryz.ntmps20
 go_wp2_with fail
 refine (law_zsame23 n _ _ xs _ (Hv.out.keepb (below_grownBy hloc.grown)) (Hv2.out.keepb (below_grownBy hloc.grown))).mono ?_
 rintro e w1 ⟨rfl, hb1⟩
 have hloc1 := hloc.next (grownBy_below hb1 none) (fun _ h => by cases h)
 clear hloc hb1
 have z0 : w1.cell? ⟨w.heap.size, 0, none⟩ = some (.int .i64 n) := hloc1.cell 0 rfl 0
 have z1 : w1.cell? ⟨w.heap.size, 1, none⟩ = some (.slice ao xs.length cap) := hloc1.cell 0 rfl 1
 have z2 : w1.cell? ⟨w.heap.size, 2, none⟩ = some (.int .i64 c) := hloc1.cell 0 rfl 2
 have z3 : w1.cell? ⟨w.heap.size, 3, none⟩ = some (.slice aor rs.length capr) := hloc1.cell 0 rfl 3
 have y0 : w1.cell? ⟨w.heap.size + 1, 0, none⟩ = some (.int .i64 n) := hloc1.cell 1 rfl 0
 have y1 : w1.cell? ⟨w.heap.size + 1, 1, none⟩ = some (.slice ao2 xs.length cap2) := hloc1.cell 1 rfl 1
 have y2 : w1.cell? ⟨w.heap.size + 1, 2, none⟩ = some (.int .i64 c) := hloc1.cell 1 rfl 2
 have y3 : w1.cell? ⟨w.heap.size + 1, 3, none⟩ = some (.slice aor2 rs.length capr2) := hloc1.cell 1 rfl 3
 go_wp2_with fail
 refine (law_lsame _ _ rs _ (Hr.out.keepb (below_grownBy hloc1.grown)) (Hr2.out.keepb (below_grownBy hloc1.grown))).mono ?_
 rintro e w2 ⟨rfl, hb2⟩
 have hloc2 := hloc1.next (grownBy_below hb2 none) (fun _ h => by cases h)
 clear hloc1 hb2 z0 z1 z2 z3 y0 y1 y2 y3
 go_wp2_with fail
 go_ret
 exact ⟨rfl, below_grownBy hloc2.grown⟩
set_option maxHeartbeats 1000000 in
theorem law_great23 (n k : Int) (v : Value) (xs : List Int) (w : World) (hv : RL w.heap.size w v xs) :
  Calls Tryz.prog 53 #[.agg #[.int .i64 n, v], .int .i64 k] w fun e w' => ∃ b, e = .returned (.bool b) ∧ (b = false → n ≤ k ∧ xs.length ≤ 200) ∧ Below w.heap.size w w' := by
 obtain ⟨ao, cap, rfl, hle, _⟩ := hv.open
 have hloc := Loc.one w (.cells #[.int .i64 n, .slice ao xs.length cap] 32) none
 clear hv
 by_cases h1 : k < n
 ·have h1' : decide (k < n) = true := by simpa using h1
  clear h1
  go_enter Tryz.func53, Tryz.ntmps53
  go_wp2_with fail
  go_ret
  exact ⟨true, rfl, (fun h => by cases h), below_grownBy hloc.grown⟩
 ·have h1' : decide (k < n) = false := by simpa using h1
  by_cases h2 : 200 < xs.length
  ·have h2' : decide ((200 : Int) < (xs.length : Int)) = true := by simp; omega
   clear h1 h2
   go_enter Tryz.func53, Tryz.ntmps53
   go_wp2_with fail
   go_ret
   exact ⟨true, rfl, (fun h => by cases h), below_grownBy hloc.grown⟩
  ·have h2' : decide ((200 : Int) < (xs.length : Int)) = false := by simp; omega
   have HL := Lib.hid (show n ≤ k ∧ xs.length ≤ 200 from ⟨by omega, by omega⟩)
   clear h1 h2
   go_enter Tryz.func53, Tryz.ntmps53
   go_wp2_with fail
   go_ret
   exact ⟨false, rfl, (fun _ => HL.out), below_grownBy hloc.grown⟩
set_option maxHeartbeats 1000000 in
theorem law_large23 (n c : Int) (v rv : Value) (xs rs : List Int) (w : World) (hv : RL w.heap.size w v xs) (hr : RL w.heap.size w rv rs) :
  Calls Tryz.prog 15 #[.agg #[.int .i64 n, v, .int .i64 c, rv]] w fun e w' => ∃ b, e = .returned (.bool b) ∧ (b = false → n ≤ 3 ∧ xs.length ≤ 200 ∧ rs.length ≤ 20) ∧ Below w.heap.size w w' := by
 have Hv := Lib.hid hv
 obtain ⟨ao, cap, rfl, hle, _⟩ := hv.open
 obtain ⟨aor, capr, rfl, hler, _⟩ := hr.open
 have hloc := Loc.one w (.cells #[.int .i64 n, .slice ao xs.length cap, .int .i64 c, .slice aor rs.length capr] 35) none
 clear hv hr
 go_enter Tryz.func15, Tryz.ntmps15
 go_wp2_with fail
 refine (law_great23 n 3 _ xs _ (Hv.out.keepb (below_grownBy hloc.grown))).mono ?_
 rintro e w1 ⟨b, rfl, hb, hb1⟩
 have hloc1 := hloc.next (grownBy_below hb1 none) (fun _ h => by cases h)
 have HB := Lib.hid hb
 clear hloc hb1 hb
 have z0 : w1.cell? ⟨w.heap.size, 0, none⟩ = some (.int .i64 n) := hloc1.cell 0 rfl 0
 have z1 : w1.cell? ⟨w.heap.size, 1, none⟩ = some (.slice ao xs.length cap) := hloc1.cell 0 rfl 1
 have z2 : w1.cell? ⟨w.heap.size, 2, none⟩ = some (.int .i64 c) := hloc1.cell 0 rfl 2
 have z3 : w1.cell? ⟨w.heap.size, 3, none⟩ = some (.slice aor rs.length capr) := hloc1.cell 0 rfl 3
 cases b with
 | true =>
  go_wp2_with fail
  go_ret
  exact ⟨true, rfl, (fun h => by cases h), below_grownBy hloc1.grown⟩
 | false =>
  by_cases h2 : 20 < rs.length
  ·have h2' : decide ((20 : Int) < (rs.length : Int)) = true := by simp; omega
   clear h2
   go_wp2_with fail
   go_ret
   exact ⟨true, rfl, (fun h => by cases h), below_grownBy hloc1.grown⟩
  ·have h2' : decide ((20 : Int) < (rs.length : Int)) = false := by simp; omega
   have HL := Lib.hid (show n ≤ 3 ∧ xs.length ≤ 200 ∧ rs.length ≤ 20 from ⟨(HB.out rfl).1, (HB.out rfl).2, by omega⟩)
   clear h2
   go_wp2_with fail
   go_ret
   exact ⟨false, rfl, (fun _ => HL.out), below_grownBy hloc1.grown⟩
theorem RL.off {w : World} {ao : Option Addr} {n c : Nat} {xs : List Int} {K o : Nat} {u : Value} (h : RL w.heap.size w (.slice ao n c) xs) (hne : n = 0 ∨ (Value.slice ao n c).ownBlock ≠ some K) :
  RL (w.setCell ⟨K, o, none⟩ u).heap.size (w.setCell ⟨K, o, none⟩ u) (.slice ao n c) xs := RL.other h hne
theorem own_ne23 {m B K : Nat} {v : Value} (h : m = 0 ∨ v.ownBlock = some B) (hn : K ≠ B) : m = 0 ∨ v.ownBlock ≠ some K := h.imp id (fun e e2 => hn (by rw [e] at e2; cases e2; rfl))
set_option maxRecDepth 100000 in
set_option maxHeartbeats 8000000 in
theorem law_copied23 (n c : Int) (v rv : Value) (xs rs : List Int) (w : World) (hv : RL w.heap.size w v xs) (hr : RL w.heap.size w rv rs) (hx : xs.length ≤ 200) (hs : rs.length ≤ 20) :
  Calls Tryz.prog 16 #[.agg #[.int .i64 n, v, .int .i64 c, rv]] w fun e w' => (∃ v' rv', e = .returned (.agg #[.int .i64 n, v', .int .i64 c, rv']) ∧ RL w'.heap.size w' v' xs ∧ RL w'.heap.size w' rv' rs) ∧ Below w.heap.size w w' := by
 have Hv := Lib.hid hv
 have Hr := Lib.hid hr
 obtain ⟨ao, cap, rfl, hle, _⟩ := hv.open
 obtain ⟨aor, capr, rfl, hler, _⟩ := hr.open
 have hloc := Loc.two w (.cells #[.int .i64 n, .slice ao xs.length cap, .int .i64 c, .slice aor rs.length capr] 35) (.cells #[.int .i64 0, .slice none 0 0, .int .i64 0, .slice none 0 0] 35) none
 obtain ⟨i0, hi, hi0, hi1, hi2⟩ := info_parts Tryz.infoLimit
 obtain ⟨j0, hj, hj0, hj1, hj2⟩ := info_parts Tryz.infL64
 have Hi := Lib.hid hi
 have Hi0 := Lib.hid hi0
 have Hi1 := Lib.hid hi1
 have Hi2 := Lib.hid hi2
 have Hj := Lib.hid hj
 have Hj0 := Lib.hid hj0
 have Hj1 := Lib.hid hj1
 have Hj2 := Lib.hid hj2
 have HLm := Lib.hid (show (xs.map (Value.int .i64)).length = xs.length * 1 by simp)
 have HLx := Lib.hid (show xs.length ≤ maxLen by unfold maxLen; omega)
 have HLy := Lib.hid (show xs.length * 8 ≤ 140737488355328 by omega)
 have HRm := Lib.hid (show (rs.map (Value.int .i64)).length = rs.length * 1 by simp)
 have HRx := Lib.hid (show rs.length ≤ maxLen by unfold maxLen; omega)
 have HRy := Lib.hid (show rs.length * 8 ≤ 140737488355328 by omega)
 clear hv hr hi hi0 hi1 hi2 hj hj0 hj1 hj2 hx hs
 go_enter Tryz.func16, Tryz.ntmps16
 go_wp2_with fail
 generalize hW : World.alloc _ (Obj.cells #[.int .i64 0, .slice none 0 0, .int .i64 0, .slice none 0 0] 35) = W at *
 have HZ := Lib.hid (show W.heap[w.heap.size]? = some (.cells #[.int .i64 n, .slice ao xs.length cap, .int .i64 c, .slice aor rs.length capr] 35 (0, 0)) from hloc.objs 0 (by simp))
 have HP := Lib.hid (show W.heap[w.heap.size + 1]? = some (.cells #[.int .i64 0, .slice none 0 0, .int .i64 0, .slice none 0 0] 35 (0, 0)) from hloc.objs 1 (by simp))
 have HW := Lib.hid (below_grownBy hloc.grown)
 have HS2 := Lib.hid (show w.heap.size + 2 ≤ W.heap.size from hloc.size)
 have z1 := hloc.cell 0 rfl 1
 have z3 := hloc.cell 0 rfl 3
 have z1' : W.cell? ⟨w.heap.size, 1, none⟩ = some (.slice ao xs.length cap) := z1
 have z3' : W.cell? ⟨w.heap.size, 3, none⟩ = some (.slice aor rs.length capr) := z3
 clear z1 z3 hW hloc
 refine wp_region_noPanic ?_
 refine wp_region_U (S := (fun w' => w'.cell? ⟨w.heap.size, 1, none⟩ = some (.slice ao xs.length cap) ∧ w'.cell? ⟨w.heap.size, 3, none⟩ = some (.slice aor rs.length capr))) (k := 11) (by kernel_rfl) ⟨z1', z3'⟩ (fun hHeld => ?_)
 refine wpAnyU_take (i := 1) (v := ?_) rfl (by kernel_rfl) (by kernel_rfl) (by kernel_rfl) (by kernel_rfl) (by kernel_rfl) (by kernel_rfl) (fun _ _ _ h => h) (Or.inl ⟨by rfl, ?_⟩) (by assumption) ?_
 rotate_left
 ·intro w hSw; (try dsimp only at hSw); go_simp; (try with_reducible rfl)
 try simp only [Act.put, List.getElem_toArray, List.getElem_cons_zero, List.getElem_cons_succ, List.setIfInBounds_toArray, List.set_cons_zero, List.set_cons_succ]
 refine wpAnyU_take (i := 2) (v := ?_) rfl (by kernel_rfl) (by kernel_rfl) (by kernel_rfl) (by kernel_rfl) (by kernel_rfl) (by kernel_rfl) (fun _ _ _ h => h) (Or.inl ⟨by rfl, ?_⟩) (by assumption) ?_
 rotate_left
 ·intro w hSw; (try dsimp only at hSw); go_simp; (try with_reducible rfl)
 try simp only [Act.put, List.getElem_toArray, List.getElem_cons_zero, List.getElem_cons_succ, List.setIfInBounds_toArray, List.set_cons_zero, List.set_cons_succ]
 refine wpAnyU_take (i := 3) (v := ?_) rfl (by kernel_rfl) (by kernel_rfl) (by kernel_rfl) (by kernel_rfl) (by kernel_rfl) (by kernel_rfl) (fun _ _ _ h => h) (Or.inl ⟨by rfl, ?_⟩) (by assumption) ?_
 rotate_left
 ·intro w hSw; (try dsimp only at hSw); go_simp; (try with_reducible rfl)
 try simp only [Act.put, List.getElem_toArray, List.getElem_cons_zero, List.getElem_cons_succ, List.setIfInBounds_toArray, List.set_cons_zero, List.set_cons_succ]
 refine wpAnyU_take (i := 6) (v := ?_) rfl (by kernel_rfl) (by kernel_rfl) (by kernel_rfl) (by kernel_rfl) (by kernel_rfl) (by kernel_rfl) (fun _ _ _ h => h) (Or.inl ⟨by rfl, ?_⟩) (by assumption) ?_
 rotate_left
 ·intro w hSw; (try dsimp only at hSw); go_simp; (try with_reducible rfl)
 try simp only [Act.put, List.getElem_toArray, List.getElem_cons_zero, List.getElem_cons_succ, List.setIfInBounds_toArray, List.set_cons_zero, List.set_cons_succ]
 refine wpAnyU_take (i := 7) (v := ?_) rfl (by kernel_rfl) (by kernel_rfl) (by kernel_rfl) (by kernel_rfl) (by kernel_rfl) (by kernel_rfl) (fun _ _ _ h => h) (Or.inl ⟨by rfl, ?_⟩) (by assumption) ?_
 rotate_left
 ·intro w hSw; (try dsimp only at hSw); go_simp; (try with_reducible rfl)
 try simp only [Act.put, List.getElem_toArray, List.getElem_cons_zero, List.getElem_cons_succ, List.setIfInBounds_toArray, List.set_cons_zero, List.set_cons_succ]
 have HSS := Lib.hid (fun (X : World) (h : X.heap[w.heap.size]? = some (.cells #[.int .i64 n, .slice ao xs.length cap, .int .i64 c, .slice aor rs.length capr] 35 (0, 0))) => (⟨cell_of_row _ w.heap.size 1 _ _ _ h, cell_of_row _ w.heap.size 3 _ _ _ h⟩ : X.cell? ⟨w.heap.size, 1, none⟩ = some (.slice ao xs.length cap) ∧ X.cell? ⟨w.heap.size, 3, none⟩ = some (.slice aor rs.length capr)))
 have HZ0 := Lib.hid (show W.drew.heap[w.heap.size]? = _ from HZ.out)
 have HP0 := Lib.hid (show W.drew.heap[w.heap.size + 1]? = _ from HP.out)
 have HB0 := Lib.hid (HW.out.drew)
 have HT0 := Lib.hid (show w.heap.size + 2 ≤ W.drew.heap.size from HS2.out)
 clear hHeld z1' z3' HZ HP HW HS2
 generalize W.drew = X0 at *
 refine wpAnyU_ready (rs := [0, 5]) (by kernel_rfl) (by simp) ?_
 refine AllReadyU.cons rfl (fun K hK => ?_) (AllReadyU.cons rfl (fun K hK => ?_) (AllReadyU.nil))
 ·skip
  have HZn := (Below.heap_alloc X0 (.cells #[] 63) w.heap.size (by have := HT0.out; omega)).trans HZ0.out
  have HPn := (Below.heap_alloc X0 (.cells #[] 63) (w.heap.size + 1) (by have := HT0.out; omega)).trans HP0.out
  have HBn := bal HB0.out (.cells #[] 63)
  have HTn : w.heap.size + 2 ≤ (X0.alloc (.cells #[] 63)).heap.size := by have := HT0.out; simp; omega
  go_simp
  refine hK.out _ _ (HSS.out _ HZn) (fun hHeld2 => ?_)
  clear hK K
  generalize hgen : World.alloc X0 _ = X1 at *
  clear hgen
  have HZ1 := Lib.hid HZn
  have HP1 := Lib.hid HPn
  have HB1 := Lib.hid HBn
  have HT1 := Lib.hid HTn
  clear HZn HPn HBn HTn
  try simp only [Act.put, List.getElem_toArray, List.getElem_cons_zero, List.getElem_cons_succ, List.setIfInBounds_toArray, List.set_cons_zero, List.set_cons_succ]
  refine wpAnyU_ready (rs := [4, 5]) (by kernel_rfl) (by simp) ?_
  refine AllReadyU.cons rfl (fun K hK => ?_) (AllReadyU.cons rfl (fun K hK => ?_) (AllReadyU.nil))
  ·skip
   refine step_append_fresh (B := w.heap.size) (m := xs.length) (news := xs.map (Value.int .i64)) (xv := .slice ao xs.length cap) rfl (.tmp 3) (.tmp 6) 30 rfl 63 i0 (.int .i64 0) 1 8 Tryz.undLimits Hi.out Hi0.out Hi1.out Hi2.out rfl Nat.one_pos _ rfl rfl (RS.keep Hv.out HB1.out) HLm.out HLx.out HLy.out ?_
   rintro vA X2 hrA hb ⟨⟨aoA, cA, rfl⟩, hf⟩
   have HZ2 := Lib.hid (hp_keep4 HZ1.out hb)
   have HP2 := Lib.hid (hp_keep4 HP1.out hb)
   have HB2 := Lib.hid (bt HB1.out hb)
   have HT2 := Lib.hid (Nat.le_trans HT1.out hb.size)
   have HRA := Lib.hid (show RL _ X2 _ xs from hrA)
   have HNA0 := Lib.hid (own_ne23 (K := w.heap.size) hf (by have := HT1.out; omega))
   have HNA1 := Lib.hid (own_ne23 (K := w.heap.size + 1) hf (by have := HT1.out; omega))
   refine hK.out _ _ (HSS.out _ HZ2.out) (fun hHeld2 => ?_)
   clear hK K hrA hb hf
   try simp only [Act.put, List.getElem_toArray, List.getElem_cons_zero, List.getElem_cons_succ, List.setIfInBounds_toArray, List.set_cons_zero, List.set_cons_succ]
   refine wpAnyU_take (i := 9) (v := ?_) rfl (by kernel_rfl) (by kernel_rfl) (by kernel_rfl) (by kernel_rfl) (by kernel_rfl) (by kernel_rfl) (fun _ _ _ h => h) (Or.inl ⟨by rfl, ?_⟩) (by assumption) ?_
   rotate_left
   ·intro w hSw; (try dsimp only at hSw); go_simp; (try with_reducible rfl)
   try simp only [Act.put, List.getElem_toArray, List.getElem_cons_zero, List.getElem_cons_succ, List.setIfInBounds_toArray, List.set_cons_zero, List.set_cons_succ]
   refine wpAnyU_take (i := 10) (v := ?_) rfl (by kernel_rfl) (by kernel_rfl) (by kernel_rfl) (by kernel_rfl) (by kernel_rfl) (by kernel_rfl) (fun _ _ _ h => h) (Or.inl ⟨by rfl, ?_⟩) (by assumption) ?_
   rotate_left
   ·intro w hSw; (try dsimp only at hSw); go_simp; (try with_reducible rfl)
   try simp only [Act.put, List.getElem_toArray, List.getElem_cons_zero, List.getElem_cons_succ, List.setIfInBounds_toArray, List.set_cons_zero, List.set_cons_succ]
   refine wpAnyU_ready (rs := [5]) (by kernel_rfl) (by simp) ?_
   refine AllReadyU.cons rfl (fun K hK => ?_) (AllReadyU.nil)
   ·skip
    have HZn := (Below.heap_alloc X2 (.cells #[] 2) w.heap.size (by have := HT2.out; omega)).trans HZ2.out
    have HPn := (Below.heap_alloc X2 (.cells #[] 2) (w.heap.size + 1) (by have := HT2.out; omega)).trans HP2.out
    have HBn := bal HB2.out (.cells #[] 2)
    have HTn : w.heap.size + 2 ≤ (X2.alloc (.cells #[] 2)).heap.size := by have := HT2.out; simp; omega
    have HRn := RL.keepb HRA.out ((Below.refl _ _).alloc (Nat.le_refl _) (.cells #[] 2))
    go_simp
    refine hK.out _ _ (HSS.out _ HZn) (fun hHeld2 => ?_)
    clear hK K
    generalize hgen : World.alloc X2 _ = X3 at *
    clear hgen
    have HZ3 := Lib.hid HZn
    have HP3 := Lib.hid HPn
    have HB3 := Lib.hid HBn
    have HT3 := Lib.hid HTn
    clear HRA
    have HRA := Lib.hid HRn
    clear HRn
    clear HZn HPn HBn HTn
    try simp only [Act.put, List.getElem_toArray, List.getElem_cons_zero, List.getElem_cons_succ, List.setIfInBounds_toArray, List.set_cons_zero, List.set_cons_succ]
    refine wpAnyU_ready (rs := [8]) (by kernel_rfl) (by simp) ?_
    refine AllReadyU.cons rfl (fun K hK => ?_) AllReadyU.nil
    refine step_append_fresh (B := w.heap.size) (m := rs.length) (news := rs.map (Value.int .i64)) (xv := .slice aor rs.length capr) rfl (.tmp 8) (.tmp 10) 33 rfl 2 j0 (.int .i64 0) 1 8 Tryz.undL64 Hj.out Hj0.out Hj1.out Hj2.out rfl Nat.one_pos _ rfl rfl (RS.keep Hr.out HB3.out) HRm.out HRx.out HRy.out ?_
    rintro vB X4 hrB hb ⟨⟨aoB, cB, rfl⟩, hf⟩
    have HZ4 := Lib.hid (hp_keep4 HZ3.out hb)
    have HP4 := Lib.hid (hp_keep4 HP3.out hb)
    have HB4 := Lib.hid (bt HB3.out hb)
    have HT4 := Lib.hid (Nat.le_trans HT3.out hb.size)
    have HRB := Lib.hid (show RL _ X4 _ rs from hrB)
    have HNB0 := Lib.hid (own_ne23 (K := w.heap.size) hf (by have := HT3.out; omega))
    have HNB1 := Lib.hid (own_ne23 (K := w.heap.size + 1) hf (by have := HT3.out; omega))
    replace HRA := Lib.hid (RL.keepb HRA.out hb)
    refine hK.out _ _ (HSS.out _ HZ4.out) (fun hHeld2 => ?_)
    clear hK K hrB hb hf
    try simp only [Act.put, List.getElem_toArray, List.getElem_cons_zero, List.getElem_cons_succ, List.setIfInBounds_toArray, List.set_cons_zero, List.set_cons_succ]
    have z1 := cell_of_row _ w.heap.size 1 _ _ _ HZ4.out
    have f1 := frozen_of_row _ w.heap.size 1 _ _ HZ4.out
    have HZa := Lib.hid (heap_setCell_same _ w.heap.size 1 _ _ (.slice aoA xs.length cA) HZ4.out)
    have HPa := Lib.hid ((Below.heap_setCell X4 ⟨w.heap.size, 1, none⟩ (.slice aoA xs.length cA) (w.heap.size + 1) (show w.heap.size + 1 ≠ w.heap.size by omega)).trans HP4.out)
    have HBa := Lib.hid (HB4.out.setCell (p := ⟨w.heap.size, 1, none⟩) (Nat.le_refl _) (.slice aoA xs.length cA))
    have HRAa := Lib.hid (RL.off (K := w.heap.size) (o := 1) (u := .slice aoA xs.length cA) HRA.out HNA0.out)
    have HRBa := Lib.hid (RL.off (K := w.heap.size) (o := 1) (u := .slice aoA xs.length cA) HRB.out HNB0.out)
    refine wpAnyU_ready (rs := [11]) (by kernel_rfl) (by simp) ?_
    refine AllReadyU.past rfl (by kernel_rfl) (fun K hK => ?_) AllReadyU.nil
    go_simp
    refine hK.out _ _ ?_
    clear hK K
    try simp only [Act.put, List.getElem_toArray, List.getElem_cons_zero, List.getElem_cons_succ, List.setIfInBounds_toArray, List.set_cons_zero, List.set_cons_succ]
    clear z1 f1 HZ4 HP4 HB4 HT4 HRA HRB
    generalize hgen : World.setCell X4 _ _ = Y at *
    clear hgen
    refine wpAnyU_takeW (i := 12) (v := ?_) rfl (by kernel_rfl) (by kernel_rfl) (by kernel_rfl) (by kernel_rfl) (fun _ _ _ h => h) (Or.inl ⟨by rfl, ?_⟩) (Or.inl (by kernel_rfl)) ?_
    rotate_left
    ·intro w _; go_simp; (try with_reducible rfl)
    try simp only [Act.put, List.getElem_toArray, List.getElem_cons_zero, List.getElem_cons_succ, List.setIfInBounds_toArray, List.set_cons_zero, List.set_cons_succ]
    have z3 := cell_of_row _ w.heap.size 3 _ _ _ HZa.out
    have f3 := frozen_of_row _ w.heap.size 3 _ _ HZa.out
    have HZb := Lib.hid (heap_setCell_same _ w.heap.size 3 _ _ (.slice aoB rs.length cB) HZa.out)
    have HPb := Lib.hid ((Below.heap_setCell Y ⟨w.heap.size, 3, none⟩ (.slice aoB rs.length cB) (w.heap.size + 1) (show w.heap.size + 1 ≠ w.heap.size by omega)).trans HPa.out)
    have HBb := Lib.hid (HBa.out.setCell (p := ⟨w.heap.size, 3, none⟩) (Nat.le_refl _) (.slice aoB rs.length cB))
    have HRAb := Lib.hid (RL.off (K := w.heap.size) (o := 3) (u := .slice aoB rs.length cB) HRAa.out HNA0.out)
    have HRBb := Lib.hid (RL.off (K := w.heap.size) (o := 3) (u := .slice aoB rs.length cB) HRBa.out HNB0.out)
    refine wpAnyU_ready (rs := [13]) (by kernel_rfl) (by simp) ?_
    refine AllReadyU.past rfl (by kernel_rfl) (fun K hK => ?_) AllReadyU.nil
    go_simp
    refine hK.out _ _ ?_
    clear hK K
    try simp only [Act.put, List.getElem_toArray, List.getElem_cons_zero, List.getElem_cons_succ, List.setIfInBounds_toArray, List.set_cons_zero, List.set_cons_succ]
    clear z3 f3 HZa HPa HBa HRAa HRBa
    generalize hgen : World.setCell Y _ _ = U at *
    clear hgen
    refine wpAnyU_done (by kernel_rfl) ?_ _
    refine NoPanic.normal ?_
    have z0 : U.cell? ⟨w.heap.size, 0, none⟩ = some (.int .i64 n) := cell_of_row _ w.heap.size 0 _ _ _ HZb.out
    have z1 : U.cell? ⟨w.heap.size, 1, none⟩ = some (.slice aoA xs.length cA) := cell_of_row _ w.heap.size 1 _ _ _ HZb.out
    have z2 : U.cell? ⟨w.heap.size, 2, none⟩ = some (.int .i64 c) := cell_of_row _ w.heap.size 2 _ _ _ HZb.out
    have z3 : U.cell? ⟨w.heap.size, 3, none⟩ = some (.slice aoB rs.length cB) := cell_of_row _ w.heap.size 3 _ _ _ HZb.out
    have t0 : U.cell? ⟨w.heap.size + 1, 0, none⟩ = some (.int .i64 0) := cell_of_row _ (w.heap.size + 1) 0 _ _ _ HPb.out
    have f0 : U.frozen? ⟨w.heap.size + 1, 0, none⟩ = false := frozen_of_row _ (w.heap.size + 1) 0 _ _ HPb.out
    have t1 : U.cell? ⟨w.heap.size + 1, 1, none⟩ = some (.slice none 0 0) := cell_of_row _ (w.heap.size + 1) 1 _ _ _ HPb.out
    have f1 : U.frozen? ⟨w.heap.size + 1, 1, none⟩ = false := frozen_of_row _ (w.heap.size + 1) 1 _ _ HPb.out
    have t2 : U.cell? ⟨w.heap.size + 1, 2, none⟩ = some (.int .i64 0) := cell_of_row _ (w.heap.size + 1) 2 _ _ _ HPb.out
    have f2 : U.frozen? ⟨w.heap.size + 1, 2, none⟩ = false := frozen_of_row _ (w.heap.size + 1) 2 _ _ HPb.out
    have t3 : U.cell? ⟨w.heap.size + 1, 3, none⟩ = some (.slice none 0 0) := cell_of_row _ (w.heap.size + 1) 3 _ _ _ HPb.out
    have f3 : U.frozen? ⟨w.heap.size + 1, 3, none⟩ = false := frozen_of_row _ (w.heap.size + 1) 3 _ _ HPb.out
    go_wp2_with fail
    refine bodyPost_ret (v := .agg #[.int .i64 n, .slice aoA xs.length cA, .int .i64 c, .slice aoB rs.length cB]) (by simp [results, Tryz.results16, go_sem, t0, t1, t2, t3]) rfl ⟨⟨_, _, rfl, ?_, ?_⟩, ?_⟩
    ·exact RL.off (RL.off (RL.off (RL.off HRAb.out HNA1.out) HNA1.out) HNA1.out) HNA1.out
    ·exact RL.off (RL.off (RL.off (RL.off HRBb.out HNB1.out) HNB1.out) HNB1.out) HNB1.out
    ·exact ((((HBb.out).setCell (by show w.heap.size ≤ w.heap.size + 1; omega) _).setCell (by show w.heap.size ≤ w.heap.size + 1; omega) _).setCell (by show w.heap.size ≤ w.heap.size + 1; omega) _).setCell (by show w.heap.size ≤ w.heap.size + 1; omega) _
  ·skip
   have HZn := (Below.heap_alloc X1 (.cells #[] 2) w.heap.size (by have := HT1.out; omega)).trans HZ1.out
   have HPn := (Below.heap_alloc X1 (.cells #[] 2) (w.heap.size + 1) (by have := HT1.out; omega)).trans HP1.out
   have HBn := bal HB1.out (.cells #[] 2)
   have HTn : w.heap.size + 2 ≤ (X1.alloc (.cells #[] 2)).heap.size := by have := HT1.out; simp; omega
   go_simp
   refine hK.out _ _ (HSS.out _ HZn) (fun hHeld2 => ?_)
   clear hK K
   generalize hgen : World.alloc X1 _ = X2 at *
   clear hgen
   have HZ2 := Lib.hid HZn
   have HP2 := Lib.hid HPn
   have HB2 := Lib.hid HBn
   have HT2 := Lib.hid HTn
   clear HZn HPn HBn HTn
   try simp only [Act.put, List.getElem_toArray, List.getElem_cons_zero, List.getElem_cons_succ, List.setIfInBounds_toArray, List.set_cons_zero, List.set_cons_succ]
   refine wpAnyU_ready (rs := [4]) (by kernel_rfl) (by simp) ?_
   refine AllReadyU.cons rfl (fun K hK => ?_) (AllReadyU.nil)
   ·skip
    refine step_append_fresh (B := w.heap.size) (m := xs.length) (news := xs.map (Value.int .i64)) (xv := .slice ao xs.length cap) rfl (.tmp 3) (.tmp 6) 30 rfl 63 i0 (.int .i64 0) 1 8 Tryz.undLimits Hi.out Hi0.out Hi1.out Hi2.out rfl Nat.one_pos _ rfl rfl (RS.keep Hv.out HB2.out) HLm.out HLx.out HLy.out ?_
    rintro vA X3 hrA hb ⟨⟨aoA, cA, rfl⟩, hf⟩
    have HZ3 := Lib.hid (hp_keep4 HZ2.out hb)
    have HP3 := Lib.hid (hp_keep4 HP2.out hb)
    have HB3 := Lib.hid (bt HB2.out hb)
    have HT3 := Lib.hid (Nat.le_trans HT2.out hb.size)
    have HRA := Lib.hid (show RL _ X3 _ xs from hrA)
    have HNA0 := Lib.hid (own_ne23 (K := w.heap.size) hf (by have := HT2.out; omega))
    have HNA1 := Lib.hid (own_ne23 (K := w.heap.size + 1) hf (by have := HT2.out; omega))
    refine hK.out _ _ (HSS.out _ HZ3.out) (fun hHeld2 => ?_)
    clear hK K hrA hb hf
    try simp only [Act.put, List.getElem_toArray, List.getElem_cons_zero, List.getElem_cons_succ, List.setIfInBounds_toArray, List.set_cons_zero, List.set_cons_succ]
    refine wpAnyU_take (i := 9) (v := ?_) rfl (by kernel_rfl) (by kernel_rfl) (by kernel_rfl) (by kernel_rfl) (by kernel_rfl) (by kernel_rfl) (fun _ _ _ h => h) (Or.inl ⟨by rfl, ?_⟩) (by assumption) ?_
    rotate_left
    ·intro w hSw; (try dsimp only at hSw); go_simp; (try with_reducible rfl)
    try simp only [Act.put, List.getElem_toArray, List.getElem_cons_zero, List.getElem_cons_succ, List.setIfInBounds_toArray, List.set_cons_zero, List.set_cons_succ]
    refine wpAnyU_take (i := 10) (v := ?_) rfl (by kernel_rfl) (by kernel_rfl) (by kernel_rfl) (by kernel_rfl) (by kernel_rfl) (by kernel_rfl) (fun _ _ _ h => h) (Or.inl ⟨by rfl, ?_⟩) (by assumption) ?_
    rotate_left
    ·intro w hSw; (try dsimp only at hSw); go_simp; (try with_reducible rfl)
    try simp only [Act.put, List.getElem_toArray, List.getElem_cons_zero, List.getElem_cons_succ, List.setIfInBounds_toArray, List.set_cons_zero, List.set_cons_succ]
    refine wpAnyU_ready (rs := [8]) (by kernel_rfl) (by simp) ?_
    refine AllReadyU.cons rfl (fun K hK => ?_) AllReadyU.nil
    refine step_append_fresh (B := w.heap.size) (m := rs.length) (news := rs.map (Value.int .i64)) (xv := .slice aor rs.length capr) rfl (.tmp 8) (.tmp 10) 33 rfl 2 j0 (.int .i64 0) 1 8 Tryz.undL64 Hj.out Hj0.out Hj1.out Hj2.out rfl Nat.one_pos _ rfl rfl (RS.keep Hr.out HB3.out) HRm.out HRx.out HRy.out ?_
    rintro vB X4 hrB hb ⟨⟨aoB, cB, rfl⟩, hf⟩
    have HZ4 := Lib.hid (hp_keep4 HZ3.out hb)
    have HP4 := Lib.hid (hp_keep4 HP3.out hb)
    have HB4 := Lib.hid (bt HB3.out hb)
    have HT4 := Lib.hid (Nat.le_trans HT3.out hb.size)
    have HRB := Lib.hid (show RL _ X4 _ rs from hrB)
    have HNB0 := Lib.hid (own_ne23 (K := w.heap.size) hf (by have := HT3.out; omega))
    have HNB1 := Lib.hid (own_ne23 (K := w.heap.size + 1) hf (by have := HT3.out; omega))
    replace HRA := Lib.hid (RL.keepb HRA.out hb)
    refine hK.out _ _ (HSS.out _ HZ4.out) (fun hHeld2 => ?_)
    clear hK K hrB hb hf
    try simp only [Act.put, List.getElem_toArray, List.getElem_cons_zero, List.getElem_cons_succ, List.setIfInBounds_toArray, List.set_cons_zero, List.set_cons_succ]
    have z1 := cell_of_row _ w.heap.size 1 _ _ _ HZ4.out
    have f1 := frozen_of_row _ w.heap.size 1 _ _ HZ4.out
    have HZa := Lib.hid (heap_setCell_same _ w.heap.size 1 _ _ (.slice aoA xs.length cA) HZ4.out)
    have HPa := Lib.hid ((Below.heap_setCell X4 ⟨w.heap.size, 1, none⟩ (.slice aoA xs.length cA) (w.heap.size + 1) (show w.heap.size + 1 ≠ w.heap.size by omega)).trans HP4.out)
    have HBa := Lib.hid (HB4.out.setCell (p := ⟨w.heap.size, 1, none⟩) (Nat.le_refl _) (.slice aoA xs.length cA))
    have HRAa := Lib.hid (RL.off (K := w.heap.size) (o := 1) (u := .slice aoA xs.length cA) HRA.out HNA0.out)
    have HRBa := Lib.hid (RL.off (K := w.heap.size) (o := 1) (u := .slice aoA xs.length cA) HRB.out HNB0.out)
    refine wpAnyU_ready (rs := [11]) (by kernel_rfl) (by simp) ?_
    refine AllReadyU.past rfl (by kernel_rfl) (fun K hK => ?_) AllReadyU.nil
    go_simp
    refine hK.out _ _ ?_
    clear hK K
    try simp only [Act.put, List.getElem_toArray, List.getElem_cons_zero, List.getElem_cons_succ, List.setIfInBounds_toArray, List.set_cons_zero, List.set_cons_succ]
    clear z1 f1 HZ4 HP4 HB4 HT4 HRA HRB
    generalize hgen : World.setCell X4 _ _ = Y at *
    clear hgen
    refine wpAnyU_takeW (i := 12) (v := ?_) rfl (by kernel_rfl) (by kernel_rfl) (by kernel_rfl) (by kernel_rfl) (fun _ _ _ h => h) (Or.inl ⟨by rfl, ?_⟩) (Or.inl (by kernel_rfl)) ?_
    rotate_left
    ·intro w _; go_simp; (try with_reducible rfl)
    try simp only [Act.put, List.getElem_toArray, List.getElem_cons_zero, List.getElem_cons_succ, List.setIfInBounds_toArray, List.set_cons_zero, List.set_cons_succ]
    have z3 := cell_of_row _ w.heap.size 3 _ _ _ HZa.out
    have f3 := frozen_of_row _ w.heap.size 3 _ _ HZa.out
    have HZb := Lib.hid (heap_setCell_same _ w.heap.size 3 _ _ (.slice aoB rs.length cB) HZa.out)
    have HPb := Lib.hid ((Below.heap_setCell Y ⟨w.heap.size, 3, none⟩ (.slice aoB rs.length cB) (w.heap.size + 1) (show w.heap.size + 1 ≠ w.heap.size by omega)).trans HPa.out)
    have HBb := Lib.hid (HBa.out.setCell (p := ⟨w.heap.size, 3, none⟩) (Nat.le_refl _) (.slice aoB rs.length cB))
    have HRAb := Lib.hid (RL.off (K := w.heap.size) (o := 3) (u := .slice aoB rs.length cB) HRAa.out HNA0.out)
    have HRBb := Lib.hid (RL.off (K := w.heap.size) (o := 3) (u := .slice aoB rs.length cB) HRBa.out HNB0.out)
    refine wpAnyU_ready (rs := [13]) (by kernel_rfl) (by simp) ?_
    refine AllReadyU.past rfl (by kernel_rfl) (fun K hK => ?_) AllReadyU.nil
    go_simp
    refine hK.out _ _ ?_
    clear hK K
    try simp only [Act.put, List.getElem_toArray, List.getElem_cons_zero, List.getElem_cons_succ, List.setIfInBounds_toArray, List.set_cons_zero, List.set_cons_succ]
    clear z3 f3 HZa HPa HBa HRAa HRBa
    generalize hgen : World.setCell Y _ _ = U at *
    clear hgen
    refine wpAnyU_done (by kernel_rfl) ?_ _
    refine NoPanic.normal ?_
    have z0 : U.cell? ⟨w.heap.size, 0, none⟩ = some (.int .i64 n) := cell_of_row _ w.heap.size 0 _ _ _ HZb.out
    have z1 : U.cell? ⟨w.heap.size, 1, none⟩ = some (.slice aoA xs.length cA) := cell_of_row _ w.heap.size 1 _ _ _ HZb.out
    have z2 : U.cell? ⟨w.heap.size, 2, none⟩ = some (.int .i64 c) := cell_of_row _ w.heap.size 2 _ _ _ HZb.out
    have z3 : U.cell? ⟨w.heap.size, 3, none⟩ = some (.slice aoB rs.length cB) := cell_of_row _ w.heap.size 3 _ _ _ HZb.out
    have t0 : U.cell? ⟨w.heap.size + 1, 0, none⟩ = some (.int .i64 0) := cell_of_row _ (w.heap.size + 1) 0 _ _ _ HPb.out
    have f0 : U.frozen? ⟨w.heap.size + 1, 0, none⟩ = false := frozen_of_row _ (w.heap.size + 1) 0 _ _ HPb.out
    have t1 : U.cell? ⟨w.heap.size + 1, 1, none⟩ = some (.slice none 0 0) := cell_of_row _ (w.heap.size + 1) 1 _ _ _ HPb.out
    have f1 : U.frozen? ⟨w.heap.size + 1, 1, none⟩ = false := frozen_of_row _ (w.heap.size + 1) 1 _ _ HPb.out
    have t2 : U.cell? ⟨w.heap.size + 1, 2, none⟩ = some (.int .i64 0) := cell_of_row _ (w.heap.size + 1) 2 _ _ _ HPb.out
    have f2 : U.frozen? ⟨w.heap.size + 1, 2, none⟩ = false := frozen_of_row _ (w.heap.size + 1) 2 _ _ HPb.out
    have t3 : U.cell? ⟨w.heap.size + 1, 3, none⟩ = some (.slice none 0 0) := cell_of_row _ (w.heap.size + 1) 3 _ _ _ HPb.out
    have f3 : U.frozen? ⟨w.heap.size + 1, 3, none⟩ = false := frozen_of_row _ (w.heap.size + 1) 3 _ _ HPb.out
    go_wp2_with fail
    refine bodyPost_ret (v := .agg #[.int .i64 n, .slice aoA xs.length cA, .int .i64 c, .slice aoB rs.length cB]) (by simp [results, Tryz.results16, go_sem, t0, t1, t2, t3]) rfl ⟨⟨_, _, rfl, ?_, ?_⟩, ?_⟩
    ·exact RL.off (RL.off (RL.off (RL.off HRAb.out HNA1.out) HNA1.out) HNA1.out) HNA1.out
    ·exact RL.off (RL.off (RL.off (RL.off HRBb.out HNB1.out) HNB1.out) HNB1.out) HNB1.out
    ·exact ((((HBb.out).setCell (by show w.heap.size ≤ w.heap.size + 1; omega) _).setCell (by show w.heap.size ≤ w.heap.size + 1; omega) _).setCell (by show w.heap.size ≤ w.heap.size + 1; omega) _).setCell (by show w.heap.size ≤ w.heap.size + 1; omega) _
 ·skip
  have HZn := (Below.heap_alloc X0 (.cells #[] 2) w.heap.size (by have := HT0.out; omega)).trans HZ0.out
  have HPn := (Below.heap_alloc X0 (.cells #[] 2) (w.heap.size + 1) (by have := HT0.out; omega)).trans HP0.out
  have HBn := bal HB0.out (.cells #[] 2)
  have HTn : w.heap.size + 2 ≤ (X0.alloc (.cells #[] 2)).heap.size := by have := HT0.out; simp; omega
  go_simp
  refine hK.out _ _ (HSS.out _ HZn) (fun hHeld2 => ?_)
  clear hK K
  generalize hgen : World.alloc X0 _ = X1 at *
  clear hgen
  have HZ1 := Lib.hid HZn
  have HP1 := Lib.hid HPn
  have HB1 := Lib.hid HBn
  have HT1 := Lib.hid HTn
  clear HZn HPn HBn HTn
  try simp only [Act.put, List.getElem_toArray, List.getElem_cons_zero, List.getElem_cons_succ, List.setIfInBounds_toArray, List.set_cons_zero, List.set_cons_succ]
  refine wpAnyU_ready (rs := [0]) (by kernel_rfl) (by simp) ?_
  refine AllReadyU.cons rfl (fun K hK => ?_) (AllReadyU.nil)
  ·skip
   have HZn := (Below.heap_alloc X1 (.cells #[] 63) w.heap.size (by have := HT1.out; omega)).trans HZ1.out
   have HPn := (Below.heap_alloc X1 (.cells #[] 63) (w.heap.size + 1) (by have := HT1.out; omega)).trans HP1.out
   have HBn := bal HB1.out (.cells #[] 63)
   have HTn : w.heap.size + 2 ≤ (X1.alloc (.cells #[] 63)).heap.size := by have := HT1.out; simp; omega
   go_simp
   refine hK.out _ _ (HSS.out _ HZn) (fun hHeld2 => ?_)
   clear hK K
   generalize hgen : World.alloc X1 _ = X2 at *
   clear hgen
   have HZ2 := Lib.hid HZn
   have HP2 := Lib.hid HPn
   have HB2 := Lib.hid HBn
   have HT2 := Lib.hid HTn
   clear HZn HPn HBn HTn
   try simp only [Act.put, List.getElem_toArray, List.getElem_cons_zero, List.getElem_cons_succ, List.setIfInBounds_toArray, List.set_cons_zero, List.set_cons_succ]
   refine wpAnyU_ready (rs := [4]) (by kernel_rfl) (by simp) ?_
   refine AllReadyU.cons rfl (fun K hK => ?_) (AllReadyU.nil)
   ·skip
    refine step_append_fresh (B := w.heap.size) (m := xs.length) (news := xs.map (Value.int .i64)) (xv := .slice ao xs.length cap) rfl (.tmp 3) (.tmp 6) 30 rfl 63 i0 (.int .i64 0) 1 8 Tryz.undLimits Hi.out Hi0.out Hi1.out Hi2.out rfl Nat.one_pos _ rfl rfl (RS.keep Hv.out HB2.out) HLm.out HLx.out HLy.out ?_
    rintro vA X3 hrA hb ⟨⟨aoA, cA, rfl⟩, hf⟩
    have HZ3 := Lib.hid (hp_keep4 HZ2.out hb)
    have HP3 := Lib.hid (hp_keep4 HP2.out hb)
    have HB3 := Lib.hid (bt HB2.out hb)
    have HT3 := Lib.hid (Nat.le_trans HT2.out hb.size)
    have HRA := Lib.hid (show RL _ X3 _ xs from hrA)
    have HNA0 := Lib.hid (own_ne23 (K := w.heap.size) hf (by have := HT2.out; omega))
    have HNA1 := Lib.hid (own_ne23 (K := w.heap.size + 1) hf (by have := HT2.out; omega))
    refine hK.out _ _ (HSS.out _ HZ3.out) (fun hHeld2 => ?_)
    clear hK K hrA hb hf
    try simp only [Act.put, List.getElem_toArray, List.getElem_cons_zero, List.getElem_cons_succ, List.setIfInBounds_toArray, List.set_cons_zero, List.set_cons_succ]
    refine wpAnyU_take (i := 9) (v := ?_) rfl (by kernel_rfl) (by kernel_rfl) (by kernel_rfl) (by kernel_rfl) (by kernel_rfl) (by kernel_rfl) (fun _ _ _ h => h) (Or.inl ⟨by rfl, ?_⟩) (by assumption) ?_
    rotate_left
    ·intro w hSw; (try dsimp only at hSw); go_simp; (try with_reducible rfl)
    try simp only [Act.put, List.getElem_toArray, List.getElem_cons_zero, List.getElem_cons_succ, List.setIfInBounds_toArray, List.set_cons_zero, List.set_cons_succ]
    refine wpAnyU_take (i := 10) (v := ?_) rfl (by kernel_rfl) (by kernel_rfl) (by kernel_rfl) (by kernel_rfl) (by kernel_rfl) (by kernel_rfl) (fun _ _ _ h => h) (Or.inl ⟨by rfl, ?_⟩) (by assumption) ?_
    rotate_left
    ·intro w hSw; (try dsimp only at hSw); go_simp; (try with_reducible rfl)
    try simp only [Act.put, List.getElem_toArray, List.getElem_cons_zero, List.getElem_cons_succ, List.setIfInBounds_toArray, List.set_cons_zero, List.set_cons_succ]
    refine wpAnyU_ready (rs := [8]) (by kernel_rfl) (by simp) ?_
    refine AllReadyU.cons rfl (fun K hK => ?_) AllReadyU.nil
    refine step_append_fresh (B := w.heap.size) (m := rs.length) (news := rs.map (Value.int .i64)) (xv := .slice aor rs.length capr) rfl (.tmp 8) (.tmp 10) 33 rfl 2 j0 (.int .i64 0) 1 8 Tryz.undL64 Hj.out Hj0.out Hj1.out Hj2.out rfl Nat.one_pos _ rfl rfl (RS.keep Hr.out HB3.out) HRm.out HRx.out HRy.out ?_
    rintro vB X4 hrB hb ⟨⟨aoB, cB, rfl⟩, hf⟩
    have HZ4 := Lib.hid (hp_keep4 HZ3.out hb)
    have HP4 := Lib.hid (hp_keep4 HP3.out hb)
    have HB4 := Lib.hid (bt HB3.out hb)
    have HT4 := Lib.hid (Nat.le_trans HT3.out hb.size)
    have HRB := Lib.hid (show RL _ X4 _ rs from hrB)
    have HNB0 := Lib.hid (own_ne23 (K := w.heap.size) hf (by have := HT3.out; omega))
    have HNB1 := Lib.hid (own_ne23 (K := w.heap.size + 1) hf (by have := HT3.out; omega))
    replace HRA := Lib.hid (RL.keepb HRA.out hb)
    refine hK.out _ _ (HSS.out _ HZ4.out) (fun hHeld2 => ?_)
    clear hK K hrB hb hf
    try simp only [Act.put, List.getElem_toArray, List.getElem_cons_zero, List.getElem_cons_succ, List.setIfInBounds_toArray, List.set_cons_zero, List.set_cons_succ]
    have z1 := cell_of_row _ w.heap.size 1 _ _ _ HZ4.out
    have f1 := frozen_of_row _ w.heap.size 1 _ _ HZ4.out
    have HZa := Lib.hid (heap_setCell_same _ w.heap.size 1 _ _ (.slice aoA xs.length cA) HZ4.out)
    have HPa := Lib.hid ((Below.heap_setCell X4 ⟨w.heap.size, 1, none⟩ (.slice aoA xs.length cA) (w.heap.size + 1) (show w.heap.size + 1 ≠ w.heap.size by omega)).trans HP4.out)
    have HBa := Lib.hid (HB4.out.setCell (p := ⟨w.heap.size, 1, none⟩) (Nat.le_refl _) (.slice aoA xs.length cA))
    have HRAa := Lib.hid (RL.off (K := w.heap.size) (o := 1) (u := .slice aoA xs.length cA) HRA.out HNA0.out)
    have HRBa := Lib.hid (RL.off (K := w.heap.size) (o := 1) (u := .slice aoA xs.length cA) HRB.out HNB0.out)
    refine wpAnyU_ready (rs := [11]) (by kernel_rfl) (by simp) ?_
    refine AllReadyU.past rfl (by kernel_rfl) (fun K hK => ?_) AllReadyU.nil
    go_simp
    refine hK.out _ _ ?_
    clear hK K
    try simp only [Act.put, List.getElem_toArray, List.getElem_cons_zero, List.getElem_cons_succ, List.setIfInBounds_toArray, List.set_cons_zero, List.set_cons_succ]
    clear z1 f1 HZ4 HP4 HB4 HT4 HRA HRB
    generalize hgen : World.setCell X4 _ _ = Y at *
    clear hgen
    refine wpAnyU_takeW (i := 12) (v := ?_) rfl (by kernel_rfl) (by kernel_rfl) (by kernel_rfl) (by kernel_rfl) (fun _ _ _ h => h) (Or.inl ⟨by rfl, ?_⟩) (Or.inl (by kernel_rfl)) ?_
    rotate_left
    ·intro w _; go_simp; (try with_reducible rfl)
    try simp only [Act.put, List.getElem_toArray, List.getElem_cons_zero, List.getElem_cons_succ, List.setIfInBounds_toArray, List.set_cons_zero, List.set_cons_succ]
    have z3 := cell_of_row _ w.heap.size 3 _ _ _ HZa.out
    have f3 := frozen_of_row _ w.heap.size 3 _ _ HZa.out
    have HZb := Lib.hid (heap_setCell_same _ w.heap.size 3 _ _ (.slice aoB rs.length cB) HZa.out)
    have HPb := Lib.hid ((Below.heap_setCell Y ⟨w.heap.size, 3, none⟩ (.slice aoB rs.length cB) (w.heap.size + 1) (show w.heap.size + 1 ≠ w.heap.size by omega)).trans HPa.out)
    have HBb := Lib.hid (HBa.out.setCell (p := ⟨w.heap.size, 3, none⟩) (Nat.le_refl _) (.slice aoB rs.length cB))
    have HRAb := Lib.hid (RL.off (K := w.heap.size) (o := 3) (u := .slice aoB rs.length cB) HRAa.out HNA0.out)
    have HRBb := Lib.hid (RL.off (K := w.heap.size) (o := 3) (u := .slice aoB rs.length cB) HRBa.out HNB0.out)
    refine wpAnyU_ready (rs := [13]) (by kernel_rfl) (by simp) ?_
    refine AllReadyU.past rfl (by kernel_rfl) (fun K hK => ?_) AllReadyU.nil
    go_simp
    refine hK.out _ _ ?_
    clear hK K
    try simp only [Act.put, List.getElem_toArray, List.getElem_cons_zero, List.getElem_cons_succ, List.setIfInBounds_toArray, List.set_cons_zero, List.set_cons_succ]
    clear z3 f3 HZa HPa HBa HRAa HRBa
    generalize hgen : World.setCell Y _ _ = U at *
    clear hgen
    refine wpAnyU_done (by kernel_rfl) ?_ _
    refine NoPanic.normal ?_
    have z0 : U.cell? ⟨w.heap.size, 0, none⟩ = some (.int .i64 n) := cell_of_row _ w.heap.size 0 _ _ _ HZb.out
    have z1 : U.cell? ⟨w.heap.size, 1, none⟩ = some (.slice aoA xs.length cA) := cell_of_row _ w.heap.size 1 _ _ _ HZb.out
    have z2 : U.cell? ⟨w.heap.size, 2, none⟩ = some (.int .i64 c) := cell_of_row _ w.heap.size 2 _ _ _ HZb.out
    have z3 : U.cell? ⟨w.heap.size, 3, none⟩ = some (.slice aoB rs.length cB) := cell_of_row _ w.heap.size 3 _ _ _ HZb.out
    have t0 : U.cell? ⟨w.heap.size + 1, 0, none⟩ = some (.int .i64 0) := cell_of_row _ (w.heap.size + 1) 0 _ _ _ HPb.out
    have f0 : U.frozen? ⟨w.heap.size + 1, 0, none⟩ = false := frozen_of_row _ (w.heap.size + 1) 0 _ _ HPb.out
    have t1 : U.cell? ⟨w.heap.size + 1, 1, none⟩ = some (.slice none 0 0) := cell_of_row _ (w.heap.size + 1) 1 _ _ _ HPb.out
    have f1 : U.frozen? ⟨w.heap.size + 1, 1, none⟩ = false := frozen_of_row _ (w.heap.size + 1) 1 _ _ HPb.out
    have t2 : U.cell? ⟨w.heap.size + 1, 2, none⟩ = some (.int .i64 0) := cell_of_row _ (w.heap.size + 1) 2 _ _ _ HPb.out
    have f2 : U.frozen? ⟨w.heap.size + 1, 2, none⟩ = false := frozen_of_row _ (w.heap.size + 1) 2 _ _ HPb.out
    have t3 : U.cell? ⟨w.heap.size + 1, 3, none⟩ = some (.slice none 0 0) := cell_of_row _ (w.heap.size + 1) 3 _ _ _ HPb.out
    have f3 : U.frozen? ⟨w.heap.size + 1, 3, none⟩ = false := frozen_of_row _ (w.heap.size + 1) 3 _ _ HPb.out
    go_wp2_with fail
    refine bodyPost_ret (v := .agg #[.int .i64 n, .slice aoA xs.length cA, .int .i64 c, .slice aoB rs.length cB]) (by simp [results, Tryz.results16, go_sem, t0, t1, t2, t3]) rfl ⟨⟨_, _, rfl, ?_, ?_⟩, ?_⟩
    ·exact RL.off (RL.off (RL.off (RL.off HRAb.out HNA1.out) HNA1.out) HNA1.out) HNA1.out
    ·exact RL.off (RL.off (RL.off (RL.off HRBb.out HNB1.out) HNB1.out) HNB1.out) HNB1.out
    ·exact ((((HBb.out).setCell (by show w.heap.size ≤ w.heap.size + 1; omega) _).setCell (by show w.heap.size ≤ w.heap.size + 1; omega) _).setCell (by show w.heap.size ≤ w.heap.size + 1; omega) _).setCell (by show w.heap.size ≤ w.heap.size + 1; omega) _
end Go.Proofs.YtfphlpglgcmljaaGreat
