/- The law's lent, kept, same of layer 3. What the laws of layer 3 share: boxes of zones, lent zones. -/
import Derived.Test.YtkgaipcgdldfdaaSta
import Derived.Test.YtkgaipcgdldfdaaSame
import Derived.Test.YtkgaipcgdldfdaaLit
import Derived.Deep.RegionHeld3
import Derived.Test.YtkgaipcgdldfdaaSh3
namespace Go.Proofs.Ytkgaipcgdldfdaa
open Go.RowKit
set_option linter.unusedVariables false

theorem own_drew {w : World} {base e size n : Nat} {v : Value} {cs : List Value} (h : w.ownsRow base e size v n cs) : w.drew.ownsRow base e size v n cs := ⟨h.1, h.2⟩
theorem grown_lit (w : World) (o : Obj) (row : Option Nat) : w.grownBy (w.alloc o).drew row := grownBy_trans (World.grownBy_alloc w o row) (grownBy_drew _ _)
set_option maxRecDepth 100000 in
set_option maxHeartbeats 4000000 in
theorem law_lent (n : Int) (zv : Value) (xs : List Int) (w : World) (hz : RL w.heap.size w zv xs) (hl : xs.length ≤ 200) :
    Calls Try.prog 21 #[.agg #[.int .i64 n, zv]] w fun e w' => ∃ g cap, e = .returned (.agg #[.int .i64 n, .slice (some ⟨g, 0, none⟩) xs.length cap]) ∧ OL 60 w.heap.size w' (.slice (some ⟨g, 0, none⟩) (xs.length + 1) cap) (xs ++ [77]) ∧ Below w.heap.size w w' := by
  obtain ⟨aoz, capz, rfl, hlez, _⟩ := hz.open
  have hloc0 := Loc.two w (.cells #[.int .i64 n, .slice aoz xs.length capz] 24) (.cells #[.int .i64 0, .slice none 0 0] 24) none
  have Hz := Lib.hid hz
  obtain ⟨i0, hi, hz0, hz1, hz2⟩ := info_parts Try.infoLimit
  have Hi := Lib.hid hi
  have Hz0 := Lib.hid hz0
  have Hz1 := Lib.hid hz1
  have Hz2 := Lib.hid hz2
  have hw : IntKind.i64.wrap ((xs.length : Int) + 1) = (xs.length : Int) + 1 := IntWalk.i64_in _ (by omega)
  have Hl := Lib.hid hl
  have z0 := hloc0.cell 0 rfl 0
  have z1 := hloc0.cell 0 rfl 1
  clear hz hi hz0 hz1 hz2 hl
  go_enter Try.func21, Try.ntmps21
  go_wp2_with fail
  have e0 : ((w.alloc (.cells #[.int .i64 n, .slice aoz xs.length capz] 24)).alloc (.cells #[.int .i64 0, .slice none 0 0] 24)).heap.size = w.heap.size + 2 := by simp
  generalize World.alloc _ (Obj.cells #[.int .i64 0, .slice none 0 0] 24) = W at *
  have z0' : W.cell? ⟨w.heap.size, 0, none⟩ = some (.int .i64 n) := z0
  have z1' : W.cell? ⟨w.heap.size, 1, none⟩ = some (.slice aoz xs.length capz) := z1
  clear z0 z1
  have Hsz := Lib.hid e0
  have Hloc := Lib.hid hloc0
  have hrl := Lib.hid (show RL W.heap.size W (.slice aoz xs.length capz) xs from Hz.out.keepb (below_grownBy hloc0.grown))
  clear e0 hloc0
  obtain ⟨w1, hmk, hown1, hg1⟩ := run_make_own (P := Try.prog) W.drew (w.heap.size + 2) 22 60 i0 (.int .i64 0) 1 Try.undLimits Hi.out Hz0.out Hz1.out .i64 .i64 (xs.length + 1) (by rw [Hz2.out]; have := Hl.out; omega) (by unfold maxLen; have := Hl.out; omega) (by have := Hsz.out; show _ ≤ W.heap.size; omega)
  rw [show ((xs.length + 1 : Nat) : Int) = (xs.length : Int) + 1 by push_cast; rfl] at hmk
  have hloc1 := Lib.hid (Hloc.out.next (grownBy_trans (grownBy_drew W none) hg1) (fun _ h => by cases h))
  have y1 : w1.cell? ⟨w.heap.size, 1, none⟩ = some (.slice aoz xs.length capz) := hloc1.out.cell 0 rfl 1
  go_region_held3 (fun w' => w'.cell? ⟨w.heap.size, 1, none⟩ = some (.slice aoz xs.length capz))
    (first | assumption | go_keep)
    (first
      | (refine step_append_rs (v := .slice (some ⟨W.heap.size, 0, none⟩) 0 (xs.length + 1)) (n := 0) (xs := []) (xv := .slice aoz xs.length capz) (m := xs.length) (news := xs.map (Value.int .i64)) ?_ (.tmp 8) (.tmp 10) 22 ?_ (w.heap.size + 2) 60 i0 (.int .i64 0) 1 8 Try.undLimits Hi.out Hz0.out Hz1.out Hz2.out ?_ ?_ ?_ ?_ w1.heap.size ?_ ?_ ?_ ?_ ?_ ?_ ?_ ?_; rfl; rfl; rfl; decide; rfl; exact hown1; rfl; exact hrl.out.keepb (show Below W.heap.size W w1 from (below_grownBy (grownBy_trans (grownBy_drew W none) hg1))); (simp); exact ints_oneCell' _; (unfold maxLen; have := Hl.out; omega); (have := Hl.out; omega); (have := hg1.size; have := Hsz.out; simp at *; omega); intro v2 w2 ho2 hg2; have hloc2 := hloc1.out.anyrow hg2 (fun k e => by cases e; have := Hsz.out; show w.heap.size + 2 ≤ W.heap.size; omega); have y2 : w2.cell? ⟨w.heap.size, 1, none⟩ = some (.slice aoz xs.length capz) := hloc2.cell 0 rfl 1))
  have Hloc2 := Lib.hid hloc2
  have z2 : w2.cell? ⟨w.heap.size, 0, none⟩ = some (.int .i64 n) := hloc2.cell 0 rfl 0
  have Ho2 : w2.ownsRow (w.heap.size + 2) 60 1 v2 xs.length (xs.map (Value.int .i64)) := by simpa using ho2
  have hs2 := Lib.hid (show w.heap.size + 2 ≤ w2.heap.size from hloc2.size)
  clear ho2 hg2 hloc2 hloc1 y1 hmk hown1 hg1 Hloc hrl Hsz z0' z1'
  have HO2 := Lib.hid Ho2
  clear Ho2
  go_wp2_with fail
  go_region_held3 (fun w' => w'.cell? ⟨w.heap.size, 0, none⟩ = some (.int .i64 n) ∧ w'.cell? ⟨w.heap.size, 1, none⟩ = some (.slice aoz xs.length capz))
    (first | exact ⟨by assumption, by assumption⟩ | go_keep)
    (first
      | (refine step_append_rs (v := v2) (n := xs.length) (xs := xs.map (Value.int .i64)) (xv := .slice (some ⟨w2.heap.size, 0, none⟩) 1 1) (m := 1) (news := [.int .i64 77]) ?_ (.tmp 14) (.tmp 15) 22 ?_ (w.heap.size + 2) 60 i0 (.int .i64 0) 1 8 Try.undLimits Hi.out Hz0.out Hz1.out Hz2.out ?_ ?_ ?_ ?_ (w2.heap.size + 1) ?_ ?_ ?_ ?_ ?_ ?_ ?_ ?_; rfl; rfl; rfl; decide; rfl; exact own_drew (World.ownsRow.alloc HO2.out _); rfl; exact rs_one w2 (.int .i64 77) _; rfl; exact ints_oneCell' [77]; (unfold maxLen; have := Hl.out; omega); (have := Hl.out; omega); (have := hs2.out; simp; omega); intro v3 w3 ho3 hg3; (obtain ⟨g3, cap3, rfl, hgb3, hgs3, hgc3, hgm3⟩ := own_form ho3 (by omega)); have hloc3 := Hloc2.out.anyrow (grownBy_trans (grown_lit w2 _ _) hg3) (fun k e => (World.ownsRow.lt HO2.out k e).1); have y30 : w3.cell? ⟨w.heap.size, 0, none⟩ = some (.int .i64 n) := hloc3.cell 0 rfl 0; have y3 : w3.cell? ⟨w.heap.size, 1, none⟩ = some (.slice aoz xs.length capz) := hloc3.cell 0 rfl 1; have r0 : w3.cell? ⟨w.heap.size + 1, 0, none⟩ = some (.int .i64 0) := hloc3.cell 1 rfl 0; have r1 : w3.cell? ⟨w.heap.size + 1, 1, none⟩ = some (.slice none 0 0) := hloc3.cell 1 rfl 1; have r2 : w3.frozen? ⟨w.heap.size + 1, 0, none⟩ = false := hloc3.free 1 rfl 0; have r3 : w3.frozen? ⟨w.heap.size + 1, 1, none⟩ = false := hloc3.free 1 rfl 1; have hcc : (xs.length : Int) ≤ (cap3 : Int) := by omega))
  go_wp2_with fail
  have Ho3 := Lib.hid (show OL 60 (w.heap.size + 2) w3 (.slice (some ⟨g3, 0, none⟩) (xs.length + 1) cap3) (xs ++ [77]) by unfold OL; rw [List.length_append, List.map_append]; exact ho3)
  have HB3 := Lib.hid (below_grownBy hloc3.grown)
  refine bodyPost_ret (v := .agg #[.int .i64 n, .slice (some ⟨g3, 0, none⟩) xs.length cap3]) (by simp [results, Try.results21, go_sem, r0, r1]) rfl ⟨g3, cap3, rfl, ?_, ?_⟩
  · exact OL.mono (base := w.heap.size + 2) (own_set2 Ho3.out (by omega) _ _) (by omega)
  · exact (HB3.out.setCell (by simp) _).setCell (by simp) _
set_option maxRecDepth 100000 in
set_option maxHeartbeats 4000000 in
theorem law_kept (n : Int) (g cap : Nat) (zv : Value) (xs : List Int) (w : World) (hr : RL w.heap.size w (.slice (some ⟨g, 0, none⟩) xs.length cap) xs) (hz : RL w.heap.size w zv xs) (h7 : w.cell? ⟨g, xs.length, none⟩ = some (.int .i64 77)) (hcap : xs.length + 1 ≤ cap) (hcm : cap ≤ maxLen) (hl : xs.length ≤ 200) :
    Calls Try.prog 27 #[.agg #[.int .i64 n, .slice (some ⟨g, 0, none⟩) xs.length cap], .agg #[.int .i64 n, zv]] w fun e w' => e = .returned (.bool true) ∧ Below w.heap.size w w' := by
  obtain ⟨aoz, capz, rfl, hlez, _⟩ := hz.open
  have hloc0 := Loc.two w (.cells #[.int .i64 n, .slice (some ⟨g, 0, none⟩) xs.length cap] 24) (.cells #[.int .i64 n, .slice aoz xs.length capz] 24) none
  have hw : IntKind.i64.wrap ((xs.length : Int) + 1) = (xs.length : Int) + 1 := IntWalk.i64_in _ (by omega)
  have Hr := Lib.hid (hr.keepb (below_grownBy hloc0.grown))
  have Hz := Lib.hid (hz.keepb (below_grownBy hloc0.grown))
  have z0 := hloc0.cell 0 rfl 0
  have z1 := hloc0.cell 0 rfl 1
  have y0 := hloc0.cell 1 rfl 0
  have y1 := hloc0.cell 1 rfl 1
  have x7 := keepb h7 (below_grownBy hloc0.grown)
  have h1 : (xs.length : Int) + 1 ≤ (cap : Int) := by omega
  have h2 : (xs.length : Int) < (xs.length : Int) + 1 := by omega
  have h3 : (0 : Int) ≤ (xs.length : Int) + 1 := by omega
  have h4 : ((xs.length : Int) + 1).toNat = xs.length + 1 := by omega
  clear hr hz h7
  go_enter Try.func27, Try.ntmps27
  go_wp2_with fail
  generalize hW : World.alloc _ (Obj.cells #[.int .i64 n, .slice aoz xs.length capz] 24) = W at *
  clear hW
  have z0' : W.cell? ⟨w.heap.size, 0, none⟩ = some (.int .i64 n) := z0
  have z1' : W.cell? ⟨w.heap.size, 1, none⟩ = some (.slice (some ⟨g, 0, none⟩) xs.length cap) := z1
  have y0' : W.cell? ⟨w.heap.size + 1, 0, none⟩ = some (.int .i64 n) := y0
  have y1' : W.cell? ⟨w.heap.size + 1, 1, none⟩ = some (.slice aoz xs.length capz) := y1
  clear z0 z1 y0 y1
  have Hloc := Lib.hid hloc0
  clear hloc0
  go_region_held3 (fun w' => w'.cell? ⟨w.heap.size, 0, none⟩ = some (.int .i64 n) ∧ w'.cell? ⟨w.heap.size, 1, none⟩ = some (.slice (some ⟨g, 0, none⟩) xs.length cap) ∧ w'.cell? ⟨w.heap.size + 1, 0, none⟩ = some (.int .i64 n) ∧ w'.cell? ⟨w.heap.size + 1, 1, none⟩ = some (.slice aoz xs.length capz) ∧ w'.cell? ⟨g, xs.length, none⟩ = some (.int .i64 77))
    (first | exact ⟨z0', z1', y0', y1', x7⟩ | exact ⟨q0, q1, q2, q3, q4⟩ | go_keep)
    (first
      | (go_at_call 16; refine (ref_same n n _ _ xs xs W.drew Hr.out.drew Hz.out.drew).mono ?_; rw [sameB_refl]; rintro e w8 ⟨rfl, hb8⟩; have q0 := keepb (show W.drew.cell? _ = _ from z0') hb8; have q1 := keepb (show W.drew.cell? _ = _ from z1') hb8; have q2 := keepb (show W.drew.cell? _ = _ from y0') hb8; have q3 := keepb (show W.drew.cell? _ = _ from y1') hb8; have q4 := keepb (show W.drew.cell? _ = _ from x7) hb8))
  go_wp2_with fail
  go_ret
  exact ⟨rfl, below_grownBy (grownBy_trans Hloc.out.grown (grownBy_trans (grownBy_drew W none) (grownBy_below hb8 none)))⟩
set_option maxHeartbeats 2000000 in
theorem law_same03 (n k : Int) (v v2 : Value) (xs : List Int) (w : World) (hv : RL w.heap.size w v xs) (hv2 : RL w.heap.size w v2 xs) :
    Calls Try.prog 24 #[.agg #[.int .i64 n, v], .agg #[.int .i64 n, v2], .int .i64 k, .int .i64 k] w fun e w' => e = .returned (.bool true) ∧ Below w.heap.size w w' := by
  obtain ⟨ao, cap, rfl, hle, h0⟩ := hv.open
  obtain ⟨ao2, cap2, rfl, hle2, h02⟩ := hv2.open
  have hloc0 := Loc.two w (.cells #[.int .i64 n, (.slice ao xs.length cap)] 24) (.cells #[.int .i64 n, (.slice ao2 xs.length cap2)] 24) none
  have Hv := Lib.hid (hv.keepb (below_grownBy hloc0.grown))
  have Hv2 := Lib.hid (hv2.keepb (below_grownBy hloc0.grown))
  have hk : (k == k) = true := by simp
  clear hv hv2 h0 h02
  go_enter Try.func24, Try.ntmps24
  go_wp2_with fail
  refine (ref_same n n _ _ xs xs _ Hv.out Hv2.out).mono ?_
  rw [sameB_refl]
  rintro e w5 ⟨rfl, hb5⟩
  go_wp2_with fail
  go_ret
  exact ⟨rfl, below_grownBy (grownBy_trans hloc0.grown (grownBy_below hb5 none))⟩
end Go.Proofs.Ytkgaipcgdldfdaa
namespace Go.Proofs.Ytkgaipcgdldfdaa
open Go.RowKit
set_option linter.unusedVariables false

/-- The first elements of an own slice, read. -/
theorem rl_init {t base g n cap : Nat} {w : World} {xs : List Int} {l : Int} (h : OL t base w (.slice (some ⟨g, 0, none⟩) (xs.length + 1) cap) (xs ++ [l])) :
    RL w.heap.size w (.slice (some ⟨g, 0, none⟩) xs.length cap) xs ∧ w.cell? ⟨g, xs.length, none⟩ = some (.int .i64 l) ∧ xs.length + 1 ≤ cap ∧ cap ≤ maxLen := by
  obtain ⟨g', cap', e1, e2, e3, e4, e5⟩ := own_form h (by simp)
  injection e1 with e6 e7 e8
  subst e8
  rw [List.length_append, List.length_singleton] at e4
  have hc := fun k (hk : k < xs.length + 1) => (ol_cell h (k := k) (by rw [List.length_append, List.length_singleton]; exact hk)).1
  refine ⟨.inr ⟨g, 0, none, cap, rfl, by omega, e5, fun h0 => by rw [List.eq_nil_of_length_eq_zero h0]; rfl, fun _ => ⟨rfl, ?_, fun k hk => ?_⟩⟩, ?_, e4, e5⟩
  · injection e6 with e9
    injection e9 with e10
    omega
  · rw [List.length_map] at hk
    rw [Nat.zero_add, hc k (by omega), List.getElem?_map, List.getElem?_eq_getElem hk]
    simp [gi, List.getD_eq_getElem?_getD, List.getElem?_append_left hk, hk]
  · rw [hc xs.length (by omega)]
    simp [gi, List.getD_eq_getElem?_getD]
theorem store2_at {w : World} {b t : Nat} {u0 u1 : Value} (x y : Value) (h : w.heap[b]? = some (.cells #[u0, u1] t (0, 0))) :
    ((w.setCell ⟨b, 0, none⟩ x).setCell ⟨b, 1, none⟩ y).heap[b]? = some (.cells #[x, y] t (0, 0)) := heap_setCell_same _ _ 1 _ _ _ (heap_setCell_same _ _ 0 _ _ _ h)
theorem store2_ne {w : World} {b c : Nat} (x y : Value) (h : c ≠ b) : ((w.setCell ⟨b, 0, none⟩ x).setCell ⟨b, 1, none⟩ y).heap[c]? = w.heap[c]? := by
  rw [Below.heap_setCell _ _ _ _ h, Below.heap_setCell _ _ _ _ h]
theorem OL.keepw {t base : Nat} {w w' : World} {v : Value} {xs : List Int} (h : OL t base w v xs) (hb : Below w.heap.size w w') : OL t base w' v xs :=
  World.ownsRow.kept h (grownBy_below hb none) (by cases hh : v.ownBlock with | none => exact .inl rfl | some b => exact .inr (by simp))
theorem hp_lt {w : World} {b : Nat} {o : Obj} (h : w.heap[b]? = some o) : b < w.heap.size := (Array.getElem?_eq_some_iff.1 h).1
theorem hp_keep {w w' : World} {b : Nat} {o : Obj} (h : w.heap[b]? = some o) (hb : Below w.heap.size w w') : w'.heap[b]? = some o := (hb.block b (hp_lt h)).trans h


theorem OL.lower {t base base' : Nat} {w : World} {v : Value} {xs : List Int} (h : OL t base w v xs) (hb : base' ≤ base) : OL t base' w v xs := by
  refine ⟨h.1, ?_⟩
  rcases h.2 with h2 | ⟨g, cap, cur, h2, h3, h4⟩
  · exact .inl h2
  · exact .inr ⟨g, cap, cur, h2, by omega, h4⟩
theorem ol_blk {t base : Nat} {w : World} {g n cap : Nat} {xs : List Int} (h : OL t base w (.slice (some ⟨g, 0, none⟩) n cap) xs) : base ≤ g ∧ g < w.heap.size := World.ownsRow.lt h g rfl
theorem gset (w : World) (b i : Nat) (v : Value) : w.grownBy (w.setCell ⟨b, i, none⟩ v) (some b) :=
  ⟨rfl, rfl, rfl, by simp [World.setCell], fun k _ hk => Below.heap_setCell _ _ _ _ (fun e => hk (by simp [e]))⟩
theorem OL.other2 {t base : Nat} {w : World} {g n cap b : Nat} {xs : List Int} (h : OL t base w (.slice (some ⟨g, 0, none⟩) n cap) xs) (hn : g ≠ b) (u0 u1 : Value) :
    OL t base ((w.setCell ⟨b, 0, none⟩ u0).setCell ⟨b, 1, none⟩ u1) (.slice (some ⟨g, 0, none⟩) n cap) xs :=
  World.ownsRow.kept h (grownBy_trans (gset w b 0 u0) (gset _ b 1 u1)) (.inr (fun e => hn (by simpa [Value.ownBlock] using e)))

/-- A lent zone's list, in a block of its own. -/
structure Lrow where
  g : Nat
  c : Nat
  zs : List Int
/-- Boxes made for zones, and lent zones, since a world. -/
structure St (W X : World) (bs : List Nat) (rs : List Lrow) : Prop where
  bel : Below W.heap.size W X
  box : ∀ b, b ∈ bs → X.heap[b]? = some (.cells #[.int .i64 0, .slice none 0 0] 24 (0, 0)) ∧ W.heap.size ≤ b
  nd : bs.Nodup
  row : ∀ r, r ∈ rs → OL 60 W.heap.size X (.slice (some ⟨r.g, 0, none⟩) (r.zs.length + 1) r.c) (r.zs ++ [77]) ∧ r.g ∉ bs
  rnd : (rs.map Lrow.g).Nodup
theorem St.zero (W : World) : St W W [] [] := ⟨Below.refl _ _, by simp, by simp, by simp, by simp⟩
theorem St.drew {W X : World} {bs : List Nat} {rs : List Lrow} (h : St W X bs rs) : St W X.drew bs rs :=
  ⟨h.bel.drew, h.box, h.nd, fun r hr => ⟨own_drew (h.row r hr).1, (h.row r hr).2⟩, h.rnd⟩
theorem St.alloc {W X : World} {bs : List Nat} {rs : List Lrow} (h : St W X bs rs) : St W (X.alloc (.cells #[.int .i64 0, .slice none 0 0] 24)) (X.heap.size :: bs) rs := by
  have hk := b1_alloc X (.cells #[.int .i64 0, .slice none 0 0] 24)
  refine ⟨bal h.bel _, ?_, ?_, ?_, h.rnd⟩
  · intro b hb
    rcases List.mem_cons.1 hb with rfl | hb
    · exact ⟨heap_alloc_new X _, h.bel.size⟩
    · exact ⟨hp_keep (h.box b hb).1 hk, (h.box b hb).2⟩
  · refine List.nodup_cons.2 ⟨fun hb => ?_, h.nd⟩
    have := hp_lt (h.box _ hb).1
    omega
  · intro r hr
    refine ⟨OL.keepw (h.row r hr).1 hk, ?_⟩
    intro hb
    rcases List.mem_cons.1 hb with hb | hb
    · have := (ol_blk (h.row r hr).1).2
      omega
    · exact (h.row r hr).2 hb
theorem St.call {W X X' : World} {bs : List Nat} {rs : List Lrow} (h : St W X bs rs) {g c : Nat} {zs : List Int} (hb : Below X.heap.size X X')
    (ho : OL 60 X.heap.size X' (.slice (some ⟨g, 0, none⟩) (zs.length + 1) c) (zs ++ [77])) : St W X' bs (⟨g, c, zs⟩ :: rs) := by
  have hg := ol_blk ho
  refine ⟨bt h.bel hb, fun b hb' => ⟨hp_keep (h.box b hb').1 hb, (h.box b hb').2⟩, h.nd, ?_, ?_⟩
  · intro r hr
    rcases List.mem_cons.1 hr with rfl | hr
    · refine ⟨OL.lower ho h.bel.size, fun hb' => ?_⟩
      have := hp_lt (h.box _ hb').1
      simp only at this
      omega
    · exact ⟨OL.keepw (h.row r hr).1 hb, (h.row r hr).2⟩
  · refine List.nodup_cons.2 ⟨fun hr => ?_, h.rnd⟩
    obtain ⟨r, hr, e⟩ := List.mem_map.1 hr
    have := (ol_blk (h.row r hr).1).2
    rw [e] at this
    simp only at this
    omega
theorem St.lent {W X : World} {bs : List Nat} {rs : List Lrow} (h : St W X bs rs) (n : Int) {v : Value} {xs : List Int} (hv : RL W.heap.size W v xs) (hl : xs.length ≤ 200) :
    Calls Try.prog 21 #[.agg #[.int .i64 n, v]] X fun e w' => ∃ g c, e = .returned (.agg #[.int .i64 n, .slice (some ⟨g, 0, none⟩) xs.length c]) ∧ St W w' bs (⟨g, c, xs⟩ :: rs) := by
  refine (law_lent n v xs X (hv.keepb h.bel) hl).mono ?_
  rintro e w' ⟨g, c, e1, ho, hb⟩
  exact ⟨g, c, e1, h.call hb ho⟩

theorem St.c {W X : World} {bs : List Nat} {rs : List Lrow} (h : St W X bs rs) {b : Nat} (hb : b ∈ bs) :
    X.cell? ⟨b, 0, none⟩ = some (.int .i64 0) ∧ X.cell? ⟨b, 1, none⟩ = some (.slice none 0 0) ∧ X.frozen? ⟨b, 0, none⟩ = false ∧ X.frozen? ⟨b, 1, none⟩ = false := by
  have k := (h.box b hb).1
  exact ⟨cell_of_row X b 0 _ _ _ k, cell_of_row X b 1 _ _ _ k, frozen_of_row X b 0 _ _ k, frozen_of_row X b 1 _ _ k⟩
theorem St.c2 {W X : World} {bs : List Nat} {rs : List Lrow} (h : St W X bs rs) {b c : Nat} (hb : b ∈ bs) (hn : b ≠ c) (x y : Value) :
    ((X.setCell ⟨c, 0, none⟩ x).setCell ⟨c, 1, none⟩ y).cell? ⟨b, 0, none⟩ = some (.int .i64 0) ∧ ((X.setCell ⟨c, 0, none⟩ x).setCell ⟨c, 1, none⟩ y).cell? ⟨b, 1, none⟩ = some (.slice none 0 0) ∧ ((X.setCell ⟨c, 0, none⟩ x).setCell ⟨c, 1, none⟩ y).frozen? ⟨b, 0, none⟩ = false ∧ ((X.setCell ⟨c, 0, none⟩ x).setCell ⟨c, 1, none⟩ y).frozen? ⟨b, 1, none⟩ = false := by
  have k := (store2_ne x y hn).trans (h.box b hb).1
  exact ⟨cell_of_row _ b 0 _ _ _ k, cell_of_row _ b 1 _ _ _ k, frozen_of_row _ b 0 _ _ k, frozen_of_row _ b 1 _ _ k⟩

/-- Two lent zones and their boxes. -/
structure Lent2 (W X : World) (n n2 : Int) (xs ys : List Int) (b5 b6 g5 c5 g6 c6 : Nat) : Prop where
  bel : Below W.heap.size W X
  h5 : X.heap[b5]? = some (.cells #[.int .i64 n, .slice (some ⟨g5, 0, none⟩) xs.length c5] 24 (0, 0))
  h6 : X.heap[b6]? = some (.cells #[.int .i64 n2, .slice (some ⟨g6, 0, none⟩) ys.length c6] 24 (0, 0))
  o5 : OL 60 W.heap.size X (.slice (some ⟨g5, 0, none⟩) (xs.length + 1) c5) (xs ++ [77])
  o6 : OL 60 W.heap.size X (.slice (some ⟨g6, 0, none⟩) (ys.length + 1) c6) (ys ++ [77])
  l5 : W.heap.size ≤ b5
  l6 : W.heap.size ≤ b6
  n56 : b5 ≠ b6
  n1 : g5 ≠ g6
  n2' : g5 ≠ b5
  n3 : g5 ≠ b6
  n4 : g6 ≠ b5
  n5 : g6 ≠ b6
theorem St.fin {W X : World} {a b g5 c5 g6 c6 : Nat} {xs ys : List Int} (h : St W X [a, b] [⟨g6, c6, ys⟩, ⟨g5, c5, xs⟩]) (n n2 : Int) (b5 b6 : Nat) (hb : (b5 = a ∧ b6 = b) ∨ (b5 = b ∧ b6 = a)) :
    Lent2 W ((((X.setCell ⟨b5, 0, none⟩ (.int .i64 n)).setCell ⟨b5, 1, none⟩ (.slice (some ⟨g5, 0, none⟩) xs.length c5)).setCell ⟨b6, 0, none⟩ (.int .i64 n2)).setCell ⟨b6, 1, none⟩ (.slice (some ⟨g6, 0, none⟩) ys.length c6)) n n2 xs ys b5 b6 g5 c5 g6 c6 := by
  have hn : a ≠ b := by have := h.nd; simp at this; exact this
  have hA := h.box a (by simp)
  have hB := h.box b (by simp)
  have h6 := h.row ⟨g6, c6, ys⟩ (by simp)
  have h5 := h.row ⟨g5, c5, xs⟩ (by simp)
  have hg : g6 ≠ g5 := by have := h.rnd; simp at this; exact this
  have m6 : g6 ≠ a ∧ g6 ≠ b := by simpa using h6.2
  have m5 : g5 ≠ a ∧ g5 ≠ b := by simpa using h5.2
  have k5 : X.heap[b5]? = some (.cells #[.int .i64 0, .slice none 0 0] 24 (0, 0)) ∧ W.heap.size ≤ b5 := by rcases hb with ⟨rfl, rfl⟩ | ⟨rfl, rfl⟩ <;> assumption
  have k6 : X.heap[b6]? = some (.cells #[.int .i64 0, .slice none 0 0] 24 (0, 0)) ∧ W.heap.size ≤ b6 := by rcases hb with ⟨rfl, rfl⟩ | ⟨rfl, rfl⟩ <;> assumption
  have e56 : b5 ≠ b6 := by omega
  have u5 : g5 ≠ b5 := by omega
  have u6 : g5 ≠ b6 := by omega
  have u7 : g6 ≠ b5 := by omega
  have u8 : g6 ≠ b6 := by omega
  refine ⟨?_, ?_, ?_, ?_, ?_, k5.2, k6.2, e56, fun e => hg e.symm, by omega, by omega, by omega, by omega⟩
  · exact (((h.bel.setCell (p := ⟨b5, 0, none⟩) k5.2 _).setCell (p := ⟨b5, 1, none⟩) k5.2 _).setCell (p := ⟨b6, 0, none⟩) k6.2 _).setCell (p := ⟨b6, 1, none⟩) k6.2 _
  · exact (store2_ne _ _ e56).trans (store2_at _ _ k5.1)
  · exact store2_at _ _ ((store2_ne _ _ (fun e => e56 e.symm)).trans k6.1)
  · exact (h5.1.other2 u5 _ _).other2 u6 _ _
  · exact (h6.1.other2 u7 _ _).other2 u8 _ _
/-- The first box is stored into before the second one is made. -/
theorem St.fin2 {W X XA : World} {b5 g5 c5 g6 c6 : Nat} {xs ys : List Int} (h : St W X [b5] [⟨g6, c6, ys⟩, ⟨g5, c5, xs⟩]) (n n2 : Int)
    (hA : (X.setCell ⟨b5, 0, none⟩ (.int .i64 n)).setCell ⟨b5, 1, none⟩ (.slice (some ⟨g5, 0, none⟩) xs.length c5) = XA) (b6 : Nat) (hb : XA.heap.size = b6) :
    Lent2 W (((XA.alloc (.cells #[.int .i64 0, .slice none 0 0] 24)).setCell ⟨b6, 0, none⟩ (.int .i64 n2)).setCell ⟨b6, 1, none⟩ (.slice (some ⟨g6, 0, none⟩) ys.length c6)) n n2 xs ys b5 b6 g5 c5 g6 c6 := by
  subst hb
  have k5 := h.box b5 (by simp)
  have h6 := h.row ⟨g6, c6, ys⟩ (by simp)
  have h5 := h.row ⟨g5, c5, xs⟩ (by simp)
  have hg : g6 ≠ g5 := by have := h.rnd; simp at this; exact this
  have m6 : g6 ≠ b5 := by simpa using h6.2
  have m5 : g5 ≠ b5 := by simpa using h5.2
  have hbA : Below W.heap.size W XA := by
    rw [← hA]; exact (h.bel.setCell (p := ⟨b5, 0, none⟩) k5.2 _).setCell (p := ⟨b5, 1, none⟩) k5.2 _
  have a5 : XA.heap[b5]? = some (.cells #[.int .i64 n, .slice (some ⟨g5, 0, none⟩) xs.length c5] 24 (0, 0)) := by rw [← hA]; exact store2_at _ _ k5.1
  have o5 : OL 60 W.heap.size XA (.slice (some ⟨g5, 0, none⟩) (xs.length + 1) c5) (xs ++ [77]) := by rw [← hA]; exact h5.1.other2 m5 _ _
  have o6 : OL 60 W.heap.size XA (.slice (some ⟨g6, 0, none⟩) (ys.length + 1) c6) (ys ++ [77]) := by rw [← hA]; exact h6.1.other2 m6 _ _
  have hk := b1_alloc XA (.cells #[.int .i64 0, .slice none 0 0] 24)
  have lt5 := hp_lt a5
  have lg5 := (ol_blk o5).2
  have lg6 := (ol_blk o6).2
  have u5 : g5 ≠ XA.heap.size := by omega
  have u6 : g6 ≠ XA.heap.size := by omega
  have e56 : b5 ≠ XA.heap.size := by omega
  refine ⟨?_, ?_, ?_, ?_, ?_, k5.2, hbA.size, e56, fun e => hg e.symm, m5, u5, m6, u6⟩
  · exact ((bal hbA _).setCell (p := ⟨XA.heap.size, 0, none⟩) hbA.size _).setCell (p := ⟨XA.heap.size, 1, none⟩) hbA.size _
  · exact (store2_ne _ _ e56).trans (hp_keep a5 hk)
  · exact store2_at _ _ (heap_alloc_new XA _)
  · exact (OL.keepw o5 hk).other2 u5 _ _
  · exact (OL.keepw o6 hk).other2 u6 _ _
theorem zc_new (X : World) : (X.alloc (.cells #[.int .i64 0, .slice none 0 0] 24)).cell? ⟨X.heap.size, 0, none⟩ = some (.int .i64 0) ∧ (X.alloc (.cells #[.int .i64 0, .slice none 0 0] 24)).cell? ⟨X.heap.size, 1, none⟩ = some (.slice none 0 0) ∧ (X.alloc (.cells #[.int .i64 0, .slice none 0 0] 24)).frozen? ⟨X.heap.size, 0, none⟩ = false ∧ (X.alloc (.cells #[.int .i64 0, .slice none 0 0] 24)).frozen? ⟨X.heap.size, 1, none⟩ = false := by
  have k := heap_alloc_new X (.cells #[.int .i64 0, .slice none 0 0] 24)
  exact ⟨cell_of_row _ _ 0 _ _ _ k, cell_of_row _ _ 1 _ _ _ k, frozen_of_row _ _ 0 _ _ k, frozen_of_row _ _ 1 _ _ k⟩
theorem Lent2.keep {W X X' : World} {n n2 : Int} {xs ys : List Int} {b5 b6 g5 c5 g6 c6 : Nat} (h : Lent2 W X n n2 xs ys b5 b6 g5 c5 g6 c6) (hb : Below X.heap.size X X') : Lent2 W X' n n2 xs ys b5 b6 g5 c5 g6 c6 :=
  ⟨bt h.bel hb, hp_keep h.h5 hb, hp_keep h.h6 hb, OL.keepw h.o5 hb, OL.keepw h.o6 hb, h.l5, h.l6, h.n56, h.n1, h.n2', h.n3, h.n4, h.n5⟩
theorem Lent2.r5 {W X : World} {n n2 : Int} {xs ys : List Int} {b5 b6 g5 c5 g6 c6 : Nat} (h : Lent2 W X n n2 xs ys b5 b6 g5 c5 g6 c6) : RL X.heap.size X (.slice (some ⟨g5, 0, none⟩) xs.length c5) xs := (rl_init (n := 0) h.o5).1
theorem Lent2.r6 {W X : World} {n n2 : Int} {xs ys : List Int} {b5 b6 g5 c5 g6 c6 : Nat} (h : Lent2 W X n n2 xs ys b5 b6 g5 c5 g6 c6) : RL X.heap.size X (.slice (some ⟨g6, 0, none⟩) ys.length c6) ys := (rl_init (n := 0) h.o6).1
/-- The cells of the arguments' boxes and of the lent zones' boxes. -/
theorem Lent2.cells {w W X : World} {n n2 : Int} {xs ys : List Int} {b5 b6 g5 c5 g6 c6 : Nat} {v v2 : Value} (h : Lent2 W X n n2 xs ys b5 b6 g5 c5 g6 c6)
    (z0 : W.cell? ⟨w.heap.size, 0, none⟩ = some (.int .i64 n)) (z1 : W.cell? ⟨w.heap.size, 1, none⟩ = some v) (y0 : W.cell? ⟨w.heap.size + 1, 0, none⟩ = some (.int .i64 n2)) (y1 : W.cell? ⟨w.heap.size + 1, 1, none⟩ = some v2) :
    X.cell? ⟨w.heap.size, 0, none⟩ = some (.int .i64 n) ∧ X.cell? ⟨w.heap.size, 1, none⟩ = some v ∧ X.cell? ⟨w.heap.size + 1, 0, none⟩ = some (.int .i64 n2) ∧ X.cell? ⟨w.heap.size + 1, 1, none⟩ = some v2 ∧
    X.cell? ⟨b5, 0, none⟩ = some (.int .i64 n) ∧ X.cell? ⟨b5, 1, none⟩ = some (.slice (some ⟨g5, 0, none⟩) xs.length c5) ∧ X.cell? ⟨b6, 0, none⟩ = some (.int .i64 n2) ∧ X.cell? ⟨b6, 1, none⟩ = some (.slice (some ⟨g6, 0, none⟩) ys.length c6) :=
  ⟨keepb z0 h.bel, keepb z1 h.bel, keepb y0 h.bel, keepb y1 h.bel, cell_of_row X b5 0 _ _ _ h.h5, cell_of_row X b5 1 _ _ _ h.h5, cell_of_row X b6 0 _ _ _ h.h6, cell_of_row X b6 1 _ _ _ h.h6⟩
theorem OL.keepg {t base g : Nat} {w w' : World} {v : Value} {xs : List Int} (h : OL t base w v xs) (hg : w.grownBy w' (some g)) (hlt : g < base) : OL t base w' v xs :=
  World.ownsRow.kept h hg (.inr (fun e => by have := (World.ownsRow.lt h g e).1; omega))
theorem hp_grown {w w' : World} {b g : Nat} {o : Obj} (h : w.heap[b]? = some o) (hg : w.grownBy w' (some g)) (hn : b ≠ g) : w'.heap[b]? = some o :=
  (hg.block b (hp_lt h) (by simpa using hn)).trans h
/-- A box of a zone that has been made, its list in a row from the block B on. -/
structure Zb (X : World) (B b : Nat) (d : Int) (ao : Option Addr) (c : Nat) (zs : List Int) : Prop where
  h : X.heap[b]? = some (.cells #[.int .i64 d, .slice ao zs.length c] 24 (0, 0))
  o : OL 60 B X (.slice ao zs.length c) zs
theorem Zb.keep {X X' : World} {B b c : Nat} {d : Int} {ao : Option Addr} {zs : List Int} (h : Zb X B b d ao c zs) (hb : Below X.heap.size X X') : Zb X' B b d ao c zs := ⟨hp_keep h.h hb, OL.keepw h.o hb⟩
theorem Zb.rl {X : World} {B b c : Nat} {d : Int} {ao : Option Addr} {zs : List Int} (h : Zb X B b d ao c zs) : RL X.heap.size X (.slice ao zs.length c) zs := OL.rl h.o
theorem Zb.new {X : World} {B c : Nat} {d : Int} {ao : Option Addr} {zs : List Int} (h : OL 60 B X (.slice ao zs.length c) zs) : Zb (X.alloc (.cells #[.int .i64 d, .slice ao zs.length c] 24)) B X.heap.size d ao c zs :=
  ⟨heap_alloc_new X _, OL.keepw h (b1_alloc X _)⟩
theorem Zb.store {X : World} {B B' b c c' : Nat} {d d' : Int} {ao ao' : Option Addr} {zs zs' : List Int} (h : Zb X B b d ao c zs) (ho : OL 60 B' X (.slice ao' zs'.length c') zs') (hb : b < B') :
    Zb ((X.setCell ⟨b, 0, none⟩ (.int .i64 d')).setCell ⟨b, 1, none⟩ (.slice ao' zs'.length c')) B' b d' ao' c' zs' := ⟨store2_at _ _ h.h, own_set2 ho hb _ _⟩
theorem Zb.other {X : World} {B b c e : Nat} {d : Int} {ao : Option Addr} {zs : List Int} (h : Zb X B b d ao c zs) (hn : b ≠ e) (he : e < B) (x y : Value) :
    Zb ((X.setCell ⟨e, 0, none⟩ x).setCell ⟨e, 1, none⟩ y) B b d ao c zs := ⟨(store2_ne x y hn).trans h.h, own_set2 h.o he _ _⟩
theorem Zb.keepg {X X' : World} {B b c g : Nat} {d : Int} {ao : Option Addr} {zs : List Int} (h : Zb X B b d ao c zs) (hg : X.grownBy X' (some g)) (hn : b ≠ g) (hlt : g < B) : Zb X' B b d ao c zs :=
  ⟨hp_grown h.h hg hn, OL.keepg h.o hg hlt⟩
theorem Zb.storeC {X : World} {B B' b c c' : Nat} {d d' : Int} {ao ao' : Option Addr} {zs zs' : List Int} (h : Zb X B b d ao c zs) (ho : OL 60 B' X (.slice ao' zs'.length c') zs') (hb : b < B') (d'' : Int) (e : d'' = d') :
    Zb ((X.setCell ⟨b, 0, none⟩ (.int .i64 d'')).setCell ⟨b, 1, none⟩ (.slice ao' zs'.length c')) B' b d' ao' c' zs' := by subst e; exact h.store ho hb
theorem Zb.cells {X : World} {B b c : Nat} {d : Int} {ao : Option Addr} {zs : List Int} (h : Zb X B b d ao c zs) :
    X.cell? ⟨b, 0, none⟩ = some (.int .i64 d) ∧ X.cell? ⟨b, 1, none⟩ = some (.slice ao zs.length c) ∧ X.frozen? ⟨b, 0, none⟩ = false ∧ X.frozen? ⟨b, 1, none⟩ = false :=
  ⟨cell_of_row _ b 0 _ _ _ h.h, cell_of_row _ b 1 _ _ _ h.h, frozen_of_row _ b 0 _ _ h.h, frozen_of_row _ b 1 _ _ h.h⟩
theorem Lent2.store {W X : World} {n n2 : Int} {xs ys : List Int} {b5 b6 g5 c5 g6 c6 e : Nat} (h : Lent2 W X n n2 xs ys b5 b6 g5 c5 g6 c6) (hW : W.heap.size ≤ e) (e1 : b5 ≠ e) (e2 : b6 ≠ e) (e3 : g5 ≠ e) (e4 : g6 ≠ e) (x y : Value) :
    Lent2 W ((X.setCell ⟨e, 0, none⟩ x).setCell ⟨e, 1, none⟩ y) n n2 xs ys b5 b6 g5 c5 g6 c6 :=
  ⟨(h.bel.setCell (p := ⟨e, 0, none⟩) hW _).setCell (p := ⟨e, 1, none⟩) hW _, (store2_ne x y e1).trans h.h5, (store2_ne x y e2).trans h.h6, h.o5.other2 e3 x y, h.o6.other2 e4 x y, h.l5, h.l6, h.n56, h.n1, h.n2', h.n3, h.n4, h.n5⟩
end Go.Proofs.Ytkgaipcgdldfdaa
