/- The law ZoneCloses answers true for every input, and writes nothing that was there. -/
import Derived.Test.YtkgaipcgdldfdaaSh3
import Derived.Test.YtkgaipcgdldfdaaLnt
import Derived.Test.YtkgaipcgdldfdaaZclose
import Derived.Test.YtkgaipcgdldfdaaZref4
import Derived.Test.YtkgaipcgdldfdaaFil
namespace Go.Proofs.Ytkgaipcgdldfdaa
open Go.RowKit
set_option linter.unusedVariables false

/-- The first elements of an own slice, read. -/
theorem rl_init {t base g n cap : Nat} {w : World} {xs : List Int} {l : Int} (h : OL t base w (.slice (some ⟨g, 0, none⟩) (xs.length + 1) cap) (xs ++ [l])) :
    RL w.heap.size w (.slice (some ⟨g, 0, none⟩) xs.length cap) xs ∧ w.cell? ⟨g, xs.length, none⟩ = some (.int .i64 l) ∧ xs.length + 1 ≤ cap ∧ cap ≤ maxLen := by
  obtain ⟨g', cap', e1, e2, e3, e4, e5⟩ := own_form h (by simp)
  injection e1 with e6 e7 e8
  subst e8
  rw [List.length_append, List.length_singleton] at e4
  have hc := fun k (hk : k < xs.length + 1) => (ol_cell h (k := k) (by rw [List.length_append, List.length_singleton]; exact hk)).1
  refine ⟨.inr ⟨g, 0, none, cap, rfl, by omega, e5, fun h0 => by rw [List.eq_nil_of_length_eq_zero h0]; rfl, fun _ => ⟨rfl, ?_, fun k hk => ?_⟩⟩, ?_, e4, e5⟩
  · injection e6 with e9
    injection e9 with e10
    omega
  · rw [List.length_map] at hk
    rw [Nat.zero_add, hc k (by omega), List.getElem?_map, List.getElem?_eq_getElem hk]
    simp [gi, List.getD_eq_getElem?_getD, List.getElem?_append_left hk, hk]
  · rw [hc xs.length (by omega)]
    simp [gi, List.getD_eq_getElem?_getD]
theorem store2_at {w : World} {b t : Nat} {u0 u1 : Value} (x y : Value) (h : w.heap[b]? = some (.cells #[u0, u1] t (0, 0))) :
    ((w.setCell ⟨b, 0, none⟩ x).setCell ⟨b, 1, none⟩ y).heap[b]? = some (.cells #[x, y] t (0, 0)) := heap_setCell_same _ _ 1 _ _ _ (heap_setCell_same _ _ 0 _ _ _ h)
theorem store2_ne {w : World} {b c : Nat} (x y : Value) (h : c ≠ b) : ((w.setCell ⟨b, 0, none⟩ x).setCell ⟨b, 1, none⟩ y).heap[c]? = w.heap[c]? := by
  rw [Below.heap_setCell _ _ _ _ h, Below.heap_setCell _ _ _ _ h]
theorem OL.keepw {t base : Nat} {w w' : World} {v : Value} {xs : List Int} (h : OL t base w v xs) (hb : Below w.heap.size w w') : OL t base w' v xs :=
  World.ownsRow.kept h (grownBy_below hb none) (by cases hh : v.ownBlock with | none => exact .inl rfl | some b => exact .inr (by simp))
theorem hp_lt {w : World} {b : Nat} {o : Obj} (h : w.heap[b]? = some o) : b < w.heap.size := (Array.getElem?_eq_some_iff.1 h).1
theorem hp_keep {w w' : World} {b : Nat} {o : Obj} (h : w.heap[b]? = some o) (hb : Below w.heap.size w w') : w'.heap[b]? = some o := (hb.block b (hp_lt h)).trans h

set_option maxRecDepth 100000 in
set_option maxHeartbeats 8000000 in
theorem law_zone_closes (n : Int) (v : Value) (xs : List Int) (w : World) (hv : RL w.heap.size w v xs) :
    Calls Try.prog 6 #[.int .i64 n, v] w fun e w' => e = .returned (.bool true) ∧ Below w.heap.size w w' := by
  obtain ⟨ao, cap, rfl, hle, _⟩ := hv.open
  have Hv := Lib.hid hv
  clear hv
  by_cases hb : 200 < xs.length
  · have htb : decide ((200 : Int) < (xs.length : Int)) = true := by simp; omega
    go_enter Try.func6, Try.ntmps6
    go_wp2_with fail
    refine (law_shown03 _).mono ?_
    rintro e w1 ⟨rfl, hb1⟩
    go_wp2_with fail
    go_ret
    exact ⟨rfl, hb1⟩
  have htb : decide ((200 : Int) < (xs.length : Int)) = false := by simp; omega
  have Hl := Lib.hid (show xs.length ≤ 200 by omega)
  have HC := Lib.hid (fun v w hv => prog_close n v xs w hv)
  have HD := Lib.hid (fun v w hv => ref_close n v xs w hv)
  generalize hR : closeF n xs = R at HC HD
  clear hR hb
  go_enter Try.func6, Try.ntmps6
  go_wp2_with fail
  refine (law_lent n _ xs w Hv.out Hl.out).mono ?_
  rintro e w1 ⟨g, cp, rfl, ho1, hb1⟩
  obtain ⟨hr1, h71, hcp, hcm⟩ := rl_init (n := 0) ho1
  have b1 := bal hb1 (.cells #[.int .i64 n, .slice (some ⟨g, 0, none⟩) xs.length cp] 24)
  have k1 := b1_alloc w1 (.cells #[.int .i64 n, .slice (some ⟨g, 0, none⟩) xs.length cp] 24)
  have H5 := Lib.hid (heap_alloc_new w1 (.cells #[.int .i64 n, .slice (some ⟨g, 0, none⟩) xs.length cp] 24))
  have Hr1 := Lib.hid (hr1.keepb k1)
  have H71 := Lib.hid (keepb h71 k1)
  have Hv1 := Lib.hid (Hv.out.keepb b1)
  have HB1 := Lib.hid b1
  have L5 := Lib.hid hb1.size
  clear ho1 hb1 hr1 h71 b1 k1
  go_wp2_with fail
  generalize w1.alloc (.cells #[.int .i64 n, .slice (some ⟨g, 0, none⟩) xs.length cp] 24) = W1 at *
  generalize w1.heap.size = b5 at *
  refine (HC.out _ W1 Hr1.out).mono ?_
  rintro e w2 ⟨⟨v2, rfl, ho2⟩, hb2⟩
  obtain ⟨d, hd⟩ : ∃ d, d = zdim R n := ⟨_, rfl⟩
  rw [← hd]
  have HDm := Lib.hid hd
  clear hd
  obtain ⟨ao2, c2, rfl⟩ := owns_form ho2
  have b2 := bal hb2 (.cells #[.int .i64 d, .slice ao2 R.2.length c2] 24)
  have k2 := b1_alloc w2 (.cells #[.int .i64 d, .slice ao2 R.2.length c2] 24)
  have H6 := Lib.hid (heap_alloc_new w2 (.cells #[.int .i64 d, .slice ao2 R.2.length c2] 24))
  have Hq6 := Lib.hid ((OL.rl ho2).keepb k2)
  have H52 := Lib.hid (hp_keep H5.out b2)
  have Hr2 := Lib.hid (Hr1.out.keepb b2)
  have H72 := Lib.hid (keepb H71.out b2)
  have Hv2 := Lib.hid (Hv1.out.keepb b2)
  have HB2 := Lib.hid (bt HB1.out b2)
  have L6 := Lib.hid (Nat.le_trans L5.out (Nat.le_trans (Nat.le_of_lt (hp_lt H5.out)) hb2.size))
  have N56 := Lib.hid (Nat.lt_of_lt_of_le (hp_lt H5.out) hb2.size)
  clear ho2 hb2 b2 k2 H5 Hr1 H71 Hv1 HB1
  go_wp2_with fail
  generalize w2.alloc (.cells #[.int .i64 d, .slice ao2 R.2.length c2] 24) = W2 at *
  generalize w2.heap.size = b6 at *
  refine (HD.out _ W2 Hv2.out).mono ?_
  rintro e w3 ⟨⟨v3, rfl, ho3⟩, hb3⟩
  rw [← HDm.out]
  obtain ⟨ao3, c3, rfl⟩ := owns_form ho3
  have b3 := bal hb3 (.cells #[.int .i64 d, .slice ao3 R.2.length c3] 24)
  have k3 := b1_alloc w3 (.cells #[.int .i64 d, .slice ao3 R.2.length c3] 24)
  have H8 := heap_alloc_new w3 (.cells #[.int .i64 d, .slice ao3 R.2.length c3] 24)
  have Hq8 := (OL.rl ho3).keepb k3
  have Hq63 := Hq6.out.keepb b3
  have H53 := hp_keep H52.out b3
  have H63 := hp_keep H6.out b3
  have Hr3 := Hr2.out.keepb b3
  have H73 := keepb H72.out b3
  have Hv3 := Hv2.out.keepb b3
  have HB3 := Lib.hid (bt HB2.out b3)
  have L8 := Lib.hid (Nat.le_trans L6.out (Nat.le_trans (Nat.le_of_lt (hp_lt H6.out)) hb3.size))
  have N68 := Lib.hid (Nat.lt_of_lt_of_le (hp_lt H6.out) hb3.size)
  clear ho3 hb3 b3 k3 H52 H6 Hq6 Hr2 H72 Hv2 HB2
  go_wp2_with fail
  generalize w3.alloc (.cells #[.int .i64 d, .slice ao3 R.2.length c3] 24) = W3 at *
  generalize w3.heap.size = b8 at *
  have a0 : W3.cell? ⟨b5, 0, none⟩ = some (.int .i64 n) := cell_of_row _ b5 0 _ _ _ H53
  have a1 : W3.cell? ⟨b5, 1, none⟩ = some (.slice (some ⟨g, 0, none⟩) xs.length cp) := cell_of_row _ b5 1 _ _ _ H53
  have p0 : W3.cell? ⟨b6, 0, none⟩ = some (.int .i64 d) := cell_of_row _ b6 0 _ _ _ H63
  have p1 : W3.cell? ⟨b6, 1, none⟩ = some (.slice ao2 R.2.length c2) := cell_of_row _ b6 1 _ _ _ H63
  have q0 : W3.cell? ⟨b8, 0, none⟩ = some (.int .i64 d) := cell_of_row _ b8 0 _ _ _ H8
  have q1 : W3.cell? ⟨b8, 1, none⟩ = some (.slice ao3 R.2.length c3) := cell_of_row _ b8 1 _ _ _ H8
  have hee : (okErr n xs != okErr n xs) = false := by simp
  go_region_held3 (fun w' => w'.cell? ⟨b5, 0, none⟩ = some (.int .i64 n) ∧ w'.cell? ⟨b5, 1, none⟩ = some (.slice (some ⟨g, 0, none⟩) xs.length cp) ∧ w'.cell? ⟨b6, 0, none⟩ = some (.int .i64 d) ∧ w'.cell? ⟨b6, 1, none⟩ = some (.slice ao2 R.2.length c2) ∧ w'.cell? ⟨b8, 0, none⟩ = some (.int .i64 d) ∧ w'.cell? ⟨b8, 1, none⟩ = some (.slice ao3 R.2.length c3))
    (first | exact ⟨a0, a1, p0, p1, q0, q1⟩ | go_keep)
    (first
      | (go_at_call 24; refine (law_same03 d R.1 _ _ R.2 W3.drew Hq63.drew Hq8.drew).mono ?_; rintro e wA ⟨rfl, hbA⟩; have hbA' : Below W3.heap.size W3 wA := below_grownBy (grownBy_trans (grownBy_drew W3 none) (grownBy_below hbA none)); replace a0 := keepb a0 hbA'; replace a1 := keepb a1 hbA'; replace p0 := keepb p0 hbA'; replace p1 := keepb p1 hbA'; replace q0 := keepb q0 hbA'; replace q1 := keepb q1 hbA'; replace H63 := hp_keep H63 hbA'; replace H8 := hp_keep H8 hbA'; replace Hr3 := Hr3.keepb hbA'; replace Hv3 := Hv3.keepb hbA'; replace H73 := keepb H73 hbA')
      | (have _t := hbB; go_at_call 26; refine (ref_check n _ xs wB Hr3).mono ?_; rintro e wC ⟨rfl, hbC⟩; replace a0 := keepb a0 hbC; replace a1 := keepb a1 hbC; replace p0 := keepb p0 hbC; replace p1 := keepb p1 hbC; replace q0 := keepb q0 hbC; replace q1 := keepb q1 hbC; replace H63 := hp_keep H63 hbC; replace H8 := hp_keep H8 hbC; replace Hr3 := Hr3.keepb hbC; replace Hv3 := Hv3.keepb hbC; replace H73 := keepb H73 hbC)
      | (have _t := hbA; go_at_call 25; refine (prog_check n _ xs wA Hr3).mono ?_; rintro e wB ⟨rfl, hbB⟩; replace a0 := keepb a0 hbB; replace a1 := keepb a1 hbB; replace p0 := keepb p0 hbB; replace p1 := keepb p1 hbB; replace q0 := keepb q0 hbB; replace q1 := keepb q1 hbB; replace H63 := hp_keep H63 hbB; replace H8 := hp_keep H8 hbB; replace Hr3 := Hr3.keepb hbB; replace Hv3 := Hv3.keepb hbB; replace H73 := keepb H73 hbB)
      | (have _t := hbC; go_at_call 27; refine (law_kept n g cp _ xs wC Hr3 Hv3 H73 hcp hcm Hl.out).mono ?_; rintro e wD ⟨rfl, hbD⟩; replace a0 := keepb a0 hbD; replace a1 := keepb a1 hbD; replace p0 := keepb p0 hbD; replace p1 := keepb p1 hbD; replace q0 := keepb q0 hbD; replace q1 := keepb q1 hbD; replace H63 := hp_keep H63 hbD; replace H8 := hp_keep H8 hbD; replace Hr3 := Hr3.keepb hbD; replace Hv3 := Hv3.keepb hbD; replace H73 := keepb H73 hbD))
  have HB4 := Lib.hid (show Below w.heap.size w wD from bt (bt (bt (bt HB3.out hbA') hbB) hbC) hbD)
  clear HB3 a0 a1 p0 p1 q0 q1 Hr3 H73 Hq63 Hq8 H53 hbA' hbA hbB hbC hbD Hv3 hee
  have N86 : b8 ≠ b6 := by have := N68.out; omega
  have N68' : b6 ≠ b8 := by have := N68.out; omega
  have HZ := Lib.hid (prog_zero n)
  have HY := Lib.hid (ref_zero n)
  have HX := Lib.hid (prog_all n)
  have HW := Lib.hid (ref_all n)
  generalize fillF n 1 = F at HZ HY
  generalize fillF n 1099511627776 = G at HX HW
  obtain ⟨dF, hdF⟩ : ∃ d, d = zdim F n := ⟨_, rfl⟩
  obtain ⟨dG, hdG⟩ : ∃ d, d = zdim G n := ⟨_, rfl⟩
  have HdF := Lib.hid hdF
  have HdG := Lib.hid hdG
  clear hdF hdG
  go_wp2_with fail
  refine (HZ.out wD).mono ?_
  rintro e w4 ⟨⟨v4, rfl, ho4⟩, hb4⟩
  rw [← HdF.out]
  obtain ⟨ao4, c4, rfl⟩ := owns_form ho4
  have H6a := hp_keep H63 hb4
  have H8a := hp_keep H8 hb4
  have s0 := cell_of_row w4 b6 0 _ _ _ H6a
  have s1 := cell_of_row w4 b6 1 _ _ _ H6a
  have f0 := frozen_of_row w4 b6 0 _ _ H6a
  have f1 := frozen_of_row w4 b6 1 _ _ H6a
  have H6b := store2_at (.int .i64 dF) (.slice ao4 F.2.length c4) H6a
  have H8b := (store2_ne (b := b6) (.int .i64 dF) (.slice ao4 F.2.length c4) N86).trans H8a
  have hlt6 := hp_lt H63
  have hlt8 := hp_lt H8
  have Hob := own_set2 ho4 hlt6 (.int .i64 dF) (.slice ao4 F.2.length c4)
  have HBb := Lib.hid (((bt HB4.out hb4).setCell (p := ⟨b6, 0, none⟩) L6.out (.int .i64 dF)).setCell (p := ⟨b6, 1, none⟩) L6.out (.slice ao4 F.2.length c4))
  clear hb4 ho4 H63 H8 HB4
  go_wp2_with fail
  clear s0 s1 f0 f1 H6a H8a
  generalize (w4.setCell ⟨b6, 0, none⟩ (.int .i64 dF)).setCell ⟨b6, 1, none⟩ (.slice ao4 F.2.length c4) = W4 at *
  refine (HY.out W4).mono ?_
  rintro e w5 ⟨⟨v5, rfl, ho5⟩, hb5⟩
  rw [← HdF.out]
  obtain ⟨ao5, c5, rfl⟩ := owns_form ho5
  have H6a := hp_keep H6b hb5
  have H8a := hp_keep H8b hb5
  have s0 := cell_of_row w5 b8 0 _ _ _ H8a
  have s1 := cell_of_row w5 b8 1 _ _ _ H8a
  have f0 := frozen_of_row w5 b8 0 _ _ H8a
  have f1 := frozen_of_row w5 b8 1 _ _ H8a
  have t0 := cell_of_row w5 b6 0 _ _ _ H6a
  have t1 := cell_of_row w5 b6 1 _ _ _ H6a
  have H8c := store2_at (.int .i64 dF) (.slice ao5 F.2.length c5) H8a
  have H6c := (store2_ne (b := b8) (.int .i64 dF) (.slice ao5 F.2.length c5) N68').trans H6a
  have Hoc := OL.rl (own_set2 ho5 (hp_lt H8b) (.int .i64 dF) (.slice ao5 F.2.length c5))
  have Hod := OL.rl (own_set2 (OL.keepw Hob hb5) hlt8 (.int .i64 dF) (.slice ao5 F.2.length c5))
  have HBc := Lib.hid (((bt HBb.out hb5).setCell (p := ⟨b8, 0, none⟩) L8.out (.int .i64 dF)).setCell (p := ⟨b8, 1, none⟩) L8.out (.slice ao5 F.2.length c5))
  clear hb5 ho5 H6b H8b HBb Hob H6a H8a
  go_wp2_with fail
  clear s0 s1 f0 f1 t0 t1
  generalize (w5.setCell ⟨b8, 0, none⟩ (.int .i64 dF)).setCell ⟨b8, 1, none⟩ (.slice ao5 F.2.length c5) = W5 at *
  refine (law_same03 dF F.1 _ _ F.2 W5 Hod Hoc).mono ?_
  rintro e w6 ⟨rfl, hb6⟩
  have H6d := hp_keep H6c hb6
  have H8d := hp_keep H8c hb6
  have HBd := Lib.hid (bt HBc.out hb6)
  clear H6c H8c HBc Hoc Hod hb6
  go_wp2_with fail
  refine (HX.out w6).mono ?_
  rintro e w7 ⟨⟨v7, rfl, ho7⟩, hb7⟩
  rw [← HdG.out]
  obtain ⟨ao7, c7, rfl⟩ := owns_form ho7
  have H6a := hp_keep H6d hb7
  have H8a := hp_keep H8d hb7
  have s0 := cell_of_row w7 b6 0 _ _ _ H6a
  have s1 := cell_of_row w7 b6 1 _ _ _ H6a
  have f0 := frozen_of_row w7 b6 0 _ _ H6a
  have f1 := frozen_of_row w7 b6 1 _ _ H6a
  have H6b := store2_at (.int .i64 dG) (.slice ao7 G.2.length c7) H6a
  have H8b := (store2_ne (b := b6) (.int .i64 dG) (.slice ao7 G.2.length c7) N86).trans H8a
  have hlt6 := hp_lt H6d
  have hlt8 := hp_lt H8d
  have Hob := own_set2 ho7 hlt6 (.int .i64 dG) (.slice ao7 G.2.length c7)
  have HBb := Lib.hid (((bt HBd.out hb7).setCell (p := ⟨b6, 0, none⟩) L6.out (.int .i64 dG)).setCell (p := ⟨b6, 1, none⟩) L6.out (.slice ao7 G.2.length c7))
  clear hb7 ho7 H6d H8d HBd
  go_wp2_with fail
  clear s0 s1 f0 f1 H6a H8a
  generalize (w7.setCell ⟨b6, 0, none⟩ (.int .i64 dG)).setCell ⟨b6, 1, none⟩ (.slice ao7 G.2.length c7) = W7 at *
  refine (HW.out W7).mono ?_
  rintro e w8 ⟨⟨v8, rfl, ho8⟩, hb8⟩
  rw [← HdG.out]
  obtain ⟨ao8, c8, rfl⟩ := owns_form ho8
  have H6a := hp_keep H6b hb8
  have H8a := hp_keep H8b hb8
  have s0 := cell_of_row w8 b8 0 _ _ _ H8a
  have s1 := cell_of_row w8 b8 1 _ _ _ H8a
  have f0 := frozen_of_row w8 b8 0 _ _ H8a
  have f1 := frozen_of_row w8 b8 1 _ _ H8a
  have t0 := cell_of_row w8 b6 0 _ _ _ H6a
  have t1 := cell_of_row w8 b6 1 _ _ _ H6a
  have H8c := store2_at (.int .i64 dG) (.slice ao8 G.2.length c8) H8a
  have H6c := (store2_ne (b := b8) (.int .i64 dG) (.slice ao8 G.2.length c8) N68').trans H6a
  have Hoc := OL.rl (own_set2 ho8 (hp_lt H8b) (.int .i64 dG) (.slice ao8 G.2.length c8))
  have Hod := OL.rl (own_set2 (OL.keepw Hob hb8) hlt8 (.int .i64 dG) (.slice ao8 G.2.length c8))
  have HBc := Lib.hid (((bt HBb.out hb8).setCell (p := ⟨b8, 0, none⟩) L8.out (.int .i64 dG)).setCell (p := ⟨b8, 1, none⟩) L8.out (.slice ao8 G.2.length c8))
  clear hb8 ho8 H6b H8b HBb Hob H6a H8a
  go_wp2_with fail
  clear s0 s1 f0 f1 t0 t1
  generalize (w8.setCell ⟨b8, 0, none⟩ (.int .i64 dG)).setCell ⟨b8, 1, none⟩ (.slice ao8 G.2.length c8) = W8 at *
  refine (law_same03 dG G.1 _ _ G.2 W8 Hod Hoc).mono ?_
  rintro e w9 ⟨rfl, hb9⟩
  have H6d := hp_keep H6c hb9
  have H8d := hp_keep H8c hb9
  have HBd := Lib.hid (bt HBc.out hb9)
  clear H6c H8c HBc Hoc Hod hb9
  go_wp2_with fail
  refine (law_shown03 _).mono ?_
  rintro e w10 ⟨rfl, hb10⟩
  go_wp2_with fail
  go_ret
  exact ⟨rfl, bt HBd.out hb10⟩
end Go.Proofs.Ytkgaipcgdldfdaa
