/- The laws' shown answers true. -/
import Derived.Test.YtmjpcakikflcfaaWid7
namespace Go.Proofs.Ytmjpcakikflcfaa
open Go.RowKit

/-- Is it a valid zone, by reckoning? -/
def okB (N : Nat) (xs : List Int) : Bool :=
  decide (N ≤ 10) && decide (xs.length = (N + 1) * (N + 1)) && xs.all vld &&
  ((List.range (N + 1)).all fun i => decide (gi xs (i * (N + 1) + i) = 1) && decide (gi xs i ≤ 1) &&
    (List.range (N + 1)).all fun k => (List.range (N + 1)).all fun j => decide (gi xs (i * (N + 1) + j) ≤ lsum (gi xs (i * (N + 1) + k)) (gi xs (k * (N + 1) + j))))
theorem OkZ.ofB {N : Nat} {xs : List Int} (h : okB N xs = true) : OkZ N xs := by
  unfold okB at h
  simp only [Bool.and_eq_true, List.all_eq_true, List.mem_range, decide_eq_true_eq] at h
  obtain ⟨⟨⟨h1, h2⟩, h3⟩, h4⟩ := h
  exact OkZ.of_prog h1 h2 (List.all_eq_true.2 h3) fun i hi => ⟨(h4 i hi).1.1, (h4 i hi).1.2, fun k j hk hj => (h4 i hi).2 k (by omega) j (by omega)⟩

def z35 : List Int := [1, -5, 11, 1]
def z3 : List Int := [1, -5, 1099511627776, 1]
def z2 : List Int := [1, -4, 1099511627776, 1]
def z25 : List Int := [1, -4, 11, 1]
theorem cl35 : closeF 1 (partM (-5) 11) = (0, z35) := by decide +kernel
theorem cl3 : closeF 1 (partM (-5) 1099511627776) = (0, z3) := by decide +kernel
theorem cl2 : closeF 1 (partM (-4) 1099511627776) = (0, z2) := by decide +kernel
theorem cl25 : closeF 1 (partM (-4) 11) = (0, z25) := by decide +kernel
theorem ok35 : OkZ 1 z35 := OkZ.ofB (N := 1) (by decide +kernel)
theorem wb3 : widB 1 z35 [4] [4] = (0, z3) := by
  rw [widB_yes ⟨ok35, by decide +kernel, by decide +kernel⟩]; decide +kernel
theorem wb2 : widB 1 z35 [2] [2] = (0, z2) := by
  rw [widB_yes ⟨ok35, by decide +kernel, by decide +kernel⟩]; decide +kernel
theorem wb25 : widB 1 z35 [9] [2] = (0, z25) := by
  rw [widB_yes ⟨ok35, by decide +kernel, by decide +kernel⟩]; decide +kernel
theorem wbn : widB 1 z35 [] [] = (2, []) := widB_no (fun h => by have := h.2.1; revert this; decide +kernel)

/-- What part returns at given numbers. -/
def PartC (w : World) (M : List Int) (e : Ending) (w' : World) : Prop := (∃ v', e = .returned (.agg #[.int .i64 1, v']) ∧ OL 49 w.heap.size w' v' M) ∧ Below w.heap.size w w'
theorem PartPost.c {w w' : World} {low high : Int} {M : List Int} {e : Ending} (h : PartPost w.heap.size w low high e w') (hM : closeF 1 (partM low high) = (0, M)) : PartC w M e w' := by
  obtain ⟨⟨v', h1, h2⟩, h3⟩ := h
  rw [hM] at h1 h2
  exact ⟨⟨v', h1, h2⟩, h3⟩
theorem part35 (w : World) : Calls Try.prog 22 #[.int .i64 3, .int .i64 5, .bool false] w fun e w' => PartC w z35 e w' :=
  (law_part 3 5 false (-5) 11 w (by omega) (by omega) (by omega) (by omega) rfl rfl).mono fun _ _ h => h.c cl35
theorem part3 (w : World) : Calls Try.prog 22 #[.int .i64 3, .int .i64 (-1), .bool false] w fun e w' => PartC w z3 e w' :=
  (law_part 3 (-1) false (-5) 1099511627776 w (by omega) (by omega) (by omega) (by omega) rfl rfl).mono fun _ _ h => h.c cl3
theorem part2 (w : World) : Calls Try.prog 22 #[.int .i64 2, .int .i64 (-1), .bool true] w fun e w' => PartC w z2 e w' :=
  (law_part 2 (-1) true (-4) 1099511627776 w (by omega) (by omega) (by omega) (by omega) rfl rfl).mono fun _ _ h => h.c cl2
theorem part25 (w : World) : Calls Try.prog 22 #[.int .i64 2, .int .i64 5, .bool true] w fun e w' => PartC w z25 e w' :=
  (law_part 2 5 true (-4) 11 w (by omega) (by omega) (by omega) (by omega) rfl rfl).mono fun _ _ h => h.c cl25
/-- What Bounds and Greatest return there. -/
def ZC (w : World) (x : Int) (M : List Int) (e : Ending) (w' : World) : Prop := (∃ v', e = .returned (.tuple #[.agg #[.int .i64 (zdim (x, M) 1), v'], .int .i64 x]) ∧ OL 49 w.heap.size w' v' M) ∧ Below w.heap.size w w'
theorem gr_c (v kv : Value) (k M : List Int) (x : Int) (w : World) (hv : RL w.heap.size w v z35) (hk : RL w.heap.size w kv k) (hw : widB 1 z35 k k = (x, M)) :
    Calls Try.prog 11 #[.agg #[.int .i64 1, v], kv] w fun e w' => ZC w x M e w' :=
  (prog_greatest 1 v kv z35 k w hv hk).mono fun _ _ h => by
    obtain ⟨⟨v', h1, h2⟩, h3⟩ := h
    rw [hw] at h1 h2
    exact ⟨⟨v', h1, h2⟩, h3⟩
theorem bo_c (v lv kv : Value) (l k M : List Int) (x : Int) (w : World) (hv : RL w.heap.size w v z35) (hl : RL w.heap.size w lv l) (hk : RL w.heap.size w kv k) (hw : widB 1 z35 l k = (x, M)) :
    Calls Try.prog 9 #[.agg #[.int .i64 1, v], lv, kv] w fun e w' => ZC w x M e w' :=
  (prog_bounds 1 v lv kv z35 l k w hv hl hk).mono fun _ _ h => by
    obtain ⟨⟨v', h1, h2⟩, h3⟩ := h
    rw [hw] at h1 h2
    exact ⟨⟨v', h1, h2⟩, h3⟩

/-- What is known of the three boxes till the end. -/
structure Kp (B2 B3 B4 : Nat) (V2 V3 V4 : Value) (w : World) : Prop where
  a0 : w.cell? ⟨B2, 0, none⟩ = some (.int .i64 1)
  a1 : w.cell? ⟨B2, 1, none⟩ = some V2
  b0 : w.cell? ⟨B3, 0, none⟩ = some (.int .i64 1)
  b1 : w.cell? ⟨B3, 1, none⟩ = some V3
  c0 : w.cell? ⟨B4, 0, none⟩ = some (.int .i64 1)
  c1 : w.cell? ⟨B4, 1, none⟩ = some V4
  ra : RL w.heap.size w V2 z3
  rb : RL w.heap.size w V3 z2
  rc : RL w.heap.size w V4 z25
theorem Kp.keep {B2 B3 B4 : Nat} {V2 V3 V4 : Value} {w w' : World} (h : Kp B2 B3 B4 V2 V3 V4 w) (hb : Below w.heap.size w w') : Kp B2 B3 B4 V2 V3 V4 w' :=
  ⟨keepb h.a0 hb, keepb h.a1 hb, keepb h.b0 hb, keepb h.b1 hb, keepb h.c0 hb, keepb h.c1 hb, h.ra.keepb hb, h.rb.keepb hb, h.rc.keepb hb⟩
theorem Kp.cells {B2 B3 B4 : Nat} {V2 V3 V4 : Value} {w : World} (h : Kp B2 B3 B4 V2 V3 V4 w) : w.cell? ⟨B2, 0, none⟩ = some (.int .i64 1) ∧ w.cell? ⟨B2, 1, none⟩ = some V2 ∧ w.cell? ⟨B3, 0, none⟩ = some (.int .i64 1) ∧ w.cell? ⟨B3, 1, none⟩ = some V3 ∧ w.cell? ⟨B4, 0, none⟩ = some (.int .i64 1) ∧ w.cell? ⟨B4, 1, none⟩ = some V4 :=
  ⟨h.a0, h.a1, h.b0, h.b1, h.c0, h.c1⟩
theorem rl1 (w : World) (x : Int) (e : Nat) : RL (w.alloc (.cells #[.int .i64 x] e)).heap.size (w.alloc (.cells #[.int .i64 x] e)) (.slice (some ⟨w.heap.size, 0, none⟩) 1 1) [x] := rl_lit w [x] e (by simp)
theorem rl_nil (B : Nat) (w : World) : RL B w (.slice none 0 0) [] := .inl ⟨rfl, rfl, rfl⟩

set_option maxHeartbeats 4000000 in
theorem law_shown (w : World) : Calls Try.prog 8 #[] w fun e w' => e = .returned (.bool true) ∧ Below w.heap.size w w' := by
  go_enter Try.func8, Try.ntmps8
  go_wp2_with fail
  refine (part35 _).mono ?_
  rintro e w1 ⟨⟨v1, rfl, hown1⟩, hb1⟩
  obtain ⟨ao1, c1, rfl⟩ := owns_form hown1
  have Hv1 := Lib.hid (OL.rl hown1)
  have Hb1 := Lib.hid hb1
  clear hown1 hb1
  go_wp2_with fail
  have hl1 := Loc.two w1 (.cells #[.int .i64 1, .slice ao1 z35.length c1] 24) (.cells #[.int .i64 4] 2) none
  have e1 : (w1.alloc (.cells #[.int .i64 1, .slice ao1 z35.length c1] 24)).heap.size = w1.heap.size + 1 := by simp
  have k1 := rl1 (w1.alloc (.cells #[.int .i64 1, .slice ao1 z35.length c1] 24)) 4 2
  rw [e1] at k1
  refine (gr_c _ _ [4] z3 0 _ (Hv1.out.keepb (below_grownBy hl1.grown)) k1 wb3).mono ?_
  rintro e w2 ⟨⟨v2, rfl, hown2⟩, hb2⟩
  obtain ⟨ao2, c2, rfl⟩ := owns_form hown2
  have hl2 := hl1.next (grownBy_below hb2 none) (fun _ h => by cases h)
  have z20 : w2.cell? ⟨w1.heap.size, 0, none⟩ = some (.int .i64 1) := hl2.cell 0 rfl 0
  have z21 : w2.cell? ⟨w1.heap.size, 1, none⟩ = some (.slice ao1 z35.length c1) := hl2.cell 0 rfl 1
  have s2 : w1.heap.size < w2.heap.size := by have := hl2.size; simp at this; omega
  have Hv2 := Lib.hid (Hv1.out.keepb (below_grownBy hl2.grown))
  have Hb2 := Lib.hid (bt Hb1.out (below_grownBy hl2.grown))
  have Ha2 := Lib.hid (OL.rl hown2)
  clear hown2 hb2 hl1 hl2 k1 e1
  have hzd : zdim (0, z3) 1 = 1 := rfl
  go_wp2_with fail
  have hl2 := Loc.two w2 (.cells #[.int .i64 1, .slice ao2 z3.length c2] 24) (.cells #[.int .i64 2] 2) none
  have e1 : (w2.alloc (.cells #[.int .i64 1, .slice ao2 z3.length c2] 24)).heap.size = w2.heap.size + 1 := by simp
  have k1 := rl1 (w2.alloc (.cells #[.int .i64 1, .slice ao2 z3.length c2] 24)) 2 2
  rw [e1] at k1
  refine (gr_c _ _ [2] z2 0 _ (Hv2.out.keepb (below_grownBy hl2.grown)) k1 wb2).mono ?_
  rintro e w3 ⟨⟨v3, rfl, hown3⟩, hb3⟩
  obtain ⟨ao3, c3, rfl⟩ := owns_form hown3
  have hl3 := hl2.next (grownBy_below hb3 none) (fun _ h => by cases h)
  have hg3 := below_grownBy hl3.grown
  have z30 : w3.cell? ⟨w1.heap.size, 0, none⟩ = some (.int .i64 1) := keepb z20 hg3
  have z31 : w3.cell? ⟨w1.heap.size, 1, none⟩ = some (.slice ao1 z35.length c1) := keepb z21 hg3
  have a30 : w3.cell? ⟨w2.heap.size, 0, none⟩ = some (.int .i64 1) := hl3.cell 0 rfl 0
  have a31 : w3.cell? ⟨w2.heap.size, 1, none⟩ = some (.slice ao2 z3.length c2) := hl3.cell 0 rfl 1
  have s3 : w2.heap.size < w3.heap.size := by have := hl3.size; simp at this; omega
  have s3' : w1.heap.size < w3.heap.size := by omega
  have Hv3 := Lib.hid (Hv2.out.keepb hg3)
  have Ha3 := Lib.hid (Ha2.out.keepb hg3)
  have Hb3 := Lib.hid (bt Hb2.out hg3)
  have Hc3 := Lib.hid (OL.rl hown3)
  clear hown3 hb3 hl2 hl3 k1 e1 hg3 z20 z21 hzd
  have hzd : zdim (0, z2) 1 = 1 := rfl
  go_wp2_with fail
  have hl3 := (Loc.two w3 (.cells #[.int .i64 1, .slice ao3 z2.length c3] 24) (.cells #[.int .i64 9] 2) none).snoc (by simp) (.cells #[.int .i64 2] 2)
  have e1 : (w3.alloc (.cells #[.int .i64 1, .slice ao3 z2.length c3] 24)).heap.size = w3.heap.size + 1 := by simp
  have e2 : ((w3.alloc (.cells #[.int .i64 1, .slice ao3 z2.length c3] 24)).alloc (.cells #[.int .i64 9] 2)).heap.size = w3.heap.size + 1 + 1 := by simp
  have k1 := (rl1 (w3.alloc (.cells #[.int .i64 1, .slice ao3 z2.length c3] 24)) 9 2).keepb ((Below.refl _ _).alloc (Nat.le_refl _) (.cells #[.int .i64 2] 2))
  have k2 := rl1 ((w3.alloc (.cells #[.int .i64 1, .slice ao3 z2.length c3] 24)).alloc (.cells #[.int .i64 9] 2)) 2 2
  rw [e1] at k1
  rw [e2] at k2
  refine (bo_c _ _ _ [9] [2] z25 0 _ (Hv3.out.keepb (below_grownBy hl3.grown)) k1 k2 wb25).mono ?_
  rintro e w4 ⟨⟨v4, rfl, hown4⟩, hb4⟩
  obtain ⟨ao4, c4, rfl⟩ := owns_form hown4
  have hl4 := hl3.next (grownBy_below hb4 none) (fun _ h => by cases h)
  have hg4 := below_grownBy hl4.grown
  have z40 : w4.cell? ⟨w1.heap.size, 0, none⟩ = some (.int .i64 1) := keepb z30 hg4
  have z41 : w4.cell? ⟨w1.heap.size, 1, none⟩ = some (.slice ao1 z35.length c1) := keepb z31 hg4
  have a40 := keepb a30 hg4
  have a41 := keepb a31 hg4
  have b40 : w4.cell? ⟨w3.heap.size, 0, none⟩ = some (.int .i64 1) := hl4.cell 0 rfl 0
  have b41 : w4.cell? ⟨w3.heap.size, 1, none⟩ = some (.slice ao3 z2.length c3) := hl4.cell 0 rfl 1
  have s4 : w3.heap.size < w4.heap.size := by have := hl4.size; simp at this; omega
  have s4' : w1.heap.size < w4.heap.size := by omega
  have Hv4 := Lib.hid (Hv3.out.keepb hg4)
  have Ha4 := Lib.hid (Ha3.out.keepb hg4)
  have Hc4 := Lib.hid (Hc3.out.keepb hg4)
  have Hb4 := Lib.hid (bt Hb3.out hg4)
  have Hd4 := Lib.hid (OL.rl hown4)
  clear hown4 hb4 hl3 hl4 k1 k2 e1 e2 hg4 z30 z31 a30 a31 hzd
  have hzd : zdim (0, z25) 1 = 1 := rfl
  go_wp2_with fail
  have hl4 := Loc.one w4 (.cells #[.int .i64 1, .slice ao4 z25.length c4] 24) none
  refine (gr_c _ _ [] [] 2 _ (Hv4.out.keepb (below_grownBy hl4.grown)) (rl_nil _ _) wbn).mono ?_
  rintro e w5 ⟨⟨v5, rfl, hown5⟩, hb5⟩
  obtain ⟨ao5, c5, rfl⟩ := owns_form hown5
  have hl5 := hl4.next (grownBy_below hb5 none) (fun _ h => by cases h)
  have hg5 := below_grownBy hl5.grown
  have K5 : Kp w2.heap.size w3.heap.size w4.heap.size (.slice ao2 z3.length c2) (.slice ao3 z2.length c3) (.slice ao4 z25.length c4) w5 :=
    ⟨keepb a40 hg5, keepb a41 hg5, keepb b40 hg5, keepb b41 hg5, hl5.cell 0 rfl 0, hl5.cell 0 rfl 1, Ha4.out.keepb hg5, Hc4.out.keepb hg5, Hd4.out.keepb hg5⟩
  have Hb5 := Lib.hid (bt Hb4.out hg5)
  have B5 : Below w5.heap.size w5 (w5.alloc (.cells #[.int .i64 0, .slice ao5 0 c5] 24)).drew := ((Below.refl _ _).alloc (Nat.le_refl _) _).drew
  have K6 := K5.keep B5
  have K5h := Lib.hid K5
  clear hown5 hb5 hl4 hl5 hg5 z40 z41 a40 a41 b40 b41 hzd K5
  have hzd : zdim (2, []) 1 = 0 := rfl
  go_wp2_with fail
  go_region_held3 (fun w' => w'.cell? ⟨w2.heap.size, 0, none⟩ = some (.int .i64 1) ∧ w'.cell? ⟨w2.heap.size, 1, none⟩ = some (.slice ao2 z3.length c2) ∧ w'.cell? ⟨w3.heap.size, 0, none⟩ = some (.int .i64 1) ∧ w'.cell? ⟨w3.heap.size, 1, none⟩ = some (.slice ao3 z2.length c3) ∧ w'.cell? ⟨w4.heap.size, 0, none⟩ = some (.int .i64 1) ∧ w'.cell? ⟨w4.heap.size, 1, none⟩ = some (.slice ao4 z25.length c4))
    (first | exact Kp.cells (by assumption))
    (first
      | (go_at_call 22; (with_reducible refine (part3 _).mono ?_); rintro e w6 ⟨⟨v6, rfl, hown6⟩, hb6⟩; obtain ⟨ao6, c6, rfl⟩ := owns_form hown6; have r6 := OL.rl hown6; have k6 := Kp.keep (by assumption) hb6; have b6 := bt (a := w5) (by assumption) hb6; clear hown6 hb6)
      | (go_at_call 22; (with_reducible refine (part25 _).mono ?_); rintro e w6 ⟨⟨v6, rfl, hown6⟩, hb6⟩; obtain ⟨ao6, c6, rfl⟩ := owns_form hown6; have r6 := OL.rl hown6; have k6 := Kp.keep (by assumption) hb6; have b6 := bt (a := w5) (by assumption) hb6; clear hown6 hb6)
      | (go_at_call 22; (with_reducible refine (part2 _).mono ?_); rintro e w6 ⟨⟨v6, rfl, hown6⟩, hb6⟩; obtain ⟨ao6, c6, rfl⟩ := owns_form hown6; have r6 := OL.rl hown6; have k6 := Kp.keep (by assumption) hb6; have b6 := bt (a := w5) (by assumption) hb6; clear hown6 hb6)
      | (go_at_call 13; (with_reducible refine (ref_same 1 1 _ _ z3 z3 _ (Kp.ra (by assumption)) (by assumption)).mono ?_); rw [sameB_refl]; rintro e w7 ⟨rfl, hb7⟩; have k7 := Kp.keep (by assumption) hb7; have b7 := bt (a := w5) (by assumption) hb7; clear hb7)
      | (go_at_call 13; (with_reducible refine (ref_same 1 1 _ _ z2 z2 _ (Kp.rb (by assumption)) (by assumption)).mono ?_); rw [sameB_refl]; rintro e w7 ⟨rfl, hb7⟩; have k7 := Kp.keep (by assumption) hb7; have b7 := bt (a := w5) (by assumption) hb7; clear hb7)
      | (go_at_call 13; (with_reducible refine (ref_same 1 1 _ _ z25 z25 _ (Kp.rc (by assumption)) (by assumption)).mono ?_); rw [sameB_refl]; rintro e w7 ⟨rfl, hb7⟩; have k7 := Kp.keep (by assumption) hb7; have b7 := bt (a := w5) (by assumption) hb7; clear hb7))
  go_wp2_with fail
  go_ret
  exact ⟨rfl, bt Hb5.out (by assumption)⟩
end Go.Proofs.Ytmjpcakikflcfaa
