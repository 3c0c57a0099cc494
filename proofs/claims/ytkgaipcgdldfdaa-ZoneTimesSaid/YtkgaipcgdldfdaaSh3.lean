/- The numbers of law 3's shown. The law's shown of layer 3 answers true. -/
import Derived.Test.YtkgaipcgdldfdaaOkb
import Derived.Test.YtkgaipcgdldfdaaSta
import Derived.Test.YtkgaipcgdldfdaaLit
import Derived.Test.YtkgaipcgdldfdaaBox
import Derived.Test.YtkgaipcgdldfdaaK3
namespace Go.Proofs.Ytkgaipcgdldfdaa
open Go.RowKit
set_option linter.unusedVariables false

def sz0 : List Int := [1, 1, 1, 1, 1, 1, 1, 1, 1]
def su0 : List Int := [1, 1, 1, 1099511627776, 1, 1, 1099511627776, 1, 1]
def sa0 : List Int := [1, -3, -3, 1099511627776, 1, 1, 1099511627776, 1, 1]
def sr0 : List Int := [1, -3, 1, 1099511627776, 1, 1099511627776, 1, -3, 1]
def sd0 : List Int := [1, -5, 11, 1]
theorem s3_zero : fillF 2 1 = (0, sz0) := by decide +kernel
theorem s3_okz : OkZ (2 : Nat) sz0 := OkZ.ofB (N := 2) (by decide +kernel)
theorem s3_oku : OkZ (2 : Nat) su0 := OkZ.ofB (N := 2) (by decide +kernel)
theorem s3_oka : OkZ (2 : Nat) sa0 := OkZ.ofB (N := 2) (by decide +kernel)
theorem s3_okr : OkZ (2 : Nat) sr0 := OkZ.ofB (N := 2) (by decide +kernel)
theorem s3_okd : OkZ (1 : Nat) sd0 := OkZ.ofB (N := 1) (by decide +kernel)
theorem s3_up : upF 2 sz0 = (0, su0) := by
  unfold upF
  rw [show ((2 : Int)) = ((2 : Nat) : Int) from rfl, chgF_yes s3_okz rfl]
  decide +kernel
theorem s3_and : andF 2 su0 [(0, 1, -3)] = (0, sa0) := by
  rw [show ((2 : Int)) = ((2 : Nat) : Int) from rfl, andF_yes s3_oku (by unfold AllK; decide +kernel)]
  decide +kernel
theorem s3_and2 : andF 2 sa0 [(2, 0, 4)] = (4, []) := by
  rw [show ((2 : Int)) = ((2 : Nat) : Int) from rfl, andF_yes s3_oka (by unfold AllK; decide +kernel)]
  decide +kernel
theorem s3_reset : resetF 2 sa0 2 0 = (0, sr0) := by
  unfold resetF
  rw [show (clkB 2 2 && conB 0) = true by decide]
  rw [show chgF 2 sa0 = chgF ((2 : Nat) : Int) sa0 from rfl, chgF_yes s3_oka rfl]
  decide +kernel
theorem spanTo_i64 (N : Nat) (xs : List Int) (Q : List (Int × Int)) (i j : Nat) : I64 (spanTo N xs Q i j).ln ∧ I64 (spanTo N xs Q i j).hn := by
  induction j with
  | zero => unfold spanTo sp0 I64; simp
  | succ j ih => exact cutF_i64 _ _ _ _ (cutF_i64 _ _ _ _ ih)
instance (n : Int) : Decidable (I64 n) := by unfold I64; exact inferInstance
theorem s3_pt : Pt 2 sr0 [(0, 1), (2, 1), (0, 1)] where
  len := rfl
  first := rfl
  num := by
    intro j hj
    have h : j = 0 ∨ j = 1 ∨ j = 2 := by omega
    rcases h with rfl | rfl | rfl <;> decide +kernel
  s1 := fun i j _ _ => spanTo_i64 _ _ _ _ _
  s2 := fun i j _ _ => cutF_i64 _ _ _ _ (spanTo_i64 _ _ _ _ _)
  ok := by
    intro i h1 h2
    have h : i = 1 ∨ i = 2 := by omega
    rcases h with rfl | rfl <;> decide +kernel
theorem s3_pok : PtOk 1 [(1, 2)] where
  len := rfl
  bd := by
    intro j hj
    have h : j = 0 ∨ j = 1 := by omega
    rcases h with rfl | rfl <;> decide +kernel
  val := by
    intro j hj
    have h : j = 0 ∨ j = 1 := by omega
    rcases h with rfl | rfl <;> decide +kernel
  sub := by
    intro i j h1 h2
    obtain rfl : i = 1 := by omega
    obtain rfl : j = 0 := by omega
    decide +kernel
theorem s3_su : SuTo 1 sd0 [(0, 1), (1, 2)] 1 (1 + 1) := by
  intro i h1 h2 j h3 h4
  obtain rfl : i = 1 := by omega
  obtain rfl : j = 1 := by omega
  decide +kernel
theorem s3_st : stayTo 1 sd0 [(0, 1), (1, 2)] 1 = ⟨5, 2, 9, 2, false, false, false, false⟩ := by decide +kernel
theorem s3_sp : SpOk (stayTo 1 sd0 [(0, 1), (1, 2)] 1) := by rw [s3_st]; unfold SpOk; decide +kernel
end Go.Proofs.Ytkgaipcgdldfdaa
namespace Go.Proofs.Ytkgaipcgdldfdaa
open Go.RowKit
set_option linter.unusedVariables false

theorem c3_zero (w : World) : Calls Try.prog 28 #[.int .i64 2] w fun e w' => (∃ v', e = .returned (.tuple #[.agg #[.int .i64 2, v'], .int .i64 0]) ∧ OL 60 w.heap.size w' v' sz0) ∧ Below w.heap.size w w' :=
  (prog_zero 2 w).mono fun e w' h => by rw [s3_zero] at h; exact h
theorem c3_up (v : Value) (w : World) (hv : RL w.heap.size w v sz0) : Calls Try.prog 42 #[.agg #[.int .i64 2, v]] w fun e w' => (∃ v', e = .returned (.tuple #[.agg #[.int .i64 2, v'], .int .i64 0]) ∧ OL 60 w.heap.size w' v' su0) ∧ Below w.heap.size w w' :=
  (prog_up 2 v sz0 w hv).mono fun e w' h => by rw [s3_up] at h; exact h
theorem c3_and (v k : Value) (w : World) (hv : RL w.heap.size w v su0) (hk : RK w.heap.size w k [(0, 1, -3)]) : Calls Try.prog 39 #[.agg #[.int .i64 2, v], k] w fun e w' => (∃ v', e = .returned (.tuple #[.agg #[.int .i64 2, v'], .int .i64 0]) ∧ OL 60 w.heap.size w' v' sa0) ∧ Below w.heap.size w w' :=
  (prog_and 2 v k su0 _ w hv hk).mono fun e w' h => by rw [s3_and] at h; exact h
theorem c3_and2 (v k : Value) (w : World) (hv : RL w.heap.size w v sa0) (hk : RK w.heap.size w k [(2, 0, 4)]) : Calls Try.prog 39 #[.agg #[.int .i64 2, v], k] w fun e w' => (∃ v', e = .returned (.tuple #[.agg #[.int .i64 0, v'], .int .i64 4]) ∧ OL 60 w.heap.size w' v' []) ∧ Below w.heap.size w w' :=
  (prog_and 2 v k sa0 _ w hv hk).mono fun e w' h => by rw [s3_and2] at h; exact h
theorem c3_reset (v : Value) (w : World) (hv : RL w.heap.size w v sa0) : Calls Try.prog 46 #[.agg #[.int .i64 2, v], .int .i64 2, .int .i64 0] w fun e w' => (∃ v', e = .returned (.tuple #[.agg #[.int .i64 2, v'], .int .i64 0]) ∧ OL 60 w.heap.size w' v' sr0) ∧ Below w.heap.size w w' :=
  (prog_reset_in 2 2 0 v sa0 w hv (by decide)).mono fun e w' h => by rw [s3_reset] at h; exact h
theorem c3_point (v : Value) (w : World) (hv : RL w.heap.size w v sr0) : Calls Try.prog 36 #[.agg #[.int .i64 2, v]] w fun e w' => (∃ v', e = .returned (.tuple #[v', .int .i64 0]) ∧ RQ w'.heap.size w' v' [(2, 1), (0, 1)]) ∧ Below w.heap.size w w' :=
  prog_point 2 v sr0 _ w hv s3_okr s3_pt (by omega)
theorem c3_stay (v k : Value) (w : World) (hv : RL w.heap.size w v sd0) (hk : RQ w.heap.size w k [(1, 2)]) : Calls Try.prog 34 #[.agg #[.int .i64 1, v], k] w fun e w' => e = .returned (.tuple #[.agg #[.int .i64 5, .int .i64 2, .int .i64 9, .int .i64 2, .bool false, .bool false, .bool false], .int .i64 0]) ∧ Below w.heap.size w w' :=
  (prog_stay 1 v k sd0 _ w hv hk s3_okd s3_pok s3_su s3_sp).mono fun e w' h => by rw [s3_st] at h; exact h
theorem rk_lit33 (w : World) (arr : Array Value) (e : Nat) (cs : List (Int × Int × Int)) (m : Nat) (h : arr.toList = cs.flatMap cells3) (hm : m = cs.length) (hl : cs.length ≤ 1000) :
    RK (w.alloc (.cells arr e)).heap.size (w.alloc (.cells arr e)) (.slice (some ⟨w.heap.size, 0, none⟩) m m) cs := by
  have := rs_lit3 (w := w) (arr := arr) (e := e) (cs := cs) (m := m) h hm hl
  rw [show (w.alloc (.cells arr e)).heap.size = w.heap.size + 1 by simp]
  exact this
theorem rl_lit33 (w : World) (arr : Array Value) (e : Nat) (xs : List Int) (m : Nat) (h : arr.toList = xs.map (Value.int .i64)) (hm : m = xs.length) (hl : xs.length ≤ 1000) :
    RL (w.alloc (.cells arr e)).heap.size (w.alloc (.cells arr e)) (.slice (some ⟨w.heap.size, 0, none⟩) m m) xs := by
  have := rl_lit (w := w) (arr := arr) (e := e) (xs := xs) (m := m) h hm hl
  rw [show (w.alloc (.cells arr e)).heap.size = w.heap.size + 1 by simp]
  exact this
theorem rq_lit33 (w : World) (arr : Array Value) (e : Nat) (cs : List (Int × Int)) (m : Nat) (h : arr.toList = cs.flatMap cells2) (hm : m = cs.length) (hl : cs.length ≤ 1000) :
    RQ (w.alloc (.cells arr e)).heap.size (w.alloc (.cells arr e)) (.slice (some ⟨w.heap.size, 0, none⟩) m m) cs := by
  rw [show (w.alloc (.cells arr e)).heap.size = w.heap.size + 1 by simp]
  subst hm
  refine .inr ⟨_, 0, none, _, rfl, Nat.le_refl _, by unfold maxLen; omega, fun h => by rw [List.eq_nil_of_length_eq_zero h]; rfl, fun _ => ⟨rfl, by simp, fun k hk => ?_⟩⟩
  rw [Nat.zero_add]
  refine (cell_of_row (w.alloc (.cells arr e)) _ k arr e (0, 0) (heap_alloc_new w _)).trans ?_
  rw [← h, Array.getElem?_toList]
theorem b1_alloc (w : World) (o : Obj) : Below w.heap.size w (w.alloc o) := (Below.refl _ _).alloc (Nat.le_refl _) _

theorem c3_limA (w : World) : Calls Try.prog 68 #[.slice (some ⟨w.heap.size, 0, none⟩) 9 9] (w.alloc (.cells #[.int .i64 1, .int .i64 (-3), .int .i64 (-3), .int .i64 1099511627776, .int .i64 1, .int .i64 1, .int .i64 1099511627776, .int .i64 1, .int .i64 1] 2)).drew fun e w' => ∃ v', e = .returned v' ∧ OL 60 w.heap.size w' v' sa0 ∧ Below w.heap.size w w' :=
  (prog_limits _ sa0 (w.alloc (.cells #[.int .i64 1, .int .i64 (-3), .int .i64 (-3), .int .i64 1099511627776, .int .i64 1, .int .i64 1, .int .i64 1099511627776, .int .i64 1, .int .i64 1] 2)).drew (RL.drew (rl_lit33 w #[.int .i64 1, .int .i64 (-3), .int .i64 (-3), .int .i64 1099511627776, .int .i64 1, .int .i64 1, .int .i64 1099511627776, .int .i64 1, .int .i64 1] 2 sa0 9 rfl rfl (by decide))) (by decide)).mono fun e w' ⟨v', h1, h2, h3⟩ => ⟨v', h1, OL.mono h2 (by simp), bt (Below.drew (b1_alloc w _)) h3⟩
theorem c3_limR (w : World) : Calls Try.prog 68 #[.slice (some ⟨w.heap.size, 0, none⟩) 9 9] (w.alloc (.cells #[.int .i64 1, .int .i64 (-3), .int .i64 1, .int .i64 1099511627776, .int .i64 1, .int .i64 1099511627776, .int .i64 1, .int .i64 (-3), .int .i64 1] 2)) fun e w' => ∃ v', e = .returned v' ∧ OL 60 w.heap.size w' v' sr0 ∧ Below w.heap.size w w' :=
  (prog_limits _ sr0 (w.alloc (.cells #[.int .i64 1, .int .i64 (-3), .int .i64 1, .int .i64 1099511627776, .int .i64 1, .int .i64 1099511627776, .int .i64 1, .int .i64 (-3), .int .i64 1] 2)) (rl_lit33 w #[.int .i64 1, .int .i64 (-3), .int .i64 1, .int .i64 1099511627776, .int .i64 1, .int .i64 1099511627776, .int .i64 1, .int .i64 (-3), .int .i64 1] 2 sr0 9 rfl rfl (by decide)) (by decide)).mono fun e w' ⟨v', h1, h2, h3⟩ => ⟨v', h1, OL.mono h2 (by simp), bt (b1_alloc w _) h3⟩
theorem c3_sameA (v v2 : Value) (w : World) (h : RL w.heap.size w v sa0) (h2 : RL w.heap.size w v2 sa0) : Calls Try.prog 55 #[.agg #[.int .i64 2, v], .agg #[.int .i64 2, v2]] w fun e w' => e = .returned (.bool true) ∧ Below w.heap.size w w' :=
  (prog_same 2 2 v v2 sa0 sa0 w h h2).mono fun e w' h => by rw [sameB_refl] at h; exact h
theorem c3_sameR (v v2 : Value) (w : World) (h : RL w.heap.size w v sr0) (h2 : RL w.heap.size w v2 sr0) : Calls Try.prog 55 #[.agg #[.int .i64 2, v], .agg #[.int .i64 2, v2]] w fun e w' => e = .returned (.bool true) ∧ Below w.heap.size w w' :=
  (prog_same 2 2 v v2 sr0 sr0 w h h2).mono fun e w' h => by rw [sameB_refl] at h; exact h
theorem c3_ratios (v : Value) (w : World) (h : RQ w.heap.size w v [(2, 1), (0, 1)]) : Calls Try.prog 38 #[v, .slice (some ⟨w.heap.size, 0, none⟩) 2 2] (w.alloc (.cells #[.int .i64 2, .int .i64 1, .int .i64 0, .int .i64 1] 48)) fun e w' => e = .returned (.bool true) ∧ Below w.heap.size w w' :=
  (kit_same_ratios v _ [(2, 1), (0, 1)] (w.alloc (.cells #[.int .i64 2, .int .i64 1, .int .i64 0, .int .i64 1] 48)) (h.keepb (b1_alloc w _)) (rq_lit33 w #[.int .i64 2, .int .i64 1, .int .i64 0, .int .i64 1] 48 [(2, 1), (0, 1)] 2 rfl rfl (by decide))).mono fun e w' h => ⟨h.1, bt (b1_alloc w _) h.2⟩

set_option maxRecDepth 100000 in
set_option maxHeartbeats 8000000 in
theorem law_shown03 (w : World) : Calls Try.prog 20 #[] w fun e w' => e = .returned (.bool true) ∧ Below w.heap.size w w' := by
  go_enter Try.func20, Try.ntmps20
  go_wp2_with fail
  refine (c3_zero _).mono ?_
  rintro e w1 ⟨⟨v1, rfl, ho1⟩, hb1⟩
  obtain ⟨ao1, c1, rfl⟩ := owns_form ho1
  have hr1 := (OL.rl ho1).keepb (b1_alloc w1 (.cells #[.int .i64 2, .slice ao1 sz0.length c1] 24))
  have Hb := Lib.hid (bal hb1 (.cells #[.int .i64 2, .slice ao1 sz0.length c1] 24))
  clear ho1 hb1
  go_wp2_with fail
  generalize w1.alloc (.cells #[.int .i64 2, .slice ao1 sz0.length c1] 24) = W1 at *
  refine (c3_up _ _ hr1).mono ?_
  clear hr1
  rintro e w2 ⟨⟨v2, rfl, ho2⟩, hb2⟩
  obtain ⟨ao2, c2, rfl⟩ := owns_form ho2
  have hr2 := (OL.rl ho2).keepb (b1_alloc w2 (.cells #[.int .i64 2, .slice ao2 su0.length c2] 24))
  have Hb2 := Lib.hid (bt Hb.out (bal hb2 (.cells #[.int .i64 2, .slice ao2 su0.length c2] 24)))
  clear ho2 hb2 Hb
  go_wp2_with fail
  generalize hW2 : w2.alloc (.cells #[.int .i64 2, .slice ao2 su0.length c2] 24) = W2 at *
  have e2 : W2.heap.size = w2.heap.size + 1 := by rw [← hW2]; simp
  rw [← e2]
  have k2 := rk_lit33 W2 #[.int .i64 0, .int .i64 1, .int .i64 (-3)] 62 [(0, 1, -3)] 1 rfl rfl (by simp)
  have hr3 := hr2.keepb (b1_alloc W2 (.cells #[.int .i64 0, .int .i64 1, .int .i64 (-3)] 62))
  have Hb3 := Lib.hid (bt Hb2.out (b1_alloc W2 (.cells #[.int .i64 0, .int .i64 1, .int .i64 (-3)] 62)))
  clear hr2 Hb2 hW2 e2
  generalize W2.alloc (.cells #[.int .i64 0, .int .i64 1, .int .i64 (-3)] 62) = W3 at *
  refine (c3_and _ _ W3 hr3 k2).mono ?_
  clear hr3 k2
  rintro e w4 ⟨⟨v4, rfl, ho4⟩, hb4⟩
  obtain ⟨ao4, c4, rfl⟩ := owns_form ho4
  have Ha4 := Lib.hid (BoxZ.atAlloc (n := 2) (OL.rl ho4) 24)
  have hr4 := (OL.rl ho4).keepb (b1_alloc w4 (.cells #[.int .i64 2, .slice ao4 sa0.length c4] 24))
  have Hb4 := Lib.hid (bt Hb3.out (bal hb4 (.cells #[.int .i64 2, .slice ao4 sa0.length c4] 24)))
  clear ho4 hb4 Hb3
  go_wp2_with fail
  generalize w4.alloc (.cells #[.int .i64 2, .slice ao4 sa0.length c4] 24) = W4 at *
  generalize w4.heap.size = ga at *
  refine (c3_reset _ W4 hr4).mono ?_
  clear hr4
  rintro e w5 ⟨⟨v5, rfl, ho5⟩, hb5⟩
  obtain ⟨ao5, c5, rfl⟩ := owns_form ho5
  have Hr5 := Lib.hid (BoxZ.atAlloc (n := 2) (OL.rl ho5) 24)
  have hr5 := (OL.rl ho5).keepb (b1_alloc w5 (.cells #[.int .i64 2, .slice ao5 sr0.length c5] 24))
  have b5 := bal hb5 (.cells #[.int .i64 2, .slice ao5 sr0.length c5] 24)
  have Ha5 := Lib.hid (Ha4.out.keep b5)
  have Hb5 := Lib.hid (bt Hb4.out b5)
  clear ho5 hb5 b5 Hb4 Ha4
  go_wp2_with fail
  generalize w5.alloc (.cells #[.int .i64 2, .slice ao5 sr0.length c5] 24) = W5 at *
  generalize w5.heap.size = gr at *
  refine (c3_point _ W5 hr5).mono ?_
  clear hr5
  rintro e w6 ⟨⟨v6, rfl, hq6⟩, hb6⟩
  obtain ⟨ao6, c6, rfl, _, _⟩ := hq6.open
  have Hr6 := Lib.hid (Hr5.out.keep hb6)
  have Ha6 := Lib.hid (Ha5.out.keep hb6)
  have Hb6 := Lib.hid (bt Hb5.out hb6)
  have Hq6 := Lib.hid hq6
  clear Hr5 Ha5 Hb5 hb6 hq6
  obtain ⟨aoa, ca, a0, a1, ra⟩ := Ha6.out.ex
  have hra := ra.keepb (b1_alloc w6 (.cells #[.int .i64 2, .int .i64 0, .int .i64 4] 62))
  clear ra
  go_wp2_with fail
  have k6 := rk_lit33 w6 #[.int .i64 2, .int .i64 0, .int .i64 4] 62 [(2, 0, 4)] 1 rfl rfl (by simp)
  have b6 := b1_alloc w6 (.cells #[.int .i64 2, .int .i64 0, .int .i64 4] 62)
  have Hr7 := Lib.hid (Hr6.out.keep b6)
  have Ha7 := Lib.hid (Ha6.out.keep b6)
  have Hb7 := Lib.hid (bt Hb6.out b6)
  have Hq7 := Lib.hid (Hq6.out.keepb b6)
  clear Hr6 Ha6 Hb6 Hq6 b6 a0 a1
  generalize w6.alloc (.cells #[.int .i64 2, .int .i64 0, .int .i64 4] 62) = W7 at *
  refine (c3_and2 _ _ W7 hra k6).mono ?_
  clear hra k6
  rintro e w8 ⟨⟨v8, rfl, ho8⟩, hb8⟩
  obtain ⟨ao8, c8, rfl⟩ := owns_form ho8
  have b8 := bal hb8 (.cells #[.int .i64 0, .slice ao8 0 c8] 24)
  have Hr8 := Lib.hid (Hr7.out.keep b8)
  have Ha8 := Lib.hid (Ha7.out.keep b8)
  have Hb8 := Lib.hid (bt Hb7.out b8)
  have Hq8 := Lib.hid (Hq7.out.keepb b8)
  clear Hr7 Ha7 Hb7 Hq7 b8 hb8 ho8
  go_wp2_with fail
  generalize hW8 : w8.alloc (.cells #[.int .i64 0, .slice ao8 0 c8] 24) = W8 at *
  have e8 : W8.heap.size = w8.heap.size + 1 := by rw [← hW8]; simp
  rw [← e8]
  have k8 := rl_lit33 W8 #[.int .i64 1, .int .i64 (-5), .int .i64 11, .int .i64 1] 2 sd0 4 rfl rfl (by decide)
  have b8 := b1_alloc W8 (.cells #[.int .i64 1, .int .i64 (-5), .int .i64 11, .int .i64 1] 2)
  have Hr9 := Lib.hid (Hr8.out.keep b8)
  have Ha9 := Lib.hid (Ha8.out.keep b8)
  have Hb9 := Lib.hid (bt Hb8.out b8)
  have Hq9 := Lib.hid (Hq8.out.keepb b8)
  clear Hr8 Ha8 Hb8 Hq8 b8 hW8 e8
  generalize W8.alloc (.cells #[.int .i64 1, .int .i64 (-5), .int .i64 11, .int .i64 1] 2) = W9 at *
  refine (prog_limits _ sd0 W9 k8 (by decide)).mono ?_
  clear k8
  rintro e w10 ⟨v10, rfl, ho10, hb10⟩
  obtain ⟨ao10, c10, rfl⟩ := owns_form ho10
  have hr10 := (OL.rl ho10).keepb (b1_alloc w10 (.cells #[.int .i64 1, .int .i64 2] 48))
  have b10 := bal hb10 (.cells #[.int .i64 1, .int .i64 2] 48)
  have Hr10 := Lib.hid (Hr9.out.keep b10)
  have Ha10 := Lib.hid (Ha9.out.keep b10)
  have Hb10 := Lib.hid (bt Hb9.out b10)
  have Hq10 := Lib.hid (Hq9.out.keepb b10)
  clear Hr9 Ha9 Hb9 Hq9 b10 hb10 ho10
  go_wp2_with fail
  have k10 := rq_lit33 w10 #[.int .i64 1, .int .i64 2] 48 [(1, 2)] 1 rfl rfl (by simp)
  generalize w10.alloc (.cells #[.int .i64 1, .int .i64 2] 48) = W10 at *
  refine (c3_stay _ _ W10 hr10 k10).mono ?_
  clear hr10 k10
  rintro e w11 ⟨rfl, hb11⟩
  go_wp2_with fail
  have b11 := bal hb11 (.cells #[.int .i64 5, .int .i64 2, .int .i64 9, .int .i64 2, .bool false, .bool false, .bool false] 50)
  have hd := heap_alloc_new w11 (.cells #[.int .i64 5, .int .i64 2, .int .i64 9, .int .i64 2, .bool false, .bool false, .bool false] 50)
  obtain ⟨aoa', ca', a0, a1, ra⟩ := (Ha10.out.keep b11).ex
  obtain ⟨aor, cr, r0, r1, rr⟩ := (Hr10.out.keep b11).ex
  have hq := Hq10.out.keepb b11
  have Hb11 := Lib.hid (bt Hb10.out b11)
  clear Ha10 Hr10 Hq10 Hb10 b11 hb11
  generalize w11.alloc (.cells #[.int .i64 5, .int .i64 2, .int .i64 9, .int .i64 2, .bool false, .bool false, .bool false] 50) = W at *
  generalize w11.heap.size = gd at *
  have d0 : W.cell? ⟨gd, 0, none⟩ = some (.int .i64 5) := cell_of_row _ gd 0 _ _ _ hd
  have d1 : W.cell? ⟨gd, 1, none⟩ = some (.int .i64 2) := cell_of_row _ gd 1 _ _ _ hd
  have d2 : W.cell? ⟨gd, 2, none⟩ = some (.int .i64 9) := cell_of_row _ gd 2 _ _ _ hd
  have d3 : W.cell? ⟨gd, 3, none⟩ = some (.int .i64 2) := cell_of_row _ gd 3 _ _ _ hd
  have d4 : W.cell? ⟨gd, 4, none⟩ = some (.bool false) := cell_of_row _ gd 4 _ _ _ hd
  have d5 : W.cell? ⟨gd, 5, none⟩ = some (.bool false) := cell_of_row _ gd 5 _ _ _ hd
  have d6 : W.cell? ⟨gd, 6, none⟩ = some (.bool false) := cell_of_row _ gd 6 _ _ _ hd
  clear hd
  go_region_held3 (fun w' => w'.cell? ⟨ga, 0, none⟩ = some (.int .i64 2) ∧ w'.cell? ⟨ga, 1, none⟩ = some (.slice aoa' sa0.length ca') ∧ w'.cell? ⟨gr, 0, none⟩ = some (.int .i64 2) ∧ w'.cell? ⟨gr, 1, none⟩ = some (.slice aor sr0.length cr) ∧ w'.cell? ⟨gd, 0, none⟩ = some (.int .i64 5) ∧ w'.cell? ⟨gd, 1, none⟩ = some (.int .i64 2) ∧ w'.cell? ⟨gd, 2, none⟩ = some (.int .i64 9) ∧ w'.cell? ⟨gd, 3, none⟩ = some (.int .i64 2) ∧ w'.cell? ⟨gd, 4, none⟩ = some (.bool false) ∧ w'.cell? ⟨gd, 5, none⟩ = some (.bool false) ∧ w'.cell? ⟨gd, 6, none⟩ = some (.bool false))
    (first | exact ⟨a0, a1, r0, r1, d0, d1, d2, d3, d4, d5, d6⟩ | go_keep)
    (first
    | (have _t := hbB; go_at_call 68; refine (c3_limR wB).mono ?_; rintro e wC ⟨vC, rfl, hoC, hbC⟩; (obtain ⟨aoC, cC, rfl⟩ := owns_form hoC); have hrC := OL.rl hoC; replace a0 := keepb a0 hbC; replace a1 := keepb a1 hbC; replace r0 := keepb r0 hbC; replace r1 := keepb r1 hbC; replace d0 := keepb d0 hbC; replace d1 := keepb d1 hbC; replace d2 := keepb d2 hbC; replace d3 := keepb d3 hbC; replace d4 := keepb d4 hbC; replace d5 := keepb d5 hbC; replace d6 := keepb d6 hbC; replace rr := rr.keepb hbC; replace hq := hq.keepb hbC)
    | (have _t := hbC; go_at_call 55; refine (c3_sameR _ _ wC rr hrC).mono ?_; rintro e wD ⟨rfl, hbD⟩; replace a0 := keepb a0 hbD; replace a1 := keepb a1 hbD; replace r0 := keepb r0 hbD; replace r1 := keepb r1 hbD; replace d0 := keepb d0 hbD; replace d1 := keepb d1 hbD; replace d2 := keepb d2 hbD; replace d3 := keepb d3 hbD; replace d4 := keepb d4 hbD; replace d5 := keepb d5 hbD; replace d6 := keepb d6 hbD; replace hq := hq.keepb hbD)
    | (go_at_call 68; refine (c3_limA W).mono ?_; rintro e wA ⟨vA, rfl, hoA, hbA⟩; (obtain ⟨aoA, cA, rfl⟩ := owns_form hoA); have hrA := OL.rl hoA; replace a0 := keepb a0 hbA; replace a1 := keepb a1 hbA; replace r0 := keepb r0 hbA; replace r1 := keepb r1 hbA; replace d0 := keepb d0 hbA; replace d1 := keepb d1 hbA; replace d2 := keepb d2 hbA; replace d3 := keepb d3 hbA; replace d4 := keepb d4 hbA; replace d5 := keepb d5 hbA; replace d6 := keepb d6 hbA; replace rr := rr.keepb hbA; replace ra := ra.keepb hbA; replace hq := hq.keepb hbA)
    | (go_at_call 55; refine (c3_sameA _ _ wA ra hrA).mono ?_; rintro e wB ⟨rfl, hbB⟩; replace a0 := keepb a0 hbB; replace a1 := keepb a1 hbB; replace r0 := keepb r0 hbB; replace r1 := keepb r1 hbB; replace d0 := keepb d0 hbB; replace d1 := keepb d1 hbB; replace d2 := keepb d2 hbB; replace d3 := keepb d3 hbB; replace d4 := keepb d4 hbB; replace d5 := keepb d5 hbB; replace d6 := keepb d6 hbB; replace rr := rr.keepb hbB; replace hq := hq.keepb hbB)
    | (go_at_call 38; refine (c3_ratios _ wD hq).mono ?_; rintro e wE ⟨rfl, hbE⟩; replace a0 := keepb a0 hbE; replace a1 := keepb a1 hbE; replace r0 := keepb r0 hbE; replace r1 := keepb r1 hbE; replace d0 := keepb d0 hbE; replace d1 := keepb d1 hbE; replace d2 := keepb d2 hbE; replace d3 := keepb d3 hbE; replace d4 := keepb d4 hbE; replace d5 := keepb d5 hbE; replace d6 := keepb d6 hbE))
  go_wp2_with fail
  go_ret
  exact ⟨rfl, bt (bt (bt (bt (bt Hb11.out hbA) hbB) hbC) hbD) hbE⟩
end Go.Proofs.Ytkgaipcgdldfdaa
