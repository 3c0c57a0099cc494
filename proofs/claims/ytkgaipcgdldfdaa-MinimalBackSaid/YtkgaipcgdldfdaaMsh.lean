/- The law's shown of layer 4 answers true. -/
import Derived.Test.YtkgaipcgdldfdaaMshP
import Derived.Test.YtkgaipcgdldfdaaMsm
import Derived.Test.YtkgaipcgdldfdaaBox
namespace Go.Proofs.Ytkgaipcgdldfdaa
open Go.RowKit
set_option linter.unusedVariables false

theorem zero_c (w : World) : Calls Try.prog 29 #[.int .i64 2] w fun e w' => (∃ v', e = .returned (.tuple #[.agg #[.int .i64 2, v'], .int .i64 0]) ∧ OL 60 w.heap.size w' v' zz9) ∧ Below w.heap.size w w' :=
  (ref_zero 2 w).mono fun e w' h => by rw [fill_zero2] at h; exact h
theorem red_c (v : Value) (w : World) (hv : RL w.heap.size w v zz9) : Calls Try.prog 13 #[.agg #[.int .i64 2, v]] w fun e w' => (∃ v', e = .returned (.tuple #[v', .int .i64 0]) ∧ OK3 62 w.heap.size w' v' sh2) ∧ Below w.heap.size w w' :=
  (prog_reduce 2 v zz9 w hv ok_zero2).mono fun e w' h => by rw [show (2 + 1 : Nat) = 3 from rfl, red_zero2] at h; exact h
theorem build_c (v : Value) (w : World) (hv : RK w.heap.size w v sh2) : Calls Try.prog 17 #[.int .i64 2, v] w fun e w' => (∃ v', e = .returned (.tuple #[.agg #[.int .i64 2, v'], .int .i64 0]) ∧ OL 60 w.heap.size w' v' zz9) ∧ Below w.heap.size w w' :=
  (prog_build 2 v sh2 w hv).mono fun e w' h => by rw [build_sh2] at h; exact h
theorem build_d (v : Value) (w : World) (hv : RK w.heap.size w v [(1, 0, 0)]) : Calls Try.prog 17 #[.int .i64 1, v] w fun e w' => (∃ v', e = .returned (.tuple #[.agg #[.int .i64 0, v'], .int .i64 4]) ∧ OL 60 w.heap.size w' v' []) ∧ Below w.heap.size w w' :=
  (prog_build 1 v _ w hv).mono fun e w' h => by rw [build_no1] at h; exact h
theorem rk_lit (w : World) (arr : Array Value) (e : Nat) (cs : List (Int × Int × Int)) (m : Nat) (h : arr.toList = cs.flatMap cells3) (hm : m = cs.length) (hl : cs.length ≤ 1000) :
    RK (w.alloc (.cells arr e)).heap.size (w.alloc (.cells arr e)) (.slice (some ⟨w.heap.size, 0, none⟩) m m) cs := by
  have := rs_lit3 (w := w) (arr := arr) (e := e) (cs := cs) (m := m) h hm hl
  rw [show (w.alloc (.cells arr e)).heap.size = w.heap.size + 1 by simp]
  exact this

set_option maxRecDepth 100000 in
set_option maxHeartbeats 4000000 in
theorem law_shown04 (w : World) : Calls Try.prog 12 #[] w fun e w' => e = .returned (.bool true) ∧ Below w.heap.size w w' := by
  go_enter Try.func12, Try.ntmps12
  go_wp2_with fail
  refine (zero_c _).mono ?_
  rintro e w1 ⟨⟨v1, rfl, ho1⟩, hb1⟩
  obtain ⟨ao1, c1, rfl⟩ := owns_form ho1
  have Hz := Lib.hid (BoxZ.atAlloc (n := 2) (OL.rl ho1) 24)
  have Hr := Lib.hid ((OL.rl ho1).keepb ((Below.refl _ _).alloc (Nat.le_refl _) (.cells #[.int .i64 2, .slice ao1 zz9.length c1] 24)))
  have Hb := Lib.hid (bal hb1 (.cells #[.int .i64 2, .slice ao1 zz9.length c1] 24))
  clear ho1 hb1
  go_wp2_with fail
  generalize w1.alloc (.cells #[.int .i64 2, .slice ao1 zz9.length c1] 24) = W1 at *
  refine (red_c _ _ Hr.out).mono ?_
  rintro e w2 ⟨⟨v2, rfl, ho2⟩, hb2⟩
  obtain ⟨ao2, c2, rfl⟩ := owns_form ho2
  have Hz2 := Lib.hid (Hz.out.keep hb2)
  have Hl2 := Lib.hid (OK3.rk ho2)
  have Hb2 := Lib.hid (bt Hb.out hb2)
  clear ho2 hb2 Hz Hr Hb
  go_wp2_with fail
  refine (build_c _ _ Hl2.out).mono ?_
  rintro e w3 ⟨⟨v3, rfl, ho3⟩, hb3⟩
  obtain ⟨ao3, c3, rfl⟩ := owns_form ho3
  have b3 := bal hb3 (.cells #[.int .i64 2, .slice ao3 zz9.length c3] 24)
  have Hy3 := Lib.hid (BoxZ.atAlloc (n := 2) (OL.rl ho3) 24)
  have Hz3 := Lib.hid (Hz2.out.keep b3)
  have Hl3 := Lib.hid (Hl2.out.keepb b3)
  have Hb3 := Lib.hid (bt Hb2.out b3)
  clear ho3 hb3 b3 Hz2 Hl2 Hb2
  go_wp2_with fail
  have e1 : (w3.alloc (.cells #[.int .i64 2, .slice ao3 zz9.length c3] 24)).heap.size = w3.heap.size + 1 := by simp
  have k1 := rk_lit (w3.alloc (.cells #[.int .i64 2, .slice ao3 zz9.length c3] 24)) #[.int .i64 1, .int .i64 0, .int .i64 0] 62 [(1, 0, 0)] 1 rfl rfl (by simp)
  have b1 : Below (w3.alloc (.cells #[.int .i64 2, .slice ao3 zz9.length c3] 24)).heap.size (w3.alloc (.cells #[.int .i64 2, .slice ao3 zz9.length c3] 24)) ((w3.alloc (.cells #[.int .i64 2, .slice ao3 zz9.length c3] 24)).alloc (.cells #[.int .i64 1, .int .i64 0, .int .i64 0] 62)) := (Below.refl _ _).alloc (Nat.le_refl _) _
  rw [e1] at k1
  refine (build_d _ _ (by rw [show ((w3.alloc (.cells #[.int .i64 2, .slice ao3 zz9.length c3] 24)).alloc (.cells #[.int .i64 1, .int .i64 0, .int .i64 0] 62)).heap.size = w3.heap.size + 1 + 1 by simp] at *; exact k1)).mono ?_
  rintro e w4 ⟨⟨v4, rfl, ho4⟩, hb4⟩
  obtain ⟨ao4, c4, rfl⟩ := owns_form ho4
  have b4 := bt b1 (bal hb4 (.cells #[.int .i64 0, .slice ao4 0 c4] 24))
  have Hy4 := Lib.hid (Hy3.out.keep b4)
  have Hz4 := Lib.hid (Hz3.out.keep b4)
  have Hl4 := Lib.hid (Hl3.out.keepb b4)
  have Hb4 := Lib.hid (bt Hb3.out b4)
  clear ho4 hb4 b4 b1 k1 e1 Hz3 Hl3 Hb3 Hy3
  go_wp2_with fail
  generalize hW4 : w4.alloc (.cells #[.int .i64 0, .slice ao4 0 c4] 24) = W4 at *
  have e1 : W4.heap.size = w4.heap.size + 1 := by rw [← hW4]; simp
  have k1 := rk_lit W4 #[.int .i64 1, .int .i64 2, .int .i64 1, .int .i64 2, .int .i64 0, .int .i64 1] 62 sh2 2 rfl rfl (by decide)
  have b5 : Below W4.heap.size W4 (W4.alloc (.cells #[.int .i64 1, .int .i64 2, .int .i64 1, .int .i64 2, .int .i64 0, .int .i64 1] 62)) := (Below.refl _ _).alloc (Nat.le_refl _) _
  have Hy5 := Lib.hid (Hy4.out.keep b5)
  have Hz5 := Lib.hid (Hz4.out.keep b5)
  have Hl5 := Lib.hid (Hl4.out.keepb b5)
  have Hb5 := Lib.hid (bt Hb4.out b5)
  rw [← e1]
  generalize W4.alloc (.cells #[.int .i64 1, .int .i64 2, .int .i64 1, .int .i64 2, .int .i64 0, .int .i64 1] 62) = W5 at *
  clear b5 e1 hW4 Hz4 Hl4 Hb4 Hy4
  refine (law_same3 _ _ sh2 W5 Hl5.out k1).mono ?_
  rintro e w6 ⟨rfl, hb6⟩
  obtain ⟨aoy, cy, y0, y1, ry⟩ := (Hy5.out.keep hb6).ex
  obtain ⟨aoz, cz, z0, z1, rz⟩ := (Hz5.out.keep hb6).ex
  have Hry := Lib.hid ry
  have Hrz := Lib.hid rz
  have Hb6 := Lib.hid (bt Hb5.out hb6)
  clear k1 hb6 ry rz Hy5 Hz5 Hl5 Hb5
  go_wp2_with fail
  refine (ref_same 2 2 _ _ zz9 zz9 _ Hry.out Hrz.out).mono ?_
  rw [sameB_refl]
  rintro e w7 ⟨rfl, hb7⟩
  go_wp2_with fail
  go_ret
  exact ⟨rfl, bt Hb6.out hb7⟩
end Go.Proofs.Ytkgaipcgdldfdaa
