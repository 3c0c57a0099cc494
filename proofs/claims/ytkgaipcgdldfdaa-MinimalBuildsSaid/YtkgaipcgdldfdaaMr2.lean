/- The law MinimalBuilds answers true for every input, and writes nothing that was there. -/
import Derived.Test.YtkgaipcgdldfdaaMsh
import Derived.Test.YtkgaipcgdldfdaaBox
import Derived.Test.YtkgaipcgdldfdaaFrame
namespace Go.Proofs.Ytkgaipcgdldfdaa
open Go.RowKit
set_option linter.unusedVariables false

set_option maxRecDepth 100000 in
set_option maxHeartbeats 4000000 in
theorem law_min_builds (n : Int) (v : Value) (cs : List (Int × Int × Int)) (w : World) (hv : RK w.heap.size w v cs) :
    Calls Try.prog 4 #[.int .i64 n, v] w fun e w' => e = .returned (.bool true) ∧ Below w.heap.size w w' := by
  obtain ⟨ao, cap, rfl, hle, _⟩ := hv.open
  have Hv := Lib.hid hv
  clear hv
  by_cases hb : 200 < cs.length
  · have htb : decide ((200 : Int) < (cs.length : Int)) = true := by simp; omega
    go_enter Try.func4, Try.ntmps4
    go_wp2_with fail
    refine (law_shown04 _).mono ?_
    rintro e w1 ⟨rfl, hb1⟩
    go_wp2_with fail
    go_ret
    exact ⟨rfl, hb1⟩
  have htb : decide ((200 : Int) < (cs.length : Int)) = false := by simp; omega
  have Hv1 := Lib.hid (Hv.out.keepb ((Below.refl _ _).alloc (Nat.le_refl _) (.cells #[] 62)))
  have Hown : Hid (OK3 62 w.heap.size (w.alloc (.cells #[] 62)) (.slice (some ⟨w.heap.size, 0, none⟩) 0 0) []) := Lib.hid (owns_empty (heap_alloc_new w _) (Nat.le_refl _))
  go_enter Try.func4, Try.ntmps4
  go_wp2_with (at_builtin; (refine wpList_append_k rfl (.tmp 14) (.tmp 15) 26 rfl 62 Try.undKs Try.infoK w.heap.size (.slice (some ⟨w.heap.size, 0, none⟩) 0 0) rfl [] Hown.out ?_ (.slice ao cs.length cap) rfl cs _ Hv1.out ?_ ?_; (simp); (simp; omega); intro v1 w1 ho1 hg1))
  have hb1 : Below w.heap.size w w1 := (Loc.one w (.cells #[] 62) none).below0 hg1
  have Hk1 := Lib.hid (show RK w1.heap.size w1 v1 cs from OK3.rk ho1)
  have Hv1 := Lib.hid (Hv.out.keepb hb1)
  have Hb1 := Lib.hid hb1
  have HP := Lib.hid (fun v w hv => prog_build n v cs w hv)
  have HR := Lib.hid (fun v w hv => ref4_build n v cs w hv)
  generalize buildF n cs = R at HP HR
  clear hb1 ho1 hg1 Hown
  refine (HP.out _ _ Hk1.out).mono ?_
  rintro e w2 ⟨⟨v2, rfl, ho2⟩, hb2⟩
  obtain ⟨d, hd⟩ : ∃ d, d = zdim R n := ⟨_, rfl⟩
  rw [← hd]
  have HD := Lib.hid hd
  clear hd
  obtain ⟨ao2, c2, rfl⟩ := owns_form ho2
  have b2 := bal hb2 (.cells #[.int .i64 d, .slice ao2 R.2.length c2] 24)
  have Ha2 := Lib.hid (BoxZ.atAlloc (n := d) (OL.rl ho2) 24)
  have Hk2 := Lib.hid (Hk1.out.keepb b2)
  have Hv2 := Lib.hid (Hv1.out.keepb b2)
  have Hb2 := Lib.hid (bt Hb1.out b2)
  clear ho2 hb2 b2 Hk1 Hv1 Hb1
  go_wp2_with fail
  generalize w2.alloc (.cells #[.int .i64 d, .slice ao2 R.2.length c2] 24) = W2 at *
  refine (HR.out _ _ Hv2.out).mono ?_
  rintro e w3 ⟨⟨v3, rfl, ho3⟩, hb3⟩
  rw [← HD.out]
  obtain ⟨ao3, c3, rfl⟩ := owns_form ho3
  have b3 := bal hb3 (.cells #[.int .i64 d, .slice ao3 R.2.length c3] 24)
  obtain ⟨aoy, cy, y0, y1, ry⟩ := (Ha2.out.keep b3).ex
  obtain ⟨aoz, cz, z0, z1, rz⟩ := (BoxZ.atAlloc (n := d) (OL.rl ho3) 24).ex
  have Hry := Lib.hid ry
  have Hrz := Lib.hid rz
  have Hk3 := Lib.hid (Hk2.out.keepb b3)
  have Hv3 := Lib.hid (Hv2.out.keepb b3)
  have Hb3 := Lib.hid (bt Hb2.out b3)
  have heq : (R.1 == R.1) = true := by simp
  clear ho3 hb3 b3 Hk2 Hv2 Hb2 Ha2 ry rz
  go_wp2_with fail
  generalize w3.alloc (.cells #[.int .i64 d, .slice ao3 R.2.length c3] 24) = W3 at *
  refine (ref_same d d _ _ R.2 R.2 _ Hry.out Hrz.out).mono ?_
  rw [sameB_refl]
  rintro e w5 ⟨rfl, hb5⟩
  have Hk5 := Lib.hid (Hk3.out.keepb hb5)
  have Hv5 := Lib.hid (Hv3.out.keepb hb5)
  have Hb5 := Lib.hid (bt Hb3.out hb5)
  clear hb5 Hb3 Hk3 Hv3 Hry Hrz y0 y1 z0 z1
  go_wp2_with fail
  refine (law_same3 _ _ cs w5 Hk5.out Hv5.out).mono ?_
  rintro e w6 ⟨rfl, hb6⟩
  have Hb6 := Lib.hid (bt Hb5.out hb6)
  clear hb6 Hb5
  go_wp2_with fail
  refine (law_shown04 _).mono ?_
  rintro e w7 ⟨rfl, hb7⟩
  go_wp2_with fail
  go_ret
  exact ⟨rfl, bt Hb6.out hb7⟩
end Go.Proofs.Ytkgaipcgdldfdaa
