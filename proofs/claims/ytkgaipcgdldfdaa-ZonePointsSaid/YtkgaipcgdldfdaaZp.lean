/- The law ZonePoints answers true for every input, and writes nothing that was there. -/
import Derived.Test.YtkgaipcgdldfdaaLaw3
import Derived.Test.YtkgaipcgdldfdaaPhs
import Derived.Test.YtkgaipcgdldfdaaPpt
import Derived.Test.YtkgaipcgdldfdaaPsy
import Derived.Test.YtkgaipcgdldfdaaRsy
import Derived.Laws.StructEq
namespace Go.Proofs.Ytkgaipcgdldfdaa
open Go.RowKit
set_option linter.unusedVariables false

set_option maxRecDepth 100000 in
set_option maxHeartbeats 8000000 in
theorem law_zone_points (n : Int) (v pv : Value) (xs : List Int) (ps : List (Int × Int)) (w : World) (hv : RL w.heap.size w v xs) (hp : RQ w.heap.size w pv ps) (hI : ∀ k, k < ps.length → I64 (gq ps k).1) :
    Calls Try.prog 7 #[.agg #[.int .i64 n, v], pv] w fun e w' => e = .returned (.bool true) ∧ Below w.heap.size w w' := by
  obtain ⟨ao, cap, rfl, hle, _⟩ := hv.open
  obtain ⟨aop, capp, rfl, hlep, _⟩ := hp.open
  have hloc := Loc.one w (.cells #[.int .i64 n, .slice ao xs.length cap] 24) none
  have Hv := Lib.hid (hv.keepb (below_grownBy hloc.grown))
  have Hp := Lib.hid (hp.keepb (below_grownBy hloc.grown))
  have HI := Lib.hid hI
  clear hv hp hI
  by_cases hhtb : 200 < xs.length
  · have htb : decide ((200 : Int) < (xs.length : Int)) = true := by simp; omega
    go_enter Try.func7, Try.ntmps7
    go_wp2_with fail
    refine (law_shown03 _).mono ?_
    rintro e w1 ⟨rfl, hb1⟩
    go_wp2_with fail
    go_ret
    exact ⟨rfl, below_grownBy (hloc.next (grownBy_below hb1 none) (fun _ h => by cases h)).grown⟩
  have htb : decide ((200 : Int) < (xs.length : Int)) = false := by simp; omega
  by_cases hhtp : 50 < ps.length
  · have htp : decide ((50 : Int) < (ps.length : Int)) = true := by simp; omega
    go_enter Try.func7, Try.ntmps7
    go_wp2_with fail
    refine (law_shown03 _).mono ?_
    rintro e w1 ⟨rfl, hb1⟩
    go_wp2_with fail
    go_ret
    exact ⟨rfl, below_grownBy (hloc.next (grownBy_below hb1 none) (fun _ h => by cases h)).grown⟩
  have htp : decide ((50 : Int) < (ps.length : Int)) = false := by simp; omega
  have Hl := Lib.hid (show xs.length ≤ 200 by omega)
  have HH1 := Lib.hid (fun v w hv pv hp => prog_has n v pv xs ps w hv hp HI.out)
  have HH2 := Lib.hid (fun v w hv pv hp => ref_has n v pv xs ps w hv hp)
  have HS1 := Lib.hid (fun v w hv pv hp => prog_stay_any n v pv xs ps w hv hp HI.out)
  have HS2 := Lib.hid (fun v w hv pv hp => ref_stay n v pv xs ps w hv hp)
  have HP1 := Lib.hid (fun v w hv => prog_point_any n v xs w hv)
  have HP2 := Lib.hid (fun v w hv => ref_point n v xs w hv)
  generalize hasF n xs ps = A at HH1 HH2
  generalize stayF n xs ps = S at HS1 HS2
  generalize pointF n xs = Q at HP1 HP2
  obtain ⟨ha, hx⟩ := A
  obtain ⟨⟨dn, dd, en, ed, do1, eo, dh, dw⟩, sx⟩ := S
  obtain ⟨qs, qx⟩ := Q
  clear hhtb hhtp
  go_enter Try.func7, Try.ntmps7
  go_wp2_with fail
  refine (law_lent n _ xs _ Hv.out Hl.out).mono ?_
  rintro e w1 ⟨g, cp, rfl, ho1, hb1⟩
  obtain ⟨hr1, h71, hcp, hcm⟩ := rl_init (n := 0) ho1
  have b1 := bal hb1 (.cells #[.int .i64 n, .slice (some ⟨g, 0, none⟩) xs.length cp] 24)
  have k1 := b1_alloc w1 (.cells #[.int .i64 n, .slice (some ⟨g, 0, none⟩) xs.length cp] 24)
  have H5 := Lib.hid (heap_alloc_new w1 (.cells #[.int .i64 n, .slice (some ⟨g, 0, none⟩) xs.length cp] 24))
  have Hr1 := Lib.hid (hr1.keepb k1)
  have H71 := Lib.hid (keepb h71 k1)
  have Hv1 := Lib.hid (Hv.out.keepb b1)
  have Hp1 := Lib.hid (Hp.out.keepb b1)
  have HCP := Lib.hid hcp
  have HCM := Lib.hid hcm
  have Hloc1 := Lib.hid (hloc.next (grownBy_below b1 none) (fun _ h => by cases h))
  clear ho1 hb1 hr1 h71 b1 k1 hloc hcp hcm Hv Hp
  have z0 : (w1.alloc (.cells #[.int .i64 n, .slice (some ⟨g, 0, none⟩) xs.length cp] 24)).cell? ⟨w.heap.size, 0, none⟩ = some (.int .i64 n) := Hloc1.out.cell 0 rfl 0
  have z1 : (w1.alloc (.cells #[.int .i64 n, .slice (some ⟨g, 0, none⟩) xs.length cp] 24)).cell? ⟨w.heap.size, 1, none⟩ = some (.slice ao xs.length cap) := Hloc1.out.cell 0 rfl 1
  have a0 := cell_of_row _ _ 0 _ _ _ H5.out
  have a1 := cell_of_row _ _ 1 _ _ _ H5.out
  go_wp2_with fail
  generalize w1.alloc (.cells #[.int .i64 n, .slice (some ⟨g, 0, none⟩) xs.length cp] 24) = W1 at *
  generalize w1.heap.size = b5 at *
  have HC1 := Lib.hid (fun X (hX : Below W1.heap.size W1 X) => (⟨keepb z0 hX, keepb z1 hX, keepb a0 hX, keepb a1 hX⟩ : X.cell? _ = some (.int .i64 n) ∧ X.cell? _ = some (.slice ao xs.length cap) ∧ X.cell? _ = some (.int .i64 n) ∧ X.cell? _ = some (.slice (some ⟨g, 0, none⟩) xs.length cp)))
  refine (HH1.out _ W1 Hr1.out _ Hp1.out).mono ?_
  rintro e w2 ⟨he, hb2⟩
  obtain rfl : e = .returned (.tuple #[.bool ha, .int .i64 hx]) := he
  clear z0 z1 a0 a1
  obtain ⟨z0, z1, a0, a1⟩ := HC1.out _ hb2
  have HB2 := Lib.hid hb2
  clear hb2
  go_wp2_with fail
  refine (HH2.out _ w2 (Hv1.out.keepb HB2.out) _ (Hp1.out.keepb HB2.out)).mono ?_
  rintro e w3 ⟨he, hb3⟩
  obtain rfl : e = .returned (.tuple #[.bool ha, .int .i64 hx]) := he
  clear z0 z1 a0 a1
  have HB3 := Lib.hid (bt HB2.out hb3)
  obtain ⟨z0, z1, a0, a1⟩ := HC1.out _ HB3.out
  clear hb3 HB2
  go_wp2_with fail
  refine (HS1.out _ w3 (Hr1.out.keepb HB3.out) _ (Hp1.out.keepb HB3.out)).mono ?_
  rintro e w4 ⟨he, hb4⟩
  obtain rfl : e = .returned (.tuple #[.agg #[.int .i64 dn, .int .i64 dd, .int .i64 en, .int .i64 ed, .bool do1, .bool eo, .bool dh], .int .i64 sx]) := he
  clear z0 z1 a0 a1
  have HB4 := Lib.hid (bal (bt HB3.out hb4) (.cells #[.int .i64 dn, .int .i64 dd, .int .i64 en, .int .i64 ed, .bool do1, .bool eo, .bool dh] 50))
  have Hc := Lib.hid (heap_alloc_new w4 (.cells #[.int .i64 dn, .int .i64 dd, .int .i64 en, .int .i64 ed, .bool do1, .bool eo, .bool dh] 50))
  obtain ⟨z0, z1, a0, a1⟩ := HC1.out _ HB4.out
  clear hb4 HB3
  go_wp2_with fail
  generalize w4.alloc (.cells #[.int .i64 dn, .int .i64 dd, .int .i64 en, .int .i64 ed, .bool do1, .bool eo, .bool dh] 50) = W4 at *
  generalize w4.heap.size = cB at *
  refine (HS2.out _ W4 (Hv1.out.keepb HB4.out) _ (Hp1.out.keepb HB4.out)).mono ?_
  rintro e w5 ⟨he, hb5⟩
  obtain rfl : e = .returned (.tuple #[.agg #[.int .i64 dn, .int .i64 dd, .int .i64 en, .int .i64 ed, .bool do1, .bool eo, .bool dh], .int .i64 sx]) := he
  clear z0 z1 a0 a1
  have HB5 := Lib.hid (bal (bt HB4.out hb5) (.cells #[.int .i64 dn, .int .i64 dd, .int .i64 en, .int .i64 ed, .bool do1, .bool eo, .bool dh] 50))
  have Hd := Lib.hid (heap_alloc_new w5 (.cells #[.int .i64 dn, .int .i64 dd, .int .i64 en, .int .i64 ed, .bool do1, .bool eo, .bool dh] 50))
  have Hc5 := Lib.hid (hp_keep Hc.out (bal hb5 (.cells #[.int .i64 dn, .int .i64 dd, .int .i64 en, .int .i64 ed, .bool do1, .bool eo, .bool dh] 50)))
  obtain ⟨z0, z1, a0, a1⟩ := HC1.out _ HB5.out
  clear hb5 HB4 Hc
  go_wp2_with fail
  generalize w5.alloc (.cells #[.int .i64 dn, .int .i64 dd, .int .i64 en, .int .i64 ed, .bool do1, .bool eo, .bool dh] 50) = W5 at *
  generalize w5.heap.size = dB at *
  refine (HP1.out _ W5 (Hr1.out.keepb HB5.out)).mono ?_
  rintro e w6 ⟨⟨v6, he, hq6⟩, hb6⟩
  obtain rfl : e = .returned (.tuple #[v6, .int .i64 qx]) := he
  clear z0 z1 a0 a1
  have HB6 := Lib.hid (bt HB5.out hb6)
  have HD6 := Lib.hid (hp_keep Hd.out hb6)
  have HC6 := Lib.hid (hp_keep Hc5.out hb6)
  have HQ6 := Lib.hid hq6
  obtain ⟨z0, z1, a0, a1⟩ := HC1.out _ HB6.out
  clear hb6 HB5 Hc5 Hd hq6
  go_wp2_with fail
  refine (HP2.out _ w6 (Hv1.out.keepb HB6.out)).mono ?_
  rintro e w7 ⟨⟨v7, he, hq7⟩, hb7⟩
  obtain rfl : e = .returned (.tuple #[v7, .int .i64 qx]) := he
  clear z0 z1 a0 a1
  have HB7 := Lib.hid (bt HB6.out hb7)
  have Hd := Lib.hid (hp_keep HD6.out hb7)
  have Hc := Lib.hid (hp_keep HC6.out hb7)
  have HQ7 := Lib.hid hq7
  have HQ67 := Lib.hid (HQ6.out.keepb hb7)
  obtain ⟨z0, z1, a0, a1⟩ := HC1.out _ HB7.out
  clear hb7 HB6 HC6 HD6 hq7
  have c0 : w7.cell? ⟨cB, 0, none⟩ = some (.int .i64 dn) := cell_of_row _ cB 0 _ _ _ Hc.out
  have c1 : w7.cell? ⟨cB, 1, none⟩ = some (.int .i64 dd) := cell_of_row _ cB 1 _ _ _ Hc.out
  have c2 : w7.cell? ⟨cB, 2, none⟩ = some (.int .i64 en) := cell_of_row _ cB 2 _ _ _ Hc.out
  have c3 : w7.cell? ⟨cB, 3, none⟩ = some (.int .i64 ed) := cell_of_row _ cB 3 _ _ _ Hc.out
  have c4 : w7.cell? ⟨cB, 4, none⟩ = some (.bool do1) := cell_of_row _ cB 4 _ _ _ Hc.out
  have c5 : w7.cell? ⟨cB, 5, none⟩ = some (.bool eo) := cell_of_row _ cB 5 _ _ _ Hc.out
  have c6 : w7.cell? ⟨cB, 6, none⟩ = some (.bool dh) := cell_of_row _ cB 6 _ _ _ Hc.out
  have d0 : w7.cell? ⟨dB, 0, none⟩ = some (.int .i64 dn) := cell_of_row _ dB 0 _ _ _ Hd.out
  have d1 : w7.cell? ⟨dB, 1, none⟩ = some (.int .i64 dd) := cell_of_row _ dB 1 _ _ _ Hd.out
  have d2 : w7.cell? ⟨dB, 2, none⟩ = some (.int .i64 en) := cell_of_row _ dB 2 _ _ _ Hd.out
  have d3 : w7.cell? ⟨dB, 3, none⟩ = some (.int .i64 ed) := cell_of_row _ dB 3 _ _ _ Hd.out
  have d4 : w7.cell? ⟨dB, 4, none⟩ = some (.bool do1) := cell_of_row _ dB 4 _ _ _ Hd.out
  have d5 : w7.cell? ⟨dB, 5, none⟩ = some (.bool eo) := cell_of_row _ dB 5 _ _ _ Hd.out
  have d6 : w7.cell? ⟨dB, 6, none⟩ = some (.bool dh) := cell_of_row _ dB 6 _ _ _ Hd.out
  have e1 : (ha == ha) = true := by simp
  go_wp2_with fail
  refine (kit_same_ratios _ _ qs _ HQ67.out HQ7.out).mono ?_
  rintro e w8 ⟨rfl, hb8⟩
  have HB8 := Lib.hid (bt HB7.out hb8)
  clear z0 z1 a0 a1 c0 c1 c2 c3 c4 c5 c6 d0 d1 d2 d3 d4 d5 d6
  obtain ⟨z0, z1, a0, a1⟩ := HC1.out _ HB8.out
  clear hb8
  go_wp2_with fail
  refine (law_kept n g cp _ xs _ (Hr1.out.keepb HB8.out) (Hv1.out.keepb HB8.out) (keepb H71.out HB8.out) HCP.out HCM.out Hl.out).mono ?_
  rintro e w9 ⟨rfl, hb9⟩
  have HB9 := Lib.hid (bt HB8.out hb9)
  clear hb9 z0 z1 a0 a1
  go_wp2_with fail
  refine (law_shown03 _).mono ?_
  rintro e w10 ⟨rfl, hb10⟩
  go_wp2_with fail
  go_ret
  exact ⟨rfl, below_grownBy (Hloc1.out.next (grownBy_below (bt HB9.out hb10) none) (fun _ h => by cases h)).grown⟩
end Go.Proofs.Ytkgaipcgdldfdaa
