/- Part of the proof of priced_resets_proved: Prw. -/
import Derived.Test.YtfphlpglgcmljaaGreatXsPrs
import Derived.Test.YtfphlpglgcmljaaGreatXsRrs
import Derived.Test.YtfphlpglgcmljaaGreatXsPsl
import Derived.Test.YtfphlpglgcmljaaGreatXsPaw
namespace Go.Proofs.YtfphlpglgcmljaaGreat
open Go.RowKit
set_option linter.unusedVariables false
set_option maxRecDepth 100000 in
set_option maxHeartbeats 8000000 in
theorem law_priced_resets (n c x tv : Int) (v rv : Value) (xs rs : List Int) (w : World) (hv : RL w.heap.size w v xs) (hr : RL w.heap.size w rv rs) :
  Calls Tryz.prog 5 #[.agg #[.int .i64 n, v, .int .i64 c, rv], .agg #[.int .i64 x, .int .i64 tv]] w fun e w' => e = .returned (.bool true) ∧ Below w.heap.size w w' := by
 obtain ⟨ao, cap, rfl, _, _⟩ := hv.open
 obtain ⟨aor, capr, rfl, _, _⟩ := hr.open
 have hloc := Loc.two w (.cells #[.int .i64 n, .slice ao xs.length cap, .int .i64 c, .slice aor rs.length capr] 35) (.cells #[.int .i64 x, .int .i64 tv] 48) none
 have hbw := below_grownBy hloc.grown
 have hqz : ((w.alloc (.cells #[.int .i64 n, .slice ao xs.length cap, .int .i64 c, .slice aor rs.length capr] 35)).alloc (.cells #[.int .i64 x, .int .i64 tv] 48)).heap[w.heap.size]? = some (.cells #[.int .i64 n, .slice ao xs.length cap, .int .i64 c, .slice aor rs.length capr] 35 (0, 0)) := hloc.objs 0 (by simp)
 have hqt : ((w.alloc (.cells #[.int .i64 n, .slice ao xs.length cap, .int .i64 c, .slice aor rs.length capr] 35)).alloc (.cells #[.int .i64 x, .int .i64 tv] 48)).heap[w.heap.size + 1]? = some (.cells #[.int .i64 x, .int .i64 tv] 48 (0, 0)) := hloc.objs 1 (by simp)
 have hvz := hv.keepb hbw
 have hrz := hr.keepb hbw
 clear hv hr hloc
 go_enter Tryz.func5, Tryz.ntmps5
 go_upto_region 1 with fail
 generalize ((w.alloc (.cells #[.int .i64 n, .slice ao xs.length cap, .int .i64 c, .slice aor rs.length capr] 35)).alloc (.cells #[.int .i64 x, .int .i64 tv] 48)) = X1 at *
 have HW := Lib.hid hbw
 have HBz := Lib.hid hqz
 have HBt := Lib.hid hqt
 have Hvz := Lib.hid hvz
 have Hrz := Lib.hid hrz
 clear hbw hqz hqt hvz hrz
 have z0 : X1.cell? ⟨w.heap.size, 0, none⟩ = some (.int .i64 n) := cell_of_row _ (w.heap.size) 0 _ _ _ HBz.out
 have z1 : X1.cell? ⟨w.heap.size, 1, none⟩ = some (.slice ao xs.length cap) := cell_of_row _ (w.heap.size) 1 _ _ _ HBz.out
 have z2 : X1.cell? ⟨w.heap.size, 2, none⟩ = some (.int .i64 c) := cell_of_row _ (w.heap.size) 2 _ _ _ HBz.out
 have z3 : X1.cell? ⟨w.heap.size, 3, none⟩ = some (.slice aor rs.length capr) := cell_of_row _ (w.heap.size) 3 _ _ _ HBz.out
 go_wp2_with fail
 refine (law_large23 n c _ _ xs rs _ Hvz.out Hrz.out).mono ?_
 rintro e w1 ⟨bl, rfl, hbl, hb⟩
 clear z0 z1 z2 z3
 replace HBz := Lib.hid (hp_keep4 HBz.out hb)
 replace HBt := Lib.hid (hp_keep4 HBt.out hb)
 replace Hvz := Lib.hid (RL.keepb Hvz.out hb)
 replace Hrz := Lib.hid (RL.keepb Hrz.out hb)
 replace HW := Lib.hid (bt HW.out hb)
 clear hb
 cases bl with
 | true =>
  go_wp2_with fail
  refine (law_awake _).mono ?_
  rintro e w9 ⟨rfl, hb⟩
  go_wp2_with fail
  go_ret
  exact ⟨rfl, bt HW.out hb⟩
 | false =>
  have HS := Lib.hid (hbl rfl)
  clear hbl
  have z0 : w1.cell? ⟨w.heap.size, 0, none⟩ = some (.int .i64 n) := cell_of_row _ (w.heap.size) 0 _ _ _ HBz.out
  have z1 : w1.cell? ⟨w.heap.size, 1, none⟩ = some (.slice ao xs.length cap) := cell_of_row _ (w.heap.size) 1 _ _ _ HBz.out
  have z2 : w1.cell? ⟨w.heap.size, 2, none⟩ = some (.int .i64 c) := cell_of_row _ (w.heap.size) 2 _ _ _ HBz.out
  have z3 : w1.cell? ⟨w.heap.size, 3, none⟩ = some (.slice aor rs.length capr) := cell_of_row _ (w.heap.size) 3 _ _ _ HBz.out
  go_wp2_with fail
  refine (law_copied23 n c _ _ xs rs _ Hvz.out Hrz.out HS.out.2.1 HS.out.2.2).mono ?_
  rintro e w2 ⟨⟨v', rv', rfl, hv, hr⟩, hb⟩
  clear z0 z1 z2 z3
  replace HBz := Lib.hid (hp_keep4 HBz.out hb)
  replace HBt := Lib.hid (hp_keep4 HBt.out hb)
  replace Hvz := Lib.hid (RL.keepb Hvz.out hb)
  replace Hrz := Lib.hid (RL.keepb Hrz.out hb)
  replace HW := Lib.hid (bt HW.out hb)
  clear hb
  have Hvo := Lib.hid hv
  have Hro := Lib.hid hr
  obtain ⟨aoo, capo, rfl, _, _⟩ := hv.open
  obtain ⟨aoro, capro, rfl, _, _⟩ := hr.open
  clear hv hr
  have hba := (Below.refl _ w2).alloc (Nat.le_refl _) (.cells #[.int .i64 n, .slice aoo xs.length capo, .int .i64 c, .slice aoro rs.length capro] 35)
  have hqn := heap_alloc_new w2 (.cells #[.int .i64 n, .slice aoo xs.length capo, .int .i64 c, .slice aoro rs.length capro] 35)
  have hqW := HW.out.size
  have hlz : w.heap.size < w2.heap.size := hp_lt3 HBz.out
  have hqz := hp_keep4 HBz.out hba
  have hlt : w.heap.size + 1 < w2.heap.size := hp_lt3 HBt.out
  have hqt := hp_keep4 HBt.out hba
  have hqHvz := RL.keepb Hvz.out hba
  have hqHrz := RL.keepb Hrz.out hba
  have hqHvo := RL.keepb Hvo.out hba
  have hqHro := RL.keepb Hro.out hba
  have hqw := bt HW.out hba
  clear hba HW HBz HBt Hvz Hrz Hvo Hro
  go_upto_region 4 with fail
  generalize hgen : w2.alloc (.cells #[.int .i64 n, .slice aoo xs.length capo, .int .i64 c, .slice aoro rs.length capro] 35) = X2 at *
  clear hgen
  generalize hgen : w2.heap.size = O at *
  clear hgen
  have HBo := Lib.hid hqn
  have HBz := Lib.hid hqz
  have HBt := Lib.hid hqt
  have Hvz := Lib.hid hqHvz
  have Hrz := Lib.hid hqHrz
  have Hvo := Lib.hid hqHvo
  have Hro := Lib.hid hqHro
  have HW := Lib.hid hqw
  clear hqn hqw hqz hqt hqHvz hqHrz hqHvo hqHro
  obtain ⟨⟨L, y⟩, hL⟩ : ∃ Q, presetF n xs c rs x tv = Q := ⟨_, rfl⟩
  have HL := Lib.hid hL
  clear hL
  have s0 : X2.cell? ⟨O, 0, none⟩ = some (.int .i64 n) := cell_of_row _ (O) 0 _ _ _ HBo.out
  have s1 : X2.cell? ⟨O, 1, none⟩ = some (.slice aoo xs.length capo) := cell_of_row _ (O) 1 _ _ _ HBo.out
  have s2 : X2.cell? ⟨O, 2, none⟩ = some (.int .i64 c) := cell_of_row _ (O) 2 _ _ _ HBo.out
  have s3 : X2.cell? ⟨O, 3, none⟩ = some (.slice aoro rs.length capro) := cell_of_row _ (O) 3 _ _ _ HBo.out
  have t0 : X2.cell? ⟨w.heap.size + 1, 0, none⟩ = some (.int .i64 x) := cell_of_row _ (w.heap.size + 1) 0 _ _ _ HBt.out
  have t1 : X2.cell? ⟨w.heap.size + 1, 1, none⟩ = some (.int .i64 tv) := cell_of_row _ (w.heap.size + 1) 1 _ _ _ HBt.out
  go_wp2_with fail
  refine (prog_preset n c x tv _ _ xs rs _ Hvo.out Hro.out).mono ?_
  rintro e w3 ⟨h, hb⟩
  obtain ⟨va, he, hg⟩ := GaP.gr h
  rw [HL.out] at he hg
  obtain rfl : e = .returned (.tuple #[va, .int .i64 y]) := he
  clear h
  clear s0 s1 s2 s3
  clear t0 t1
  replace HBz := Lib.hid (hp_keep4 HBz.out hb)
  replace HBt := Lib.hid (hp_keep4 HBt.out hb)
  replace HBo := Lib.hid (hp_keep4 HBo.out hb)
  replace Hvz := Lib.hid (RL.keepb Hvz.out hb)
  replace Hrz := Lib.hid (RL.keepb Hrz.out hb)
  replace Hvo := Lib.hid (RL.keepb Hvo.out hb)
  replace Hro := Lib.hid (RL.keepb Hro.out hb)
  replace HW := Lib.hid (bt HW.out hb)
  clear hb
  have HGa := Lib.hid (show GR L va w3 from hg)
  clear hg
  have s0 : w3.cell? ⟨w.heap.size, 0, none⟩ = some (.int .i64 n) := cell_of_row _ (w.heap.size) 0 _ _ _ HBz.out
  have s1 : w3.cell? ⟨w.heap.size, 1, none⟩ = some (.slice ao xs.length cap) := cell_of_row _ (w.heap.size) 1 _ _ _ HBz.out
  have s2 : w3.cell? ⟨w.heap.size, 2, none⟩ = some (.int .i64 c) := cell_of_row _ (w.heap.size) 2 _ _ _ HBz.out
  have s3 : w3.cell? ⟨w.heap.size, 3, none⟩ = some (.slice aor rs.length capr) := cell_of_row _ (w.heap.size) 3 _ _ _ HBz.out
  have t0 : w3.cell? ⟨w.heap.size + 1, 0, none⟩ = some (.int .i64 x) := cell_of_row _ (w.heap.size + 1) 0 _ _ _ HBt.out
  have t1 : w3.cell? ⟨w.heap.size + 1, 1, none⟩ = some (.int .i64 tv) := cell_of_row _ (w.heap.size + 1) 1 _ _ _ HBt.out
  go_wp2_with fail
  refine (ref_preset n c x tv _ _ xs rs _ Hvz.out Hrz.out).mono ?_
  rintro e w4 ⟨h, hb⟩
  obtain ⟨vb, he, hg⟩ := GaP.gr h
  rw [HL.out] at he hg
  obtain rfl : e = .returned (.tuple #[vb, .int .i64 y]) := he
  clear h
  clear s0 s1 s2 s3
  clear t0 t1
  replace HBz := Lib.hid (hp_keep4 HBz.out hb)
  replace HBt := Lib.hid (hp_keep4 HBt.out hb)
  replace HBo := Lib.hid (hp_keep4 HBo.out hb)
  replace Hvz := Lib.hid (RL.keepb Hvz.out hb)
  replace Hrz := Lib.hid (RL.keepb Hrz.out hb)
  replace Hvo := Lib.hid (RL.keepb Hvo.out hb)
  replace Hro := Lib.hid (RL.keepb Hro.out hb)
  replace HGa := Lib.hid (GR.keepb HGa.out hb)
  replace HW := Lib.hid (bt HW.out hb)
  clear hb
  have HGb := Lib.hid (show GR L vb w4 from hg)
  clear hg
  have hxx : (y == y) = true := by simp
  go_wp2_with fail
  refine (law_samelists va vb L _ HGa.out HGb.out).mono ?_
  rintro e w5 ⟨rfl, hb⟩
  replace HBz := Lib.hid (hp_keep4 HBz.out hb)
  replace HBt := Lib.hid (hp_keep4 HBt.out hb)
  replace HBo := Lib.hid (hp_keep4 HBo.out hb)
  replace Hvz := Lib.hid (RL.keepb Hvz.out hb)
  replace Hrz := Lib.hid (RL.keepb Hrz.out hb)
  replace Hvo := Lib.hid (RL.keepb Hvo.out hb)
  replace Hro := Lib.hid (RL.keepb Hro.out hb)
  replace HGa := Lib.hid (GR.keepb HGa.out hb)
  replace HGb := Lib.hid (GR.keepb HGb.out hb)
  replace HW := Lib.hid (bt HW.out hb)
  clear hb
  have s0 : w5.cell? ⟨O, 0, none⟩ = some (.int .i64 n) := cell_of_row _ (O) 0 _ _ _ HBo.out
  have s1 : w5.cell? ⟨O, 1, none⟩ = some (.slice aoo xs.length capo) := cell_of_row _ (O) 1 _ _ _ HBo.out
  have s2 : w5.cell? ⟨O, 2, none⟩ = some (.int .i64 c) := cell_of_row _ (O) 2 _ _ _ HBo.out
  have s3 : w5.cell? ⟨O, 3, none⟩ = some (.slice aoro rs.length capro) := cell_of_row _ (O) 3 _ _ _ HBo.out
  have z0 : w5.cell? ⟨w.heap.size, 0, none⟩ = some (.int .i64 n) := cell_of_row _ (w.heap.size) 0 _ _ _ HBz.out
  have z1 : w5.cell? ⟨w.heap.size, 1, none⟩ = some (.slice ao xs.length cap) := cell_of_row _ (w.heap.size) 1 _ _ _ HBz.out
  have z2 : w5.cell? ⟨w.heap.size, 2, none⟩ = some (.int .i64 c) := cell_of_row _ (w.heap.size) 2 _ _ _ HBz.out
  have z3 : w5.cell? ⟨w.heap.size, 3, none⟩ = some (.slice aor rs.length capr) := cell_of_row _ (w.heap.size) 3 _ _ _ HBz.out
  go_wp2_with fail
  refine (law_same23 n c _ _ _ _ xs rs _ Hvo.out Hro.out Hvz.out Hrz.out).mono ?_
  rintro e w6 ⟨rfl, hb⟩
  clear s0 s1 s2 s3
  clear z0 z1 z2 z3
  replace HBz := Lib.hid (hp_keep4 HBz.out hb)
  replace HBt := Lib.hid (hp_keep4 HBt.out hb)
  replace HBo := Lib.hid (hp_keep4 HBo.out hb)
  replace Hvz := Lib.hid (RL.keepb Hvz.out hb)
  replace Hrz := Lib.hid (RL.keepb Hrz.out hb)
  replace Hvo := Lib.hid (RL.keepb Hvo.out hb)
  replace Hro := Lib.hid (RL.keepb Hro.out hb)
  replace HGa := Lib.hid (GR.keepb HGa.out hb)
  replace HGb := Lib.hid (GR.keepb HGb.out hb)
  replace HW := Lib.hid (bt HW.out hb)
  clear hb
  go_wp2_with fail
  refine (law_awake _).mono ?_
  rintro e w7 ⟨rfl, hb⟩
  go_wp2_with fail
  go_ret
  exact ⟨rfl, bt HW.out hb⟩
end Go.Proofs.YtfphlpglgcmljaaGreat
