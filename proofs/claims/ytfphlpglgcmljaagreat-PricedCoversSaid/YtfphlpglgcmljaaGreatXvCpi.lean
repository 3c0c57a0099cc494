/- Part of the proof of priced_covers_proved: Cpi. -/
import Derived.Test.YtfphlpglgcmljaaGreatXvCph
import Derived.Test.YtfphlpglgcmljaaGreatXvPla
import Derived.Test.YtfphlpglgcmljaaGreatXvPaw
namespace Go.Proofs.YtfphlpglgcmljaaGreat
open Go.RowKit
set_option linter.unusedVariables false
set_option linter.unusedSimpArgs false
set_option linter.unnecessarySimpa false
set_option maxRecDepth 100000 in
set_option maxHeartbeats 16000000 in
theorem law_priced_covers (n c n2 c2 : Int) (v rv v2 rv2 : Value) (xs rs ys rs2 : List Int) (w : World) (hv : RL w.heap.size w v xs) (hr : RL w.heap.size w rv rs) (hv2 : RL w.heap.size w v2 ys) (hr2 : RL w.heap.size w rv2 rs2) :
  Calls Tryz.prog 9 #[.agg #[.int .i64 n, v, .int .i64 c, rv], .agg #[.int .i64 n2, v2, .int .i64 c2, rv2]] w fun e w' => e = .returned (.bool true) ∧ Below w.heap.size w w' := by
 obtain ⟨ao, cap, rfl, _, _⟩ := hv.open
 obtain ⟨aor, capr, rfl, _, _⟩ := hr.open
 obtain ⟨ao2, cap2, rfl, _, _⟩ := hv2.open
 obtain ⟨aor2, capr2, rfl, _, _⟩ := hr2.open
 have hloc := Loc.two w (.cells #[.int .i64 n, .slice ao xs.length cap, .int .i64 c, .slice aor rs.length capr] 35) (.cells #[.int .i64 n2, .slice ao2 ys.length cap2, .int .i64 c2, .slice aor2 rs2.length capr2] 35) none
 have hbw := below_grownBy hloc.grown
 have hqa : ((w.alloc (.cells #[.int .i64 n, .slice ao xs.length cap, .int .i64 c, .slice aor rs.length capr] 35)).alloc (.cells #[.int .i64 n2, .slice ao2 ys.length cap2, .int .i64 c2, .slice aor2 rs2.length capr2] 35)).heap[w.heap.size]? = some (.cells #[.int .i64 n, .slice ao xs.length cap, .int .i64 c, .slice aor rs.length capr] 35 (0, 0)) := hloc.objs 0 (by simp)
 have hqb : ((w.alloc (.cells #[.int .i64 n, .slice ao xs.length cap, .int .i64 c, .slice aor rs.length capr] 35)).alloc (.cells #[.int .i64 n2, .slice ao2 ys.length cap2, .int .i64 c2, .slice aor2 rs2.length capr2] 35)).heap[w.heap.size + 1]? = some (.cells #[.int .i64 n2, .slice ao2 ys.length cap2, .int .i64 c2, .slice aor2 rs2.length capr2] 35 (0, 0)) := hloc.objs 1 (by simp)
 have hva := hv.keepb hbw
 have hra := hr.keepb hbw
 have hvb := hv2.keepb hbw
 have hrb := hr2.keepb hbw
 clear hv hr hv2 hr2 hloc
 go_enter Tryz.func9, Tryz.ntmps9
 go_upto_region 1 with fail
 generalize ((w.alloc (.cells #[.int .i64 n, .slice ao xs.length cap, .int .i64 c, .slice aor rs.length capr] 35)).alloc (.cells #[.int .i64 n2, .slice ao2 ys.length cap2, .int .i64 c2, .slice aor2 rs2.length capr2] 35)) = X1 at *
 have HW := Lib.hid hbw
 have HBa := Lib.hid hqa
 have HBb := Lib.hid hqb
 have Hva := Lib.hid hva
 have Hra := Lib.hid hra
 have Hvb := Lib.hid hvb
 have Hrb := Lib.hid hrb
 clear hbw hqa hqb hva hra hvb hrb
 have p0 : X1.cell? ⟨w.heap.size, 0, none⟩ = some (.int .i64 n) := cell_of_row _ (w.heap.size) 0 _ _ _ HBa.out
 have p1 : X1.cell? ⟨w.heap.size, 1, none⟩ = some (.slice ao xs.length cap) := cell_of_row _ (w.heap.size) 1 _ _ _ HBa.out
 have p2 : X1.cell? ⟨w.heap.size, 2, none⟩ = some (.int .i64 c) := cell_of_row _ (w.heap.size) 2 _ _ _ HBa.out
 have p3 : X1.cell? ⟨w.heap.size, 3, none⟩ = some (.slice aor rs.length capr) := cell_of_row _ (w.heap.size) 3 _ _ _ HBa.out
 go_wp2_with fail
 refine (law_large23 n c _ _ xs rs _ Hva.out Hra.out).mono ?_
 rintro e w1 ⟨bl, rfl, hbl, hb⟩
 clear p0 p1 p2 p3
 replace HBa := Lib.hid (hp_keep4 HBa.out hb)
 replace HBb := Lib.hid (hp_keep4 HBb.out hb)
 replace Hva := Lib.hid (RL.keepb Hva.out hb)
 replace Hra := Lib.hid (RL.keepb Hra.out hb)
 replace Hvb := Lib.hid (RL.keepb Hvb.out hb)
 replace Hrb := Lib.hid (RL.keepb Hrb.out hb)
 replace HW := Lib.hid (bt HW.out hb)
 clear hb
 cases bl with
 | true =>
  clear hbl
  go_wp2_with fail
  refine (law_awake _).mono ?_
  rintro e w9 ⟨rfl, hb⟩
  have HWz := Lib.hid (bt HW.out hb)
  clear hb
  go_wp2_with fail
  go_ret
  exact ⟨rfl, HWz.out⟩
 | false =>
  have H3a := Lib.hid (hbl rfl).1
  clear hbl
  have q0 : w1.cell? ⟨w.heap.size + 1, 0, none⟩ = some (.int .i64 n2) := cell_of_row _ (w.heap.size + 1) 0 _ _ _ HBb.out
  have q1 : w1.cell? ⟨w.heap.size + 1, 1, none⟩ = some (.slice ao2 ys.length cap2) := cell_of_row _ (w.heap.size + 1) 1 _ _ _ HBb.out
  have q2 : w1.cell? ⟨w.heap.size + 1, 2, none⟩ = some (.int .i64 c2) := cell_of_row _ (w.heap.size + 1) 2 _ _ _ HBb.out
  have q3 : w1.cell? ⟨w.heap.size + 1, 3, none⟩ = some (.slice aor2 rs2.length capr2) := cell_of_row _ (w.heap.size + 1) 3 _ _ _ HBb.out
  go_wp2_with fail
  refine (law_large23 n2 c2 _ _ ys rs2 _ Hvb.out Hrb.out).mono ?_
  rintro e w2 ⟨bl, rfl, hbl, hb⟩
  clear hbl
  clear q0 q1 q2 q3
  replace HBa := Lib.hid (hp_keep4 HBa.out hb)
  replace HBb := Lib.hid (hp_keep4 HBb.out hb)
  replace Hva := Lib.hid (RL.keepb Hva.out hb)
  replace Hra := Lib.hid (RL.keepb Hra.out hb)
  replace Hvb := Lib.hid (RL.keepb Hvb.out hb)
  replace Hrb := Lib.hid (RL.keepb Hrb.out hb)
  replace HW := Lib.hid (bt HW.out hb)
  clear hb
  cases bl with
  | true =>
   go_wp2_with fail
   refine (law_awake _).mono ?_
   rintro e w9 ⟨rfl, hb⟩
   have HWz := Lib.hid (bt HW.out hb)
   clear hb
   go_wp2_with fail
   go_ret
   exact ⟨rfl, HWz.out⟩
  | false =>
   obtain ⟨cb, ce, hcf⟩ : ∃ b x, covF n xs c rs n2 ys c2 rs2 = (b, x) := ⟨_, _, rfl⟩
   have HF := Lib.hid hcf
   clear hcf
   have p0 : w2.cell? ⟨w.heap.size, 0, none⟩ = some (.int .i64 n) := cell_of_row _ (w.heap.size) 0 _ _ _ HBa.out
   have p1 : w2.cell? ⟨w.heap.size, 1, none⟩ = some (.slice ao xs.length cap) := cell_of_row _ (w.heap.size) 1 _ _ _ HBa.out
   have p2 : w2.cell? ⟨w.heap.size, 2, none⟩ = some (.int .i64 c) := cell_of_row _ (w.heap.size) 2 _ _ _ HBa.out
   have p3 : w2.cell? ⟨w.heap.size, 3, none⟩ = some (.slice aor rs.length capr) := cell_of_row _ (w.heap.size) 3 _ _ _ HBa.out
   have q0 : w2.cell? ⟨w.heap.size + 1, 0, none⟩ = some (.int .i64 n2) := cell_of_row _ (w.heap.size + 1) 0 _ _ _ HBb.out
   have q1 : w2.cell? ⟨w.heap.size + 1, 1, none⟩ = some (.slice ao2 ys.length cap2) := cell_of_row _ (w.heap.size + 1) 1 _ _ _ HBb.out
   have q2 : w2.cell? ⟨w.heap.size + 1, 2, none⟩ = some (.int .i64 c2) := cell_of_row _ (w.heap.size + 1) 2 _ _ _ HBb.out
   have q3 : w2.cell? ⟨w.heap.size + 1, 3, none⟩ = some (.slice aor2 rs2.length capr2) := cell_of_row _ (w.heap.size + 1) 3 _ _ _ HBb.out
   go_wp2_with fail
   refine (prog_covers n c n2 c2 _ _ _ _ xs rs ys rs2 _ Hva.out Hra.out Hvb.out Hrb.out H3a.out).mono ?_
   rintro e w3 ⟨he, hb⟩
   rw [HF.out] at he
   obtain rfl : e = .returned (.tuple #[.bool cb, .int .i64 ce]) := he
   clear p0 p1 p2 p3
   clear q0 q1 q2 q3
   replace HBa := Lib.hid (hp_keep4 HBa.out hb)
   replace HBb := Lib.hid (hp_keep4 HBb.out hb)
   replace Hva := Lib.hid (RL.keepb Hva.out hb)
   replace Hra := Lib.hid (RL.keepb Hra.out hb)
   replace Hvb := Lib.hid (RL.keepb Hvb.out hb)
   replace Hrb := Lib.hid (RL.keepb Hrb.out hb)
   replace HW := Lib.hid (bt HW.out hb)
   clear hb
   have p0 : w3.cell? ⟨w.heap.size, 0, none⟩ = some (.int .i64 n) := cell_of_row _ (w.heap.size) 0 _ _ _ HBa.out
   have p1 : w3.cell? ⟨w.heap.size, 1, none⟩ = some (.slice ao xs.length cap) := cell_of_row _ (w.heap.size) 1 _ _ _ HBa.out
   have p2 : w3.cell? ⟨w.heap.size, 2, none⟩ = some (.int .i64 c) := cell_of_row _ (w.heap.size) 2 _ _ _ HBa.out
   have p3 : w3.cell? ⟨w.heap.size, 3, none⟩ = some (.slice aor rs.length capr) := cell_of_row _ (w.heap.size) 3 _ _ _ HBa.out
   have q0 : w3.cell? ⟨w.heap.size + 1, 0, none⟩ = some (.int .i64 n2) := cell_of_row _ (w.heap.size + 1) 0 _ _ _ HBb.out
   have q1 : w3.cell? ⟨w.heap.size + 1, 1, none⟩ = some (.slice ao2 ys.length cap2) := cell_of_row _ (w.heap.size + 1) 1 _ _ _ HBb.out
   have q2 : w3.cell? ⟨w.heap.size + 1, 2, none⟩ = some (.int .i64 c2) := cell_of_row _ (w.heap.size + 1) 2 _ _ _ HBb.out
   have q3 : w3.cell? ⟨w.heap.size + 1, 3, none⟩ = some (.slice aor2 rs2.length capr2) := cell_of_row _ (w.heap.size + 1) 3 _ _ _ HBb.out
   go_wp2_with fail
   refine (ref_covers n c n2 c2 _ _ _ _ xs rs ys rs2 _ Hva.out Hra.out Hvb.out Hrb.out H3a.out).mono ?_
   rintro e w4 ⟨he, hb⟩
   rw [HF.out] at he
   obtain rfl : e = .returned (.tuple #[.bool cb, .int .i64 ce]) := he
   clear p0 p1 p2 p3
   clear q0 q1 q2 q3
   replace HBa := Lib.hid (hp_keep4 HBa.out hb)
   replace HBb := Lib.hid (hp_keep4 HBb.out hb)
   replace Hva := Lib.hid (RL.keepb Hva.out hb)
   replace Hra := Lib.hid (RL.keepb Hra.out hb)
   replace Hvb := Lib.hid (RL.keepb Hvb.out hb)
   replace Hrb := Lib.hid (RL.keepb Hrb.out hb)
   replace HW := Lib.hid (bt HW.out hb)
   clear hb
   have e1 : (cb == cb) = true := by simp
   have e2 : (ce == ce) = true := by simp
   go_wp2_with fail
   refine (law_awake _).mono ?_
   rintro e w9 ⟨rfl, hb⟩
   have HWz := Lib.hid (bt HW.out hb)
   clear hb
   go_wp2_with fail
   go_ret
   exact ⟨rfl, HWz.out⟩
end Go.Proofs.YtfphlpglgcmljaaGreat
