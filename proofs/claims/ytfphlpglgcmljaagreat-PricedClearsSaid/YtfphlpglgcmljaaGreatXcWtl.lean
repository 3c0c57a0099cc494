/- Part of the proof of priced_clears_proved: Wtl. -/
import Derived.Test.YtfphlpglgcmljaaGreatXcWtq
import Derived.Test.YtfphlpglgcmljaaGreatXcSta
namespace Go.Proofs.YtfphlpglgcmljaaGreat
open Go.RowKit
set_option linter.unusedVariables false
def rat1 (us : List Int) : List (Int × Int) := us.map fun x => (x, (1 : Int))
theorem rat1_len (us : List Int) : (rat1 us).length = us.length := by simp [rat1]
theorem rat1_take {us : List Int} {k : Nat} (hk : k < us.length) : (rat1 us).take (k + 1) = (rat1 us).take k ++ [(gi us k, 1)] := by
 rw [List.take_succ_eq_append_getElem (by rw [rat1_len]; exact hk)]
 congr 2
 simp only [rat1, List.getElem_map]
 rw [gi_of hk]
theorem rat1_pts {us : List Int} {vs : List Int} {d : Int} (hl : us.length = vs.length) (h : ∀ k, k < vs.length → gi us k = gi vs k - d) : rat1 us = ipts (pv vs d) vs.length := by
 apply List.ext_getElem
 ·rw [rat1_len, ipts_len, hl]
 ·intro k h1 h2
  rw [rat1_len] at h1
  simp only [rat1, ipts, List.getElem_map, List.getElem_range]
  rw [pv_s (by omega), show k + 1 - 1 = k by omega, ← h k (by omega), gi_of h1]
theorem OQ.keepw {t base : Nat} {w w' : World} {v : Value} {ps : List (Int × Int)} (h : OQ t base w v ps) (hb : Below w.heap.size w w') : OQ t base w' v ps :=
 World.ownsRow.kept h (grownBy_below hb none) (by cases hh : v.ownBlock with | none => exact .inl rfl | some b => exact .inr (by simp))
set_option maxRecDepth 100000 in
set_option maxHeartbeats 4000000 in
theorem law_ratios (v : Value) (us : List Int) (w : World) (hv : RL w.heap.size w v us) (hn : us.length ≤ 100) (hb : ∀ k, k < us.length → -1000000 ≤ gi us k ∧ gi us k ≤ 1000000) :
  Calls Tryz.prog 25 #[v] w fun e w' => (∃ v', e = .returned v' ∧ OQ 56 w.heap.size w' v' (rat1 us)) ∧ Below w.heap.size w w' := by
 obtain ⟨aor, capr, rfl, hler, h0r⟩ := hv.open
 have H0r := Lib.hid h0r
 have HB := Lib.hid hb
 clear hv h0r hb
 go_enter Tryz.func25, Tryz.ntmps25
 go_wp2_with fail
 go_loopw [3, 4] (fun o i wr => ∃ k : Nat, k ≤ us.length ∧ i = .int .i64 k ∧ OQ 56 w.heap.size wr o ((rat1 us).take k) ∧ Below w.heap.size w wr) (fun _ i _ => us.length - (intOf i).toNat)
 case atStart => exact ⟨0, Nat.zero_le _, rfl, by rw [List.take_zero]; exact World.ownsRow_nil _ _ _ _, Below.refl _ _⟩
 case round =>
  obtain ⟨k, hk, rfl, hown, hw⟩ := hrel
  have Hown := Lib.hid hown
  have HW := Lib.hid hw
  clear hown hw
  by_cases hlt : k < us.length
  rotate_left
  ·have htk : decide ((k : Int) < (us.length : Int)) = false := by simp; omega
   have HE := Lib.hid (show (rat1 us).take k = rat1 us by rw [List.take_of_length_le (by rw [rat1_len]; omega)])
   go_wp2_with fail
   go_ret
   exact ⟨⟨_, rfl, by rw [← HE.out]; exact Hown.out⟩, HW.out⟩
  have htk : decide ((k : Int) < (us.length : Int)) = true := by simp; omega
  obtain ⟨b, off, rfl, hb, hc⟩ := H0r.out (by omega)
  obtain ⟨E, hE⟩ : ∃ E, gi us k = E := ⟨_, rfl⟩
  have hbd := HB.out k hlt
  rw [hE] at hbd
  have x0 : wr.cell? ⟨b, off + k, none⟩ = some (.int .i64 E) := by
   have h := ((bcell HW.out).1 b (off + k) hb).trans (hc k hlt)
   rw [hE] at h
   exact h
  have k0 : (k : Int) < us.length := by omega
  have k1 : (0 : Int) ≤ (k : Int) := by omega
  have HM := Lib.hid (show mkR E 1 = ((E, 1), 0) from mk_one (by omega) (by omega))
  have HT := Lib.hid (show (rat1 us).take (k + 1) = (rat1 us).take k ++ [(E, 1)] by rw [rat1_take hlt, hE])
  have Htl := Lib.hid (show ((rat1 us).take k).length = k by rw [List.length_take, rat1_len]; omega)
  clear hc hE
  go_wp2_with fail
  refine (r1_of E _ ⟨by omega, by omega⟩).mono ?_
  rintro e w1 ⟨he, hb1⟩
  rw [HM.out] at he
  obtain rfl : e = .returned (.tuple #[.agg #[.int .i64 E, .int .i64 1], .int .i64 0]) := he
  have HW1 := Lib.hid (bt HW.out hb1)
  have hown1 : OQ 56 w.heap.size w1 u3 ((rat1 us).take k) := OQ.keepw Hown.out hb1
  clear HW Hown hb1 x0
  have hW2 := bal HW1.out (.cells #[.int .i64 E, .int .i64 1] 56)
  have hnew := heap_alloc_new w1 (.cells #[.int .i64 E, .int .i64 1] 56)
  have hown2 : OQ 56 w.heap.size (w1.alloc (.cells #[.int .i64 E, .int .i64 1] 56)) u3 ((rat1 us).take k) := World.ownsRow.alloc hown1 _
  clear hown1
  go_upto_region 6 with fail
  have x0 := cell_of_row _ w1.heap.size 0 _ _ _ hnew
  have x1 := cell_of_row _ w1.heap.size 1 _ _ _ hnew
  generalize hgen : w1.alloc (.cells #[.int .i64 E, .int .i64 1] 56) = X at *
  clear hgen hnew
  have hown3 := Lib.hid (show OQ 56 w.heap.size (X.alloc (.cells #[.int .i64 E, .int .i64 1] 56)) u3 ((rat1 us).take k) from World.ownsRow.alloc hown2 _)
  have hrl := Lib.hid (rs_one2 X E 1 56)
  have hbX := Lib.hid (bal hW2 (.cells #[.int .i64 E, .int .i64 1] 56))
  have hXs : w.heap.size ≤ X.heap.size := hW2.size
  obtain ⟨i0, hi0, hz0, hz1, hz2⟩ := info_parts Tryz.infoQ
  have Hi := Lib.hid hi0
  have Hz0 := Lib.hid hz0
  have Hz1 := Lib.hid hz1
  have Hz2 := Lib.hid hz2
  clear hi0 hz0 hz1 hz2 hown2 hW2
  go_wp2_with (at_builtin; (refine wpList_append_rs rfl (.tmp 21) (.tmp 23) 53 rfl w.heap.size 56 i0 (.agg #[.int .i64 0, .int .i64 0]) 2 16 Tryz.undRatios Hi.out Hz0.out Hz1.out Hz2.out rfl (by decide) u3 ((rat1 us).take k).length (((rat1 us).take k).flatMap cells2) rfl hown3.out (X.heap.size + 1) (.slice (some ⟨X.heap.size, 0, none⟩) 1 1) rfl 1 [.int .i64 E, .int .i64 1] hrl.out rfl ?_ ?_ ?_ ?_ ?_; (intro u hu; simp only [List.mem_cons, List.not_mem_nil, or_false] at hu; rcases hu with rfl | rfl <;> rfl); (have := Htl.out; unfold maxLen; omega); (have := Htl.out; omega); (simp; omega); intro v' w' ho' hg'))
  have hfin := hbX.out.grown hg' hbX.out.size (fun g e => (World.ownsRow.lt hown3.out g e).1)
  go_roundw
  case rel => exact ⟨k + 1, by omega, by go_num, by rw [HT.out]; unfold OQ; rw [List.length_append, List.flatMap_append]; exact ho', hfin⟩
  case measure => simp [intOf]; omega
end Go.Proofs.YtfphlpglgcmljaaGreat
