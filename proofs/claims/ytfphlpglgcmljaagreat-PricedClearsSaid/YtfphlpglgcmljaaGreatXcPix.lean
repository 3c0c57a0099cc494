/- Part of the proof of priced_clears_proved: Pix. -/
import Derived.Test.YtfphlpglgcmljaaGreatXcPrp
namespace Go.Proofs.YtfphlpglgcmljaaGreat
open Go.RowKit
set_option linter.unusedVariables false
theorem row_at {w : World} {b k t : Nat} {l : List Value} {v : Value} (h : w.heap[b]? = some (.cells l.toArray t (0, 0))) (hk : l[k]? = some v) : w.cell? ⟨b, k, none⟩ = some v := by
 rw [cell_of_row _ b k _ _ _ h]
 simpa using hk
set_option maxHeartbeats 2000000 in
theorem index_bool (b cap : Nat) (l : List Bool) (w : World) (hle : l.length ≤ 1000) (h : w.heap[b]? = some (.cells (l.map Value.bool).toArray 4 (0, 0))) :
  Calls Tryz.prog 131 #[.slice (some ⟨b, 0, none⟩) l.length cap, .bool true] w fun e w' => (∃ i : Int, e = .returned (.int .i64 i) ∧ decide (0 ≤ i) = l.any id) ∧ Below w.heap.size w w' := by
 have HB := Lib.hid h
 clear h
 go_enter Tryz.func131, Tryz.ntmps131
 go_wp2_with fail
 go_loopw [8] (fun i wr => ∃ k : Nat, k ≤ l.length ∧ i = .int .i64 k ∧ (l.take k).any id = false ∧ w = wr) (fun i _ => l.length - (intOf i).toNat)
 case atStart => exact ⟨0, Nat.zero_le _, rfl, by simp, rfl⟩
 case round =>
  obtain ⟨k, hk, rfl, ht, rfl⟩ := hrel
  have HT := Lib.hid ht
  clear ht
  by_cases hlt : k < l.length
  ·have htk : decide ((k : Int) < (l.length : Int)) = true := by simp; omega
   have e0 : w.cell? ⟨b, k, none⟩ = some (.bool l[k]) := row_at HB.out (by rw [List.getElem?_map, List.getElem?_eq_getElem hlt]; rfl)
   have HL := Lib.hid (List.take_succ_eq_append_getElem hlt)
   have k0 : (k : Int) < l.length := by omega
   have k1 : (0 : Int) ≤ (k : Int) := by omega
   have HX := Lib.hid (show l[k] = true → l.any id = true from fun e => List.any_eq_true.2 ⟨l[k], List.getElem_mem hlt, e⟩)
   generalize l[k] = x at *
   cases x with
   | true =>
    have HY := Lib.hid (HX.out rfl)
    go_wp2_with fail
    exact bodyPost_ret (v := .int .i64 k) (by simp [results, Tryz.results131, go_sem]) rfl ⟨⟨k, rfl, by rw [HY.out]; simp⟩, Below.refl _ _⟩
   | false =>
    have HQ := Lib.hid (show (l.take (k + 1)).any id = false by rw [HL.out, List.any_append, HT.out]; rfl)
    go_wp2_with fail
    go_roundw
    case rel => exact ⟨k + 1, by omega, by go_num, HQ.out, (by first | rfl | trivial)⟩
    case measure => simp [intOf]; omega
  ·have htk : decide ((k : Int) < (l.length : Int)) = false := by simp; omega
   have HY := Lib.hid (show l.any id = false by have e := HT.out; rwa [List.take_of_length_le (by omega)] at e)
   go_wp2_with fail
   exact bodyPost_ret (v := .int .i64 (-1)) (by simp [results, Tryz.results131, go_sem]) rfl ⟨⟨-1, rfl, by rw [HY.out]; rfl⟩, Below.refl _ _⟩
theorem contains_bool (b cap : Nat) (l : List Bool) (w : World) (hle : l.length ≤ 1000) (h : w.heap[b]? = some (.cells (l.map Value.bool).toArray 4 (0, 0))) :
  Calls Tryz.prog 73 #[.slice (some ⟨b, 0, none⟩) l.length cap, .bool true] w fun e w' => e = .returned (.bool (l.any id)) ∧ Below w.heap.size w w' := by
 have HC := Lib.hid (index_bool b cap l w hle h)
 clear h
 go_enter Tryz.func73, Tryz.ntmps73
 go_wp2_with fail
 refine HC.out.mono ?_
 rintro e w1 ⟨⟨i, rfl, hi⟩, hb⟩
 have Hi := Lib.hid hi
 clear hi
 go_wp2_with fail
 exact bodyPost_ret (v := .bool (l.any id)) (by simp [results, Tryz.results73, go_sem, Hi.out]) rfl ⟨rfl, hb⟩
end Go.Proofs.YtfphlpglgcmljaaGreat
