/- Part of the proof of priced_covers_proved: Pla. -/
import Derived.Test.YtfphlpglgcmljaaGreatXvPap
import Derived.Test.YtfphlpglgcmljaaGreatXvZof
import Derived.Test.YtfphlpglgcmljaaGreatXvHeldU
import Derived.Test.YtfphlpglgcmljaaGreatXvFresh
namespace Go.Proofs.YtfphlpglgcmljaaGreat
open Go.RowKit
set_option linter.unusedVariables false
set_option maxHeartbeats 1000000 in
theorem law_great23 (n k : Int) (v : Value) (xs : List Int) (w : World) (hv : RL w.heap.size w v xs) :
  Calls Tryz.prog 53 #[.agg #[.int .i64 n, v], .int .i64 k] w fun e w' => ∃ b, e = .returned (.bool b) ∧ (b = false → n ≤ k ∧ xs.length ≤ 200) ∧ Below w.heap.size w w' := by
 obtain ⟨ao, cap, rfl, hle, _⟩ := hv.open
 have hloc := Loc.one w (.cells #[.int .i64 n, .slice ao xs.length cap] 32) none
 clear hv
 by_cases h1 : k < n
 ·have h1' : decide (k < n) = true := by simpa using h1
  clear h1
  go_enter Tryz.func53, Tryz.ntmps53
  go_wp2_with fail
  go_ret
  exact ⟨true, rfl, (fun h => by cases h), below_grownBy hloc.grown⟩
 ·have h1' : decide (k < n) = false := by simpa using h1
  by_cases h2 : 200 < xs.length
  ·have h2' : decide ((200 : Int) < (xs.length : Int)) = true := by simp; omega
   clear h1 h2
   go_enter Tryz.func53, Tryz.ntmps53
   go_wp2_with fail
   go_ret
   exact ⟨true, rfl, (fun h => by cases h), below_grownBy hloc.grown⟩
  ·have h2' : decide ((200 : Int) < (xs.length : Int)) = false := by simp; omega
   have HL := Lib.hid (show n ≤ k ∧ xs.length ≤ 200 from ⟨by omega, by omega⟩)
   clear h1 h2
   go_enter Tryz.func53, Tryz.ntmps53
   go_wp2_with fail
   go_ret
   exact ⟨false, rfl, (fun _ => HL.out), below_grownBy hloc.grown⟩
set_option maxHeartbeats 1000000 in
theorem law_large23 (n c : Int) (v rv : Value) (xs rs : List Int) (w : World) (hv : RL w.heap.size w v xs) (hr : RL w.heap.size w rv rs) :
  Calls Tryz.prog 15 #[.agg #[.int .i64 n, v, .int .i64 c, rv]] w fun e w' => ∃ b, e = .returned (.bool b) ∧ (b = false → n ≤ 3 ∧ xs.length ≤ 200 ∧ rs.length ≤ 20) ∧ Below w.heap.size w w' := by
 have Hv := Lib.hid hv
 obtain ⟨ao, cap, rfl, hle, _⟩ := hv.open
 obtain ⟨aor, capr, rfl, hler, _⟩ := hr.open
 have hloc := Loc.one w (.cells #[.int .i64 n, .slice ao xs.length cap, .int .i64 c, .slice aor rs.length capr] 35) none
 clear hv hr
 go_enter Tryz.func15, Tryz.ntmps15
 go_wp2_with fail
 refine (law_great23 n 3 _ xs _ (Hv.out.keepb (below_grownBy hloc.grown))).mono ?_
 rintro e w1 ⟨b, rfl, hb, hb1⟩
 have hloc1 := hloc.next (grownBy_below hb1 none) (fun _ h => by cases h)
 have HB := Lib.hid hb
 clear hloc hb1 hb
 have z0 : w1.cell? ⟨w.heap.size, 0, none⟩ = some (.int .i64 n) := hloc1.cell 0 rfl 0
 have z1 : w1.cell? ⟨w.heap.size, 1, none⟩ = some (.slice ao xs.length cap) := hloc1.cell 0 rfl 1
 have z2 : w1.cell? ⟨w.heap.size, 2, none⟩ = some (.int .i64 c) := hloc1.cell 0 rfl 2
 have z3 : w1.cell? ⟨w.heap.size, 3, none⟩ = some (.slice aor rs.length capr) := hloc1.cell 0 rfl 3
 cases b with
 | true =>
  go_wp2_with fail
  go_ret
  exact ⟨true, rfl, (fun h => by cases h), below_grownBy hloc1.grown⟩
 | false =>
  by_cases h2 : 20 < rs.length
  ·have h2' : decide ((20 : Int) < (rs.length : Int)) = true := by simp; omega
   clear h2
   go_wp2_with fail
   go_ret
   exact ⟨true, rfl, (fun h => by cases h), below_grownBy hloc1.grown⟩
  ·have h2' : decide ((20 : Int) < (rs.length : Int)) = false := by simp; omega
   have HL := Lib.hid (show n ≤ 3 ∧ xs.length ≤ 200 ∧ rs.length ≤ 20 from ⟨(HB.out rfl).1, (HB.out rfl).2, by omega⟩)
   clear h2
   go_wp2_with fail
   go_ret
   exact ⟨false, rfl, (fun _ => HL.out), below_grownBy hloc1.grown⟩
theorem RL.off {w : World} {ao : Option Addr} {n c : Nat} {xs : List Int} {K o : Nat} {u : Value} (h : RL w.heap.size w (.slice ao n c) xs) (hne : n = 0 ∨ (Value.slice ao n c).ownBlock ≠ some K) :
  RL (w.setCell ⟨K, o, none⟩ u).heap.size (w.setCell ⟨K, o, none⟩ u) (.slice ao n c) xs := RL.other h hne
end Go.Proofs.YtfphlpglgcmljaaGreat
