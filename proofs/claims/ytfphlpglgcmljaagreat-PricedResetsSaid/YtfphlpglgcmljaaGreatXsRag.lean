/- Part of the proof of priced_resets_proved: Rag. -/
import Derived.Test.YtfphlpglgcmljaaGreatXsPix
namespace Go.Proofs.YtfphlpglgcmljaaGreat
open Go.RowKit
set_option linter.unusedVariables false
def agA (N : Nat) (xs : List Int) (x j : Nat) (up : Bool) : Int := if up = true then ent N xs x j / 2 else -(ent N xs j x / 2)
def agB (N : Nat) (xs : List Int) (x j : Nat) (up : Bool) : Bool := decide ((if up = true then ent N xs x j else ent N xs j x) ≠ 1099511627776)
theorem agA_is (N : Nat) (xs : List Int) (x j : Nat) (s : Int) : agA N xs x j (decide (s < 0)) = atF N xs x s j := by unfold agA atF; simp
theorem agB_is (N : Nat) (xs : List Int) (x j : Nat) (s : Int) : agB N xs x j (decide (s < 0)) = !noF N xs x s j := by
 unfold agB noF
 by_cases h : s < 0 <;> simp [h]
set_option maxHeartbeats 2000000 in
theorem ref_against (N x j : Nat) (v : Value) (xs : List Int) (up : Bool) (w : World) (hv : RL w.heap.size w v xs) (hok : OkZ N xs) (hx : x ≤ N) (hj : j ≤ N) :
  Calls Tryz.prog 81 #[.agg #[.int .i64 N, v], .int .i64 x, .int .i64 j, .bool up] w fun e w' => e = .returned (.tuple #[.int .i64 (agA N xs x j up), .bool (agB N xs x j up)]) ∧ Below w.heap.size w w' := by
 have Hv := Lib.hid hv
 have Hok := Lib.hid hok
 obtain ⟨ao, cap, rfl, hle, _⟩ := hv.open
 have bd := ent_bd hok hj hx
 have hba := (Below.refl w.heap.size w).alloc (Nat.le_refl _) (.cells #[.int .i64 N, .slice ao xs.length cap] 32)
 have HBz := Lib.hid (heap_alloc_new w (.cells #[.int .i64 N, .slice ao xs.length cap] 32))
 have HW := Lib.hid hba
 clear hv hok hba
 go_enter Tryz.func81, Tryz.ntmps81
 go_upto_region 1 with fail
 generalize w.alloc (.cells #[.int .i64 N, .slice ao xs.length cap] 32) = X at *
 have z0 : X.cell? ⟨w.heap.size, 0, none⟩ = some (.int .i64 N) := cell_of_row _ (w.heap.size) 0 _ _ _ HBz.out
 have z1 : X.cell? ⟨w.heap.size, 1, none⟩ = some (.slice ao xs.length cap) := cell_of_row _ (w.heap.size) 1 _ _ _ HBz.out
 cases up with
 | true =>
  go_wp2_with fail
  refine (ref_bound N _ (x : Int) (j : Int) xs _ (Hv.out.keepb HW.out) Hok.out (by omega) (by omega) (by omega) (by omega)).mono ?_
  rw [Int.toNat_natCast, Int.toNat_natCast]
  rintro e w1 ⟨rfl, hb⟩
  generalize hV : ent N xs x j / 2 = V at *
  generalize hD : decide (ent N xs x j ≠ 1099511627776) = D at *
  have HE := Lib.hid (show (Ending.returned (.tuple #[.int .i64 V, .bool D]) : Ending) = .returned (.tuple #[.int .i64 (agA N xs x j true), .bool (agB N xs x j true)]) from by unfold agA agB; rw [if_pos rfl, if_pos rfl, hV, hD])
  clear hV hD
  go_wp2_with fail
  exact bodyPost_ret (v := .tuple #[.int .i64 V, .bool D]) (by simp [results, Tryz.results81, go_sem]) rfl ⟨HE.out, bt HW.out hb⟩
 | false =>
  go_wp2_with fail
  refine (ref_bound N _ (j : Int) (x : Int) xs _ (Hv.out.keepb HW.out) Hok.out (by omega) (by omega) (by omega) (by omega)).mono ?_
  rw [Int.toNat_natCast, Int.toNat_natCast]
  rintro e w1 ⟨rfl, hb⟩
  obtain ⟨V, hV⟩ : ∃ V, ent N xs j x / 2 = V := ⟨_, rfl⟩
  obtain ⟨V2, hV2⟩ : ∃ V2, -V = V2 := ⟨_, rfl⟩
  have hw1 : IntKind.i64.wrap (-V) = V2 := by rw [← hV2]; exact wrap_self (by omega)
  have hw2 : wrap64 (-V) = V2 := (wrap_w64 _).trans hw1
  obtain ⟨D, hD⟩ : ∃ D, decide (ent N xs j x ≠ 1099511627776) = D := ⟨_, rfl⟩
  have HE := Lib.hid (show (Ending.returned (.tuple #[.int .i64 V2, .bool D]) : Ending) = .returned (.tuple #[.int .i64 (agA N xs x j false), .bool (agB N xs x j false)]) from by unfold agA agB; rw [if_neg (by decide), if_neg (by decide), hV, hV2, hD])
  rw [hV, hD]
  clear hV hD hV2 bd
  go_wp2_with fail
  exact bodyPost_ret (v := .tuple #[.int .i64 V2, .bool D]) (by simp [results, Tryz.results81, go_sem]) rfl ⟨HE.out, bt HW.out hb⟩
end Go.Proofs.YtfphlpglgcmljaaGreat
