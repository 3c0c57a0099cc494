/- The numbers of law 3's shown. -/
import Derived.Test.YtkgaipcgdldfdaaOkb
import Derived.Test.YtkgaipcgdldfdaaSta
import Derived.Test.YtkgaipcgdldfdaaLit
namespace Go.Proofs.Ytkgaipcgdldfdaa
open Go.RowKit
set_option linter.unusedVariables false

def sz0 : List Int := [1, 1, 1, 1, 1, 1, 1, 1, 1]
def su0 : List Int := [1, 1, 1, 1099511627776, 1, 1, 1099511627776, 1, 1]
def sa0 : List Int := [1, -3, -3, 1099511627776, 1, 1, 1099511627776, 1, 1]
def sr0 : List Int := [1, -3, 1, 1099511627776, 1, 1099511627776, 1, -3, 1]
def sd0 : List Int := [1, -5, 11, 1]
theorem s3_zero : fillF 2 1 = (0, sz0) := by decide +kernel
theorem s3_okz : OkZ (2 : Nat) sz0 := OkZ.ofB (N := 2) (by decide +kernel)
theorem s3_oku : OkZ (2 : Nat) su0 := OkZ.ofB (N := 2) (by decide +kernel)
theorem s3_oka : OkZ (2 : Nat) sa0 := OkZ.ofB (N := 2) (by decide +kernel)
theorem s3_okr : OkZ (2 : Nat) sr0 := OkZ.ofB (N := 2) (by decide +kernel)
theorem s3_okd : OkZ (1 : Nat) sd0 := OkZ.ofB (N := 1) (by decide +kernel)
theorem s3_up : upF 2 sz0 = (0, su0) := by
  unfold upF
  rw [show ((2 : Int)) = ((2 : Nat) : Int) from rfl, chgF_yes s3_okz rfl]
  decide +kernel
theorem s3_and : andF 2 su0 [(0, 1, -3)] = (0, sa0) := by
  rw [show ((2 : Int)) = ((2 : Nat) : Int) from rfl, andF_yes s3_oku (by unfold AllK; decide +kernel)]
  decide +kernel
theorem s3_and2 : andF 2 sa0 [(2, 0, 4)] = (4, []) := by
  rw [show ((2 : Int)) = ((2 : Nat) : Int) from rfl, andF_yes s3_oka (by unfold AllK; decide +kernel)]
  decide +kernel
theorem s3_reset : resetF 2 sa0 2 0 = (0, sr0) := by
  unfold resetF
  rw [show (clkB 2 2 && conB 0) = true by decide]
  rw [show chgF 2 sa0 = chgF ((2 : Nat) : Int) sa0 from rfl, chgF_yes s3_oka rfl]
  decide +kernel
theorem spanTo_i64 (N : Nat) (xs : List Int) (Q : List (Int × Int)) (i j : Nat) : I64 (spanTo N xs Q i j).ln ∧ I64 (spanTo N xs Q i j).hn := by
  induction j with
  | zero => unfold spanTo sp0 I64; simp
  | succ j ih => exact cutF_i64 _ _ _ _ (cutF_i64 _ _ _ _ ih)
instance (n : Int) : Decidable (I64 n) := by unfold I64; exact inferInstance
theorem s3_pt : Pt 2 sr0 [(0, 1), (2, 1), (0, 1)] where
  len := rfl
  first := rfl
  num := by
    intro j hj
    have h : j = 0 ∨ j = 1 ∨ j = 2 := by omega
    rcases h with rfl | rfl | rfl <;> decide +kernel
  s1 := fun i j _ _ => spanTo_i64 _ _ _ _ _
  s2 := fun i j _ _ => cutF_i64 _ _ _ _ (spanTo_i64 _ _ _ _ _)
  ok := by
    intro i h1 h2
    have h : i = 1 ∨ i = 2 := by omega
    rcases h with rfl | rfl <;> decide +kernel
theorem s3_pok : PtOk 1 [(1, 2)] where
  len := rfl
  bd := by
    intro j hj
    have h : j = 0 ∨ j = 1 := by omega
    rcases h with rfl | rfl <;> decide +kernel
  val := by
    intro j hj
    have h : j = 0 ∨ j = 1 := by omega
    rcases h with rfl | rfl <;> decide +kernel
  sub := by
    intro i j h1 h2
    obtain rfl : i = 1 := by omega
    obtain rfl : j = 0 := by omega
    decide +kernel
theorem s3_su : SuTo 1 sd0 [(0, 1), (1, 2)] 1 (1 + 1) := by
  intro i h1 h2 j h3 h4
  obtain rfl : i = 1 := by omega
  obtain rfl : j = 1 := by omega
  decide +kernel
theorem s3_st : stayTo 1 sd0 [(0, 1), (1, 2)] 1 = ⟨5, 2, 9, 2, false, false, false, false⟩ := by decide +kernel
theorem s3_sp : SpOk (stayTo 1 sd0 [(0, 1), (1, 2)] 1) := by rw [s3_st]; unfold SpOk; decide +kernel
end Go.Proofs.Ytkgaipcgdldfdaa
