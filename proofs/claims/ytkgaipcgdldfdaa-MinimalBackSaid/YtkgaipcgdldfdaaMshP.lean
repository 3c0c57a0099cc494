/- The numbers of the law's shown. -/
import Derived.Test.YtkgaipcgdldfdaaOkb
import Derived.Test.YtkgaipcgdldfdaaBld
import Derived.Test.YtkgaipcgdldfdaaMrd
namespace Go.Proofs.Ytkgaipcgdldfdaa
open Go.RowKit
set_option linter.unusedVariables false

def zz9 : List Int := [1, 1, 1, 1, 1, 1, 1, 1, 1]
def topM2 : List Int := [1, 1, 1, 1099511627776, 1, 1099511627776, 1099511627776, 1099511627776, 1]
def topM1 : List Int := [1, 1, 1099511627776, 1]
def sh2 : List (Int × Int × Int) := [(1, 2, 1), (2, 0, 1)]
theorem fill_zero2 : fillF 2 1 = (0, zz9) := by decide +kernel
theorem fill_top2 : fillF 2 1099511627776 = (0, topM2) := by decide +kernel
theorem fill_top1 : fillF 1 1099511627776 = (0, topM1) := by decide +kernel
theorem ok_zero2 : OkZ (2 : Nat) zz9 := OkZ.ofB (N := 2) (by decide +kernel)
theorem ok_top2 : OkZ (2 : Nat) topM2 := OkZ.ofB (N := 2) (by decide +kernel)
theorem ok_top1 : OkZ (1 : Nat) topM1 := OkZ.ofB (N := 1) (by decide +kernel)
theorem red_zero2 : redTo 2 zz9 (pkB 2 zz9) 3 = sh2 := by
  rw [red_eq ok_zero2 3 (by omega)]; decide +kernel
theorem build_sh2 : buildF 2 sh2 = (0, zz9) := by
  rw [buildF_yes (by rw [fill_top2]), fill_top2]
  rw [show ((2 : Int)) = ((2 : Nat) : Int) from rfl, andF_yes ok_top2 (by unfold AllK; decide +kernel)]
  decide +kernel
theorem build_no1 : buildF 1 [(1, 0, 0)] = (4, []) := by
  rw [buildF_yes (by rw [fill_top1]), fill_top1]
  rw [show ((1 : Int)) = ((1 : Nat) : Int) from rfl, andF_yes ok_top1 (by unfold AllK; decide +kernel)]
  decide +kernel
end Go.Proofs.Ytkgaipcgdldfdaa
