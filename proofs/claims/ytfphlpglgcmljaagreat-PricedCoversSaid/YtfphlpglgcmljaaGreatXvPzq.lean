/- Part of the proof of priced_covers_proved: Pzq. -/
import Derived.Test.YtfphlpglgcmljaaGreatXvPap
import Derived.Test.YtfphlpglgcmljaaGreatXvPand2
namespace Go.Proofs.YtfphlpglgcmljaaGreat
open Go.RowKit
set_option linter.unusedVariables false
def cst0 (N : Nat) (xs : List Int) (c : Int) (rs zs : List Int) : Int := cstTo N xs c rs (fun j => lowF N zs j) N
theorem cst_R (N : Nat) (xs : List Int) (c : Int) (rs zs : List Int) : cstTo N xs c rs (fun j => gi (crR N zs N) (j - 1)) N = cst0 N xs c rs zs :=
 cstTo_congr N (fun j h1 h2 => by show gi (crR N zs N) (j - 1) = _; rw [crR_at (by omega), show j - 1 + 1 = j by omega])
theorem cst_P (N : Nat) (xs : List Int) (c : Int) (rs zs : List Int) : cstTo N xs c rs (fun j => gi (crTo N zs N) j) N = cst0 N xs c rs zs :=
 cstTo_congr N (fun j h1 h2 => by show gi (crTo N zs N) j = _; rw [crTo_at h2, if_pos ⟨h1, h2⟩])
end Go.Proofs.YtfphlpglgcmljaaGreat
