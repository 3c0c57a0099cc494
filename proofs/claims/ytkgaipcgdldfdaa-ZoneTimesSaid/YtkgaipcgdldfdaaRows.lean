/-
  No cell of these rows narrows 'for every input' (looked for: loops, veiled, ifaces, maps, wideKeys, modest, calm, conditions, laid).
  DERIVED. THE GIVEN ROWS OF THIS SEAT. 9 by the template 'for every input the law returns true; each argument reads behind the call as it read before'; 0 by the template 'total and deterministic' (their statements: YtkgaipcgdldfdaaTotals.lean).
  GIVEN WITH THE SEED: the statements are not yours to turn. If you find one false, say at which input.
  Laid BY PROGRAM, IN A SANDBOX (cutbox-rows.mjs): the forced cells as the released guide's own fill.sh prints them over the translation 9bc5e7ca5d71d19d… (all of the seat's roots in one cut). By AI agents, Wed Nov 11 2026. No macro, syntax, notation, axiom, sorry.
-/
import Derived.Test.YtkgaipcgdldfdaaChecked
import GoSem.Claim
import GoSem.ClaimJoined
import GoSem.ClaimMapViews
import Derived.JoinedTies
import Derived.KernelRfl
namespace Go.Proofs.Ytkgaipcgdldfdaa
/- THE CELL 'sum', in the pinned program and in every row, IS THE sha256 OF THE DUMP (.gsa) THAT YtkgaipcgdldfdaaProg.lean LOADS. Nothing in Lean hashes anything: it is a label: what it is worth is what the hold of that sum in a sandbox is worth. -/
noncomputable def Try.pinned : Pinned := { name := "ytkgaipcgdldfdaa", sum := "9bc5e7ca5d71d19d46bdfb9dfe48e339095ff1fb442df1e6e4c2c9eb67e9db2b", checked := Try.checked }
namespace Rows
def none {H : Type} : Left H := { results := [], args := [] }

/-- 'foliotlaw04.MinimalReduces': WHATEVER THE INPUT: true; the input reads as it did. -/
def minimalReducesSpec : ChangeSpec := { name := "minimalReduces", fn := fun _ => fun
  | [d] => { results := [.lit (.bool true)], args := [d] }
  | _ => none }
def minimalReducesRow : OpenClaim := { program := "ytkgaipcgdldfdaa", sum := "9bc5e7ca5d71d19d46bdfb9dfe48e339095ff1fb442df1e6e4c2c9eb67e9db2b", func := "foliot/foliotlaw04.MinimalReduces", spec := "minimalReduces", unfollowed := true, recurses := true, apart := false }
def MinimalReducesSaid : Prop := minimalReducesRow.holds Try.pinned (OpenSpec.ofChange minimalReducesSpec)

/-- ITS FALSE NEIGHBOUR: 'it returns false'. Refute it at one input. -/
def minimalReducesWrong : ChangeSpec := { name := "minimalReduces", fn := fun _ => fun
  | [d] => { results := [.lit (.bool false)], args := [d] }
  | _ => none }
def MinimalReducesWrongFalsely : Prop := minimalReducesRow.holds Try.pinned (OpenSpec.ofChange minimalReducesWrong)

/-- 'foliotlaw04.MinimalBuilds': WHATEVER THE INPUT: true; the input reads as it did. -/
def minimalBuildsSpec : ChangeSpec := { name := "minimalBuilds", fn := fun _ => fun
  | [d1, d2] => { results := [.lit (.bool true)], args := [d1, d2] }
  | _ => none }
def minimalBuildsRow : OpenClaim := { program := "ytkgaipcgdldfdaa", sum := "9bc5e7ca5d71d19d46bdfb9dfe48e339095ff1fb442df1e6e4c2c9eb67e9db2b", func := "foliot/foliotlaw04.MinimalBuilds", spec := "minimalBuilds", unfollowed := true, recurses := true, apart := false }
def MinimalBuildsSaid : Prop := minimalBuildsRow.holds Try.pinned (OpenSpec.ofChange minimalBuildsSpec)

/-- ITS FALSE NEIGHBOUR: 'it returns false'. Refute it at one input. -/
def minimalBuildsWrong : ChangeSpec := { name := "minimalBuilds", fn := fun _ => fun
  | [d1, d2] => { results := [.lit (.bool false)], args := [d1, d2] }
  | _ => none }
def MinimalBuildsWrongFalsely : Prop := minimalBuildsRow.holds Try.pinned (OpenSpec.ofChange minimalBuildsWrong)

/-- 'foliotlaw04.MinimalBack': WHATEVER THE INPUT: true; the input reads as it did. -/
def minimalBackSpec : ChangeSpec := { name := "minimalBack", fn := fun _ => fun
  | [d1, d2] => { results := [.lit (.bool true)], args := [d1, d2] }
  | _ => none }
def minimalBackRow : OpenClaim := { program := "ytkgaipcgdldfdaa", sum := "9bc5e7ca5d71d19d46bdfb9dfe48e339095ff1fb442df1e6e4c2c9eb67e9db2b", func := "foliot/foliotlaw04.MinimalBack", spec := "minimalBack", unfollowed := true, recurses := true, apart := false }
def MinimalBackSaid : Prop := minimalBackRow.holds Try.pinned (OpenSpec.ofChange minimalBackSpec)

/-- ITS FALSE NEIGHBOUR: 'it returns false'. Refute it at one input. -/
def minimalBackWrong : ChangeSpec := { name := "minimalBack", fn := fun _ => fun
  | [d1, d2] => { results := [.lit (.bool false)], args := [d1, d2] }
  | _ => none }
def MinimalBackWrongFalsely : Prop := minimalBackRow.holds Try.pinned (OpenSpec.ofChange minimalBackWrong)

/-- 'foliotlaw03.ZoneCloses': WHATEVER THE INPUT: true; the input reads as it did. -/
def zoneClosesSpec : ChangeSpec := { name := "zoneCloses", fn := fun _ => fun
  | [d1, d2] => { results := [.lit (.bool true)], args := [d1, d2] }
  | _ => none }
def zoneClosesRow : OpenClaim := { program := "ytkgaipcgdldfdaa", sum := "9bc5e7ca5d71d19d46bdfb9dfe48e339095ff1fb442df1e6e4c2c9eb67e9db2b", func := "foliot/foliotlaw03.ZoneCloses", spec := "zoneCloses", unfollowed := true, recurses := true, apart := false }
def ZoneClosesSaid : Prop := zoneClosesRow.holds Try.pinned (OpenSpec.ofChange zoneClosesSpec)

/-- ITS FALSE NEIGHBOUR: 'it returns false'. Refute it at one input. -/
def zoneClosesWrong : ChangeSpec := { name := "zoneCloses", fn := fun _ => fun
  | [d1, d2] => { results := [.lit (.bool false)], args := [d1, d2] }
  | _ => none }
def ZoneClosesWrongFalsely : Prop := zoneClosesRow.holds Try.pinned (OpenSpec.ofChange zoneClosesWrong)

/-- 'foliotlaw03.ZonePoints': WHATEVER THE INPUT: true; the input reads as it did. -/
def zonePointsSpec : ChangeSpec := { name := "zonePoints", fn := fun _ => fun
  | [d1, d2] => { results := [.lit (.bool true)], args := [d1, d2] }
  | _ => none }
def zonePointsRow : OpenClaim := { program := "ytkgaipcgdldfdaa", sum := "9bc5e7ca5d71d19d46bdfb9dfe48e339095ff1fb442df1e6e4c2c9eb67e9db2b", func := "foliot/foliotlaw03.ZonePoints", spec := "zonePoints", unfollowed := true, recurses := true, apart := false }
def ZonePointsSaid : Prop := zonePointsRow.holds Try.pinned (OpenSpec.ofChange zonePointsSpec)

/-- ITS FALSE NEIGHBOUR: 'it returns false'. Refute it at one input. -/
def zonePointsWrong : ChangeSpec := { name := "zonePoints", fn := fun _ => fun
  | [d1, d2] => { results := [.lit (.bool false)], args := [d1, d2] }
  | _ => none }
def ZonePointsWrongFalsely : Prop := zonePointsRow.holds Try.pinned (OpenSpec.ofChange zonePointsWrong)

/-- 'foliotlaw03.ZoneAnds': WHATEVER THE INPUT: true; the input reads as it did. -/
def zoneAndsSpec : ChangeSpec := { name := "zoneAnds", fn := fun _ => fun
  | [d1, d2] => { results := [.lit (.bool true)], args := [d1, d2] }
  | _ => none }
def zoneAndsRow : OpenClaim := { program := "ytkgaipcgdldfdaa", sum := "9bc5e7ca5d71d19d46bdfb9dfe48e339095ff1fb442df1e6e4c2c9eb67e9db2b", func := "foliot/foliotlaw03.ZoneAnds", spec := "zoneAnds", unfollowed := true, recurses := true, apart := false }
def ZoneAndsSaid : Prop := zoneAndsRow.holds Try.pinned (OpenSpec.ofChange zoneAndsSpec)

/-- ITS FALSE NEIGHBOUR: 'it returns false'. Refute it at one input. -/
def zoneAndsWrong : ChangeSpec := { name := "zoneAnds", fn := fun _ => fun
  | [d1, d2] => { results := [.lit (.bool false)], args := [d1, d2] }
  | _ => none }
def ZoneAndsWrongFalsely : Prop := zoneAndsRow.holds Try.pinned (OpenSpec.ofChange zoneAndsWrong)

/-- 'foliotlaw03.ZoneSteps': WHATEVER THE INPUT: true; the input reads as it did. -/
def zoneStepsSpec : ChangeSpec := { name := "zoneSteps", fn := fun _ => fun
  | [d] => { results := [.lit (.bool true)], args := [d] }
  | _ => none }
def zoneStepsRow : OpenClaim := { program := "ytkgaipcgdldfdaa", sum := "9bc5e7ca5d71d19d46bdfb9dfe48e339095ff1fb442df1e6e4c2c9eb67e9db2b", func := "foliot/foliotlaw03.ZoneSteps", spec := "zoneSteps", unfollowed := true, recurses := true, apart := false }
def ZoneStepsSaid : Prop := zoneStepsRow.holds Try.pinned (OpenSpec.ofChange zoneStepsSpec)

/-- ITS FALSE NEIGHBOUR: 'it returns false'. Refute it at one input. -/
def zoneStepsWrong : ChangeSpec := { name := "zoneSteps", fn := fun _ => fun
  | [d] => { results := [.lit (.bool false)], args := [d] }
  | _ => none }
def ZoneStepsWrongFalsely : Prop := zoneStepsRow.holds Try.pinned (OpenSpec.ofChange zoneStepsWrong)

/-- 'foliotlaw03.ZoneTimes': WHATEVER THE INPUT: true; the input reads as it did. -/
def zoneTimesSpec : ChangeSpec := { name := "zoneTimes", fn := fun _ => fun
  | [d1, d2, d3] => { results := [.lit (.bool true)], args := [d1, d2, d3] }
  | _ => none }
def zoneTimesRow : OpenClaim := { program := "ytkgaipcgdldfdaa", sum := "9bc5e7ca5d71d19d46bdfb9dfe48e339095ff1fb442df1e6e4c2c9eb67e9db2b", func := "foliot/foliotlaw03.ZoneTimes", spec := "zoneTimes", unfollowed := true, recurses := true, apart := false }
def ZoneTimesSaid : Prop := zoneTimesRow.holds Try.pinned (OpenSpec.ofChange zoneTimesSpec)

/-- ITS FALSE NEIGHBOUR: 'it returns false'. Refute it at one input. -/
def zoneTimesWrong : ChangeSpec := { name := "zoneTimes", fn := fun _ => fun
  | [d1, d2, d3] => { results := [.lit (.bool false)], args := [d1, d2, d3] }
  | _ => none }
def ZoneTimesWrongFalsely : Prop := zoneTimesRow.holds Try.pinned (OpenSpec.ofChange zoneTimesWrong)

/-- 'foliotlaw03.ZoneTwos': WHATEVER THE INPUT: true; the input reads as it did. -/
def zoneTwosSpec : ChangeSpec := { name := "zoneTwos", fn := fun _ => fun
  | [d1, d2] => { results := [.lit (.bool true)], args := [d1, d2] }
  | _ => none }
def zoneTwosRow : OpenClaim := { program := "ytkgaipcgdldfdaa", sum := "9bc5e7ca5d71d19d46bdfb9dfe48e339095ff1fb442df1e6e4c2c9eb67e9db2b", func := "foliot/foliotlaw03.ZoneTwos", spec := "zoneTwos", unfollowed := true, recurses := true, apart := false }
def ZoneTwosSaid : Prop := zoneTwosRow.holds Try.pinned (OpenSpec.ofChange zoneTwosSpec)

/-- ITS FALSE NEIGHBOUR: 'it returns false'. Refute it at one input. -/
def zoneTwosWrong : ChangeSpec := { name := "zoneTwos", fn := fun _ => fun
  | [d1, d2] => { results := [.lit (.bool false)], args := [d1, d2] }
  | _ => none }
def ZoneTwosWrongFalsely : Prop := zoneTwosRow.holds Try.pinned (OpenSpec.ofChange zoneTwosWrong)

/- THE SECOND FORM. 'bulk': how many values and letters a reading holds, each counted each time it is reached (what is shared counts as often as it is met; a slice's spare places count too). A statement '..UptoSaid' is the law's where the arguments, and the package variables that the reading takes, are together of bulk at most 1048576: NARROWER than '..Said'. Prove '..Said' where nothing that the law and all that it calls make is longer than what came in: it says more and counts as full. Else prove '..UptoSaid'. A law counts once. -/
mutual
def uptoBulk {H : Type} : DataW H → Nat
  | .lit (.string bytes) => bytes.length + 1
  | .lit _ => 1
  | .nil => 1
  | .ptr d => uptoBulk d + 1
  | .slice elems spare => uptoBulkAll elems + uptoBulkAll spare + 1
  | .agg parts => uptoBulkAll parts + 1
  | .iface _ d => uptoBulk d + 1
  | .map entries => uptoBulkEntries entries + 1
  | .held _ => 1
def uptoBulkAll {H : Type} : List (DataW H) → Nat
  | [] => 0
  | d :: r => uptoBulk d + uptoBulkAll r
def uptoBulkEntries {H : Type} : List (Lit × DataW H) → Nat
  | [] => 0
  | x :: r => uptoBulkEntry x + uptoBulkEntries r
def uptoBulkEntry {H : Type} : Lit × DataW H → Nat
  | (.string bytes, d) => bytes.length + uptoBulk d + 1
  | (_, d) => uptoBulk d + 1
 end
def uptoSmall : (H : Type) → List (DataW H) → Bool := fun _ ds => decide (uptoBulkAll ds ≤ 1048576)
def OpenSpec.upto (s : _root_.Go.ChangeSpec) : _root_.Go.OpenSpec := { _root_.Go.OpenSpec.ofChange s with cond := some uptoSmall }

/-- 'foliotlaw04.MinimalReduces', WHERE WHAT IT READS IS OF BULK AT MOST 1048576: true; the input reads as it did. -/
def minimalReducesUptoRow : OpenClaim := { program := "ytkgaipcgdldfdaa", sum := "9bc5e7ca5d71d19d46bdfb9dfe48e339095ff1fb442df1e6e4c2c9eb67e9db2b", func := "foliot/foliotlaw04.MinimalReduces", spec := "minimalReduces", unfollowed := true, recurses := true, apart := false, narrowed := true }
def MinimalReducesUptoSaid : Prop := minimalReducesUptoRow.holds Try.pinned (OpenSpec.upto minimalReducesSpec)

/-- 'foliotlaw04.MinimalBuilds', WHERE WHAT IT READS IS OF BULK AT MOST 1048576: true; the input reads as it did. -/
def minimalBuildsUptoRow : OpenClaim := { program := "ytkgaipcgdldfdaa", sum := "9bc5e7ca5d71d19d46bdfb9dfe48e339095ff1fb442df1e6e4c2c9eb67e9db2b", func := "foliot/foliotlaw04.MinimalBuilds", spec := "minimalBuilds", unfollowed := true, recurses := true, apart := false, narrowed := true }
def MinimalBuildsUptoSaid : Prop := minimalBuildsUptoRow.holds Try.pinned (OpenSpec.upto minimalBuildsSpec)

/-- 'foliotlaw04.MinimalBack', WHERE WHAT IT READS IS OF BULK AT MOST 1048576: true; the input reads as it did. -/
def minimalBackUptoRow : OpenClaim := { program := "ytkgaipcgdldfdaa", sum := "9bc5e7ca5d71d19d46bdfb9dfe48e339095ff1fb442df1e6e4c2c9eb67e9db2b", func := "foliot/foliotlaw04.MinimalBack", spec := "minimalBack", unfollowed := true, recurses := true, apart := false, narrowed := true }
def MinimalBackUptoSaid : Prop := minimalBackUptoRow.holds Try.pinned (OpenSpec.upto minimalBackSpec)

/-- 'foliotlaw03.ZoneCloses', WHERE WHAT IT READS IS OF BULK AT MOST 1048576: true; the input reads as it did. -/
def zoneClosesUptoRow : OpenClaim := { program := "ytkgaipcgdldfdaa", sum := "9bc5e7ca5d71d19d46bdfb9dfe48e339095ff1fb442df1e6e4c2c9eb67e9db2b", func := "foliot/foliotlaw03.ZoneCloses", spec := "zoneCloses", unfollowed := true, recurses := true, apart := false, narrowed := true }
def ZoneClosesUptoSaid : Prop := zoneClosesUptoRow.holds Try.pinned (OpenSpec.upto zoneClosesSpec)

/-- 'foliotlaw03.ZonePoints', WHERE WHAT IT READS IS OF BULK AT MOST 1048576: true; the input reads as it did. -/
def zonePointsUptoRow : OpenClaim := { program := "ytkgaipcgdldfdaa", sum := "9bc5e7ca5d71d19d46bdfb9dfe48e339095ff1fb442df1e6e4c2c9eb67e9db2b", func := "foliot/foliotlaw03.ZonePoints", spec := "zonePoints", unfollowed := true, recurses := true, apart := false, narrowed := true }
def ZonePointsUptoSaid : Prop := zonePointsUptoRow.holds Try.pinned (OpenSpec.upto zonePointsSpec)

/-- 'foliotlaw03.ZoneAnds', WHERE WHAT IT READS IS OF BULK AT MOST 1048576: true; the input reads as it did. -/
def zoneAndsUptoRow : OpenClaim := { program := "ytkgaipcgdldfdaa", sum := "9bc5e7ca5d71d19d46bdfb9dfe48e339095ff1fb442df1e6e4c2c9eb67e9db2b", func := "foliot/foliotlaw03.ZoneAnds", spec := "zoneAnds", unfollowed := true, recurses := true, apart := false, narrowed := true }
def ZoneAndsUptoSaid : Prop := zoneAndsUptoRow.holds Try.pinned (OpenSpec.upto zoneAndsSpec)

/-- 'foliotlaw03.ZoneSteps', WHERE WHAT IT READS IS OF BULK AT MOST 1048576: true; the input reads as it did. -/
def zoneStepsUptoRow : OpenClaim := { program := "ytkgaipcgdldfdaa", sum := "9bc5e7ca5d71d19d46bdfb9dfe48e339095ff1fb442df1e6e4c2c9eb67e9db2b", func := "foliot/foliotlaw03.ZoneSteps", spec := "zoneSteps", unfollowed := true, recurses := true, apart := false, narrowed := true }
def ZoneStepsUptoSaid : Prop := zoneStepsUptoRow.holds Try.pinned (OpenSpec.upto zoneStepsSpec)

/-- 'foliotlaw03.ZoneTimes', WHERE WHAT IT READS IS OF BULK AT MOST 1048576: true; the input reads as it did. -/
def zoneTimesUptoRow : OpenClaim := { program := "ytkgaipcgdldfdaa", sum := "9bc5e7ca5d71d19d46bdfb9dfe48e339095ff1fb442df1e6e4c2c9eb67e9db2b", func := "foliot/foliotlaw03.ZoneTimes", spec := "zoneTimes", unfollowed := true, recurses := true, apart := false, narrowed := true }
def ZoneTimesUptoSaid : Prop := zoneTimesUptoRow.holds Try.pinned (OpenSpec.upto zoneTimesSpec)

/-- 'foliotlaw03.ZoneTwos', WHERE WHAT IT READS IS OF BULK AT MOST 1048576: true; the input reads as it did. -/
def zoneTwosUptoRow : OpenClaim := { program := "ytkgaipcgdldfdaa", sum := "9bc5e7ca5d71d19d46bdfb9dfe48e339095ff1fb442df1e6e4c2c9eb67e9db2b", func := "foliot/foliotlaw03.ZoneTwos", spec := "zoneTwos", unfollowed := true, recurses := true, apart := false, narrowed := true }
def ZoneTwosUptoSaid : Prop := zoneTwosUptoRow.holds Try.pinned (OpenSpec.upto zoneTwosSpec)

end Rows
end Go.Proofs.Ytkgaipcgdldfdaa
