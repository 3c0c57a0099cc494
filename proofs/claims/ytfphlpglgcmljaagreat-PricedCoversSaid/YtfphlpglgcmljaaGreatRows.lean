/-
  No cell of these rows narrows 'for every input' (looked for: loops, veiled, ifaces, maps, wideKeys, modest, calm, conditions, laid).
  DERIVED. THE GIVEN ROWS OF THIS SEAT. 8 by the template 'for every input the law returns true; each argument reads behind the call as it read before'; 0 by the template 'total and deterministic' (their statements: YtfphlpglgcmljaaGreatTotals.lean).
  GIVEN WITH THE SEED: the statements are not yours to turn. If you find one false, say at which input.
  Laid BY PROGRAM, IN A SANDBOX (cutbox-rows.mjs): the forced cells as the released guide's own fill.sh prints them over the translation 730c71d05366f2d5… (all of the seat's roots in one cut). By AI agents, Wed Nov 11 2026. No macro, syntax, notation, axiom, sorry.
-/
import Derived.Test.YtfphlpglgcmljaaGreatChecked
import GoSem.Claim
import GoSem.ClaimJoined
import GoSem.ClaimMapViews
import Derived.JoinedTies
import Derived.KernelRfl
namespace Go.Proofs.YtfphlpglgcmljaaGreat
/- THE CELL 'sum', in the pinned program and in every row, IS THE sha256 OF THE DUMP (.gsa) THAT YtfphlpglgcmljaaGreatProg.lean LOADS. Nothing in Lean hashes anything: it is a label: what it is worth is what the hold of that sum in a sandbox is worth. -/
noncomputable def Tryz.pinned : Pinned := { name := "ytfphlpglgcmljaagreat", sum := "730c71d05366f2d509c4c9311d790ad05b07c2327fd1d903de8d6ed4d0f5aafb", checked := Tryz.checked }
namespace Rows
def none {H : Type} : Left H := { results := [], args := [] }

/-- 'foliotlaw23.PricedFlats': WHATEVER THE INPUT: true; the input reads as it did. -/
def pricedFlatsSpec : ChangeSpec := { name := "pricedFlats", fn := fun _ => fun
  | [d] => { results := [.lit (.bool true)], args := [d] }
  | _ => none }
def pricedFlatsRow : OpenClaim := { program := "ytfphlpglgcmljaagreat", sum := "730c71d05366f2d509c4c9311d790ad05b07c2327fd1d903de8d6ed4d0f5aafb", func := "foliot/foliotlaw23.PricedFlats", spec := "pricedFlats", unfollowed := true, recurses := true, apart := false }
def PricedFlatsSaid : Prop := pricedFlatsRow.holds Tryz.pinned (OpenSpec.ofChange pricedFlatsSpec)

/-- ITS FALSE NEIGHBOUR: 'it returns false'. Refute it at one input. -/
def pricedFlatsWrong : ChangeSpec := { name := "pricedFlats", fn := fun _ => fun
  | [d] => { results := [.lit (.bool false)], args := [d] }
  | _ => none }
def PricedFlatsWrongFalsely : Prop := pricedFlatsRow.holds Tryz.pinned (OpenSpec.ofChange pricedFlatsWrong)

/-- 'foliotlaw23.PricedDelays': WHATEVER THE INPUT: true; the input reads as it did. -/
def pricedDelaysSpec : ChangeSpec := { name := "pricedDelays", fn := fun _ => fun
  | [d1, d2] => { results := [.lit (.bool true)], args := [d1, d2] }
  | _ => none }
def pricedDelaysRow : OpenClaim := { program := "ytfphlpglgcmljaagreat", sum := "730c71d05366f2d509c4c9311d790ad05b07c2327fd1d903de8d6ed4d0f5aafb", func := "foliot/foliotlaw23.PricedDelays", spec := "pricedDelays", unfollowed := true, recurses := true, apart := false }
def PricedDelaysSaid : Prop := pricedDelaysRow.holds Tryz.pinned (OpenSpec.ofChange pricedDelaysSpec)

/-- ITS FALSE NEIGHBOUR: 'it returns false'. Refute it at one input. -/
def pricedDelaysWrong : ChangeSpec := { name := "pricedDelays", fn := fun _ => fun
  | [d1, d2] => { results := [.lit (.bool false)], args := [d1, d2] }
  | _ => none }
def PricedDelaysWrongFalsely : Prop := pricedDelaysRow.holds Tryz.pinned (OpenSpec.ofChange pricedDelaysWrong)

/-- 'foliotlaw23.PricedResets': WHATEVER THE INPUT: true; the input reads as it did. -/
def pricedResetsSpec : ChangeSpec := { name := "pricedResets", fn := fun _ => fun
  | [d1, d2] => { results := [.lit (.bool true)], args := [d1, d2] }
  | _ => none }
def pricedResetsRow : OpenClaim := { program := "ytfphlpglgcmljaagreat", sum := "730c71d05366f2d509c4c9311d790ad05b07c2327fd1d903de8d6ed4d0f5aafb", func := "foliot/foliotlaw23.PricedResets", spec := "pricedResets", unfollowed := true, recurses := true, apart := false }
def PricedResetsSaid : Prop := pricedResetsRow.holds Tryz.pinned (OpenSpec.ofChange pricedResetsSpec)

/-- ITS FALSE NEIGHBOUR: 'it returns false'. Refute it at one input. -/
def pricedResetsWrong : ChangeSpec := { name := "pricedResets", fn := fun _ => fun
  | [d1, d2] => { results := [.lit (.bool false)], args := [d1, d2] }
  | _ => none }
def PricedResetsWrongFalsely : Prop := pricedResetsRow.holds Tryz.pinned (OpenSpec.ofChange pricedResetsWrong)

/-- 'foliotlaw23.PricedWaits': WHATEVER THE INPUT: true; the input reads as it did. -/
def pricedWaitsSpec : ChangeSpec := { name := "pricedWaits", fn := fun _ => fun
  | [d1, d2, d3] => { results := [.lit (.bool true)], args := [d1, d2, d3] }
  | _ => none }
def pricedWaitsRow : OpenClaim := { program := "ytfphlpglgcmljaagreat", sum := "730c71d05366f2d509c4c9311d790ad05b07c2327fd1d903de8d6ed4d0f5aafb", func := "foliot/foliotlaw23.PricedWaits", spec := "pricedWaits", unfollowed := true, recurses := true, apart := false }
def PricedWaitsSaid : Prop := pricedWaitsRow.holds Tryz.pinned (OpenSpec.ofChange pricedWaitsSpec)

/-- ITS FALSE NEIGHBOUR: 'it returns false'. Refute it at one input. -/
def pricedWaitsWrong : ChangeSpec := { name := "pricedWaits", fn := fun _ => fun
  | [d1, d2, d3] => { results := [.lit (.bool false)], args := [d1, d2, d3] }
  | _ => none }
def PricedWaitsWrongFalsely : Prop := pricedWaitsRow.holds Tryz.pinned (OpenSpec.ofChange pricedWaitsWrong)

/-- 'foliotlaw23.PricedClears': WHATEVER THE INPUT: true; the input reads as it did. -/
def pricedClearsSpec : ChangeSpec := { name := "pricedClears", fn := fun _ => fun
  | [d1, d2, d3] => { results := [.lit (.bool true)], args := [d1, d2, d3] }
  | _ => none }
def pricedClearsRow : OpenClaim := { program := "ytfphlpglgcmljaagreat", sum := "730c71d05366f2d509c4c9311d790ad05b07c2327fd1d903de8d6ed4d0f5aafb", func := "foliot/foliotlaw23.PricedClears", spec := "pricedClears", unfollowed := true, recurses := true, apart := false }
def PricedClearsSaid : Prop := pricedClearsRow.holds Tryz.pinned (OpenSpec.ofChange pricedClearsSpec)

/-- ITS FALSE NEIGHBOUR: 'it returns false'. Refute it at one input. -/
def pricedClearsWrong : ChangeSpec := { name := "pricedClears", fn := fun _ => fun
  | [d1, d2, d3] => { results := [.lit (.bool false)], args := [d1, d2, d3] }
  | _ => none }
def PricedClearsWrongFalsely : Prop := pricedClearsRow.holds Tryz.pinned (OpenSpec.ofChange pricedClearsWrong)

/-- 'foliotlaw23.PricedAnds': WHATEVER THE INPUT: true; the input reads as it did. -/
def pricedAndsSpec : ChangeSpec := { name := "pricedAnds", fn := fun _ => fun
  | [d1, d2, d3] => { results := [.lit (.bool true)], args := [d1, d2, d3] }
  | _ => none }
def pricedAndsRow : OpenClaim := { program := "ytfphlpglgcmljaagreat", sum := "730c71d05366f2d509c4c9311d790ad05b07c2327fd1d903de8d6ed4d0f5aafb", func := "foliot/foliotlaw23.PricedAnds", spec := "pricedAnds", unfollowed := true, recurses := true, apart := false }
def PricedAndsSaid : Prop := pricedAndsRow.holds Tryz.pinned (OpenSpec.ofChange pricedAndsSpec)

/-- ITS FALSE NEIGHBOUR: 'it returns false'. Refute it at one input. -/
def pricedAndsWrong : ChangeSpec := { name := "pricedAnds", fn := fun _ => fun
  | [d1, d2, d3] => { results := [.lit (.bool false)], args := [d1, d2, d3] }
  | _ => none }
def PricedAndsWrongFalsely : Prop := pricedAndsRow.holds Tryz.pinned (OpenSpec.ofChange pricedAndsWrong)

/-- 'foliotlaw23.PricedCovers': WHATEVER THE INPUT: true; the input reads as it did. -/
def pricedCoversSpec : ChangeSpec := { name := "pricedCovers", fn := fun _ => fun
  | [d1, d2] => { results := [.lit (.bool true)], args := [d1, d2] }
  | _ => none }
def pricedCoversRow : OpenClaim := { program := "ytfphlpglgcmljaagreat", sum := "730c71d05366f2d509c4c9311d790ad05b07c2327fd1d903de8d6ed4d0f5aafb", func := "foliot/foliotlaw23.PricedCovers", spec := "pricedCovers", unfollowed := true, recurses := true, apart := false }
def PricedCoversSaid : Prop := pricedCoversRow.holds Tryz.pinned (OpenSpec.ofChange pricedCoversSpec)

/-- ITS FALSE NEIGHBOUR: 'it returns false'. Refute it at one input. -/
def pricedCoversWrong : ChangeSpec := { name := "pricedCovers", fn := fun _ => fun
  | [d1, d2] => { results := [.lit (.bool false)], args := [d1, d2] }
  | _ => none }
def PricedCoversWrongFalsely : Prop := pricedCoversRow.holds Tryz.pinned (OpenSpec.ofChange pricedCoversWrong)

/-- 'foliotlaw23.PricedPoints': WHATEVER THE INPUT: true; the input reads as it did. -/
def pricedPointsSpec : ChangeSpec := { name := "pricedPoints", fn := fun _ => fun
  | [d1, d2] => { results := [.lit (.bool true)], args := [d1, d2] }
  | _ => none }
def pricedPointsRow : OpenClaim := { program := "ytfphlpglgcmljaagreat", sum := "730c71d05366f2d509c4c9311d790ad05b07c2327fd1d903de8d6ed4d0f5aafb", func := "foliot/foliotlaw23.PricedPoints", spec := "pricedPoints", unfollowed := true, recurses := true, apart := false }
def PricedPointsSaid : Prop := pricedPointsRow.holds Tryz.pinned (OpenSpec.ofChange pricedPointsSpec)

/-- ITS FALSE NEIGHBOUR: 'it returns false'. Refute it at one input. -/
def pricedPointsWrong : ChangeSpec := { name := "pricedPoints", fn := fun _ => fun
  | [d1, d2] => { results := [.lit (.bool false)], args := [d1, d2] }
  | _ => none }
def PricedPointsWrongFalsely : Prop := pricedPointsRow.holds Tryz.pinned (OpenSpec.ofChange pricedPointsWrong)

/- THE SECOND FORM. 'bulk': how many values and letters a reading holds, each counted each time it is reached (what is shared counts as often as it is met; a slice's spare places count too). A statement '..UptoSaid' is the law's where the arguments, and the package variables that the reading takes, are together of bulk at most 1048576: NARROWER than '..Said'. Prove '..Said' where nothing that the law and all that it calls make is longer than what came in: it says more and counts as full. Else prove '..UptoSaid'. A law counts once. -/
mutual
def uptoBulk {H : Type} : DataW H → Nat
  | .lit (.string bytes) => bytes.length + 1
  | .lit _ => 1
  | .nil => 1
  | .ptr d => uptoBulk d + 1
  | .slice elems spare => uptoBulkAll elems + uptoBulkAll spare + 1
  | .agg parts => uptoBulkAll parts + 1
  | .iface _ d => uptoBulk d + 1
  | .map entries => uptoBulkEntries entries + 1
  | .held _ => 1
def uptoBulkAll {H : Type} : List (DataW H) → Nat
  | [] => 0
  | d :: r => uptoBulk d + uptoBulkAll r
def uptoBulkEntries {H : Type} : List (Lit × DataW H) → Nat
  | [] => 0
  | x :: r => uptoBulkEntry x + uptoBulkEntries r
def uptoBulkEntry {H : Type} : Lit × DataW H → Nat
  | (.string bytes, d) => bytes.length + uptoBulk d + 1
  | (_, d) => uptoBulk d + 1
 end
def uptoSmall : (H : Type) → List (DataW H) → Bool := fun _ ds => decide (uptoBulkAll ds ≤ 1048576)
def OpenSpec.upto (s : _root_.Go.ChangeSpec) : _root_.Go.OpenSpec := { _root_.Go.OpenSpec.ofChange s with cond := some uptoSmall }

/-- 'foliotlaw23.PricedFlats', WHERE WHAT IT READS IS OF BULK AT MOST 1048576: true; the input reads as it did. -/
def pricedFlatsUptoRow : OpenClaim := { program := "ytfphlpglgcmljaagreat", sum := "730c71d05366f2d509c4c9311d790ad05b07c2327fd1d903de8d6ed4d0f5aafb", func := "foliot/foliotlaw23.PricedFlats", spec := "pricedFlats", unfollowed := true, recurses := true, apart := false, narrowed := true }
def PricedFlatsUptoSaid : Prop := pricedFlatsUptoRow.holds Tryz.pinned (OpenSpec.upto pricedFlatsSpec)

/-- 'foliotlaw23.PricedDelays', WHERE WHAT IT READS IS OF BULK AT MOST 1048576: true; the input reads as it did. -/
def pricedDelaysUptoRow : OpenClaim := { program := "ytfphlpglgcmljaagreat", sum := "730c71d05366f2d509c4c9311d790ad05b07c2327fd1d903de8d6ed4d0f5aafb", func := "foliot/foliotlaw23.PricedDelays", spec := "pricedDelays", unfollowed := true, recurses := true, apart := false, narrowed := true }
def PricedDelaysUptoSaid : Prop := pricedDelaysUptoRow.holds Tryz.pinned (OpenSpec.upto pricedDelaysSpec)

/-- 'foliotlaw23.PricedResets', WHERE WHAT IT READS IS OF BULK AT MOST 1048576: true; the input reads as it did. -/
def pricedResetsUptoRow : OpenClaim := { program := "ytfphlpglgcmljaagreat", sum := "730c71d05366f2d509c4c9311d790ad05b07c2327fd1d903de8d6ed4d0f5aafb", func := "foliot/foliotlaw23.PricedResets", spec := "pricedResets", unfollowed := true, recurses := true, apart := false, narrowed := true }
def PricedResetsUptoSaid : Prop := pricedResetsUptoRow.holds Tryz.pinned (OpenSpec.upto pricedResetsSpec)

/-- 'foliotlaw23.PricedWaits', WHERE WHAT IT READS IS OF BULK AT MOST 1048576: true; the input reads as it did. -/
def pricedWaitsUptoRow : OpenClaim := { program := "ytfphlpglgcmljaagreat", sum := "730c71d05366f2d509c4c9311d790ad05b07c2327fd1d903de8d6ed4d0f5aafb", func := "foliot/foliotlaw23.PricedWaits", spec := "pricedWaits", unfollowed := true, recurses := true, apart := false, narrowed := true }
def PricedWaitsUptoSaid : Prop := pricedWaitsUptoRow.holds Tryz.pinned (OpenSpec.upto pricedWaitsSpec)

/-- 'foliotlaw23.PricedClears', WHERE WHAT IT READS IS OF BULK AT MOST 1048576: true; the input reads as it did. -/
def pricedClearsUptoRow : OpenClaim := { program := "ytfphlpglgcmljaagreat", sum := "730c71d05366f2d509c4c9311d790ad05b07c2327fd1d903de8d6ed4d0f5aafb", func := "foliot/foliotlaw23.PricedClears", spec := "pricedClears", unfollowed := true, recurses := true, apart := false, narrowed := true }
def PricedClearsUptoSaid : Prop := pricedClearsUptoRow.holds Tryz.pinned (OpenSpec.upto pricedClearsSpec)

/-- 'foliotlaw23.PricedAnds', WHERE WHAT IT READS IS OF BULK AT MOST 1048576: true; the input reads as it did. -/
def pricedAndsUptoRow : OpenClaim := { program := "ytfphlpglgcmljaagreat", sum := "730c71d05366f2d509c4c9311d790ad05b07c2327fd1d903de8d6ed4d0f5aafb", func := "foliot/foliotlaw23.PricedAnds", spec := "pricedAnds", unfollowed := true, recurses := true, apart := false, narrowed := true }
def PricedAndsUptoSaid : Prop := pricedAndsUptoRow.holds Tryz.pinned (OpenSpec.upto pricedAndsSpec)

/-- 'foliotlaw23.PricedCovers', WHERE WHAT IT READS IS OF BULK AT MOST 1048576: true; the input reads as it did. -/
def pricedCoversUptoRow : OpenClaim := { program := "ytfphlpglgcmljaagreat", sum := "730c71d05366f2d509c4c9311d790ad05b07c2327fd1d903de8d6ed4d0f5aafb", func := "foliot/foliotlaw23.PricedCovers", spec := "pricedCovers", unfollowed := true, recurses := true, apart := false, narrowed := true }
def PricedCoversUptoSaid : Prop := pricedCoversUptoRow.holds Tryz.pinned (OpenSpec.upto pricedCoversSpec)

/-- 'foliotlaw23.PricedPoints', WHERE WHAT IT READS IS OF BULK AT MOST 1048576: true; the input reads as it did. -/
def pricedPointsUptoRow : OpenClaim := { program := "ytfphlpglgcmljaagreat", sum := "730c71d05366f2d509c4c9311d790ad05b07c2327fd1d903de8d6ed4d0f5aafb", func := "foliot/foliotlaw23.PricedPoints", spec := "pricedPoints", unfollowed := true, recurses := true, apart := false, narrowed := true }
def PricedPointsUptoSaid : Prop := pricedPointsUptoRow.holds Tryz.pinned (OpenSpec.upto pricedPointsSpec)

end Rows
end Go.Proofs.YtfphlpglgcmljaaGreat
