/- Part of the proof of priced_covers_proved: Cut, Pt, Sta. -/
import Derived.Deep.DeepCutAuto
import Derived.Deep.RegionHeld3
import Derived.Test.YtfphlpglgcmljaaGreatXvRmu
import Derived.Test.YtfphlpglgcmljaaGreatXvRat
import Derived.Test.YtfphlpglgcmljaaGreatXvBox
import Derived.Test.YtfphlpglgcmljaaGreatXvQ
import Derived.Test.YtfphlpglgcmljaaGreatXvZprog
namespace Go.Proofs.YtfphlpglgcmljaaGreat
open Go.RowKit
set_option linter.unusedVariables false
structure Sp where
 ln : Int
 ld : Int
 hn : Int
 hd : Int
 lo : Bool
 ho : Bool
 nh : Bool
 wd : Bool
deriving DecidableEq
def Sp.cs (s : Sp) : Array Value := #[.int .i64 s.ln, .int .i64 s.ld, .int .i64 s.hn, .int .i64 s.hd, .bool s.lo, .bool s.ho, .bool s.nh, .bool s.wd]
def cutY (xn xd l : Int) (ab : Bool) : (Int × Int) × Int := addR xn xd (if ab then - spC l else spC l) 1
def cutF (s : Sp) (xn xd l : Int) (ab : Bool) : Sp :=
  if spE l ≠ 0 then s
  else if (cutY xn xd l ab).2 ≠ 0 then { s with wd := true }
  else if ab = true then
    (if -(cmR (cutY xn xd l ab).1.1 (cutY xn xd l ab).1.2 s.ln s.ld).1 < 0 then { s with ln := (cutY xn xd l ab).1.1, ld := (cutY xn xd l ab).1.2, lo := spS l }
     else if -(cmR (cutY xn xd l ab).1.1 (cutY xn xd l ab).1.2 s.ln s.ld).1 = 0 then { s with lo := s.lo || spS l } else s)
  else if s.nh = true then { s with hn := (cutY xn xd l ab).1.1, hd := (cutY xn xd l ab).1.2, ho := spS l, nh := false }
  else (if (cmR (cutY xn xd l ab).1.1 (cutY xn xd l ab).1.2 s.hn s.hd).1 < 0 then { s with hn := (cutY xn xd l ab).1.1, hd := (cutY xn xd l ab).1.2, ho := spS l, nh := false }
     else if (cmR (cutY xn xd l ab).1.1 (cutY xn xd l ab).1.2 s.hn s.hd).1 = 0 then { s with ho := s.ho || spS l } else s)
set_option linter.unusedVariables false
def sp0 : Sp := ⟨0, 1, 0, 0, false, false, true, false⟩
def spanTo (N : Nat) (xs : List Int) (q : List (Int × Int)) (i : Nat) : Nat → Sp
 | 0 => sp0
 | j + 1 => cutF (cutF (spanTo N xs q i j) (gq q j).1 (gq q j).2 (ent N xs i j) false) (gq q j).1 (gq q j).2 (ent N xs j i) true
def OQ (t base : Nat) (w : World) (v : Value) (ps : List (Int × Int)) : Prop := w.ownsRow base t 2 v ps.length (ps.flatMap cells2)
theorem OQ.at {t base g n cap : Nat} {w : World} {cs : List (Int × Int)} (h : OQ t base w (.slice (some ⟨g, 0, none⟩) n cap) cs) {j : Nat} (hj : j < cs.length) : w.cell? ⟨g, j * 2, none⟩ = some (.int .i64 (gq cs j).1) ∧ w.cell? ⟨g, j * 2 + 1, none⟩ = some (.int .i64 (gq cs j).2) := by
 obtain ⟨f1, f2⟩ := flat2 cs j hj
 have hn : n = cs.length := by
  rcases h.2 with ⟨h1, _⟩ | ⟨g', cap', cur, h1, _⟩
  ·cases h1
  ·simp only [Value.slice.injEq] at h1; exact h1.2.1
 subst hn
 exact ⟨(World.ownsRow.cellAt h (j * 2) (by omega)).trans f1, (World.ownsRow.cellAt h (j * 2 + 1) (by omega)).trans f2⟩
structure Pt (N : Nat) (xs : List Int) (q : List (Int × Int)) : Prop where
 len : q.length = N + 1
 first : gq q 0 = (0, 1)
 num : ∀ j, j ≤ N → I64 (gq q j).1
 s1 : ∀ i j, i ≤ N → j ≤ i → I64 (spanTo N xs q i j).ln ∧ I64 (spanTo N xs q i j).hn
 s2 : ∀ i j, i ≤ N → j < i → I64 (cutF (spanTo N xs q i j) (gq q j).1 (gq q j).2 (ent N xs i j) false).ln ∧ I64 (cutF (spanTo N xs q i j) (gq q j).1 (gq q j).2 (ent N xs i j) false).hn
 ok : ∀ i, 1 ≤ i → i ≤ N → (spanTo N xs q i i).wd = false ∧ (spanTo N xs q i i).lo = false ∧ gq q i = ((spanTo N xs q i i).ln, (spanTo N xs q i i).ld)
set_option linter.unusedVariables false
end Go.Proofs.YtfphlpglgcmljaaGreat
namespace Go.Proofs.YtfphlpglgcmljaaGreat
open Go.RowKit
set_option linter.unusedVariables false
structure PtOk (N : Nat) (ps : List (Int × Int)) : Prop where
 len : ps.length = N
 bd : ∀ k, k ≤ N → I64 (gq ((0, 1) :: ps) k).1
 val : ∀ k, k ≤ N → vr (gq ((0, 1) :: ps) k).1 (gq ((0, 1) :: ps) k).2 = true ∧ 0 ≤ (gq ((0, 1) :: ps) k).1
 sub : ∀ i j, i ≤ N → j < i → (sbR (gq ((0, 1) :: ps) i).1 (gq ((0, 1) :: ps) i).2 (gq ((0, 1) :: ps) j).1 (gq ((0, 1) :: ps) j).2).2 = 0
theorem OQ.mono {t base base' : Nat} {w : World} {v : Value} {ps : List (Int × Int)} (h : OQ t base' w v ps) (hb : base ≤ base') : OQ t base w v ps := by
 refine ⟨h.1, ?_⟩
 rcases h.2 with h2 | ⟨g, cap, cur, h2, h3, h4⟩
 ·exact .inl h2
 ·exact .inr ⟨g, cap, cur, h2, by omega, h4⟩
set_option linter.unusedVariables false
end Go.Proofs.YtfphlpglgcmljaaGreat
namespace Go.Proofs.YtfphlpglgcmljaaGreat
open Go.RowKit
set_option linter.unusedVariables false
set_option linter.unusedVariables false
end Go.Proofs.YtfphlpglgcmljaaGreat
