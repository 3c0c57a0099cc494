/- Part of the proof of priced_covers_proved: K3. -/
import Derived.Test.YtfphlpglgcmljaaGreatXvQ
import Derived.Test.YtfphlpglgcmljaaGreatXvBox
namespace Go.Proofs.YtfphlpglgcmljaaGreat
open Go.RowKit
set_option linter.unusedVariables false
abbrev K3 := Int × Int × Int
def OK3 (t base : Nat) (w : World) (v : Value) (cs : List K3) : Prop := w.ownsRow base t 3 v cs.length (cs.flatMap cells3)
theorem OK3.rk {t base : Nat} {w : World} {v : Value} {cs : List K3} (h : OK3 t base w v cs) : RK w.heap.size w v cs := by
 rcases h.2 with ⟨h1, h0⟩ | ⟨g, cap, cur, h1, hb, hg, hnc, hcm, hcs, ht⟩
 ·exact .inl ⟨h1, h0, by rw [List.eq_nil_of_length_eq_zero h0]; rfl⟩
 ·refine .inr ⟨g, 0, none, cap, h1, hnc, hcm, fun h0 => by rw [List.eq_nil_of_length_eq_zero h0]; rfl, fun _ => ⟨rfl, (Array.getElem?_eq_some_iff.1 hg).1, fun k hk => ?_⟩⟩
  subst h1
  have := World.ownsRow.cellAt h k (by rw [← flat3_len]; exact hk)
  rw [Nat.zero_add]; exact this
end Go.Proofs.YtfphlpglgcmljaaGreat
