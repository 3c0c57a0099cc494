/- Part of the proof of priced_clears_proved: K3. -/
import Derived.Test.YtfphlpglgcmljaaGreatXcQ
import Derived.Test.YtfphlpglgcmljaaGreatXcBox
namespace Go.Proofs.YtfphlpglgcmljaaGreat
open Go.RowKit
set_option linter.unusedVariables false
abbrev K3 := Int × Int × Int
def OK3 (t base : Nat) (w : World) (v : Value) (cs : List K3) : Prop := w.ownsRow base t 3 v cs.length (cs.flatMap cells3)
theorem OK3.rk {t base : Nat} {w : World} {v : Value} {cs : List K3} (h : OK3 t base w v cs) : RK w.heap.size w v cs := by
 rcases h.2 with ⟨h1, h0⟩ | ⟨g, cap, cur, h1, hb, hg, hnc, hcm, hcs, ht⟩
 ·exact .inl ⟨h1, h0, by rw [List.eq_nil_of_length_eq_zero h0]; rfl⟩
 ·refine .inr ⟨g, 0, none, cap, h1, hnc, hcm, fun h0 => by rw [List.eq_nil_of_length_eq_zero h0]; rfl, fun _ => ⟨rfl, (Array.getElem?_eq_some_iff.1 hg).1, fun k hk => ?_⟩⟩
  subst h1
  have := World.ownsRow.cellAt h k (by rw [← flat3_len]; exact hk)
  rw [Nat.zero_add]; exact this
theorem ints_one3 (cs : List K3) : ∀ u ∈ cs.flatMap cells3, u.oneCell' = true := by
 intro u hu
 obtain ⟨c, _, hc⟩ := List.mem_flatMap.1 hu
 simp only [cells3, List.mem_cons, List.not_mem_nil, or_false] at hc
 rcases hc with rfl | rfl | rfl <;> rfl
theorem rs_lit3 {w : World} {arr : Array Value} {e : Nat} {cs : List K3} {m : Nat} (h : arr.toList = cs.flatMap cells3) (hm : m = cs.length) (hl : cs.length ≤ 1000) :
  RS (w.heap.size + 1) (w.alloc (.cells arr e)) (.slice (some ⟨w.heap.size, 0, none⟩) m m) cs.length (cs.flatMap cells3) := by
 subst hm
 refine .inr ⟨_, 0, none, _, rfl, Nat.le_refl _, by unfold maxLen; omega, fun h => by rw [List.eq_nil_of_length_eq_zero h]; rfl, fun _ => ⟨rfl, by simp, fun k hk => ?_⟩⟩
 rw [Nat.zero_add]
 refine (cell_of_row (w.alloc (.cells arr e)) _ k arr e (0, 0) (heap_alloc_new w _)).trans ?_
 rw [← h, Array.getElem?_toList]
theorem Tryz.undKs : Tryz.prog.underlying 96 = some (.slice 98) := by kernel_rfl
theorem Tryz.infoK : (Tryz.prog.info? 98).map (fun i => (i.zero, i.size, i.bytes)) = some (some (.agg #[.int .i64 0, .int .i64 0, .int .i64 0]), 3, 24) := by kernel_rfl
end Go.Proofs.YtfphlpglgcmljaaGreat
