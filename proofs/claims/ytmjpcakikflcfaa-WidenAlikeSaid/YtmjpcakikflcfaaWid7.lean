/- The contract of the laws' part, and of shown. -/
import Derived.Test.YtmjpcakikflcfaaWid6
namespace Go.Proofs.Ytmjpcakikflcfaa
open Go.RowKit

def partM (low high : Int) : List Int := [1, low, high, 1]
/-- What part returns: a zone of one clock. -/
def PartPost (base : Nat) (w : World) (low high : Int) (e : Ending) (w' : World) : Prop :=
  (∃ v', e = .returned (.agg #[.int .i64 (zdim (closeF 1 (partM low high)) 1), v']) ∧ OL 49 base w' v' (closeF 1 (partM low high)).2) ∧ Below w.heap.size w w'
theorem PartPost.mk {base : Nat} {w w' : World} {low high : Int} {v' : Value} (h1 : OL 49 base w' v' (closeF 1 (partM low high)).2) (h2 : Below w.heap.size w w') :
    PartPost base w low high (.returned (.agg #[.int .i64 (zdim (closeF 1 (partM low high)) 1), v'])) w' := ⟨⟨_, rfl, h1⟩, h2⟩
/-- A slice that the call has just laid down. -/
theorem rl_lit (w : World) (xs : List Int) (e : Nat) (hx : xs.length ≤ 1000) : RL (w.alloc (.cells (xs.map (Value.int .i64)).toArray e)).heap.size (w.alloc (.cells (xs.map (Value.int .i64)).toArray e)) (.slice (some ⟨w.heap.size, 0, none⟩) xs.length xs.length) xs :=
  .inr ⟨w.heap.size, 0, none, xs.length, rfl, Nat.le_refl _, by unfold maxLen; omega, fun h => by rw [List.map_eq_nil_iff]; exact List.eq_nil_of_length_eq_zero h, fun _ => ⟨rfl, by simp, fun k hk => by
    rw [Nat.zero_add, cell_of_row _ _ k _ _ _ (heap_alloc_new w _)]; simp⟩⟩

set_option maxHeartbeats 1000000 in
theorem law_part (a b : Int) (o : Bool) (low high : Int) (w : World) (ha0 : -1000 ≤ a) (ha1 : a ≤ 1000) (hb0 : -1000 ≤ b) (hb1 : b ≤ 1000) (hlow : low = if o then -2 * a + 1 - 1 else -2 * a + 1) (hhigh : high = if b < 0 then 1099511627776 else 2 * b + 1) :
    Calls Try.prog 22 #[.int .i64 a, .int .i64 b, .bool o] w fun e w' => PartPost w.heap.size w low high e w' := by
  have core : ∀ (l h : Int), l = low → h = high → RL (((w.alloc (.cells #[.int .i64 0, .slice none 0 0] 24)).alloc (.cells #[.int .i64 1, .int .i64 l, .int .i64 h, .int .i64 1] 49))).heap.size ((w.alloc (.cells #[.int .i64 0, .slice none 0 0] 24)).alloc (.cells #[.int .i64 1, .int .i64 l, .int .i64 h, .int .i64 1] 49)) (.slice (some ⟨w.heap.size + 1, 0, none⟩) 4 4) (partM low high) := by
    intro l h e1 e2
    subst e1 e2
    have h := rl_lit (w.alloc (.cells #[.int .i64 0, .slice none 0 0] 24)) (partM l h) 49 (by simp [partM])
    rw [World.size_alloc] at h
    rw [World.size_alloc, World.size_alloc] at *
    exact h
  have Hcore := Lib.hid core
  have Hlow := Lib.hid hlow
  have Hhigh := Lib.hid hhigh
  have Hloc := Lib.hid (Loc.one w (.cells #[.int .i64 0, .slice none 0 0] 24) none)
  clear core hlow hhigh
  cases o
  · by_cases hb : b < 0
    · go_enter Try.func22, Try.ntmps22
      go_wp2_with fail
      refine (ref_close 1 _ (partM low high) _ (Hcore.out (-2 * a + 1) (1099511627776) (by rw [Hlow.out]; show _ = -2 * a + 1; omega) (by rw [Hhigh.out, if_pos hb]))).mono ?_
      rintro e w5 ⟨⟨v5, rfl, hown5⟩, hb5⟩
      obtain ⟨ao5, cap5, rfl⟩ := owns_form hown5
      have hloc5 := (Hloc.out.next (World.grownBy_alloc _ _ none) (fun _ h => by cases h)).next (grownBy_below hb5 none) (fun _ h => by cases h)
      have r0 : w5.cell? ⟨w.heap.size, 0, none⟩ = some (.int .i64 0) := hloc5.cell 0 rfl 0
      have r1 : w5.cell? ⟨w.heap.size, 1, none⟩ = some (.slice none 0 0) := hloc5.cell 0 rfl 1
      have f0 : w5.frozen? ⟨w.heap.size, 0, none⟩ = false := hloc5.free 0 rfl 0
      have f1 : w5.frozen? ⟨w.heap.size, 1, none⟩ = false := hloc5.free 0 rfl 1
      have hsz : w.heap.size < w5.heap.size := by have := hloc5.size; simp at this; omega
      have Hown5 := Lib.hid (owns_mono hown5 (show w.heap.size + 1 ≤ _ by simp))
      clear hown5 hb5
      go_wp2_with fail
      refine bodyPost_ret (v := .agg #[.int .i64 (zdim (closeF 1 (partM low high)) 1), .slice ao5 (closeF 1 (partM low high)).2.length cap5]) (by simp [results, Try.results22, go_sem, r0, r1, hsz]) rfl (PartPost.mk ?_ ?_)
      · exact OL.mono (base := w.heap.size + 1) (World.ownsRow.alloc (own_set2 Hown5.out (Nat.lt_succ_self _) _ _) _) (by omega)
      · exact (((below_grownBy hloc5.grown).setCell (by simp) _).setCell (by simp) _).alloc (by simp; omega) _
    · go_enter Try.func22, Try.ntmps22
      go_wp2_with fail
      refine (ref_close 1 _ (partM low high) _ (Hcore.out (-2 * a + 1) (2 * b + 1) (by rw [Hlow.out]; show _ = -2 * a + 1; omega) (by rw [Hhigh.out, if_neg (by omega)]))).mono ?_
      rintro e w5 ⟨⟨v5, rfl, hown5⟩, hb5⟩
      obtain ⟨ao5, cap5, rfl⟩ := owns_form hown5
      have hloc5 := (Hloc.out.next (World.grownBy_alloc _ _ none) (fun _ h => by cases h)).next (grownBy_below hb5 none) (fun _ h => by cases h)
      have r0 : w5.cell? ⟨w.heap.size, 0, none⟩ = some (.int .i64 0) := hloc5.cell 0 rfl 0
      have r1 : w5.cell? ⟨w.heap.size, 1, none⟩ = some (.slice none 0 0) := hloc5.cell 0 rfl 1
      have f0 : w5.frozen? ⟨w.heap.size, 0, none⟩ = false := hloc5.free 0 rfl 0
      have f1 : w5.frozen? ⟨w.heap.size, 1, none⟩ = false := hloc5.free 0 rfl 1
      have hsz : w.heap.size < w5.heap.size := by have := hloc5.size; simp at this; omega
      have Hown5 := Lib.hid (owns_mono hown5 (show w.heap.size + 1 ≤ _ by simp))
      clear hown5 hb5
      go_wp2_with fail
      refine bodyPost_ret (v := .agg #[.int .i64 (zdim (closeF 1 (partM low high)) 1), .slice ao5 (closeF 1 (partM low high)).2.length cap5]) (by simp [results, Try.results22, go_sem, r0, r1, hsz]) rfl (PartPost.mk ?_ ?_)
      · exact OL.mono (base := w.heap.size + 1) (World.ownsRow.alloc (own_set2 Hown5.out (Nat.lt_succ_self _) _ _) _) (by omega)
      · exact (((below_grownBy hloc5.grown).setCell (by simp) _).setCell (by simp) _).alloc (by simp; omega) _
  · by_cases hb : b < 0
    · go_enter Try.func22, Try.ntmps22
      go_wp2_with fail
      refine (ref_close 1 _ (partM low high) _ (Hcore.out (-2 * a) (1099511627776) (by rw [Hlow.out]; show _ = -2 * a + 1 - 1; omega) (by rw [Hhigh.out, if_pos hb]))).mono ?_
      rintro e w5 ⟨⟨v5, rfl, hown5⟩, hb5⟩
      obtain ⟨ao5, cap5, rfl⟩ := owns_form hown5
      have hloc5 := (Hloc.out.next (World.grownBy_alloc _ _ none) (fun _ h => by cases h)).next (grownBy_below hb5 none) (fun _ h => by cases h)
      have r0 : w5.cell? ⟨w.heap.size, 0, none⟩ = some (.int .i64 0) := hloc5.cell 0 rfl 0
      have r1 : w5.cell? ⟨w.heap.size, 1, none⟩ = some (.slice none 0 0) := hloc5.cell 0 rfl 1
      have f0 : w5.frozen? ⟨w.heap.size, 0, none⟩ = false := hloc5.free 0 rfl 0
      have f1 : w5.frozen? ⟨w.heap.size, 1, none⟩ = false := hloc5.free 0 rfl 1
      have hsz : w.heap.size < w5.heap.size := by have := hloc5.size; simp at this; omega
      have Hown5 := Lib.hid (owns_mono hown5 (show w.heap.size + 1 ≤ _ by simp))
      clear hown5 hb5
      go_wp2_with fail
      refine bodyPost_ret (v := .agg #[.int .i64 (zdim (closeF 1 (partM low high)) 1), .slice ao5 (closeF 1 (partM low high)).2.length cap5]) (by simp [results, Try.results22, go_sem, r0, r1, hsz]) rfl (PartPost.mk ?_ ?_)
      · exact OL.mono (base := w.heap.size + 1) (World.ownsRow.alloc (own_set2 Hown5.out (Nat.lt_succ_self _) _ _) _) (by omega)
      · exact (((below_grownBy hloc5.grown).setCell (by simp) _).setCell (by simp) _).alloc (by simp; omega) _
    · go_enter Try.func22, Try.ntmps22
      go_wp2_with fail
      refine (ref_close 1 _ (partM low high) _ (Hcore.out (-2 * a) (2 * b + 1) (by rw [Hlow.out]; show _ = -2 * a + 1 - 1; omega) (by rw [Hhigh.out, if_neg (by omega)]))).mono ?_
      rintro e w5 ⟨⟨v5, rfl, hown5⟩, hb5⟩
      obtain ⟨ao5, cap5, rfl⟩ := owns_form hown5
      have hloc5 := (Hloc.out.next (World.grownBy_alloc _ _ none) (fun _ h => by cases h)).next (grownBy_below hb5 none) (fun _ h => by cases h)
      have r0 : w5.cell? ⟨w.heap.size, 0, none⟩ = some (.int .i64 0) := hloc5.cell 0 rfl 0
      have r1 : w5.cell? ⟨w.heap.size, 1, none⟩ = some (.slice none 0 0) := hloc5.cell 0 rfl 1
      have f0 : w5.frozen? ⟨w.heap.size, 0, none⟩ = false := hloc5.free 0 rfl 0
      have f1 : w5.frozen? ⟨w.heap.size, 1, none⟩ = false := hloc5.free 0 rfl 1
      have hsz : w.heap.size < w5.heap.size := by have := hloc5.size; simp at this; omega
      have Hown5 := Lib.hid (owns_mono hown5 (show w.heap.size + 1 ≤ _ by simp))
      clear hown5 hb5
      go_wp2_with fail
      refine bodyPost_ret (v := .agg #[.int .i64 (zdim (closeF 1 (partM low high)) 1), .slice ao5 (closeF 1 (partM low high)).2.length cap5]) (by simp [results, Try.results22, go_sem, r0, r1, hsz]) rfl (PartPost.mk ?_ ?_)
      · exact OL.mono (base := w.heap.size + 1) (World.ownsRow.alloc (own_set2 Hown5.out (Nat.lt_succ_self _) _ _) _) (by omega)
      · exact (((below_grownBy hloc5.grown).setCell (by simp) _).setCell (by simp) _).alloc (by simp; omega) _
end Go.Proofs.Ytmjpcakikflcfaa
