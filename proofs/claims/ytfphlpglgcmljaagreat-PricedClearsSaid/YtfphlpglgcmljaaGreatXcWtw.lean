/- Part of the proof of priced_clears_proved: Wtw. -/
import Derived.Deep.RegionHeld3
import Derived.Test.YtfphlpglgcmljaaGreatXcPrp
import Derived.Test.YtfphlpglgcmljaaGreatXcWts
import Derived.Test.YtfphlpglgcmljaaGreatXcPaw
namespace Go.Proofs.YtfphlpglgcmljaaGreat
open Go.RowKit
set_option linter.unusedVariables false
set_option linter.unusedSimpArgs false
theorem wpList_append_copy {P : Program} {ops : Array Oper} {rest : List Oper} {o : Oper} {a : Act} {w : World} {Q : Exit → Act → World → Prop}
    (hg : o.guard = none) (s x : Operand) (t : TypeId) (ho : o.op = Op.call { callee := Callee.builtin Builtin.append, args := #[s, x], argTypes := #[t, t] })
    (e : TypeId) (ht : P.underlying t = some (.slice e)) (hi : (P.info? e).map (fun i => (i.zero, i.size, i.bytes)) = some (some (.int .i64 0), 1, 8))
    (g : Nat) (hs : a.eval s = .slice (some ⟨g, 0, none⟩) 0 0) (hgb : w.heap[g]? = some (.cells #[] e (0, 0)))
    (xv : Value) (hx : a.eval x = xv) (xs : List Int) (hr : RL w.heap.size w xv xs) (hl : xs.length ≤ 100000)
    (h : ∀ ao c w', OL e g w' (.slice ao xs.length c) xs → w.grownBy w' (some g) → wpList P ops Q rest (a.put o.dst (.slice ao xs.length c)) w') : wpList P ops Q (o :: rest) a w := by
  obtain ⟨i0, hi0, hz0, hz1, hz2⟩ := info_parts hi
  have hgl : g < w.heap.size := (Array.getElem?_eq_some_iff.1 hgb).1
  refine wpList_append_rs hg s x t ho g e i0 (.int .i64 0) 1 8 ht hi0 hz0 hz1 hz2 rfl (by decide) (.slice (some ⟨g, 0, none⟩) 0 0) 0 [] hs (owns_empty hgb (Nat.le_refl _)) w.heap.size xv hx xs.length (xs.map (Value.int .i64)) hr (by simp) (ints_oneCell' _) (by unfold maxLen; omega) (by omega) (by omega) ?_
  intro v' w' h1 h2
  rw [Nat.zero_add, List.nil_append] at h1
  obtain ⟨ao, c, rfl⟩ := owns_form h1
  exact h ao c w' h1 h2
theorem below_copy {w w' : World} {o : Obj} (h : (w.alloc o).grownBy w' (some w.heap.size)) : Below w.heap.size w w' :=
 ((Below.refl _ w).alloc (Nat.le_refl _) o).grown h (by simp) (fun k hk => by cases hk; exact Nat.le_refl _)
theorem OL.openk {e base n c : Nat} {ao : Option Addr} {w : World} {xs : List Int} (h : OL e base w (.slice ao n c) xs) (hp : 0 < xs.length) :
  ∃ g, ao = some ⟨g, 0, none⟩ ∧ base ≤ g ∧ g < w.heap.size ∧ ∀ k, k < xs.length → w.cell? ⟨g, k, none⟩ = some (.int .i64 (gi xs k)) ∧ w.frozen? ⟨g, k, none⟩ = false := by
 obtain ⟨g, cap, he, h1, h2, _, h3⟩ := h.open hp
 cases he
 exact ⟨g, rfl, h1, h2, h3⟩
theorem Sml.smz {n : Int} {xs : List Int} {c : Int} {rs : List Int} (h : Sml n xs c rs) (h3 : n ≤ 3) : ∃ N : Nat, n = N ∧ SmZ N xs c rs := by
 obtain ⟨N, rfl, ok, hl, _⟩ := pzB_nat h.pz
 have hx : xs.length = (N + 1) * (N + 1) := by have := ok.len; rwa [Int.toNat_natCast] at this
 have n1 := h.n1
 exact ⟨N, rfl, ⟨h.pz, ok, by omega, by omega, hl, h.cb, fun k hk => h.rb k (by omega), fun i j hi hj => h.eb _ (by rw [hx]; exact idx_lt N i j hi hj)⟩⟩
def Bk (vs us : List Int) (d : Int) (i : Nat) : Prop := us.length = vs.length ∧ ∀ k, k < vs.length → gi us k = if k < i then gi vs k - d else gi vs k
theorem Bk.next {vs us : List Int} {d : Int} {i : Nat} (h : Bk vs us d i) (hi : i < vs.length) : Bk vs (us.set i (gi vs i - d)) d (i + 1) := by
 refine ⟨by rw [List.length_set]; exact h.1, fun k hk => ?_⟩
 by_cases e : k = i
 ·subst e; rw [gi_set_same (by rw [h.1]; exact hk), if_pos (by omega)]
 ·rw [gi_set_ne (fun c => e c.symm), h.2 k hk]
  by_cases c : k < i
  ·rw [if_pos c, if_pos (by omega)]
  ·rw [if_neg c, if_neg (by omega)]
end Go.Proofs.YtfphlpglgcmljaaGreat
