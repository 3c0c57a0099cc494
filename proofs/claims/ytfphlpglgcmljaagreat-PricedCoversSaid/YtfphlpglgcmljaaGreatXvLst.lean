/- Part of the proof of priced_covers_proved: Lst. -/
import Derived.Test.YtfphlpglgcmljaaGreatXvRat
namespace Go.Proofs.YtfphlpglgcmljaaGreat
open Go.RowKit
set_option linter.unusedVariables false
structure Cd (α : Type) where
 sz : Nat
 cells : α → List Value
 len : ∀ x, (cells x).length = sz
 zero : α
def RX {α : Type} (c : Cd α) (B : Nat) (w : World) (v : Value) (xs : List α) : Prop := RS B w v xs.length (xs.flatMap c.cells)
def OE {α : Type} (c : Cd α) (t base : Nat) (w : World) (v : Value) (xs : List α) : Prop := w.ownsRow base t c.sz v xs.length (xs.flatMap c.cells)
def ge {α : Type} (c : Cd α) (xs : List α) (k : Nat) : α := xs.getD k c.zero
theorem ge_of {α : Type} (c : Cd α) {xs : List α} {k : Nat} (hk : k < xs.length) : ge c xs k = xs[k] := by unfold ge; rw [List.getD_eq_getElem?_getD, List.getElem?_eq_getElem hk]; rfl
theorem ge_mem {α : Type} (c : Cd α) {xs : List α} {k : Nat} (hk : k < xs.length) : ge c xs k ∈ xs := by rw [ge_of c hk]; exact List.getElem_mem hk
theorem flatE {α : Type} (c : Cd α) : ∀ (xs : List α) (k j : Nat), k < xs.length → j < c.sz → (xs.flatMap c.cells)[k * c.sz + j]? = (c.cells (ge c xs k))[j]?
  | [], k, j, h, _ => by simp at h
  | x :: xs, 0, j, _, hj => by
    rw [List.flatMap_cons, Nat.zero_mul, Nat.zero_add, List.getElem?_append_left (by rw [c.len]; exact hj)]
    rfl
  | x :: xs, k + 1, j, h, hj => by
    have e : (k + 1) * c.sz + j = c.sz + (k * c.sz + j) := by rw [Nat.add_mul]; omega
    rw [List.flatMap_cons, List.getElem?_append_right (by rw [c.len, e]; omega), c.len, e, Nat.add_sub_cancel_left, flatE c xs k j (by simpa using h) hj]
    rfl
theorem flatE_len {α : Type} (c : Cd α) (xs : List α) : (xs.flatMap c.cells).length = xs.length * c.sz := by
 induction xs with
 | nil => simp
 | cons x xs ih => rw [List.flatMap_cons, List.length_append, ih, c.len, List.length_cons, Nat.add_mul, Nat.one_mul, Nat.add_comm]
theorem RX.keep {α : Type} {c : Cd α} {B : Nat} {w w' : World} {v : Value} {xs : List α} (h : RX c B w v xs) (hb : Below B w w') : RX c B w' v xs := RS.keep h hb
theorem RX.keepb {α : Type} {c : Cd α} {w w' : World} {v : Value} {xs : List α} (h : RX c w.heap.size w v xs) (hb : Below w.heap.size w w') : RX c w'.heap.size w' v xs := (RS.keep h hb).mono hb.size
theorem RX.mono {α : Type} {c : Cd α} {B B' : Nat} {w : World} {v : Value} {xs : List α} (h : RX c B w v xs) (hb : B ≤ B') : RX c B' w v xs := RS.mono h hb
theorem RX.nil {α : Type} (c : Cd α) (B : Nat) (w : World) : RX c B w (.slice none 0 0) [] := .inl ⟨rfl, rfl, rfl⟩
theorem RX.open {α : Type} {c : Cd α} {B : Nat} {w : World} {v : Value} {xs : List α} (h : RX c B w v xs) :
  ∃ ao cap, v = .slice ao xs.length cap ∧ xs.length ≤ 9223372036854775807 ∧ (0 < xs.length → ∃ b off, ao = some ⟨b, off, none⟩ ∧ b < B ∧ ∀ k j, k < xs.length → j < c.sz → w.cell? ⟨b, off + (k * c.sz + j), none⟩ = (c.cells (ge c xs k))[j]?) := by
 have hl := RS.le h
 rcases h with ⟨rfl, h1, h2⟩ | ⟨b, off, sp, cap, rfl, h1, h2, h3, h4⟩
 ·exact ⟨none, 0, by rw [h1], hl, fun h => by omega⟩
 ·refine ⟨_, cap, rfl, hl, fun hn => ?_⟩
  obtain ⟨rfl, q, r⟩ := h4 hn
  refine ⟨b, off, rfl, q, fun k j hk hj => ?_⟩
  have hlt : k * c.sz + j < xs.length * c.sz := by
   have := Nat.mul_le_mul_right c.sz (show k + 1 ≤ xs.length by omega)
   rw [Nat.add_mul, Nat.one_mul] at this
   omega
  rw [r (k * c.sz + j) (by rw [flatE_len]; exact hlt), flatE c xs k j hk hj]
theorem OE.re {α : Type} {c : Cd α} {t base : Nat} {w : World} {v : Value} {xs : List α} (hs : 0 < c.sz) (h : OE c t base w v xs) : RX c w.heap.size w v xs := by
 rcases h.2 with ⟨rfl, h0⟩ | ⟨g, cap, cur, rfl, hb, hg, hnc, hcm, hcs, ht⟩
 ·exact .inl ⟨rfl, h0, by rw [List.eq_nil_of_length_eq_zero h0]; rfl⟩
 ·refine .inr ⟨g, 0, none, cap, rfl, hnc, hcm, fun h0 => by rw [List.eq_nil_of_length_eq_zero h0]; rfl, fun _ => ⟨rfl, (Array.getElem?_eq_some_iff.1 hg).1, fun k hk => ?_⟩⟩
  have := h.cellAt k (by rw [flatE_len] at hk; exact hk)
  rw [Nat.zero_add]; exact this
theorem OE.nil {α : Type} (c : Cd α) (t base : Nat) (w : World) : OE c t base w (.slice none 0 0) [] := World.ownsRow_nil _ _ _ _
theorem OE.kept {α : Type} {c : Cd α} {t base : Nat} {w w' : World} {v : Value} {xs : List α} {row : Option Nat} (h : OE c t base w v xs) (hg : w.grownBy w' row) (hne : v.ownBlock = none ∨ v.ownBlock ≠ row) : OE c t base w' v xs := World.ownsRow.kept h hg hne
theorem OE.lower {α : Type} {c : Cd α} {t base base' : Nat} {w : World} {v : Value} {xs : List α} (h : OE c t base w v xs) (hb : base' ≤ base) : OE c t base' w v xs := owns_mono h hb
end Go.Proofs.YtfphlpglgcmljaaGreat
