/- Part of the proof of stopwatch_explores_proved: Base, Lst. -/
import Derived.Test.YtokljoajalmkfaaRows
import Derived.WalkKit
import Derived.WalkSpells
import Derived.WalkLawsBesides
import Derived.Lib.Hide
import Derived.Deep.QuietTactic
import Derived.BigQuiet
namespace Go.Proofs.Ytokljoajalmkfaa
open Go.RowKit
def RS (B : Nat) (w : World) (v : Value) (n : Nat) (cs : List Value) : Prop :=
 (v = .slice none 0 0 ∧ n = 0 ∧ cs = []) ∨
 ∃ b off sp cap, v = .slice (some ⟨b, off, sp⟩) n cap ∧ n ≤ cap ∧ cap ≤ maxLen ∧ (n = 0 → cs = []) ∧
  (0 < n → sp = none ∧ b < B ∧ ∀ k, k < cs.length → w.cell? ⟨b, off + k, none⟩ = cs[k]?)
def RL (B : Nat) (w : World) (v : Value) (xs : List Int) : Prop := RS B w v xs.length (xs.map (Value.int .i64))
theorem RS.keep {B : Nat} {w w' : World} {v : Value} {n : Nat} {cs : List Value} (h : RS B w v n cs) (hb : Below B w w') : RS B w' v n cs := by
 rcases h with h | ⟨b, off, sp, cap, rfl, h1, h2, h3, h4⟩
 ·exact .inl h
 ·refine .inr ⟨b, off, sp, cap, rfl, h1, h2, h3, fun hn => ?_⟩
  obtain ⟨p, q, r⟩ := h4 hn
  exact ⟨p, q, fun k hk => (hb.cell (p := ⟨b, off + k, none⟩) q).trans (r k hk)⟩
theorem RS.mono {B B' : Nat} {w : World} {v : Value} {n : Nat} {cs : List Value} (h : RS B w v n cs) (hb : B ≤ B') : RS B' w v n cs := by
 rcases h with h | ⟨b, off, sp, cap, rfl, h1, h2, h3, h4⟩
 ·exact .inl h
 ·exact .inr ⟨b, off, sp, cap, rfl, h1, h2, h3, fun hn => ⟨(h4 hn).1, by have := (h4 hn).2.1; omega, (h4 hn).2.2⟩⟩
theorem RL.keep {B : Nat} {w w' : World} {v : Value} {xs : List Int} (h : RL B w v xs) (hb : Below B w w') : RL B w' v xs := RS.keep h hb
theorem RL.mono {B B' : Nat} {w : World} {v : Value} {xs : List Int} (h : RL B w v xs) (hb : B ≤ B') : RL B' w v xs := RS.mono h hb
theorem RS.le {B : Nat} {w : World} {v : Value} {n : Nat} {cs : List Value} (h : RS B w v n cs) : n ≤ 9223372036854775807 := by
 rcases h with ⟨_, h, _⟩ | ⟨b, off, sp, cap, _, h1, h2, _⟩
 ·omega
 ·unfold maxLen at h2; omega
def gi (xs : List Int) (k : Nat) : Int := xs.getD k 0
theorem RL.open {B : Nat} {w : World} {v : Value} {xs : List Int} (h : RL B w v xs) :
  ∃ ao cap, v = .slice ao xs.length cap ∧ xs.length ≤ 9223372036854775807 ∧ (0 < xs.length → ∃ b off, ao = some ⟨b, off, none⟩ ∧ b < B ∧ ∀ k, k < xs.length → w.cell? ⟨b, off + k, none⟩ = some (.int .i64 (gi xs k))) := by
 have hl := RS.le h
 rcases h with ⟨rfl, h1, h2⟩ | ⟨b, off, sp, cap, rfl, h1, h2, h3, h4⟩
 ·exact ⟨none, 0, by rw [h1], hl, fun h => by omega⟩
 ·refine ⟨_, cap, rfl, hl, fun hn => ?_⟩
  obtain ⟨rfl, q, r⟩ := h4 hn
  refine ⟨b, off, rfl, q, fun k hk => ?_⟩
  rw [r k (by simpa using hk)]
  simp [gi, hk]
theorem RL_of_owns {w : World} {base e : Nat} {v : Value} {n : Nat} {xs : List Int} (h : w.ownsRow base e 1 v n (xs.map (Value.int .i64))) : RL w.heap.size w v xs ∧ n = xs.length := by
 have hn : n = xs.length := by have := h.1; simpa using this.symm
 refine ⟨?_, hn⟩
 subst hn
 rcases h.2 with ⟨rfl, h0⟩ | ⟨g, cap, cur, rfl, hb, hg, hnc, hcm, hcs, ht⟩
 ·exact .inl ⟨rfl, h0, by rw [List.map_eq_nil_iff]; exact List.eq_nil_of_length_eq_zero h0⟩
 ·refine .inr ⟨g, 0, none, cap, rfl, hnc, hcm, fun h0 => by rw [List.map_eq_nil_iff]; exact List.eq_nil_of_length_eq_zero h0, fun _ => ⟨rfl, (Array.getElem?_eq_some_iff.1 hg).1, fun k hk => ?_⟩⟩
  have := h.cellAt k (by simpa using hk)
  rw [Nat.zero_add]; exact this
def OL (e base : Nat) (w : World) (v : Value) (xs : List Int) : Prop := w.ownsRow base e 1 v xs.length (xs.map (Value.int .i64))
theorem OL.rl {e base : Nat} {w : World} {v : Value} {xs : List Int} (h : OL e base w v xs) : RL w.heap.size w v xs := (RL_of_owns h).1
theorem OL.open {e base : Nat} {w : World} {v : Value} {xs : List Int} (h : OL e base w v xs) (hp : 0 < xs.length) :
  ∃ g cap, v = .slice (some ⟨g, 0, none⟩) xs.length cap ∧ base ≤ g ∧ g < w.heap.size ∧ xs.length ≤ 9223372036854775807 ∧ ∀ k, k < xs.length → w.cell? ⟨g, k, none⟩ = some (.int .i64 (gi xs k)) ∧ w.frozen? ⟨g, k, none⟩ = false := by
 have hl := RS.le h.rl
 rcases h.2 with ⟨_, h0⟩ | ⟨g, cap, cur, rfl, hb, hg, hnc, hcm, hcs, ht⟩
 ·omega
 ·refine ⟨g, cap, rfl, hb, (Array.getElem?_eq_some_iff.1 hg).1, hl, fun k hk => ⟨?_, World.ownsRow.frozenAt h k⟩⟩
  rw [World.ownsRow.cellAt h k (by simpa using hk)]
  simp [gi, hk]
theorem OL.kept {e base : Nat} {w w' : World} {v : Value} {xs : List Int} {row : Option Nat} (h : OL e base w v xs) (hg : w.grownBy w' row) (hne : v.ownBlock = none ∨ v.ownBlock ≠ row) : OL e base w' v xs := World.ownsRow.kept h hg hne
theorem OL.keepb {e base : Nat} {w w' : World} {v : Value} {xs : List Int} (h : OL e base w v xs) (hb : Below w.heap.size w w') : OL e base w' v xs := World.ownsRow.kept h (row := none) ⟨hb.os, hb.tape, hb.output, hb.size, fun i hi _ => hb.block i hi⟩ (by cases v.ownBlock <;> simp)
theorem bt {a b c : World} (h : Below a.heap.size a b) (k : Below b.heap.size b c) : Below a.heap.size a c := h.trans (k.mono h.size)
theorem RL.keepb {w w' : World} {v : Value} {xs : List Int} (h : RL w.heap.size w v xs) (hb : Below w.heap.size w w') : RL w'.heap.size w' v xs := (h.keep hb).mono hb.size
theorem RL.drew {w : World} {v : Value} {xs : List Int} (h : RL w.heap.size w v xs) : RL w.drew.heap.size w.drew v xs := h
def zdim (r : Int × List Int) (N : Int) : Int := if r.1 = 0 then N else 0
def ZPost (lt base : Nat) (N : Int) (r : Int × List Int) (e : Ending) (w' : World) : Prop :=
 ∃ v', e = .returned (.tuple #[.agg #[.int .i64 (zdim r N), v'], .int .i64 r.1]) ∧ OL lt base w' v' r.2
theorem OL.nil (e base : Nat) (w : World) : OL e base w (.slice none 0 0) [] := World.ownsRow_nil w base e 1
theorem ZPost.ok {lt base : Nat} {N : Int} {r : Int × List Int} {v : Value} {xs : List Int} {w' : World} (h : r = (0, xs)) (ho : OL lt base w' v xs) : ZPost lt base N r (.returned (.tuple #[.agg #[.int .i64 N, v], .int .i64 0])) w' := by
 subst h; exact ⟨_, by simp [zdim], ho⟩
theorem OL.mono {e base base' : Nat} {w : World} {v : Value} {xs : List Int} (h : OL e base w v xs) (hb : base' ≤ base) : OL e base' w v xs := by
 refine ⟨h.1, ?_⟩
 rcases h.2 with h2 | ⟨g, cap, cur, h2, h3, h4⟩
 ·exact .inl h2
 ·exact .inr ⟨g, cap, cur, h2, by omega, h4⟩
theorem OL.drew {e base : Nat} {w : World} {v : Value} {xs : List Int} (h : OL e base w v xs) : OL e base w.drew v xs := ⟨h.1, h.2⟩
theorem grownBy_trans {a b c : World} {row : Option Nat} (h : a.grownBy b row) (k : b.grownBy c row) : a.grownBy c row :=
 ⟨k.os.trans h.os, k.tape.trans h.tape, k.output.trans h.output, Nat.le_trans h.size k.size, fun i hi hne => (k.block i (Nat.lt_of_lt_of_le hi h.size) hne).trans (h.block i hi hne)⟩
theorem grownBy_below {a b : World} (h : Below a.heap.size a b) (row : Option Nat) : a.grownBy b row := ⟨h.os, h.tape, h.output, h.size, fun i hi _ => h.block i hi⟩
theorem below_grownBy {a b : World} (h : a.grownBy b none) : Below a.heap.size a b := ⟨h.os, h.tape, h.output, h.size, fun i hi => h.block i hi (by simp)⟩
structure Loc (w wr : World) (row : Option Nat) (l : List Obj) : Prop where
 grown : w.grownBy wr row
 objs : ∀ i, i < l.length → wr.heap[w.heap.size + i]? = l[i]?
 size : w.heap.size + l.length ≤ wr.heap.size
theorem Loc.two (w : World) (a b : Obj) (row : Option Nat) : Loc w ((w.alloc a).alloc b) row [a, b] :=
 ⟨grownBy_trans (World.grownBy_alloc _ _ _) (World.grownBy_alloc _ _ _), fun i hi => by
  match i, hi with
  | 0, _ => rw [Nat.add_zero, Below.heap_alloc _ _ _ (by simp)]; exact heap_alloc_new w a
  | 1, _ => have := heap_alloc_new (w.alloc a) b; rw [show (w.alloc a).heap.size = w.heap.size + 1 by simp] at this; exact this, by simp⟩
theorem Loc.one (w : World) (a : Obj) (row : Option Nat) : Loc w (w.alloc a) row [a] :=
 ⟨World.grownBy_alloc _ _ _, fun i hi => by
  match i, hi with
  | 0, _ => exact heap_alloc_new w a, by simp⟩
theorem Loc.next {w wr w' : World} {row : Option Nat} {l : List Obj} (h : Loc w wr row l) (k : wr.grownBy w' row) (hr : ∀ g, row = some g → g < w.heap.size ∨ w.heap.size + l.length ≤ g) : Loc w w' row l :=
 ⟨grownBy_trans h.grown k, fun i hi => by rw [k.block (w.heap.size + i) (by have := h.size; omega) (fun e => by have := hr _ e.symm; omega)]; exact h.objs i hi, Nat.le_trans h.size k.size⟩
theorem Loc.step {w wr w1 w2 : World} {row : Option Nat} {l : List Obj} (h : Loc w wr row l) (hb : Below wr.drew.heap.size wr.drew w1) (k : w1.grownBy w2 row) (hr : ∀ g, row = some g → g < w.heap.size ∨ w.heap.size + l.length ≤ g) : Loc w w2 row l :=
 h.next (grownBy_trans (grownBy_below (show Below wr.heap.size wr w1 from ⟨hb.os, hb.tape, hb.output, hb.size, hb.block⟩) row) k) hr
theorem Loc.cell {w wr : World} {row : Option Nat} {l : List Obj} (h : Loc w wr row l) (i : Nat) {cs : Array Value} {e : TypeId} {fz : Nat × Nat} (hl : l[i]? = some (.cells cs e fz)) (o : Nat) : wr.cell? ⟨w.heap.size + i, o, none⟩ = cs[o]? := by
 have := h.objs i (List.getElem?_eq_some_iff.1 hl).1
 rw [hl] at this
 exact cell_of_row wr _ o cs e fz this
theorem Loc.free {w wr : World} {row : Option Nat} {l : List Obj} (h : Loc w wr row l) (i : Nat) {cs : Array Value} {e : TypeId} (hl : l[i]? = some (.cells cs e (0, 0))) (o : Nat) : wr.frozen? ⟨w.heap.size + i, o, none⟩ = false := by
 have := h.objs i (List.getElem?_eq_some_iff.1 hl).1
 rw [hl] at this
 exact frozen_of_row wr _ o cs e this
theorem Loc.below {w wr : World} {g base : Nat} {l : List Obj} (h : Loc w wr (some g) l) (hg : base ≤ g) (hb : base ≤ w.heap.size) : Below base w wr :=
 (Below.refl base w).grown h.grown hb (fun k hk => by simp at hk; omega)
theorem owns_mono {e base base' size : Nat} {w : World} {v : Value} {n : Nat} {xs : List Value} (h : w.ownsRow base e size v n xs) (hb : base' ≤ base) : w.ownsRow base' e size v n xs := by
 refine ⟨h.1, ?_⟩
 rcases h.2 with h2 | ⟨g, cap, cur, h2, h3, h4⟩
 ·exact .inl h2
 ·exact .inr ⟨g, cap, cur, h2, by omega, h4⟩
theorem keepb {w w1 : World} {b o : Nat} {v : Value} (hc : w.cell? ⟨b, o, none⟩ = some v) (h : Below w.heap.size w w1) : w1.cell? ⟨b, o, none⟩ = some v := by
 rw [← hc]; exact h.cell (p := ⟨b, o, none⟩) (World.block_lt_of_cell? w _ hc)
theorem bcell {W w1 : World} {B : Nat} (hb : Below B W w1) : (∀ b o, b < B → w1.cell? ⟨b, o, none⟩ = W.cell? ⟨b, o, none⟩) ∧ (∀ b o, b < B → w1.frozen? ⟨b, o, none⟩ = W.frozen? ⟨b, o, none⟩) :=
 ⟨fun b o h => hb.cell (p := ⟨b, o, none⟩) h, fun b o h => hb.frozen (p := ⟨b, o, none⟩) h⟩
set_option linter.unusedVariables false
structure Cd (α : Type) where
 sz : Nat
 cells : α → List Value
 len : ∀ x, (cells x).length = sz
 zero : α
def RX {α : Type} (c : Cd α) (B : Nat) (w : World) (v : Value) (xs : List α) : Prop := RS B w v xs.length (xs.flatMap c.cells)
def OE {α : Type} (c : Cd α) (t base : Nat) (w : World) (v : Value) (xs : List α) : Prop := w.ownsRow base t c.sz v xs.length (xs.flatMap c.cells)
def ge {α : Type} (c : Cd α) (xs : List α) (k : Nat) : α := xs.getD k c.zero
theorem ge_of {α : Type} (c : Cd α) {xs : List α} {k : Nat} (hk : k < xs.length) : ge c xs k = xs[k] := by unfold ge; rw [List.getD_eq_getElem?_getD, List.getElem?_eq_getElem hk]; rfl
theorem ge_mem {α : Type} (c : Cd α) {xs : List α} {k : Nat} (hk : k < xs.length) : ge c xs k ∈ xs := by rw [ge_of c hk]; exact List.getElem_mem hk
theorem flatE {α : Type} (c : Cd α) : ∀ (xs : List α) (k j : Nat), k < xs.length → j < c.sz → (xs.flatMap c.cells)[k * c.sz + j]? = (c.cells (ge c xs k))[j]?
  | [], k, j, h, _ => by simp at h
  | x :: xs, 0, j, _, hj => by
    rw [List.flatMap_cons, Nat.zero_mul, Nat.zero_add, List.getElem?_append_left (by rw [c.len]; exact hj)]
    rfl
  | x :: xs, k + 1, j, h, hj => by
    have e : (k + 1) * c.sz + j = c.sz + (k * c.sz + j) := by rw [Nat.add_mul]; omega
    rw [List.flatMap_cons, List.getElem?_append_right (by rw [c.len, e]; omega), c.len, e, Nat.add_sub_cancel_left, flatE c xs k j (by simpa using h) hj]
    rfl
theorem flatE_len {α : Type} (c : Cd α) (xs : List α) : (xs.flatMap c.cells).length = xs.length * c.sz := by
 induction xs with
 | nil => simp
 | cons x xs ih => rw [List.flatMap_cons, List.length_append, ih, c.len, List.length_cons, Nat.add_mul, Nat.one_mul, Nat.add_comm]
theorem RX.keep {α : Type} {c : Cd α} {B : Nat} {w w' : World} {v : Value} {xs : List α} (h : RX c B w v xs) (hb : Below B w w') : RX c B w' v xs := RS.keep h hb
theorem RX.keepb {α : Type} {c : Cd α} {w w' : World} {v : Value} {xs : List α} (h : RX c w.heap.size w v xs) (hb : Below w.heap.size w w') : RX c w'.heap.size w' v xs := (RS.keep h hb).mono hb.size
theorem RX.mono {α : Type} {c : Cd α} {B B' : Nat} {w : World} {v : Value} {xs : List α} (h : RX c B w v xs) (hb : B ≤ B') : RX c B' w v xs := RS.mono h hb
theorem RX.nil {α : Type} (c : Cd α) (B : Nat) (w : World) : RX c B w (.slice none 0 0) [] := .inl ⟨rfl, rfl, rfl⟩
theorem RX.open {α : Type} {c : Cd α} {B : Nat} {w : World} {v : Value} {xs : List α} (h : RX c B w v xs) :
  ∃ ao cap, v = .slice ao xs.length cap ∧ xs.length ≤ 9223372036854775807 ∧ (0 < xs.length → ∃ b off, ao = some ⟨b, off, none⟩ ∧ b < B ∧ ∀ k j, k < xs.length → j < c.sz → w.cell? ⟨b, off + (k * c.sz + j), none⟩ = (c.cells (ge c xs k))[j]?) := by
 have hl := RS.le h
 rcases h with ⟨rfl, h1, h2⟩ | ⟨b, off, sp, cap, rfl, h1, h2, h3, h4⟩
 ·exact ⟨none, 0, by rw [h1], hl, fun h => by omega⟩
 ·refine ⟨_, cap, rfl, hl, fun hn => ?_⟩
  obtain ⟨rfl, q, r⟩ := h4 hn
  refine ⟨b, off, rfl, q, fun k j hk hj => ?_⟩
  have hlt : k * c.sz + j < xs.length * c.sz := by
   have := Nat.mul_le_mul_right c.sz (show k + 1 ≤ xs.length by omega)
   rw [Nat.add_mul, Nat.one_mul] at this
   omega
  rw [r (k * c.sz + j) (by rw [flatE_len]; exact hlt), flatE c xs k j hk hj]
theorem OE.re {α : Type} {c : Cd α} {t base : Nat} {w : World} {v : Value} {xs : List α} (hs : 0 < c.sz) (h : OE c t base w v xs) : RX c w.heap.size w v xs := by
 rcases h.2 with ⟨rfl, h0⟩ | ⟨g, cap, cur, rfl, hb, hg, hnc, hcm, hcs, ht⟩
 ·exact .inl ⟨rfl, h0, by rw [List.eq_nil_of_length_eq_zero h0]; rfl⟩
 ·refine .inr ⟨g, 0, none, cap, rfl, hnc, hcm, fun h0 => by rw [List.eq_nil_of_length_eq_zero h0]; rfl, fun _ => ⟨rfl, (Array.getElem?_eq_some_iff.1 hg).1, fun k hk => ?_⟩⟩
  have := h.cellAt k (by rw [flatE_len] at hk; exact hk)
  rw [Nat.zero_add]; exact this
theorem OE.nil {α : Type} (c : Cd α) (t base : Nat) (w : World) : OE c t base w (.slice none 0 0) [] := World.ownsRow_nil _ _ _ _
theorem OE.kept {α : Type} {c : Cd α} {t base : Nat} {w w' : World} {v : Value} {xs : List α} {row : Option Nat} (h : OE c t base w v xs) (hg : w.grownBy w' row) (hne : v.ownBlock = none ∨ v.ownBlock ≠ row) : OE c t base w' v xs := World.ownsRow.kept h hg hne
theorem OE.lower {α : Type} {c : Cd α} {t base base' : Nat} {w : World} {v : Value} {xs : List α} (h : OE c t base w v xs) (hb : base' ≤ base) : OE c t base' w v xs := owns_mono h hb
end Go.Proofs.Ytokljoajalmkfaa
