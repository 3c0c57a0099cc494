/- Part of the proof of stopwatch_explores_proved: Swy. -/
import Derived.Test.YtokljoajalmkfaaXeSwh
import Derived.Test.YtokljoajalmkfaaXeSwv
import Derived.Test.YtokljoajalmkfaaXeSwi
namespace Go.Proofs.Ytokljoajalmkfaa
open Go Go.RowKit
set_option linter.unusedVariables false
set_option linter.unusedSimpArgs false
set_option linter.unnecessarySimpa false
theorem pR_congr {s s' l l' : Nat → Int} (hs : ∀ j, j < 8 → s j = s' j) (hl : ∀ j, j < 8 → l j = l' j) : pR s l = pR s' l' := by
 unfold pR lV
 refine List.map_congr_left fun k hk => ?_
 have hk := List.mem_range.1 hk
 unfold pV
 by_cases e : k % 2 = 0
 ·rw [if_pos e, if_pos e, hs _ (by omega)]
 ·rw [if_neg e, if_neg e, hl _ (by omega)]
theorem pR_mk (s l : Nat → Int) : pR (sF (mk16 s l)) (lF (mk16 s l)) = pR s l := pR_congr (fun j hj => sF_mk hj) (fun j hj => lF_mk hj)
theorem pR_inj {s s' l l' : Nat → Int} (h : pR s l = pR s' l') : ∀ j, j < 8 → s j = s' j ∧ l j = l' j := fun j hj => by
 have h1 := pR_s s l hj
 have h2 := pR_l s l hj
 rw [h, pR_s _ _ hj] at h1
 rw [h, pR_l _ _ hj] at h2
 injection h1 with h1; injection h1 with _ h1
 injection h2 with h2; injection h2 with _ h2
 exact ⟨h1.symm, h2.symm⟩
theorem lS_congr {s s' l l' : Nat → Int} (hs : ∀ j, j < 8 → s j = s' j) (hl : ∀ j, j < 8 → l j = l' j) : lS s l = lS s' l' := by
 unfold lS lV
 refine List.map_congr_left fun k hk => ?_
 have hk := List.mem_range.1 hk
 dsimp only
 by_cases e : k < 8
 ·rw [if_pos e, if_pos e, hs _ (by omega)]
 ·rw [if_neg e, if_neg e, hl _ (by omega)]
theorem lS_mk (s l : Nat → Int) : lS (sF (mk16 s l)) (lF (mk16 s l)) = lS s l := lS_congr (fun j hj => sF_mk hj) (fun j hj => lF_mk hj)
theorem lS_inj {s s' l l' : Nat → Int} (h : lS s l = lS s' l') : ∀ j, j < 8 → s j = s' j ∧ l j = l' j := fun j hj => by
 have h1 := lS_since s l hj
 have h2 := lS_left s l hj
 rw [h, lS_since _ _ hj] at h1
 rw [h, lS_left _ _ hj] at h2
 injection h1 with h1; injection h1 with _ h1
 injection h2 with h2; injection h2 with _ h2
 exact ⟨h1.symm, h2.symm⟩
theorem mk16_congr {s s' l l' : Nat → Int} (hs : ∀ j, j < 8 → s j = s' j) (hl : ∀ j, j < 8 → l j = l' j) : mk16 s l = mk16 s' l' := by
 unfold mk16
 refine List.map_congr_left fun k hk => ?_
 have hk := List.mem_range.1 hk
 by_cases e : k < 8
 ·rw [if_pos e, if_pos e, hs _ e]
 ·rw [if_neg e, if_neg e, hl _ (by omega)]
structure OkS (ts : List Tk) : Prop where
 pos : 0 < ts.length
 l8 : ts.length ≤ 8
 T : ∀ j, j < ts.length → 1 ≤ (tk ts j).T ∧ (tk ts j).T ≤ 1000
 C : ∀ j, j < ts.length → 1 ≤ (tk ts j).C ∧ (tk ts j).C ≤ 1000
 pr : ∀ j, j < ts.length → 1 ≤ (tk ts j).pr
 ne : ∀ i j, i < ts.length → j < ts.length → (tk ts i).pr = (tk ts j).pr → i = j
theorem OkS.of {ts : List Tk} (hl : ¬ longB ts) (hp : 0 < ts.length) (hv : valK ts ts.length) : OkS ts := by
 refine ⟨hp, ?_, fun j hj => ?_, fun j hj => ?_, fun j hj => ?_, fun i j hi hj he => ?_⟩
 ·apply Classical.byContradiction; intro q; exact hl (.inl (by omega))
 ·obtain ⟨_, _, _, h4, h5, _⟩ := (hv j hj).1; exact ⟨h4, h5⟩
 ·obtain ⟨_, _, _, h4, h5, _, _, h8, h9, h10, h11⟩ := (hv j hj).1; omega
 ·exact (hv j hj).1.2.2.1
 ·rcases Nat.lt_trichotomy i j with h | h | h
  ·exact absurd he ((hv j hj).2 i h).2
  ·exact h
  ·exact absurd he.symm ((hv i hi).2 j h).2
structure GdX (ts : List Tk) (x : List Int) : Prop where
 form : x = mk16 (sF x) (lF x)
 s : ∀ j, j < 8 → 0 ≤ sF x j ∧ sF x j ≤ 1000
 l : ∀ j, j < 8 → 0 ≤ lF x j ∧ lF x j ≤ 1000
 sT : ∀ j, j < ts.length → sF x j ≤ (tk ts j).T
theorem GdX.eqP {ts : List Tk} {x y : List Int} (hx : GdX ts x) (hy : GdX ts y) (h : pR (sF x) (lF x) = pR (sF y) (lF y)) : x = y := by
 rw [hx.form, hy.form]
 exact mk16_congr (fun j hj => (pR_inj h j hj).1) (fun j hj => (pR_inj h j hj).2)
theorem GdX.eqS {ts : List Tk} {x y : List Int} (hx : GdX ts x) (hy : GdX ts y) (h : lS (sF x) (lF x) = lS (sF y) (lF y)) : x = y := by
 rw [hx.form, hy.form]
 exact mk16_congr (fun j hj => (lS_inj h j hj).1) (fun j hj => (lS_inj h j hj).2)
theorem GdX.make {ts : List Tk} (h : OkS ts) {s l : Nat → Int} (hs : ∀ j, j < 8 → 0 ≤ s j ∧ s j ≤ 1000) (hl : ∀ j, j < 8 → 0 ≤ l j ∧ l j ≤ 1000) (hT : ∀ j, j < ts.length → s j ≤ (tk ts j).T) : GdX ts (mk16 s l) := by
 refine ⟨mk16_congr (fun j hj => (sF_mk hj).symm) (fun j hj => (lF_mk hj).symm), fun j hj => ?_, fun j hj => ?_, fun j hj => ?_⟩
 ·rw [sF_mk hj]; exact hs j hj
 ·rw [lF_mk hj]; exact hl j hj
 ·rw [sF_mk (by have := h.l8; omega)]; exact hT j hj
theorem GdX.first {ts : List Tk} (h : OkS ts) : GdX ts (mk16 (perT ts ts.length) fun _ => 0) := by
 refine GdX.make h (fun j hj => ?_) (fun j hj => by omega) (fun j hj => ?_)
 ·unfold perT
  by_cases c : j < ts.length
  ·rw [if_pos c]; have := h.T j c; omega
  ·rw [if_neg c]; omega
 ·unfold perT; rw [if_pos hj]; exact Int.le_refl _
theorem tkS_ok {ts : List Tk} (h : OkS ts) {s : Nat → Int} (hs : ∀ j, j < 8 → 0 ≤ s j ∧ s j ≤ 1000) (set : Nat) : (∀ j, j < 8 → 0 ≤ tkS ts s set j ∧ tkS ts s set j ≤ 1000) ∧ ∀ j, j < ts.length → tkS ts s set j ≤ (tk ts j).T := by
 have h8 := h.l8
 have hS : ∀ j, j < 8 → 0 ≤ relS set s ts.length j ∧ relS set s ts.length j ≤ 1000 := fun j hj => by
  unfold relS
  by_cases c : j < ts.length ∧ inS set j = true
  ·rw [if_pos c]; omega
  ·rw [if_neg c]; exact hs j hj
 refine ⟨fun j hj => ?_, fun j hj => ?_⟩
 ·unfold tkS ageF
  have := hS j hj
  by_cases c : j < ts.length
  ·rw [if_pos c]; have := h.T j c; omega
  ·rw [if_neg c]; exact hS j hj
 ·unfold tkS ageF; rw [if_pos hj]; omega
theorem tkL_ok {ts : List Tk} (h : OkS ts) {l : Nat → Int} (hl : ∀ j, j < 8 → 0 ≤ l j ∧ l j ≤ 1000) (set : Nat) : ∀ j, j < 8 → 0 ≤ tkL ts l set j ∧ tkL ts l set j ≤ 1000 := fun j hj => by
 have hL : ∀ j, j < 8 → 0 ≤ relL ts set l ts.length j ∧ relL ts set l ts.length j ≤ 1000 := fun j hj => by
  unfold relL
  by_cases c : j < ts.length ∧ inS set j = true
  ·rw [if_pos c]; have := h.C j c.1; omega
  ·rw [if_neg c]; exact hl j hj
 unfold tkL decF tkR
 rcases runF_best ts (relL ts set l ts.length) ts.length with ⟨q, _⟩ | ⟨m, q0, q1, q2, q3⟩
 ·rw [q, if_neg (by omega)]; exact hL j hj
 ·rw [q1, if_pos (by omega), Int.toNat_natCast]
  unfold upI
  by_cases e : j = m
  ·subst e; rw [if_pos rfl]; have := hL j hj; omega
  ·rw [if_neg e]; exact hL j hj
theorem tkR_is {ts : List Tk} (l : Nat → Int) (set : Nat) : tkR ts l set = -1 ∨ ∃ j, j < ts.length ∧ tkR ts l set = (j : Int) := by
 unfold tkR
 rcases runF_is ts (relL ts set l ts.length) ts.length with h | ⟨j, h1, h2, _⟩
 ·exact .inl h
 ·exact .inr ⟨j, h1, h2⟩
def nxX (ts : List Tk) (x : List Int) (set : Nat) : List Int := mk16 (tkS ts (sF x) set) (tkL ts (lF x) set)
def wrX (ts : List Tk) (x : List Int) (set : Nat) (worst : List Int) : List Int := if 0 ≤ tkR ts (lF x) set ∧ tkL ts (lF x) set (tkR ts (lF x) set).toNat = 0 then worst.set (tkR ts (lF x) set).toNat (max (gi worst (tkR ts (lF x) set).toNat) (tkS ts (sF x) set (tkR ts (lF x) set).toNat)) else worst
theorem GdX.next {ts : List Tk} (h : OkS ts) {x : List Int} (hx : GdX ts x) (set : Nat) : GdX ts (nxX ts x set) := GdX.make h (tkS_ok h hx.s set).1 (tkL_ok h hx.l set) (tkS_ok h hx.s set).2
theorem wrX_len (ts : List Tk) (x : List Int) (set : Nat) (worst : List Int) : (wrX ts x set worst).length = worst.length := by
 unfold wrX; split
 ·rw [List.length_set]
 ·rfl
theorem oneX_not {ts : List Tk} {x : List Int} {set : Nat} {q : Qx} (h : mayB ts (sF x) set = false) : oneX ts x set q = .go q := by unfold oneX; rw [h]; rfl
theorem oneX_no {ts : List Tk} {x : List Int} {set : Nat} {q : Qx} (h : mayB ts (sF x) set = true) (hm : misB ts (tkS ts (sF x) set) (tkL ts (lF x) set) = true) : oneX ts x set q = .no := by
 unfold oneX; rw [if_pos h, if_pos hm]
theorem oneX_old {ts : List Tk} {x : List Int} {set : Nat} {q : Qx} (h : mayB ts (sF x) set = true) (hm : ¬ misB ts (tkS ts (sF x) set) (tkL ts (lF x) set) = true) (hi : nxX ts x set ∈ q.list) : oneX ts x set q = .go ⟨q.list, wrX ts x set q.worst⟩ := by
 unfold oneX; rw [if_pos h, if_neg hm]
 show (if nxX ts x set ∈ q.list then _ else _) = _
 rw [if_pos hi]; rfl
theorem oneX_long {ts : List Tk} {x : List Int} {set : Nat} {q : Qx} (h : mayB ts (sF x) set = true) (hm : ¬ misB ts (tkS ts (sF x) set) (tkL ts (lF x) set) = true) (hi : ¬ nxX ts x set ∈ q.list) (hl : q.list.length = 20000) : oneX ts x set q = .long := by
 unfold oneX; rw [if_pos h, if_neg hm]
 show (if nxX ts x set ∈ q.list then _ else _) = _
 rw [if_neg hi, if_pos hl]
theorem oneX_new {ts : List Tk} {x : List Int} {set : Nat} {q : Qx} (h : mayB ts (sF x) set = true) (hm : ¬ misB ts (tkS ts (sF x) set) (tkL ts (lF x) set) = true) (hi : ¬ nxX ts x set ∈ q.list) (hl : ¬ q.list.length = 20000) : oneX ts x set q = .go ⟨q.list ++ [nxX ts x set], wrX ts x set q.worst⟩ := by
 unfold oneX; rw [if_pos h, if_neg hm]
 show (if nxX ts x set ∈ q.list then _ else _) = _
 rw [if_neg hi, if_neg hl]; rfl
theorem setsX_succ {ts : List Tk} {x : List Int} {q q' : Qx} {k : Nat} (h : setsX ts x q k = .go q') : setsX ts x q (k + 1) = oneX ts x k q' := by
 show (match setsX ts x q k with | .go q' => oneX ts x k q' | .no => .no | .long => .long) = _
 rw [h]
def isEnd : Rx → Prop
 | .go _ => False
 | _ => True
theorem setsX_end {ts : List Tk} {x : List Int} {q : Qx} {k : Nat} {r : Rx} (hr : isEnd r) (h : setsX ts x q k = r) : ∀ d, setsX ts x q (k + d) = r
  | 0 => h
  | d + 1 => by
    have ih := setsX_end hr h d
    show (match setsX ts x q (k + d) with | .go q' => oneX ts x (k + d) q' | .no => .no | .long => .long) = _
    rw [ih]
    cases r with
    | go q => exact hr.elim
    | no => rfl
    | long => rfl
structure WI (ts : List Tk) (q : Qx) : Prop where
 good : ∀ x, x ∈ q.list → GdX ts x
 wl : q.worst.length = ts.length
 len : q.list.length ≤ 20000
 nodup : q.list.Nodup
theorem WI.init {ts : List Tk} (h : OkS ts) : WI ts (initX ts) := by
 refine ⟨fun x hx => ?_, by simp [initX], by simp [initX], by simp [initX]⟩
 have : x = mk16 (perT ts ts.length) (fun _ => 0) := by simpa [initX] using hx
 rw [this]; exact GdX.first h
theorem WI.old {ts : List Tk} {q : Qx} (h : WI ts q) (x : List Int) (set : Nat) : WI ts ⟨q.list, wrX ts x set q.worst⟩ := ⟨h.good, (wrX_len ts x set q.worst).trans h.wl, h.len, h.nodup⟩
theorem WI.new {ts : List Tk} (ho : OkS ts) {q : Qx} (h : WI ts q) {x : List Int} (hx : GdX ts x) (set : Nat) (hi : ¬ nxX ts x set ∈ q.list) (hl : ¬ q.list.length = 20000) : WI ts ⟨q.list ++ [nxX ts x set], wrX ts x set q.worst⟩ := by
 refine ⟨fun y hy => ?_, (wrX_len ts x set q.worst).trans h.wl, ?_, ?_⟩
 ·rcases List.mem_append.1 hy with hy | hy
  ·exact h.good y hy
  ·have : y = nxX ts x set := by simpa using hy
   rw [this]; exact GdX.next ho hx set
 ·have := h.len; show (q.list ++ [nxX ts x set]).length ≤ 20000; rw [List.length_append]; simp; omega
 ·show (q.list ++ [nxX ts x set]).Nodup
  rw [List.nodup_append]
  exact ⟨h.nodup, by simp, fun a ha b hb => by
   have : b = nxX ts x set := by simpa using hb
   subst this; intro e; subst e; exact hi ha⟩
theorem getD_app {α : Type} {xs ys : List α} {k : Nat} {d : α} (hk : k < xs.length) : (xs ++ ys).getD k d = xs.getD k d := by
 rw [List.getD_eq_getElem?_getD, List.getElem?_append_left hk, ← List.getD_eq_getElem?_getD]
theorem outX_go {ts : List Tk} {f a : Nat} {q q' : Qx} (ha : a < q.list.length) (h : setsX ts (q.list.getD a []) q (2 ^ ts.length) = .go q') : outX ts (f + 1) a q = outX ts f (a + 1) q' := by
 show (if a < q.list.length then _ else _) = _
 rw [if_pos ha, h]
theorem outX_end {ts : List Tk} {f a : Nat} {q : Qx} {r : Rx} (hr : isEnd r) (ha : a < q.list.length) (h : setsX ts (q.list.getD a []) q (2 ^ ts.length) = r) : outX ts (f + 1) a q = r := by
 show (if a < q.list.length then _ else _) = _
 rw [if_pos ha, h]
 cases r with
 | go q => exact hr.elim
 | no => rfl
 | long => rfl
theorem outX_done {ts : List Tk} {f a : Nat} {q : Qx} (ha : ¬ a < q.list.length) : outX ts f a q = .go q := by
 cases f with
 | zero => rfl
 | succ f => show (if a < q.list.length then _ else _) = _; rw [if_neg ha]
/-! ### what Worst answers -/
def PlnE (base : Nat) : Rx → Ending → World → Prop
 | .no, e, _ => e = .returned (.tuple #[.slice none 0 0, .int .i64 0, .bool false, .int .i64 0])
 | .long, e, _ => e = .returned (.tuple #[.slice none 0 0, .int .i64 0, .bool false, .int .i64 3])
 | .go q, e, w' => ∃ v, e = .returned (.tuple #[v, .int .i64 (q.list.length : Int), .bool true, .int .i64 0]) ∧ OE cdI 2 base w' v q.worst
def WorE (ts : List Tk) (w : World) (e : Ending) (w' : World) : Prop := Below w.heap.size w w' ∧ ((longB ts ∧ e = .returned (.tuple #[.slice none 0 0, .int .i64 0, .bool false, .int .i64 3])) ∨
 (¬ longB ts ∧ (hasS ts = true ∨ ¬ (0 < ts.length ∧ valK ts ts.length)) ∧ e = .returned (.tuple #[.slice none 0 0, .int .i64 0, .bool false, .int .i64 2])) ∨
 (¬ longB ts ∧ hasS ts = false ∧ 0 < ts.length ∧ valK ts ts.length ∧ PlnE w.heap.size (worstX ts) e w'))
end Go.Proofs.Ytokljoajalmkfaa
