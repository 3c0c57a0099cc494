/- Part of the proof of stopwatch_explores_proved: Sxc. -/
import Derived.Laws.IdiomCopy
import Derived.Laws.Rows
import Derived.Test.YtokljoajalmkfaaXeSxb
import Derived.Test.YtokljoajalmkfaaXeLst
namespace Go.Proofs.Ytokljoajalmkfaa
open Go Go.RowKit
set_option linter.unusedVariables false
set_option linter.unusedSimpArgs false
set_option linter.unnecessarySimpa false
structure Rs where
 dom : List Nat
 ok : World → Prop
 loc : ∀ w w' : World, (∀ b, b ∈ dom → w'.heap[b]? = w.heap[b]?) → ok w → ok w'
 inh : ∀ w, ok w → ∀ b, b ∈ dom → b < w.heap.size
def Rs.row (b : Nat) (cells : List Value) (ty : Nat) : Rs where
 dom := [b]
 ok w := w.heap[b]? = some (.cells cells.toArray ty (0, 0))
 loc w w' h hw := (h b (by simp)).trans hw
 inh w hw c hc := by
  have : c = b := by simpa using hc
  subst this; exact (Array.getElem?_eq_some_iff.1 hw).1
def Rs.obj (b : Nat) (o : Obj) : Rs where
 dom := [b]
 ok w := w.heap[b]? = some o
 loc w w' h hw := (h b (by simp)).trans hw
 inh w hw c hc := by
  have : c = b := by simpa using hc
  subst this; exact (Array.getElem?_eq_some_iff.1 hw).1
def blkL (v : Value) : List Nat := match v.ownBlock with
 | some b => [b]
 | none => []
theorem owns_loc {w w' : World} {e size : Nat} {v : Value} {n : Nat} {xs : List Value} (h : ∀ b, b ∈ blkL v → w'.heap[b]? = w.heap[b]?) (hw : w.ownsRow 0 e size v n xs) : w'.ownsRow 0 e size v n xs := by
 refine ⟨hw.1, ?_⟩
 rcases hw.2 with hn | ⟨g, cap, cur, rfl, hb, hg, r⟩
 ·exact .inl hn
 ·exact .inr ⟨g, cap, cur, rfl, hb, (h g (by simp [blkL, Value.ownBlock])).trans hg, r⟩
def Rs.own {α : Type} (c : Cd α) (t : Nat) (v : Value) (xs : List α) : Rs where
 dom := blkL v
 ok w := OE c t 0 w v xs
 loc w w' h hw := owns_loc h hw
 inh w hw b hb := by
  unfold blkL at hb
  cases hv : v.ownBlock with
  | none => rw [hv] at hb; cases hb
  | some g =>
   rw [hv] at hb
   have : b = g := by simpa using hb
   subst this
   exact (World.ownsRow.lt hw _ hv).2
def nthR : List Rs → Nat → Option Rs
 | [], _ => none
 | r :: _, 0 => some r
 | _ :: Hs, i + 1 => nthR Hs i
def setR : List Rs → Nat → Rs → List Rs
 | [], _, _ => []
 | _ :: Hs, 0, r' => r' :: Hs
 | r :: Hs, i + 1, r' => r :: setR Hs i r'
theorem nthR_set : ∀ (Hs : List Rs) (i : Nat) (r' : Rs) (j : Nat), nthR (setR Hs i r') j = if i = j ∧ (nthR Hs i).isSome = true then some r' else nthR Hs j
 | [], i, r', j => by simp [setR, nthR]
 | r :: Hs, 0, r', 0 => by simp [setR, nthR]
 | r :: Hs, 0, r', j + 1 => by simp [setR, nthR]
 | r :: Hs, i + 1, r', 0 => by simp [setR, nthR]
 | r :: Hs, i + 1, r', j + 1 => by
  show nthR (setR Hs i r') j = _
  rw [nthR_set Hs i r' j]
  by_cases h : i = j
  ·subst h; simp [nthR]
  ·rw [if_neg (fun q => h q.1), if_neg (fun q => h (by omega))]; rfl
structure Wd (w0 : World) (D : List Nat) (Hs : List Rs) (w : World) : Prop where
 os : w.os = w0.os
 tape : w.tape = w0.tape
 output : w.output = w0.output
 size : w0.heap.size ≤ w.heap.size
 block : ∀ b, b < w0.heap.size → b ∉ D → w.heap[b]? = w0.heap[b]?
 ok : ∀ i r, nthR Hs i = some r → r.ok w
 dom : ∀ i r, nthR Hs i = some r → ∀ b, b ∈ r.dom → w0.heap.size ≤ b ∨ b ∈ D
 apart : ∀ i j r r', i ≠ j → nthR Hs i = some r → nthR Hs j = some r' → ∀ b, b ∈ r.dom → b ∉ r'.dom
section
variable {w0 w w' : World} {D : List Nat} {Hs : List Rs}
theorem nthR_nil {i : Nat} {r : Rs} (h : nthR [] i = some r) : False := by cases i <;> cases h
theorem Wd.init (w : World) : Wd w [] [] w := ⟨rfl, rfl, rfl, Nat.le_refl _, fun _ _ _ => rfl, fun i r h => (nthR_nil h).elim, fun i r h => (nthR_nil h).elim, fun i j r r' _ h => (nthR_nil h).elim⟩
theorem Wd.below (h : Wd w0 [] Hs w) : Below w0.heap.size w0 w := ⟨h.os, h.tape, h.output, h.size, fun k hk => h.block k hk (by simp)⟩
theorem Wd.drew (h : Wd w0 D Hs w) : Wd w0 D Hs w.drew := ⟨h.os, h.tape, h.output, h.size, h.block, fun i r hr => r.loc w _ (fun _ _ => rfl) (h.ok i r hr), h.dom, h.apart⟩
theorem Wd.keep (h : Wd w0 D Hs w) (hb : Below w.heap.size w w') : Wd w0 D Hs w' :=
 ⟨hb.os.trans h.os, hb.tape.trans h.tape, hb.output.trans h.output, Nat.le_trans h.size hb.size, fun b h1 h2 => (hb.block b (Nat.lt_of_lt_of_le h1 h.size)).trans (h.block b h1 h2), fun i r hr => r.loc w w' (fun b hd => hb.block b (r.inh w (h.ok i r hr) b hd)) (h.ok i r hr), h.dom, h.apart⟩
theorem Wd.step {r r' : Rs} {i : Nat} (h : Wd w0 D Hs w) (hi : nthR Hs i = some r) (ho : w'.os = w.os) (ht : w'.tape = w.tape) (hp : w'.output = w.output) (hs : w.heap.size ≤ w'.heap.size) (hb : ∀ b, b < w.heap.size → b ∉ r.dom → w'.heap[b]? = w.heap[b]?) (hr : r'.ok w') (hd : ∀ b, b ∈ r'.dom → b ∈ r.dom ∨ w.heap.size ≤ b) : Wd w0 D (setR Hs i r') w' := by
 have other : ∀ j q, i ≠ j → nthR Hs j = some q → q.ok w' := fun j q hne hq => q.loc w w' (fun b hbq => hb b (q.inh w (h.ok j q hq) b hbq) (fun hbr => h.apart i j r q hne hi hq b hbr hbq)) (h.ok j q hq)
 have hget : ∀ j q, nthR (setR Hs i r') j = some q → (i = j ∧ q = r') ∨ (i ≠ j ∧ nthR Hs j = some q) := fun j q hq => by
  rw [nthR_set] at hq
  by_cases e : i = j
  ·rw [if_pos ⟨e, by rw [hi]; rfl⟩] at hq; exact .inl ⟨e, (Option.some.inj hq).symm⟩
  ·rw [if_neg (fun q => e q.1)] at hq; exact .inr ⟨e, hq⟩
 refine ⟨ho.trans h.os, ht.trans h.tape, hp.trans h.output, Nat.le_trans h.size hs, fun b h1 h2 => (hb b (Nat.lt_of_lt_of_le h1 h.size) (fun hbr => ?_)).trans (h.block b h1 h2), fun j q hq => ?_, fun j q hq b hbq => ?_, fun j k q q' hne hq hq' b hbq => ?_⟩
 ·rcases h.dom i r hi b hbr with q | q
  ·omega
  ·exact h2 q
 ·rcases hget j q hq with ⟨_, rfl⟩ | ⟨hne, hq⟩
  ·exact hr
  ·exact other j q hne hq
 ·rcases hget j q hq with ⟨_, rfl⟩ | ⟨hne, hq⟩
  ·rcases hd b hbq with q | q
   ·exact h.dom i r hi b q
   ·exact .inl (Nat.le_trans h.size q)
  ·exact h.dom j q hq b hbq
 ·rcases hget j q hq with ⟨e1, f1⟩ | ⟨hne1, g1⟩ <;> rcases hget k q' hq' with ⟨e2, f2⟩ | ⟨hne2, g2⟩
  ·exact absurd (e1.symm.trans e2) hne
  ·intro hbq'
   rw [f1] at hbq
   rcases hd b hbq with q1 | q1
   ·exact h.apart i k r q' hne2 hi g2 b q1 hbq'
   ·have := q'.inh w (h.ok k q' g2) b hbq'; omega
  ·intro hbq'
   rw [f2] at hbq'
   rcases hd b hbq' with q1 | q1
   ·exact h.apart i j r q hne1 hi g1 b q1 hbq
   ·have := q.inh w (h.ok j q g1) b hbq; omega
  ·exact h.apart j k q q' hne g1 g2 b hbq
theorem Wd.new {r : Rs} (h : Wd w0 D Hs w) (hb : Below w.heap.size w w') (hr : r.ok w') (hd : ∀ b, b ∈ r.dom → w.heap.size ≤ b) : Wd w0 D (r :: Hs) w' := by
 have k := h.keep hb
 refine ⟨k.os, k.tape, k.output, k.size, k.block, fun i q hq => ?_, fun i q hq b hbq => ?_, fun i j q q' hne hq hq' b hbq => ?_⟩
 ·cases i with
  | zero => cases hq; exact hr
  | succ i => exact k.ok i q hq
 ·cases i with
  | zero => cases hq; exact .inl (Nat.le_trans h.size (hd b hbq))
  | succ i => exact k.dom i q hq b hbq
 ·cases i with
  | zero =>
   cases hq
   cases j with
   | zero => exact absurd rfl hne
   | succ j => intro hbq'; have := q'.inh w (h.ok j q' hq') b hbq'; have := hd b hbq; omega
  | succ i =>
   cases j with
   | zero => cases hq'; intro hbq'; have := q.inh w (h.ok i q hq) b hbq; have := hd b hbq'; omega
   | succ j => exact k.apart i j q q' (by omega) hq hq' b hbq
def pickH (Hs : List Rs) : List Nat → Option (List Rs)
 | [] => some []
 | i :: is => match nthR Hs i, pickH Hs is with
  | some r, some rs => some (r :: rs)
  | _, _ => none
def nodupN : List Nat → Bool
 | [] => true
 | i :: is => is.all (fun j => !(i == j)) && nodupN is
theorem pickH_at : ∀ (is : List Nat) (Hs' : List Rs), pickH Hs is = some Hs' → ∀ j r, nthR Hs' j = some r → ∃ i, is[j]? = some i ∧ nthR Hs i = some r
  | [], Hs', h, j, r, hr => by cases h; cases j <;> cases hr
  | i :: is, Hs', h, j, r, hr => by
    unfold pickH at h
    split at h
    · rename_i q qs h1 h2
      injection h with h
      subst h
      cases j with
      | zero => cases hr; exact ⟨i, rfl, h1⟩
      | succ j => obtain ⟨k, a, b⟩ := pickH_at is qs h2 j r hr; exact ⟨k, a, b⟩
    · cases h
theorem nodupN_ne : ∀ (is : List Nat), nodupN is = true → ∀ (j k a b : Nat), j ≠ k → is[j]? = some a → is[k]? = some b → a ≠ b
  | [], _, j, k, a, b, _, ha, _ => by simp at ha
  | i :: is, h, j, k, a, b, hne, ha, hb => by
    unfold nodupN at h
    rw [Bool.and_eq_true] at h
    have hall := List.all_eq_true.1 h.1
    cases j with
    | zero =>
      cases k with
      | zero => exact absurd rfl hne
      | succ k =>
        have e : i = a := by simpa using ha
        have hm : b ∈ is := List.mem_of_getElem? (by simpa using hb)
        have := hall b hm
        subst e
        intro e; subst e; simp at this
    | succ j =>
      cases k with
      | zero =>
        have e : i = b := by simpa using hb
        have hm : a ∈ is := List.mem_of_getElem? (by simpa using ha)
        have := hall a hm
        subst e
        intro e; subst e; simp at this
      | succ k => exact nodupN_ne is h.2 j k a b (by omega) (by simpa using ha) (by simpa using hb)
theorem Wd.pick {Hs' : List Rs} (is : List Nat) (hn : nodupN is = true) (hp : pickH Hs is = some Hs') (h : Wd w0 D Hs w) : Wd w0 D Hs' w := by
 refine ⟨h.os, h.tape, h.output, h.size, h.block, fun j r hr => ?_, fun j r hr b hb => ?_, fun j k r r' hne hr hr' b hb => ?_⟩
 ·obtain ⟨i, _, hi⟩ := pickH_at is Hs' hp j r hr; exact h.ok i r hi
 ·obtain ⟨i, _, hi⟩ := pickH_at is Hs' hp j r hr; exact h.dom i r hi b hb
 ·obtain ⟨i, e1, hi⟩ := pickH_at is Hs' hp j r hr
  obtain ⟨i', e2, hi'⟩ := pickH_at is Hs' hp k r' hr'
  exact h.apart i i' r r' (nodupN_ne is hn j k i i' hne e1 e2) hi hi' b hb
theorem Wd.drop (h : Wd w0 D Hs w) : Wd w0 D [] w := h.pick [] rfl rfl
/-! reading -/
theorem Wd.cell {i b o ty : Nat} {cells : List Value} {v : Value} (hi : nthR Hs i = some (Rs.row b cells ty)) (hc : cells[o]? = some v) : ∀ w, Wd w0 D Hs w → w.cell? ⟨b, o, none⟩ = some v := fun w h => by
 have : w.heap[b]? = some (.cells cells.toArray ty (0, 0)) := h.ok i _ hi
 unfold World.cell?
 simp only [this]
 simpa using hc
theorem Wd.inp {b o : Nat} {v : Value} (hb : b < w0.heap.size) (hD : b ∉ D) (hc : w0.cell? ⟨b, o, none⟩ = some v) : ∀ w, Wd w0 D Hs w → w.cell? ⟨b, o, none⟩ = some v := fun w h => by
 have := h.block b hb hD
 unfold World.cell? at *
 simp only [this]
 exact hc
end
section
variable {P : Program} {ops : Array Oper} {N : Act → World → Prop} {n : Nat} {ds : List Deferred} {l : List Oper} {K : Kn} {S S' : World → Prop} {w0 : World} {D : List Nat} {Hs : List Rs} {dst : Option Nat} {ty : Nat} {pos : String} {af : Array Edge} {g : Option (Nat × Bool)}
def aggS (P : Program) (t : Nat) : Option (Option Nat) := match P.underlying t, P.info? t with
 | some (.struct _), some i => some (some i.size)
 | some (.array _ _), some i => some (some i.size)
 | some _, some i => if i.size = 1 then some none else none
 | _, _ => none
theorem run_isAgg {t : Nat} {w : World} : (∀ m, aggS P t = some (some m) → (isAgg t).run P w = .ok true w ∧ (sizeOf t).run P w = .ok m w) ∧ (aggS P t = some none → (isAgg t).run P w = .ok false w ∧ (sizeOf t).run P w = .ok 1 w) := by
 unfold aggS
 cases hu : P.underlying t with
 | none => simp
 | some d =>
  cases hi : P.info? t with
  | none => cases d <;> simp
  | some inf =>
   constructor
   ·intro m hm
    cases d <;> simp at hm <;> first | (split at hm <;> cases hm; done) | (simp [isAgg, run_underlying hu, sizeOf, typeInfo, hi, hm])
   ·intro hm
    cases d <;> simp at hm <;> simp [isAgg, run_underlying hu, sizeOf, typeInfo, hi, hm]
theorem Yd.load {t b o : Nat} {x : Operand} {v : Value} (hx : opd K x = some (.pointer (some ⟨b, o, none⟩))) (ht : aggS P t = some none) (hc : ∀ w, S w → w.cell? ⟨b, o, none⟩ = some v) : Yd P S n ds K ⟨dst, .load t x, ty, pos, af, g⟩ v := fun a w ha hw => by
 have h1 := (run_isAgg (P := P) (t := t) (w := w)).2 ht
 have h2 : (loadVar t (⟨b, o, none⟩ : Addr)).run P w = .ok v w := by simp [loadVar, h1.1, hc w hw]
 simp [execOp, ha.eval hx, Instr.loadAt, Instr.sureAddr, h2]
theorem run_loadA {t b o m : Nat} {cs : List Value} {w : World} (ht : aggS P t = some (some m)) (hl : cs.length = m) (hc : ∀ j v, cs[j]? = some v → w.cell? ⟨b, o + j, none⟩ = some v) : (loadVar t ⟨b, o, none⟩).run P w = .ok (.agg cs.toArray) w := by
 have h1 := (run_isAgg (P := P) (t := t) (w := w)).1 m ht
 have h2 := run_loadCells_list (P := P) w ⟨b, o, none⟩ cs (fun j v hj => by rw [add_at]; exact hc j v hj)
 rw [hl] at h2
 simp [loadVar, h1.1, h1.2, h2]
theorem Yd.loadA {t b o m : Nat} {x : Operand} {cs : List Value} (hx : opd K x = some (.pointer (some ⟨b, o, none⟩))) (ht : aggS P t = some (some m)) (hl : cs.length = m) (hc : ∀ w, S w → ∀ j v, cs[j]? = some v → w.cell? ⟨b, o + j, none⟩ = some v) : Yd P S n ds K ⟨dst, .load t x, ty, pos, af, g⟩ (.agg cs.toArray) := fun a w ha hw => by
 simp [execOp, ha.eval hx, Instr.loadAt, Instr.sureAddr, run_loadA ht hl (hc w hw)]
theorem Yd.loadR {t b i ty' m : Nat} {x : Operand} {cs : List Value} (hx : opd K x = some (.pointer (some ⟨b, 0, none⟩))) (ht : aggS P t = some (some m)) (hi : nthR Hs i = some (Rs.row b cs ty')) (hl : cs.length = m) : Yd P (Wd w0 D Hs) n ds K ⟨dst, .load t x, ty, pos, af, g⟩ (.agg cs.toArray) :=
 Yd.loadA hx ht hl (fun w hw j v hj => by rw [Nat.zero_add]; exact Wd.cell hi hj w hw)
theorem SL.eff {o : Oper} {d : Nat} {σ : Type} {V : σ → Value} {S' : σ → World → Prop} (hd : o.dst = some d) (hn : (Nat.blt d n) = true) (hg : Gd ops n ds K o true) (hv : ∀ a w, Kw n ds K a → S w → ∃ s w', (execOp a.eval o).run P w = .ok (.value (V s)) w' ∧ S' s w') (h : ∀ s, SL P ops N n ds l ((d, V s) :: K) (S' s)) : SL P ops N n ds (o :: l) K S := fun a w ha hw => by
 obtain ⟨s, w', e, hs⟩ := hv a w ha hw
 have hlt : d < n := by simpa [Nat.blt_eq] using hn
 show oneW P ops o (seqW P ops N l) a w
 unfold oneW opW
 rw [if_pos (hg a ha), e, hd]
 exact h s _ _ (ha.put hlt _) hs
theorem SL.eff0 {o : Oper} {S' : World → Prop} (hd : o.dst = none) (hg : Gd ops n ds K o true) (hv : ∀ a w, Kw n ds K a → S w → ∃ w', (execOp a.eval o).run P w = .ok .skip w' ∧ S' w') (h : SL P ops N n ds l K S') : SL P ops N n ds (o :: l) K S := fun a w ha hw => by
 obtain ⟨w', e, hs⟩ := hv a w ha hw
 show oneW P ops o (seqW P ops N l) a w
 unfold oneW opW
 rw [if_pos (hg a ha), e, hd]
 exact h _ _ (ha.put0 _) hs
def Ef (P : Program) (S : World → Prop) (n : Nat) (ds : List Deferred) (K : Kn) (o : Oper) {σ : Type} (V : σ → Value) (S' : σ → World → Prop) : Prop := ∀ a w, Kw n ds K a → S w → ∃ s w', (execOp a.eval o).run P w = .ok (.value (V s)) w' ∧ S' s w'
def Ef0 (P : Program) (S : World → Prop) (n : Nat) (ds : List Deferred) (K : Kn) (o : Oper) (S' : World → Prop) : Prop := ∀ a w, Kw n ds K a → S w → ∃ w', (execOp a.eval o).run P w = .ok .skip w' ∧ S' w'
def zeroL (P : Program) (t : Nat) : Option (List Value) := match P.info? t with
 | some i => match i.zero with
  | some z => some z.cells.toList
  | none => none
 | none => none
theorem zeroL_is {t : Nat} {z : List Value} (h : zeroL P t = some z) {w : World} : ∃ v, (zeroValue t).run P w = .ok v w ∧ v.cells = z.toArray := by
 unfold zeroL at h
 split at h
 ·rename_i i hi
  split at h
  ·rename_i v hv
   injection h with h
   refine ⟨v, by simp [zeroValue, typeInfo, hi, hv], ?_⟩
   rw [← h]
  ·cases h
 ·cases h
theorem below_alloc (w : World) (o : Obj) : Below w.heap.size w (w.alloc o) := (Below.refl _ w).alloc (Nat.le_refl _) o
theorem alloc_row (w : World) (c : Array Value) (t : Nat) : (w.alloc (.cells c t)).heap[w.heap.size]? = some (.cells c t (0, 0)) := World.alloc_heap_new w _
theorem row_dom (m : Nat) (c : List Value) (t : Nat) : ∀ b, b ∈ (Rs.row m c t).dom → m ≤ b := fun b hb => by
 have : b = m := by simpa [Rs.row] using hb
 omega
theorem Ef.alloc {t : Nat} {z : List Value} (hz : zeroL P t = some z) : Ef P (Wd w0 D Hs) n ds K ⟨dst, .alloc t, ty, pos, af, g⟩ (σ := Nat) (fun b => .pointer (some ⟨b, 0, none⟩)) (fun b => Wd w0 D (Rs.row b z t :: Hs)) := fun a w ha hw => by
 obtain ⟨v, h1, h2⟩ := zeroL_is hz (P := P) (w := w)
 refine ⟨w.heap.size, w.alloc (.cells z.toArray t), ?_, hw.new (below_alloc _ _) (alloc_row w _ t) (row_dom _ _ _)⟩
 simp [execOp, Instr.alloc, h1, newVar, newRow, h2]
theorem Ef.box {t : Nat} {x : Operand} {v : Value} (hx : opd K x = some v) : Ef P (Wd w0 D Hs) n ds K ⟨dst, .box t x, ty, pos, af, g⟩ (σ := Nat) (fun b => .pointer (some ⟨b, 0, none⟩)) (fun b => Wd w0 D (Rs.row b v.cells.toList t :: Hs)) := fun a w ha hw => by
 refine ⟨w.heap.size, w.alloc (.cells v.cells t), ?_, hw.new (below_alloc _ _) (by show _ = _; rw [Array.toArray_toList]; exact alloc_row w _ t) (row_dom _ _ _)⟩
 simp [execOp, ha.eval hx, Instr.box, newVar, newRow]
def setRow2 (cells : List Value) : Nat → List Value → List Value
 | _, [] => cells
 | i, v :: vs => setRow2 (cells.set i v) (i + 1) vs
theorem row_setCell {w : World} {b k t : Nat} {l : List Value} {v : Value} (h : w.heap[b]? = some (.cells l.toArray t (0, 0))) : (w.setCell ⟨b, k, none⟩ v).heap[b]? = some (.cells (l.set k v).toArray t (0, 0)) := by
 rw [heap_setCell_same _ b k _ _ _ h, List.setIfInBounds_toArray]
theorem run_storeRow {b t : Nat} : ∀ (vs : List Value) (l : List Value) (o i : Nat) (w : World), w.heap[b]? = some (.cells l.toArray t (0, 0)) → o + i + vs.length ≤ l.length → (∀ v, v ∈ vs → v.oneCell' = true) → ∃ w', (storeCells ⟨b, o, none⟩ vs i).run P w = .ok () w' ∧ w'.heap[b]? = some (.cells (setRow2 l (o + i) vs).toArray t (0, 0)) ∧ w'.os = w.os ∧ w'.tape = w.tape ∧ w'.output = w.output ∧ w'.heap.size = w.heap.size ∧ ∀ c, c ≠ b → w'.heap[c]? = w.heap[c]?
  | [], l, o, i, w, h, _, _ => ⟨w, rfl, h, rfl, rfl, rfl, rfl, fun _ _ => rfl⟩
  | v :: vs, l, o, i, w, h, hl, h1 => by
    have hl' : o + i < l.length := by simp at hl; omega
    have hcell : w.cell? ⟨b, o + i, none⟩ = some l[o + i] := by
      unfold World.cell?; simp only [h]; simp [hl']
    have hfro : w.frozen? ⟨b, o + i, none⟩ = false := frozen_of_row _ b _ _ _ h
    have hst : (Go.store (⟨b, o + i, none⟩ : Addr) v).run P w = .ok () (w.setCell ⟨b, o + i, none⟩ v) := by
      rw [run_store P w _ v _ (h1 v (by simp)), hcell]
      simp [hfro]
    obtain ⟨w', e, h2, h3, h4, h5, h6, h7⟩ := run_storeRow vs (l.set (o + i) v) o (i + 1) (w.setCell ⟨b, o + i, none⟩ v) (row_setCell h) (by simp at hl ⊢; omega) (fun u hu => h1 u (by simp [hu]))
    refine ⟨w', ?_, h2, h3.trans rfl, h4.trans rfl, h5.trans rfl, h6.trans (by simp [World.setCell]), fun c hc => (h7 c hc).trans (Below.heap_setCell _ _ _ _ hc)⟩
    simp only [storeCells, add_at, Sem.run_bind, hst, Result.andThen_ok]
    exact e
theorem Ef0.store {t b off i ty' : Nat} {x y : Operand} {v : Value} {cells : List Value} (hx : opd K x = some (.pointer (some ⟨b, off, none⟩))) (hy : opd K y = some v) (h1 : v.oneCell' = true) (ht : aggS P t = some none) (hi : nthR Hs i = some (Rs.row b cells ty')) (ho : off < cells.length) :
  Ef0 P (Wd w0 D Hs) n ds K ⟨none, .store t x y, ty, pos, af, g⟩ (Wd w0 D (setR Hs i (Rs.row b (cells.set off v) ty'))) := fun a w ha hw => by
 have hsz := ((run_isAgg (P := P) (t := t) (w := w)).2 ht).2
 have hrow : w.heap[b]? = some (.cells cells.toArray ty' (0, 0)) := hw.ok i _ hi
 obtain ⟨w', e, h2, h3, h4, h5, h6, h7⟩ := run_storeRow (P := P) [v] cells off 0 w hrow (by simp; omega) (fun u hu => (show u = v by simpa using hu) ▸ h1)
 refine ⟨w', ?_, hw.step hi h3 h4 h5 (by omega) (fun c _ hc => h7 c (by simpa [Rs.row] using hc)) h2 (fun c hc => .inl hc)⟩
 have hvc : v.cells = #[v] := by cases v <;> first | rfl | (simp [Value.oneCell'] at h1)
 simp [execOp, ha.eval hx, ha.eval hy, Instr.storeAt, Instr.sureAddr, storeVar, hsz, hvc, e]
theorem Ef0.storeA {t b off i ty' m : Nat} {x y : Operand} {cs cells : List Value} (hx : opd K x = some (.pointer (some ⟨b, off, none⟩))) (hy : opd K y = some (.agg cs.toArray)) (h1 : cs.all (·.oneCell') = true) (ht : aggS P t = some (some m)) (hm : cs.length = m) (hi : nthR Hs i = some (Rs.row b cells ty')) (ho : off + cs.length ≤ cells.length) :
  Ef0 P (Wd w0 D Hs) n ds K ⟨none, .store t x y, ty, pos, af, g⟩ (Wd w0 D (setR Hs i (Rs.row b (setRow2 cells off cs) ty'))) := fun a w ha hw => by
 have hsz := ((run_isAgg (P := P) (t := t) (w := w)).1 m ht).2
 have hrow : w.heap[b]? = some (.cells cells.toArray ty' (0, 0)) := hw.ok i _ hi
 obtain ⟨w', e, h2, h3, h4, h5, h6, h7⟩ := run_storeRow (P := P) cs cells off 0 w hrow (by omega) (fun u hu => List.all_eq_true.1 h1 u hu)
 refine ⟨w', ?_, hw.step hi h3 h4 h5 (by omega) (fun c _ hc => h7 c (by simpa [Rs.row] using hc)) h2 (fun c hc => .inl hc)⟩
 simp [execOp, ha.eval hx, ha.eval hy, Instr.storeAt, Instr.sureAddr, storeVar, hsz, Value.cells, hm, e]
end
theorem calls_open {P : Program} {f n : Nat} {fn : Func} {c : Code} {vs : List Value} {w : World} {R : Ending → World → Prop} (hf : P.funcs[f]? = some fn) (hb : fn.body = some c) (hn : fn.ntmps = n) (hl : Nat.ble vs.length n = true) (h : CW none P c (bodyPost P fn R) n [] (argK vs 0) (Wd w [] [])) : Calls P f vs.toArray w R := by
 subst hn
 exact calls_cw hf hb (eq_true (Nat.le_of_ble_eq_true hl)) (h.conseq Sub.refl (fun w' e => e ▸ Wd.init _))
end Go.Proofs.Ytokljoajalmkfaa
