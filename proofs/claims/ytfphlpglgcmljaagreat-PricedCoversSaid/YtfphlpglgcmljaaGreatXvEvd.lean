/- Part of the proof of priced_covers_proved: Evd. -/
import Derived.Great.BuildSlice
import Derived.Laws.AppendOwn
import Derived.Laws.MakeOwn
import Derived.Test.YtfphlpglgcmljaaGreatXvEvc
namespace Go.Proofs.YtfphlpglgcmljaaGreat.Ev
open Go Go.RowKit
set_option linter.unusedVariables false
theorem SR.halt {P : Program} {α β : Type} {R : Gh → α → β → Prop} {g : Gh} {h : Halt} {e' : Sem β} : SR P R g (.halt h) e' := .bad fun V H W => rfl
theorem SR.und {P : Program} {α β : Type} {R : Gh → α → β → Prop} {g : Gh} {t : Nat} {f : TypeDesc → Sem α} {f' : TypeDesc → Sem β} (h : ∀ d, P.underlying t = some d → SR P R g (f d) (f' d)) : SR P R g ((underlying t).bind f) ((underlying t).bind f') := by
 show SR P R g (.program fun p => Sem.bind (match p.underlying t with | some d => Sem.pure d | none => stuck "no such type") f) (.program fun p => Sem.bind (match p.underlying t with | some d => Sem.pure d | none => stuck "no such type") f')
 refine .program ?_
 cases hd : P.underlying t with
 | none => exact .halt
 | some d => exact h d hd
theorem SR.size {P : Program} {α β : Type} {R : Gh → α → β → Prop} {g : Gh} {t : Nat} {f : Nat → Sem α} {f' : Nat → Sem β} (h : ∀ i, P.info? t = some i → SR P R g (f i.size) (f' i.size)) : SR P R g ((sizeOf t).bind f) ((sizeOf t).bind f') := by
 show SR P R g (.program fun p => Sem.bind (Sem.bind (match p.info? t with | some d => Sem.pure d | none => stuck "no such type") (fun i => Sem.pure i.size)) f) (.program fun p => Sem.bind (Sem.bind (match p.info? t with | some d => Sem.pure d | none => stuck "no such type") (fun i => Sem.pure i.size)) f')
 refine .program ?_
 cases hd : P.info? t with
 | none => exact .halt
 | some d => exact h d hd
theorem SR.zero {P : Program} {α β : Type} {R : Gh → α → β → Prop} {g : Gh} {t : Nat} {f : Value → Sem α} {f' : Value → Sem β} (h : ∀ i z, P.info? t = some i → i.zero = some z → SR P R g (f z) (f' z)) : SR P R g ((zeroValue t).bind f) ((zeroValue t).bind f') := by
 show SR P R g (.program fun p => Sem.bind (Sem.bind (match p.info? t with | some d => Sem.pure d | none => stuck "no such type") (fun i => match i.zero with | some v => Sem.pure v | none => unsupported (.resourceLimit "a value of more than 2^22 cells"))) f)
  (.program fun p => Sem.bind (Sem.bind (match p.info? t with | some d => Sem.pure d | none => stuck "no such type") (fun i => match i.zero with | some v => Sem.pure v | none => unsupported (.resourceLimit "a value of more than 2^22 cells"))) f')
 refine .program ?_
 cases hd : P.info? t with
 | none => exact .halt
 | some d =>
  show SR P R g (Sem.bind (match d.zero with | some v => Sem.pure v | none => unsupported (.resourceLimit "a value of more than 2^22 cells")) f) (Sem.bind (match d.zero with | some v => Sem.pure v | none => unsupported (.resourceLimit "a value of more than 2^22 cells")) f')
  cases hz : d.zero with
  | none => exact .halt
  | some z => exact h d z hd hz
def aggD : TypeDesc → Bool
 | .struct _ => true
 | .array _ _ => true
 | _ => false
theorem SR.agg {P : Program} {α β : Type} {R : Gh → α → β → Prop} {g : Gh} {t : Nat} {f : Bool → Sem α} {f' : Bool → Sem β} (h : ∀ d, P.underlying t = some d → SR P R g (f (aggD d)) (f' (aggD d))) : SR P R g ((isAgg t).bind f) ((isAgg t).bind f') := by
 show SR P R g (.program fun p => Sem.bind (Sem.bind (match p.underlying t with | some d => Sem.pure d | none => stuck "no such type") (fun d => match d with | .struct _ | .array _ _ => Sem.pure true | _ => Sem.pure false)) f)
  (.program fun p => Sem.bind (Sem.bind (match p.underlying t with | some d => Sem.pure d | none => stuck "no such type") (fun d => match d with | .struct _ | .array _ _ => Sem.pure true | _ => Sem.pure false)) f')
 refine .program ?_
 cases hd : P.underlying t with
 | none => exact .halt
 | some d =>
  have := h d hd
  cases d <;> exact this
theorem AR.add {g : Gh} {a a' : Addr} (h : AR g a a') (n : Nat) : AR g (a.add n) (a'.add n) := by
 obtain ⟨c, h1, h2, rfl⟩ := h
 unfold Addr.add
 by_cases hn : n = 0
 ·rw [if_pos hn, if_pos hn]; exact ⟨c, h1, h2, rfl⟩
 ·rw [if_neg hn, if_neg hn]; exact ⟨c, h1, rfl, by simp only [Nat.add_assoc]⟩
abbrev RA : Gh → Array Value → Array Value → Prop := fun g x y => LR g x.toList y.toList
abbrev RU : Gh → Unit → Unit → Prop := fun _ _ _ => True
theorem SR.loadCellsFrom {P : Program} : ∀ (n i : Nat) {g : Gh} {a a' : Addr} {x x' : Array Value}, AR g a a' → LR g x.toList x'.toList → SR P RA g (loadCellsFrom a i n x) (loadCellsFrom a' i n x')
 | 0, i, g, a, a', x, x', h, hx => .pure hx
 | n + 1, i, g, a, a', x, x', h, hx => by
  show SR P RA g (.load .plain (a.add i) fun v => Go.loadCellsFrom a (i + 1) n (x.push v)) (.load .plain (a'.add i) fun v => Go.loadCellsFrom a' (i + 1) n (x'.push v))
  refine .load (h.add i) fun v v' hv => SR.loadCellsFrom n (i + 1) h ?_
  rw [Array.toList_push, Array.toList_push]
  exact hx.append ((LR.nil g).cons hv)
theorem SR.loadCells {P : Program} {g : Gh} {a a' : Addr} (h : AR g a a') (n : Nat) : SR P RA g (loadCells a n) (loadCells a' n) := SR.loadCellsFrom n 0 h (LR.nil g)
theorem SR.storeCells {P : Program} : ∀ (l l' : List Value) (i : Nat) {g : Gh} {a a' : Addr}, AR g a a' → LR g l l' → SR P RU g (storeCells a l i) (storeCells a' l' i)
  | [], l', i, g, a, a', h, hl => by rw [hl.of_nil]; exact .pure trivial
  | v :: l, m, i, g, a, a', h, hl => by
    obtain ⟨v', l', rfl, h1, h2⟩ := hl.of_cons
    show SR P RU g (.store .plain (a.add i) v (Go.storeCells a l (i + 1))) (.store .plain (a'.add i) v' (Go.storeCells a' l' (i + 1)))
    exact .store (h.add i) h1 (SR.storeCells l l' (i + 1) h h2)
theorem SR.loadVar {P : Program} {g : Gh} {a a' : Addr} (h : AR g a a') (t : Nat) : SR P VR g (loadVar t a) (loadVar t a') := by
 show SR P VR g ((isAgg t).bind fun b => if b = true then (sizeOf t).bind fun n => (Go.loadCells a n).bind fun x => .pure (.agg x) else .load .plain a .pure) ((isAgg t).bind fun b => if b = true then (sizeOf t).bind fun n => (Go.loadCells a' n).bind fun x => .pure (.agg x) else .load .plain a' .pure)
 refine SR.agg fun d hd => ?_
 cases aggD d with
 | true => exact SR.size fun i hi => (SR.loadCells h i.size).bind fun g' x y hs hx => .pure (VR.aggL hx)
 | false => exact .load h fun v v' hv => .pure hv
theorem LR.size {g : Gh} {x y : Array Value} (h : LR g x.toList y.toList) : y.size = x.size := by have := h.1; simpa using this.symm
theorem SR.storeVar {P : Program} {g : Gh} {a a' : Addr} {v v' : Value} (h : AR g a a') (hv : VR g v v') (t : Nat) : SR P RU g (storeVar t a v) (storeVar t a' v') := by
 show SR P RU g ((sizeOf t).bind fun n => if v.cells.size ≠ n then (stuck "storeVar: the value has not the size of the variable").bind fun _ => Go.storeCells a v.cells.toList else Go.storeCells a v.cells.toList)
  ((sizeOf t).bind fun n => if v'.cells.size ≠ n then (stuck "storeVar: the value has not the size of the variable").bind fun _ => Go.storeCells a' v'.cells.toList else Go.storeCells a' v'.cells.toList)
 refine SR.size fun i hi => ?_
 rw [LR.size hv.cells]
 split
 ·exact .halt
 ·exact SR.storeCells _ _ 0 h hv.cells
theorem SR.newRow {P : Program} {g : Gh} {x x' : Array Value} (h : LR g x.toList x'.toList) (e : Nat) : SR P AR g (newRow e x) (newRow e x') := by
 show SR P AR g (.new (.cells x e (0, 0)) fun r => .pure ⟨r, 0, none⟩) (.new (.cells x' e (0, 0)) fun r => .pure ⟨r, 0, none⟩)
 exact .new h fun g' i b hs hg => .pure ⟨_, hg, rfl, rfl⟩
theorem SR.newVar {P : Program} {g : Gh} {v v' : Value} (h : VR g v v') (t : Nat) : SR P AR g (newVar t v) (newVar t v') := SR.newRow h.cells t
inductive NR (g : Gh) : Next → Next → Prop
 | value {v v' : Value} (h : VR g v v') : NR g (.value v) (.value v')
 | skip : NR g .skip .skip
theorem SR.val {P : Program} {g : Gh} {e e' : Sem Value} (h : SR P VR g e e') : SR P NR g (e.bind fun x => .pure (.value x)) (e'.bind fun x => .pure (.value x)) := h.bind fun g' x y hs hx => .pure (.value hx)
theorem SR.unit {P : Program} {g : Gh} {e e' : Sem Unit} (h : SR P RU g e e') : SR P NR g (e.bind fun _ => .pure .skip) (e'.bind fun _ => .pure .skip) := h.bind fun g' x y hs hx => .pure .skip
theorem SR.sureAddr {P : Program} {α β : Type} {R : Gh → α → β → Prop} {g : Gh} {v v' : Value} (h : VR g v v') {f : Addr → Sem α} {f' : Addr → Sem β} (hf : ∀ a a', AR g a a' → SR P R g (f a) (f' a')) : SR P R g ((Instr.sureAddr v).bind f) ((Instr.sureAddr v').bind f') := by
 cases v with
 | pointer a =>
  cases a with
  | none => exact .halt
  | some a =>
   obtain ⟨a', rfl, ha⟩ := h.of_ptr
   exact hf a a' ha
 | _ => exact .halt
theorem SR.loadAt {P : Program} {g : Gh} {v v' : Value} (h : VR g v v') (t : Nat) : SR P VR g (Instr.loadAt t v) (Instr.loadAt t v') := SR.sureAddr (f := fun a => Go.loadVar t a) (f' := fun a => Go.loadVar t a) h fun a a' ha => SR.loadVar ha t
theorem SR.storeAt {P : Program} {g : Gh} {v v' u u' : Value} (h : VR g v v') (hu : VR g u u') (t : Nat) : SR P RU g (Instr.storeAt t v u) (Instr.storeAt t v' u') := SR.sureAddr (f := fun a => Go.storeVar t a u) (f' := fun a => Go.storeVar t a u') h fun a a' ha => SR.storeVar ha hu t
theorem SR.box {P : Program} {g : Gh} {v v' : Value} (h : VR g v v') (t : Nat) : SR P VR g (Instr.box t v) (Instr.box t v') := (SR.newVar h t).bind (f := fun a => Sem.pure (Value.pointer (some a))) (f' := fun a => Sem.pure (Value.pointer (some a))) fun g' x y hs ha => SR.pure (VR.ptr ha)
theorem SR.alloc {P : Program} {g : Gh} {t : Nat} (hz : zeroB P t = true) : SR P VR g (Instr.alloc t true (.tuple #[])) (Instr.alloc t true (.tuple #[])) := by
 refine SR.zero (f := fun z => (Go.newVar t z).bind fun a => Sem.pure (Value.pointer (some a))) (f' := fun z => (Go.newVar t z).bind fun a => Sem.pure (Value.pointer (some a))) fun i z hi hz' => ?_
 have hp : plain2 z = true := by unfold zeroB at hz; simpa [hi, hz'] using hz
 exact (SR.newVar (VR.plain2 hp) t).bind fun g' x y hs ha => SR.pure (VR.ptr ha)
theorem SR.makeFunc {P : Program} {g : Gh} {fn : Fn} {x y x' y' : Array Value} (h : LR g x.toList x'.toList) (k : LR g y.toList y'.toList) : SR P VR g (Instr.makeFunc fn x y) (Instr.makeFunc fn x' y') :=
 .pure (.func (LR.size h).symm (LR.size k).symm (fun i v v' a b => h.2 i v v' (by simpa using a) (by simpa using b)) (fun i v v' a b => k.2 i v v' (by simpa using a) (by simpa using b)))
theorem LR.extract {g : Gh} {x x' : Array Value} (h : LR g x.toList x'.toList) (i j : Nat) : LR g (x.extract i j).toList (x'.extract i j).toList := by
 rw [Array.toList_extract, Array.toList_extract]
 exact (h.drop i).take _
theorem SR.part {P : Program} {g : Gh} {x x' : Array Value} (h : LR g x.toList x'.toList) (t o : Nat) : SR P VR g (part t x o) (part t x' o) := by
 show SR P VR g ((isAgg t).bind fun b => if b = true then (sizeOf t).bind fun n => .pure (.agg (x.extract o (o + n))) else match x[o]? with | some v => .pure v | none => stuck "part: no such cell")
  ((isAgg t).bind fun b => if b = true then (sizeOf t).bind fun n => .pure (.agg (x'.extract o (o + n))) else match x'[o]? with | some v => .pure v | none => stuck "part: no such cell")
 refine SR.agg fun d hd => ?_
 cases aggD d with
 | true => exact SR.size fun i hi => .pure (VR.aggL (h.extract _ _))
 | false =>
  show SR P VR g (match x[o]? with | some v => .pure v | none => stuck "part: no such cell") (match x'[o]? with | some v => .pure v | none => stuck "part: no such cell")
  cases hx : x[o]? with
  | none => exact .halt
  | some v =>
   obtain ⟨v', h1, h2⟩ := h.at (i := o) (v := v) (by simpa using hx)
   rw [show x'[o]? = some v' by simpa using h1]
   exact .pure h2
theorem SR.field {P : Program} {g : Gh} {v v' : Value} (h : VR g v v') (t f : Nat) : SR P VR g (Instr.field t v f) (Instr.field t v' f) := by
 refine SR.und (f := fun d => match d with | .struct fields => (match fields[f]? with | some f => (asAgg v).bind fun x => Go.part f.type x f.offset | none => stuck "Field: no such field") | _ => stuck "Field: struct type expected")
  (f' := fun d => match d with | .struct fields => (match fields[f]? with | some f => (asAgg v').bind fun x => Go.part f.type x f.offset | none => stuck "Field: no such field") | _ => stuck "Field: struct type expected") fun d hd => ?_
 cases d with
 | struct fields =>
  show SR P VR g (match fields[f]? with | some f => (asAgg v).bind fun x => Go.part f.type x f.offset | none => stuck "Field: no such field") (match fields[f]? with | some f => (asAgg v').bind fun x => Go.part f.type x f.offset | none => stuck "Field: no such field")
  cases fields[f]? with
  | none => exact .halt
  | some f =>
   cases v with
   | agg x =>
    obtain ⟨x', rfl, hl⟩ := h.of_agg
    exact SR.part hl f.type f.offset
   | _ => exact .halt
 | _ => exact .halt
theorem LR.foldSet {g : Gh} : ∀ (l l' : List (Value × Nat)) {x x' : Array Value} (off : Nat), (l.length = l'.length ∧ ∀ (i : Nat) u u', l[i]? = some u → l'[i]? = some u' → VR g u.1 u'.1 ∧ u.2 = u'.2) → LR g x.toList x'.toList →
    LR g (l.foldl (fun cs (c, j) => cs.setIfInBounds (off + j) c) x).toList (l'.foldl (fun cs (c, j) => cs.setIfInBounds (off + j) c) x').toList
  | [], l', x, x', off, h, hx => by
    obtain rfl : l' = [] := List.eq_nil_of_length_eq_zero (by simpa using h.1.symm)
    exact hx
  | (c, j) :: l, [], x, x', off, h, hx => by simp at h
  | (c, j) :: l, (c', j') :: l', x, x', off, h, hx => by
    have h0 := h.2 0 (c, j) (c', j') rfl rfl
    obtain ⟨h1, h2⟩ := h0
    simp only at h1 h2
    subst h2
    simp only [List.foldl_cons]
    refine LR.foldSet l l' off ⟨by simpa using h.1, fun i u u' a b => h.2 (i + 1) u u' (by simpa using a) (by simpa using b)⟩ ?_
    rw [Array.toList_setIfInBounds, Array.toList_setIfInBounds]
    exact hx.set h1 _
def PR (g : Gh) (l l' : List (Nat × Value)) : Prop := l.length = l'.length ∧ ∀ (i : Nat) u u', l[i]? = some u → l'[i]? = some u' → u.1 = u'.1 ∧ VR g u.2 u'.2
theorem fill_LR {g : Gh} (place : Nat → Option (Nat × Nat)) : ∀ (l l' : List (Nat × Value)) {x x' : Array Value}, PR g l l' → LR g x.toList x'.toList → ∀ r, Instr.fill place x l = some r → ∃ r', Instr.fill place x' l' = some r' ∧ LR g r.toList r'.toList
  | [], l', x, x', h, hx, r, hr => by
    obtain rfl : l' = [] := List.eq_nil_of_length_eq_zero (by simpa using h.1.symm)
    cases hr
    exact ⟨x', rfl, hx⟩
  | (i, v) :: l, [], x, x', h, hx, r, hr => by have := h.1; simp at this
  | (i, v) :: l, (i', v') :: l', x, x', h, hx, r, hr => by
    obtain ⟨h1, h2⟩ := h.2 0 (i, v) (i', v') rfl rfl
    simp only at h1 h2
    subst h1
    unfold Instr.fill at hr ⊢
    cases hp : place i with
    | none => rw [hp] at hr; cases hr
    | some p =>
      obtain ⟨off, size⟩ := p
      rw [hp] at hr
      simp only at hr ⊢
      rw [LR.size h2.cells, LR.size hx]
      split at hr
      · cases hr
      · rename_i hc
        rw [if_neg hc]
        refine fill_LR place l l' ⟨by simpa using h.1, fun i u u' a b => h.2 (i + 1) u u' (by simpa using a) (by simpa using b)⟩ ?_ r hr
        rw [← Array.foldl_toList, ← Array.foldl_toList]
        refine LR.foldSet _ _ off ⟨?_, fun i u u' a b => ?_⟩ hx
        · simp [LR.size h2.cells]
        · simp only [Array.toList_zipIdx, List.getElem?_zipIdx] at a b
          cases ha : v.cells.toList[i]? with
          | none => rw [ha] at a; cases a
          | some y =>
            obtain ⟨y', hb, hy⟩ := h2.cells.at ha
            rw [ha] at a; rw [hb] at b
            cases a; cases b
            exact ⟨hy, rfl⟩
end Go.Proofs.YtfphlpglgcmljaaGreat.Ev
namespace Go.Proofs.YtfphlpglgcmljaaGreat.Ev
open Go Go.RowKit
set_option linter.unusedVariables false
def OpOk (P : Program) (o : Oper) (ρ : Operand → Value) (V : Vw) (H : Hp) (out : Out) : Prop := ∀ v H' W, out = .mk v H' W → V.top ≤ H.next → WFH H → Evo V H H' W ∧
 ∀ (g : Gh) (a : Act) (w : World) (B : Nat), (∀ x, x ∈ o.op.operands.toList → VR g (ρ x) (a.eval x)) → HR g (gt V H) w B → B ≤ w.heap.size → V.top ≤ H.next → WFH H → Fresh g H.next H'.next →
 ∀ (next : Act → World → Prop) (Q : Exit → Act → World → Prop), (∀ g' v' w', VR g' v v' → After V H H' W B g w g' w' → next (a.put o.dst v') w') → o.wp P a w next Q
theorem OpOk.bad {P : Program} {o : Oper} {ρ : Operand → Value} {V : Vw} {H : Hp} : OpOk P o ρ V H .bad := fun v H' W h => by cases h
theorem OpOk.dir {P : Program} {o : Oper} {ρ : Operand → Value} {V : Vw} {H : Hp} {v : Value} (h : ∀ (g : Gh) (ρ' : Operand → Value) (w : World), (∀ x, x ∈ o.op.operands.toList → VR g (ρ x) (ρ' x)) → ∃ v', (execOp ρ' o).run P w = .ok (.value v') w ∧ VR g v v') :
  OpOk P o ρ V H (.mk v H []) := by
 intro u H' W e _ _
 cases e
 refine ⟨Evo.refl V H, fun g a w B hr hh hB ht hwf hf next Q hn => ?_⟩
 obtain ⟨v', h1, h2⟩ := h g a.eval w hr
 unfold Oper.wp
 rw [h1]
 exact hn g v' w h2 (After.refl hh)
theorem OpOk.okA {P : Program} {o : Oper} {ρ : Operand → Value} {V : Vw} {H : Hp} {r : Option Value} (h : ∀ v, r = some v → OpOk P o ρ V H (.mk v H [])) : OpOk P o ρ V H (okA H r) := by
 cases r with
 | none => exact .bad
 | some v => exact h v rfl
theorem OpOk.pureA {P : Program} {o : Oper} {ρ : Operand → Value} {V : Vw} {H : Hp} {r : Option Value} {out : Out} (h : ∀ v, r = some v → OpOk P o ρ V H (.mk v H [])) (h2 : OpOk P o ρ V H out) : OpOk P o ρ V H (pureA H r out) := by
 cases r with
 | none => exact h2
 | some v => exact h v rfl
theorem OpOk.sr {P : Program} {o : Oper} {ρ : Operand → Value} {V : Vw} {H : Hp} {out : Out} (hs : ∀ (g : Gh) (ρ' : Operand → Value), (∀ x, x ∈ o.op.operands.toList → VR g (ρ x) (ρ' x)) → SR P NR g (execOp ρ o) (execOp ρ' o))
  (hr : ∀ v H' W, out = .mk v H' W → runA P V (execOp ρ o) H [] = some (.value v, H', W) ∨ (runA P V (execOp ρ o) H [] = some (.skip, H', W) ∧ v = undef)) : OpOk P o ρ V H out := by
 intro v H' W e _ _
 have hrun := hr v H' W e
 have hevo : Evo V H H' W := by
  rcases hrun with h | ⟨h, _⟩
  ·obtain ⟨Wn, hW, he⟩ := runA_evo _ h
   rw [List.append_nil] at hW; rw [hW]; exact he
  ·obtain ⟨Wn, hW, he⟩ := runA_evo _ h
   rw [List.append_nil] at hW; rw [hW]; exact he
 refine ⟨hevo, fun g a w B hrel hh hB ht hwf hf next Q hn => ?_⟩
 unfold Oper.wp
 rcases hrun with h | ⟨h, rfl⟩
 ·obtain ⟨y, w', g', Wn, hW, h1, h2, h3⟩ := (hs g a.eval hrel).run h hh hB hf
  rw [List.append_nil] at hW
  subst hW
  cases h2 with
  | value hv => rw [h1]; exact hn g' _ w' hv h3
 ·obtain ⟨y, w', g', Wn, hW, h1, h2, h3⟩ := (hs g a.eval hrel).run h hh hB hf
  rw [List.append_nil] at hW
  subst hW
  cases h2 with
  | skip => rw [h1]; exact hn g' _ w' (VR.undef _) h3
theorem outA_cases {r : Option (Next × Hp × List Nat)} {v : Value} {H' : Hp} {W : List Nat} (h : outA r = .mk v H' W) : r = some (.value v, H', W) ∨ (r = some (.skip, H', W) ∧ v = undef) := by
 unfold outA at h
 split at h
 ·cases h; exact .inl rfl
 ·cases h; exact .inr ⟨rfl, rfl⟩
 ·cases h
theorem OpOk.genS {P : Program} {o : Oper} {V : Vw} {T : TT} {H : Hp} (hs : ∀ (g : Gh) (ρ' : Operand → Value), (∀ x, x ∈ o.op.operands.toList → VR g (aeval T x) (ρ' x)) → SR P NR g (execOp (aeval T) o) (execOp ρ' o)) : OpOk P o (aeval T) V H (genS P V T o H) :=
 OpOk.sr hs fun v H' W h => outA_cases h
/-! operations on plain values -/
theorem runA_none {α : Type} {P : Program} {V : Vw} (e : Sem α) : ∀ {H : Hp} {W : List Nat} {x : α} {H' : Hp} {W' : List Nat}, (∀ i, H.tr.get i = none) → runA P V e H W = some (x, H', W') → H'.next = H.next → ∀ w, e.run P w = .ok x w := by
 induction e with
 | pure a => intro H W x H' W' hn h _ w; simp only [runA, Option.some.injEq, Prod.mk.injEq] at h; rw [h.1]; rfl
 | load m a k ih =>
  intro H W x H' W' hn h _ w
  simp only [runA] at h
  rw [gt_def, hn, ite_self] at h
  cases h
 | store m a v k ih =>
  intro H W x H' W' hn h _ w
  simp only [runA] at h
  rw [gt_def, hn, ite_self] at h
  split at h <;> cases h
 | new o k ih =>
  intro H W x H' W' hn h hx w
  rcases new_cases P V o with ⟨c, e, rfl⟩ | hb
  ·rw [runA_new] at h
   split at h
   ·obtain ⟨_, _, he⟩ := runA_evo _ h
    have : H.next + 1 ≤ H'.next := he.next
    omega
   ·cases h
  ·rw [hb] at h; cases h
 | program k ih => intro H W x H' W' hn h hx w; exact ih P hn h hx w
 | mark m k ih => intro H W x H' W' hn h hx w; exact ih hn h hx w
 | _ => intro H W x H' W' hn h; simp [runA] at h
theorem OpOk.genP {P : Program} {o : Oper} {V : Vw} {T : TT} {H : Hp} : OpOk P o (aeval T) V H (genP P T o H) := by
 unfold Ev.genP
 split
 ·rename_i h1 h2
  refine OpOk.okA fun v hv => OpOk.dir fun g ρ' w hrel => ?_
  have hsel : ∀ cs b, o.op ≠ .select cs b := by
   intro cs b e
   rw [e] at h2
   cases h2
  have he : execOp ρ' o = execOp (aeval T) o := by
   refine execOp_congr o hsel fun x hx => ?_
   have hp : plainB (aeval T x) = true := (List.all_eq_true.1 h1) x (by simpa using hx)
   exact (hrel x (by simpa using hx)).eqB hp
  rw [he]
  unfold plainRun at hv
  split at hv
  ·rename_i u H' hr
   split at hv
   ·rename_i hn
    split at hv
    ·rename_i hp
     cases hv
     exact ⟨_, runA_none _ (fun i => rfl) hr hn w, VR.plainB hp⟩
    ·cases hv
   ·cases hv
  ·cases hv
 ·exact .bad
/-! numbers -/
theorem wrap64 (n : Int) : IntKind.i64.wrap n = if n % 18446744073709551616 ≥ 9223372036854775808 then n % 18446744073709551616 - 18446744073709551616 else n % 18446744073709551616 := by
 show (if (true && decide (n % 18446744073709551616 ≥ 9223372036854775808)) = true then n % 18446744073709551616 - 18446744073709551616 else n % 18446744073709551616) = _
 simp
theorem wrI_eq (n : Int) : wrI n = IntKind.i64.wrap n := by
 unfold wrI
 split
 ·rename_i m
  by_cases h : Nat.blt m 9223372036854775808 = true
  ·have hm : m < 9223372036854775808 := Nat.le_of_ble_eq_true h
   have e : (Int.ofNat m) % 18446744073709551616 = m := by show (m : Int) % _ = _; omega
   rw [h, cond_true, wrap64, e, if_neg (by omega)]
   rfl
  ·rw [Bool.not_eq_true] at h
   rw [h, cond_false]
 ·rename_i m
  by_cases h : Nat.blt m 9223372036854775808 = true
  ·have hm : m < 9223372036854775808 := Nat.le_of_ble_eq_true h
   have e : (Int.negSucc m) % 18446744073709551616 = Int.negSucc m + 18446744073709551616 := by omega
   rw [h, cond_true, wrap64, e, if_pos (by omega)]
   omega
  ·rw [Bool.not_eq_true] at h
   rw [h, cond_false]
theorem wrK_eq (k : IntKind) (n : Int) : wrK k n = k.wrap n := by
 cases k <;> first | exact wrI_eq n | rfl
theorem ltI_eq (a b : Int) : ltI a b = decide (a < b) := by
 cases a with
 | ofNat a => cases b with
  | ofNat b =>
   show Nat.blt a b = decide ((a : Int) < (b : Int))
   rw [Bool.eq_iff_iff]; simp
  | negSucc b => show false = _; simp; omega
 | negSucc a => cases b with
  | ofNat b => show true = _; simp; omega
  | negSucc b =>
   show Nat.blt b a = _
   rw [Bool.eq_iff_iff]; simp; omega
theorem eqI_eq (a b : Int) : eqI a b = (a == b) := by
 cases a with
 | ofNat a => cases b with
  | ofNat b => show Nat.beq a b = ((a : Int) == (b : Int)); rw [Bool.eq_iff_iff]; simp; omega
  | negSucc b => rfl
 | negSucc a => cases b with
  | ofNat b => rfl
  | negSucc b => show Nat.beq a b = _; rw [Bool.eq_iff_iff]; simp
theorem sameKind_eq {k k' : IntKind} (h : sameKind k k' = true) : k = k' := by
 cases k <;> cases k' <;> first | rfl | cases h
theorem binI_run {P : Program} {w : World} {op : BinOp} {k : IntKind} {a b : Int} {v : Value} {t : Nat} {x y : Operand} (h : binI op k a b = some v) :
  ((eqGuard op t x y (.int k a) (.int k b)).bind fun _ => binOp op t (.int k a) (.int k b)).run P w = .ok v w := by
 have hg : eqGuard op t x y (.int k a) (.int k b) = Sem.pure () := by
  unfold eqGuard; cases op <;> rfl
 rw [hg]
 show (binOp op t (.int k a) (.int k b)).run P w = .ok v w
 cases op <;> simp only [binI, Option.some.injEq] at h <;> first | (cases h; done) | skip
 all_goals subst h
 all_goals simp [binOp, Op.intArith, Op.intCmp, pure, wrK_eq, ltI_eq, eqI_eq, Int.sub_eq_add_neg]
 all_goals first | rfl | (rw [Bool.eq_iff_iff]; simp)
end Go.Proofs.YtfphlpglgcmljaaGreat.Ev
namespace Go.Proofs.YtfphlpglgcmljaaGreat.Ev
open Go Go.RowKit
set_option linter.unusedVariables false
theorem op_move {P : Program} {o : Oper} {ρ : Operand → Value} {V : Vw} {H : Hp} {x : Operand} (ho : o.op = .move x) : OpOk P o ρ V H (.mk (ρ x) H []) :=
 OpOk.dir fun g ρ' w hrel => ⟨ρ' x, by unfold execOp; rw [ho]; rfl, hrel x (by simp [ho, Op.operands])⟩
theorem op_assign {P : Program} {o : Oper} {ρ : Operand → Value} {V : Vw} {H : Hp} {x : Operand} (ho : o.op = .assign x) : OpOk P o ρ V H (.mk (ρ x) H []) :=
 OpOk.dir fun g ρ' w hrel => ⟨ρ' x, by unfold execOp; rw [ho]; rfl, hrel x (by simp [ho, Op.operands])⟩
theorem op_pick {P : Program} {o : Oper} {ρ : Operand → Value} {V : Vw} {H : Hp} {c x y : Operand} (ho : o.op = .pick c x y) : OpOk P o ρ V H (pickA (ρ c) (ρ x) (ρ y) H) := by
 unfold pickA
 split
 ·rename_i hc
  refine OpOk.dir fun g ρ' w hrel => ⟨ρ' x, ?_, hrel x (by simp [ho, Op.operands])⟩
  have h := hrel c (by simp [ho, Op.operands])
  rw [hc] at h
  unfold execOp; rw [ho]; simp only [h.of_bool]; rfl
 ·rename_i hc
  refine OpOk.dir fun g ρ' w hrel => ⟨ρ' y, ?_, hrel y (by simp [ho, Op.operands])⟩
  have h := hrel c (by simp [ho, Op.operands])
  rw [hc] at h
  unfold execOp; rw [ho]; simp only [h.of_bool]; rfl
 ·exact .bad
theorem eqIn_slice {P : Program} (w : World) (d : Nat) (t e : TypeId) (a : Option Addr) (n c n' c' : Nat) (h : P.underlying t = some (.slice e)) : (Op.equalIn (d + 1) t (.slice a n c) (.slice none n' c')).run P w = .ok a.isNone w := by
 cases a <;> simp [Op.equalIn, run_underlying h]
theorem eqIn_nil {P : Program} (w : World) (d : Nat) (t : TypeId) (p r : Array TypeId) (b : Bool) (h : P.underlying t = some (.func p r b)) : (Op.equalIn (d + 1) t .nilFunc .nilFunc).run P w = .ok true w := by
 simp [Op.equalIn, run_underlying h]
theorem eqIn_func {P : Program} (w : World) (d : Nat) (t : TypeId) (p r : Array TypeId) (b : Bool) (fn : Fn) (x y : Array Value) (h : P.underlying t = some (.func p r b)) : (Op.equalIn (d + 1) t (.func fn x y) .nilFunc).run P w = .ok false w := by
 simp [Op.equalIn, run_underlying h]
theorem run_nilK {P : Program} {w : World} {op : BinOp} {t : Nat} {x y v : Value} (h : binN P op t x y = some v) {g : Gh} {x' y' : Value} (hx : VR g x x') (hy : VR g y y') (ox oy : Operand) :
  ((eqGuard op t ox oy x' y').bind fun _ => binOp op t x' y').run P w = .ok v w ∧ plain1 v = true := by
 unfold binN at h
 split at h
 ·rename_i hk
  unfold nilK at hk
  split at h
  ·rename_i yb yn yc a n c
   cases yb with
   | some _ => simp at hk
   | none =>
    simp only at hk
    obtain rfl : y' = .slice none yn yc := hy.eq1 rfl
    obtain ⟨a', n', c', rfl, ha⟩ : ∃ a' n' c', x' = .slice a' n' c' ∧ a'.isNone = a.isNone := by
     cases hx with
     | plain h => exact ⟨_, _, _, rfl, rfl⟩
     | sl h _ => exact ⟨_, _, _, rfl, rfl⟩
     | su _ h _ _ => exact ⟨_, _, _, rfl, rfl⟩
    cases hu : P.underlying t with
    | none => rw [hu] at hk; cases hk
    | some d =>
     rw [hu] at hk
     cases d <;> simp only at hk <;> first | (cases hk; done) | skip
     rename_i e
     have heq := eqIn_slice (P := P) w 9999 t e a' n' c' yn yc hu
     have hg : eqGuard op t ox oy (.slice a' n' c') (.slice none yn yc) = Sem.pure () := by cases op <;> rfl
     rw [ha] at heq
     rw [hg]
     split at h
     ·cases h
      refine ⟨?_, rfl⟩
      simp only [Sem.bind]
      simp only [binOp]
      simp [Op.equal, Op.maxDepth, heq]
     ·cases h
      refine ⟨?_, rfl⟩
      simp only [Sem.bind]
      simp only [binOp]
      simp [Op.equal, Op.maxDepth, heq]
     ·cases h
  ·obtain rfl : y' = .nilFunc := hy.eq1 rfl
   obtain rfl : x' = .nilFunc := hx.eq1 rfl
   simp only at hk
   cases hu : P.underlying t with
   | none => rw [hu] at hk; cases hk
   | some d =>
    rw [hu] at hk
    cases d <;> simp only at hk <;> first | (cases hk; done) | skip
    have heq := eqIn_nil (P := P) w 9999 t _ _ _ hu
    have hg : eqGuard op t ox oy .nilFunc .nilFunc = Sem.pure () := by cases op <;> rfl
    rw [hg]
    split at h
    ·cases h
     refine ⟨?_, rfl⟩
     simp only [Sem.bind]
     simp only [binOp]
     simp [Op.equal, Op.maxDepth, heq]
    ·cases h
     refine ⟨?_, rfl⟩
     simp only [Sem.bind]
     simp only [binOp]
     simp [Op.equal, Op.maxDepth, heq]
    ·cases h
  ·obtain rfl : y' = .nilFunc := hy.eq1 rfl
   rename_i fn x1 y1
   obtain ⟨x2, y2, rfl⟩ : ∃ x2 y2, x' = .func fn x2 y2 := by
    cases hx with
    | plain h => exact ⟨_, _, rfl⟩
    | func _ _ _ _ => exact ⟨_, _, rfl⟩
   simp only at hk
   cases hu : P.underlying t with
   | none => rw [hu] at hk; cases hk
   | some d =>
    rw [hu] at hk
    cases d <;> simp only at hk <;> first | (cases hk; done) | skip
    have heq := eqIn_func (P := P) w 9999 t _ _ _ fn x2 y2 hu
    have hg : eqGuard op t ox oy (.func fn x2 y2) .nilFunc = Sem.pure () := by cases op <;> rfl
    rw [hg]
    split at h
    ·cases h
     refine ⟨?_, rfl⟩
     simp only [Sem.bind]
     simp only [binOp]
     simp [Op.equal, Op.maxDepth, heq]
    ·cases h
     refine ⟨?_, rfl⟩
     simp only [Sem.bind]
     simp only [binOp]
     simp [Op.equal, Op.maxDepth, heq]
    ·cases h
  ·cases h
 ·cases h
theorem op_bin {P : Program} {o : Oper} {ρ : Operand → Value} {V : Vw} {H : Hp} {op : BinOp} {t u : Nat} {x y : Operand} (ho : o.op = .binOp op t x y u) : ∀ v, binA P op t (ρ x) (ρ y) = some v → OpOk P o ρ V H (.mk v H []) := by
 intro v hv
 refine OpOk.dir fun g ρ' w hrel => ?_
 have hx := hrel x (by simp [ho, Op.operands])
 have hy := hrel y (by simp [ho, Op.operands])
 have key : ((eqGuard op t x y (ρ' x) (ρ' y)).bind fun _ => binOp op t (ρ' x) (ρ' y)).run P w = .ok v w ∧ plain1 v = true := by
  unfold binA at hv
  split at hv
  ·rename_i k a k' b hx0 hy0
   rw [hx0] at hx; rw [hy0] at hy
   split at hv
   ·rename_i hk
    obtain rfl := sameKind_eq hk
    rw [hx.of_int, hy.of_int]
    refine ⟨binI_run hv, ?_⟩
    cases op <;> simp only [binI, Option.some.injEq] at hv <;> first | (cases hv; done) | (subst hv; rfl)
   ·cases hv
  ·exact run_nilK hv hx hy x y
 refine ⟨v, ?_, .plain key.2⟩
 have h1 := key.1
 unfold execOp
 rw [ho]
 show (Sem.bind ((eqGuard op t x y (ρ' x) (ρ' y)).bind fun _ => binOp op t (ρ' x) (ρ' y)) fun v => .pure (Next.value v)).run P w = _
 rw [show ∀ (e : Sem Value) (f : Value → Sem Next), Sem.bind e f = (e >>= f) from fun _ _ => rfl, Sem.run_bind, h1]
 rfl
theorem op_un {P : Program} {o : Oper} {ρ : Operand → Value} {V : Vw} {H : Hp} {op : UnOp} {t : Nat} {x : Operand} (ho : o.op = .unOp op t x) : ∀ v, unA op (ρ x) = some v → OpOk P o ρ V H (.mk v H []) := by
 intro v hv
 refine OpOk.dir fun g ρ' w hrel => ?_
 have hx := hrel x (by simp [ho, Op.operands])
 unfold unA at hv
 split at hv
 ·rename_i b h0
  rw [h0] at hx
  cases hv
  exact ⟨_, by unfold execOp; rw [ho]; simp only [hx.of_bool]; rfl, .plain rfl⟩
 ·rename_i k n h0
  rw [h0] at hx
  cases hv
  refine ⟨_, ?_, .plain rfl⟩
  unfold execOp; rw [ho]; simp only [hx.of_int, wrK_eq]
  show Result.ok (Next.value (.int k (k.wrap (0 - n)))) w = _
  rw [Int.sub_eq_add_neg]; rfl
 ·cases hv
theorem op_extract {P : Program} {o : Oper} {ρ : Operand → Value} {V : Vw} {H : Hp} {x : Operand} {i : Nat} (ho : o.op = .extract x i) : ∀ v, extractA (ρ x) i = some v → OpOk P o ρ V H (.mk v H []) := by
 intro v hv
 refine OpOk.dir fun g ρ' w hrel => ?_
 have hx := hrel x (by simp [ho, Op.operands])
 unfold extractA at hv
 split at hv
 ·rename_i vs h0
  rw [h0] at hx
  obtain ⟨vs', h1, hl⟩ := hx.of_tuple
  rw [nth_eq] at hv
  obtain ⟨v', h2, h3⟩ := hl.at hv
  refine ⟨v', ?_, h3⟩
  unfold execOp; rw [ho]; simp only [h1]
  have h2' : vs'[i]? = some v' := by simpa using h2
  simp [Instr.extract, h2']
 ·cases hv
end Go.Proofs.YtfphlpglgcmljaaGreat.Ev
namespace Go.Proofs.YtfphlpglgcmljaaGreat.Ev
open Go Go.RowKit
set_option linter.unusedVariables false
theorem run_size {P : Program} {t : Nat} {i : TypeInfo} (h : P.info? t = some i) (w : World) : (sizeOf t).run P w = .ok i.size w := by simp [sizeOf, typeInfo, h]
theorem cellsOf_info {P : Program} {t : Nat} {i : TypeInfo} (h : P.info? t = some i) : P.cellsOf t = i.size := by unfold Program.cellsOf; rw [h]; rfl
theorem AR.at {g : Gh} {b o : Nat} {a' : Addr} (h : AR g ⟨b, o, none⟩ a') (n : Nat) : AR g ⟨b, o + n, none⟩ (a'.add n) := by
 obtain ⟨c, h1, h2, rfl⟩ := h
 refine ⟨c, h1, rfl, ?_⟩
 unfold Addr.add
 by_cases hn : n = 0
 ·rw [if_pos hn, hn]; rfl
 ·rw [if_neg hn]; simp only [Nat.add_assoc]
theorem op_fieldAddr {P : Program} {o : Oper} {ρ : Operand → Value} {V : Vw} {H : Hp} {s f : Nat} {x : Operand} (ho : o.op = .fieldAddr s x f) : ∀ v, fieldAddrA P s (ρ x) f = some v → OpOk P o ρ V H (.mk v H []) := by
 intro v hv
 refine OpOk.dir fun g ρ' w hrel => ?_
 have hx := hrel x (by simp [ho, Op.operands])
 unfold fieldAddrA at hv
 split at hv
 ·rename_i b off h0
  rw [h0] at hx
  obtain ⟨a', h1, ha⟩ := hx.of_ptr
  split at hv
  ·rename_i n hn
   cases hv
   unfold fldOff at hn
   split at hn
   ·rename_i fs hu
    split at hn
    ·rename_i fd hf
     split at hn
     ·cases hn
     ·rename_i hsz
      cases hn
      refine ⟨.pointer (some (a'.add fd.offset)), ?_, .ptr (ha.at _)⟩
      cases hi : P.info? fd.type with
      | none => exact absurd (by unfold Program.cellsOf; rw [hi]; rfl) hsz
      | some i =>
       have hsz' : i.size ≠ 0 := by rw [← cellsOf_info hi]; exact fun e => hsz e
       unfold execOp; rw [ho]; simp only [h1]
       simp [Instr.fieldAt, run_underlying hu, hf, Instr.sureAddr, fieldPlace, run_size hi, hsz']
    ·cases hn
   ·cases hn
  ·cases hv
 ·cases hv
theorem op_indexAddr {P : Program} {o : Oper} {ρ : Operand → Value} {V : Vw} {H : Hp} {t : Nat} {x i : Operand} (ho : o.op = .indexAddr t x i) : ∀ v, indexAddrA P t (ρ x) (ρ i) = some v → OpOk P o ρ V H (.mk v H []) := by
 intro v hv
 refine OpOk.dir fun g ρ' w hrel => ?_
 have hx := hrel x (by simp [ho, Op.operands])
 have hi := hrel i (by simp [ho, Op.operands])
 unfold indexAddrA at hv
 split at hv
 ·rename_i k n hi0
  rw [hi0] at hi
  have hi' := hi.of_int
  split at hv
  ·rename_i b off l c hx0
   rw [hx0] at hx
   obtain ⟨a', c', h1, ha⟩ : ∃ a' c', ρ' x = .slice (some a') l c' ∧ AR g ⟨b, off, none⟩ a' := by
    generalize ρ' x = u at hx
    cases hx with
    | plain h => simp [plain1] at h
    | sl h _ => exact ⟨_, _, rfl, h⟩
    | su _ h _ _ => exact ⟨_, _, rfl, h⟩
   split at hv
   ·rename_i e he
    unfold elSz at he
    split at he
    ·rename_i el hu
     split at he
     ·rename_i inf hinf
      cases he
      cases hlt : Nat.blt n l with
      | false => rw [hlt] at hv; cases hv
      | true =>
       rw [hlt] at hv
       cases hv
       have hn : n < l := Nat.le_of_ble_eq_true hlt
       refine ⟨.pointer (some (a'.add (n * inf.size))), ?_, .ptr (ha.at _)⟩
       unfold execOp; rw [ho]; simp only [h1, hi']
       simp [Instr.indexAt, asIntOf, run_underlying hu, run_size hinf, hn]
     ·cases he
    ·split at he <;> cases he
    ·cases he
   ·cases hv
  ·rename_i b off hx0
   rw [hx0] at hx
   obtain ⟨a', h1, ha⟩ := hx.of_ptr
   split at hv
   ·rename_i l e he
    unfold elSz at he
    split at he
    ·split at he <;> cases he
    ·rename_i m el hu
     split at he
     ·rename_i inf hinf
      cases he
      cases hlt : Nat.blt n l with
      | false => rw [hlt] at hv; cases hv
      | true =>
       rw [hlt] at hv
       cases hv
       have hn : n < l := Nat.le_of_ble_eq_true hlt
       refine ⟨.pointer (some (a'.add (n * inf.size))), ?_, .ptr (ha.at _)⟩
       unfold execOp; rw [ho]; simp only [h1, hi']
       simp [Instr.indexAt, asIntOf, run_underlying hu, run_size hinf, Instr.sureAddr, hn]
     ·cases he
    ·cases he
   ·cases hv
  ·cases hv
 ·cases hv
theorem op_nilCheck {P : Program} {o : Oper} {ρ : Operand → Value} {V : Vw} {H : Hp} {x : Operand} (ho : o.op = .nilCheck x) : ∀ v, nilOkA (ρ x) = some v → OpOk P o ρ V H (.mk v H []) := by
 intro v hv
 refine OpOk.dir fun g ρ' w hrel => ?_
 have hx := hrel x (by simp [ho, Op.operands])
 unfold nilOkA at hv
 split at hv
 ·rename_i a h0
  rw [h0] at hx
  cases hv
  obtain ⟨a', h1, ha⟩ := hx.of_ptr
  refine ⟨.pointer (some a'), ?_, .ptr ha⟩
  unfold execOp; rw [ho]; simp only [h1]; rfl
 ·rename_i f p q h0
  rw [h0] at hx
  cases hv
  obtain ⟨p', q', h1⟩ : ∃ p' q', ρ' x = .func (.func f) p' q' := by
   generalize ρ' x = u at hx
   cases hx with
   | plain h => exact ⟨_, _, rfl⟩
   | func _ _ _ _ => exact ⟨_, _, rfl⟩
  refine ⟨_, ?_, by rw [← h0]; exact hrel x (by simp [ho, Op.operands])⟩
  unfold execOp; rw [ho]; simp only [h1]; rfl
 ·cases hv
theorem mapT_eq (l : List Operand) (T : TT) : mapT l T = l.map (aeval T) := by
 induction l with
 | nil => rfl
 | cons x l ih => show (opndB x).run T :: mapT l T = _; rw [ih]; rfl
theorem partsT_eq (l : List (Nat × Operand)) (T : TT) : partsT l T = l.map (fun x => (x.1, aeval T x.2)) := by
 induction l with
 | nil => rfl
 | cons x l ih => show (x.1, (opndB x.2).run T) :: partsT l T = _; rw [ih]; rfl
theorem LR.map {g : Gh} {ρ ρ' : Operand → Value} : ∀ {l : List Operand}, (∀ x, x ∈ l → VR g (ρ x) (ρ' x)) → LR g (l.map ρ) (l.map ρ')
 | [], _ => LR.nil g
 | x :: l, h => (LR.map fun y hy => h y (by simp [hy])).cons (h x (by simp))
theorem op_makeFunc {P : Program} {o : Oper} {T : TT} {V : Vw} {H : Hp} {fn : Fn} {x y : Array Operand} (ho : o.op = .makeFunc fn x y) : OpOk P o (aeval T) V H (.mk (.func fn ⟨mapT x.toList T⟩ ⟨mapT y.toList T⟩) H []) := by
 refine OpOk.dir fun g ρ' w hrel => ⟨.func fn (x.map ρ') (y.map ρ'), ?_, ?_⟩
 ·unfold execOp; rw [ho]; rfl
 ·have hx : LR g (mapT x.toList T) (x.map ρ').toList := by
   rw [mapT_eq, Array.toList_map]
   exact LR.map fun z hz => hrel z (by simp only [ho, Op.operands, Array.toList_append, List.mem_append]; exact .inl hz)
  have hy : LR g (mapT y.toList T) (y.map ρ').toList := by
   rw [mapT_eq, Array.toList_map]
   exact LR.map fun z hz => hrel z (by simp only [ho, Op.operands, Array.toList_append, List.mem_append]; exact .inr hz)
  exact .func (LR.size (x := ⟨mapT x.toList T⟩) hx).symm (LR.size (x := ⟨mapT y.toList T⟩) hy).symm (fun i v v' a b => hx.2 i v v' (by simpa using a) (by simpa using b)) (fun i v v' a b => hy.2 i v v' (by simpa using a) (by simpa using b))
theorem PR.map {g : Gh} {ρ ρ' : Operand → Value} {l : List (Nat × Operand)} (h : ∀ x, x ∈ l.map (·.2) → VR g (ρ x) (ρ' x)) : PR g (l.map fun x => (x.1, ρ x.2)) (l.map fun x => (x.1, ρ' x.2)) := by
 refine ⟨by simp, fun i u u' a b => ?_⟩
 rw [List.getElem?_map] at a b
 cases hx : l[i]? with
 | none => rw [hx] at a; cases a
 | some x =>
  rw [hx] at a b
  cases a; cases b
  exact ⟨rfl, h x.2 (List.mem_map.2 ⟨x, List.mem_of_getElem? hx, rfl⟩)⟩
theorem built_LR {P : Program} {g : Gh} {t : Nat} {parts parts' : List (Nat × Value)} {r : Array Value} (h : P.built t parts = some r) (hz : ∀ i z, P.info? t = some i → i.zero = some z → plain2 z = true) (hp : PR g parts parts') : ∃ r', P.built t parts' = some r' ∧ LR g r.toList r'.toList := by
 unfold Program.built at h ⊢
 cases hi : P.info? t with
 | none => rw [hi] at h; cases h
 | some it =>
  cases hu : P.underlying t with
  | none => rw [hi, hu] at h; cases h
  | some d =>
   rw [hi, hu] at h
   cases hzz : it.zero with
   | none => cases d <;> simp [hzz] at h
   | some z =>
    have hzr : LR g z.cells.toList z.cells.toList := (VR.plain2 (hz it z hi hzz)).cells
    cases d <;> simp only [hzz] at h ⊢ <;> first | (cases h; done) | skip
    ·rename_i n e
     cases he : P.info? e with
     | none => rw [he] at h; cases h
     | some ie =>
      rw [he] at h
      exact fill_LR _ _ _ hp hzr r h
    ·rename_i fs
     split at h
     ·rename_i z' places h1 h2
      cases h1
      exact fill_LR _ _ _ hp hzr r h
     ·cases h
theorem op_build {P : Program} {o : Oper} {T : TT} {V : Vw} {H : Hp} {t : Nat} {ps : Array (Nat × Operand)} (ho : o.op = .build t ps) : ∀ v, buildA P t (partsT ps.toList T) = some v → OpOk P o (aeval T) V H (.mk v H []) := by
 intro v hv
 refine OpOk.dir fun g ρ' w hrel => ?_
 unfold buildA at hv
 split at hv
 ·rename_i zz hz
  split at hv
  ·rename_i cells hc
   cases hv
   have hpr : PR g (partsT ps.toList T) (ps.map fun (i, x) => (i, ρ' x)).toList := by
    rw [partsT_eq, Array.toList_map]
    exact PR.map fun x hx => hrel x (by simp only [ho, Op.operands]; exact hx)
   obtain ⟨r', h1, h2⟩ := built_LR hc (fun i z hi hzz => by
    unfold zeroOf at hz
    simp only [hi, hzz] at hz
    split at hz
    ·rename_i hh; exact hh.2
    ·cases hz) hpr
   refine ⟨.agg r', ?_, VR.aggL h2⟩
   unfold execOp; rw [ho]
   show ((Instr.build t (ps.map fun (i, x) => (i, ρ' x))) >>= fun x => pure (Next.value x)).run P w = _
   rw [Sem.run_bind, run_build w t _ r' h1]
   rfl
  ·cases hv
 ·cases hv
theorem op_len {P : Program} {o : Oper} {ρ : Operand → Value} {V : Vw} {H : Hp} {c : Call} {t : Nat} {x : Operand} (ho : o.op = .call c) (hc : c.callee = .builtin .len) (ht : c.argTypes.toList = [t]) (hx : c.args.toList = [x]) : ∀ v, lenB P t (ρ x) = some v → OpOk P o ρ V H (.mk v H []) := by
 intro v hv
 refine OpOk.dir fun g ρ' w hrel => ?_
 have hx' := hrel x (by simp [ho, Op.operands, Call.operands, hc, hx])
 unfold lenB at hv
 split at hv
 ·rename_i a n cp hs h0
  rw [h0] at hx'
  obtain ⟨a', c', h1⟩ : ∃ a' c', ρ' x = .slice a' n c' := by
   generalize ρ' x = u at hx'
   cases hx' with
   | plain h => exact ⟨_, _, rfl⟩
   | sl h _ => exact ⟨_, _, rfl⟩
   | su _ h _ _ => exact ⟨_, _, rfl⟩
  cases hv
  refine ⟨_, ?_, .plain rfl⟩
  unfold sliceT at hs
  split at hs
  ·rename_i e hu
   obtain ⟨callee, args, types⟩ := c
   simp only at hc ht hx
   subst hc
   obtain rfl : types = #[t] := Array.toList_inj.1 ht
   obtain rfl : args = #[x] := Array.toList_inj.1 hx
   unfold execOp; rw [ho]
   simp [resolve, invoke, builtin, Builtin.len_, h1, run_underlying hu, goInt]
  ·cases hs
 ·cases hv
end Go.Proofs.YtfphlpglgcmljaaGreat.Ev
namespace Go.Proofs.YtfphlpglgcmljaaGreat.Ev
open Go Go.RowKit
set_option linter.unusedVariables false
theorem OpOk.dir2 {P : Program} {o : Oper} {ρ : Operand → Value} {V : Vw} {H : Hp} {v : Value} (h : ∀ (g : Gh) (ρ' : Operand → Value) (w : World) (B : Nat), (∀ x, x ∈ o.op.operands.toList → VR g (ρ x) (ρ' x)) → HR g (gt V H) w B → ∃ v', (execOp ρ' o).run P w = .ok (.value v') w ∧ VR g v v') :
  OpOk P o ρ V H (.mk v H []) := by
 intro u H' W e _ _
 cases e
 refine ⟨Evo.refl V H, fun g a w B hr hh hB ht hwf hf next Q hn => ?_⟩
 obtain ⟨v', h1, h2⟩ := h g a.eval w B hr hh
 unfold Oper.wp
 rw [h1]
 exact hn g v' w h2 (After.refl hh)
theorem bnd_run {P : Program} {w : World} {g : Gh} {n n' d i : Nat} {v v' : Value} {code : BoundsCode} (h : bndA n d (some v) = some i) (hv : VR g v v') (hn : n ≤ n') : (Instr.sliceBound v' n' code).run P w = .ok i w ∧ i ≤ n := by
 unfold bndA at h
 split at h
 ·rename_i e; cases e
 ·rename_i k j e
  cases e
  split at h
  ·rename_i hj
   cases h
   rw [hv.of_int]
   have h2 : (i : Int) ≤ (n' : Int) := by omega
   refine ⟨?_, hj⟩
   simp [Instr.sliceBound, asIntOf, h2]
  ·cases h
 ·cases h
inductive OV (g : Gh) : Option Value → Option Value → Prop
 | none : OV g none none
 | some {v v' : Value} (h : VR g v v') : OV g (some v) (some v')
theorem bnds_run {P : Program} {w : World} {g : Gh} {l c c' i h m : Nat} {isS : Bool} {lo hi mx lo' hi' mx' : Option Value} (hb : bndsA l c lo hi mx = some (i, h, m)) (hl : OV g lo lo') (hh : OV g hi hi') (hm : OV g mx mx') (hc : c ≤ c') (hc2 : mx = none → c' = c) :
  (Instr.sliceBounds isS l c' lo' hi' mx').run P w = .ok (i, h, m) w := by
 unfold bndsA at hb
 cases hm with
 | none =>
  have hcc := hc2 rfl
  subst hcc
  rw [show bndA c' c' none = some c' from rfl] at hb
  cases hh with
  | none =>
   simp only at hb
   rw [show bndA c' l none = some l from rfl] at hb
   simp only at hb
   cases hl with
   | none =>
    rw [show bndA l 0 none = some 0 from rfl] at hb
    simp only [Option.some.injEq, Prod.mk.injEq] at hb
    obtain ⟨rfl, rfl, rfl⟩ := hb
    simp [Instr.sliceBounds]
   | some hv =>
    split at hb
    ·rename_i i1 e2
     simp only [Option.some.injEq, Prod.mk.injEq] at hb
     obtain ⟨rfl, rfl, rfl⟩ := hb
     have r := (bnd_run (P := P) (w := w) (code := .sliceB) e2 hv (Nat.le_refl _)).1
     simp [Instr.sliceBounds, r]
    ·cases hb
  | some hvh =>
   simp only at hb
   split at hb
   ·rename_i h1 e1
    have r1 := (bnd_run (P := P) (w := w) (code := if isS then .sliceAcap else .sliceAlen) e1 hvh (Nat.le_refl _)).1
    cases hl with
    | none =>
     rw [show bndA h1 0 none = some 0 from rfl] at hb
     simp only [Option.some.injEq, Prod.mk.injEq] at hb
     obtain ⟨rfl, rfl, rfl⟩ := hb
     simp [Instr.sliceBounds, r1]
    | some hv =>
     split at hb
     ·rename_i i1 e2
      simp only [Option.some.injEq, Prod.mk.injEq] at hb
      obtain ⟨rfl, rfl, rfl⟩ := hb
      have r := (bnd_run (P := P) (w := w) (code := .sliceB) e2 hv (Nat.le_refl _)).1
      simp [Instr.sliceBounds, r1, r]
     ·cases hb
   ·cases hb
 | some hvm =>
  cases hh with
  | none => split at hb <;> first | (cases hb; done) | (rename_i h1 h2 h3; first | (cases h2; done) | (simp at h2; done) | (exact absurd rfl (h1 _)) | skip)
  | some hvh =>
   cases e0 : bndA c c (some _) with
   | none => rw [e0] at hb; cases hb
   | some m1 =>
    rw [e0] at hb
    simp only at hb
    split at hb
    ·rename_i h1 e1
     have r0 := (bnd_run (P := P) (w := w) (code := if isS then .slice3Acap else .slice3Alen) e0 hvm hc).1
     have r1 := (bnd_run (P := P) (w := w) (code := .slice3B) e1 hvh (Nat.le_refl _)).1
     cases hl with
     | none =>
      rw [show bndA h1 0 none = some 0 from rfl] at hb
      simp only [Option.some.injEq, Prod.mk.injEq] at hb
      obtain ⟨rfl, rfl, rfl⟩ := hb
      simp [Instr.sliceBounds, r0, r1]
     | some hv =>
      split at hb
      ·rename_i i1 e2
       simp only [Option.some.injEq, Prod.mk.injEq] at hb
       obtain ⟨rfl, rfl, rfl⟩ := hb
       have r := (bnd_run (P := P) (w := w) (code := .slice3C) e2 hv (Nat.le_refl _)).1
       simp [Instr.sliceBounds, r0, r1, r]
      ·cases hb
    ·cases hb
theorem bndsU_run {P : Program} {w : World} {g : Gh} {l c' i h : Nat} {lo hi lo' hi' : Option Value} (e1 : bndA l l hi = some h) (e2 : bndA h 0 lo = some i) (hl : OV g lo lo') (hh : OV g hi hi') (hc : l ≤ c') :
  (Instr.sliceBounds true l c' lo' hi' none).run P w = .ok (i, h, c') w ∧ h ≤ l ∧ i ≤ h := by
 cases hh with
 | none =>
  cases e1
  cases hl with
  | none => cases e2; exact ⟨by simp [Instr.sliceBounds], Nat.le_refl _, Nat.zero_le _⟩
  | some hv =>
   have r := bnd_run (P := P) (w := w) (code := .sliceB) e2 hv (Nat.le_refl _)
   exact ⟨by simp [Instr.sliceBounds, r.1], Nat.le_refl _, r.2⟩
 | some hvh =>
  have r1 := bnd_run (P := P) (w := w) (code := .sliceAcap) e1 hvh hc
  cases hl with
  | none => cases e2; exact ⟨by simp [Instr.sliceBounds, r1.1], r1.2, Nat.zero_le _⟩
  | some hv =>
   have r := bnd_run (P := P) (w := w) (code := .sliceB) e2 hv (Nat.le_refl _)
   exact ⟨by simp [Instr.sliceBounds, r1.1, r.1], r1.2, r.2⟩
theorem opt_rel {g : Gh} {ρ ρ' : Operand → Value} {l : Option Operand} (h : ∀ x, l = some x → VR g (ρ x) (ρ' x)) : OV g (l.map ρ) (l.map ρ') := by
 cases l with
 | none => exact .none
 | some x => exact .some (h x rfl)
theorem op_slice {P : Program} {o : Oper} {ρ : Operand → Value} {V : Vw} {H : Hp} {t : Nat} {x : Operand} {lo hi mx : Option Operand} (ho : o.op = .slice t x lo hi mx) : ∀ v, sliceA P V H t (lo.map ρ) (hi.map ρ) (mx.map ρ) (ρ x) = some v → OpOk P o ρ V H (.mk v H []) := by
 intro v hv
 refine OpOk.dir2 fun g ρ' w B hrel hh => ?_
 have hx := hrel x (by simp [ho, Op.operands])
 have rlo := opt_rel (l := lo) fun y hy => hrel y (by simp [ho, Op.operands, hy])
 have rhi := opt_rel (l := hi) fun y hy => hrel y (by simp [ho, Op.operands, hy])
 have rmx := opt_rel (l := mx) fun y hy => hrel y (by simp [ho, Op.operands, hy])
 have hexec : ∀ v', (Instr.sliceAt t (ρ' x) (lo.map ρ') (hi.map ρ') (mx.map ρ')).run P w = .ok v' w → (execOp ρ' o).run P w = .ok (.value v') w := by
  intro v' h
  unfold execOp; rw [ho]
  show (Instr.sliceAt t (ρ' x) (lo.map ρ') (hi.map ρ') (mx.map ρ') >>= fun x => pure (Next.value x)).run P w = _
  rw [Sem.run_bind, h]; rfl
 unfold sliceA at hv
 split at hv
 ·rename_i b off l c h0
  rw [h0] at hx
  split at hv
  ·rename_i e hu
   split at hv
   ·rename_i inf hinf
    -- what the program does to a slice with these bounds
    have hrun : ∀ (a' : Addr) (c' i h m : Nat), ρ' x = .slice (some a') l c' → (Instr.sliceBounds true l c' (lo.map ρ') (hi.map ρ') (mx.map ρ')).run P w = .ok (i, h, m) w → (Instr.sliceAt t (ρ' x) (lo.map ρ') (hi.map ρ') (mx.map ρ')).run P w = .ok (.slice (if m = i then some a' else some (a'.add (i * inf.size))) (h - i) (m - i)) w := by
     intro a' c' i h m e1 e2
     rw [e1]
     simp [Instr.sliceAt, run_underlying hu, Instr.slice, e2, run_size hinf]
    have hX : ∀ (a' : Addr) (c' cc : Nat), ρ' x = .slice (some a') l c' → AR g ⟨b, off, none⟩ a' → cc ≤ c' → (mx.map ρ = none → c' = cc) → sliceX inf.size b off l cc (lo.map ρ) (hi.map ρ) (mx.map ρ) = some v → ∃ v', (execOp ρ' o).run P w = .ok (.value v') w ∧ VR g v v' := by
     intro a' c' cc e1 ha hcc hcc2 e2
     unfold sliceX at e2
     split at e2
     ·rename_i i h m hb
      split at e2
      ·rename_i hne
       cases e2
       have r := hrun a' c' i h m e1 (bnds_run hb rlo rhi rmx hcc hcc2)
       refine ⟨_, hexec _ r, ?_⟩
       unfold sliceAddr
       by_cases hmi : m = i
       ·rw [if_pos hmi, if_pos hmi]; exact .sl ha hne
       ·rw [if_neg hmi, if_neg hmi]; exact .sl (ha.at _) hne
      ·cases e2
     ·cases e2
    split at hv
    ·rename_i hc
     subst hc
     generalize hxx : ρ' x = u at hx
     cases hx with
     | plain h => simp [plain1] at h
     | sl h hc => exact absurd rfl hc
     | su hg ha hn hcap =>
      rename_i a' c' cf
      cases hmx : mx.map ρ with
      | some mv =>
       rw [hmx] at hv
       simp only at hv
       exact hX a' c' l hxx ha hn (fun e => by rw [hmx] at e; cases e) (by rw [hmx]; exact hv)
      | none =>
       rw [hmx] at hv
       simp only at hv
       unfold sliceU at hv
       split at hv
       ·rename_i bl hbl
        split at hv
        ·rename_i hesz
         split at hv
         ·rename_i h1 e1
          split at hv
          ·rename_i i1 e2
           split at hv
           ·rename_i hi1
            cases hv
            have hmx' : mx.map ρ' = none := by
             rw [hmx] at rmx
             generalize mx.map ρ' = u' at rmx
             cases rmx; rfl
            obtain ⟨hb2, hle1, hle2⟩ := bndsU_run (P := P) (w := w) e1 e2 rlo rhi hn
            rw [← hmx'] at hb2
            have r := hrun a' c' i1 h1 c' hxx hb2
            obtain ⟨cr, cs, g1, g2, g3, g4, g5, g6⟩ := hh.row _ _ hbl
            have hg' : g b = some cf := hg
            rw [g1] at hg'
            have hcrf : cr = cf := by simpa using hg'
            subst hcrf
            have hcf : cr.e = inf.size := g4.trans hesz
            refine ⟨_, hexec _ r, ?_⟩
            have hcap' : cr.s + off + c' * cr.e ≤ cr.n := hcap
            have hadd : AR g ⟨b, off + i1 * inf.size, none⟩ (a'.add (i1 * inf.size)) := ha.at _
            have hcap2 : cr.s + (off + i1 * inf.size) + (c' - i1) * cr.e ≤ cr.n := by
             have : (c' - i1) * cr.e + i1 * cr.e = c' * cr.e := by rw [← Nat.add_mul, Nat.sub_add_cancel (by omega)]
             rw [hcf] at this hcap' ⊢
             omega
            by_cases hci : c' = i1
            ·rw [if_pos hci]
             have : i1 = 0 := by omega
             subst this
             rw [Nat.zero_mul] at hadd hcap2 ⊢
             have : a'.add 0 = a' := by unfold Addr.add; rw [if_pos rfl]
             rw [this] at hadd
             exact .su (cf := cr) g1 hadd (by omega) hcap2
            ·rw [if_neg hci]
             exact .su (cf := cr) g1 hadd (by omega) hcap2
           ·cases hv
          ·cases hv
         ·cases hv
        ·cases hv
       ·cases hv
    ·rename_i hc
     generalize hxx : ρ' x = u at hx
     cases hx with
     | plain h => simp [plain1] at h
     | su hg ha hn hcap => exact absurd rfl hc
     | sl ha hc' => exact hX _ c c hxx ha (Nat.le_refl _) (fun _ => rfl) hv
   ·cases hv
  ·cases hv
 ·rename_i b off h0
  rw [h0] at hx
  obtain ⟨a', h1, ha⟩ := hx.of_ptr
  split at hv
  ·rename_i n e hu
   split at hv
   ·rename_i inf hinf
    unfold sliceX at hv
    split at hv
    ·rename_i i h m hb
     split at hv
     ·rename_i hne
      cases hv
      have hb2 := bnds_run (P := P) (w := w) (isS := false) hb rlo rhi rmx (Nat.le_refl _) (fun _ => rfl)
      refine ⟨.slice (some (if m = i then a' else a'.add (i * inf.size))) (h - i) (m - i), hexec _ ?_, ?_⟩
      ·rw [h1]
       simp [Instr.sliceAt, run_underlying hu, Instr.sureAddr, hb2, run_size hinf]
      ·unfold sliceAddr
       by_cases hmi : m = i
       ·rw [if_pos hmi, if_pos hmi]; exact .sl ha hne
       ·rw [if_neg hmi, if_neg hmi]; exact .sl (ha.at _) hne
     ·cases hv
    ·cases hv
   ·cases hv
  ·cases hv
 ·cases hv
end Go.Proofs.YtfphlpglgcmljaaGreat.Ev
namespace Go.Proofs.YtfphlpglgcmljaaGreat.Ev
open Go Go.RowKit
set_option linter.unusedVariables false
theorem runA_agg {α : Type} {P : Program} {V : Vw} {t : Nat} {f : Bool → Sem α} {H : Hp} {W : List Nat} {d : TypeDesc} (hd : P.underlying t = some d) : runA P V ((isAgg t).bind f) H W = runA P V (f (aggD d)) H W := by
 show runA P V (Sem.bind (Sem.bind (match P.underlying t with | some d => Sem.pure d | none => stuck "no such type") (fun d => match d with | .struct _ | .array _ _ => Sem.pure true | _ => Sem.pure false)) f) H W = _
 rw [hd]
 cases d <;> rfl
theorem runA_size {α : Type} {P : Program} {V : Vw} {t : Nat} {f : Nat → Sem α} {H : Hp} {W : List Nat} {i : TypeInfo} (hi : P.info? t = some i) : runA P V ((sizeOf t).bind f) H W = runA P V (f i.size) H W := by
 show runA P V (Sem.bind (Sem.bind (match P.info? t with | some d => Sem.pure d | none => stuck "no such type") (fun i => Sem.pure i.size)) f) H W = _
 rw [hi]; rfl
theorem runA_load {α : Type} {P : Program} {V : Vw} {m : Mode} {b o : Nat} {k : Value → Sem α} {H : Hp} {W : List Nat} {bl : Blk} {v : Value} (hb : gt V H b = some bl) (hv : bl.cells[o]? = some v) : runA P V (.load m ⟨b, o, none⟩ k) H W = runA P V (k v) H W := by
 simp only [runA, hb, hv]
 rfl
theorem add_none (b o n : Nat) : (Addr.mk b o none).add n = ⟨b, o + n, none⟩ := by
 unfold Addr.add
 by_cases h : n = 0
 ·rw [if_pos h, h]; rfl
 ·rw [if_neg h]
theorem runA_cells {P : Program} {V : Vw} {b o : Nat} {H : Hp} {W : List Nat} {bl : Blk} (hb : gt V H b = some bl) : ∀ (n i : Nat) (x : Array Value), o + i + n ≤ bl.cells.length → runA P V (loadCellsFrom ⟨b, o, none⟩ i n x) H W = some (⟨x.toList ++ (bl.cells.drop (o + i)).take n⟩, H, W)
  | 0, i, x, h => by simp [loadCellsFrom, runA, pure]
  | n + 1, i, x, h => by
    show runA P V (.load .plain ((Addr.mk b o none).add i) fun v => Go.loadCellsFrom ⟨b, o, none⟩ (i + 1) n (x.push v)) H W = _
    have hlt : o + i < bl.cells.length := by omega
    rw [add_none, runA_load hb (List.getElem?_eq_getElem hlt), runA_cells hb n (i + 1) _ (by omega)]
    rw [List.drop_eq_getElem_cons hlt, List.take_succ_cons]
    simp only [Array.toList_push, List.append_assoc, List.singleton_append, Nat.add_assoc]
theorem aggSz_some {P : Program} {t : Nat} {r : Option Nat} (h : aggSz P t = some r) : ∃ d, P.underlying t = some d ∧ ((aggD d = true ∧ r = some (P.cellsOf t)) ∨ (aggD d = false ∧ r = none)) := by
 unfold aggSz at h
 cases hd : P.underlying t with
 | none => rw [hd] at h; cases h
 | some d =>
  rw [hd] at h
  refine ⟨d, rfl, ?_⟩
  cases d <;> cases h <;> first | exact .inl ⟨rfl, rfl⟩ | exact .inr ⟨rfl, rfl⟩
theorem loadVar_run {P : Program} {V : Vw} {t b o : Nat} {H : Hp} {W : List Nat} {v : Value} (h : loadA P V t (.pointer (some ⟨b, o, none⟩)) H = some v) : runA P V (loadVar t ⟨b, o, none⟩) H W = some (v, H, W) := by
 unfold loadA at h
 simp only at h
 split at h
 ·rename_i bl hb
  split at h
  ·rename_i ha
   obtain ⟨d, hd, ⟨h1, h2⟩ | ⟨h1, _⟩⟩ := aggSz_some ha
   ·cases h2
   ·show runA P V ((isAgg t).bind fun b' => if b' = true then (sizeOf t).bind fun n => (Go.loadCells ⟨b, o, none⟩ n).bind fun x => Sem.pure (Value.agg x) else .load .plain ⟨b, o, none⟩ .pure) H W = _
    rw [runA_agg hd, h1]
    rw [nth_eq] at h
    show runA P V (.load .plain ⟨b, o, none⟩ .pure) H W = _
    rw [runA_load hb h]; rfl
  ·rename_i n ha
   obtain ⟨d, hd, ⟨h1, h2⟩ | ⟨_, h2⟩⟩ := aggSz_some ha
   ·split at h
    ·rename_i hle
     cases h2
     cases h
     show runA P V ((isAgg t).bind fun b' => if b' = true then (sizeOf t).bind fun n => (Go.loadCells ⟨b, o, none⟩ n).bind fun x => Sem.pure (Value.agg x) else .load .plain ⟨b, o, none⟩ .pure) H W = _
     rw [runA_agg hd, h1]
     show runA P V ((sizeOf t).bind fun n => (Go.loadCells ⟨b, o, none⟩ n).bind fun x => Sem.pure (Value.agg x)) H W = _
     have hle' := Nat.le_of_ble_eq_true hle
     cases hi : P.info? t with
     | none =>
      exfalso
      unfold Program.underlying at hd
      rw [hi] at hd
      cases hd
     | some inf =>
      have hs := cellsOf_info hi
      rw [runA_size hi, runA_bind, show Go.loadCells ⟨b, o, none⟩ inf.size = loadCellsFrom ⟨b, o, none⟩ 0 inf.size #[] from rfl, runA_cells hb inf.size 0 #[] (by rw [← hs]; omega), hs]
      simp [runA]
    ·cases h
   ·cases h2
  ·cases h
 ·cases h
theorem loadA_ptr {P : Program} {V : Vw} {t : Nat} {u v : Value} {H : Hp} (h : loadA P V t u H = some v) : ∃ b o, u = .pointer (some ⟨b, o, none⟩) := by
 unfold loadA at h
 split at h
 ·exact ⟨_, _, rfl⟩
 ·cases h
theorem op_load {P : Program} {o : Oper} {ρ : Operand → Value} {V : Vw} {H : Hp} {t : Nat} {x : Operand} (ho : o.op = .load t x) : OpOk P o ρ V H (okA H (loadA P V t (ρ x) H)) := by
 refine OpOk.sr (fun g ρ' hrel => ?_) fun v H' W h => ?_
 ·have hx := hrel x (by simp [ho, Op.operands])
  unfold execOp; rw [ho]
  exact (SR.loadAt hx t).val
 ·cases hl : loadA P V t (ρ x) H with
  | none => rw [hl] at h; cases h
  | some u =>
   rw [hl] at h
   cases h
   left
   obtain ⟨b, off, hx⟩ := loadA_ptr hl
   rw [hx] at hl
   unfold execOp; rw [ho]
   show runA P V ((Instr.loadAt t (ρ x)).bind fun x => .pure (Next.value x)) H [] = _
   rw [runA_bind, hx, show Instr.loadAt t (.pointer (some ⟨b, off, none⟩)) = Go.loadVar t ⟨b, off, none⟩ from rfl, loadVar_run hl]
   rfl
theorem runA_store {α : Type} {P : Program} {V : Vw} {m : Mode} {b o : Nat} {v : Value} {k : Sem α} {H : Hp} {W : List Nat} {bl : Blk} (hb : gt V H b = some bl) (ho : o < bl.cells.length) (h1 : oneCellB v = true) :
  runA P V (.store m ⟨b, o, none⟩ v k) H W = runA P V k (H.set b (some ⟨bl.ty, bl.esz, bl.cells.set o v⟩)) (b :: W) := by
 simp only [runA, hb, h1, if_true]
 rw [if_neg (by simp), if_pos ho]
theorem put_put {α : Type} (x y : Option α) : ∀ (t : Tr α) (k : Nat), t.get k ≠ none → (t.put x k).put y k = t.put y k
 | .leaf, k, h => absurd rfl h
 | .node l v r, 0, h => by rw [Tr.put_zero, Tr.put_zero, Tr.put_zero]
 | .node l v r, m + 1, h => by
  rw [Tr.get_succ] at h
  rw [Tr.put_succ, Tr.put_succ]
  by_cases hm : m % 2 = 0
  ·rw [if_pos hm] at h
   rw [if_pos hm, if_pos hm, Tr.put_succ, if_pos hm, put_put x y l _ h]
  ·rw [if_neg hm] at h
   rw [if_neg hm, if_neg hm, Tr.put_succ, if_neg hm, put_put x y r _ h]
theorem put_self {α : Type} : ∀ (t : Tr α) (k : Nat) (x : α), t.get k = some x → t.put (some x) k = t
 | .leaf, k, x, h => by cases h
 | .node l v r, 0, x, h => by rw [Tr.get_zero] at h; rw [Tr.put_zero, h]
 | .node l v r, m + 1, x, h => by
  rw [Tr.get_succ] at h
  rw [Tr.put_succ]
  by_cases hm : m % 2 = 0
  ·rw [if_pos hm] at h ⊢; rw [put_self l _ x h]
  ·rw [if_neg hm] at h ⊢; rw [put_self r _ x h]
theorem storeCells_run {P : Program} {V : Vw} {b o ty esz : Nat} {H0 : Hp} : ∀ (l : List Value) (i : Nat) (cells : List Value) (W : List Nat), V.see b = true → H0.tr.get b ≠ none → l.all oneCellB = true → o + i + l.length ≤ cells.length →
    ∃ Wn, runA P V (storeCells ⟨b, o, none⟩ l i) (H0.set b (some ⟨ty, esz, cells⟩)) W = some ((), H0.set b (some ⟨ty, esz, setRow cells (o + i) l⟩), Wn ++ W) ∧ (∀ j, j ∈ Wn → j = b) ∧ (l ≠ [] → b ∈ Wn)
  | [], i, cells, W, hv, hb, h1, hl => ⟨[], rfl, fun j h => by simp at h, fun h => absurd rfl h⟩
  | v :: l, i, cells, W, hv, hb, h1, hl => by
    rw [List.all_cons, Bool.and_eq_true] at h1
    rw [List.length_cons] at hl
    have hg : gt V (H0.set b (some ⟨ty, esz, cells⟩)) b = some ⟨ty, esz, cells⟩ := by rw [gt_def, if_pos hv, get_set hb, if_pos rfl]
    obtain ⟨Wn, h2, h3, _⟩ := storeCells_run (P := P) (V := V) (o := o) (H0 := H0) (ty := ty) (esz := esz) l (i + 1) (cells.set (o + i) v) (b :: W) hv hb h1.2 (by rw [List.length_set]; omega)
    refine ⟨Wn ++ [b], ?_, fun j hj => ?_, fun _ => by simp⟩
    · show runA P V (.store .plain ((Addr.mk b o none).add i) v (Go.storeCells ⟨b, o, none⟩ l (i + 1))) _ W = _
      rw [add_none, runA_store hg (by show o + i < cells.length; omega) h1.1]
      have hset : (H0.set b (some ⟨ty, esz, cells⟩)).set b (some ⟨ty, esz, cells.set (o + i) v⟩) = H0.set b (some ⟨ty, esz, cells.set (o + i) v⟩) := by
        unfold Hp.set
        simp only [put_put _ _ _ _ hb]
      simp only [hset]
      rw [h2]
      simp [setRow, Nat.add_assoc]
    · rcases List.mem_append.1 hj with hj | hj
      · exact h3 j hj
      · simpa using hj
theorem After.congr {V : Vw} {H H' : Hp} {W W' : List Nat} {B : Nat} {g g' : Gh} {w w' : World} (a : After V H H' W B g w g' w') (h : ∀ j, j ∈ W ↔ j ∈ W') : After V H H' W' B g w g' w' :=
 ⟨a.sub, a.ext, a.hr, a.os, a.tape, a.output, a.size, fun k hk hn => a.frame k hk fun i hi => hn i ((h i).1 hi), fun i c h1 h2 h3 => (a.new i c h1 h2 h3).imp id fun ⟨j, hj, r⟩ => ⟨j, (h j).1 hj, r⟩, fun i hi => a.wb i ((h i).2 hi)⟩
theorem Evo.congr {V : Vw} {H H' : Hp} {W W' : List Nat} (a : Evo V H H' W) (h : ∀ j, j ∈ W ↔ j ∈ W') : Evo V H H' W' := ⟨a.next, fun i hi hn => a.same i hi fun hh => hn ((h i).1 hh), fun hw => ⟨(a.wf hw).1, fun i hi => (a.wf hw).2 i ((h i).2 hi)⟩, fun i hi => a.seen i ((h i).2 hi), a.had, fun i hi => a.hadW i ((h i).2 hi)⟩
theorem OpOk.congr {P : Program} {o : Oper} {ρ : Operand → Value} {V : Vw} {H H' : Hp} {v : Value} {W W' : List Nat} (h : OpOk P o ρ V H (.mk v H' W)) (hw : ∀ j, j ∈ W ↔ j ∈ W') : OpOk P o ρ V H (.mk v H' W') := by
 intro u H2 W2 e i1 i2
 cases e
 obtain ⟨h1, h2⟩ := h _ _ _ rfl i1 i2
 exact ⟨h1.congr hw, fun g a w B hr hh hB ht hwf hf next Q hn => h2 g a w B hr hh hB ht hwf hf next Q fun g' v' w' hv ha => hn g' v' w' hv (ha.congr hw)⟩
theorem storeA_cells {P : Program} {V : Vw} {t b o : Nat} {v : Value} {H H' : Hp} {u : Value} {W : List Nat} (h : storeA P V t (.pointer (some ⟨b, o, none⟩)) v H = .mk u H' W) :
  ∃ bl, gt V H b = some bl ∧ v.cells.toList ≠ [] ∧ v.cells.toList.length = P.cellsOf t ∧ o + v.cells.toList.length ≤ bl.cells.length ∧ v.cells.toList.all oneCellB = true ∧ u = undef ∧ H' = H.set b (some ⟨bl.ty, bl.esz, setRow bl.cells o v.cells.toList⟩) ∧ W = [b] := by
 unfold storeA at h
 simp only at h
 split at h
 ·rename_i bl hb
  refine ⟨bl, hb, ?_⟩
  split at h
  ·rename_i cs
   split at h
   ·rename_i h0 h1 h2 h3
    cases h
    refine ⟨?_, Nat.eq_of_beq_eq_true h1, Nat.le_of_ble_eq_true h2, h3, rfl, rfl, rfl⟩
    intro e
    have h0' := Nat.le_of_ble_eq_true h0
    have e' : cs.toList = [] := e
    rw [e'] at h0'
    exact absurd h0' (by simp)
   ·cases h
  ·cases h
  ·rename_i hna hnt
   split at h
   ·rename_i h1 h2
    have hone : oneCellB v = true := by cases v <;> first | rfl | (exact absurd rfl (hna _)) | (exact absurd rfl (hnt _))
    have hcell : v.cells.toList = [v] := by cases v <;> first | rfl | (exact absurd rfl (hna _))
    cases h
    rw [hcell]
    refine ⟨by simp, (Nat.eq_of_beq_eq_true h1).symm, Nat.le_of_ble_eq_true h2, by simp [hone], rfl, ?_, rfl⟩
    rw [setN_eq]; rfl
   ·cases h
 ·cases h
theorem storeA_ptr {P : Program} {V : Vw} {t : Nat} {ad v u : Value} {H H' : Hp} {W : List Nat} (h : storeA P V t ad v H = .mk u H' W) : ∃ b o, ad = .pointer (some ⟨b, o, none⟩) := by
 unfold storeA at h
 split at h
 ·exact ⟨_, _, rfl⟩
 ·cases h
theorem op_store {P : Program} {o : Oper} {ρ : Operand → Value} {V : Vw} {H : Hp} {t : Nat} {x y : Operand} (ho : o.op = .store t x y) : OpOk P o ρ V H (storeA P V t (ρ x) (ρ y) H) := by
 cases hst : storeA P V t (ρ x) (ρ y) H with
 | bad => exact .bad
 | mk u H' W =>
  obtain ⟨b, off, hx⟩ := storeA_ptr hst
  rw [hx] at hst
  obtain ⟨bl, hb, hne, hlen, hle, hone, rfl, rfl, rfl⟩ := storeA_cells hst
  have hget : H.tr.get b ≠ none := by rw [(gt_some hb).2]; simp
  obtain ⟨Wn, h1, h2, h3⟩ := storeCells_run (P := P) (V := V) (o := off) (H0 := H) (ty := bl.ty) (esz := bl.esz) (ρ y).cells.toList 0 bl.cells [] (gt_some hb).1 hget hone (by omega)
  have hself : H.set b (some ⟨bl.ty, bl.esz, bl.cells⟩) = H := by
   unfold Hp.set
   rw [put_self _ _ _ (gt_some hb).2]
  rw [hself] at h1
  refine OpOk.congr (W := Wn) ?_ (fun j => ⟨fun hj => by simpa using h2 j hj, fun hj => by
   rw [List.mem_singleton] at hj; rw [hj]; exact h3 hne⟩)
  refine OpOk.sr (fun g ρ' hrel => ?_) fun v H' W h => ?_
  ·have hx := hrel x (by simp [ho, Op.operands])
   have hy := hrel y (by simp [ho, Op.operands])
   unfold execOp; rw [ho]
   exact (SR.storeAt hx hy t).unit
  ·cases h
   right
   refine ⟨?_, rfl⟩
   unfold execOp; rw [ho]
   show runA P V ((Instr.storeAt t (ρ x) (ρ y)).bind fun _ => .pure Next.skip) H [] = _
   have hst : runA P V (Instr.storeAt t (ρ x) (ρ y)) H [] = some ((), H.set b (some ⟨bl.ty, bl.esz, setRow bl.cells (off + 0) (ρ y).cells.toList⟩), Wn ++ []) := by
    rw [hx]
    show runA P V ((sizeOf t).bind fun n => if (ρ y).cells.size ≠ n then (stuck "storeVar: the value has not the size of the variable").bind fun _ => Go.storeCells ⟨b, off, none⟩ (ρ y).cells.toList else Go.storeCells ⟨b, off, none⟩ (ρ y).cells.toList) H [] = _
    cases hi : P.info? t with
    | none =>
     exfalso
     unfold Program.cellsOf at hlen
     rw [hi] at hlen
     exact hne (List.eq_nil_of_length_eq_zero hlen)
    | some inf =>
     rw [cellsOf_info hi] at hlen
     rw [runA_size hi, if_neg (by rw [← hlen]; simp), h1]
   rw [runA_bind, hst]
   simp [runA]
end Go.Proofs.YtfphlpglgcmljaaGreat.Ev
namespace Go.Proofs.YtfphlpglgcmljaaGreat.Ev
open Go Go.RowKit
set_option linter.unusedVariables false
theorem op_box {P : Program} {o : Oper} {ρ : Operand → Value} {V : Vw} {H : Hp} {t : Nat} {x : Operand} (ho : o.op = .box t x) : OpOk P o ρ V H (boxA t (ρ x) H) := by
 refine OpOk.sr (fun g ρ' hrel => ?_) fun v H' W h => ?_
 ·have hx := hrel x (by simp [ho, Op.operands])
  unfold execOp; rw [ho]
  exact (SR.box hx t).val
 ·unfold boxA at h
  split at h
  ·rename_i hlt
   cases h
   left
   unfold execOp; rw [ho]
   show runA P V (.new (.cells (ρ x).cells t (0, 0)) fun r => .pure (Next.value (.pointer (some ⟨r, 0, none⟩)))) H [] = _
   rw [runA_new, if_pos (show H.next < MOST from Nat.le_of_ble_eq_true hlt)]
   rfl
  ·cases h
theorem op_alloc {P : Program} {o : Oper} {T : TT} {V : Vw} {H : Hp} {t : Nat} (ho : o.op = .alloc t) (hz : zeroB P t = true) : OpOk P o (aeval T) V H (genS P V T o H) :=
 OpOk.genS fun g ρ' hrel => by
  unfold execOp; rw [ho]
  exact (SR.alloc hz).val
theorem op_field {P : Program} {o : Oper} {T : TT} {V : Vw} {H : Hp} {t f : Nat} {x : Operand} (ho : o.op = .field t x f) : OpOk P o (aeval T) V H (genS P V T o H) :=
 OpOk.genS fun g ρ' hrel => by
  have hx := hrel x (by simp [ho, Op.operands])
  unfold execOp; rw [ho]
  exact (SR.field hx t f).val
/-! copy -/
theorem SR.lenOf {P : Program} {α β : Type} {R : Gh → α → β → Prop} {g : Gh} {v v' : Value} (h : VR g v v') {f : Nat → Sem α} {f' : Nat → Sem β} (hf : ∀ n, SR P R g (f n) (f' n)) : SR P R g ((Builtin.lenOf v).bind f) ((Builtin.lenOf v').bind f') := by
 cases v with
 | slice a n c =>
  obtain ⟨a', c', rfl⟩ : ∃ a' c', v' = .slice a' n c' := by
   cases h with
   | plain h => exact ⟨_, _, rfl⟩
   | sl h _ => exact ⟨_, _, rfl⟩
   | su _ h _ _ => exact ⟨_, _, rfl⟩
  exact hf n
 | string s => rw [h.eq1 rfl]; exact hf s.size
 | _ => exact .halt
theorem SR.firstCells {P : Program} {g : Gh} {v v' : Value} (h : VR g v v') (size n : Nat) : SR P RA g (Builtin.firstCells size n v) (Builtin.firstCells size n v') := by
 cases v with
 | slice a m c =>
  cases a with
  | none =>
   rw [h.eq1 rfl]
   exact .pure (LR.nil g)
  | some a =>
   obtain ⟨a', c', rfl, ha⟩ : ∃ a' c', v' = .slice (some a') m c' ∧ AR g a a' := by
    cases h with
    | plain h => simp [plain1] at h
    | sl h _ => exact ⟨_, _, rfl, h⟩
    | su _ h _ _ => exact ⟨_, _, rfl, h⟩
   exact SR.loadCells ha (n * size)
 | string s =>
  rw [h.eq1 rfl]
  refine .pure (LR.plain ?_)
  simp only [Array.toList_map, List.all_map]
  exact List.all_eq_true.2 fun x _ => rfl
 | _ => exact .halt
theorem SR.copy {P : Program} {g : Gh} {types : Array Nat} {ty : Nat} {x x' : Array Value} (h : LR g x.toList x'.toList) : SR P VR g (Builtin.copy_ types ty x) (Builtin.copy_ types ty x') := by
 unfold Builtin.copy_
 cases ht : types[0]? with
 | none => exact .halt
 | some t =>
  cases h0 : x[0]? with
  | none => exact .halt
  | some d =>
   cases h1 : x[1]? with
   | none => exact .halt
   | some s =>
    obtain ⟨d', e0, hd⟩ := h.at (i := 0) (v := d) (by simpa using h0)
    obtain ⟨s', e1, hs⟩ := h.at (i := 1) (v := s) (by simpa using h1)
    rw [show x'[0]? = some d' by simpa using e0, show x'[1]? = some s' by simpa using e1]
    refine SR.und fun dd hdd => ?_
    cases dd with
    | slice elem =>
     cases d with
     | slice a n c =>
      cases a with
      | none =>
       rw [hd.eq1 rfl]
       refine SR.lenOf hs fun m => SR.size fun i hi => (SR.firstCells hs i.size (Nat.min m n)).bind fun g' y y' hg hy => ?_
       exact .pure (.plain rfl)
      | some a =>
       obtain ⟨a', c', rfl, ha⟩ : ∃ a' c', d' = .slice (some a') n c' ∧ AR g a a' := by
        cases hd with
        | plain h => simp [plain1] at h
        | sl h _ => exact ⟨_, _, rfl, h⟩
        | su _ h _ _ => exact ⟨_, _, rfl, h⟩
       refine SR.lenOf hs fun m => SR.size fun i hi => (SR.firstCells hs i.size (Nat.min m n)).bind fun g' y y' hg hy => ?_
       exact (SR.storeCells y.toList y'.toList 0 (ha.mono hg) hy).bind fun g'' _ _ _ _ => .pure (.plain rfl)
     | _ => cases hd <;> exact .halt
    | _ => exact .halt
theorem op_copy {P : Program} {o : Oper} {T : TT} {V : Vw} {H : Hp} {c : Call} (ho : o.op = .call c) (hc : c.callee = .builtin .copy) : OpOk P o (aeval T) V H (genS P V T o H) :=
 OpOk.genS fun g ρ' hrel => by
  unfold execOp; rw [ho]
  obtain ⟨callee, args, types⟩ := c
  simp only at hc
  subst hc
  show SR P NR g ((Builtin.copy_ types o.type (args.map (aeval T))).bind fun x => .pure (Next.value x)) ((Builtin.copy_ types o.type (args.map ρ')).bind fun x => .pure (Next.value x))
  refine (SR.copy ?_).val
  rw [Array.toList_map, Array.toList_map]
  exact LR.map fun x hx => hrel x (by simp only [ho, Op.operands, Call.operands, Array.toList_append, List.mem_append]; exact .inr hx)
/-! new rows -/
theorem HR.heap {g : Gh} {L : Nat → Option Blk} {w w' : World} {B : Nat} (h : HR g L w B) (e : w'.heap = w.heap) : HR g L w' B := ⟨fun i bl hi => by rw [e]; exact h.row i bl hi, h.inj⟩
theorem Evo.new {V : Vw} {H : Hp} {b : Blk} (hm : H.next < MOST) : Evo V H (H.add b) [] :=
 ⟨by show H.next ≤ H.next + 1; omega, fun i hi _ => by rw [get_add hm, if_neg (by omega)], fun hw => ⟨fun i hi => by
  show i < H.next + 1
  rw [get_add hm] at hi
  by_cases e : i = H.next
  ·omega
  ·rw [if_neg e] at hi; have := hw i hi; omega, fun i hi => by simp at hi⟩, fun i hi => by simp at hi, fun i hi h => by rw [get_add hm, if_neg (by omega)] at h; exact h, fun i hi => by simp at hi⟩
theorem After.new1 {V : Vw} {H : Hp} {B ty esz s : Nat} {g : Gh} {w w' : World} {cells : List Value} {cs : Array Value} (hh : HR g (gt V H) w B) (hB : B ≤ w.heap.size) (hf : g H.next = none) (hm : H.next < MOST)
  (hr : ∀ (k : Nat) (v : Value), cells[k]? = some v → ∃ v', cs[s + k]? = some v' ∧ VR g v v') (e : w'.heap = w.heap.push (.cells cs ty (0, 0))) (e1 : w'.os = w.os) (e2 : w'.tape = w.tape) (e3 : w'.output = w.output) :
  After V H (H.add ⟨ty, esz, cells⟩) [] B g w (withNew g H.next ⟨w.heap.size, s, cs.size, esz⟩) w' := by
 refine ⟨withNew_sub hf, fun i hi => ?_, (hh.new hf hm hB hr).heap (by rw [e]), e1, e2, e3, by rw [e]; simp, fun k hk _ => ?_, fun i c h1 h2 hc => ?_, fun i hi => by simp at hi⟩
 ·have : (H.add ⟨ty, esz, cells⟩).next = H.next + 1 := rfl
  unfold withNew; rw [if_neg (by omega)]
 ·rw [e, Array.getElem?_push, if_neg (by omega)]
 ·have h3 : i < H.next + 1 := h2
  unfold withNew at hc
  rw [if_pos (by omega)] at hc
  cases hc
  exact .inl (Nat.le_refl _)
theorem OpOk.newRow {P : Program} {o : Oper} {ρ : Operand → Value} {V : Vw} {H : Hp} {e n c : Nat} {cells : List Value} (hc : c ≠ UNK) (h : ∀ (g : Gh) (ρ' : Operand → Value) (w : World), (∀ x, x ∈ o.op.operands.toList → VR g (ρ x) (ρ' x)) →
  ∃ cs, LR g cells cs.toList ∧ (execOp ρ' o).run P w = .ok (.value (.slice (some ⟨w.heap.size, 0, none⟩) n c)) (w.alloc (.cells cs e))) : OpOk P o ρ V H (boxRow e cells n c H) := by
 intro v H' W hb _ _
 unfold boxRow at hb
 split at hb
 ·rename_i hlt
  have hm : H.next < MOST := Nat.le_of_ble_eq_true hlt
  cases hb
  refine ⟨Evo.new hm, fun g a w B hrel hh hB ht hwf hf next Q hn => ?_⟩
  obtain ⟨cs, hl, hrun⟩ := h g a.eval w hrel
  have hfr : g H.next = none := hf _ (Nat.le_refl _) (by show H.next < H.next + 1; omega)
  unfold Oper.wp
  rw [hrun]
  refine hn _ _ _ (.sl ⟨⟨w.heap.size, 0, cs.size, 0⟩, by unfold withNew; rw [if_pos rfl], rfl, rfl⟩ hc) (After.new1 (s := 0) hh hB hfr hm (fun k v hk => ?_) rfl rfl rfl rfl)
  obtain ⟨v', h1, h2⟩ := hl.at hk
  exact ⟨v', by rw [Nat.zero_add]; simpa using h1, h2⟩
 ·cases hb
theorem repL_len (z : List Value) : ∀ n, (repL z n).length = n * z.length
 | 0 => by simp [repL]
 | n + 1 => by rw [repL, List.length_append, repL_len z n, Nat.add_mul, Nat.one_mul, Nat.add_comm]
theorem repL_get (z : List Value) : ∀ (n k : Nat), k < n * z.length → (repL z n)[k]? = z[k % z.length]?
 | 0, k, h => by simp at h
 | n + 1, k, h => by
  rw [Nat.add_mul, Nat.one_mul] at h
  rw [repL]
  by_cases hk : k < z.length
  ·rw [List.getElem?_append_left hk, Nat.mod_eq_of_lt hk]
  · rw [List.getElem?_append_right (by omega), repL_get z n _ (by omega), Nat.mod_eq_sub_mod (a := k) (by omega)]
theorem repL_made (z : Array Value) (n : Nat) (hz : 0 < z.size) : (madeCells z (n * z.size)) = ⟨repL z.toList n⟩ := by
 refine Array.ext (by rw [size_madeCells]; simp [repL_len]) fun i h1 h2 => ?_
 rw [size_madeCells] at h1
 have h3 := repL_get z.toList n i (by simpa using h1)
 have h4 : i % z.size < z.size := Nat.mod_lt _ hz
 have h5 : (madeCells z (n * z.size))[i]? = some z[i % z.size] := by
  unfold madeCells
  simp [h1, h4]
 have h6 : (⟨repL z.toList n⟩ : Array Value)[i]? = some z[i % z.size] := by
  have : (⟨repL z.toList n⟩ : Array Value)[i]? = (repL z.toList n)[i]? := by simp
  rw [this, h3]
  simp [h4]
 have h7 := h5.trans h6.symm
 rw [Array.getElem?_eq_getElem (by rw [size_madeCells]; exact h1), Array.getElem?_eq_getElem h2] at h7
 exact Option.some.inj h7
theorem zeroOf_some {P : Program} {t size bytes : Nat} {z : List Value} (h : zeroOf P t = some (size, bytes, z)) : ∃ i zv, P.info? t = some i ∧ i.zero = some zv ∧ i.size = size ∧ i.bytes = bytes ∧ zv.cells.toList = z ∧ zv.cells.size = size ∧ Ev.plain2 zv = true := by
 unfold zeroOf at h
 split at h
 ·rename_i i hi
  split at h
  ·rename_i zv hz
   split at h
   ·rename_i hc
    cases h
    exact ⟨i, zv, hi, hz, rfl, rfl, rfl, hc.1, hc.2⟩
   ·cases h
  ·cases h
 ·cases h
theorem elemOfS_some {P : Program} {t e : Nat} (h : elemOfS P t = some e) : P.underlying t = some (.slice e) := by
 unfold elemOfS at h
 split at h
 ·rename_i hu; cases h; exact hu
 ·cases h
theorem LR.repL {g : Gh} {z z' : List Value} (h : LR g z z') : ∀ n, LR g (repL z n) (repL z' n)
 | 0 => LR.nil g
 | n + 1 => h.append (LR.repL h n)
theorem op_makeSlice {P : Program} {o : Oper} {ρ : Operand → Value} {V : Vw} {H : Hp} {t : Nat} {l c : Operand} (ho : o.op = .makeSlice t l c) : OpOk P o ρ V H (mkA P t H (ρ l) (ρ c)) := by
 cases hb : mkA P t H (ρ l) (ρ c) with
 | bad => exact .bad
 | mk v H' W =>
  unfold mkA at hb
  split at hb
  ·rename_i k1 n k2 m hl hc
   split at hb
   ·rename_i e he
    split at hb
    ·rename_i size bytes z hz
     split at hb
     ·rename_i hcond
      rw [← hb]
      obtain ⟨i, zv, h1, h2, h3, h4, h5, h6, h7⟩ := zeroOf_some hz
      refine OpOk.newRow (by unfold UNK; omega) fun g ρ' w hrel => ⟨⟨repL zv.cells.toList m⟩, ?_, ?_⟩
      ·rw [← h5]
       exact LR.repL (VR.plain2 h7).cells m
      ·have rl := hrel l (by simp [ho, Op.operands])
       have rc := hrel c (by simp [ho, Op.operands])
       rw [hl] at rl; rw [hc] at rc
       have hb2 : (i.bytes : Int) * (m : Int) ≤ 281474976710656 := by
        have : i.bytes * m ≤ 65536 * 1000000 := Nat.mul_le_mul (by omega) (by omega)
        have h8 : ((i.bytes * m : Nat) : Int) ≤ 65536 * 1000000 := by omega
        rw [Int.natCast_mul] at h8
        omega
       have hcl : m * i.size ≤ m * i.size := Nat.le_refl _
       have hmk := run_make (P := P) w t e i zv (elemOfS_some he) h1 h2 k1 k2 n m (by omega) (by omega) hb2 (by omega)
       simp only [Int.toNat_natCast] at hmk
       rw [h3, ← h6, repL_made _ _ (by omega)] at hmk
       unfold execOp; rw [ho]
       simp only [rl.of_int, rc.of_int]
       show (Instr.makeSlice t (.int k1 (n : Int)) (.int k2 (m : Int)) >>= fun x => pure (Next.value x)).run P w = _
       rw [Sem.run_bind, hmk]
       rfl
     ·cases hb
    ·cases hb
   ·cases hb
  ·cases hb
theorem op_buildSlice {P : Program} {o : Oper} {T : TT} {V : Vw} {H : Hp} {t n : Nat} {ps : Array (Nat × Operand)} (ho : o.op = .buildSlice t n ps) : OpOk P o (aeval T) V H (bsA P t n (partsT ps.toList T) H) := by
  cases hb : bsA P t n (partsT ps.toList T) H with
  | bad => exact .bad
  | mk v H' W =>
    unfold bsA at hb
    split at hb
    · rename_i e he
      split at hb
      · rename_i size bytes z hz
        split at hb
        · rename_i hcond
          split at hb
          · rename_i cells hcells
            rw [← hb]
            obtain ⟨i, zv, h1, h2, h3, h4, h5, h6, h7⟩ := zeroOf_some hz
            refine OpOk.newRow (by unfold UNK; have : n * 1 ≤ n * size := Nat.mul_le_mul_left _ hcond.2; omega) fun g ρ' w hrel => ?_
            have hpr : PR g (partsT ps.toList T) (ps.map fun (i, x) => (i, ρ' x)).toList := by
              rw [partsT_eq, Array.toList_map]
              exact PR.map fun x hx => hrel x (by simp only [ho, Op.operands]; exact hx)
            unfold rowA2 at hcells
            obtain ⟨r', e1, e2⟩ := fill_LR _ _ _ hpr (x := ⟨repL z n⟩) (x' := ⟨repL z n⟩) (by rw [← h5]; exact LR.repL (VR.plain2 h7).cells n) cells hcells
            refine ⟨r', e2, ?_⟩
            have hu := elemOfS_some he
            unfold execOp; rw [ho]
            show (Instr.buildSlice t n (ps.map fun (i, x) => (i, ρ' x)) >>= fun x => pure (Next.value x)).run P w = _
            have hrow : (⟨repL z n⟩ : Array Value) = (Array.range (n * i.size)).map (zv.cells[· % zv.cells.size]!) := by
              rw [h3, ← h6, ← h5]
              exact (repL_made _ _ (by omega)).symm
            rw [hrow, ← h3] at e1
            have hsmall : ¬ n * i.size > 2 ^ 24 := by rw [h3]; have : (2:Nat) ^ 24 = 16777216 := by decide
                                                      omega
            by_cases hn : n * i.size = 0
            · have hr0 : ∀ f : Nat → Value, (Array.range 0).map f = #[] := fun f => by simp
              rw [hn, hr0] at e1
              have e1' : Instr.fill (fun j => some (j * i.size, i.size)) #[] (ps.toList.map fun x => (x.1, ρ' x.2)) = some r' := by
                rw [← e1, Array.toList_map]
              have : (Instr.buildSlice t n (ps.map fun (i, x) => (i, ρ' x))).run P w = .ok (.slice (some ⟨w.heap.size, 0, none⟩) n n) (w.alloc (.cells r' e)) := by
                simp [Instr.buildSlice, run_underlying hu, run_size h1, hn, hr0, e1', Go.newRow]
              rw [Sem.run_bind, this]
              rfl
            · rw [Sem.run_bind, run_buildSlice w t e n _ r' i zv hu h1 h2 hsmall hn e1]
              rfl
          · cases hb
        · cases hb
      · cases hb
    · cases hb
end Go.Proofs.YtfphlpglgcmljaaGreat.Ev
namespace Go.Proofs.YtfphlpglgcmljaaGreat.Ev
open Go Go.RowKit
set_option linter.unusedVariables false
theorem run_storeRow {P : Program} {b p ty : Nat} : ∀ (l : List Value) (i : Nat) (w : World) (cs : Array Value), w.heap[b]? = some (.cells cs ty (0, 0)) → l.all oneCellB = true → p + i + l.length ≤ cs.size →
    ∃ w1 cs', (storeCells ⟨b, p, none⟩ l i).run P w = .ok () w1 ∧ w1.heap[b]? = some (.cells cs' ty (0, 0)) ∧ cs'.size = cs.size ∧ (∀ j, j ≠ b → w1.heap[j]? = w.heap[j]?) ∧ w1.heap.size = w.heap.size ∧ w1.os = w.os ∧ w1.tape = w.tape ∧ w1.output = w.output ∧
      (∀ q, q < p + i → cs'[q]? = cs[q]?) ∧ (∀ q, p + i ≤ q → q < p + i + l.length → cs'[q]? = l[q - (p + i)]?) ∧ (∀ q, p + i + l.length ≤ q → cs'[q]? = cs[q]?)
  | [], i, w, cs, hb, h1, hl => ⟨w, cs, rfl, hb, rfl, fun _ _ => rfl, rfl, rfl, rfl, rfl, fun _ _ => rfl, fun q h2 h3 => by rw [List.length_nil] at h3; omega, fun _ _ => rfl⟩
  | v :: l, i, w, cs, hb, h1, hl => by
    rw [List.all_cons, Bool.and_eq_true] at h1
    rw [List.length_cons] at hl
    have hlt : p + i < cs.size := by omega
    obtain ⟨w1, cs', r1, r2, r3, r4, r5, r6, r7, r8, r9, r10, r11⟩ := run_storeRow (P := P) (b := b) (p := p) (ty := ty) l (i + 1) (w.setCell ⟨b, p + i, none⟩ v) _ (setCell_same hb) h1.2 (by simp; omega)
    refine ⟨w1, cs', ?_, r2, by rw [r3]; simp, fun j hj => by rw [r4 j hj, setCell_other hj], by rw [r5, setCell_size], r6, r7, r8, fun q hq => ?_, fun q h2 h3 => ?_, fun q hq => ?_⟩
    · show (Sem.store .plain ((Addr.mk b p none).add i) v (Go.storeCells ⟨b, p, none⟩ l (i + 1))).run P w = _
      rw [add_none, run_store h1.1 ((cell_row hb).trans (Array.getElem?_eq_getElem hlt)) (frozen_row hb)]
      exact r1
    · rw [r9 q (by omega), Array.getElem?_setIfInBounds, if_neg (by omega)]
    · by_cases e : q = p + i
      · rw [r9 q (by omega), e, Array.getElem?_setIfInBounds, if_pos rfl, if_pos hlt]
        simp
      · rw [r10 q (by omega) (by rw [List.length_cons] at h3; omega)]
        rw [show q - (p + i) = (q - (p + (i + 1))) + 1 by omega, List.getElem?_cons_succ]
    · rw [List.length_cons] at hq
      rw [r11 q (by omega), Array.getElem?_setIfInBounds, if_neg (by omega)]
theorem setRow_get : ∀ (l cells : List Value) (i q : Nat), i + l.length ≤ cells.length → (setRow cells i l)[q]? = if i ≤ q ∧ q < i + l.length then l[q - i]? else cells[q]?
 | [], cells, i, q, h => by rw [if_neg (by simp only [List.length_nil]; omega)]; rfl
 | v :: l, cells, i, q, h => by
  rw [List.length_cons] at h
  rw [setRow, setRow_get l _ (i + 1) q (by simp; omega)]
  by_cases h1 : i + 1 ≤ q ∧ q < i + 1 + l.length
  ·rw [if_pos h1, if_pos (by simp; omega), show q - i = (q - (i + 1)) + 1 by omega, List.getElem?_cons_succ]
  ·rw [if_neg h1, List.getElem?_set]
   by_cases e : i = q
   ·subst e
    rw [if_pos rfl, if_pos (by omega), if_pos (by simp)]
    simp
   ·rw [if_neg e, if_neg (by simp; omega)]
/-! what the program's append comes to -/
theorem app_types {P : Program} {t u ty e e2 : Nat} {s x : Value} {w : World} (ht : P.underlying t = some (.slice e)) (hu : P.underlying u = some (.slice e2)) : (Builtin.append_ #[t, u] ty #[s, x]).run P w = (Builtin.append_ #[t, t] ty #[s, x]).run P w := by
 have h0 : ∀ a b : Value, (#[a, b] : Array Value)[0]? = some a := fun _ _ => rfl
 have h1 : ∀ a b : Value, (#[a, b] : Array Value)[1]? = some b := fun _ _ => rfl
 have h2 : ∀ a b : Nat, (#[a, b] : Array Nat)[0]? = some a := fun _ _ => rfl
 have h3 : ∀ a b : Nat, (#[a, b] : Array Nat)[1]? = some b := fun _ _ => rfl
 unfold Builtin.append_
 simp only [h0, h1, h2, h3, Sem.run_bind, run_underlying ht, Result.andThen_ok]
 cases s <;> simp only [Sem.run_bind, run_underlying ht, run_underlying hu, Result.andThen_ok, Sem.run_pure]
structure Src (P : Program) (size n : Nat) (news : List Value) (x : Value) (w : World) : Prop where
 len : Builtin.lenOf x = pure n
 run : ∀ w1 : World, w1.heap = w.heap → (Builtin.firstCells size n x).run P w1 = .ok news.toArray w1
theorem run_app_nil {P : Program} {t ty e : Nat} {i : TypeInfo} {z : Value} {n : Nat} {news : List Value} {x : Value} {w : World} (ht : P.underlying t = some (.slice e)) (hi : P.info? e = some i) (hz : i.zero = some z) (hx : Src P i.size n news x w) (h0 : 0 < n) (h63 : n ≤ 1000000) (h48 : i.bytes ≤ 65536) :
  (Builtin.append_ #[t, t] ty #[.slice none 0 0, x]).run P w = .ok (.slice (some ⟨w.heap.size, 0, none⟩) n (grownCap w n 0 e)) (w.drew.alloc (.cells (news.toArray ++ Builtin.zeroCells z.cells (grownCap w n 0 e - n)) e)) := by
 have hn : n ≠ 0 := by omega
 have h63' : ¬ (9223372036854775807 < (n : Int)) := by omega
 have h48' : ¬ (281474976710656 < Builtin.nextslicecap n 0 * i.bytes) := by
  rw [nextslicecap_zero h0]
  have : n * i.bytes ≤ 1000000 * 65536 := Nat.mul_le_mul h63 h48
  omega
 have hf := hx.run w.drew rfl
 simp [Builtin.append_, run_underlying ht, sizeOf, typeInfo, zeroValue, hi, hz, hx.len, hn, h63', h48', Question.forced, run_firstCells_none, hf, newRow, grownCap]
theorem run_app_grow {P : Program} {t ty e : Nat} {i : TypeInfo} {z : Value} {n : Nat} {news : List Value} {x : Value} {w : World} (ht : P.underlying t = some (.slice e)) (hi : P.info? e = some i) (hz : i.zero = some z) (b : Addr) (sLen sCap : Nat) (olds : List Value)
  (ho : ∀ w1 : World, w1.heap = w.heap → (Builtin.firstCells i.size sLen (.slice (some b) sLen sCap)).run P w1 = .ok olds.toArray w1) (hx : Src P i.size n news x w) (hg : sCap < sLen + n) (h63 : sLen + n ≤ 1000000) (h48 : i.bytes ≤ 65536) :
  (Builtin.append_ #[t, t] ty #[.slice (some b) sLen sCap, x]).run P w = .ok (.slice (some ⟨w.heap.size, 0, none⟩) (sLen + n) (grownCap w (sLen + n) sCap e)) (w.drew.alloc (.cells ((olds ++ news).toArray ++ Builtin.zeroCells z.cells (grownCap w (sLen + n) sCap e - (sLen + n))) e)) := by
 have hn : ¬ (sLen + n ≤ sCap) := by omega
 have h63' : ¬ (9223372036854775807 < ((sLen : Int) + (n : Int))) := by omega
 have h48' : ¬ (281474976710656 < Builtin.nextslicecap (sLen + n) sCap * i.bytes) := by
  have := growslice_fits (need := sLen + n) (old := sCap) (bytes := i.bytes) hg (by
   have : (sLen + n) * i.bytes ≤ 1000000 * 65536 := Nat.mul_le_mul h63 h48
   omega)
  omega
 have hf := hx.run w.drew rfl
 have hfo := ho w.drew rfl
 simp [Builtin.append_, run_underlying ht, sizeOf, typeInfo, zeroValue, hi, hz, hx.len, hn, h63', h48', Question.forced, hf, hfo, newRow, grownCap]
 simp only [← List.append_toArray, Array.append_assoc]
theorem run_app_room {P : Program} {t ty e : Nat} {i : TypeInfo} {n : Nat} {news : List Value} {x : Value} {w w1 : World} (ht : P.underlying t = some (.slice e)) (hi : P.info? e = some i) (b : Addr) (sLen sCap : Nat) (hx : Src P i.size n news x w) (hr : sLen + n ≤ sCap)
  (hs : (storeCells (b.add (sLen * i.size)) news 0).run P w = .ok () w1) : (Builtin.append_ #[t, t] ty #[.slice (some b) sLen sCap, x]).run P w = .ok (.slice (some b) (sLen + n) sCap) w1 := by
 have hf := hx.run w rfl
 simp [Builtin.append_, run_underlying ht, sizeOf, typeInfo, hi, hx.len, hr, hf, hs]
theorem run_app_none {P : Program} {t ty e : Nat} {i : TypeInfo} {x : Value} {w : World} {news : List Value} (ht : P.underlying t = some (.slice e)) (hi : P.info? e = some i) (hx : Src P i.size 0 news x w) : (Builtin.append_ #[t, t] ty #[.slice none 0 0, x]).run P w = .ok (.slice none 0 0) w := by
 have hf := hx.run w rfl
 simp [Builtin.append_, run_underlying ht, sizeOf, typeInfo, hi, hx.len, hf]
theorem grownCap_ge (w : World) (need old e : Nat) : need ≤ grownCap w need old e := by
 unfold grownCap Question.cut; simp only; omega
theorem cell_heap {w w1 : World} (h : w1.heap = w.heap) (a : Addr) : w1.cell? a = w.cell? a := by unfold World.cell?; rw [h]
theorem row_run {P : Program} {g : Gh} {V : Vw} {H : Hp} {w : World} {B b o m size n cp : Nat} {bl : Blk} {a' : Addr} (hh : HR g (gt V H) w B) (hb : gt V H b = some bl) (ha : AR g ⟨b, o, none⟩ a') (hm : m = n * size) (hle : o + m ≤ bl.cells.length) :
  ∃ l', LR g ((bl.cells.drop o).take m) l' ∧ l'.length = m ∧ ∀ w1 : World, w1.heap = w.heap → (Builtin.firstCells size n (.slice (some a') n cp)).run P w1 = .ok l'.toArray w1 := by
 obtain ⟨c, cs, h1, h2, h3, h4, h5, h6⟩ := hh.row _ _ hb
 obtain ⟨c', g1, _, rfl⟩ := ha
 rw [h1] at g1
 cases g1
 have hlen : m = 0 ∨ c.s + o + m ≤ cs.size := by
  by_cases hm0 : m = 0
  ·exact .inl hm0
  ·right
   obtain ⟨v', hv, _⟩ := h6 (o + (m - 1)) (bl.cells[o + (m - 1)]'(by omega)) (List.getElem?_eq_getElem _)
   have := (Array.getElem?_eq_some_iff.1 hv).1
   omega
 have hl : ((cs.toList.drop (c.s + o)).take m).length = m := by
  rw [List.length_take, List.length_drop, Array.length_toList]
  omega
 refine ⟨(cs.toList.drop (c.s + o)).take m, ⟨?_, fun i v v' e1 e2 => ?_⟩, hl, fun w1 hw => ?_⟩
 ·rw [hl, List.length_take, List.length_drop]; omega
 ·rw [List.getElem?_take] at e1 e2
  split at e1
  ·rename_i hi
   rw [if_pos hi, List.getElem?_drop] at e2
   rw [List.getElem?_drop] at e1
   obtain ⟨u, hu, hr⟩ := h6 _ _ e1
   rw [← Nat.add_assoc] at hu
   have e3 : cs[c.s + o + i]? = some v' := by simpa using e2
   rw [hu] at e3
   cases e3
   exact hr
  ·cases e1
 ·refine run_firstCells_some (P := P) w1 size n _ n cp _ (by rw [hl, hm]) fun j v e1 => ?_
  rw [add_none, cell_heap hw, cell_row h2]
  rw [List.getElem?_take] at e1
  split at e1
  ·rw [List.getElem?_drop] at e1
   simpa using e1
  ·cases e1
theorem src_of {P : Program} {g : Gh} {V : Vw} {H : Hp} {w : World} {B size n : Nat} {x x' : Value} {news : List Value} (hh : HR g (gt V H) w B) (hr : rowA V H size x = some news) (hl : lenA x = some n) (hx : VR g x x') (hlen : news.length = n * size) :
  ∃ news', LR g news news' ∧ news'.length = n * size ∧ Src P size n news' x' w := by
 unfold rowA at hr
 split at hr
 ·rename_i k c
  cases hr
  cases hl
  have hn : n * size = 0 := by rw [← hlen]; rfl
  rw [hx.eq1 rfl]
  exact ⟨[], LR.nil g, by rw [hn]; rfl, ⟨rfl, fun w1 _ => rfl⟩⟩
 ·rename_i b o k c
  cases hl
  split at hr
  ·rename_i bl hb
   split at hr
   ·rename_i hle
    cases hr
    obtain ⟨a', c', rfl, ha⟩ : ∃ a' c', x' = .slice (some a') n c' ∧ AR g ⟨b, o, none⟩ a' := by
     cases hx with
     | plain h => simp [plain1] at h
     | sl h _ => exact ⟨_, _, rfl, h⟩
     | su _ h _ _ => exact ⟨_, _, rfl, h⟩
    obtain ⟨l', h1, h2, h3⟩ := row_run (P := P) (cp := c') hh hb ha rfl hle
    exact ⟨l', h1, h2, ⟨rfl, h3⟩⟩
   ·cases hr
  ·cases hr
 ·cases hr
theorem app_new {V : Vw} {H : Hp} {B e size need cap : Nat} {g : Gh} {w : World} {cells l' : List Value} {z : Value} (hh : HR g (gt V H) w B) (hB : B ≤ w.heap.size) (hf : g H.next = none) (hm : H.next < MOST) (hl : LR g cells l') (hlen : l'.length = need * size) (hz : z.cells.size = size) (hcap : need ≤ cap) :
  ∃ g', VR g' (.slice (some ⟨H.next, 0, none⟩) need UNK) (.slice (some ⟨w.heap.size, 0, none⟩) need cap) ∧ After V H (H.add ⟨e, size, cells⟩) [] B g w g' (w.drew.alloc (.cells (l'.toArray ++ Builtin.zeroCells z.cells (cap - need)) e)) := by
 have hsz : (l'.toArray ++ Builtin.zeroCells z.cells (cap - need)).size = cap * size := by
  rw [Array.size_append, size_zeroCells, hz, List.size_toArray, hlen, ← Nat.add_mul]
  rw [show need + (cap - need) = cap by omega]
 refine ⟨_, ?_, After.new1 (esz := size) (s := 0) (cs := l'.toArray ++ Builtin.zeroCells z.cells (cap - need)) hh hB hf hm (fun k v hk => ?_) rfl rfl rfl rfl⟩
 ·exact .su (cf := ⟨w.heap.size, 0, _, size⟩) (by unfold withNew; rw [if_pos rfl]) ⟨_, by unfold withNew; rw [if_pos rfl], rfl, rfl⟩ hcap (by simp only [hsz]; omega)
 ·obtain ⟨v', h1, h2⟩ := hl.at hk
  refine ⟨v', ?_, h2⟩
  have hlt : k < l'.length := (List.getElem?_eq_some_iff.1 h1).1
  rw [Nat.zero_add, Array.getElem?_append, if_pos (by simpa using hlt)]
  simpa using h1
theorem appT_some {P : Program} {t e size : Nat} (h : appT P t = some (e, size)) : ∃ i z, P.underlying t = some (.slice e) ∧ P.info? e = some i ∧ i.zero = some z ∧ i.size = size ∧ z.cells.size = size ∧ 0 < size ∧ i.bytes ≤ 65536 := by
 unfold appT at h
 split at h
 ·rename_i e' hu
  split at h
  ·rename_i i hi
   split at h
   ·rename_i z hz
    split at h
    ·rename_i hc
     cases h
     exact ⟨i, z, hu, hi, hz, rfl, hc.1, hc.2.1, hc.2.2⟩
    ·cases h
   ·cases h
  ·cases h
 ·cases h
theorem app_room {V : Vw} {H : Hp} {B e size b o : Nat} {g : Gh} {w w1 : World} {bl : Blk} {c : Cf} {cs cs' : Array Value} {news news' : List Value} (hh : HR g (gt V H) w B) (hwf : WFH H) (hf : g H.next = none) (hm : H.next < MOST) (hb : gt V H b = some bl)
  (h1 : g b = some c) (h2 : w.heap[c.b]? = some (.cells cs bl.ty (0, 0))) (h3 : cs.size = c.n) (h4 : c.e = bl.esz) (h5 : B ≤ c.b) (h6 : ∀ (k : Nat) (v : Value), bl.cells[k]? = some v → ∃ v', cs[c.s + k]? = some v' ∧ VR g v v')
  (hty : bl.ty = e) (hesz : bl.esz = size) (hn : LR g news news') (ho : o ≤ bl.cells.length)
  (r2 : w1.heap[c.b]? = some (.cells cs' bl.ty (0, 0))) (r3 : cs'.size = cs.size) (r4 : ∀ j, j ≠ c.b → w1.heap[j]? = w.heap[j]?) (r5 : w1.heap.size = w.heap.size) (r6 : w1.os = w.os) (r7 : w1.tape = w.tape) (r8 : w1.output = w.output)
  (r9 : ∀ q, q < c.s + bl.cells.length → cs'[q]? = cs[q]?) (r10 : ∀ q, c.s + bl.cells.length ≤ q → q < c.s + bl.cells.length + news'.length → cs'[q]? = news'[q - (c.s + bl.cells.length)]?) :
  After V H ((H.add ⟨e, size, bl.cells.drop o ++ news⟩).set b none) [b] B g w (withNew g H.next ⟨c.b, c.s + o, c.n, size⟩) w1 := by
 have hbg : H.tr.get b ≠ none := by rw [(gt_some hb).2]; simp
 have hbn : b < H.next := hwf b hbg
 have hget : ∀ j, gt V ((H.add ⟨e, size, bl.cells.drop o ++ news⟩).set b none) j = if j = b then none else if j = H.next then (if V.see j = true then some ⟨e, size, bl.cells.drop o ++ news⟩ else none) else gt V H j := by
  intro j
  rw [gt_def, gt_def, get_set (by rw [get_add hm, if_neg (by omega)]; exact hbg), get_add hm]
  by_cases e1 : j = b
  ·rw [if_pos e1, if_pos e1, ite_self]
  ·rw [if_neg e1, if_neg e1]
   by_cases e2 : j = H.next
   ·rw [if_pos e2, if_pos e2]
   ·rw [if_neg e2, if_neg e2]
 have hs := withNew_sub (c := ⟨c.b, c.s + o, c.n, size⟩) hf
 have hnew : withNew g H.next ⟨c.b, c.s + o, c.n, size⟩ H.next = some ⟨c.b, c.s + o, c.n, size⟩ := by unfold withNew; rw [if_pos rfl]
 have hold : ∀ j, j ≠ H.next → withNew g H.next ⟨c.b, c.s + o, c.n, size⟩ j = g j := fun j hj => by unfold withNew; rw [if_neg hj]
 refine ⟨hs, fun i hi => ?_, ⟨fun j bl' hj => ?_, fun j j' bj bj' cj cj' hj hj' gj gj' hbb => ?_⟩, r6, r7, r8, by rw [r5]; exact Nat.le_refl _, fun k hk hkn => ?_, fun i ci hi1 hi2 hci => ?_, fun i hi => ?_⟩
 ·have : ((H.add ⟨e, size, bl.cells.drop o ++ news⟩).set b none).next = H.next + 1 := rfl
  exact hold i (by omega)
 ·rw [hget] at hj
  split at hj
  ·cases hj
  ·rename_i hjb
   split at hj
   ·rename_i hjn
    split at hj
    ·cases hj
     refine ⟨⟨c.b, c.s + o, c.n, size⟩, cs', by rw [hjn]; exact hnew, by rw [← hty]; exact r2, by rw [r3]; exact h3, rfl, h5, fun k v hk => ?_⟩
     rw [List.getElem?_append] at hk
     split at hk
     ·rename_i hkl
      rw [List.length_drop] at hkl
      rw [List.getElem?_drop] at hk
      obtain ⟨v', e1, e2⟩ := h6 _ _ hk
      refine ⟨v', ?_, e2.mono hs⟩
      show cs'[c.s + o + k]? = some v'
      rw [r9 _ (by omega), Nat.add_assoc]; exact e1
     ·rename_i hkl
      rw [List.length_drop] at hkl hk
      obtain ⟨v', e1, e2⟩ := hn.at hk
      have hlt := (List.getElem?_eq_some_iff.1 e1).1
      refine ⟨v', ?_, e2.mono hs⟩
      show cs'[c.s + o + k]? = some v'
      rw [r10 _ (by omega) (by omega), show c.s + o + k - (c.s + bl.cells.length) = k - (bl.cells.length - o) by omega]
      exact e1
    ·cases hj
   ·rename_i hjn
    obtain ⟨cj, csj, g1, g2, g3, g4, g5, g6⟩ := hh.row j bl' hj
    refine ⟨cj, csj, hs _ _ g1, ?_, g3, g4, g5, fun k v hk => ?_⟩
    ·rw [r4 _ (fun hbb => hjb (hh.inj j b bl' bl cj c hj hb g1 h1 hbb))]
     exact g2
    ·obtain ⟨v', e1, e2⟩ := g6 k v hk
     exact ⟨v', e1, e2.mono hs⟩
 ·have key : ∀ q bq cq, gt V ((H.add ⟨e, size, bl.cells.drop o ++ news⟩).set b none) q = some bq → withNew g H.next ⟨c.b, c.s + o, c.n, size⟩ q = some cq → (q = H.next ∧ cq.b = c.b) ∨ (q ≠ H.next ∧ q ≠ b ∧ gt V H q = some bq ∧ g q = some cq) := by
   intro q bq cq e1 e2
   rw [hget] at e1
   by_cases hq : q = H.next
   ·rw [hq, hnew] at e2; cases e2; exact .inl ⟨hq, rfl⟩
   ·rw [hold q hq] at e2
    by_cases hqb : q = b
    ·rw [if_pos hqb] at e1; cases e1
    ·rw [if_neg hqb, if_neg hq] at e1; exact .inr ⟨hq, hqb, e1, e2⟩
  rcases key j bj cj hj gj with ⟨a1, a2⟩ | ⟨a1, a2, a3, a4⟩ <;> rcases key j' bj' cj' hj' gj' with ⟨b1, b2⟩ | ⟨b1, b2, b3, b4⟩
  ·rw [a1, b1]
  ·exact absurd (hh.inj j' b bj' bl cj' c b3 hb b4 h1 (by omega)) b2
  ·exact absurd (hh.inj j b bj bl cj c a3 hb a4 h1 (by omega)) a2
  ·exact hh.inj j j' bj bj' cj cj' a3 b3 a4 b4 hbb
 ·exact r4 k fun e1 => hkn b (by simp) c (hs _ _ h1) e1.symm
 ·have h7 : i < H.next + 1 := hi2
  have : i = H.next := by omega
  rw [this, hnew] at hci
  cases hci
  exact .inr ⟨b, by simp, c, h1, rfl⟩
 ·rw [List.mem_singleton] at hi
  rw [hi]
  exact ⟨c, hs _ _ h1, h5⟩
theorem app_in {V : Vw} {H : Hp} {B p b : Nat} {g : Gh} {w w1 : World} {bl : Blk} {c : Cf} {cs cs' : Array Value} {news news' : List Value} (hh : HR g (gt V H) w B) (hb : gt V H b = some bl)
  (h1 : g b = some c) (h2 : w.heap[c.b]? = some (.cells cs bl.ty (0, 0))) (h3 : cs.size = c.n) (h4 : c.e = bl.esz) (h5 : B ≤ c.b) (h6 : ∀ (k : Nat) (v : Value), bl.cells[k]? = some v → ∃ v', cs[c.s + k]? = some v' ∧ VR g v v') (hn : LR g news news') (hp : p + news.length ≤ bl.cells.length)
  (r2 : w1.heap[c.b]? = some (.cells cs' bl.ty (0, 0))) (r3 : cs'.size = cs.size) (r4 : ∀ j, j ≠ c.b → w1.heap[j]? = w.heap[j]?) (r5 : w1.heap.size = w.heap.size) (r6 : w1.os = w.os) (r7 : w1.tape = w.tape) (r8 : w1.output = w.output)
  (r9 : ∀ q, q < c.s + p → cs'[q]? = cs[q]?) (r10 : ∀ q, c.s + p ≤ q → q < c.s + p + news'.length → cs'[q]? = news'[q - (c.s + p)]?) (r11 : ∀ q, c.s + p + news'.length ≤ q → cs'[q]? = cs[q]?) :
  After V H (H.set b (some ⟨bl.ty, bl.esz, setRow bl.cells p news⟩)) [b] B g w g w1 := by
 have hbg : H.tr.get b ≠ none := by rw [(gt_some hb).2]; simp
 have hget : ∀ j, gt V (H.set b (some ⟨bl.ty, bl.esz, setRow bl.cells p news⟩)) j = if j = b then some ⟨bl.ty, bl.esz, setRow bl.cells p news⟩ else gt V H j := by
  intro j
  rw [gt_def, gt_def, get_set hbg]
  by_cases e : j = b
  ·rw [if_pos e, if_pos e, e, if_pos (gt_some hb).1]
  ·rw [if_neg e, if_neg e]
 refine ⟨Sub.refl g, fun i hi => rfl, ⟨fun j bl' hj => ?_, fun j j' bj bj' cj cj' hj hj' gj gj' hbb => ?_⟩, r6, r7, r8, by rw [r5]; exact Nat.le_refl _, fun k hk hkn => ?_, fun i ci hi1 hi2 hci => ?_, fun i hi => ?_⟩
 ·rw [hget] at hj
  by_cases e : j = b
  ·rw [if_pos e] at hj
   cases hj
   refine ⟨c, cs', by rw [e]; exact h1, r2, by rw [r3]; exact h3, h4, h5, fun k v hk => ?_⟩
   simp only at hk
   rw [setRow_get _ _ _ _ hp] at hk
   split at hk
   ·rename_i hkk
    obtain ⟨v', e1, e2⟩ := hn.at hk
    refine ⟨v', ?_, e2⟩
    have hl := hn.1
    rw [r10 _ (by omega) (by omega), show c.s + k - (c.s + p) = k - p by omega]
    exact e1
   ·rename_i hkk
    obtain ⟨v', e1, e2⟩ := h6 k v hk
    refine ⟨v', ?_, e2⟩
    have hl := hn.1
    by_cases hkp : k < p
    ·rw [r9 _ (by omega)]; exact e1
    ·rw [r11 _ (by omega)]; exact e1
  ·rw [if_neg e] at hj
   obtain ⟨cj, csj, g1, g2, g3, g4, g5, g6⟩ := hh.row j bl' hj
   refine ⟨cj, csj, g1, ?_, g3, g4, g5, g6⟩
   rw [r4 _ (fun hbb => e (hh.inj j b bl' bl cj c hj hb g1 h1 hbb))]
   exact g2
 ·have hx : ∀ q bq, gt V (H.set b (some ⟨bl.ty, bl.esz, setRow bl.cells p news⟩)) q = some bq → ∃ b', gt V H q = some b' := by
   intro q bq hq
   rw [hget] at hq
   by_cases e : q = b
   ·exact ⟨bl, by rw [e]; exact hb⟩
   ·rw [if_neg e] at hq; exact ⟨bq, hq⟩
  obtain ⟨b1, e1⟩ := hx j bj hj
  obtain ⟨b2, e2⟩ := hx j' bj' hj'
  exact hh.inj j j' b1 b2 cj cj' e1 e2 gj gj' hbb
 ·exact r4 k fun e1 => hkn b (by simp) c h1 e1.symm
 ·have : (H.set b (some ⟨bl.ty, bl.esz, setRow bl.cells p news⟩)).next = H.next := rfl
  omega
 ·rw [List.mem_singleton] at hi
  rw [hi]
  exact ⟨c, h1, h5⟩
theorem Evo.set {V : Vw} {H : Hp} {b : Nat} {x : Option Blk} (hb : H.tr.get b ≠ none) (hv : V.see b = true) : Evo V H (H.set b x) [b] :=
 ⟨Nat.le_refl _, fun i hi hn => by rw [get_set hb, if_neg (by simpa using hn)], fun hw => ⟨fun i hi => by
  rw [get_set hb] at hi
  by_cases e : i = b
  ·rw [e]; exact hw b hb
  ·rw [if_neg e] at hi; exact hw i hi, fun i hi => by rw [List.mem_singleton] at hi; rw [hi]; exact hw b hb⟩, fun i hi => by rw [List.mem_singleton] at hi; rw [hi]; exact hv, fun i hi h => by
  rw [get_set hb] at h
  by_cases e : i = b
  ·rw [e]; exact hb
  ·rw [if_neg e] at h; exact h, fun i hi hl => by rw [List.mem_singleton] at hi; rw [hi]; exact hb⟩
theorem Evo.app {V : Vw} {H : Hp} {b : Nat} {bl : Blk} (hm : H.next < MOST) (hb : H.tr.get b ≠ none) (hv : V.see b = true) : Evo V H ((H.add bl).set b none) [b] := by
 have hb2 : (H.add bl).tr.get b ≠ none := by
  rw [get_add hm]
  split
  ·simp
  ·exact hb
 have := (Evo.new (V := V) (b := bl) hm).trans (Evo.set (H := H.add bl) (b := b) (x := none) hb2 hv)
 simpa using this
theorem After.drop {V : Vw} {H H1 : Hp} {W : List Nat} {B b : Nat} {g g' : Gh} {w w' : World} (a : After V H H1 W B g w g' w') (hb : H1.tr.get b ≠ none) (hc : ∃ c, g' b = some c ∧ B ≤ c.b) : After V H (H1.set b none) (b :: W) B g w g' w' := by
 refine ⟨a.sub, a.ext, a.hr.sub fun i bl hi => ?_, a.os, a.tape, a.output, a.size, fun k hk hn => a.frame k hk fun i hi => hn i (by simp [hi]), fun i c h1 h2 h3 => (a.new i c h1 h2 h3).imp id fun ⟨j, hj, r⟩ => ⟨j, by simp [hj], r⟩, fun i hi => ?_⟩
 ·rw [gt_def, get_set hb] at hi
  rw [gt_def]
  by_cases e : i = b
  ·rw [if_pos e, ite_self] at hi; cases hi
  ·rw [if_neg e] at hi; exact hi
 ·rcases List.mem_cons.1 hi with hi | hi
  ·rw [hi]; exact hc
  ·exact a.wb i hi
theorem sliceT_some {P : Program} {t : Nat} (h : sliceT P t = true) : ∃ e, P.underlying t = some (.slice e) := by
 unfold sliceT at h
 split at h
 ·exact ⟨_, by assumption⟩
 ·cases h
set_option maxHeartbeats 1000000 in
theorem op_append {P : Program} {o : Oper} {ρ : Operand → Value} {V : Vw} {H : Hp} {c : Call} {t t2 : Nat} {s x : Operand} (ho : o.op = .call c) (hc : c.callee = .builtin .append) (ht : c.argTypes.toList = [t, t2]) (hx : c.args.toList = [s, x]) : OpOk P o ρ V H (appendA P V t t2 (ρ s) (ρ x) H) := by
  intro v H' W hv _ _
  unfold appendA at hv
  split at hv
  case h_2 => cases hv
  rename_i e size hT hS
  obtain ⟨i, z, hu, hi, hz, hsz, hzs, hpos, hby⟩ := appT_some hT
  obtain ⟨e2, hu2⟩ := sliceT_some hS
  split at hv
  case h_2 => cases hv
  rename_i news n hrow hlen
  split at hv
  case isFalse => cases hv
  rename_i hcond
  obtain ⟨hone, hnl⟩ := hcond
  -- what the operation comes to in the world
  have hexec : ∀ (ρ' : Operand → Value) (w w' : World) (u : Value), (Builtin.append_ #[t, t] o.type #[ρ' s, ρ' x]).run P w = .ok u w' → (execOp ρ' o).run P w = .ok (.value u) w' := by
    intro ρ' w w' u hr
    obtain ⟨callee, args, types⟩ := c
    simp only at hc ht hx
    subst hc
    obtain rfl : types = #[t, t2] := Array.toList_inj.1 ht
    obtain rfl : args = #[s, x] := Array.toList_inj.1 hx
    unfold execOp; rw [ho]
    show (Builtin.append_ #[t, t2] o.type ((#[s, x] : Array Operand).map ρ') >>= fun x => pure (Next.value x)).run P w = _
    rw [show (#[s, x] : Array Operand).map ρ' = #[ρ' s, ρ' x] by simp, Sem.run_bind, app_types hu hu2, hr]
    rfl
  have hrels : ∀ (g : Gh) (ρ' : Operand → Value), (∀ y, y ∈ o.op.operands.toList → VR g (ρ y) (ρ' y)) → VR g (ρ s) (ρ' s) ∧ VR g (ρ x) (ρ' x) := by
    intro g ρ' h
    have hm : ∀ y, y ∈ c.args.toList → y ∈ o.op.operands.toList := fun y hy => by
      simp only [ho, Op.operands, Call.operands, Array.toList_append, List.mem_append]; exact .inr hy
    exact ⟨h s (hm s (by rw [hx]; simp)), h x (hm x (by rw [hx]; simp))⟩
  split at hv
  · -- nil
    rename_i l cp hs0
    split at hv
    case isFalse => cases hv
    rename_i hc0
    obtain ⟨rfl, rfl, hn6⟩ := hc0
    split at hv
    · rename_i hn0
      cases hv
      refine ⟨Evo.refl V H, fun g a w B hrel hh hB ht' hwf hf next Q hn => ?_⟩
      obtain ⟨rs, rx⟩ := hrels g a.eval hrel
      obtain ⟨news', h1, h2, h3⟩ := src_of (P := P) hh hrow hlen rx hnl
      rw [hs0] at rs
      have rs' := rs.eq1 rfl
      subst hn0
      rw [← hsz] at h3
      have hr := run_app_none (ty := o.type) hu hi h3
      unfold Oper.wp
      rw [hexec a.eval w w _ (by rw [rs']; exact hr)]
      exact hn g _ w (by rw [hs0]; exact .plain rfl) (After.refl hh)
    · rename_i hn0
      unfold newBlk at hv
      split at hv
      case isFalse => cases hv
      rename_i hm
      cases hv
      refine ⟨Evo.new hm, fun g a w B hrel hh hB ht' hwf hf next Q hn => ?_⟩
      obtain ⟨rs, rx⟩ := hrels g a.eval hrel
      obtain ⟨news', h1, h2, h3⟩ := src_of (P := P) hh hrow hlen rx hnl
      rw [hs0] at rs
      have rs' := rs.eq1 rfl
      rw [← hsz] at h3
      have hr := run_app_nil (ty := o.type) hu hi hz h3 (by omega) hn6 hby
      have hfr : g H.next = none := hf _ (Nat.le_refl _) (by show H.next < H.next + 1; omega)
      obtain ⟨g', e1, e2⟩ := app_new (e := e) (cap := grownCap w n 0 e) (need := n) hh hB hfr hm h1 h2 hzs (grownCap_ge _ _ _ _)
      unfold Oper.wp
      rw [hexec a.eval w _ _ (by rw [rs']; exact hr)]
      exact hn g' _ _ e1 e2
  · -- a slice
    rename_i b off l cp hs0
    split at hv
    case isFalse => cases hv
    rename_i hln
    split at hv
    · rename_i hcp
      subst hcp
      unfold appU at hv
      split at hv
      case h_2 => cases hv
      rename_i bl hb
      have hbg : H.tr.get b ≠ none := by rw [(gt_some hb).2]; simp
      split at hv
      · rename_i hn0
        cases hv
        refine ⟨Evo.refl V H, fun g a w B hrel hh hB ht' hwf hf next Q hn => ?_⟩
        obtain ⟨rs, rx⟩ := hrels g a.eval hrel
        obtain ⟨news', h1, h2, h3⟩ := src_of (P := P) hh hrow hlen rx hnl
        rw [hs0] at rs
        subst hn0
        have hnil : news' = [] := List.eq_nil_of_length_eq_zero (by rw [h2, Nat.zero_mul])
        subst hnil
        rw [← hsz] at h3
        generalize hus : a.eval s = us at rs
        cases rs with
        | plain h => simp [plain1] at h
        | sl h hc => exact absurd rfl hc
        | su hg ha hle hcap =>
          rename_i a' c' cf
          have hr := run_app_room (ty := o.type) (w1 := w) hu hi a' l c' h3 (by omega) rfl
          unfold Oper.wp
          rw [hexec a.eval w w _ (by rw [hus]; exact hr)]
          exact hn g _ w (.su hg ha hle hcap) (After.refl hh)
      · rename_i hn0
        split at hv
        case isFalse => cases hv
        rename_i hcu
        obtain ⟨hesz, hty, htip, _⟩ := hcu
        unfold newBlk at hv
        by_cases hm : H.next < MOST
        case neg => rw [if_neg hm] at hv; cases hv
        rw [if_pos hm] at hv
        cases hv
        refine ⟨Evo.app hm hbg (gt_some hb).1, fun g a w B hrel hh hB ht' hwf hf next Q hn => ?_⟩
        obtain ⟨rs, rx⟩ := hrels g a.eval hrel
        obtain ⟨news', h1, h2, h3⟩ := src_of (P := P) hh hrow hlen rx hnl
        rw [hs0] at rs
        rw [← hsz] at h3
        have hfr : g H.next = none := hf _ (Nat.le_refl _) (by show H.next < H.next + 1; omega)
        have hbn : b < H.next := hwf b hbg
        generalize hus : a.eval s = us at rs
        cases rs with
        | plain h => simp [plain1] at h
        | sl h hc => exact absurd rfl hc
        | su hg ha hle hcap =>
          rename_i a' c' cf
          obtain ⟨cr, cs, g1, g2, g3, g4, g5, g6⟩ := hh.row _ _ hb
          have hg' : g b = some cf := hg
          rw [g1] at hg'
          have hcrf : cr = cf := by simpa using hg'
          subst hcrf
          obtain ⟨cr', g7, _, ha'⟩ := ha
          have g7' : g b = some cr' := g7
          rw [g1] at g7'
          have hcrf : cr = cr' := by simpa using g7'
          subst hcrf
          have ha'' : a' = ⟨cr.b, cr.s + off, none⟩ := ha'
          have hcap' : cr.s + off + c' * cr.e ≤ cr.n := hcap
          rw [g4, hesz] at hcap'
          by_cases hroom : l + n ≤ c'
          · -- in place
            have hmul : (l + n) * size ≤ c' * size := Nat.mul_le_mul_right _ hroom
            rw [Nat.add_mul] at hmul
            have hone' : news'.all oneCellB = true := List.all_eq_true.2 fun u hu' => by
              obtain ⟨k, hk, rfl⟩ := List.getElem_of_mem hu'
              have hk2 : k < news.length := by rw [h1.1]; exact hk
              exact (h1.2 k news[k] news'[k] (List.getElem?_eq_getElem hk2) (List.getElem?_eq_getElem hk)).oneCell ((List.all_eq_true.1 hone) _ (List.getElem_mem hk2))
            obtain ⟨w1, cs', r1, r2, r3, r4, r5, r6, r7, r8, r9, r10, r11⟩ := run_storeRow (P := P) (b := cr.b) (p := cr.s + bl.cells.length) (ty := bl.ty) news' 0 w cs g2 hone' (by rw [g3, h2]; omega)
            have hst : (storeCells (a'.add (l * i.size)) news' 0).run P w = .ok () w1 := by
              rw [ha'', add_none, hsz, show cr.s + off + l * size = cr.s + bl.cells.length by omega]
              exact r1
            have hr := run_app_room (ty := o.type) hu hi a' l c' h3 hroom hst
            have haf := app_room (o := off) hh hwf hfr hm hb g1 g2 g3 g4 g5 g6 hty hesz h1 (by omega) r2 r3 r4 r5 r6 r7 r8 (fun q hq => r9 q (by omega)) (fun q q1 q2 => r10 q (by omega) (by omega))
            unfold Oper.wp
            rw [hexec a.eval w w1 _ (by rw [hus]; exact hr)]
            refine hn _ _ w1 (.su (cf := ⟨cr.b, cr.s + off, cr.n, size⟩) (by unfold withNew; rw [if_pos rfl]) ⟨_, by unfold withNew; rw [if_pos rfl], rfl, ?_⟩ hroom ?_) haf
            · rw [ha'']; rfl
            · show cr.s + off + 0 + c' * size ≤ cr.n
              omega
          · -- in a new row
            obtain ⟨l', f1, f2, f3⟩ := row_run (P := P) (n := l) (m := l * size) (cp := c') hh hb (⟨cr, g1, rfl, ha''⟩ : AR g ⟨b, off, none⟩ a') rfl (by omega)
            have hr := run_app_grow (ty := o.type) hu hi hz a' l c' l' (by rw [hsz]; exact f3) h3 (by omega) hln hby
            have hall : LR g (bl.cells.drop off ++ news) (l' ++ news') := by
              have : (bl.cells.drop off).take (l * size) = bl.cells.drop off := List.take_of_length_le (by rw [List.length_drop]; omega)
              rw [this] at f1
              exact f1.append h1
            obtain ⟨g', e1, e2⟩ := app_new (e := e) (cap := grownCap w (l + n) c' e) (need := l + n) hh hB hfr hm hall (by rw [List.length_append, f2, h2, Nat.add_mul]) hzs (grownCap_ge _ _ _ _)
            unfold Oper.wp
            rw [hexec a.eval w _ _ (by rw [hus]; exact hr)]
            refine hn g' _ _ e1 (e2.drop ?_ ⟨cr, e2.sub _ _ g1, g5⟩)
            rw [get_add hm, if_neg (by omega)]; exact hbg
    · rename_i hcp
      unfold appK at hv
      split at hv
      case h_2 => cases hv
      rename_i bl hb
      have hbg : H.tr.get b ≠ none := by rw [(gt_some hb).2]; simp
      split at hv
      · rename_i hroom
        split at hv
        case isFalse => cases hv
        rename_i hfit
        cases hv
        refine ⟨Evo.set hbg (gt_some hb).1, fun g a w B hrel hh hB ht' hwf hf next Q hn => ?_⟩
        obtain ⟨rs, rx⟩ := hrels g a.eval hrel
        obtain ⟨news', h1, h2, h3⟩ := src_of (P := P) hh hrow hlen rx hnl
        rw [hs0] at rs
        rw [← hsz] at h3
        generalize hus : a.eval s = us at rs
        cases rs with
        | plain h => simp [plain1] at h
        | su hg ha hle hcap => exact absurd rfl hcp
        | sl ha hc' =>
          rename_i a'
          obtain ⟨cr, cs, g1, g2, g3, g4, g5, g6⟩ := hh.row _ _ hb
          obtain ⟨cr', g7, _, ha''⟩ := ha
          have g7' : g b = some cr' := g7
          rw [g1] at g7'
          have hcrf : cr = cr' := by simpa using g7'
          subst hcrf
          have ha2 : a' = ⟨cr.b, cr.s + off, none⟩ := ha''
          rw [Nat.add_mul] at hfit
          have hone' : news'.all oneCellB = true := List.all_eq_true.2 fun u hu' => by
            obtain ⟨k, hk, rfl⟩ := List.getElem_of_mem hu'
            have hk2 : k < news.length := by rw [h1.1]; exact hk
            exact (h1.2 k news[k] news'[k] (List.getElem?_eq_getElem hk2) (List.getElem?_eq_getElem hk)).oneCell ((List.all_eq_true.1 hone) _ (List.getElem_mem hk2))
          have hrowfit : cr.s + (off + l * size) + 0 + news'.length ≤ cs.size ∨ news' = [] := by
            by_cases hnn : news' = []
            · exact .inr hnn
            · left
              have hnp : 0 < news'.length := List.length_pos_iff.2 hnn
              have hlt : off + l * size + news'.length - 1 < bl.cells.length := by rw [h2] at hnp ⊢; omega
              obtain ⟨v', hv', _⟩ := g6 (off + l * size + news'.length - 1) bl.cells[off + l * size + news'.length - 1] (List.getElem?_eq_getElem hlt)
              have := (Array.getElem?_eq_some_iff.1 hv').1
              omega
          have hst : ∃ w1 cs', (storeCells ⟨cr.b, cr.s + (off + l * size), none⟩ news' 0).run P w = .ok () w1 ∧ w1.heap[cr.b]? = some (.cells cs' bl.ty (0, 0)) ∧ cs'.size = cs.size ∧ (∀ j, j ≠ cr.b → w1.heap[j]? = w.heap[j]?) ∧ w1.heap.size = w.heap.size ∧ w1.os = w.os ∧ w1.tape = w.tape ∧ w1.output = w.output ∧
              (∀ q, q < cr.s + (off + l * size) + 0 → cs'[q]? = cs[q]?) ∧ (∀ q, cr.s + (off + l * size) + 0 ≤ q → q < cr.s + (off + l * size) + 0 + news'.length → cs'[q]? = news'[q - (cr.s + (off + l * size) + 0)]?) ∧ (∀ q, cr.s + (off + l * size) + 0 + news'.length ≤ q → cs'[q]? = cs[q]?) := by
            rcases hrowfit with hfit2 | hnil
            · exact run_storeRow (P := P) (b := cr.b) (p := cr.s + (off + l * size)) (ty := bl.ty) news' 0 w cs g2 hone' hfit2
            · subst hnil
              exact ⟨w, cs, rfl, g2, rfl, fun _ _ => rfl, rfl, rfl, rfl, rfl, fun _ _ => rfl, fun q q1 q2 => by rw [List.length_nil] at q2; omega, fun _ _ => rfl⟩
          obtain ⟨w1, cs', r1, r2, r3, r4, r5, r6, r7, r8, r9, r10, r11⟩ := hst
          have hst2 : (storeCells (a'.add (l * i.size)) news' 0).run P w = .ok () w1 := by
            rw [ha2, add_none, hsz, show cr.s + off + l * size = cr.s + (off + l * size) by omega]
            exact r1
          have hr := run_app_room (ty := o.type) hu hi a' l cp h3 hroom hst2
          have haf := app_in (p := off + l * size) hh hb g1 g2 g3 g4 g5 g6 h1 (by rw [hnl]; omega) r2 r3 r4 r5 r6 r7 r8 r9 r10 r11
          unfold Oper.wp
          rw [hexec a.eval w w1 _ (by rw [hus]; exact hr)]
          exact hn g _ w1 (.sl ⟨cr, g1, rfl, ha2⟩ hc') haf
      · rename_i hroom
        split at hv
        case isFalse => cases hv
        rename_i hfit
        unfold newBlk at hv
        by_cases hm : H.next < MOST
        case neg => rw [if_neg hm] at hv; cases hv
        rw [if_pos hm] at hv
        cases hv
        refine ⟨Evo.new hm, fun g a w B hrel hh hB ht' hwf hf next Q hn => ?_⟩
        obtain ⟨rs, rx⟩ := hrels g a.eval hrel
        obtain ⟨news', h1, h2, h3⟩ := src_of (P := P) hh hrow hlen rx hnl
        rw [hs0] at rs
        rw [← hsz] at h3
        have hfr : g H.next = none := hf _ (Nat.le_refl _) (by show H.next < H.next + 1; omega)
        generalize hus : a.eval s = us at rs
        cases rs with
        | plain h => simp [plain1] at h
        | su hg ha hle hcap => exact absurd rfl hcp
        | sl ha hc' =>
          rename_i a'
          obtain ⟨l', f1, f2, f3⟩ := row_run (P := P) (n := l) (m := l * size) (cp := cp) hh hb ha rfl hfit
          have hr := run_app_grow (ty := o.type) hu hi hz a' l cp l' (by rw [hsz]; exact f3) h3 (by omega) hln hby
          obtain ⟨g', e1, e2⟩ := app_new (e := e) (cap := grownCap w (l + n) cp e) (need := l + n) hh hB hfr hm (f1.append h1) (by rw [List.length_append, f2, h2, Nat.add_mul]) hzs (grownCap_ge _ _ _ _)
          unfold Oper.wp
          rw [hexec a.eval w _ _ (by rw [hus]; exact hr)]
          exact hn g' _ _ e1 e2
  · cases hv
end Go.Proofs.YtfphlpglgcmljaaGreat.Ev
