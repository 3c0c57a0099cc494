/- Part of the proof of stopwatch_explores_proved: Sxa. -/
import Derived.OrdersIn
import Derived.RangeFuncCalls
import Derived.KernelRfl
import Derived.WalkKit
import Derived.Below
namespace Go.Proofs.Ytokljoajalmkfaa
open Go Go.RowKit
set_option linter.unusedVariables false
set_option linter.unusedSimpArgs false
set_option linter.unnecessarySimpa false
def fx (X : Option Nat) : Fence := { Fence.wide with round := X }
def opW (P : Program) (o : Oper) (a : Act) (w : World) (K : Act → World → Prop) : Prop :=
 match (execOp a.eval o).run P w with
 | .ok (.value v) w' => K (a.put o.dst v) w'
 | .ok .skip w' => K (a.put o.dst undef) w'
 | .ok (.enter f args) w' => Calls P f args w' fun e w'' => ∃ v, e = .returned v ∧ K (a.put o.dst v) w''
 | .ok (.round l f tmps assign body) w' => RoundIn Fence.wide 0 P l f tmps assign body w' fun e w'' => ∃ v, e = .returned v ∧ K (a.put o.dst v) w''
 | _ => False
def oneW (P : Program) (ops : Array Oper) (o : Oper) (K : Act → World → Prop) (a : Act) (w : World) : Prop :=
 if Region.wanted o (yielded ops a.tmps) = true then opW P o a w K else K (a.put o.dst undef) w
def seqW (P : Program) (ops : Array Oper) (N : Act → World → Prop) : List Oper → Act → World → Prop
 | [] => N
 | o :: l => oneW P ops o (seqW P ops N l)
theorem opW_mono {P : Program} {o : Oper} {a : Act} {w : World} {K K' : Act → World → Prop} (hk : ∀ a w, K a w → K' a w) (h : opW P o a w K) : opW P o a w K' := by
 unfold opW at *
 split at h
 ·exact hk _ _ h
 ·exact hk _ _ h
 ·exact h.mono fun e w'' ⟨v, he, q⟩ => ⟨v, he, hk _ _ q⟩
 ·exact h.mono fun e w'' ⟨v, he, q⟩ => ⟨v, he, hk _ _ q⟩
 ·exact h.elim
theorem oneW_mono {P : Program} {ops : Array Oper} {o : Oper} {a : Act} {w : World} {K K' : Act → World → Prop} (hk : ∀ a w, K a w → K' a w) (h : oneW P ops o K a w) : oneW P ops o K' a w := by
 unfold oneW at *
 split
 ·rename_i hw; rw [if_pos hw] at h; exact opW_mono hk h
 ·rename_i hw; rw [if_neg hw] at h; exact hk _ _ h
theorem callsIn_fx {P : Program} {X : Option Nat} {n f : Nat} {args : Array Value} {w : World} {R : Ending → World → Prop} (h : Calls P f args w R) : CallsIn (fx X) n P f args w R := by
 have h' : CallsIn Fence.wide n P f args w R := callsIn_wide.2 h
 cases X with
 | none => exact h'
 | some l => exact CallsIn.inRound l h'
theorem roundIn_fx {P : Program} {X : Option Nat} {n l f : Nat} {tmps : Array Value} {assign body : Code} {w : World} {R : Ending → World → Prop} (h : RoundIn Fence.wide 0 P l f tmps assign body w R) : RoundIn (fx X) n P l f tmps assign body w R :=
 ⟨trivial, fun c cs _ => h.2 c cs (room_wide _)⟩
theorem run_not_defer {P : Program} {a : Act} {o : Oper} {w : World} {c : Call} (hc : o.op = .defer c) : ∀ v w', (execOp a.eval o).run P w ≠ .ok (.value v) w' ∧ (execOp a.eval o).run P w ≠ .ok .skip w' ∧ (∀ f args, (execOp a.eval o).run P w ≠ .ok (.enter f args) w') ∧ ∀ l f tmps as bd, (execOp a.eval o).run P w ≠ .ok (.round l f tmps as bd) w' := by
 intro v w'
 have e : execOp a.eval o = (do pure (.defer (← resolve a.eval c o.type))) := by unfold execOp; rw [hc]
 rw [e]
 simp only [Sem.run_bind]
 cases (resolve a.eval c o.type).run P w <;> simp [Result.andThen]
theorem opW_wpIn {P : Program} {X : Option Nat} {n : Nat} {o : Oper} {a : Act} {w : World} {K : Act → World → Prop} {Q : Exit → Act → World → Prop} (h : opW P o a w K) : o.wpIn (fx X) n P a w K Q := by
 refine ⟨fun _ _ => trivial, ?_⟩
 have hs : o.semAt (fx X).round a.eval = execOp a.eval o := by
  refine Oper.semAt_eq _ _ _ fun c hc => ?_
  have nd := fun v w' => run_not_defer (P := P) (a := a) (w := w) hc v w'
  unfold opW at h
  split at h
  ·rename_i hr; exact (nd _ _).1 hr
  ·rename_i hr; exact (nd undef _).2.1 hr
  ·rename_i hr; exact (nd undef _).2.2.1 _ _ hr
  ·rename_i hr; exact (nd undef _).2.2.2 _ _ _ _ _ hr
  ·exact h
 rw [hs]
 unfold opW at h
 split at h
 ·rename_i hr; rw [hr]; exact h
 ·rename_i hr; rw [hr]; exact h
 ·rename_i hr
  rw [hr]
  refine ⟨(fun q => by cases q), callsIn_fx (h.mono fun e w'' ⟨v, he, q⟩ => ?_)⟩
  subst he
  exact q
 ·rename_i hr
  rw [hr]
  refine ⟨(fun q => by cases q), roundIn_fx (h.mono fun e w'' ⟨v, he, q⟩ => ?_)⟩
  subst he
  exact q
 ·exact h.elim
theorem oneW_wpOpIn {P : Program} {X : Option Nat} {n : Nat} {ops : Array Oper} {i : Nat} {o : Oper} (ho : ops[i]? = some o) {a : Act} {w : World} {K : Act → World → Prop} {Q : Exit → Act → World → Prop} (h : oneW P ops o K a w) : wpOpIn (fx X) n P ops Q i K a w := by
 unfold wpOpIn oneW at *
 rw [ho]
 dsimp only
 split
 ·rename_i hw; rw [if_pos hw] at h; exact opW_wpIn h
 ·rename_i hw; rw [if_neg hw] at h; exact ⟨fun _ _ => trivial, h⟩
theorem seqW_wpOps {P : Program} {X : Option Nat} {n : Nat} {ops : Array Oper} {Q : Exit → Act → World → Prop} : ∀ (l : List Oper) (k : Nat) (_ : ∀ j, l[j]? = ops[k + j]?) (a : Act) (w : World), seqW P ops (Q .normal) l a w → wpOpsIn (fx X) n P ops Q (List.range' k l.length) a w
  | [], k, hl, a, w, h => h
  | o :: l, k, hl, a, w, h => by
    have h0 : ops[k]? = some o := by simpa using (hl 0).symm
    rw [List.length_cons, List.range'_succ, wpOpsIn_cons]
    exact wpOpIn_mono (fun a w q => seqW_wpOps l (k + 1) (fun j => by have := hl (j + 1); simpa [Nat.add_assoc, Nat.add_comm 1 j] using this) a w q) (oneW_wpOpIn h0 h)
theorem region_seq {P : Program} {X : Option Nat} {n id : Nat} {l : List Oper} {Q : Exit → Act → World → Prop} {a : Act} {w : World} (h : seqW P l.toArray (Q .normal) l a w) : (Code.region id l.toArray false).wpIn (fx X) n P Q a w := by
 refine wpIn_region ?_
 have := seqW_wpOps (X := X) (n := n) (ops := l.toArray) (Q := Q) l 0 (fun j => by simp) a w h
 rw [List.range_eq_range']
 simpa using this
/-! ### What is known of the slots -/
abbrev Kn := List (Nat × Value)
def look : Kn → Nat → Option Value
 | [], _ => none
 | p :: K, t => bif Nat.beq p.1 t then some p.2 else look K t
def opd (K : Kn) : Operand → Option Value
 | .tmp t => look K t
 | .const v => some v
 | .func f => some (.func (.func f) #[] #[])
 | .global g => some (.pointer (some ⟨g, 0, none⟩))
structure Kw (n : Nat) (ds : List Deferred) (K : Kn) (a : Act) : Prop where
 size : a.tmps.size = n
 defers : a.defers = ds
 has : ∀ t v, look K t = some v → a.tmps[t]? = some v
theorem look_cons (d : Nat) (v : Value) (K : Kn) (t : Nat) : look ((d, v) :: K) t = if d = t then some v else look K t := by
 show (bif Nat.beq d t then some v else look K t) = _
 by_cases h : d = t
 ·rw [if_pos h, show Nat.beq d t = true from Nat.beq_eq ▸ h]; rfl
 ·rw [if_neg h, show Nat.beq d t = false by
   cases hb : Nat.beq d t with
   | false => rfl
   | true => exact absurd (Nat.eq_of_beq_eq_true hb) h]; rfl
theorem Kw.eval {n : Nat} {ds : List Deferred} {K : Kn} {a : Act} (h : Kw n ds K a) {x : Operand} {v : Value} (hx : opd K x = some v) : a.eval x = v := by
 cases x with
 | tmp t =>
  have := h.has t v hx
  show a.tmps.getD t undef = v
  rw [Array.getD_eq_getD_getElem?, this]; rfl
 | const c => exact Option.some.inj hx
 | global g => exact Option.some.inj hx
 | func f => exact Option.some.inj hx
theorem Kw.put {n : Nat} {ds : List Deferred} {K : Kn} {a : Act} (h : Kw n ds K a) {d : Nat} (hd : d < n) (v : Value) : Kw n ds ((d, v) :: K) (a.put (some d) v) := by
 refine ⟨by show (a.tmps.setIfInBounds d v).size = n; rw [Array.size_setIfInBounds]; exact h.size, h.defers, fun t u ht => ?_⟩
 show (a.tmps.setIfInBounds d v)[t]? = some u
 rw [look_cons] at ht
 by_cases e : d = t
 ·subst e
  rw [if_pos rfl] at ht
  injection ht with ht
  subst ht
  rw [Array.getElem?_setIfInBounds_self]
  rw [if_pos (by rw [h.size]; exact hd)]
 ·rw [if_neg e] at ht
  rw [Array.getElem?_setIfInBounds_ne e]
  exact h.has t u ht
theorem Kw.put0 {n : Nat} {ds : List Deferred} {K : Kn} {a : Act} (h : Kw n ds K a) (v : Value) : Kw n ds K (a.put none v) := h
def Sub (K K' : Kn) : Prop := ∀ t v, look K' t = some v → look K t = some v
theorem Sub.nil {K : Kn} : Sub K [] := fun t v h => by cases h
theorem Sub.cons {K K' : Kn} {t : Nat} {v v' : Value} (h : look K t = some v') (e : v' = v) (hs : Sub K K') : Sub K ((t, v) :: K') := fun d u hd => by
 rw [look_cons] at hd
 by_cases q : t = d
 ·subst q; rw [if_pos rfl] at hd; rw [h, e, ← hd]
 ·rw [if_neg q] at hd; exact hs d u hd
theorem Sub.refl {K : Kn} : Sub K K := fun _ _ h => h
theorem Kw.sub {n : Nat} {ds : List Deferred} {K K' : Kn} {a : Act} (h : Kw n ds K a) (hs : Sub K K') : Kw n ds K' a := ⟨h.size, h.defers, fun t v ht => h.has t v (hs t v ht)⟩
def argK : List Value → Nat → Kn
 | [], _ => []
 | v :: vs, i => (i, v) :: argK vs (i + 1)
theorem argK_look : ∀ (vs : List Value) (i t : Nat) (v : Value), look (argK vs i) t = some v → ∃ j, t = i + j ∧ vs[j]? = some v
  | [], i, t, v, h => by cases h
  | u :: vs, i, t, v, h => by
    unfold argK at h
    rw [look_cons] at h
    by_cases e : i = t
    · rw [if_pos e] at h; exact ⟨0, by omega, by simpa using h⟩
    · rw [if_neg e] at h
      obtain ⟨j, h1, h2⟩ := argK_look vs (i + 1) t v h
      exact ⟨j + 1, by omega, by simpa using h2⟩
theorem Kw.start {vs : List Value} {n : Nat} (h : vs.length ≤ n) : Kw n [] (argK vs 0) { tmps := vs.toArray ++ Array.replicate (n - vs.toArray.size) undef, defers := [] } := by
 refine ⟨by simp; omega, rfl, fun t v ht => ?_⟩
 obtain ⟨j, h1, h2⟩ := argK_look vs 0 t v ht
 have hj : j < vs.length := (List.getElem?_eq_some_iff.1 h2).1
 rw [Nat.zero_add] at h1
 subst h1
 show (vs.toArray ++ Array.replicate (n - vs.toArray.size) undef)[t]? = some v
 rw [Array.getElem?_append_left (by simpa using hj)]
 simpa using h2
/-! ### The judgements -/
def SL (P : Program) (ops : Array Oper) (N : Act → World → Prop) (n : Nat) (ds : List Deferred) (l : List Oper) (K : Kn) (S : World → Prop) : Prop := ∀ a w, Kw n ds K a → S w → seqW P ops N l a w
def CW (X : Option Nat) (P : Program) (c : Code) (Q : Exit → Act → World → Prop) (n : Nat) (ds : List Deferred) (K : Kn) (S : World → Prop) : Prop := ∀ a w, Kw n ds K a → S w → c.wpIn (fx X) 0 P Q a w
def EX (Q : Exit → Act → World → Prop) (e : Exit) (n : Nat) (ds : List Deferred) (K : Kn) (S : World → Prop) : Prop := ∀ a w, Kw n ds K a → S w → Q e a w
section
variable {X : Option Nat} {P : Program} {ops : Array Oper} {N : Act → World → Prop} {n : Nat} {ds : List Deferred} {l : List Oper} {K K' : Kn} {S S' : World → Prop} {Q Q' : Exit → Act → World → Prop} {c d : Code}
theorem SL.nil (h : EX Q .normal n ds K S) : SL P ops (Q .normal) n ds [] K S := h
theorem SL.nil_then (h : CW X P d Q n ds K S) : SL P ops (Exit.then (d.wpIn (fx X) 0 P Q) Q' .normal) n ds [] K S := h
theorem SL.conseq (h : SL P ops N n ds l K' S') (hk : Sub K K') (hs : ∀ w, S w → S' w) : SL P ops N n ds l K S := fun a w ha hw => h a w (ha.sub hk) (hs w hw)
theorem CW.conseq (h : CW X P c Q n ds K' S') (hk : Sub K K') (hs : ∀ w, S w → S' w) : CW X P c Q n ds K S := fun a w ha hw => h a w (ha.sub hk) (hs w hw)
theorem EX.conseq {e : Exit} (h : EX Q e n ds K' S') (hk : Sub K K') (hs : ∀ w, S w → S' w) : EX Q e n ds K S := fun a w ha hw => h a w (ha.sub hk) (hs w hw)
theorem CW.region {id : Nat} {l : List Oper} (h : SL P l.toArray (Q .normal) n ds l K S) : CW X P (.region id l.toArray false) Q n ds K S := fun a w ha hw => region_seq (h a w ha hw)
theorem CW.seq (h : CW X P c (Exit.then (d.wpIn (fx X) 0 P Q) Q) n ds K S) : CW X P (.seq c d) Q n ds K S := fun a w ha hw => wpIn_seq (h a w ha hw)
theorem CW.skip (h : EX Q .normal n ds K S) : CW X P .skip Q n ds K S := fun a w ha hw => wpIn_skip (h a w ha hw)
theorem CW.exit {i : Nat} (h : EX Q (.exit i) n ds K S) : CW X P (.exit i) Q n ds K S := fun a w ha hw => wpIn_exit (h a w ha hw)
theorem CW.ret (h : EX Q .ret n ds K S) : CW X P .ret Q n ds K S := fun a w ha hw => wpIn_ret (h a w ha hw)
theorem CW.block {i : Nat} (h : CW X P c (Exit.inBlock i Q) n ds K S) : CW X P (.block i c) Q n ds K S := fun a w ha hw => wpIn_block (h a w ha hw)
theorem CW.cond {x : Operand} {b : Bool} (hx : opd K x = some (.bool b)) (ht : b = true → CW X P c Q n ds K S) (hf : b = false → CW X P d Q n ds K S) : CW X P (.cond x c d) Q n ds K S :=
 fun a w ha hw => wpIn_cond_split (ha.eval hx) (fun h => ht h a w ha hw) (fun h => hf h a w ha hw)
theorem CW.condD {x : Operand} {p : Prop} [Decidable p] (hx : opd K x = some (.bool (decide p))) (ht : p → CW X P c Q n ds K S) (hf : ¬ p → CW X P d Q n ds K S) : CW X P (.cond x c d) Q n ds K S :=
 CW.cond hx (fun h => ht (of_decide_eq_true h)) (fun h => hf (of_decide_eq_false h))
theorem CW.condT {x : Operand} (hx : opd K x = some (.bool true)) (h : CW X P c Q n ds K S) : CW X P (.cond x c d) Q n ds K S := CW.cond hx (fun _ => h) (fun q => by cases q)
theorem CW.condF {x : Operand} (hx : opd K x = some (.bool false)) (h : CW X P d Q n ds K S) : CW X P (.cond x c d) Q n ds K S := CW.cond hx (fun q => by cases q) (fun _ => h)
theorem CW.cut {σ : Type} (I : σ → Prop) (Ks : σ → Kn) (Ss : σ → World → Prop) (h : CW X P c (Exit.then (fun a w => ∃ s, I s ∧ Kw n ds (Ks s) a ∧ Ss s w) Q) n ds K S) (hr : ∀ s, I s → CW X P d Q n ds (Ks s) (Ss s)) : CW X P (.seq c d) Q n ds K S := by
 refine CW.seq fun a w ha hw => wpIn_mono (h a w ha hw) fun e a w q => ?_
 cases e with
 | normal => obtain ⟨s, h1, h2, h3⟩ := q; exact hr s h1 a w h2 h3
 | exit i => exact q
 | goto i => exact q
 | ret => exact q
 | panic c => exact q
 | outgrown => exact q
theorem EX.cut {σ : Type} {I : σ → Prop} {Ks : σ → Kn} {Ss : σ → World → Prop} (s : σ) (hI : I s) (hk : Sub K (Ks s)) (hs : ∀ w, S w → Ss s w) : EX (Exit.then (fun a w => ∃ s, I s ∧ Kw n ds (Ks s) a ∧ Ss s w) Q) .normal n ds K S := fun a w ha hw => ⟨s, hI, ha.sub hk, hs w hw⟩
theorem CW.loop {σ : Type} (I : σ → Prop) (Ks : σ → Kn) (Ss : σ → World → Prop) (μ : σ → Nat) (s0 : σ) (h0 : I s0) (hk : Sub K (Ks s0)) (hs : ∀ w, S w → Ss s0 w)
    (round : ∀ s, I s → CW X P c (Exit.then (fun a w => ∃ s', (I s' ∧ μ s' < μ s) ∧ Kw n ds (Ks s') a ∧ Ss s' w) Q) n ds (Ks s) (Ss s)) : CW X P (.loop c) Q n ds K S := by
  intro a w ha hw b k cs hro hb hr
  have key : ∀ j s a w, μ s = j → I s → Kw n ds (Ks s) a → Ss s w →
      ∃ e a' w', Q e a' w' ∧ ArrivesIn (Machine.fenced P (fx X)) P (lone (b.atR a (.code c :: .inLoop c :: k)) cs w) b k cs e a' w' := by
    intro j
    induction j using Nat.strongRecOn with
    | _ j ih =>
      intro s a w hn hI hka hSs
      obtain ⟨e, a₁, w₁, hq, harr⟩ := round s hI a w hka hSs b (.inLoop c :: k) cs hro hb hr
      cases e with
      | normal =>
        obtain ⟨s', ⟨hI₁, hlt⟩, hk₁, hS₁⟩ := hq
        obtain ⟨e₂, a₂, w₂, hq₂, harr₂⟩ := ih (μ s') (hn ▸ hlt) s' a₁ w₁ rfl hI₁ hk₁ hS₁
        exact ⟨e₂, a₂, w₂, hq₂, .of_steps (StepsIn.trans harr (.one (fenced_calm hb hr rfl) stepR_inLoop)) harr₂⟩
      | exit id => exact ⟨_, a₁, w₁, hq, .pass (x := .inLoop c) rfl (fun _ _ => .inl (by simp)) harr⟩
      | goto l => exact ⟨_, a₁, w₁, hq, .pass (x := .inLoop c) rfl (fun _ _ => .inl (by simp)) harr⟩
      | ret => exact ⟨_, a₁, w₁, hq, .pass (x := .inLoop c) rfl (fun _ _ => .inl (by simp)) harr⟩
      | panic ch => exact ⟨_, a₁, w₁, hq, .pass (x := .inLoop c) rfl (fun _ _ => .inl (by simp)) harr⟩
      | outgrown => exact ⟨_, a₁, w₁, hq, .pass (x := .inLoop c) rfl (fun _ _ => .inl (by simp)) harr⟩
  obtain ⟨e, a', w', hq, harr⟩ := key _ s0 a w rfl h0 (ha.sub hk) (hs w hw)
  exact ⟨e, a', w', hq, .of_steps (.one (fenced_calm hb hr rfl) stepR_loop) harr⟩
theorem EX.round {σ : Type} {I : σ → Prop} {Ks : σ → Kn} {Ss : σ → World → Prop} {μ : σ → Nat} {s : σ} (s' : σ) (hI : I s') (hμ : μ s' < μ s) (hk : Sub K (Ks s')) (hs : ∀ w, S w → Ss s' w) :
  EX (Exit.then (fun a w => ∃ s', (I s' ∧ μ s' < μ s) ∧ Kw n ds (Ks s') a ∧ Ss s' w) Q) .normal n ds K S := fun a w ha hw => ⟨s', ⟨hI, hμ⟩, ha.sub hk, hs w hw⟩
theorem EX.then_normal {Q' : Exit → Act → World → Prop} (h : CW X P d Q n ds K S) : EX (Exit.then (d.wpIn (fx X) 0 P Q) Q') .normal n ds K S := h
theorem EX.then_exit {i : Nat} {M : Act → World → Prop} (h : EX Q (.exit i) n ds K S) : EX (Exit.then M Q) (.exit i) n ds K S := h
theorem EX.then_ret {M : Act → World → Prop} (h : EX Q .ret n ds K S) : EX (Exit.then M Q) .ret n ds K S := h
theorem EX.in_normal {i : Nat} (h : EX Q .normal n ds K S) : EX (Exit.inBlock i Q) .normal n ds K S := h
theorem EX.in_ret {i : Nat} (h : EX Q .ret n ds K S) : EX (Exit.inBlock i Q) .ret n ds K S := h
theorem EX.in_exit {i j : Nat} (e : (i == j) = true) (h : EX Q .normal n ds K S) : EX (Exit.inBlock j Q) (.exit i) n ds K S := fun a w ha hw => by
 show (if i = j then _ else _)
 rw [if_pos (by simpa using e)]; exact h a w ha hw
theorem EX.in_exit_ne {i j : Nat} (e : (i == j) = false) (h : EX Q (.exit i) n ds K S) : EX (Exit.inBlock j Q) (.exit i) n ds K S := fun a w ha hw => by
 show (if i = j then _ else _)
 rw [if_neg (by simpa using e)]; exact h a w ha hw
end
def tupV : List Value → Value
 | [v] => v
 | vs => .tuple vs.toArray
theorem tupV_eq (vs : List Value) : tupV vs = (if h : vs.toArray.size = 1 then vs.toArray[0] else .tuple vs.toArray) := by
 rcases vs with _ | ⟨v, _ | ⟨u, vs⟩⟩ <;> simp [tupV]
inductive ResA (P : Program) (K : Kn) (S : World → Prop) : List ResultVar → List Value → Prop
 | nil : ResA P K S [] []
 | tmp {t : Nat} {v : Value} {rs : List ResultVar} {vs : List Value} (h : look K t = some v) (hr : ResA P K S rs vs) : ResA P K S (.tmp t :: rs) (v :: vs)
 | cell {d t : Nat} {ad : Addr} {v : Value} {rs : List ResultVar} {vs : List Value} (h : look K d = some (.pointer (some ad))) (hl : ∀ w, S w → (loadVar t ad).run P w = .ok v w) (hr : ResA P K S rs vs) : ResA P K S (.cell d t :: rs) (v :: vs)
def resM (tmps : Array Value) : ResultVar → Sem Value
 | .tmp t => pure (tmps.getD t undef)
 | .cell a t => do loadVar t (← asAddr (tmps.getD a undef))
theorem results_eq (fn : Func) (tmps : Array Value) : results fn tmps = (do let vs ← fn.results.mapM (resM tmps); pure (if h : vs.size = 1 then vs[0] else .tuple vs)) := by
 have e : (fun | .tmp t => pure (tmps.getD t undef) | .cell a t => do loadVar t (← asAddr (tmps.getD a undef)) : ResultVar → Sem Value) = resM tmps := by
  funext r; cases r <;> rfl
 rw [← e]; rfl
theorem ResA.run {P : Program} {K : Kn} {S : World → Prop} {rs : List ResultVar} {vs : List Value} (h : ResA P K S rs vs) {n : Nat} {ds : List Deferred} {a : Act} {w : World} (ha : Kw n ds K a) (hw : S w) :
  (rs.mapM (resM a.tmps)).run P w = .ok vs w := by
 induction h with
 | nil => rfl
 | tmp h hr ih =>
  rename_i t v rs vs
  have e : a.tmps.getD t undef = v := ha.eval (x := .tmp t) h
  rw [List.mapM_cons]
  show ((pure (a.tmps.getD t undef) : Sem Value) >>= fun v => _).run P w = _
  simp only [Sem.run_bind, Sem.run_pure, Result.andThen_ok, ih, e]
 | cell h hl hr ih =>
  rename_i d t ad v rs vs
  have e : a.tmps.getD d undef = .pointer (some ad) := ha.eval (x := .tmp d) h
  rw [List.mapM_cons]
  show ((do loadVar t (← asAddr (a.tmps.getD d undef)) : Sem Value) >>= fun v => _).run P w = _
  simp only [Sem.run_bind, Sem.run_pure, Result.andThen_ok, ih, e]
  have : (asAddr (.pointer (some ad))).run P w = .ok ad w := rfl
  simp only [this, Result.andThen_ok, hl w hw, ih, Sem.run_pure]
theorem EX.out {P : Program} {fn : Func} {R : Ending → World → Prop} {n : Nat} {K : Kn} {S : World → Prop} {rs : List ResultVar} {vs : List Value} (hf : fn.results = rs.toArray) (h : ResA P K S rs vs) (hR : ∀ w, S w → R (.returned (tupV vs)) w) {e : Exit} (he : e = .ret ∨ e = .normal) :
  EX (bodyPost P fn R) e n [] K S := by
 intro a w ha hw
 have key : a.defers = [] ∧ ∃ v, (results fn a.tmps).run P w = .ok v w ∧ R (.returned v) w := by
  refine ⟨ha.defers, tupV vs, ?_, hR w hw⟩
  have h1 := h.run ha hw
  rw [results_eq, hf]
  simp only [Array.mapM_eq_mapM_toList, List.toList_toArray, Sem.run_bind, Sem.run_map]
  rw [h1]
  simp only [Result.andThen_ok, Sem.run_pure, tupV_eq]
 rcases he with rfl | rfl
 ·exact key
 ·exact key
theorem calls_cw {P : Program} {f : Nat} {fn : Func} {c : Code} {vs : List Value} {w : World} {R : Ending → World → Prop} (hf : P.funcs[f]? = some fn) (hb : fn.body = some c) (hn : (vs.length ≤ fn.ntmps) = True) (h : CW none P c (bodyPost P fn R) fn.ntmps [] (argK vs 0) (fun w' => w' = w)) : Calls P f vs.toArray w R := by
 have : CallsIn Fence.wide 0 P f vs.toArray w R := callsIn_of_wp hf hb trivial (h _ w (Kw.start (of_eq_true hn)) rfl)
 exact callsIn_wide.1 this
end Go.Proofs.Ytokljoajalmkfaa
