/- Part of the proof of priced_covers_proved: Evl. -/
import Derived.Scope
import Derived.Test.YtfphlpglgcmljaaGreatXvEvd
namespace Go.Proofs.YtfphlpglgcmljaaGreat.Ev
open Go Go.RowKit
set_option linter.unusedVariables false
/-! slots -/
theorem sel_cases {i : Nat} (h : i < 16) : i = 0 ∨ i = 1 ∨ i = 2 ∨ i = 3 ∨ i = 4 ∨ i = 5 ∨ i = 6 ∨ i = 7 ∨ i = 8 ∨ i = 9 ∨ i = 10 ∨ i = 11 ∨ i = 12 ∨ i = 13 ∨ i = 14 ∨ i = 15 := by omega
theorem sel_put {α : Type} (v : α) (x : C8 α) {i j : Nat} (hi : i < 16) (hj : j < 16) : (selB α i).get ((selB α j).put v x) = if i = j then v else (selB α i).get x := by
 rcases sel_cases hi with rfl | rfl | rfl | rfl | rfl | rfl | rfl | rfl | rfl | rfl | rfl | rfl | rfl | rfl | rfl | rfl <;>
 rcases sel_cases hj with rfl | rfl | rfl | rfl | rfl | rfl | rfl | rfl | rfl | rfl | rfl | rfl | rfl | rfl | rfl | rfl <;> rfl
theorem getV_lo {T : TT} {t : Nat} (h : t < 256) : getV T t = (selB Value (t % 16)).get ((selB (C8 Value) (t / 16)).get T.lo) := by
 unfold getV getC
 rw [show Nat.blt t 256 = true from Nat.ble_eq_true_of_le h]
theorem getV_hi {T : TT} {t : Nat} (h : ¬ t < 256) : getV T t = (selB Value ((t - 256) % 16)).get ((selB (C8 Value) ((t - 256) / 16)).get T.hi) := by
 unfold getV getC
 rw [show Nat.blt t 256 = false by
  cases hb : Nat.blt t 256 with
  | false => rfl
  | true => exact absurd (Nat.le_of_ble_eq_true hb) h]
theorem putC_lo {T : TT} {t : Nat} {v : Value} (h : t < 256) : (putC t).run v T = ⟨(selB (C8 Value) (t / 16)).put ((selB Value (t % 16)).put v ((selB (C8 Value) (t / 16)).get T.lo)) T.lo, T.hi⟩ := by
 unfold putC
 rw [show Nat.blt t 256 = true from Nat.ble_eq_true_of_le h]
theorem putC_hi {T : TT} {t : Nat} {v : Value} (h : ¬ t < 256) : (putC t).run v T = ⟨T.lo, (selB (C8 Value) ((t - 256) / 16)).put ((selB Value ((t - 256) % 16)).put v ((selB (C8 Value) ((t - 256) / 16)).get T.hi)) T.hi⟩ := by
 unfold putC
 rw [show Nat.blt t 256 = false by
  cases hb : Nat.blt t 256 with
  | false => rfl
  | true => exact absurd (Nat.le_of_ble_eq_true hb) h]
theorem get_put2 {x : C8 (C8 Value)} {v : Value} {t d : Nat} (ht : t < 256) (hd : d < 256) : (selB Value (t % 16)).get ((selB (C8 Value) (t / 16)).get ((selB (C8 Value) (d / 16)).put ((selB Value (d % 16)).put v ((selB (C8 Value) (d / 16)).get x)) x)) = if t = d then v else (selB Value (t % 16)).get ((selB (C8 Value) (t / 16)).get x) := by
 rw [sel_put _ _ (by omega) (by omega)]
 by_cases h1 : t / 16 = d / 16
 ·rw [if_pos h1, sel_put _ _ (by omega) (by omega)]
  by_cases h2 : t % 16 = d % 16
  ·rw [if_pos h2, if_pos (by omega)]
  ·rw [if_neg h2, if_neg (by omega), h1]
 ·rw [if_neg h1, if_neg (by omega)]
set_option maxRecDepth 100000 in
theorem getV_put {T : TT} {v : Value} {t d : Nat} (ht : t < 512) (hd : d < 512) : getV ((putC d).run v T) t = if t = d then v else getV T t := by
 by_cases h1 : d < 256
 ·rw [putC_lo h1]
  by_cases h2 : t < 256
  ·rw [getV_lo h2, getV_lo h2]; exact get_put2 h2 h1
  ·rw [getV_hi h2, getV_hi h2, if_neg (by omega)]
 ·rw [putC_hi h1]
  by_cases h2 : t < 256
  ·rw [getV_lo h2, getV_lo h2, if_neg (by omega)]
  ·rw [getV_hi h2, getV_hi h2]
   show (selB Value ((t - 256) % 16)).get ((selB (C8 Value) ((t - 256) / 16)).get ((selB (C8 Value) ((d - 256) / 16)).put ((selB Value ((d - 256) % 16)).put v ((selB (C8 Value) ((d - 256) / 16)).get T.hi)) T.hi)) = _
   rw [get_put2 (by omega) (by omega)]
   by_cases h3 : t = d
   ·rw [if_pos h3, if_pos (by omega)]
   ·rw [if_neg h3, if_neg (by omega)]
theorem sel_all {α : Type} (x : α) {i : Nat} (hi : i < 16) : (selB α i).get (all8 x) = x := by
 rcases sel_cases hi with rfl | rfl | rfl | rfl | rfl | rfl | rfl | rfl | rfl | rfl | rfl | rfl | rfl | rfl | rfl | rfl <;> rfl
set_option maxRecDepth 100000 in
theorem getV_T0 {t : Nat} (ht : t < 512) : getV T0 t = undef := by
 by_cases h2 : t < 256
 ·rw [getV_lo h2]
  show (selB Value (t % 16)).get ((selB (C8 Value) (t / 16)).get (all8 (all8 undef))) = undef
  rw [sel_all _ (by omega), sel_all _ (by omega)]
 ·rw [getV_hi h2]
  show (selB Value ((t - 256) % 16)).get ((selB (C8 Value) ((t - 256) / 16)).get (all8 (all8 undef))) = undef
  rw [sel_all _ (by omega), sel_all _ (by omega)]
structure TR (g : Gh) (N : Nat) (T : TT) (tmps : Array Value) : Prop where
 size : N ≤ tmps.size
 le : N ≤ 512
 val : ∀ t, t < 512 → VR g (getV T t) (tmps.getD t undef)
theorem TR.mono {g g' : Gh} {N : Nat} {T : TT} {tmps : Array Value} (h : TR g N T tmps) (hs : Sub g g') : TR g' N T tmps := ⟨h.size, h.le, fun t ht => (h.val t ht).mono hs⟩
theorem getD_put {tmps : Array Value} {d t : Nat} {v : Value} (hd : d < tmps.size) : (tmps.setIfInBounds d v).getD t undef = if t = d then v else tmps.getD t undef := by
 simp only [Array.getD_eq_getD_getElem?, Array.getElem?_setIfInBounds]
 by_cases h : t = d
 ·rw [if_pos h.symm, if_pos h, if_pos hd]; rfl
 ·rw [if_neg (fun e => h e.symm), if_neg h]
theorem TR.put {g : Gh} {N : Nat} {T : TT} {a : Act} {d : Option Nat} {v v' : Value} (h : TR g N T a.tmps) (hv : VR g v v') (hd : dstOk N d = true) : TR g N ((dstB d).run v T) (a.put d v').tmps := by
 cases d with
 | none => exact h
 | some d =>
  have hlt : d < N := Nat.le_of_ble_eq_true hd
  have hs : d < a.tmps.size := Nat.lt_of_lt_of_le hlt h.size
  refine ⟨by show N ≤ (a.tmps.setIfInBounds d v').size; simpa using h.size, h.le, fun t ht => ?_⟩
  show VR g (getV ((putC d).run v T) t) ((a.tmps.setIfInBounds d v').getD t undef)
  rw [getV_put ht (by have := h.le; omega), getD_put hs]
  by_cases e : t = d
  ·rw [if_pos e, if_pos e]; exact hv
  ·rw [if_neg e, if_neg e]; exact h.val t ht
theorem TR.opnd {g : Gh} {N : Nat} {T : TT} {a : Act} {x : Operand} (h : TR g N T a.tmps) (hx : opndOk x = true) : VR g (aeval T x) (a.eval x) := by
 cases x with
 | tmp t => exact h.val t (Nat.le_of_ble_eq_true hx)
 | const v => exact VR.plainB hx
 | global n => cases hx
 | func f => exact .plain rfl
/-! calls -/
def CalOk (P : Program) (call : Cal) : Prop := ∀ f args V H v H' W, call f args V H = .mk v H' W → V.top ≤ H.next → WFH H → Evo V H H' W ∧ (∀ (args' : Array Value) (w : World), (callFunc f args').run P w = .ok (.enter f args') w) ∧
 ∀ (g : Gh) (args' : Array Value) (w : World) (B : Nat), LR g args args'.toList → HR g (gt V H) w B → B ≤ w.heap.size → V.top ≤ H.next → WFH H → Fresh g H.next H'.next →
 Calls P f args' w fun e w' => ∃ v' g', e = .returned v' ∧ VR g' v v' ∧ After V H H' W B g w g' w'
theorem OpOk.call {P : Program} {o : Oper} {ρ : Operand → Value} {V : Vw} {H : Hp} {call : Cal} {f : Nat} {args : List Value} (hcal : CalOk P call)
  (h : ∀ (g : Gh) (ρ' : Operand → Value) (w : World), (∀ x, x ∈ o.op.operands.toList → VR g (ρ x) (ρ' x)) → ∃ args' : Array Value, LR g args args'.toList ∧ execOp ρ' o = callFunc f args') : OpOk P o ρ V H (call f args V H) := by
 intro v H' W e i1 i2
 obtain ⟨h1, h2, h3⟩ := hcal _ _ _ _ _ _ _ e i1 i2
 refine ⟨h1, fun g a w B hrel hh hB ht hwf hf next Q hn => ?_⟩
 obtain ⟨args', ha, hx⟩ := h g a.eval w hrel
 unfold Oper.wp
 rw [hx, h2]
 refine (h3 g args' w B ha hh hB ht hwf hf).mono fun e' w' hr => ?_
 obtain ⟨v', g', rfl, hv, haf⟩ := hr
 exact hn g' v' w' hv haf
theorem op_call {P : Program} {o : Oper} {T : TT} {V : Vw} {H : Hp} {call : Cal} {c : Call} (hcal : CalOk P call) (ho : o.op = .call c) : OpOk P o (aeval T) V H ((callB P call o c).run V T H) := by
 obtain ⟨callee, args, types⟩ := c
 have hargs : ∀ (g : Gh) (ρ' : Operand → Value), (∀ x, x ∈ o.op.operands.toList → VR g (aeval T x) (ρ' x)) → LR g (mapT args.toList T) (args.map ρ').toList := by
  intro g ρ' h
  rw [mapT_eq, Array.toList_map]
  exact LR.map fun x hx => h x (by simp only [ho, Op.operands, Call.operands, Array.toList_append, List.mem_append]; exact .inr hx)
 unfold callB
 simp only
 split
 ·rename_i k
  refine OpOk.call hcal fun g ρ' w hrel => ⟨args.map ρ', hargs g ρ' hrel, ?_⟩
  have hfr := hrel (.func k) (by simp [ho, Op.operands, Call.operands])
  have hfe : ρ' (.func k) = .func (.func k) #[] #[] := hfr.eq1 rfl
  unfold execOp; rw [ho]
  show (Sem.bind (Deferred.ofValue (ρ' (.func k)) (args.map ρ')) fun d => invoke d.target d.args) = _
  rw [hfe]
  show callFunc k ((#[] ++ args.map ρ') ++ #[]) = _
  simp
 ·rename_i f hf
  dsimp only
  unfold callV
  split
  ·rename_i k p q hv
   refine OpOk.call hcal fun g ρ' w hrel => ?_
   have hfr := hrel f (by simp [ho, Op.operands, Call.operands])
   have hv' : aeval T f = .func (.func k) p q := hv
   rw [hv'] at hfr
   obtain ⟨p', q', hp, h1, h2⟩ : ∃ p' q', ρ' f = .func (.func k) p' q' ∧ LR g p.toList p'.toList ∧ LR g q.toList q'.toList := by
    generalize ρ' f = u at hfr
    cases hfr with
    | plain h =>
     unfold plain1 at h
     rw [Bool.and_eq_true] at h
     have h1 : p.toList = [] := by have := h.1; simpa using this
     have h2 : q.toList = [] := by have := h.2; simpa using this
     exact ⟨p, q, rfl, by rw [h1]; exact LR.nil g, by rw [h2]; exact LR.nil g⟩
    | func h1 h2 h3 h4 => exact ⟨_, _, rfl, ⟨by simpa using h1, fun i v v' a b => h3 i v v' (by simpa using a) (by simpa using b)⟩, ⟨by simpa using h2, fun i v v' a b => h4 i v v' (by simpa using a) (by simpa using b)⟩⟩
   refine ⟨(p' ++ args.map ρ') ++ q', ?_, ?_⟩
   ·rw [Array.toList_append, Array.toList_append, List.append_assoc]
    exact h1.append ((hargs g ρ' hrel).append h2)
   ·unfold execOp; rw [ho]
    show (Sem.bind (Deferred.ofValue (ρ' f) (args.map ρ')) fun d => invoke d.target d.args) = _
    rw [hp]
    rfl
  ·exact .bad
 ·split
  ·rename_i t t2 s x ht hx
   exact op_append ho rfl ht hx
  ·exact .bad
 ·split
  ·rename_i t x ht hx
   exact OpOk.pureA (op_len (ρ := aeval T) ho rfl ht hx) OpOk.genP
  ·exact .bad
 ·exact op_copy ho rfl
 ·exact OpOk.genP
 ·exact .bad
theorem op_ok {P : Program} {o : Oper} {T : TT} {V : Vw} {H : Hp} {call : Cal} (hcal : CalOk P call) : OpOk P o (aeval T) V H ((opB P call o).run V T H) := by
 unfold opB
 cases ho : o.op with
 | move x => exact op_move ho
 | assign x => exact op_assign ho
 | pick c a b => exact op_pick ho
 | binOp op t x y u => exact OpOk.pureA (op_bin (ρ := aeval T) ho) OpOk.genP
 | unOp op t x => exact OpOk.pureA (op_un (ρ := aeval T) ho) OpOk.genP
 | load t a => exact op_load ho
 | store t a x => exact op_store ho
 | fieldAddr s x f => exact OpOk.okA (op_fieldAddr (ρ := aeval T) ho)
 | indexAddr t x i => exact OpOk.okA (op_indexAddr (ρ := aeval T) ho)
 | extract x i => exact OpOk.okA (op_extract (ρ := aeval T) ho)
 | box t x => exact op_box ho
 | call c => exact op_call hcal ho
 | slice t x lo hi mx => exact OpOk.pureA (op_slice (ρ := aeval T) ho) OpOk.genP
 | alloc t =>
  simp only
  split
  ·rename_i hz; exact op_alloc ho hz
  ·exact .bad
 | build t ps => exact OpOk.okA (op_build ho)
 | buildSlice t n ps => exact op_buildSlice ho
 | makeSlice t l c => exact op_makeSlice ho
 | makeFunc fn x y => exact op_makeFunc ho
 | nilCheck x => exact OpOk.okA (op_nilCheck (ρ := aeval T) ho)
 | field t x f => exact op_field ho
 | _ => exact OpOk.genP
end Go.Proofs.YtfphlpglgcmljaaGreat.Ev
namespace Go.Proofs.YtfphlpglgcmljaaGreat.Ev
open Go Go.RowKit
set_option linter.unusedVariables false
theorem put_defers (a : Act) (d : Option Nat) (v : Value) : (a.put d v).defers = a.defers := by cases d <;> rfl
theorem operOk_parts {N : Nat} {ops : List Oper} {o : Oper} (h : operOk N ops o = true) : (∀ x, x ∈ o.op.operands.toList → opndOk x = true) ∧ dstOk N o.dst = true ∧ guardOk N ops o.guard = true := by
 unfold operOk at h
 cases h1 : o.op.operands.toList.all opndOk with
 | false => rw [h1] at h; cases h
 | true =>
  rw [h1] at h
  cases h2 : dstOk N o.dst with
  | false => rw [h2] at h; cases h
  | true => rw [h2] at h; exact ⟨fun x hx => (List.all_eq_true.1 h1) x hx, rfl, h⟩
theorem VR.bool_iff {g : Gh} {u u' : Value} (h : VR g u u') (b : Bool) : u = .bool b ↔ u' = .bool b := by
 constructor
 ·intro e; rw [e] at h; exact h.of_bool
 ·intro e
  cases h with
  | plain h => exact e
  | _ => cases e
theorem guard_ok {N : Nat} {ops : Array Oper} {o : Oper} {T : TT} {tmps : Array Value} {g : Gh} (hok : guardOk N ops.toList o.guard = true) (hs : N ≤ tmps.size)
  (hv : ∀ j want og d, o.guard = some (j, want) → ops[j]? = some og → og.dst = some d → VR g (getV T d) (tmps.getD d undef)) : Region.wanted o (yielded ops tmps) = (guardB ops.toList o.guard).run T := by
 unfold Region.wanted guardB guardOk at *
 cases hg : o.guard with
 | none => rfl
 | some p =>
  obtain ⟨j, want⟩ := p
  rw [hg] at hok
  simp only [nth_eq] at hok ⊢
  unfold yielded
  cases ho : ops.toList[j]? with
  | none =>
   rw [show ops[j]? = none by simpa using ho]
   rfl
  | some og =>
   have ho' : ops[j]? = some og := by simpa using ho
   rw [ho] at hok
   rw [ho']
   cases hd : og.dst with
   | none => simp [hd]
   | some d =>
    simp only [hd] at hok
    have hlt : @LT.lt Nat _ d N := Nat.le_of_ble_eq_true hok
    have hv' := hv j want og d hg ho' hd
    have hds : @LT.lt Nat _ d tmps.size := Nat.lt_of_lt_of_le hlt hs
    simp only [Option.bind_some, hd]
    rw [show tmps[d]? = some (tmps.getD d undef) by simp [hds]]
    show ((match (some (tmps.getD d undef) : Option Value) with | some (.bool b) => some b | _ => none) == some want) = isB want (getV T d)
    generalize getV T d = u at hv'
    generalize tmps.getD d undef = u' at hv'
    cases u' with
    | bool b =>
     rw [(hv'.bool_iff b).2 rfl]
     cases b <;> cases want <;> rfl
    | _ =>
     cases u with
     | bool b => exact absurd ((hv'.bool_iff b).1 rfl) (by simp)
     | _ => rfl
theorem catW_eq (Wj W : List Nat) : catW Wj W = Wj ++ W := by
 induction Wj with
 | nil => rfl
 | cons x l ih => show x :: catW l W = _; rw [ih]; rfl
theorem stepR_mk {d : Option Nat} {T : TT} {W : List Nat} {k : TT → Hp → List Nat → Res} {r : Out} {e : Exit} {T' : TT} {H' : Hp} {W' : List Nat} (h : stepR d T W k r = .mk e T' H' W') : ∃ v H1 Wj, r = .mk v H1 Wj ∧ k ((dstB d).run v T) H1 (Wj ++ W) = .mk e T' H' W' := by
 cases r with
 | bad => cases h
 | mk v H1 Wj =>
  refine ⟨v, H1, Wj, rfl, ?_⟩
  have h' : k ((dstB d).run v T) H1 (catW Wj W) = .mk e T' H' W' := h
  rwa [catW_eq] at h'
theorem regB_cons (P : Program) (call : Cal) (N : Nat) (ops : List Oper) (o : Oper) (l : List Oper) : regB P call N ops (o :: l) = match operOk N ops o with | true => regS P call ops o (regB P call N ops l) | false => badC := rfl
theorem regS_mk {P : Program} {call : Cal} {ops : List Oper} {o : Oper} {ih : CB} {V : Vw} {T : TT} {H : Hp} {W : List Nat} {e : Exit} {T' : TT} {H' : Hp} {W' : List Nat} (h : (regS P call ops o ih).run V T H W = .mk e T' H' W') :
  ((guardB ops o.guard).run T = true ∧ ∃ v H1 Wj, (opB P call o).run V T H = .mk v H1 Wj ∧ ih.run V ((dstB o.dst).run v T) H1 (Wj ++ W) = .mk e T' H' W') ∨ ((guardB ops o.guard).run T = false ∧ ih.run V ((dstB o.dst).run undef T) H W = .mk e T' H' W') := by
 unfold regS at h
 cases hg : o.guard with
 | none =>
  rw [hg] at h
  exact .inl ⟨rfl, stepR_mk h⟩
 | some p =>
  rw [hg] at h
  cases hb : (guardB ops (some p)).run T with
  | true =>
   refine .inl ⟨rfl, stepR_mk (d := o.dst) (T := T) (W := W) (k := ih.run V) ?_⟩
   have h' : Bool.rec (motive := fun _ => Res) (ih.run V ((dstB o.dst).run undef T) H W) (stepR o.dst T W (ih.run V) ((opB P call o).run V T H)) ((guardB ops (some p)).run T) = .mk e T' H' W' := h
   rw [hb] at h'
   exact h'
  | false =>
   refine .inr ⟨rfl, ?_⟩
   have h' : Bool.rec (motive := fun _ => Res) (ih.run V ((dstB o.dst).run undef T) H W) (stepR o.dst T W (ih.run V) ((opB P call o).run V T H)) ((guardB ops (some p)).run T) = .mk e T' H' W' := h
   rw [hb] at h'
   exact h'
theorem regB_ok {P : Program} {call : Cal} (hcal : CalOk P call) {N : Nat} (ops : Array Oper) : ∀ (l : List Oper) (k : Nat), ops.toList.drop k = l → ∀ {V : Vw} {T : TT} {H : Hp} {W : List Nat} {e : Exit} {T' : TT} {H' : Hp} {W' : List Nat},
    (regB P call N ops.toList l).run V T H W = .mk e T' H' W' → V.top ≤ H.next → WFH H → e = .normal ∧ ∃ Wn, W' = Wn ++ W ∧ Evo V H H' Wn ∧ ∀ (g : Gh) (a : Act) (w : World) (B : Nat), TR g N T a.tmps → HR g (gt V H) w B → B ≤ w.heap.size → V.top ≤ H.next → WFH H → Fresh g H.next H'.next →
      ∀ Q : Exit → Act → World → Prop, (∀ a' w' g', a'.defers = a.defers → TR g' N T' a'.tmps → After V H H' Wn B g w g' w' → Q .normal a' w') → wpOps P ops Q (List.range' k l.length) a w
  | [], k, hk, V, T, H, W, e, T', H', W', h, i1, i2 => by
    have h' : Res.mk .normal T H W = .mk e T' H' W' := h
    cases h'
    exact ⟨rfl, [], rfl, Evo.refl V H, fun g a w B hT hh hB ht hwf hf Q hQ => hQ a w g rfl hT (After.refl hh)⟩
  | o :: l, k, hk, V, T, H, W, e, T', H', W', h, i1, i2 => by
    rw [regB_cons] at h
    cases hop : operOk N ops.toList o with
    | false => rw [hop] at h; cases h
    | true =>
      rw [hop] at h
      obtain ⟨p1, p2, p3⟩ := operOk_parts hop
      have hk1 : ops.toList.drop (k + 1) = l := by rw [← List.drop_drop, hk]; rfl
      have hko : ops[k]? = some o := by
        have : (ops.toList.drop k)[0]? = some o := by rw [hk]; rfl
        rw [List.getElem?_drop] at this
        simpa using this
      rcases regS_mk h with ⟨hg, v, H1, Wj, h1, h2⟩ | ⟨hg, h2⟩
      · obtain ⟨hevo1, hop1⟩ := op_ok hcal _ _ _ h1 i1 i2
        obtain ⟨he, Wn, hW, hevo, hwp⟩ := regB_ok hcal ops l (k + 1) hk1 h2 (Nat.le_trans i1 hevo1.next) (hevo1.wf i2).1
        refine ⟨he, Wn ++ Wj, by rw [hW, List.append_assoc], hevo1.trans hevo, fun g a w B hT hh hB ht hwf hf Q hQ => ?_⟩
        rw [List.length_cons, List.range'_succ]
        simp only [wpOps, hko]
        rw [guard_ok p3 hT.size (fun j want og d e1 e2 e3 => hT.val d (by
          unfold guardOk at p3
          rw [e1] at p3
          simp only [nth_eq, show ops.toList[j]? = some og by simpa using e2, e3] at p3
          exact Nat.lt_of_lt_of_le (Nat.le_of_ble_eq_true p3) hT.le)), hg, if_pos rfl]
        refine .inl (hop1 g a w B (fun x hx => hT.opnd (p1 x hx)) hh hB ht hwf (hf.left hevo.next) _ _ fun g' v' w' hv haf => ?_)
        refine hwp g' (a.put o.dst v') w' B ((hT.mono haf.sub).put hv p2) haf.hr (Nat.le_trans hB haf.size) (Nat.le_trans ht hevo1.next) (hevo1.wf hwf).1 (haf.fresh hf hevo1.next) Q fun a' w'' g'' hd hT' haf' => ?_
        exact hQ a' w'' g'' (hd.trans (put_defers _ _ _)) hT' (haf.trans haf' hevo1.next hevo.next)
      · obtain ⟨he, Wn, hW, hevo, hwp⟩ := regB_ok hcal ops l (k + 1) hk1 h2 i1 i2
        refine ⟨he, Wn, hW, hevo, fun g a w B hT hh hB ht hwf hf Q hQ => ?_⟩
        rw [List.length_cons, List.range'_succ]
        simp only [wpOps, hko]
        rw [guard_ok p3 hT.size (fun j want og d e1 e2 e3 => hT.val d (by
          unfold guardOk at p3
          rw [e1] at p3
          simp only [nth_eq, show ops.toList[j]? = some og by simpa using e2, e3] at p3
          exact Nat.lt_of_lt_of_le (Nat.le_of_ble_eq_true p3) hT.le)), hg, if_neg (by simp)]
        refine hwp g (a.put o.dst undef) w B (hT.put (VR.undef g) p2) hh hB ht hwf hf Q fun a' w'' g'' hd hT' haf' => ?_
        exact hQ a' w'' g'' (hd.trans (put_defers _ _ _)) hT' haf'
end Go.Proofs.YtfphlpglgcmljaaGreat.Ev
namespace Go.Proofs.YtfphlpglgcmljaaGreat.Ev
open Go Go.RowKit
set_option linter.unusedVariables false
structure DS where
 T : TT
 H : Hp
 W : List Nat
 rs : List Rc
noncomputable def unI (ops : List Oper) (i : Nat) : List Nat := unOf (ancAt (ancL ops []) i) i
noncomputable def viewI (V : Vw) (ops : List Oper) (i : Nat) (o : Oper) (s : DS) : Vw := (viewR (unI ops i) (visK o.op)).run V s.rs s.H.next ((visL o.op).run s.T)
structure Step (P : Program) (call : Cal) (V : Vw) (ops : List Oper) (i : Nat) (o : Oper) (s s' : DS) (ex : Bool) (v : Value) (Wj : List Nat) : Prop where
 guard : (guardB ops o.guard).run s.T = ex
 T : s'.T = (dstB o.dst).run v s.T
 no : ex = false → v = undef ∧ Wj = [] ∧ s'.H = s.H ∧ s'.W = s.W ∧ s'.rs = s.rs
 yes : ex = true → (opB P call o).run (viewI V ops i o s) s.T s.H = .mk v s'.H Wj ∧ okW Wj (unI ops i) s.rs = true ∧ s'.W = Wj ++ s.W ∧ s'.rs = recR i s.H.next s'.H.next Wj ((visL o.op).run s.T) s.rs
theorem regD_cons (P : Program) (call : Cal) (N : Nat) (ops : List Oper) (o : Oper) (l : List Oper) (j : Nat) : regD P call N ops (o :: l) j = match operOk N ops o, drawOk ops (ancL ops []) j o with | true, true => regE P call ops j (unOf (ancAt (ancL ops []) j) j) o (regD P call N ops l (j + 1)) | _, _ => badD := rfl
theorem stepD_mk {j : Nat} {un : List Nat} {d : Option Nat} {T : TT} {W : List Nat} {lo : Nat} {vis : Option (List Nat)} {rs : List Rc} {k : TT → Hp → List Nat → List Rc → Res} {r : Out} {e : Exit} {T' : TT} {H' : Hp} {W' : List Nat} (h : stepD j un d T W lo vis rs k r = .mk e T' H' W') :
  ∃ v H1 Wj, r = .mk v H1 Wj ∧ okW Wj un rs = true ∧ k ((dstB d).run v T) H1 (Wj ++ W) (recR j lo H1.next Wj vis rs) = .mk e T' H' W' := by
 cases r with
 | bad => cases h
 | mk v H1 Wj =>
  have h' : Bool.rec (motive := fun _ => Res) .bad (k ((dstB d).run v T) H1 (catW Wj W) (recR j lo H1.next Wj vis rs)) (okW Wj un rs) = .mk e T' H' W' := h
  cases hok : okW Wj un rs with
  | false => rw [hok] at h'; cases h'
  | true => rw [hok, catW_eq] at h'; exact ⟨v, H1, Wj, rfl, hok, h'⟩
theorem trace {P : Program} {call : Cal} {N : Nat} {ops : List Oper} {V : Vw} : ∀ (l : List Oper) (j : Nat) {T : TT} {H : Hp} {W : List Nat} {rs : List Rc} {e : Exit} {T' : TT} {H' : Hp} {W' : List Nat}, (regD P call N ops l j).run V T H W rs = .mk e T' H' W' →
    e = .normal ∧ ∃ (st : Nat → DS) (ex : Nat → Bool) (vv : Nat → Value) (Ws : Nat → List Nat), st j = ⟨T, H, W, rs⟩ ∧ (st (j + l.length)).T = T' ∧ (st (j + l.length)).H = H' ∧ (st (j + l.length)).W = W' ∧
      ∀ i, j ≤ i → i < j + l.length → ∃ o, l[i - j]? = some o ∧ operOk N ops o = true ∧ drawOk ops (ancL ops []) i o = true ∧ Step P call V ops i o (st i) (st (i + 1)) (ex i) (vv i) (Ws i)
  | [], j, T, H, W, rs, e, T', H', W', h => by
    have h' : Res.mk .normal T H W = .mk e T' H' W' := h
    cases h'
    exact ⟨rfl, fun _ => ⟨T, H, W, rs⟩, fun _ => false, fun _ => undef, fun _ => [], rfl, rfl, rfl, rfl, fun i h1 h2 => by simp at h2; omega⟩
  | o :: l, j, T, H, W, rs, e, T', H', W', h => by
    rw [regD_cons] at h
    cases hop : operOk N ops o with
    | false => rw [hop] at h; cases h
    | true =>
      cases hdr : drawOk ops (ancL ops []) j o with
      | false => rw [hop, hdr] at h; cases h
      | true =>
        rw [hop, hdr] at h
        have h' : Bool.rec (motive := fun _ => Res) ((regD P call N ops l (j + 1)).run V ((dstB o.dst).run undef T) H W rs) (stepD j (unI ops j) o.dst T W H.next ((visL o.op).run T) rs ((regD P call N ops l (j + 1)).run V) ((opB P call o).run (viewI V ops j o ⟨T, H, W, rs⟩) T H)) ((guardB ops o.guard).run T) = .mk e T' H' W' := h
        have key : ∃ (ex0 : Bool) (v0 : Value) (W0 : List Nat) (s1 : DS), Step P call V ops j o ⟨T, H, W, rs⟩ s1 ex0 v0 W0 ∧ (regD P call N ops l (j + 1)).run V s1.T s1.H s1.W s1.rs = .mk e T' H' W' := by
          cases hg : (guardB ops o.guard).run T with
          | true =>
            rw [hg] at h'
            obtain ⟨v, H1, Wj, h1, h2, h3⟩ := stepD_mk h'
            exact ⟨true, v, Wj, ⟨_, H1, Wj ++ W, recR j H.next H1.next Wj ((visL o.op).run T) rs⟩, ⟨hg, rfl, fun e => (by cases e), fun _ => ⟨h1, h2, rfl, rfl⟩⟩, h3⟩
          | false =>
            rw [hg] at h'
            exact ⟨false, undef, [], ⟨_, H, W, rs⟩, ⟨hg, rfl, fun _ => ⟨rfl, rfl, rfl, rfl, rfl⟩, fun e => (by cases e)⟩, h'⟩
        obtain ⟨ex0, v0, W0, s1, hs, hrest⟩ := key
        obtain ⟨he, st, ex, vv, Ws, r1, r2, r3, r4, r5⟩ := trace l (j + 1) hrest
        refine ⟨he, fun i => if i = j then ⟨T, H, W, rs⟩ else st i, fun i => if i = j then ex0 else ex i, fun i => if i = j then v0 else vv i, fun i => if i = j then W0 else Ws i, if_pos rfl, ?_, ?_, ?_, fun i h1 h2 => ?_⟩
        · simp only [List.length_cons]; rw [if_neg (by omega), show j + (l.length + 1) = j + 1 + l.length by omega]; exact r2
        · simp only [List.length_cons]; rw [if_neg (by omega), show j + (l.length + 1) = j + 1 + l.length by omega]; exact r3
        · simp only [List.length_cons]; rw [if_neg (by omega), show j + (l.length + 1) = j + 1 + l.length by omega]; exact r4
        · by_cases hij : i = j
          · subst hij
            refine ⟨o, by rw [Nat.sub_self]; rfl, hop, hdr, ?_⟩
            simp only [if_true, if_neg (show ¬ (i + 1 = i) by omega), r1]
            exact hs
          · obtain ⟨o', e1, e2, e3, e4⟩ := r5 i (by omega) (by simp only [List.length_cons] at h2; omega)
            refine ⟨o', by rw [show i - j = (i - (j + 1)) + 1 by omega, List.getElem?_cons_succ]; exact e1, e2, e3, ?_⟩
            simp only [if_neg hij, if_neg (show ¬ (i + 1 = j) by omega)]
            exact e4
/-! what comes ahead -/
theorem memN_iff {i : Nat} {l : List Nat} : memN i l = true ↔ i ∈ l := by
 induction l with
 | nil => exact ⟨fun h => (by cases h), fun h => (by simp at h)⟩
 | cons j l ih =>
  show Bool.rec (motive := fun _ => Bool) (memN i l) true (Nat.beq i j) = true ↔ _
  by_cases h : i = j
  ·subst h
   rw [show Nat.beq i i = true from Nat.beq_refl i]
   simp
  ·rw [show Nat.beq i j = false by
    cases hb : Nat.beq i j with
    | false => rfl
    | true => exact absurd (Nat.eq_of_beq_eq_true hb) h]
   simp [h, ih]
noncomputable def ancOf (acc : List (List Nat)) (o : Oper) : List Nat := (o.after.toList.filter (Region.binds .any)).flatMap (fun e => e.on :: (match nth acc e.on with | some a => a | none => []))
theorem ancL_cons (o : Oper) (l : List Oper) (acc : List (List Nat)) : ancL (o :: l) acc = ancL l (acc ++ [ancOf acc o]) := rfl
theorem ancL_get : ∀ (l : List Oper) (acc : List (List Nat)) (i : Nat), (ancL l acc).length = acc.length + l.length ∧ (i < acc.length → (ancL l acc)[i]? = acc[i]?) ∧ ∀ o, acc.length ≤ i → l[i - acc.length]? = some o → (ancL l acc)[i]? = some (ancOf ((ancL l acc).take i) o)
  | [], acc, i => ⟨rfl, fun _ => rfl, fun o _ h => by simp at h⟩
  | o :: l, acc, i => by
    rw [ancL_cons]
    obtain ⟨h1, h2, h3⟩ := ancL_get l (acc ++ [ancOf acc o]) i
    refine ⟨by rw [h1]; simp; omega, fun hi => ?_, fun o' hi ho => ?_⟩
    · rw [h2 (by simp; omega), List.getElem?_append_left hi]
    · by_cases e : i = acc.length
      · subst e
        rw [Nat.sub_self] at ho
        cases ho
        rw [h2 (by simp), List.getElem?_append_right (Nat.le_refl _), Nat.sub_self]
        have ht : (ancL l (acc ++ [ancOf acc o])).take acc.length = acc := by
          refine List.ext_getElem? fun q => ?_
          rw [List.getElem?_take]
          split
          · rename_i hq
            rw [(ancL_get l (acc ++ [ancOf acc o]) q).2.1 (by simp; omega), List.getElem?_append_left hq]
          · rename_i hq
            exact (List.getElem?_eq_none (by omega)).symm
        rw [ht]; rfl
      · have hl : (acc ++ [ancOf acc o]).length = acc.length + 1 := by simp
        refine h3 o' (by omega) ?_
        rw [hl]
        rw [show i - acc.length = (i - (acc.length + 1)) + 1 by omega, List.getElem?_cons_succ] at ho
        exact ho
theorem ancAt_mem {ops : List Oper} {i k : Nat} {o : Oper} (ho : ops[i]? = some o) (hlt : ∀ e, e ∈ o.after.toList → Region.binds .any e = true → e.on < i) : k ∈ ancAt (ancL ops []) i ↔ ∃ e, e ∈ o.after.toList ∧ Region.binds .any e = true ∧ (k = e.on ∨ k ∈ ancAt (ancL ops []) e.on) := by
 have h := (ancL_get ops [] i).2.2 o (Nat.zero_le _) (by simpa using ho)
 have he : ancAt (ancL ops []) i = ancOf ((ancL ops []).take i) o := by unfold ancAt; rw [nth_eq, h]
 rw [he]
 unfold ancOf
 simp only [List.mem_flatMap, List.mem_filter, List.mem_cons]
 have hat : ∀ e, e ∈ o.after.toList → Region.binds .any e = true → (match nth ((ancL ops []).take i) e.on with | some a => a | none => []) = ancAt (ancL ops []) e.on := by
  intro e h1 h2
  unfold ancAt
  rw [nth_eq, nth_eq, List.getElem?_take, if_pos (hlt e h1 h2)]
  rfl
 constructor
 ·rintro ⟨e, ⟨h1, h2⟩, h3⟩
  rw [hat e h1 h2] at h3
  exact ⟨e, h1, h2, h3⟩
 ·rintro ⟨e, h1, h2, h3⟩
  refine ⟨e, ⟨h1, h2⟩, ?_⟩
  rw [hat e h1 h2]; exact h3
end Go.Proofs.YtfphlpglgcmljaaGreat.Ev
namespace Go.Proofs.YtfphlpglgcmljaaGreat.Ev
open Go Go.RowKit
set_option linter.unusedVariables false
structure Ctx (P : Program) (call : Cal) (N : Nat) (ops : List Oper) (V : Vw) (n : Nat) (st : Nat → DS) (ex : Nat → Bool) (vv : Nat → Value) (Ws : Nat → List Nat) : Prop where
 cal : CalOk P call
 len : ops.length = n
 stp : ∀ i, i < n → ∃ o, ops[i]? = some o ∧ operOk N ops o = true ∧ drawOk ops (ancL ops []) i o = true ∧ Step P call V ops i o (st i) (st (i + 1)) (ex i) (vv i) (Ws i)
 rs0 : (st 0).rs = []
 wf0 : WFH (st 0).H
 top : V.top ≤ (st 0).H.next
 only : V.only = none
def Eff (st : Nat → DS) (Ws : Nat → List Nat) (i id : Nat) : Prop := id ∈ Ws i ∨ ((st i).H.next ≤ id ∧ id < (st (i + 1)).H.next)
theorem see_iff {V : Vw} {i : Nat} : V.see i = true ↔ V.top ≤ i ∨ ((∀ l, V.only = some l → i ∈ l) ∧ inRs i V.hid = false) := by
 show Bool.rec (motive := fun _ => Bool) (Option.rec (motive := fun _ => Bool) (!inRs i V.hid) (fun l => Bool.rec (motive := fun _ => Bool) false (!inRs i V.hid) (memN i l)) V.only) true (Nat.ble V.top i) = true ↔ _
 by_cases h : V.top ≤ i
 ·rw [Nat.ble_eq_true_of_le h]
  exact ⟨fun _ => .inl h, fun _ => rfl⟩
 ·rw [show Nat.ble V.top i = false by
   cases hb : Nat.ble V.top i with
   | false => rfl
   | true => exact absurd (Nat.le_of_ble_eq_true hb) h]
  cases ho : V.only with
  | none =>
   show (!inRs i V.hid) = true ↔ _
   constructor
   ·intro h1; exact .inr ⟨fun l e => (by cases e), by simpa using h1⟩
   ·rintro (h1 | ⟨_, h1⟩)
    ·exact absurd h1 h
    ·rw [h1]; rfl
  | some l =>
   show Bool.rec (motive := fun _ => Bool) false (!inRs i V.hid) (memN i l) = true ↔ _
   cases hm : memN i l with
   | false =>
    constructor
    ·intro h1; cases h1
    ·rintro (h1 | ⟨h1, _⟩)
     ·exact absurd h1 h
     ·rw [memN_iff.2 (h1 l rfl)] at hm; cases hm
   | true =>
    show (!inRs i V.hid) = true ↔ _
    constructor
    ·intro h1; exact .inr ⟨fun l' e => by cases e; exact memN_iff.1 hm, by simpa using h1⟩
    ·rintro (h1 | ⟨_, h1⟩)
     ·exact absurd h1 h
     ·rw [h1]; rfl
theorem inRs_cons {i : Nat} {r : Nat × Nat} {l : List (Nat × Nat)} : inRs i (r :: l) = true ↔ (r.1 ≤ i ∧ i < r.2) ∨ inRs i l = true := by
 show Bool.rec (motive := fun _ => Bool) (inRs i l) true (Bool.rec (motive := fun _ => Bool) false (Nat.blt i r.2) (Nat.ble r.1 i)) = true ↔ _
 by_cases h1 : r.1 ≤ i
 ·rw [Nat.ble_eq_true_of_le h1]
  by_cases h2 : i < r.2
  ·rw [show Nat.blt i r.2 = true from Nat.ble_eq_true_of_le h2]
   exact ⟨fun _ => .inl ⟨h1, h2⟩, fun _ => rfl⟩
  ·rw [show Nat.blt i r.2 = false by
    cases hb : Nat.blt i r.2 with
    | false => rfl
    | true => exact absurd (Nat.le_of_ble_eq_true hb) h2]
   exact ⟨fun h => .inr h, fun h => h.resolve_left fun h => h2 h.2⟩
 ·rw [show Nat.ble r.1 i = false by
   cases hb : Nat.ble r.1 i with
   | false => rfl
   | true => exact absurd (Nat.le_of_ble_eq_true hb) h1]
  exact ⟨fun h => .inr h, fun h => h.resolve_left fun h => h1 h.1⟩
theorem hidW_iff {i : Nat} : ∀ {W : List Nat} {acc : List (Nat × Nat)}, inRs i (hidW W acc) = true ↔ i ∈ W ∨ inRs i acc = true
  | [], acc => by simp [hidW]
  | w :: W, acc => by
    rw [hidW, inRs_cons, hidW_iff (W := W), List.mem_cons]
    show (w ≤ i ∧ i < Nat.succ w) ∨ _ ↔ _
    constructor
    · rintro (h | h | h)
      · exact .inl (.inl (by omega))
      · exact .inl (.inr h)
      · exact .inr h
    · rintro ((h | h) | h)
      · exact .inl (by omega)
      · exact .inr (.inl h)
      · exact .inr (.inr h)
theorem hidR_iff {un : List Nat} {i : Nat} : ∀ {rs : List Rc} {acc : List (Nat × Nat)}, inRs i (hidR un rs acc) = true ↔ (∃ r, r ∈ rs ∧ r.i ∈ un ∧ ((r.lo ≠ r.hi ∧ r.lo ≤ i ∧ i < r.hi) ∨ i ∈ r.W)) ∨ inRs i acc = true
  | [], acc => by
    show inRs i acc = true ↔ _
    simp
  | r :: rs, acc => by
    show inRs i (Bool.rec (motive := fun _ => List (Nat × Nat)) (hidR un rs acc) (hidR un rs (Bool.rec (motive := fun _ => List (Nat × Nat)) ((r.lo, r.hi) :: hidW r.W acc) (hidW r.W acc) (Nat.beq r.lo r.hi))) (memN r.i un)) = true ↔ _
    cases hm : memN r.i un with
    | false =>
      show inRs i (hidR un rs acc) = true ↔ _
      rw [hidR_iff (rs := rs)]
      have hn : r.i ∉ un := fun h => by rw [memN_iff.2 h] at hm; cases hm
      constructor
      · rintro (⟨q, h1, h2⟩ | h)
        · exact .inl ⟨q, by simp [h1], h2⟩
        · exact .inr h
      · rintro (⟨q, h1, h2⟩ | h)
        · rcases List.mem_cons.1 h1 with rfl | h1
          · exact absurd h2.1 hn
          · exact .inl ⟨q, h1, h2⟩
        · exact .inr h
    | true =>
      have hy : r.i ∈ un := memN_iff.1 hm
      show inRs i (hidR un rs (Bool.rec (motive := fun _ => List (Nat × Nat)) ((r.lo, r.hi) :: hidW r.W acc) (hidW r.W acc) (Nat.beq r.lo r.hi))) = true ↔ _
      have hx : inRs i (Bool.rec (motive := fun _ => List (Nat × Nat)) ((r.lo, r.hi) :: hidW r.W acc) (hidW r.W acc) (Nat.beq r.lo r.hi)) = true ↔ ((r.lo ≠ r.hi ∧ r.lo ≤ i ∧ i < r.hi) ∨ i ∈ r.W) ∨ inRs i acc = true := by
        by_cases he : r.lo = r.hi
        · rw [show Nat.beq r.lo r.hi = true by rw [he]; exact Nat.beq_refl _]
          show inRs i (hidW r.W acc) = true ↔ _
          rw [hidW_iff]
          constructor
          · rintro (h | h)
            · exact .inl (.inr h)
            · exact .inr h
          · rintro ((h | h) | h)
            · exact absurd he h.1
            · exact .inl h
            · exact .inr h
        · rw [show Nat.beq r.lo r.hi = false by
            cases hb : Nat.beq r.lo r.hi with
            | false => rfl
            | true => exact absurd (Nat.eq_of_beq_eq_true hb) he]
          show inRs i ((r.lo, r.hi) :: hidW r.W acc) = true ↔ _
          rw [inRs_cons, hidW_iff]
          constructor
          · rintro (h | h | h)
            · exact .inl (.inl ⟨he, h⟩)
            · exact .inl (.inr h)
            · exact .inr h
          · rintro ((h | h) | h)
            · exact .inl h.2
            · exact .inr (.inl h)
            · exact .inr (.inr h)
      rw [hidR_iff (rs := rs), hx]
      constructor
      · rintro (⟨q, h1, h2⟩ | h | h)
        · exact .inl ⟨q, by simp [h1], h2⟩
        · exact .inl ⟨r, by simp, hy, h⟩
        · exact .inr h
      · rintro (⟨q, h1, h2⟩ | h)
        · rcases List.mem_cons.1 h1 with rfl | h1
          · exact .inr (.inl h2.2)
          · exact .inl ⟨q, h1, h2⟩
        · exact .inr (.inr h)
theorem unI_mem {ops : List Oper} {i j : Nat} : i ∈ unI ops j ↔ i < j ∧ i ∉ ancAt (ancL ops []) j := by
 unfold unI unOf
 simp only [List.mem_filter, List.mem_range, Bool.not_eq_true']
 constructor
 ·rintro ⟨h1, h2⟩; exact ⟨h1, fun h => by rw [memN_iff.2 h] at h2; cases h2⟩
 ·rintro ⟨h1, h2⟩
  refine ⟨h1, ?_⟩
  cases hm : memN i (ancAt (ancL ops []) j) with
  | false => rfl
  | true => exact absurd (memN_iff.1 hm) h2
theorem recR_cases (j lo hi : Nat) (Wj : List Nat) (vis : Option (List Nat)) (rs : List Rc) : (recR j lo hi Wj vis rs = rs ∧ vis = some [] ∧ Wj = [] ∧ lo = hi) ∨ recR j lo hi Wj vis rs = ⟨j, lo, hi, Wj, vis⟩ :: rs := by
 unfold recR
 split
 ·rename_i h; exact .inl ⟨rfl, rfl, rfl, Nat.eq_of_beq_eq_true h⟩
 ·exact .inr rfl
theorem clearR_iff {W un : List Nat} : ∀ {rs : List Rc}, clearR W un rs = true → ∀ r, r ∈ rs → r.i ∈ un → ∃ l, r.vis = some l ∧ ∀ w, w ∈ W → w ∉ l
  | [], _, r, h, _ => by simp at h
  | r0 :: rs, hc, r, h, hu => by
    unfold clearR at hc
    rcases List.mem_cons.1 h with rfl | h
    · rw [memN_iff.2 hu, cond_true] at hc
      cases h1 : clear1 W r.vis with
      | false => rw [h1] at hc; cases hc
      | true =>
        unfold clear1 at h1
        cases hv : r.vis with
        | none => rw [hv] at h1; cases h1
        | some l =>
          rw [hv] at h1
          refine ⟨l, rfl, fun w hw hl => ?_⟩
          have := (List.all_eq_true.1 h1) w hw
          rw [memN_iff.2 hl] at this
          cases this
    · refine clearR_iff (rs := rs) ?_ r h hu
      cases hm : memN r0.i un with
      | false => rw [hm, cond_false] at hc; exact hc
      | true =>
        rw [hm, cond_true] at hc
        cases h1 : clear1 W r0.vis with
        | false => rw [h1] at hc; cases hc
        | true => rw [h1, cond_true] at hc; exact hc
theorem okW_iff {W un : List Nat} {rs : List Rc} (h : okW W un rs = true) {w : Nat} (hw : w ∈ W) : ∀ r, r ∈ rs → r.i ∈ un → ∃ l, r.vis = some l ∧ w ∉ l := by
 cases W with
 | nil => simp at hw
 | cons x W =>
  intro r hr hu
  obtain ⟨l, h1, h2⟩ := clearR_iff (W := x :: W) h r hr hu
  exact ⟨l, h1, h2 w hw⟩
/-! facts of a trace -/
theorem viewI_top (V : Vw) (ops : List Oper) (i : Nat) (o : Oper) (s : DS) : (viewI V ops i o s).top = s.H.next := by
 unfold viewI viewR
 cases visK o.op <;> first | rfl | (cases unI ops i <;> rfl)
theorem Ctx.evo0 {P : Program} {call : Cal} {N : Nat} {ops : List Oper} {V : Vw} {n : Nat} {st : Nat → DS} {ex : Nat → Bool} {vv : Nat → Value} {Ws : Nat → List Nat} (c : Ctx P call N ops V n st ex vv Ws) {i : Nat} (hi : i < n) (hw : WFH (st i).H) :
  ∃ V', Evo V' (st i).H (st (i + 1)).H (Ws i) ∧ ∀ o, ops[i]? = some o → ex i = true → V' = viewI V ops i o (st i) := by
 obtain ⟨o, h1, h2, h3, h4⟩ := c.stp i hi
 cases he : ex i with
 | true =>
  obtain ⟨h5, _⟩ := h4.yes he
  exact ⟨_, (op_ok c.cal _ _ _ h5 (by rw [viewI_top]; exact Nat.le_refl _) hw).1, fun o' e1 _ => by rw [h1] at e1; cases e1; rfl⟩
 | false =>
  obtain ⟨_, h6, h7, _⟩ := h4.no he
  refine ⟨V, ?_, fun _ _ e => by cases e⟩
  rw [h6, h7]
  exact Evo.refl V _
theorem Ctx.wf {P : Program} {call : Cal} {N : Nat} {ops : List Oper} {V : Vw} {n : Nat} {st : Nat → DS} {ex : Nat → Bool} {vv : Nat → Value} {Ws : Nat → List Nat} (c : Ctx P call N ops V n st ex vv Ws) : ∀ {k : Nat}, k ≤ n → WFH (st k).H
 | 0, _ => c.wf0
 | k + 1, h => let ⟨_, h1, _⟩ := c.evo0 (i := k) (by omega) (c.wf (k := k) (by omega)); (h1.wf (c.wf (k := k) (by omega))).1
theorem Ctx.evo1 {P : Program} {call : Cal} {N : Nat} {ops : List Oper} {V : Vw} {n : Nat} {st : Nat → DS} {ex : Nat → Bool} {vv : Nat → Value} {Ws : Nat → List Nat} (c : Ctx P call N ops V n st ex vv Ws) {i : Nat} (hi : i < n) :
  ∃ V', Evo V' (st i).H (st (i + 1)).H (Ws i) ∧ ∀ o, ops[i]? = some o → ex i = true → V' = viewI V ops i o (st i) := c.evo0 hi (c.wf (Nat.le_of_lt hi))
theorem Ctx.next1 {P : Program} {call : Cal} {N : Nat} {ops : List Oper} {V : Vw} {n : Nat} {st : Nat → DS} {ex : Nat → Bool} {vv : Nat → Value} {Ws : Nat → List Nat} (c : Ctx P call N ops V n st ex vv Ws) {i : Nat} (hi : i < n) : (st i).H.next ≤ (st (i + 1)).H.next :=
 let ⟨_, h, _⟩ := c.evo1 hi; h.next
theorem Ctx.next {P : Program} {call : Cal} {N : Nat} {ops : List Oper} {V : Vw} {n : Nat} {st : Nat → DS} {ex : Nat → Bool} {vv : Nat → Value} {Ws : Nat → List Nat} (c : Ctx P call N ops V n st ex vv Ws) {i : Nat} : ∀ {k : Nat}, i ≤ k → k ≤ n → (st i).H.next ≤ (st k).H.next
  | 0, h1, h2 => by obtain rfl : i = 0 := by omega
                    exact Nat.le_refl _
  | k + 1, h1, h2 => by
    by_cases h : i = k + 1
    · rw [h]; exact Nat.le_refl _
    · exact Nat.le_trans (c.next (k := k) (by omega) (by omega)) (c.next1 (by omega))
theorem Ctx.wlt {P : Program} {call : Cal} {N : Nat} {ops : List Oper} {V : Vw} {n : Nat} {st : Nat → DS} {ex : Nat → Bool} {vv : Nat → Value} {Ws : Nat → List Nat} (c : Ctx P call N ops V n st ex vv Ws) {i : Nat} (hi : i < n) {id : Nat} (h : Eff st Ws i id) : id < (st (i + 1)).H.next := by
 rcases h with h | h
 ·obtain ⟨_, h1, _⟩ := c.evo1 hi
  exact (h1.wf (c.wf (Nat.le_of_lt hi))).2 id h
 ·exact h.2
theorem Ctx.noEff {P : Program} {call : Cal} {N : Nat} {ops : List Oper} {V : Vw} {n : Nat} {st : Nat → DS} {ex : Nat → Bool} {vv : Nat → Value} {Ws : Nat → List Nat} (c : Ctx P call N ops V n st ex vv Ws) {i : Nat} (hi : i < n) (he : ex i = false) {id : Nat} : ¬ Eff st Ws i id := by
 obtain ⟨o, h1, h2, h3, h4⟩ := c.stp i hi
 obtain ⟨_, h6, h7, _⟩ := h4.no he
 rintro (h | h)
 ·rw [h6] at h; simp at h
 ·rw [h7] at h; omega
theorem Ctx.recs {P : Program} {call : Cal} {N : Nat} {ops : List Oper} {V : Vw} {n : Nat} {st : Nat → DS} {ex : Nat → Bool} {vv : Nat → Value} {Ws : Nat → List Nat} (c : Ctx P call N ops V n st ex vv Ws) : ∀ {j : Nat}, j ≤ n →
    ∀ i o, i < j → ex i = true → ops[i]? = some o → (⟨i, (st i).H.next, (st (i + 1)).H.next, Ws i, (visL o.op).run (st i).T⟩ : Rc) ∈ (st j).rs ∨ ((visL o.op).run (st i).T = some [] ∧ Ws i = [] ∧ (st i).H.next = (st (i + 1)).H.next)
  | 0, hj, i, o, hi, _, _ => by omega
  | j + 1, hj, i, o, hi, he, ho => by
    obtain ⟨oj, h1, h2, h3, h4⟩ := c.stp j (by omega)
    by_cases hij : i = j
    · subst hij
      rw [ho] at h1; cases h1
      obtain ⟨_, _, _, h5⟩ := h4.yes he
      rw [h5]
      rcases recR_cases i (st i).H.next (st (i + 1)).H.next (Ws i) ((visL o.op).run (st i).T) (st i).rs with ⟨_, e1, e2, e3⟩ | e
      · exact .inr ⟨e1, e2, e3⟩
      · rw [e]; exact .inl (by simp)
    · rcases c.recs (j := j) (by omega) i o (by omega) he ho with h | h
      · left
        cases hex : ex j with
        | true =>
          obtain ⟨_, _, _, h5⟩ := h4.yes hex
          rw [h5]
          rcases recR_cases j (st j).H.next (st (j + 1)).H.next (Ws j) ((visL oj.op).run (st j).T) (st j).rs with ⟨e0, _⟩ | e
          · rw [e0]; exact h
          · rw [e]; simp [h]
        | false =>
          obtain ⟨_, _, _, _, h5⟩ := h4.no hex
          rw [h5]; exact h
      · exact .inr h
theorem Ctx.view {P : Program} {call : Cal} {N : Nat} {ops : List Oper} {V : Vw} {n : Nat} {st : Nat → DS} {ex : Nat → Bool} {vv : Nat → Value} {Ws : Nat → List Nat} (c : Ctx P call N ops V n st ex vv Ws) {j : Nat} (hj : j < n) {o : Oper} (ho : ops[j]? = some o) {id : Nat}
  (hs : (viewI V ops j o (st j)).see id = true) (hlt : id < (st j).H.next) : V.see id = true ∧ (∀ i, i < j → i ∉ ancAt (ancL ops []) j → ¬ Eff st Ws i id) ∧ (∀ l, (visL o.op).run (st j).T = some l → id ∈ l) := by
 have hV : inRs id V.hid = false → V.see id = true := fun h => see_iff.2 (.inr ⟨fun l e => (by rw [c.only] at e; cases e), h⟩)
 have hun : ∀ i, i < j → i ∉ ancAt (ancL ops []) j → i ∈ unI ops j := fun i h1 h2 => unI_mem.2 ⟨h1, h2⟩
 unfold viewI viewR at hs
 cases hk : visK o.op with
 | nil =>
  rw [hk] at hs
  rcases see_iff.1 hs with h | ⟨h, _⟩
  ·have h' : (st j).H.next ≤ id := h
   omega
  ·have := h [] rfl
   simp at this
 | _ =>
  rw [hk] at hs
  simp only at hs
  cases hu : unI ops j with
  | nil =>
   rw [hu] at hs
   rcases see_iff.1 hs with h | ⟨h1, h2⟩
   ·have h' : (st j).H.next ≤ id := h
    omega
   ·exact ⟨hV h2, fun i e1 e2 => by have := hun i e1 e2; rw [hu] at this; simp at this, fun l e => h1 l e⟩
  | cons u us =>
   rw [hu] at hs
   rcases see_iff.1 hs with h | ⟨h1, h2⟩
   ·have h' : (st j).H.next ≤ id := h
    omega
   ·have h2' : ¬ inRs id (hidR (u :: us) (st j).rs V.hid) = true := by
     have h2'' : inRs id (hidR (u :: us) (st j).rs V.hid) = false := h2
     rw [h2'']; simp
    rw [← hu] at h2'
    rw [hidR_iff] at h2'
    refine ⟨hV ?_, fun i e1 e2 hE => ?_, fun l e => h1 l e⟩
    ·cases hin : inRs id V.hid with
     | false => rfl
     | true => exact absurd (.inr hin) h2'
    ·have hin : i < n := by omega
     obtain ⟨oi, g1, _⟩ := c.stp i hin
     cases hex : ex i with
     | false => exact c.noEff hin hex hE
     | true =>
      rcases c.recs (Nat.le_of_lt hj) i oi e1 hex g1 with hr | ⟨_, g3, g4⟩
      ·refine h2' (.inl ⟨_, hr, hun i e1 e2, ?_⟩)
       rcases hE with hE | hE
       ·exact .inr hE
       ·exact .inl ⟨by show (st i).H.next ≠ (st (i + 1)).H.next; omega, hE⟩
      ·rcases hE with hE | hE
       ·rw [g3] at hE; simp at hE
       ·omega
theorem Ctx.seen {P : Program} {call : Cal} {N : Nat} {ops : List Oper} {V : Vw} {n : Nat} {st : Nat → DS} {ex : Nat → Bool} {vv : Nat → Value} {Ws : Nat → List Nat} (c : Ctx P call N ops V n st ex vv Ws) {j : Nat} (hj : j < n) {id : Nat} (hw : id ∈ Ws j) (hlt : id < (st j).H.next) :
  ex j = true ∧ V.see id = true ∧ (∀ i, i < j → i ∉ ancAt (ancL ops []) j → ¬ Eff st Ws i id) ∧ ∀ o, ops[j]? = some o → gt (viewI V ops j o (st j)) (st j).H id ≠ none := by
 obtain ⟨o, h1, h2, h3, h4⟩ := c.stp j hj
 cases hex : ex j with
 | false => exact absurd (.inl hw) (c.noEff hj hex)
 | true =>
  obtain ⟨V', g1, g2⟩ := c.evo1 hj
  have hV' := g2 o h1 hex
  subst hV'
  have hs := g1.seen id hw
  obtain ⟨v1, v2, _⟩ := c.view hj h1 hs hlt
  refine ⟨rfl, v1, v2, fun o' ho' => ?_⟩
  rw [h1] at ho'; cases ho'
  rw [gt_def, if_pos hs]
  exact g1.hadW id hw hlt
theorem Ctx.disj {P : Program} {call : Cal} {N : Nat} {ops : List Oper} {V : Vw} {n : Nat} {st : Nat → DS} {ex : Nat → Bool} {vv : Nat → Value} {Ws : Nat → List Nat} (c : Ctx P call N ops V n st ex vv Ws) {i j : Nat} (hij : i < j) (hj : j < n) (ha : i ∉ ancAt (ancL ops []) j) {id : Nat} (hE : Eff st Ws j id) : ¬ Eff st Ws i id := by
 intro hi
 have h1 := c.wlt (by omega) hi
 have h2 := c.next (i := i + 1) (k := j) (by omega) (by omega)
 rcases hE with hE | hE
 ·obtain ⟨_, _, h3, _⟩ := c.seen hj hE (by omega)
  exact h3 i hij ha hi
 ·omega
end Go.Proofs.YtfphlpglgcmljaaGreat.Ev
namespace Go.Proofs.YtfphlpglgcmljaaGreat.Ev
open Go Go.RowKit
set_option linter.unusedVariables false
noncomputable def LD (D : Nat → Prop) (st : Nat → DS) (Ws : Nat → List Nat) : Nat → Nat → Option Blk
 | 0, id => (st 0).H.tr.get id
 | k + 1, id => open Classical in if D k ∧ Eff st Ws k id then (st (k + 1)).H.tr.get id else LD D st Ws k id
noncomputable def TD (D : Nat → Prop) (st : Nat → DS) (ops : List Oper) (vv : Nat → Value) : Nat → Nat → Value
 | 0, t => getV (st 0).T t
 | k + 1, t => open Classical in if D k ∧ dstOf ops k = some t then vv k else TD D st ops vv k t
theorem LD_yes {D : Nat → Prop} {st : Nat → DS} {Ws : Nat → List Nat} {k id : Nat} (h : D k ∧ Eff st Ws k id) : LD D st Ws (k + 1) id = (st (k + 1)).H.tr.get id := by
 show (open Classical in if D k ∧ Eff st Ws k id then (st (k + 1)).H.tr.get id else LD D st Ws k id) = _
 exact if_pos h
theorem LD_no {D : Nat → Prop} {st : Nat → DS} {Ws : Nat → List Nat} {k id : Nat} (h : ¬ (D k ∧ Eff st Ws k id)) : LD D st Ws (k + 1) id = LD D st Ws k id := by
 show (open Classical in if D k ∧ Eff st Ws k id then (st (k + 1)).H.tr.get id else LD D st Ws k id) = _
 exact if_neg h
theorem TD_yes {D : Nat → Prop} {st : Nat → DS} {ops : List Oper} {vv : Nat → Value} {k t : Nat} (h : D k ∧ dstOf ops k = some t) : TD D st ops vv (k + 1) t = vv k := by
 show (open Classical in if D k ∧ dstOf ops k = some t then vv k else TD D st ops vv k t) = _
 exact if_pos h
theorem TD_no {D : Nat → Prop} {st : Nat → DS} {ops : List Oper} {vv : Nat → Value} {k t : Nat} (h : ¬ (D k ∧ dstOf ops k = some t)) : TD D st ops vv (k + 1) t = TD D st ops vv k t := by
 show (open Classical in if D k ∧ dstOf ops k = some t then vv k else TD D st ops vv k t) = _
 exact if_neg h
theorem LD_behind {D : Nat → Prop} {st : Nat → DS} {Ws : Nat → List Nat} {k id : Nat} : ∀ {m : Nat}, k ≤ m → (∀ i, k ≤ i → i < m → D i → ¬ Eff st Ws i id) → LD D st Ws m id = LD D st Ws k id
  | 0, h, _ => by obtain rfl : k = 0 := by omega
                  rfl
  | m + 1, h, hn => by
    by_cases e : k = m + 1
    · rw [e]
    · rw [LD_no (fun hc => hn m (by omega) (by omega) hc.1 hc.2)]
      exact LD_behind (by omega) fun i h1 h2 => hn i h1 (by omega)
theorem TD_behind {D : Nat → Prop} {st : Nat → DS} {ops : List Oper} {vv : Nat → Value} {k t : Nat} : ∀ {m : Nat}, k ≤ m → (∀ i, k ≤ i → i < m → D i → dstOf ops i ≠ some t) → TD D st ops vv m t = TD D st ops vv k t
  | 0, h, _ => by obtain rfl : k = 0 := by omega
                  rfl
  | m + 1, h, hn => by
    by_cases e : k = m + 1
    · rw [e]
    · rw [TD_no (fun hc => hn m (by omega) (by omega) hc.1 hc.2)]
      exact TD_behind (by omega) fun i h1 h2 => hn i h1 (by omega)
theorem LD_congr {D D' : Nat → Prop} {st : Nat → DS} {Ws : Nat → List Nat} {id : Nat} : ∀ {m k : Nat}, k ≤ m → LD D st Ws k id = LD D' st Ws k id → (∀ i, k ≤ i → i < m → Eff st Ws i id → (D i ↔ D' i)) → LD D st Ws m id = LD D' st Ws m id
  | 0, k, h, h0, _ => by obtain rfl : k = 0 := by omega
                         exact h0
  | m + 1, k, h, h0, hn => by
    by_cases e : k = m + 1
    · rw [← e]; exact h0
    · have ih := LD_congr (m := m) (by omega) h0 fun i h1 h2 => hn i h1 (by omega)
      by_cases hE : Eff st Ws m id
      · by_cases hD : D m
        · rw [LD_yes ⟨hD, hE⟩, LD_yes ⟨(hn m (by omega) (by omega) hE).1 hD, hE⟩]
        · rw [LD_no (fun hc => hD hc.1), LD_no (fun hc => hD ((hn m (by omega) (by omega) hE).2 hc.1)), ih]
      · rw [LD_no (fun hc => hE hc.2), LD_no (fun hc => hE hc.2), ih]
theorem TD_congr {D D' : Nat → Prop} {st : Nat → DS} {ops : List Oper} {vv : Nat → Value} {t : Nat} : ∀ {m k : Nat}, k ≤ m → TD D st ops vv k t = TD D' st ops vv k t → (∀ i, k ≤ i → i < m → dstOf ops i = some t → (D i ↔ D' i)) → TD D st ops vv m t = TD D' st ops vv m t
  | 0, k, h, h0, _ => by obtain rfl : k = 0 := by omega
                         exact h0
  | m + 1, k, h, h0, hn => by
    by_cases e : k = m + 1
    · rw [← e]; exact h0
    · have ih := TD_congr (m := m) (by omega) h0 fun i h1 h2 => hn i h1 (by omega)
      by_cases hE : dstOf ops m = some t
      · by_cases hD : D m
        · rw [TD_yes ⟨hD, hE⟩, TD_yes ⟨(hn m (by omega) (by omega) hE).1 hD, hE⟩]
        · rw [TD_no (fun hc => hD hc.1), TD_no (fun hc => hD ((hn m (by omega) (by omega) hE).2 hc.1)), ih]
      · rw [TD_no (fun hc => hE hc.2), TD_no (fun hc => hE hc.2), ih]
theorem Ctx.ld {P : Program} {call : Cal} {N : Nat} {ops : List Oper} {V : Vw} {n : Nat} {st : Nat → DS} {ex : Nat → Bool} {vv : Nat → Value} {Ws : Nat → List Nat} (c : Ctx P call N ops V n st ex vv Ws) {D : Nat → Prop} {id : Nat} : ∀ {k : Nat}, k ≤ n → (∀ i, i < k → Eff st Ws i id → D i) → LD D st Ws k id = (st k).H.tr.get id
  | 0, _, _ => rfl
  | k + 1, hk, hD => by
    by_cases hE : Eff st Ws k id
    · exact LD_yes ⟨hD k (by omega) hE, hE⟩
    · rw [LD_no (fun hc => hE hc.2), c.ld (k := k) (by omega) fun i h1 => hD i (by omega)]
      obtain ⟨V', h1, _⟩ := c.evo1 (i := k) (by omega)
      by_cases hlt : id < (st k).H.next
      · exact (h1.same id hlt fun h => hE (.inl h)).symm
      · have hge : ¬ id < (st (k + 1)).H.next := fun h => hE (.inr ⟨by omega, h⟩)
        have e1 : (st k).H.tr.get id = none := by
          cases hg : (st k).H.tr.get id with
          | none => rfl
          | some b => exact absurd (c.wf (k := k) (by omega) id (by rw [hg]; simp)) hlt
        have e2 : (st (k + 1)).H.tr.get id = none := by
          cases hg : (st (k + 1)).H.tr.get id with
          | none => rfl
          | some b => exact absurd (c.wf (k := k + 1) hk id (by rw [hg]; simp)) hge
        rw [e1, e2]
theorem dstOf_eq {ops : List Oper} {i : Nat} {o : Oper} (h : ops[i]? = some o) : dstOf ops i = o.dst := by unfold dstOf; rw [nth_eq, h]
theorem Ctx.td {P : Program} {call : Cal} {N : Nat} {ops : List Oper} {V : Vw} {n : Nat} {st : Nat → DS} {ex : Nat → Bool} {vv : Nat → Value} {Ws : Nat → List Nat} (c : Ctx P call N ops V n st ex vv Ws) {D : Nat → Prop} {t : Nat} (ht : t < 512) (hN : N ≤ 512) : ∀ {k : Nat}, k ≤ n → (∀ i, i < k → dstOf ops i = some t → D i) → TD D st ops vv k t = getV (st k).T t
  | 0, _, _ => rfl
  | k + 1, hk, hD => by
    obtain ⟨o, h1, h2, h3, h4⟩ := c.stp k (by omega)
    have hd := dstOf_eq h1
    obtain ⟨p1, p2, p3⟩ := operOk_parts h2
    have ih := c.td (D := D) ht hN (k := k) (by omega) fun i h1 => hD i (by omega)
    rw [h4.T]
    cases ho : o.dst with
    | none =>
      rw [ho] at hd
      rw [TD_no (fun hc => by rw [hd] at hc; exact absurd hc.2 (by simp)), ih]
      rfl
    | some d =>
      rw [ho] at hd p2
      have hlt : @LT.lt Nat _ d N := Nat.le_of_ble_eq_true p2
      show _ = getV ((putC d).run (vv k) (st k).T) t
      rw [getV_put ht (Nat.lt_of_lt_of_le hlt hN)]
      by_cases e : t = d
      · rw [if_pos e, TD_yes ⟨hD k (by omega) (by rw [hd, e]), by rw [hd, e]⟩]
      · rw [if_neg e, TD_no (fun hc => by rw [hd] at hc; exact e (Option.some.inj hc.2).symm), ih]
/-! the parts of drawOk -/
theorem drawOk_parts {ops : List Oper} {ancs : List (List Nat)} {j : Nat} {o : Oper} (h : drawOk ops ancs j o = true) :
  (∀ e, e ∈ o.after.toList → Region.binds .any e = true → e.on < j) ∧ (∀ t, .tmp t ∈ o.op.operands.toList → aheadOk ops ancs j t = true) ∧ (∀ g want d, o.guard = some (g, want) → dstOf ops g = some d → aheadOk ops ancs j d = true) ∧
  (∀ d, o.dst = some d → ∀ i, i < j → dstOf ops i = some d → i ∈ ancAt ancs j) := by
 unfold drawOk at h
 cases h1 : (o.after.toList.filter (Region.binds .any)).all (fun e => Nat.blt e.on j) with
 | false => rw [h1] at h; cases h
 | true =>
  rw [h1, cond_true] at h
  cases h2 : o.op.operands.toList.all (opndD ops ancs j) with
  | false => rw [h2] at h; cases h
  | true =>
   rw [h2, cond_true] at h
   cases h3 : guardD ops ancs j o.guard with
   | false => rw [h3] at h; cases h
   | true =>
    rw [h3, cond_true] at h
    refine ⟨fun e he hb => Nat.le_of_ble_eq_true ((List.all_eq_true.1 h1) e (List.mem_filter.2 ⟨he, hb⟩)), fun t ht => (List.all_eq_true.1 h2) _ ht, fun g want d hg hd => ?_, fun d hd i hi hdi => ?_⟩
    ·unfold guardD at h3
     rw [hg] at h3
     simp only [hd] at h3
     exact h3
    ·rw [hd] at h
     have h5 := (List.all_eq_true.1 h) i (List.mem_range.2 hi)
     rw [hdi] at h5
     have h6 : isD d (some d) = true := Nat.beq_refl d
     rw [h6, cond_true] at h5
     exact memN_iff.1 h5
theorem aheadOk_iff {ops : List Oper} {ancs : List (List Nat)} {j t : Nat} (h : aheadOk ops ancs j t = true) {i : Nat} (hi : i < ops.length) (hd : dstOf ops i = some t) : i ∈ ancAt ancs j ∨ i = j ∨ j ∈ ancAt ancs i := by
 have h5 := (List.all_eq_true.1 h) i (List.mem_range.2 hi)
 rw [hd] at h5
 have h6 : isD t (some t) = true := Nat.beq_refl t
 rw [h6, cond_true] at h5
 cases h7 : memN i (ancAt ancs j) with
 | true => exact .inl (memN_iff.1 h7)
 | false =>
  rw [h7, cond_false] at h5
  cases h8 : Nat.beq i j with
  | true => exact .inr (.inl (Nat.eq_of_beq_eq_true h8))
  | false =>
   rw [h8, cond_false] at h5
   exact .inr (.inr (memN_iff.1 h5))
theorem Ctx.anc_lt {P : Program} {call : Cal} {N : Nat} {ops : List Oper} {V : Vw} {n : Nat} {st : Nat → DS} {ex : Nat → Bool} {vv : Nat → Value} {Ws : Nat → List Nat} (c : Ctx P call N ops V n st ex vv Ws) : ∀ (j : Nat), j < n → ∀ i, i ∈ ancAt (ancL ops []) j → i < j := by
 intro j
 induction j using Nat.strongRecOn with
 | _ j ih =>
  intro hj i hi
  obtain ⟨o, h1, h2, h3, h4⟩ := c.stp j hj
  have hlt := (drawOk_parts h3).1
  obtain ⟨e, e1, e2, e3⟩ := (ancAt_mem h1 hlt).1 hi
  have := hlt e e1 e2
  rcases e3 with rfl | e3
  ·exact this
  ·have := ih e.on this (by omega) i e3; omega
def Closed (ops : List Oper) (D : Nat → Prop) : Prop := ∀ i o, D i → ops[i]? = some o → ∀ e, e ∈ o.after.toList → Region.binds .any e = true → D e.on
theorem Ctx.anc_D {P : Program} {call : Cal} {N : Nat} {ops : List Oper} {V : Vw} {n : Nat} {st : Nat → DS} {ex : Nat → Bool} {vv : Nat → Value} {Ws : Nat → List Nat} (c : Ctx P call N ops V n st ex vv Ws) {D : Nat → Prop} (hD : Closed ops D) : ∀ (j : Nat), j < n → (∀ o, ops[j]? = some o → ∀ e, e ∈ o.after.toList → Region.binds .any e = true → D e.on) → ∀ i, i ∈ ancAt (ancL ops []) j → D i := by
 intro j
 induction j using Nat.strongRecOn with
 | _ j ih =>
  intro hj hed i hi
  obtain ⟨o, h1, h2, h3, h4⟩ := c.stp j hj
  have hlt := (drawOk_parts h3).1
  obtain ⟨e, e1, e2, e3⟩ := (ancAt_mem h1 hlt).1 hi
  have hde := hed o h1 e e1 e2
  rcases e3 with rfl | e3
  ·exact hde
  ·have hl := hlt e e1 e2
   exact ih e.on hl (by omega) (fun o' ho' e' h5 h6 => hD e.on o' hde ho' e' h5 h6) i e3
structure Nxt (ops : List Oper) (n : Nat) (D : Nat → Prop) (j : Nat) : Prop where
 lt : j < n
 not : ¬ D j
 closed : Closed ops D
 edges : ∀ o, ops[j]? = some o → ∀ e, e ∈ o.after.toList → Region.binds .any e = true → D e.on
theorem Nxt.anc {P : Program} {call : Cal} {N : Nat} {ops : List Oper} {V : Vw} {n : Nat} {st : Nat → DS} {ex : Nat → Bool} {vv : Nat → Value} {Ws : Nat → List Nat} (c : Ctx P call N ops V n st ex vv Ws) {D : Nat → Prop} {j : Nat} (x : Nxt ops n D j) : ∀ i, i ∈ ancAt (ancL ops []) j → D i := c.anc_D x.closed j x.lt x.edges
theorem Nxt.not_anc {P : Program} {call : Cal} {N : Nat} {ops : List Oper} {V : Vw} {n : Nat} {st : Nat → DS} {ex : Nat → Bool} {vv : Nat → Value} {Ws : Nat → List Nat} (c : Ctx P call N ops V n st ex vv Ws) {D : Nat → Prop} {j : Nat} (x : Nxt ops n D j) {i : Nat} (hi : i < n) (hd : D i) : j ∉ ancAt (ancL ops []) i := fun h =>
 x.not (c.anc_D x.closed i hi (fun o ho e h1 h2 => x.closed i o hd ho e h1 h2) j h)
theorem Nxt.see {P : Program} {call : Cal} {N : Nat} {ops : List Oper} {V : Vw} {n : Nat} {st : Nat → DS} {ex : Nat → Bool} {vv : Nat → Value} {Ws : Nat → List Nat} (c : Ctx P call N ops V n st ex vv Ws) {D : Nat → Prop} {j : Nat} (x : Nxt ops n D j) {o : Oper} (ho : ops[j]? = some o) (hex : ex j = true) {id : Nat} {b : Blk}
  (h : gt (viewI V ops j o (st j)) (st j).H id = some b) : V.see id = true ∧ LD D st Ws n id = some b := by
 obtain ⟨h1, h2⟩ := gt_some h
 have hlt : id < (st j).H.next := c.wf (Nat.le_of_lt x.lt) id (by rw [h2]; simp)
 obtain ⟨v1, v2, v3⟩ := c.view x.lt ho h1 hlt
 refine ⟨v1, ?_⟩
 rw [LD_behind (k := j) (Nat.le_of_lt x.lt) fun i hji hin hDi hE => ?_, c.ld (Nat.le_of_lt x.lt) fun i hij hE => ?_]
 ·exact h2
 ·by_cases ha : i ∈ ancAt (ancL ops []) j
  ·exact x.anc c i ha
  ·exact absurd hE (v2 i hij ha)
 ·have hne : i ≠ j := fun e => x.not (e ▸ hDi)
  have hna := x.not_anc c hin hDi
  have hn1 := c.next (i := j) (k := i) hji (Nat.le_of_lt hin)
  rcases hE with hE | hE
  ·-- operation number i writes what j may see: it was asked not to
   have hlt2 : id < (st i).H.next := by omega
   obtain ⟨hexi, _, _, _⟩ := c.seen hin hE hlt2
   obtain ⟨oi, g1, g2, g3, g4⟩ := c.stp i hin
   obtain ⟨_, g5, _⟩ := g4.yes hexi
   have hu : j ∈ unI ops i := unI_mem.2 ⟨by omega, hna⟩
   rcases c.recs (Nat.le_of_lt hin) j o (by omega) hex ho with hr | ⟨hr, _, _⟩
   ·obtain ⟨l, e1, e2⟩ := okW_iff g5 hE _ hr hu
    exact e2 (v3 l e1)
   ·have := v3 [] hr
    simp at this
  ·omega
def plus (D : Nat → Prop) (j : Nat) : Nat → Prop := fun i => D i ∨ i = j
theorem Nxt.ld {P : Program} {call : Cal} {N : Nat} {ops : List Oper} {V : Vw} {n : Nat} {st : Nat → DS} {ex : Nat → Bool} {vv : Nat → Value} {Ws : Nat → List Nat} (c : Ctx P call N ops V n st ex vv Ws) {D : Nat → Prop} {j : Nat} (x : Nxt ops n D j) (id : Nat) :
  (Eff st Ws j id → LD (plus D j) st Ws n id = (st (j + 1)).H.tr.get id) ∧ (¬ Eff st Ws j id → LD (plus D j) st Ws n id = LD D st Ws n id) := by
 constructor
 ·intro hE
  rw [LD_behind (k := j + 1) (by have := x.lt; omega) fun i h1 h2 hDi hEi => ?_, LD_yes ⟨.inr rfl, hE⟩]
  have hDi' : D i := hDi.resolve_right (by omega)
  exact c.disj (i := j) (j := i) (by omega) h2 (x.not_anc c h2 hDi') hEi hE
 ·intro hE
  refine LD_congr (k := 0) (Nat.zero_le _) rfl fun i _ _ hEi => ⟨fun h => h.resolve_right fun e => hE (e ▸ hEi), .inl⟩
theorem Nxt.td {P : Program} {call : Cal} {N : Nat} {ops : List Oper} {V : Vw} {n : Nat} {st : Nat → DS} {ex : Nat → Bool} {vv : Nat → Value} {Ws : Nat → List Nat} (c : Ctx P call N ops V n st ex vv Ws) {D : Nat → Prop} {j : Nat} (x : Nxt ops n D j) {o : Oper} (ho : ops[j]? = some o) (t : Nat) :
  TD (plus D j) st ops vv n t = open Classical in if o.dst = some t then vv j else TD D st ops vv n t := by
 have hd := dstOf_eq ho
 by_cases e : o.dst = some t
 ·rw [if_pos e, TD_behind (k := j + 1) (by have := x.lt; omega) fun i h1 h2 hDi hdi => ?_, TD_yes ⟨.inr rfl, by rw [hd, e]⟩]
  have hDi' : D i := hDi.resolve_right (by omega)
  obtain ⟨oi, g1, g2, g3, g4⟩ := c.stp i h2
  rw [dstOf_eq g1] at hdi
  exact x.not_anc c h2 hDi' ((drawOk_parts g3).2.2.2 t hdi j (by omega) (by rw [hd, e]))
 ·rw [if_neg e]
  exact TD_congr (k := 0) (Nat.zero_le _) rfl fun i _ _ hdi => ⟨fun h => h.resolve_right fun e2 => e (by rw [← hd, ← e2]; exact hdi), .inl⟩
theorem Nxt.slot {P : Program} {call : Cal} {N : Nat} {ops : List Oper} {V : Vw} {n : Nat} {st : Nat → DS} {ex : Nat → Bool} {vv : Nat → Value} {Ws : Nat → List Nat} (c : Ctx P call N ops V n st ex vv Ws) {D : Nat → Prop} {j : Nat} (x : Nxt ops n D j) {t : Nat} (ht : t < 512) (hN : N ≤ 512) (ha : aheadOk ops (ancL ops []) j t = true) : TD D st ops vv n t = getV (st j).T t := by
 have hl := c.len
 have hxl := x.lt
 rw [TD_behind (k := j) (Nat.le_of_lt x.lt) fun i h1 h2 hDi hdi => ?_, c.td ht hN (Nat.le_of_lt x.lt) fun i hij hdi => ?_]
 ·rcases aheadOk_iff ha (by omega) hdi with h | h | h
  ·exact x.anc c i h
  ·omega
  ·have := c.anc_lt i (by have := x.lt; omega) j h; omega
 ·rcases aheadOk_iff ha (by omega) hdi with h | h | h
  ·have := c.anc_lt j x.lt i h; omega
  ·exact x.not (h ▸ hDi)
  ·exact x.not_anc c h2 hDi h
end Go.Proofs.YtfphlpglgcmljaaGreat.Ev
namespace Go.Proofs.YtfphlpglgcmljaaGreat.Ev
open Go Go.RowKit
set_option linter.unusedVariables false
structure Inv (N : Nat) (ops : List Oper) (V : Vw) (n : Nat) (st : Nat → DS) (vv : Nat → Value) (Ws : Nat → List Nat) (B : Nat) (g0 : Gh) (w0 : World) (ds : List Deferred) (D : Nat → Prop) (g : Gh) (a : Act) (w : World) : Prop where
 closed : Closed ops D
 tmps : N ≤ a.tmps.size
 slots : ∀ t, t < 512 → VR g (TD D st ops vv n t) (a.tmps.getD t undef)
 defers : a.defers = ds
 rows : HR g (fun id => if V.see id = true then LD D st Ws n id else none) w B
 fresh : ∀ i, i < n → ¬ D i → Fresh g (st i).H.next (st (i + 1)).H.next
 sub : Sub g0 g
 ext : ∀ id, id < (st 0).H.next ∨ (st n).H.next ≤ id → g id = g0 id
 os : w.os = w0.os
 tape : w.tape = w0.tape
 output : w.output = w0.output
 size : w0.heap.size ≤ w.heap.size
 frame : ∀ k, k < w0.heap.size → (∀ i, i < n → D i → ∀ id, id ∈ Ws i → ∀ cf, g id = some cf → cf.b ≠ k) → w.heap[k]? = w0.heap[k]?
 new : ∀ id cf, (st 0).H.next ≤ id → id < (st n).H.next → g id = some cf → w0.heap.size ≤ cf.b ∨ ∃ i, i < n ∧ D i ∧ ∃ id', id' ∈ Ws i ∧ ∃ cf', g0 id' = some cf' ∧ cf'.b = cf.b
 wb : ∀ i, i < n → D i → ∀ id, id ∈ Ws i → ∃ cf, g id = some cf ∧ B ≤ cf.b
theorem Closed.plus {ops : List Oper} {n : Nat} {D : Nat → Prop} {j : Nat} (x : Nxt ops n D j) : Closed ops (plus D j) := by
 intro i o hi ho e h1 h2
 rcases hi with hi | hi
 ·exact .inl (x.closed i o hi ho e h1 h2)
 ·subst hi; exact .inl (x.edges o ho e h1 h2)
theorem getD_put' {a : Act} {d : Option Nat} {t N : Nat} {v : Value} (hs : N ≤ a.tmps.size) (hd : dstOk N d = true) : (a.put d v).tmps.getD t undef = open Classical in if d = some t then v else a.tmps.getD t undef := by
 cases d with
 | none => rw [if_neg (by simp)]; rfl
 | some d =>
  have hlt : @LT.lt Nat _ d N := Nat.le_of_ble_eq_true hd
  show (a.tmps.setIfInBounds d v).getD t undef = _
  rw [getD_put (Nat.lt_of_lt_of_le hlt hs)]
  by_cases e : t = d
  ·rw [if_pos e, if_pos (by rw [e])]
  ·rw [if_neg e, if_neg (fun h => e (Option.some.inj h).symm)]
theorem put_size (a : Act) (d : Option Nat) (v : Value) : (a.put d v).tmps.size = a.tmps.size := by cases d <;> simp [Act.put]
theorem Inv.skip {P : Program} {call : Cal} {N : Nat} {ops : List Oper} {V : Vw} {n : Nat} {st : Nat → DS} {ex : Nat → Bool} {vv : Nat → Value} {Ws : Nat → List Nat} {B : Nat} {g0 : Gh} {w0 : World} {ds : List Deferred} {D : Nat → Prop} {g : Gh} {a : Act} {w : World} (c : Ctx P call N ops V n st ex vv Ws)
  (h : Inv N ops V n st vv Ws B g0 w0 ds D g a w) {j : Nat} (x : Nxt ops n D j) {o : Oper} (ho : ops[j]? = some o) (hex : ex j = false) : Inv N ops V n st vv Ws B g0 w0 ds (plus D j) g (a.put o.dst undef) w := by
 obtain ⟨o', h1, h2, h3, h4⟩ := c.stp j x.lt
 rw [ho] at h1; cases h1
 obtain ⟨e1, e2, e3, _⟩ := h4.no hex
 have hno : ∀ id, ¬ Eff st Ws j id := fun id => c.noEff x.lt hex
 have hD : ∀ i, i < n → plus D j i → ∀ id, id ∈ Ws i → D i := fun i _ hp id hid => hp.resolve_right fun e => hno id (.inl (e ▸ hid))
 refine ⟨Closed.plus x, by rw [put_size]; exact h.tmps, fun t ht => ?_, by rw [put_defers]; exact h.defers, ?_, fun i hi hn => h.fresh i hi fun hd => hn (.inl hd), h.sub, h.ext, h.os, h.tape, h.output, h.size, fun k hk hn => h.frame k hk fun i hi hd => hn i hi (.inl hd), fun id cf a1 a2 a3 => ?_, fun i hi hp id hid => h.wb i hi (hD i hi hp id hid) id hid⟩
 ·rw [x.td c ho t, getD_put' h.tmps (operOk_parts h2).2.1]
  by_cases e : o.dst = some t
  ·rw [if_pos e, if_pos e, e1]; exact VR.undef g
  ·rw [if_neg e, if_neg e]; exact h.slots t ht
 ·refine h.rows.sub fun id b hb => ?_
  split at hb
  ·rename_i hs
   rw [if_pos hs, ← (x.ld c id).2 (hno id)]
   exact hb
  ·cases hb
 ·rcases h.new id cf a1 a2 a3 with b | ⟨i, b1, b2, b3⟩
  ·exact .inl b
  ·exact .inr ⟨i, b1, .inl b2, b3⟩
theorem Inv.step {P : Program} {call : Cal} {N : Nat} {ops : List Oper} {V : Vw} {n : Nat} {st : Nat → DS} {ex : Nat → Bool} {vv : Nat → Value} {Ws : Nat → List Nat} {B : Nat} {g0 : Gh} {w0 : World} {ds : List Deferred} {D : Nat → Prop} {g : Gh} {a : Act} {w : World} (c : Ctx P call N ops V n st ex vv Ws)
  (h : Inv N ops V n st vv Ws B g0 w0 ds D g a w) {j : Nat} (x : Nxt ops n D j) {o : Oper} (ho : ops[j]? = some o) (hex : ex j = true) {g' : Gh} {v' : Value} {w' : World} (hv : VR g' (vv j) v') (af : After (viewI V ops j o (st j)) (st j).H (st (j + 1)).H (Ws j) B g w g' w') :
  Inv N ops V n st vv Ws B g0 w0 ds (plus D j) g' (a.put o.dst v') w' := by
 obtain ⟨o', h1, h2, h3, h4⟩ := c.stp j x.lt
 rw [ho] at h1; cases h1
 have hn0 := c.next (i := 0) (k := j) (Nat.zero_le _) (Nat.le_of_lt x.lt)
 have hn1 := c.next1 x.lt
 have hn2 := c.next (i := j + 1) (k := n) (by have := x.lt; omega) (Nat.le_refl _)
 obtain ⟨V', evo, hV'⟩ := c.evo1 x.lt
 have hV'' := hV' o ho hex
 subst hV''
 have hfr := h.fresh j x.lt x.not
 have wlt : ∀ id, id ∈ Ws j → id < (st (j + 1)).H.next := fun id hid => c.wlt x.lt (.inl hid)
 -- the rows that operation j writes and that were there
 have oldW : ∀ id, id ∈ Ws j → id < (st j).H.next → V.see id = true ∧ ∃ b, LD D st Ws n id = some b := by
  intro id hid hlt
  obtain ⟨_, s1, _, s2⟩ := c.seen x.lt hid hlt
  have s3 := s2 o ho
  cases hg : gt (viewI V ops j o (st j)) (st j).H id with
  | none => exact absurd hg s3
  | some b => exact ⟨s1, b, (x.see c ho hex hg).2⟩
 have notW : ∀ id, id ∈ Ws j → ∀ cf, g id = some cf → id < (st j).H.next := by
  intro id hid cf hg
  by_cases hlt : id < (st j).H.next
  ·exact hlt
  ·have := hfr id (by omega) (wlt id hid)
   rw [this] at hg; cases hg
 -- a row that it leaves alone lies in none of the blocks that it writes or makes
 have apart : ∀ id b cf, ¬ Eff st Ws j id → V.see id = true → LD D st Ws n id = some b → g id = some cf → cf.b < w.heap.size ∧ ∀ i, Eff st Ws j i → ∀ ci, g' i = some ci → ci.b ≠ cf.b := by
  intro id b cf hne hs hb hg
  obtain ⟨cf', cs, g1, g2, _⟩ := h.rows.row id b (by rw [if_pos hs]; exact hb)
  rw [hg] at g1; cases g1
  have hlt := lt_heap g2
  have hold : ∀ i ci, i ∈ Ws j → g i = some ci → ci.b ≠ cf.b := by
   intro i ci hi hgi hbb
   obtain ⟨s1, b2, s2⟩ := oldW i hi (notW i hi ci hgi)
   have := h.rows.inj i id b2 b ci cf (by rw [if_pos s1]; exact s2) (by rw [if_pos hs]; exact hb) hgi hg hbb
   exact hne (.inl (this ▸ hi))
  refine ⟨hlt, fun i hi ci hci hbb => ?_⟩
  by_cases hil : i < (st j).H.next
  ·rcases hi with hi | hi
   ·rw [af.ext i (.inl hil)] at hci
    exact hold i ci hi hci hbb
   ·omega
  ·have hi2 : i < (st (j + 1)).H.next := c.wlt x.lt hi
   rcases af.new i ci (by omega) hi2 hci with hsz | ⟨i', hi', ci', e1, e2⟩
   ·omega
   ·exact hold i' ci' hi' e1 (e2.trans hbb)
 have keep : ∀ id b cf, ¬ Eff st Ws j id → V.see id = true → LD D st Ws n id = some b → g id = some cf → w'.heap[cf.b]? = w.heap[cf.b]? := by
  intro id b cf hne hs hb hg
  obtain ⟨hlt, hap⟩ := apart id b cf hne hs hb hg
  exact af.frame cf.b hlt fun i hi ci hci => hap i (.inl hi) ci hci
 -- what lies in the rows that it writes or makes
 have rowE : ∀ id b, Eff st Ws j id → (st (j + 1)).H.tr.get id = some b → gt (viewI V ops j o (st j)) (st (j + 1)).H id = some b := by
  intro id b hE hb
  rw [gt_def]
  refine (if_pos ?_).trans hb
  rcases hE with hE | hE
  ·exact evo.seen id hE
  ·refine see_top ?_
   have : (viewI V ops j o (st j)).top = (st j).H.next := by
    unfold viewI viewR
    cases visK o.op <;> first | rfl | (cases unI ops j <;> rfl)
   rw [this]; exact hE.1
 have cases' : ∀ id b, (if V.see id = true then LD (plus D j) st Ws n id else none) = some b → (Eff st Ws j id ∧ gt (viewI V ops j o (st j)) (st (j + 1)).H id = some b) ∨ (¬ Eff st Ws j id ∧ V.see id = true ∧ LD D st Ws n id = some b) := by
  intro id b hb
  split at hb
  ·rename_i hs
   by_cases hE : Eff st Ws j id
   ·rw [(x.ld c id).1 hE] at hb
    exact .inl ⟨hE, rowE id b hE hb⟩
   ·rw [(x.ld c id).2 hE] at hb
    exact .inr ⟨hE, hs, hb⟩
  ·cases hb
 refine ⟨Closed.plus x, by rw [put_size]; exact h.tmps, fun t ht => ?_, by rw [put_defers]; exact h.defers, ⟨fun id b hb => ?_, fun id id' b b' cf cf' hb hb' hg hg' hbb => ?_⟩, fun i hi hn => ?_, h.sub.trans af.sub, fun id hid => ?_, af.os.trans h.os, af.tape.trans h.tape, af.output.trans h.output, Nat.le_trans h.size af.size, fun k hk hn => ?_, fun id cf a1 a2 a3 => ?_, fun i hi hp id hid => ?_⟩
 ·rw [x.td c ho t, getD_put' h.tmps (operOk_parts h2).2.1]
  by_cases e : o.dst = some t
  ·rw [if_pos e, if_pos e]; exact hv
  ·rw [if_neg e, if_neg e]; exact (h.slots t ht).mono af.sub
 ·rcases cases' id b hb with ⟨_, e1⟩ | ⟨e1, e2, e3⟩
  ·exact af.hr.row id b e1
  ·obtain ⟨cf, cs, g1, g2, g3, g4, g5, g6⟩ := h.rows.row id b (by rw [if_pos e2]; exact e3)
   refine ⟨cf, cs, af.sub _ _ g1, (keep id b cf e1 e2 e3 g1).trans g2, g3, g4, g5, fun k v hk => ?_⟩
   obtain ⟨u, f1, f2⟩ := g6 k v hk
   exact ⟨u, f1, f2.mono af.sub⟩
 ·have old : ∀ q bq cq, ¬ Eff st Ws j q → V.see q = true → LD D st Ws n q = some bq → g' q = some cq → g q = some cq := by
   intro q bq cq e1 e2 e3 e4
   obtain ⟨cf, _, g1, _⟩ := h.rows.row q bq (by rw [if_pos e2]; exact e3)
   have := af.sub _ _ g1
   rw [e4] at this
   rw [g1, ← this]
  rcases cases' id b hb with ⟨a0, e1⟩ | ⟨e1, e2, e3⟩ <;> rcases cases' id' b' hb' with ⟨b0, f1⟩ | ⟨f1, f2, f3⟩
  ·exact af.hr.inj id id' b b' cf cf' e1 f1 hg hg' hbb
  ·exact absurd hbb ((apart id' b' cf' f1 f2 f3 (old id' b' cf' f1 f2 f3 hg')).2 id a0 cf hg)
  ·exact absurd hbb.symm ((apart id b cf e1 e2 e3 (old id b cf e1 e2 e3 hg)).2 id' b0 cf' hg')
  ·exact h.rows.inj id id' b b' cf cf' (by rw [if_pos e2]; exact e3) (by rw [if_pos f2]; exact f3) (old id b cf e1 e2 e3 hg) (old id' b' cf' f1 f2 f3 hg') hbb
 ·have hij : i ≠ j := fun e => hn (.inr e)
  intro id q1 q2
  have hr := h.fresh i hi (fun hd => hn (.inl hd)) id q1 q2
  rw [af.ext id ?_]; exact hr
  by_cases hlt : i < j
  ·left
   have := c.next (i := i + 1) (k := j) (by omega) (Nat.le_of_lt x.lt); omega
  ·right
   have := c.next (i := j + 1) (k := i) (by omega) (Nat.le_of_lt hi); omega
 ·rw [af.ext id (by rcases hid with hid | hid <;> omega)]
  exact h.ext id hid
 ·rw [af.frame k (Nat.lt_of_lt_of_le hk h.size) fun i hi ci hci => hn j x.lt (.inr rfl) i hi ci hci]
  exact h.frame k hk fun i hi hd id hid cf hcf => hn i hi (.inl hd) id hid cf (af.sub _ _ hcf)
 ·by_cases hin : (st j).H.next ≤ id ∧ id < (st (j + 1)).H.next
  ·rcases af.new id cf hin.1 hin.2 a3 with hsz | ⟨i', hi', ci', e1, e2⟩
   ·exact .inl (Nat.le_trans h.size hsz)
   ·-- the block of a row that was there
    by_cases hl0 : i' < (st 0).H.next
    ·rw [h.ext i' (.inl hl0)] at e1
     exact .inr ⟨j, x.lt, .inr rfl, i', hi', ci', e1, e2⟩
    ·have hlt := notW i' hi' ci' e1
     rcases h.new i' ci' (by omega) (by omega) e1 with hsz | ⟨i, b1, b2, id'', b3, cf'', b4, b5⟩
     ·exact .inl (by omega)
     ·exact .inr ⟨i, b1, .inl b2, id'', b3, cf'', b4, b5.trans e2⟩
  ·rw [af.ext id (by omega)] at a3
   rcases h.new id cf a1 a2 a3 with b | ⟨i, b1, b2, b3⟩
   ·exact .inl b
   ·exact .inr ⟨i, b1, .inl b2, b3⟩
 ·rcases hp with hd | hd
  ·obtain ⟨cf, e1, e2⟩ := h.wb i hi hd id hid
   exact ⟨cf, af.sub _ _ e1, e2⟩
  ·subst hd; exact af.wb id hid
end Go.Proofs.YtfphlpglgcmljaaGreat.Ev
namespace Go.Proofs.YtfphlpglgcmljaaGreat.Ev
open Go Go.RowKit
set_option linter.unusedVariables false
/-! regions whose order is drawn -/
def WN (Ws : Nat → List Nat) : Nat → List Nat
 | 0 => []
 | k + 1 => Ws k ++ WN Ws k
theorem WN_mem {Ws : Nat → List Nat} {id : Nat} : ∀ {k : Nat}, id ∈ WN Ws k ↔ ∃ i, i < k ∧ id ∈ Ws i
  | 0 => by simp [WN]
  | k + 1 => by
    rw [WN, List.mem_append, WN_mem (k := k)]
    constructor
    · rintro (h | ⟨i, h1, h2⟩)
      · exact ⟨k, by omega, h⟩
      · exact ⟨i, by omega, h2⟩
    · rintro ⟨i, h1, h2⟩
      by_cases e : i = k
      · exact .inl (e ▸ h2)
      · exact .inr ⟨i, by omega, h2⟩
theorem Ctx.W {P : Program} {call : Cal} {N : Nat} {ops : List Oper} {V : Vw} {n : Nat} {st : Nat → DS} {ex : Nat → Bool} {vv : Nat → Value} {Ws : Nat → List Nat} (c : Ctx P call N ops V n st ex vv Ws) : ∀ {k : Nat}, k ≤ n → (st k).W = WN Ws k ++ (st 0).W
  | 0, _ => rfl
  | k + 1, h => by
    obtain ⟨o, h1, h2, h3, h4⟩ := c.stp k (by omega)
    cases hex : ex k with
    | true =>
      obtain ⟨_, _, h5, _⟩ := h4.yes hex
      rw [h5, c.W (k := k) (by omega), WN, List.append_assoc]
    | false =>
      obtain ⟨_, h5, _, h6, _⟩ := h4.no hex
      rw [h6, c.W (k := k) (by omega), WN, h5]; rfl
theorem Ctx.evoV {P : Program} {call : Cal} {N : Nat} {ops : List Oper} {V : Vw} {n : Nat} {st : Nat → DS} {ex : Nat → Bool} {vv : Nat → Value} {Ws : Nat → List Nat} (c : Ctx P call N ops V n st ex vv Ws) : ∀ {k : Nat}, k ≤ n → Evo V (st 0).H (st k).H (WN Ws k)
  | 0, _ => Evo.refl V _
  | k + 1, h => by
    obtain ⟨V', h1, _⟩ := c.evo1 (i := k) (by omega)
    have hn := c.next (i := 0) (k := k) (Nat.zero_le _) (by omega)
    have hV : Evo V (st k).H (st (k + 1)).H (Ws k) := ⟨h1.next, h1.same, h1.wf, fun id hid => by
      by_cases hlt : id < (st k).H.next
      · exact (c.seen (by omega) hid hlt).2.1
      · exact see_top (by have := c.top; omega), h1.had, h1.hadW⟩
    exact (c.evoV (k := k) (by omega)).trans hV
def left (listed : Array Bool) : Nat → Nat
 | 0 => 0
 | k + 1 => left listed k + (if listed.getD k false = true then 0 else 1)
theorem left_zero {listed : Array Bool} : ∀ {k : Nat}, left listed k = 0 → ∀ i, i < k → listed.getD i false = true
 | k + 1, h, i, hi => by
  rw [left] at h
  by_cases e : i = k
  ·subst e
   by_cases hl : listed.getD i false = true
   ·exact hl
   ·rw [if_neg hl] at h; omega
  · exact left_zero (k := k) (by omega) i (by omega)
theorem left_le {listed : Array Bool} : ∀ {k : Nat}, left listed k ≤ k
 | 0 => Nat.le_refl _
 | k + 1 => by rw [left]; have := left_le (listed := listed) (k := k); split <;> omega
theorem getD_same {listed : Array Bool} {i : Nat} (hi : i < listed.size) : (listed.setIfInBounds i true).getD i false = true := by simp [hi]
theorem left_set {listed : Array Bool} {i : Nat} (hs : i < listed.size) (hl : ¬ listed.getD i false = true) : ∀ {k : Nat}, left (listed.setIfInBounds i true) k + (if i < k then 1 else 0) ≤ left listed k
  | 0 => by simp [left]
  | k + 1 => by
    have ih := left_set hs hl (k := k)
    rw [left, left]
    by_cases e : i = k
    · subst e
      rw [if_pos (getD_same hs), if_neg hl, if_pos (by omega)]
      rw [if_neg (by omega)] at ih
      omega
    · rw [getD_set_ne false e]
      by_cases hik : i < k
      · rw [if_pos (show i < k + 1 by omega)]; rw [if_pos hik] at ih; omega
      · rw [if_neg (show ¬ i < k + 1 by omega)]; rw [if_neg hik] at ih; omega
theorem Inv.congr {N : Nat} {ops : List Oper} {V : Vw} {n : Nat} {st : Nat → DS} {vv : Nat → Value} {Ws : Nat → List Nat} {B : Nat} {g0 : Gh} {w0 : World} {ds : List Deferred} {D D' : Nat → Prop} {g : Gh} {a : Act} {w : World} (h : Inv N ops V n st vv Ws B g0 w0 ds D g a w) (e : ∀ i, D i ↔ D' i) : Inv N ops V n st vv Ws B g0 w0 ds D' g a w := by
 have : D = D' := funext fun i => propext (e i)
 subst this; exact h
theorem any_ok {P : Program} {call : Cal} {N : Nat} {A : Array Oper} {V : Vw} {n : Nat} {st : Nat → DS} {ex : Nat → Bool} {vv : Nat → Value} {Ws : Nat → List Nat} {B : Nat} {g0 : Gh} {w0 : World} {ds : List Deferred} (c : Ctx P call N A.toList V n st ex vv Ws) (hN : N ≤ 512) (ht : V.top ≤ (st 0).H.next) {Q : Exit → Act → World → Prop}
  (hQ : ∀ a w g, Inv N A.toList V n st vv Ws B g0 w0 ds (fun i => i < n) g a w → Q .normal a w) (hB : B ≤ w0.heap.size) : ∀ (fuel : Nat) (listed : Array Bool) (a : Act) (w : World) (g : Gh), listed.size = n → left listed n ≤ fuel → Inv N A.toList V n st vv Ws B g0 w0 ds (fun i => listed.getD i false = true) g a w →
   wpAny P .any A Q fuel listed a w := by
 have hn : A.toList.length = n := c.len
 have hdone : ∀ (listed : Array Bool), listed.size = n → (∀ i, i < n → listed.getD i false = true) → ∀ i, listed.getD i false = true ↔ i < n := by
  intro listed hs h i
  constructor
  ·intro hi
   by_cases hlt : i < n
   ·exact hlt
   ·rw [Array.getD_eq_getD_getElem?, Array.getElem?_eq_none (by omega)] at hi
    cases hi
  ·exact h i
 have hready : ∀ (listed : Array Bool), listed.size = n → Region.ready .any A listed = [] → ∀ i, i < n → listed.getD i false = true := by
  intro listed hs hr i
  induction i using Nat.strongRecOn with
  | _ i ih =>
   intro hi
   by_cases hl : listed.getD i false = true
   ·exact hl
   ·exfalso
    obtain ⟨o, h1, h2, h3, h4⟩ := c.stp i hi
    have hlt := (drawOk_parts h3).1
    have hmem : i ∈ Region.ready .any A listed := by
     refine mem_ready.2 ⟨?_, o, by simpa using h1, fun e he hb => ih e.on (hlt e (by simpa using he) hb) (by have := hlt e (by simpa using he) hb; omega)⟩
     rw [Array.getD_eq_getD_getElem?, Array.getElem?_eq_getElem (by omega)] at hl ⊢
     simpa using hl
    rw [hr] at hmem
    simp at hmem
 intro fuel
 induction fuel with
 | zero =>
  intro listed a w g hs hle hinv
  have hall := left_zero (listed := listed) (k := n) (by omega)
  refine ⟨?_, hQ a w g (hinv.congr (hdone listed hs hall))⟩
  cases hr : Region.ready .any A listed with
  | nil => rfl
  | cons i rs =>
   exfalso
   have hi : i ∈ Region.ready .any A listed := by rw [hr]; simp
   obtain ⟨h1, o, h2, _⟩ := mem_ready.1 hi
   have hin : i < n := by
    have := (Array.getElem?_eq_some_iff.1 h2).1
    rw [← hn]; simpa using this
   have h3 := hall i hin
   rw [Array.getD_eq_getD_getElem?, Array.getElem?_eq_getElem (by omega)] at h1 h3
   simp only [Option.getD_some] at h1 h3
   rw [h1] at h3; cases h3
 | succ fuel ih =>
  intro listed a w g hs hle hinv
  refine ⟨fun hr => hQ a w g (hinv.congr (hdone listed hs (hready listed hs hr))), fun j hj => ?_⟩
  obtain ⟨h1, o, h2, h3⟩ := mem_ready.1 hj
  have hjn : j < n := by
   have := (Array.getElem?_eq_some_iff.1 h2).1
   rw [← hn]; simpa using this
  have ho : A.toList[j]? = some o := by simpa using h2
  have hnl : ¬ listed.getD j false = true := by
   rw [Array.getD_eq_getD_getElem?, Array.getElem?_eq_getElem (by omega)] at h1 ⊢
   simp only [Option.getD_some] at h1 ⊢
   rw [h1]; simp
  have x : Nxt A.toList n (fun i => listed.getD i false = true) j := ⟨hjn, hnl, hinv.closed, fun o' ho' e he hb => by
   rw [ho] at ho'; cases ho'
   exact h3 e (by simpa using he) hb⟩
  obtain ⟨o', s1, s2, s3, s4⟩ := c.stp j hjn
  rw [ho] at s1; cases s1
  obtain ⟨p1, p2, p3⟩ := operOk_parts s2
  obtain ⟨q1, q2, q3, q4⟩ := drawOk_parts s3
  have hplus : ∀ i, plus (fun i => listed.getD i false = true) j i ↔ (listed.setIfInBounds j true).getD i false = true := by
   intro i
   by_cases e : j = i
   ·subst e; exact ⟨fun _ => getD_same (by omega), fun _ => .inr rfl⟩
   ·rw [getD_set_ne false e]
    exact ⟨fun h => h.resolve_right fun e' => e e'.symm, .inl⟩
  have hset : left (listed.setIfInBounds j true) n ≤ fuel := by
   have := left_set (listed := listed) (i := j) (by omega) hnl (k := n)
   rw [if_pos hjn] at this
   omega
  have hgd : Region.wanted o (yielded A a.tmps) = ex j := by
   rw [← s4.guard]
   refine guard_ok (g := g) p3 hinv.tmps fun g' want og d e1 e2 e3 => ?_
   have hd : dstOf A.toList g' = some d := by rw [dstOf_eq (by simpa using e2), e3]
   have hd512 : @LT.lt Nat _ d 512 := by
    unfold guardOk at p3
    rw [e1] at p3
    simp only [nth_eq, show A.toList[g']? = some og by simpa using e2, e3] at p3
    exact Nat.lt_of_lt_of_le (Nat.le_of_ble_eq_true p3) hN
   rw [← x.slot c hd512 hN (q3 g' want d e1 hd)]
   exact hinv.slots d hd512
  unfold wpOp
  simp only [h2]
  rw [hgd]
  cases hex : ex j with
  | false =>
   rw [if_neg (by simp)]
   exact ih _ _ _ g (by simpa using hs) hset ((hinv.skip c x ho hex).congr hplus)
  | true =>
   rw [if_pos rfl]
   left
   obtain ⟨y1, _⟩ := s4.yes hex
   have hnx := c.next (i := 0) (k := j) (Nat.zero_le _) (Nat.le_of_lt hjn)
   refine (op_ok c.cal _ _ _ y1 (by rw [viewI_top]; exact Nat.le_refl _) (c.wf (Nat.le_of_lt hjn))).2 g a w B (fun u hu => ?_) (hinv.rows.sub fun id b hb => ?_) (Nat.le_trans hB hinv.size) (by rw [viewI_top]; exact Nat.le_refl _) (c.wf (Nat.le_of_lt hjn)) (hinv.fresh j hjn hnl) _ _ fun g' v' w' hv haf => ?_
   ·have hu' := p1 u hu
    cases u with
    | tmp t =>
     have ht512 : t < 512 := Nat.le_of_ble_eq_true hu'
     show VR g (getV (st j).T t) (a.tmps.getD t undef)
     rw [← x.slot c ht512 hN (q2 t hu)]
     exact hinv.slots t ht512
    | const v => exact VR.plainB hu'
    | global n => cases hu'
    | func f => exact .plain rfl
   ·obtain ⟨b1, b2⟩ := x.see c ho hex hb
    rw [if_pos b1]; exact b2
   ·exact ih _ _ _ g' (by simpa using hs) hset ((hinv.step c x ho hex hv haf).congr hplus)
theorem drawB_ok {P : Program} (hm : P.follows .mixedOrders = true) {call : Cal} (hcal : CalOk P call) {N : Nat} {A : Array Oper} {rid : Nat} {V : Vw} {T : TT} {H : Hp} {W : List Nat} {e : Exit} {T' : TT} {H' : Hp} {W' : List Nat}
  (h : (drawB P call N A.toList).run V T H W = .mk e T' H' W') (i1 : V.top ≤ H.next) (i2 : WFH H) : e = .normal ∧ ∃ Wn, W' = Wn ++ W ∧ Evo V H H' Wn ∧ ∀ (g : Gh) (a : Act) (w : World) (B : Nat), TR g N T a.tmps → HR g (gt V H) w B → B ≤ w.heap.size → Fresh g H.next H'.next →
   ∀ Q : Exit → Act → World → Prop, (∀ a' w' g', a'.defers = a.defers → TR g' N T' a'.tmps → After V H H' Wn B g w g' w' → Q .normal a' w') → (Code.region rid A true).wp P Q a w := by
 have h' : (match V.only with | none => (regD P call N A.toList A.toList 0).run V T H W [] | some _ => Res.bad) = .mk e T' H' W' := h
 cases ho : V.only with
 | some l => rw [ho] at h'; cases h'
 | none =>
  rw [ho] at h'
  obtain ⟨he, st, ex, vv, Ws, r1, r2, r3, r4, r5⟩ := trace A.toList 0 h'
  rw [Nat.zero_add] at r2 r3 r4
  have c : Ctx P call N A.toList V A.toList.length st ex vv Ws := ⟨hcal, rfl, fun i hi => by
   obtain ⟨o, q1, q2⟩ := r5 i (Nat.zero_le _) (by omega)
   exact ⟨o, by rw [Nat.sub_zero] at q1; exact q1, q2⟩, by rw [r1], by rw [r1]; exact i2, by rw [r1]; exact i1, ho⟩
  have hW := c.W (k := A.toList.length) (Nat.le_refl _)
  have hE := c.evoV (k := A.toList.length) (Nat.le_refl _)
  rw [r4, r1] at hW
  rw [r3, r1] at hE
  refine ⟨he, _, hW, hE, fun g a w B hT hh hB hf Q hQ => ?_⟩
  refine wp_region_any hm ?_
  have hn : A.size = A.toList.length := by simp
  refine any_ok (B := B) (g0 := g) (w0 := w) (ds := a.defers) c hT.le (by rw [r1]; exact i1) (fun a' w' g' hinv => ?_) hB A.size _ a _ g (by simp) (by rw [← hn]; exact left_le) ?_
  ·-- all carried out
   have hld : ∀ id, LD (fun i => i < A.toList.length) st Ws A.toList.length id = H'.tr.get id := fun id => by rw [c.ld (Nat.le_refl _) fun i hi _ => hi, r3]
   have htd : ∀ t, t < 512 → TD (fun i => i < A.toList.length) st A.toList vv A.toList.length t = getV T' t := fun t ht => by rw [c.td ht hT.le (Nat.le_refl _) fun i hi _ => hi, r2]
   refine hQ a' w' g' hinv.defers ⟨hinv.tmps, hT.le, fun t ht => by rw [← htd t ht]; exact hinv.slots t ht⟩ ⟨hinv.sub, fun i hi => ?_, hinv.rows.sub fun id b hb => ?_, hinv.os, hinv.tape, hinv.output, hinv.size, fun k hk hkn => hinv.frame k hk fun i hi _ id hid cf hcf => hkn id (WN_mem.2 ⟨i, hi, hid⟩) cf hcf, fun id cf a1 a2 a3 => ?_, fun id hid => ?_⟩
   ·exact hinv.ext i (by rw [r3, r1]; exact hi)
   ·obtain ⟨b1, b2⟩ := gt_some hb
    rw [if_pos b1, hld]; exact b2
   ·rcases hinv.new id cf (by rw [r1]; exact a1) (by rw [r3]; exact a2) a3 with b | ⟨i, b1, _, id', b3, cf', b4⟩
    ·exact .inl b
    ·exact .inr ⟨id', WN_mem.2 ⟨i, b1, b3⟩, cf', b4⟩
   ·obtain ⟨i, b1, b2⟩ := WN_mem.1 hid
    exact hinv.wb i b1 b1 id b2
  ·-- none carried out
   have hno : ∀ i, ¬ (Array.replicate A.size false).getD i false = true := fun i hi => by
    rw [Array.getD_eq_getD_getElem?] at hi
    by_cases hlt : i < A.size
    ·simp [hlt] at hi
    ·simp [hlt] at hi
   refine ⟨fun i o hi => absurd hi (hno i), hT.size, fun t ht => ?_, rfl, ?_, fun i hi _ q h1 h2 => ?_, Sub.refl g, fun _ _ => rfl, rfl, rfl, rfl, Nat.le_refl _, fun _ _ _ => rfl, fun id cf a1 a2 a3 => ?_, fun i _ hi => absurd hi (hno i)⟩
   ·rw [TD_behind (k := 0) (Nat.zero_le _) fun i _ _ hi => absurd hi (hno i)]
    show VR g (getV (st 0).T t) _
    rw [r1]; exact hT.val t ht
   ·refine (HR.heap (w' := { w with drawn := w.drawn + 1 }) hh rfl).sub fun id b hb => ?_
    split at hb
    ·rename_i hs
     rw [LD_behind (k := 0) (Nat.zero_le _) fun i _ _ hi => absurd hi (hno i)] at hb
     have hb' : (st 0).H.tr.get id = some b := hb
     rw [r1] at hb'
     rw [gt_def, if_pos hs]; exact hb'
    ·cases hb
   ·have q1 := c.next (i := 0) (k := i) (Nat.zero_le _) (Nat.le_of_lt hi)
    have q2 := c.next (i := i + 1) (k := A.toList.length) (by omega) (Nat.le_refl _)
    rw [r1] at q1
    rw [r3] at q2
    have q1' : H.next ≤ (st i).H.next := q1
    exact hf q (by omega) (by omega)
   ·have := hf id (by rw [r1] at a1; exact a1) (by rw [r3] at a2; exact a2)
    rw [this] at a3; cases a3
end Go.Proofs.YtfphlpglgcmljaaGreat.Ev
namespace Go.Proofs.YtfphlpglgcmljaaGreat.Ev
open Go Go.RowKit
set_option linter.unusedVariables false
structure CodOk (P : Program) (N : Nat) (c : Code) (run : Vw → TT → Hp → List Nat → Res) : Prop where
 ok : ∀ {V : Vw} {T : TT} {H : Hp} {W : List Nat} {e : Exit} {T' : TT} {H' : Hp} {W' : List Nat}, run V T H W = .mk e T' H' W' → V.top ≤ H.next → WFH H →
 ∃ Wn, W' = Wn ++ W ∧ Evo V H H' Wn ∧ ∀ (g : Gh) (a : Act) (w : World) (B : Nat), TR g N T a.tmps → HR g (gt V H) w B → B ≤ w.heap.size → Fresh g H.next H'.next →
  c.wp P (fun e' a' w' => e' = e ∧ a'.defers = a.defers ∧ ∃ g', TR g' N T' a'.tmps ∧ After V H H' Wn B g w g' w') a w
theorem CodOk.bad {P : Program} {N : Nat} {c : Code} : CodOk P N c badC.run := ⟨fun h => by cases h⟩
theorem CodOk.same {P : Program} {N : Nat} {c : Code} {e0 : Exit} (h : ∀ (Q : Exit → Act → World → Prop) a w, Q e0 a w → c.wp P Q a w) : CodOk P N c (fun _ T H W => .mk e0 T H W) := by
 constructor
 intro V T H W e T' H' W' hr i1 i2
 cases hr
 exact ⟨[], rfl, Evo.refl V H, fun g a w B hT hh hB hf => h _ a w ⟨rfl, rfl, g, hT, After.refl hh⟩⟩
theorem seqR_cases {k : TT → Hp → List Nat → Res} {r : Res} {e : Exit} {T' : TT} {H' : Hp} {W' : List Nat} (h : seqR k r = .mk e T' H' W') : (∃ T1 H1 W1, r = .mk .normal T1 H1 W1 ∧ k T1 H1 W1 = .mk e T' H' W') ∨ (e ≠ .normal ∧ r = .mk e T' H' W') := by
 cases r with
 | bad => cases h
 | mk e1 T1 H1 W1 =>
  cases e1 with
  | normal => exact .inl ⟨T1, H1, W1, rfl, h⟩
  | _ => cases h; exact .inr ⟨by simp, rfl⟩
theorem CodOk.seq {P : Program} {N : Nat} {c1 c2 : Code} {r1 r2 : Vw → TT → Hp → List Nat → Res} (h1 : CodOk P N c1 r1) (h2 : CodOk P N c2 r2) : CodOk P N (.seq c1 c2) (fun V T H W => seqR (r2 V) (r1 V T H W)) := by
 constructor
 intro V T H W e T' H' W' hr i1 i2
 rcases seqR_cases hr with ⟨T1, H1, W1, e1, e2⟩ | ⟨hne, e1⟩
 ·obtain ⟨Wa, hWa, evA, wpA⟩ := h1.ok e1 i1 i2
  obtain ⟨Wb, hWb, evB, wpB⟩ := h2.ok e2 (Nat.le_trans i1 evA.next) (evA.wf i2).1
  refine ⟨Wb ++ Wa, by rw [hWb, hWa, List.append_assoc], evA.trans evB, fun g a w B hT hh hB hf => ?_⟩
  refine wp_seq (wp_mono (wpA g a w B hT hh hB (hf.left evB.next)) fun e' a' w' hq => ?_)
  obtain ⟨rfl, hd, g', hT', af⟩ := hq
  refine wp_mono (wpB g' a' w' B hT' af.hr (Nat.le_trans hB af.size) (af.fresh hf evA.next)) fun e'' a'' w'' hq => ?_
  obtain ⟨rfl, hd', g'', hT'', af'⟩ := hq
  exact ⟨rfl, hd'.trans hd, g'', hT'', af.trans af' evA.next evB.next⟩
 ·obtain ⟨Wa, hWa, evA, wpA⟩ := h1.ok e1 i1 i2
  refine ⟨Wa, hWa, evA, fun g a w B hT hh hB hf => ?_⟩
  refine wp_seq (wp_mono (wpA g a w B hT hh hB hf) fun e' a' w' hq => ?_)
  obtain ⟨rfl, hq'⟩ := hq
  cases e' with
  | normal => exact absurd rfl hne
  | _ => exact ⟨rfl, hq'⟩
theorem CodOk.cond {P : Program} {N : Nat} {c1 c2 : Code} {x : Operand} {b1 b2 : CB} (hx : opndOk x = true) (h1 : CodOk P N c1 b1.run) (h2 : CodOk P N c2 b2.run) : CodOk P N (.cond x c1 c2) (fun V T H W => condR b1 b2 V T H W ((opndB x).run T)) := by
 constructor
 intro V T H W e T' H' W' hr i1 i2
 have hxv : ∀ (g : Gh) (a : Act), TR g N T a.tmps → VR g ((opndB x).run T) (a.eval x) := fun g a hT => hT.opnd hx
 generalize (opndB x).run T = v at hr hxv
 unfold condR at hr
 split at hr
 ·obtain ⟨Wa, hWa, evA, wpA⟩ := h1.ok hr i1 i2
  exact ⟨Wa, hWa, evA, fun g a w B hT hh hB hf => wp_cond_true (hxv g a hT).of_bool (wpA g a w B hT hh hB hf)⟩
 ·obtain ⟨Wa, hWa, evA, wpA⟩ := h2.ok hr i1 i2
  exact ⟨Wa, hWa, evA, fun g a w B hT hh hB hf => wp_cond_false (hxv g a hT).of_bool (wpA g a w B hT hh hB hf)⟩
 ·cases hr
theorem blockR_cases {id : Nat} {r : Res} {e : Exit} {T' : TT} {H' : Hp} {W' : List Nat} (h : blockR id r = .mk e T' H' W') : ∃ e1, r = .mk e1 T' H' W' ∧ ((e1 = .exit id ∧ e = .normal) ∨ (e1 ≠ .exit id ∧ e = e1)) := by
 cases r with
 | bad => cases h
 | mk e1 T1 H1 W1 =>
  cases e1 with
  | exit j =>
   have h' : Bool.rec (motive := fun _ => Res) (.mk (.exit j) T1 H1 W1) (.mk .normal T1 H1 W1) (Nat.beq j id) = .mk e T' H' W' := h
   cases hb : Nat.beq j id with
   | true =>
    rw [hb] at h'
    cases h'
    exact ⟨_, rfl, .inl ⟨by rw [Nat.eq_of_beq_eq_true hb], rfl⟩⟩
   | false =>
    rw [hb] at h'
    cases h'
    refine ⟨_, rfl, .inr ⟨fun e => ?_, rfl⟩⟩
    cases e
    rw [show Nat.beq id id = true from Nat.beq_refl id] at hb
    cases hb
  | _ => cases h; exact ⟨_, rfl, .inr ⟨by simp, rfl⟩⟩
theorem CodOk.block {P : Program} {N : Nat} {c : Code} {id : Nat} {r : Vw → TT → Hp → List Nat → Res} (h : CodOk P N c r) : CodOk P N (.block id c) (fun V T H W => blockR id (r V T H W)) := by
 constructor
 intro V T H W e T' H' W' hr i1 i2
 obtain ⟨e1, h1, h2⟩ := blockR_cases hr
 obtain ⟨Wa, hWa, evA, wpA⟩ := h.ok h1 i1 i2
 refine ⟨Wa, hWa, evA, fun g a w B hT hh hB hf => wp_block (wp_mono (wpA g a w B hT hh hB hf) fun e' a' w' hq => ?_)⟩
 obtain ⟨rfl, hq'⟩ := hq
 rcases h2 with ⟨h3, h4⟩ | ⟨h3, h4⟩
 ·subst h3
  show (if id = id then _ else _)
  rw [if_pos rfl]
  exact ⟨h4.symm, hq'⟩
 ·subst h4
  cases e with
  | exit j =>
   show (if j = id then _ else _)
   rw [if_neg (fun e => h3 (by rw [e]))]
   exact ⟨rfl, hq'⟩
  | _ => exact ⟨rfl, hq'⟩
theorem CodOk.scope {P : Program} {N : Nat} {c : Code} {r : Vw → TT → Hp → List Nat → Res} (h : CodOk P N c r) : CodOk P N (.scope c) (fun V T H W => scopeR (r V T H W)) := by
 constructor
 intro V T H W e T' H' W' hr i1 i2
 have hr' : r V T H W = .mk e T' H' W' ∧ ∀ l, e ≠ .goto l := by
  have hr2 : scopeR (r V T H W) = .mk e T' H' W' := hr
  generalize r V T H W = res at hr2 ⊢
  unfold scopeR at hr2
  split at hr2
  ·cases hr2
  ·rename_i hn
   refine ⟨hr2, fun l e1 => ?_⟩
   subst e1
   exact hn _ _ _ _ hr2
 obtain ⟨Wa, hWa, evA, wpA⟩ := h.ok hr'.1 i1 i2
 refine ⟨Wa, hWa, evA, fun g a w B hT hh hB hf => wp_scope_straight (wp_mono (wpA g a w B hT hh hB hf) fun e' a' w' hq => ?_)⟩
 obtain ⟨rfl, hq'⟩ := hq
 cases e' with
 | goto l => exact absurd rfl (hr'.2 l)
 | _ => exact ⟨rfl, hq'⟩
theorem loop_ok {P : Program} {N : Nat} {c : Code} {b : CB} (h : CodOk P N c b.run) : ∀ (n : Nat) {V : Vw} {T : TT} {H : Hp} {W : List Nat} {e : Exit} {T' : TT} {H' : Hp} {W' : List Nat}, loopR b n V T H W = .mk e T' H' W' → V.top ≤ H.next → WFH H →
  ∃ Wn, W' = Wn ++ W ∧ Evo V H H' Wn ∧ e ≠ .normal ∧ ∀ (g : Gh) (a : Act) (w : World) (B : Nat), TR g N T a.tmps → HR g (gt V H) w B → B ≤ w.heap.size → Fresh g H.next H'.next →
   ∀ (f : Frame) (k : List Item) (cs : List Frame), ∃ a' w', (a'.defers = a.defers ∧ ∃ g', TR g' N T' a'.tmps ∧ After V H H' Wn B g w g' w') ∧ Arrives P (lone (f.at a (.code c :: .inLoop c :: k)) cs w) f k cs e a' w' := by
 intro n
 induction n with
 | zero => intro V T H W e T' H' W' hr; cases hr
 | succ n ih =>
  intro V T H W e T' H' W' hr i1 i2
  have hr' : seqR (loopR b n V) (b.run V T H W) = .mk e T' H' W' := hr
  rcases seqR_cases hr' with ⟨T1, H1, W1, e1, e2⟩ | ⟨hne, e1⟩
  ·obtain ⟨Wa, hWa, evA, wpA⟩ := h.ok e1 i1 i2
   obtain ⟨Wb, hWb, evB, hne, arrB⟩ := ih e2 (Nat.le_trans i1 evA.next) (evA.wf i2).1
   refine ⟨Wb ++ Wa, by rw [hWb, hWa, List.append_assoc], evA.trans evB, hne, fun g a w B hT hh hB hf f k cs => ?_⟩
   obtain ⟨e', a1, w1, hq, harr⟩ := wpA g a w B hT hh hB (hf.left evB.next) f (.inLoop c :: k) cs
   obtain ⟨rfl, hd, g', hT', af⟩ := hq
   obtain ⟨a2, w2, ⟨hd', g'', hT'', af'⟩, harr2⟩ := arrB g' a1 w1 B hT' af.hr (Nat.le_trans hB af.size) (af.fresh hf evA.next) f k cs
   exact ⟨a2, w2, ⟨hd'.trans hd, g'', hT'', af.trans af' evA.next evB.next⟩, .of_steps (Steps.trans harr (.one step_inLoop)) harr2⟩
  ·obtain ⟨Wa, hWa, evA, wpA⟩ := h.ok e1 i1 i2
   refine ⟨Wa, hWa, evA, hne, fun g a w B hT hh hB hf f k cs => ?_⟩
   obtain ⟨e', a1, w1, hq, harr⟩ := wpA g a w B hT hh hB hf f (.inLoop c :: k) cs
   obtain ⟨rfl, hq'⟩ := hq
   refine ⟨a1, w1, hq', ?_⟩
   cases e' with
   | normal => exact absurd rfl hne
   | exit id => exact .pass (x := .inLoop c) rfl (fun _ _ => .inl (by simp)) harr
   | goto l => exact .pass (x := .inLoop c) rfl (fun _ _ => .inl (by simp)) harr
   | ret => exact .pass (x := .inLoop c) rfl (fun _ _ => .inl (by simp)) harr
   | panic ch => exact .pass (x := .inLoop c) rfl (fun _ _ => .inl (by simp)) harr
   | outgrown => exact .pass (x := .inLoop c) rfl (fun _ _ => .inl (by simp)) harr
theorem CodOk.loop {P : Program} {N : Nat} {c : Code} {b : CB} {n : Nat} (h : CodOk P N c b.run) : CodOk P N (.loop c) (loopR b n) := by
 constructor
 intro V T H W e T' H' W' hr i1 i2
 obtain ⟨Wa, hWa, evA, _, arrA⟩ := loop_ok h n hr i1 i2
 refine ⟨Wa, hWa, evA, fun g a w B hT hh hB hf f k cs => ?_⟩
 obtain ⟨a1, w1, hq, harr⟩ := arrA g a w B hT hh hB hf f k cs
 exact ⟨e, a1, w1, ⟨rfl, hq⟩, .of_steps (.one step_loop) harr⟩
theorem CodOk.reg {P : Program} {call : Cal} (hcal : CalOk P call) {N : Nat} {A : Array Oper} {rid : Nat} : CodOk P N (.region rid A false) (regB P call N A.toList A.toList).run := by
 constructor
 intro V T H W e T' H' W' hr i1 i2
 obtain ⟨he, Wa, hWa, evA, wpA⟩ := regB_ok hcal A A.toList 0 rfl hr i1 i2
 refine ⟨Wa, hWa, evA, fun g a w B hT hh hB hf => wp_region ?_⟩
 have := wpA g a w B hT hh hB i1 i2 hf (fun e' a' w' => e' = e ∧ a'.defers = a.defers ∧ ∃ g', TR g' N T' a'.tmps ∧ After V H H' Wa B g w g' w') fun a' w' g' hd hT' af => ⟨he.symm, hd, g', hT', af⟩
 rw [List.range_eq_range', show A.size = A.toList.length by simp]
 exact this
theorem CodOk.draw {P : Program} (hm : P.follows .mixedOrders = true) {call : Cal} (hcal : CalOk P call) {N : Nat} {A : Array Oper} {rid : Nat} : CodOk P N (.region rid A true) (drawB P call N A.toList).run := by
 constructor
 intro V T H W e T' H' W' hr i1 i2
 obtain ⟨he, Wa, hWa, evA, wpA⟩ := drawB_ok (rid := rid) hm hcal hr i1 i2
 refine ⟨Wa, hWa, evA, fun g a w B hT hh hB hf => wpA g a w B hT hh hB hf _ fun a' w' g' hd hT' af => ⟨he.symm, hd, g', hT', af⟩⟩
theorem code_ok {P : Program} (hm : P.follows .mixedOrders = true) {call : Cal} (hcal : CalOk P call) {N : Nat} : ∀ c : Code, CodOk P N c (codeB P call N c).run
  | .skip => CodOk.same fun Q a w h => wp_skip h
  | .label _ => CodOk.same fun Q a w h => wp_label h
  | .exit id => CodOk.same fun Q a w h => wp_exit h
  | .ret => CodOk.same fun Q a w h => wp_ret h
  | .seq a b => (code_ok hm hcal a).seq (code_ok hm hcal b)
  | .cond x a b => by
    unfold codeB
    split
    · rename_i hx; exact CodOk.cond hx (code_ok hm hcal a) (code_ok hm hcal b)
    · exact CodOk.bad
  | .block id c => (code_ok hm hcal c).block
  | .loop b => by
    have h := code_ok hm hcal (N := N) b
    unfold codeB
    dsimp only
    generalize LOOPS = n
    exact h.loop
  | .scope c => (code_ok hm hcal c).scope
  | .region _ A false => CodOk.reg hcal
  | .region _ A true => CodOk.draw hm hcal
  | .goto _ => CodOk.bad
  | .rangeFunc _ _ _ _ => CodOk.bad
  | .refuse _ => CodOk.bad
/-! functions -/
theorem loadVar_conc {P : Program} {V : Vw} {H : Hp} {t : Nat} {u u' v : Value} {g : Gh} {w : World} {B : Nat} (h : loadA P V t u H = some v) (hu : VR g u u') (hh : HR g (gt V H) w B) : ∃ a' v', u' = .pointer (some a') ∧ (loadVar t a').run P w = .ok v' w ∧ VR g v v' := by
 obtain ⟨b, o, rfl⟩ := loadA_ptr h
 obtain ⟨a', rfl, ha⟩ := hu.of_ptr
 refine ⟨a', ?_⟩
 unfold loadA at h
 simp only at h
 split at h
 ·rename_i bl hb
  obtain ⟨c, cs, h1, h2, h3, h4, h5, h6⟩ := hh.row _ _ hb
  obtain ⟨c', g1, _, e⟩ := ha
  have g1' : g b = some c' := g1
  rw [h1] at g1'
  have hcc : c = c' := by simpa using g1'
  subst hcc
  have ha' : a' = ⟨c.b, c.s + o, none⟩ := e
  split at h
  ·rename_i hag
   obtain ⟨d, hd, ⟨_, h8⟩ | ⟨h7, _⟩⟩ := aggSz_some hag
   ·cases h8
   ·rw [nth_eq] at h
    obtain ⟨v', e1, e2⟩ := h6 _ _ h
    refine ⟨v', rfl, ?_, e2⟩
    have hag' : (isAgg t).run P w = .ok false w := by
     cases d <;> first | (simp [isAgg, run_underlying hd]; done) | cases h7
    have hc : w.cell? a' = some v' := by rw [ha']; exact (cell_row h2).trans e1
    unfold Go.loadVar
    simp [hag', Go.load, Sem.run, hc]
  ·rename_i n hag
   obtain ⟨d, hd, ⟨h7, h8⟩ | ⟨_, h8⟩⟩ := aggSz_some hag
   ·split at h
    ·rename_i hle
     cases h8
     cases h
     have hle' := Nat.le_of_ble_eq_true hle
     obtain ⟨l', f1, f2, f3⟩ := row_run (P := P) (n := 1) (m := P.cellsOf t) (size := P.cellsOf t) (cp := 1) hh hb (⟨c, h1, rfl, ha'⟩ : AR g ⟨b, o, none⟩ a') (by omega) hle'
     refine ⟨.agg l'.toArray, rfl, ?_, VR.aggL f1⟩
     have hag' : (isAgg t).run P w = .ok true w := by
      cases d <;> first | (simp [isAgg, run_underlying hd]; done) | cases h7
     cases hi : P.info? t with
     | none =>
      exfalso
      unfold Program.underlying at hd
      rw [hi] at hd
      cases hd
     | some inf =>
      have hl : (Go.loadCells a' inf.size).run P w = .ok l'.toArray w := by
       have := f3 w rfl
       rw [cellsOf_info hi] at this
       have e1 : Builtin.firstCells inf.size 1 (.slice (some a') 1 1) = Go.loadCells a' (1 * inf.size) := rfl
       rw [e1, Nat.one_mul] at this
       exact this
      unfold Go.loadVar
      simp [hag', run_size hi, hl]
    ·cases h
   ·cases h8
  ·cases h
 ·cases h
def resF (tmps : Array Value) : ResultVar → Sem Value
 | .tmp t => pure (tmps.getD t undef)
 | .cell a t => do loadVar t (← asAddr (tmps.getD a undef))
theorem resL_ok {P : Program} {V : Vw} {N : Nat} {T : TT} {H : Hp} {g : Gh} {tmps : Array Value} {w : World} {B : Nat} (hT : TR g N T tmps) (hh : HR g (gt V H) w B) : ∀ (rs : List ResultVar) (l : List Value), resL P V T H rs = some l → ∃ l', (rs.mapM (resF tmps)).run P w = .ok l' w ∧ LR g l l'
  | [], l, h => by cases h; exact ⟨[], rfl, LR.nil g⟩
  | .tmp t :: rs, l, h => by
    unfold resL at h
    split at h
    · rename_i m h1 h2
      cases h
      obtain ⟨l', e1, e2⟩ := resL_ok hT hh rs m h2
      refine ⟨tmps.getD t undef :: l', ?_, e2.cons (hT.val t (Nat.le_of_ble_eq_true h1))⟩
      rw [List.mapM_cons, Sem.run_bind, show (resF tmps (.tmp t)).run P w = .ok (tmps.getD t undef) w from rfl, Result.andThen_ok, Sem.run_bind, e1]
      rfl
    · cases h
  | .cell a t :: rs, l, h => by
    unfold resL at h
    split at h
    · rename_i v m h1 h3 h2
      cases h
      obtain ⟨l', e1, e2⟩ := resL_ok hT hh rs m h2
      obtain ⟨a', v', f1, f2, f3⟩ := loadVar_conc h3 (hT.val a (Nat.le_of_ble_eq_true h1)) hh
      refine ⟨v' :: l', ?_, e2.cons f3⟩
      have f4 : (resF tmps (.cell a t)).run P w = .ok v' w := by
        show (asAddr (tmps.getD a undef) >>= fun x => loadVar t x).run P w = _
        rw [f1]
        exact f2
      rw [List.mapM_cons, Sem.run_bind, f4, Result.andThen_ok, Sem.run_bind, e1]
      rfl
    · cases h
theorem results_ok {P : Program} {V : Vw} {N : Nat} {T : TT} {H : Hp} {g : Gh} {tmps : Array Value} {w : World} {B : Nat} {fn : Func} {v : Value} (hT : TR g N T tmps) (hh : HR g (gt V H) w B) (h : (resB P fn.results.toList).run V T H = some v) : ∃ v', (results fn tmps).run P w = .ok v' w ∧ VR g v v' := by
 unfold resB at h
 simp only at h
 split at h
 ·rename_i l hl
  cases h
  obtain ⟨l', e1, e2⟩ := resL_ok (P := P) hT hh fn.results.toList l hl
  refine ⟨if h : l'.toArray.size = 1 then l'.toArray[0] else .tuple l'.toArray, ?_, ?_⟩
  ·have hdef : results fn tmps = (fn.results.mapM (resF tmps) >>= fun vs => pure (if h : vs.size = 1 then vs[0] else .tuple vs)) := rfl
   rw [hdef, Array.mapM_eq_mapM_toList, map_eq_pure_bind, Sem.run_bind, Sem.run_bind, e1]
   rfl
  ·match l, e2 with
   | [], e2 => rw [e2.of_nil]; exact VR.tupleL (LR.nil g)
   | [x], e2 =>
    obtain ⟨x', t, rfl, h1, h2⟩ := e2.of_cons
    rw [h2.of_nil]
    exact h1
   | x :: y :: l, e2 =>
    obtain ⟨x', t, rfl, h1, h2⟩ := e2.of_cons
    obtain ⟨y', t', rfl, h3, h4⟩ := h2.of_cons
    rw [dif_neg (by simp)]
    exact VR.tupleL ((h4.cons h3).cons h1)
 ·cases h
theorem argsT_get : ∀ (vs : List Value) (i : Nat) (T : TT) (t : Nat), t < 512 → i + vs.length ≤ 512 → getV (argsT vs i T) t = if i ≤ t ∧ t < i + vs.length then vs.getD (t - i) undef else getV T t
 | [], i, T, t, ht, hi => by
  rw [if_neg (by simp)]; rfl
 | v :: vs, i, T, t, ht, hi => by
  rw [List.length_cons] at hi
  show getV (argsT vs (i + 1) ((putC i).run v T)) t = _
  rw [argsT_get vs (i + 1) _ t ht (by omega), getV_put ht (by omega)]
  by_cases e : t = i
  ·subst e
   rw [if_neg (by omega), if_pos rfl, if_pos (by simp)]
   simp
  ·rw [if_neg e]
   by_cases h1 : i + 1 ≤ t ∧ t < i + 1 + vs.length
   ·rw [if_pos h1, if_pos (by simp; omega), show t - i = (t - (i + 1)) + 1 by omega]
    simp
   ·rw [if_neg h1, if_neg (by simp; omega)]
theorem enter_TR {g : Gh} {N : Nat} {args : List Value} {args' : Array Value} (h : LR g args args'.toList) (hN : N ≤ 512) (hl : args.length ≤ N) : TR g N (argsT args 0 T0) (args' ++ Array.replicate (N - args'.size) undef) := by
 have hs : args'.size = args.length := by have := h.1; simpa using this.symm
 refine ⟨by simp; omega, hN, fun t ht => ?_⟩
 rw [argsT_get args 0 T0 t ht (by omega)]
 by_cases h1 : 0 ≤ t ∧ t < 0 + args.length
 ·rw [if_pos h1]
  have hlt : t < args.length := by omega
  have h2 : (args' ++ Array.replicate (N - args'.size) undef).getD t undef = args'[t]'(by omega) := by
   rw [Array.getD_eq_getD_getElem?, Array.getElem?_append, if_pos (by omega), Array.getElem?_eq_getElem (by omega)]
   rfl
  rw [h2, Nat.sub_zero, List.getD_eq_getElem?_getD, List.getElem?_eq_getElem hlt]
  exact h.2 t _ _ (List.getElem?_eq_getElem hlt) (by simp [show t < args'.size by omega])
 ·rw [if_neg h1, getV_T0 ht]
  have h2 : (args' ++ Array.replicate (N - args'.size) undef).getD t undef = undef := by
   rw [Array.getD_eq_getD_getElem?, Array.getElem?_append, if_neg (by omega)]
   by_cases h3 : t - args'.size < N - args'.size
   ·simp [h3]
   ·simp [h3]
  rw [h2]
  exact VR.undef g
theorem below_mem {n : Nat} : ∀ {l : List Nat} {i : Nat}, i ∈ below n l ↔ i ∈ l ∧ i < n
  | [], i => by simp [below]
  | w :: l, i => by
    show i ∈ Bool.rec (motive := fun _ => List Nat) (below n l) (w :: below n l) (Nat.blt w n) ↔ _
    by_cases h : w < n
    · rw [show Nat.blt w n = true from Nat.ble_eq_true_of_le h]
      show i ∈ w :: below n l ↔ _
      rw [List.mem_cons, List.mem_cons, below_mem (l := l)]
      constructor
      · rintro (rfl | ⟨h1, h2⟩)
        · exact ⟨.inl rfl, h⟩
        · exact ⟨.inr h1, h2⟩
      · rintro ⟨rfl | h1, h2⟩
        · exact .inl rfl
        · exact .inr ⟨h1, h2⟩
    · rw [show Nat.blt w n = false by
        cases hb : Nat.blt w n with
        | false => rfl
        | true => exact absurd (Nat.le_of_ble_eq_true hb) h]
      show i ∈ below n l ↔ _
      rw [List.mem_cons, below_mem (l := l)]
      constructor
      · rintro ⟨h1, h2⟩; exact ⟨.inr h1, h2⟩
      · rintro ⟨rfl | h1, h2⟩
        · exact absurd h2 h
        · exact ⟨h1, h2⟩
theorem Evo.below {V : Vw} {H H' : Hp} {W : List Nat} (h : Evo V H H' W) : Evo V H H' (Ev.below H.next W) :=
 ⟨h.next, fun i hi hn => h.same i hi fun hw => hn (below_mem.2 ⟨hw, hi⟩), fun hw => ⟨(h.wf hw).1, fun i hi => (h.wf hw).2 i (below_mem.1 hi).1⟩, fun i hi => h.seen i (below_mem.1 hi).1, h.had, fun i hi => h.hadW i (below_mem.1 hi).1⟩
theorem After.filter {V : Vw} {H H' : Hp} {W : List Nat} {B : Nat} {g g' : Gh} {w w' : World} (a : After V H H' W B g w g' w') (e : Evo V H H' W) (hw : WFH H) (hf : Fresh g H.next H'.next) : After V H H' (Ev.below H.next W) B g w g' w' := by
 have hin : ∀ j, j ∈ W → ∀ c, g j = some c → j ∈ Ev.below H.next W := fun j hj c hc => by
  refine below_mem.2 ⟨hj, ?_⟩
  by_cases h : j < H.next
  ·exact h
  ·have := hf j (by omega) ((e.wf hw).2 j hj)
   rw [this] at hc; cases hc
 refine ⟨a.sub, a.ext, a.hr, a.os, a.tape, a.output, a.size, fun k hk hn => a.frame k hk fun i hi c hc hbb => ?_, fun i c h1 h2 h3 => (a.new i c h1 h2 h3).imp id fun ⟨j, hj, cj, e1, e2⟩ => ⟨j, hin j hj cj e1, cj, e1, e2⟩, fun i hi => a.wb i (below_mem.1 hi).1⟩
 by_cases hlt : i < H.next
 ·exact hn i (below_mem.2 ⟨hi, hlt⟩) c hc hbb
 ·rcases a.new i c (by omega) ((e.wf hw).2 i hi) hc with h | ⟨j, hj, cj, e1, e2⟩
  ·omega
  ·exact hn j (hin j hj cj e1) cj (a.sub _ _ e1) (e2.trans hbb)
theorem retR_cases {r : RB} {n : Nat} {V : Vw} {res : Res} {v : Value} {H' : Hp} {W : List Nat} (h : retR r n V res = .mk v H' W) : ∃ e T W0, res = .mk e T H' W0 ∧ (e = .normal ∨ e = .ret) ∧ r.run V T H' = some v ∧ W = below n W0 := by
 have key : ∀ T H1 W0, retO n H1 W0 (r.run V T H1) = .mk v H' W → H1 = H' ∧ r.run V T H1 = some v ∧ W = below n W0 := by
  intro T H1 W0 hr
  unfold retO at hr
  split at hr
  ·rename_i u hu; cases hr; exact ⟨rfl, hu, rfl⟩
  ·cases hr
 unfold retR at h
 split at h
 ·rename_i T H1 W0
  obtain ⟨rfl, h2, h3⟩ := key T H1 W0 h
  exact ⟨_, T, W0, rfl, .inl rfl, h2, h3⟩
 ·rename_i T H1 W0
  obtain ⟨rfl, h2, h3⟩ := key T H1 W0 h
  exact ⟨_, T, W0, rfl, .inr rfl, h2, h3⟩
 ·cases h
theorem call_ok {P : Program} (hm : P.follows .mixedOrders = true) : ∀ n, CalOk P (callN P n)
  | 0 => fun f args V H v H' W h => by cases h
  | n + 1 => by
    intro f args V H v H' W h i1 i2
    have h' : (fnB P (callN P n) f).run args V H = .mk v H' W := h
    unfold fnB at h'
    split at h'
    · cases h'
    · rename_i fn hfn
      split at h'
      · cases h'
      · rename_i c hc
        split at h'
        · rename_i hname hsz
          have h'' : (match Nat.ble args.length fn.ntmps with | true => retR (resB P fn.results.toList) H.next V ((codeB P (callN P n) fn.ntmps c).run V (argsT args 0 T0) H []) | false => Out.bad) = .mk v H' W := h'
          cases hal : Nat.ble args.length fn.ntmps with
          | false => rw [hal] at h''; cases h''
          | true =>
            rw [hal] at h''
            obtain ⟨e, T, W0, e1, e2, e3, e4⟩ := retR_cases h''
            obtain ⟨Wn, hW, evo, wp⟩ := (code_ok hm (call_ok hm n) c).ok e1 i1 i2
            rw [List.append_nil] at hW
            subst hW
            subst e4
            refine ⟨evo.below, fun args' w => ?_, fun g args' w B ha hh hB ht hwf hf => ?_⟩
            · simp only [beq_eq_false_iff_ne] at hname
              simp [callFunc, hfn, hname, hc]
            · refine calls_of_wp hfn hc (wp_mono (wp g _ w B (enter_TR ha (Nat.le_of_ble_eq_true hsz) (Nat.le_of_ble_eq_true hal)) hh hB hf) fun e' a' w' hq => ?_)
              obtain ⟨rfl, hd, g', hT', af⟩ := hq
              obtain ⟨v', r1, r2⟩ := results_ok hT' af.hr e3
              have hfin : a'.defers = [] ∧ ∃ u, (results fn a'.tmps).run P w' = .ok u w' ∧ ∃ v' g', Ending.returned u = .returned v' ∧ VR g' v v' ∧ After V H H' (below H.next W0) B g w g' w' := ⟨hd, v', r1, v', g', rfl, r2, af.filter evo i2 hf⟩
              rcases e2 with rfl | rfl
              · exact hfin
              · exact hfin
        · cases h'
theorem call_true {P : Program} (hm : P.follows .mixedOrders = true) {n f : Nat} (h : isTrue (evCall P n f) = true) (w : World) : Calls P f #[] w fun e w' => e = .returned (.bool true) ∧ Below w.heap.size w w' := by
 unfold evCall at h
 cases hc : callN P n f [] V0 H0 with
 | bad => rw [hc] at h; cases h
 | mk v H' W =>
  rw [hc] at h
  have hv : v = .bool true := by
   unfold isTrue at h
   split at h
   ·rename_i heq; cases heq; rfl
   ·cases h
  subst hv
  have hwf : WFH H0 := fun i hi => absurd rfl hi
  obtain ⟨h1, _, h3⟩ := call_ok hm n f [] V0 H0 _ H' W hc (Nat.le_refl _) hwf
  refine (h3 (fun _ => none) #[] w w.heap.size (LR.nil _) ⟨fun i bl hi => ?_, fun i j bi bj ci cj hi => ?_⟩ (Nat.le_refl _) (Nat.le_refl _) hwf (fun _ _ _ => rfl)).mono fun e w' hr => ?_
  ·rw [gt_def] at hi
   have : (H0.tr.get i) = none := rfl
   rw [this, ite_self] at hi; cases hi
  ·rw [gt_def] at hi
   have : (H0.tr.get i) = none := rfl
   rw [this, ite_self] at hi; cases hi
  ·obtain ⟨v', g', rfl, hv, af⟩ := hr
   rw [hv.of_bool]
   exact ⟨rfl, af.below (Nat.le_refl _)⟩
end Go.Proofs.YtfphlpglgcmljaaGreat.Ev
