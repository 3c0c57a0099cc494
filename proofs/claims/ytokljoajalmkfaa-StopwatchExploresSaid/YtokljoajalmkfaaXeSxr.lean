/- Part of the proof of stopwatch_explores_proved: Sxr. -/
import Derived.RangeFuncIn
import Derived.RangeFuncLeaves
import Derived.RangeFuncRecord
import Derived.Test.YtokljoajalmkfaaXeSxe
namespace Go.Proofs.Ytokljoajalmkfaa
open Go Go.RowKit
set_option linter.unusedVariables false
set_option linter.unusedSimpArgs false
set_option linter.unnecessarySimpa false
def Yields (P : Program) (l : Nat) (args : Array Value) (w : World) (R : Value → World → Prop) : Prop :=
 ∃ f tmps assign body, (Instr.yield l args).run P w = .ok (.round l f tmps assign body) w ∧ RoundIn Fence.wide 0 P l f tmps assign body w fun e w' => ∃ v, e = .returned v ∧ R v w'
def Cly (P : Program) (n : Nat) (ds : List Deferred) (K : Kn) (o : Oper) (l : Nat) (vs : List Value) : Prop := ∀ a w, Kw n ds K a → (execOp a.eval o).run P w = (Instr.yield l vs.toArray).run P w
section
variable {P : Program} {ops : Array Oper} {N : Act → World → Prop} {n : Nat} {ds : List Deferred} {l : List Oper} {K : Kn} {S : World → Prop} {w0 : World} {D : List Nat} {Hs : List Rs} {dst : Option Nat} {ty : Nat} {pos : String} {af : Array Edge} {g : Option (Nat × Bool)} {o : Oper}
theorem Cly.value {c : Operand} {r : Nat} {xs : List Operand} {ats : Array Nat} {us : List Value} (hc : opd K c = some (.func (.yield r) #[] #[])) (hx : opds K xs = some us) : Cly P n ds K ⟨dst, .call { callee := .value c, args := xs.toArray, argTypes := ats }, ty, pos, af, g⟩ r us := fun a w ha => by
 simp [execOp, resolve, ha.eval hc, Deferred.ofValue, invoke, ha.evals hx]
theorem SL.callY {σ : Type} {I : σ → Prop} {V : σ → Value} {S' : σ → World → Prop} {d r : Nat} {vs : List Value} (hd : o.dst = some d) (hn : (Nat.blt d n) = true) (hg : Gd ops n ds K o true) (hcl : Cly P n ds K o r vs)
  (hc : ∀ w, S w → Yields P r vs.toArray w fun v w' => ∃ s, I s ∧ v = V s ∧ S' s w') (h : ∀ s, I s → SL P ops N n ds l ((d, V s) :: K) (S' s)) : SL P ops N n ds (o :: l) K S := fun a w ha hw => by
 have hlt : d < n := by simpa [Nat.blt_eq] using hn
 obtain ⟨f, tmps, assign, body, h1, h2⟩ := hc w hw
 show oneW P ops o (seqW P ops N l) a w
 unfold oneW opW
 rw [if_pos (hg a ha), hcl a w ha, h1, hd]
 refine h2.mono fun e w' he => ?_
 obtain ⟨v, he, s, hI, hv, hs⟩ := he
 subst hv
 exact ⟨V s, he, h s hI _ _ (ha.put hlt _) hs⟩
end
def Rs.lp (l d fn : Nat) (tmps : Array Value) (ps : Array Nat) (assign body : Code) (st : LoopState) (pe : Option Code) : Rs := Rs.obj l (.loop { state := st, pending := pe, fn, tmps, params := ps, assign, body, defers := d })
def Rs.marks (bs : List Nat) : Rs where
 dom := bs
 ok w := bs.Nodup ∧ ∀ b, b ∈ bs → w.heap[b]? = some (.deferred (some []))
 loc w w' h hw := ⟨hw.1, fun b hb => (h b hb).trans (hw.2 b hb)⟩
 inh w hw b hb := (Array.getElem?_eq_some_iff.1 (hw.2 b hb)).1
def mkD (bs : List Nat) : List Deferred := bs.map fun b => { target := .collected b, args := #[] }
section
variable {P : Program} {n : Nat} {ds : List Deferred} {K : Kn} {S : World → Prop} {w0 w : World} {D : List Nat} {Hs : List Rs}
theorem Wd.putObj {r r' : Rs} {i b : Nat} {o : Obj} (h : Wd w0 D Hs w) (hi : nthR Hs i = some r) (hb : b ∈ r.dom) (hr : r'.ok (w.putObj b o)) (hd : ∀ c, c ∈ r'.dom → c ∈ r.dom) : Wd w0 D (setR Hs i r') (w.putObj b o) :=
 h.step hi rfl rfl rfl (by simp) (fun c _ hc => World.putObj_heap_other (fun e => hc (e ▸ hb))) hr (fun c hc => .inl (hd c hc))
theorem Wd.lp {l d fn : Nat} {tmps : Array Value} {ps : Array Nat} {assign body : Code} {st st' : LoopState} {pe pe' : Option Code} {i : Nat} (h : Wd w0 D Hs w) (hi : nthR Hs i = some (Rs.lp l d fn tmps ps assign body st pe)) :
  w.heap[l]? = some (.loop { state := st, pending := pe, fn, tmps, params := ps, assign, body, defers := d }) ∧ Wd w0 D (setR Hs i (Rs.lp l d fn tmps ps assign body st' pe')) (w.putObj l (.loop { state := st', pending := pe', fn, tmps, params := ps, assign, body, defers := d })) := by
 have h1 : w.heap[l]? = some (.loop { state := st, pending := pe, fn, tmps, params := ps, assign, body, defers := d }) := h.ok i _ hi
 exact ⟨h1, h.putObj hi (by simp [Rs.lp, Rs.obj]) (World.putObj_heap_same (Array.getElem?_eq_some_iff.1 h1).1) (fun c hc => hc)⟩
theorem Wd.tail {r : Rs} (h : Wd w0 D (r :: Hs) w) : Wd w0 D Hs w :=
 ⟨h.os, h.tape, h.output, h.size, h.block, fun i q hq => h.ok (i + 1) q hq, fun i q hq => h.dom (i + 1) q hq, fun i j q q' hne hq hq' => h.apart (i + 1) (j + 1) q q' (by omega) hq hq'⟩
/-! ### a round -/
structure KT (n : Nat) (K : Kn) (t : Array Value) : Prop where
 size : t.size = n
 has : ∀ i v, look K i = some v → t[i]? = some v
theorem Kw.kt {a : Act} (h : Kw n ds K a) : KT n K a.tmps := ⟨h.size, h.has⟩
def zipK : List Nat → List Value → Kn → Kn
 | p :: ps, v :: vs, K => zipK ps vs ((p, v) :: K)
 | _, _, K => K
theorem KT.zip : ∀ (ps : List Nat) (vs : List Value) (K : Kn) (t : Array Value), KT n K t → (ps.all fun p => Nat.blt p n) = true → KT n (zipK ps vs K) ((ps.zip vs).foldl (fun t (x : Nat × Value) => t.setIfInBounds x.1 x.2) t)
  | [], vs, K, t, h, _ => by simpa [zipK] using h
  | p :: ps, [], K, t, h, _ => by simpa [zipK] using h
  | p :: ps, v :: vs, K, t, h, hp => by
    rw [List.all_cons, Bool.and_eq_true] at hp
    have hlt : p < n := by simpa [Nat.blt_eq] using hp.1
    rw [List.zip_cons_cons, List.foldl_cons]
    refine KT.zip ps vs ((p, v) :: K) _ ?_ hp.2
    have := Kw.put (ds := []) (a := { tmps := t, defers := [] }) ⟨h.size, rfl, h.has⟩ hlt v
    exact this.kt
def begW (P : Program) (l : Nat) (body : Code) (R : Value → World → Prop) : Exit → Act → World → Prop :=
 Exit.then (fun a w => ∃ w', (Instr.beginRound l).run P w = .ok () w' ∧ body.wpIn (fx (some l)) 0 P (roundPost P l fun e w' => ∃ v, e = .returned v ∧ R v w') a w') (fun _ _ _ => False)
theorem Yields.round {l d fn i : Nat} {tmps : Array Value} {ps : List Nat} {assign body : Code} {vs : List Value} {R : Value → World → Prop} {LP : LoopState → Option Code → Rs} (hLP : LP = Rs.lp l d fn tmps ps.toArray assign body) (ht : KT n K tmps) (hw : Wd w0 D Hs w) (hi : nthR Hs i = some (LP .ready none)) (hl : vs.length = ps.length) (hp : (ps.all fun p => Nat.blt p n) = true)
  (h : CW (some l) P assign (begW P l body R) n [] (zipK ps vs K) (Wd w0 D Hs)) : Yields P l vs.toArray w R := by
 subst hLP
 have h1 := (hw.lp (st' := .busy) (pe' := none) hi).1
 refine ⟨fn, _, assign, body, run_yield h1 (by simp [hl]), ?_⟩
 have hk := KT.zip ps vs K tmps ht hp
 have e : (ps.toArray.zip vs.toArray).foldl (fun t (x : Nat × Value) => t.setIfInBounds x.1 x.2) tmps = (ps.zip vs).foldl (fun t (x : Nat × Value) => t.setIfInBounds x.1 x.2) tmps := by simp
 refine roundIn_of_wpIn (F := Fence.wide) trivial ?_
 have := h { tmps := (ps.zip vs).foldl (fun t (x : Nat × Value) => t.setIfInBounds x.1 x.2) tmps, defers := [] } w ⟨hk.size, rfl, hk.has⟩ hw
 rw [← e] at this
 exact this
theorem EX.begin {l d fn i : Nat} {tmps : Array Value} {ps : Array Nat} {assign body : Code} {R : Value → World → Prop} {LP : LoopState → Option Code → Rs} (hLP : LP = Rs.lp l d fn tmps ps assign body) (hi : nthR Hs i = some (LP .ready none))
  (h : CW (some l) P body (roundPost P l fun e w' => ∃ v, e = .returned v ∧ R v w') n ds K (Wd w0 D (setR Hs i (LP .busy none)))) : EX (begW P l body R) .normal n ds K (Wd w0 D Hs) := fun a w ha hw => by
 subst hLP
 have h1 := hw.lp (st' := .busy) (pe' := none) hi
 exact ⟨_, run_beginRound h1.1 rfl, h a _ ha h1.2⟩
theorem Wd.endRound {l d fn i : Nat} {tmps : Array Value} {ps : Array Nat} {assign body : Code} (jump : Option Code) (hw : Wd w0 D Hs w) (hi : nthR Hs i = some (Rs.lp l d fn tmps ps assign body .busy none)) :
  ∃ w', (Instr.endRound l jump).run P w = .ok (.bool jump.isNone) w' ∧ Wd w0 D (setR Hs i (Rs.lp l d fn tmps ps assign body (if jump.isNone then .ready else .done) jump)) w' := by
 have h1 := hw.lp (st' := if jump.isNone then .ready else .done) (pe' := jump) hi
 exact ⟨_, run_endRound jump h1.1, h1.2⟩
theorem EX.roundNormal {l d fn i : Nat} {tmps : Array Value} {ps : Array Nat} {assign body : Code} {R : Value → World → Prop} {LP : LoopState → Option Code → Rs} (hLP : LP = Rs.lp l d fn tmps ps assign body) (hi : nthR Hs i = some (LP .busy none))
  (h : ∀ w, Wd w0 D (setR Hs i (LP .ready none)) w → R (.bool true) w) : EX (roundPost P l fun e w' => ∃ v, e = .returned v ∧ R v w') .normal n ds K (Wd w0 D Hs) := fun a w ha hw => by
 subst hLP
 obtain ⟨w', h1, h2⟩ := hw.endRound (P := P) none hi
 exact ⟨_, w', h1, _, rfl, h w' h2⟩
theorem EX.roundRet {l d fn i : Nat} {tmps : Array Value} {ps : Array Nat} {assign body : Code} {R : Value → World → Prop} {LP : LoopState → Option Code → Rs} (hLP : LP = Rs.lp l d fn tmps ps assign body) (hi : nthR Hs i = some (LP .busy none))
  (h : ∀ w, Wd w0 D (setR Hs i (LP .done (some .ret))) w → R (.bool false) w) : EX (roundPost P l fun e w' => ∃ v, e = .returned v ∧ R v w') .ret n ds K (Wd w0 D Hs) := fun a w ha hw => by
 subst hLP
 obtain ⟨w', h1, h2⟩ := hw.endRound (P := P) (some .ret) hi
 exact ⟨_, w', h1, _, rfl, h w' h2⟩
/-! ### the statement -/
theorem CW.range {σ τ : Type} {g : Operand} {gf : Nat} {lb : List Value} {ps : List Nat} {assign body : Code} {Q : Exit → Act → World → Prop} {bs : List Nat} (hg : opd K g = some (.func (.func gf) #[] lb.toArray)) (hcf : callable P gf = true)
  (I : σ → Prop) (Hd : σ → List Rs) (J : τ → Prop) (Jx : τ → Code) (He : τ → List Rs)
  (hiter : ∀ l d fn tm LP, LP = Rs.lp l d fn tm ps.toArray assign body → KT n K tm → ∀ w, Wd w0 D (LP .ready none :: Rs.marks (d :: bs) :: Hs) w →
   Calls P gf (.func (.yield l) #[] #[] :: lb).toArray w fun e w' => ∃ v, e = .returned v ∧ ((∃ s, I s ∧ Wd w0 D (LP .ready none :: Rs.marks (d :: bs) :: Hd s) w') ∨ ∃ s, J s ∧ Wd w0 D (LP .done (some (Jx s)) :: Rs.marks (d :: bs) :: He s) w'))
  (hdone : ∀ d s, I s → EX Q .normal n (mkD (d :: bs)) K (Wd w0 D (Rs.marks (d :: bs) :: Hd s)))
  (hstop : ∀ d s, J s → CW none P (Jx s) Q n (mkD (d :: bs)) K (Wd w0 D (Rs.marks (d :: bs) :: He s))) :
  CW none P (.rangeFunc g ps.toArray assign body) Q n (mkD bs) K (Wd w0 D (Rs.marks bs :: Hs)) := by
 intro a w ha hw
 refine wpIn_rangeFunc fun fn _ => ?_
 have e0 : (fx none).round = none := rfl
 rw [e0]
 have hm := hw.ok 0 _ rfl
 have hw1 : Wd w0 D (Rs.marks (w.heap.size :: bs) :: Hs) (w.alloc (.deferred (some []))) := by
  have hb := below_alloc w (.deferred (some []))
  refine hw.step (i := 0) (r := Rs.marks bs) (r' := Rs.marks (w.heap.size :: bs)) rfl hb.os hb.tape hb.output hb.size (fun b h1 _ => hb.block b h1) ⟨List.nodup_cons.2 ⟨fun hmem => ?_, hm.1⟩, fun b hbm => ?_⟩ (fun b hbm => ?_)
  ·have := (Rs.marks bs).inh w hm _ hmem; omega
  ·rcases List.mem_cons.1 hbm with rfl | hbm
   ·exact World.alloc_heap_new w _
   ·exact (hb.block b ((Rs.marks bs).inh w hm _ hbm)).trans (hm.2 b hbm)
  ·rcases List.mem_cons.1 hbm with rfl | hbm
   ·exact .inr (Nat.le_refl _)
   ·exact .inl hbm
 have hw2 : Wd w0 D (Rs.lp (w.heap.size + 1) w.heap.size fn a.tmps ps.toArray assign body .ready none :: Rs.marks (w.heap.size :: bs) :: Hs) ((w.alloc (.deferred (some []))).alloc (.loop { state := .ready, pending := none, fn, tmps := a.tmps, params := ps.toArray, assign, body, defers := w.heap.size })) := by
  refine hw1.new (below_alloc _ _) ?_ (fun b hb => ?_)
  ·have := World.alloc_heap_new (w.alloc (.deferred (some []))) (.loop { state := .ready, pending := none, fn, tmps := a.tmps, params := ps.toArray, assign, body, defers := w.heap.size })
   rwa [World.size_alloc] at this
  ·have : b = w.heap.size + 1 := by simpa [Rs.lp, Rs.obj] using hb
   simp [this]
 have ev : a.eval g = .func (.func gf) #[] lb.toArray := ha.eval hg
 obtain ⟨W2, hW2⟩ : ∃ W2, (w.alloc (.deferred (some []))).alloc (.loop { state := .ready, pending := none, fn, tmps := a.tmps, params := ps.toArray, assign, body, defers := w.heap.size }) = W2 := ⟨_, rfl⟩
 rw [hW2] at hw2
 have he := run_enterLoop_outer (P := P) (w := w) fn a.tmps ps.toArray assign body
 rw [hW2] at he
 refine ⟨w.heap.size + 1, [{ target := .collected w.heap.size, args := #[] }], W2, { target := .fn (.func gf) lb.toArray, args := #[.func (.yield (w.heap.size + 1)) #[] #[]] }, W2, gf, (.func (.yield (w.heap.size + 1)) #[] #[] :: lb).toArray, W2, he, ?_, fun _ _ => trivial, ?_, (fun h => by cases h), ?_⟩
 ·have e2 : ∀ v, a.eval (.const v) = v := fun _ => rfl
  simp [rangeCall, resolve, ev, e2, Deferred.ofValue]
 ·simp [invoke, run_callFunc hcf]
 refine callsIn_fx ((hiter (w.heap.size + 1) w.heap.size fn a.tmps _ rfl ha.kt W2 hw2).mono fun e w3 he => ?_)
 obtain ⟨v, rfl, h⟩ := he
 have hk : Kw n (mkD (w.heap.size :: bs)) K { a with defers := [{ target := .collected w.heap.size, args := #[] }] ++ a.defers } := ⟨ha.size, by show _ ++ a.defers = _; rw [ha.defers]; rfl, ha.has⟩
 rcases h with ⟨s, hI, hw3⟩ | ⟨s, hJ, hw3⟩
 ·have h1 := hw3.lp (st' := .exhausted) (pe' := none) (i := 0) rfl
  exact ⟨none, _, run_endLoop h1.1 (by simp), hdone _ s hI _ _ hk h1.2.tail⟩
 ·have h1 := hw3.lp (st' := .exhausted) (pe' := some (Jx s)) (i := 0) rfl
  exact ⟨some (Jx s), _, run_endLoop h1.1 (by simp), hstop _ s hJ _ _ hk h1.2.tail⟩
/-! ### the way out -/
theorem leaves_marks {fn : Func} {tmps : Array Value} {R : Ending → World → Prop} : ∀ (bs : List Nat) (Hs : List Rs) (i : Nat) (w : World), nthR Hs i = some (Rs.marks bs) → Wd w0 D Hs w →
    (∀ w, Wd w0 D (setR Hs i (Rs.marks [])) w → ∃ v, (results fn tmps).run P w = .ok v w ∧ R (.returned v) w) → LeavesInM (fx none) 0 P fn tmps R (mkD bs) .returning w
  | [], Hs, i, w, hi, hw, h => by
    refine h w ?_
    exact hw.step hi rfl rfl rfl (Nat.le_refl _) (fun _ _ _ => rfl) (hw.ok i _ hi) (fun b hb => .inl hb)
  | b :: bs, Hs, i, w, hi, hw, h => by
    have hm := hw.ok i _ hi
    have hb := hm.2 b (by simp)
    refine ⟨by simp, .inl ⟨b, _, rfl, run_takeDeferred hb, ?_⟩⟩
    have hw' : Wd w0 D (setR Hs i (Rs.marks bs)) (w.putObj b (.deferred none)) := hw.putObj hi (by simp [Rs.marks]) ⟨(List.nodup_cons.1 hm.1).2, fun c hc => (World.putObj_heap_other (fun (e : c = b) => (List.nodup_cons.1 hm.1).1 (by rw [← e]; exact hc))).trans (hm.2 c (List.mem_cons_of_mem _ hc))⟩ (fun c hc => List.mem_cons_of_mem _ hc)
    refine leaves_marks bs (setR Hs i (Rs.marks bs)) i _ (by rw [nthR_set, if_pos ⟨rfl, by rw [hi]; rfl⟩]) hw' (fun w2 hw2 => h w2 ?_)
    have e : setR (setR Hs i (Rs.marks bs)) i (Rs.marks []) = setR Hs i (Rs.marks []) := by
      clear hw2 hw' h hb hm hw hi
      induction Hs generalizing i with
      | nil => rfl
      | cons r Hs ih => cases i with
        | zero => rfl
        | succ i => show _ :: _ = _ :: _; rw [ih i]
    rwa [e] at hw2
theorem EX.outM {fn : Func} {R : Ending → World → Prop} {rs : List ResultVar} {vs : List Value} {bs : List Nat} {i : Nat} (hi : nthR Hs i = some (Rs.marks bs)) (hf : fn.results = rs.toArray) (h : ResA P K (Wd w0 D (setR Hs i (Rs.marks []))) rs vs) (hR : ∀ w, Wd w0 D (setR Hs i (Rs.marks [])) w → R (.returned (tupV vs)) w) {e : Exit} (he : e = .ret ∨ e = .normal) :
  EX (bodyPostM (fx none) 0 P fn R) e n (mkD bs) K (Wd w0 D Hs) := by
 intro a w ha hw
 have key : LeavesInM (fx none) 0 P fn a.tmps R a.defers .returning w := by
  rw [ha.defers]
  refine leaves_marks bs Hs i w hi hw fun w2 hw2 => ⟨tupV vs, ?_, hR w2 hw2⟩
  have h1 := h.run (n := n) (ds := a.defers) (a := a) ⟨ha.size, rfl, ha.has⟩ hw2
  rw [results_eq, hf]
  simp only [Array.mapM_eq_mapM_toList, List.toList_toArray, Sem.run_bind, Sem.run_map]
  rw [h1]
  simp only [Result.andThen_ok, Sem.run_pure, tupV_eq]
 rcases he with rfl | rfl
 ·exact key
 ·exact key
theorem Wd.marks0 (h : Wd w0 D Hs w) : Wd w0 D (Rs.marks [] :: Hs) w :=
 h.new (Below.refl _ w) ⟨List.nodup_nil, fun b hb => by cases hb⟩ (fun b hb => by cases hb)
theorem calls_openM {P : Program} {f n : Nat} {fn : Func} {c : Code} {vs : List Value} {w : World} {R : Ending → World → Prop} (hf : P.funcs[f]? = some fn) (hb : fn.body = some c) (hn : fn.ntmps = n) (hl : Nat.ble vs.length n = true) (h : CW none P c (bodyPostM (fx none) 0 P fn R) n (mkD []) (argK vs 0) (Wd w [] [Rs.marks []])) : Calls P f vs.toArray w R := by
 subst hn
 have : CallsIn (fx none) 0 P f vs.toArray w R := callsIn_of_wp_marks hf hb trivial (h _ w (Kw.start (Nat.le_of_ble_eq_true hl)) (Wd.init w).marks0)
 exact callsIn_wide.1 this
theorem CW.loopM {X : Option Nat} {P : Program} {c : Code} {Q : Exit → Act → World → Prop} {n : Nat} {K : Kn} {S : World → Prop} {σ : Type} {bs : List Nat} (I : σ → Prop) (Ms : σ → List Nat) (Ks : σ → Kn) (Ss : σ → World → Prop) (μ : σ → Nat) (s0 : σ) (h0 : I s0) (hm : bs = Ms s0) (hk : Sub K (Ks s0)) (hs : ∀ w, S w → Ss s0 w)
    (round : ∀ s, I s → CW X P c (Exit.then (fun a w => ∃ s', (I s' ∧ μ s' < μ s) ∧ Kw n (mkD (Ms s')) (Ks s') a ∧ Ss s' w) Q) n (mkD (Ms s)) (Ks s) (Ss s)) : CW X P (.loop c) Q n (mkD bs) K S := by
  intro a w ha hw b k cs hro hb hr
  have key : ∀ j s a w, μ s = j → I s → Kw n (mkD (Ms s)) (Ks s) a → Ss s w →
      ∃ e a' w', Q e a' w' ∧ ArrivesIn (Machine.fenced P (fx X)) P (lone (b.atR a (.code c :: .inLoop c :: k)) cs w) b k cs e a' w' := by
    intro j
    induction j using Nat.strongRecOn with
    | _ j ih =>
      intro s a w hn hI hka hSs
      obtain ⟨e, a₁, w₁, hq, harr⟩ := round s hI a w hka hSs b (.inLoop c :: k) cs hro hb hr
      cases e with
      | normal =>
        obtain ⟨s', ⟨hI₁, hlt⟩, hk₁, hS₁⟩ := hq
        obtain ⟨e₂, a₂, w₂, hq₂, harr₂⟩ := ih (μ s') (hn ▸ hlt) s' a₁ w₁ rfl hI₁ hk₁ hS₁
        exact ⟨e₂, a₂, w₂, hq₂, .of_steps (StepsIn.trans harr (.one (fenced_calm hb hr rfl) stepR_inLoop)) harr₂⟩
      | exit id => exact ⟨_, a₁, w₁, hq, .pass (x := .inLoop c) rfl (fun _ _ => .inl (by simp)) harr⟩
      | goto l => exact ⟨_, a₁, w₁, hq, .pass (x := .inLoop c) rfl (fun _ _ => .inl (by simp)) harr⟩
      | ret => exact ⟨_, a₁, w₁, hq, .pass (x := .inLoop c) rfl (fun _ _ => .inl (by simp)) harr⟩
      | panic ch => exact ⟨_, a₁, w₁, hq, .pass (x := .inLoop c) rfl (fun _ _ => .inl (by simp)) harr⟩
      | outgrown => exact ⟨_, a₁, w₁, hq, .pass (x := .inLoop c) rfl (fun _ _ => .inl (by simp)) harr⟩
  subst hm
  obtain ⟨e, a', w', hq, harr⟩ := key _ s0 a w rfl h0 (ha.sub hk) (hs w hw)
  exact ⟨e, a', w', hq, .of_steps (.one (fenced_calm hb hr rfl) stepR_loop) harr⟩
theorem EX.roundM {Q : Exit → Act → World → Prop} {n : Nat} {K : Kn} {S : World → Prop} {σ : Type} {I : σ → Prop} {Ms : σ → List Nat} {Ks : σ → Kn} {Ss : σ → World → Prop} {μ : σ → Nat} {s : σ} {bs : List Nat} (s' : σ) (hI : I s') (hμ : μ s' < μ s) (hm : bs = Ms s') (hk : Sub K (Ks s')) (hs : ∀ w, S w → Ss s' w) :
  EX (Exit.then (fun a w => ∃ s', (I s' ∧ μ s' < μ s) ∧ Kw n (mkD (Ms s')) (Ks s') a ∧ Ss s' w) Q) .normal n (mkD bs) K S := fun a w ha hw => ⟨s', ⟨hI, hμ⟩, by subst hm; exact ha.sub hk, hs w hw⟩
end
end Go.Proofs.Ytokljoajalmkfaa
