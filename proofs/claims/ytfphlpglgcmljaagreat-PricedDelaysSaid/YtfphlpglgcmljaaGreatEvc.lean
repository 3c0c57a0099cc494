/- Runs of the model's operations: on the evaluator's rows, and in a world. -/
import Derived.Test.YtfphlpglgcmljaaGreatEvb
namespace Go.Proofs.YtfphlpglgcmljaaGreat.Ev
open Go Go.RowKit
set_option linter.unusedVariables false

/-! a world's cells -/
theorem cell_row {w : World} {b k : Nat} {cs : Array Value} {ty : Nat} {fz : Nat × Nat} (h : w.heap[b]? = some (.cells cs ty fz)) : w.cell? ⟨b, k, none⟩ = cs[k]? := by
  unfold World.cell?
  simp only [h]
  rfl
theorem frozen_row {w : World} {b k : Nat} {cs : Array Value} {ty : Nat} (h : w.heap[b]? = some (.cells cs ty (0, 0))) : w.frozen? ⟨b, k, none⟩ = false := by
  unfold World.frozen?
  simp [h]
theorem setCell_same {w : World} {b k : Nat} {cs : Array Value} {ty : Nat} {fz : Nat × Nat} {v : Value} (h : w.heap[b]? = some (.cells cs ty fz)) : (w.setCell ⟨b, k, none⟩ v).heap[b]? = some (.cells (cs.setIfInBounds k v) ty fz) := by
  unfold World.setCell
  simp [Array.getElem?_modify, h]
theorem setCell_other {w : World} {b k j : Nat} {v : Value} (h : j ≠ b) : (w.setCell ⟨b, k, none⟩ v).heap[j]? = w.heap[j]? := by
  unfold World.setCell
  simp only [Array.getElem?_modify]
  rw [if_neg (fun e => h e.symm)]
theorem setCell_size {w : World} {a : Addr} {v : Value} : (w.setCell a v).heap.size = w.heap.size := by
  unfold World.setCell
  simp
theorem run_store {β : Type} {P : Program} {m : Mode} {a : Addr} {v u : Value} {k : Sem β} {w : World} (ho : oneCellB v = true) (hc : w.cell? a = some u) (hf : w.frozen? a = false) : (Sem.store m a v k).run P w = k.run P (w.setCell a v) := by
  cases v <;> first | (simp [oneCellB] at ho; done) | simp [Sem.run, hc, hf]
theorem lt_heap {w : World} {b : Nat} {o : Obj} (h : w.heap[b]? = some o) : b < w.heap.size := (Array.getElem?_eq_some_iff.1 h).1

/-! what a run does with the rows -/
theorem new_cases (P : Program) (V : Vw) (o : Obj) : (∃ c e, o = .cells c e (0, 0)) ∨ (∀ (α : Type) (k : Nat → Sem α) H W, runA P V (.new o k) H W = none) := by
  cases o with
  | cells c e fz =>
    obtain ⟨lo, hi⟩ := fz
    cases lo with
    | zero => cases hi with
      | zero => exact .inl ⟨c, e, rfl⟩
      | succ n => exact .inr fun α k H W => by simp [runA]
    | succ n => exact .inr fun α k H W => by simp [runA]
  | _ => exact .inr fun α k H W => by simp [runA]
theorem runA_new {α : Type} (P : Program) (V : Vw) (c : Array Value) (e : Nat) (k : Nat → Sem α) (H : Hp) (W : List Nat) : runA P V (.new (.cells c e (0, 0)) k) H W = if H.next < MOST then runA P V (k H.next) (H.add ⟨e, 0, c.toList⟩) W else none := by
  simp only [runA]
theorem runA_evo {α : Type} {P : Program} {V : Vw} (e : Sem α) : ∀ {H : Hp} {W : List Nat} {x : α} {H' : Hp} {W' : List Nat}, runA P V e H W = some (x, H', W') → ∃ Wn, W' = Wn ++ W ∧ Evo V H H' Wn := by
  induction e with
  | pure a => intro H W x H' W' h; simp only [runA, Option.some.injEq, Prod.mk.injEq] at h; obtain ⟨_, rfl, rfl⟩ := h; exact ⟨[], rfl, Evo.refl _ _⟩
  | load m a k ih =>
    intro H W x H' W' h
    simp only [runA] at h
    split at h
    · split at h
      · cases h
      · split at h
        · exact ih _ h
        · cases h
    · cases h
  | store m a v k ih =>
    intro H W x H' W' h
    simp only [runA] at h
    split at h
    · split at h
      · rename_i b hb
        split at h
        · cases h
        · split at h
          · obtain ⟨Wn, rfl, he⟩ := ih h
            refine ⟨Wn ++ [a.block], by simp, ?_⟩
            have hbn : H.tr.get a.block ≠ none := by rw [(gt_some hb).2]; simp
            refine ⟨he.next, fun i hi hn => ?_, fun hw => ?_, fun i hi => ?_, fun i hi h => ?_, fun i hi hl => ?_⟩
            · rw [List.mem_append, List.mem_singleton] at hn
              rw [he.same i hi (fun h => hn (.inl h)), get_set hbn, if_neg (fun e => hn (.inr e))]
            · have hw1 : WFH (H.set a.block (some ⟨b.ty, b.esz, b.cells.set a.off v⟩)) := fun i hi => by
                rw [get_set hbn] at hi
                by_cases e : i = a.block
                · rw [e]; exact hw _ hbn
                · rw [if_neg e] at hi; exact hw i hi
              refine ⟨(he.wf hw1).1, fun i hi => ?_⟩
              rcases List.mem_append.1 hi with hi | hi
              · exact (he.wf hw1).2 i hi
              · rw [List.mem_singleton] at hi
                rw [hi]
                exact Nat.lt_of_lt_of_le (hw _ hbn) he.next
            · rcases List.mem_append.1 hi with hi | hi
              · exact he.seen i hi
              · rw [List.mem_singleton] at hi
                rw [hi]; exact (gt_some hb).1
            · have := he.had i hi h
              rw [get_set hbn] at this
              by_cases e : i = a.block
              · rw [e]; exact hbn
              · rw [if_neg e] at this; exact this
            · rcases List.mem_append.1 hi with hi | hi
              · have := he.hadW i hi hl
                rw [get_set hbn] at this
                by_cases e : i = a.block
                · rw [e]; exact hbn
                · rw [if_neg e] at this; exact this
              · rw [List.mem_singleton] at hi
                rw [hi]; exact hbn
          · cases h
      · cases h
    · cases h
  | new o k ih =>
    intro H W x H' W' h
    rcases new_cases P V o with ⟨c, e, rfl⟩ | hb
    · rw [runA_new] at h
      split at h
      · rename_i hlt
        obtain ⟨Wn, rfl, he⟩ := ih _ h
        have hn : (H.add ⟨e, 0, c.toList⟩).next = H.next + 1 := rfl
        refine ⟨Wn, rfl, by have := he.next; omega, fun i hi hni => ?_, fun hw => ?_, he.seen, fun i hi h => ?_, fun i hi hl => ?_⟩
        · rw [he.same i (by omega) hni, get_add hlt, if_neg (by omega)]
        · refine he.wf fun i hi => ?_
          rw [get_add hlt] at hi
          by_cases e : i = H.next
          · omega
          · rw [if_neg e] at hi; have := hw i hi; omega
        · have := he.had i (by omega) h
          rw [get_add hlt, if_neg (by omega)] at this
          exact this
        · have := he.hadW i hi (by omega)
          rw [get_add hlt, if_neg (by omega)] at this
          exact this
      · cases h
    · rw [hb] at h; cases h
  | program k ih => intro H W x H' W' h; exact ih P h
  | mark m k ih => intro H W x H' W' h; exact ih h
  | _ => intro H W x H' W' h; simp [runA] at h
theorem runA_bind {α β : Type} {P : Program} {V : Vw} (e : Sem α) (f : α → Sem β) : ∀ (H : Hp) (W : List Nat), runA P V (e.bind f) H W = match runA P V e H W with | some (x, H', W') => runA P V (f x) H' W' | none => none := by
  induction e with
  | pure a => intro H W; rfl
  | load m a k ih =>
    intro H W
    simp only [Sem.bind, runA]
    split
    · split
      · rfl
      · split
        · exact ih _ _ _
        · rfl
    · rfl
  | store m a v k ih =>
    intro H W
    simp only [Sem.bind, runA]
    split
    · split
      · split
        · rfl
        · split
          · exact ih _ _
          · rfl
      · rfl
    · rfl
  | new o k ih =>
    intro H W
    simp only [Sem.bind]
    rcases new_cases P V o with ⟨c, e, rfl⟩ | hb
    · rw [runA_new, runA_new]
      split
      · exact ih _ _ _
      · rfl
    · rw [hb, hb]
  | program k ih => intro H W; exact ih P H W
  | mark m k ih => intro H W; exact ih H W
  | _ => intro H W; rfl

/-- Two runs that do the like: on rows of the evaluator, and in a world. -/
inductive SR {α β : Type} (P : Program) (R : Gh → α → β → Prop) : Gh → Sem α → Sem β → Prop
  | pure {g : Gh} {x : α} {y : β} (h : R g x y) : SR P R g (.pure x) (.pure y)
  | load {g : Gh} {m m' : Mode} {a a' : Addr} {k : Value → Sem α} {k' : Value → Sem β} (h : AR g a a') (hk : ∀ v v', VR g v v' → SR P R g (k v) (k' v')) : SR P R g (.load m a k) (.load m' a' k')
  | store {g : Gh} {m m' : Mode} {a a' : Addr} {v v' : Value} {k : Sem α} {k' : Sem β} (h : AR g a a') (hv : VR g v v') (hk : SR P R g k k') : SR P R g (.store m a v k) (.store m' a' v' k')
  | new {g : Gh} {c c' : Array Value} {e : Nat} {k : Nat → Sem α} {k' : Nat → Sem β} (h : LR g c.toList c'.toList)
      (hk : ∀ g' i b, Sub g g' → g' i = some ⟨b, 0, c'.size, 0⟩ → SR P R g' (k i) (k' b)) : SR P R g (.new (.cells c e (0, 0)) k) (.new (.cells c' e (0, 0)) k')
  | program {g : Gh} {k : Program → Sem α} {k' : Program → Sem β} (hk : SR P R g (k P) (k' P)) : SR P R g (.program k) (.program k')
  | mark {g : Gh} {m m' : Mark} {k : Sem α} {k' : Sem β} (hk : SR P R g k k') : SR P R g (.mark m k) (.mark m' k')
  | bad {g : Gh} {e : Sem α} {e' : Sem β} (h : ∀ V H W, runA P V e H W = none) : SR P R g e e'
theorem SR.bind {α β γ δ : Type} {P : Program} {R : Gh → α → β → Prop} {R' : Gh → γ → δ → Prop} {g : Gh} {e : Sem α} {e' : Sem β} {f : α → Sem γ} {f' : β → Sem δ} (h : SR P R g e e')
    (hf : ∀ g' x y, Sub g g' → R g' x y → SR P R' g' (f x) (f' y)) : SR P R' g (e.bind f) (e'.bind f') := by
  induction h with
  | pure h => exact hf _ _ _ (Sub.refl _) h
  | load h hk ih => exact .load h fun v v' hv => ih v v' hv hf
  | store h hv hk ih => exact .store h hv (ih hf)
  | new h hk ih => exact .new h fun g' i b hs hg => ih g' i b hs hg fun g'' x y hs' hr => hf g'' x y (hs.trans hs') hr
  | program hk ih => exact .program (ih hf)
  | mark hk ih => exact .mark (ih hf)
  | bad h => exact .bad fun V H W => by rw [runA_bind, h V H W]
theorem SR.mono {α β : Type} {P : Program} {R R' : Gh → α → β → Prop} {g : Gh} {e : Sem α} {e' : Sem β} (h : SR P R g e e') (hr : ∀ g' x y, Sub g g' → R g' x y → R' g' x y) : SR P R' g e e' := by
  induction h with
  | pure h => exact .pure (hr _ _ _ (Sub.refl _) h)
  | load h hk ih => exact .load h fun v v' hv => ih v v' hv hr
  | store h hv hk ih => exact .store h hv (ih hr)
  | new h hk ih => exact .new h fun g' i b hs hg => ih g' i b hs hg fun g'' x y hs' hr' => hr g'' x y (hs.trans hs') hr'
  | program hk ih => exact .program (ih hr)
  | mark hk ih => exact .mark (ih hr)
  | bad h => exact .bad h

theorem HR.store {g : Gh} {V : Vw} {H : Hp} {w : World} {B i k : Nat} {bl : Blk} {c : Cf} {cs : Array Value} {v v' : Value} (h : HR g (gt V H) w B) (hb : gt V H i = some bl) (hg : g i = some c)
    (hc : w.heap[c.b]? = some (.cells cs bl.ty (0, 0))) (hn : cs.size = c.n) (he : c.e = bl.esz) (hB : B ≤ c.b) (hr : ∀ (k : Nat) (v : Value), bl.cells[k]? = some v → ∃ v', cs[c.s + k]? = some v' ∧ VR g v v') (hk : k < bl.cells.length) (hv : VR g v v') :
    HR g (gt V (H.set i (some ⟨bl.ty, bl.esz, bl.cells.set k v⟩))) (w.setCell ⟨c.b, c.s + k, none⟩ v') B := by
  have hget : ∀ j, gt V (H.set i (some ⟨bl.ty, bl.esz, bl.cells.set k v⟩)) j = if j = i then some ⟨bl.ty, bl.esz, bl.cells.set k v⟩ else gt V H j := by
    intro j
    rw [gt_def, gt_def, get_set (by rw [(gt_some hb).2]; simp)]
    by_cases e : j = i
    · rw [if_pos e, if_pos e, e, if_pos (gt_some hb).1]
    · rw [if_neg e, if_neg e]
  refine ⟨fun j bl' hj => ?_, fun j j' bj bj' cj cj' hj hj' gj gj' hb' => ?_⟩
  · rw [hget] at hj
    by_cases e : j = i
    · subst e
      rw [if_pos rfl] at hj
      cases hj
      refine ⟨c, cs.setIfInBounds (c.s + k) v', hg, setCell_same hc, by simp [hn], he, hB, fun q u hq => ?_⟩
      rw [List.getElem?_set] at hq
      by_cases hkq : k = q
      · subst hkq
        rw [if_pos rfl, if_pos hk] at hq
        cases hq
        obtain ⟨u', hu, _⟩ := hr k bl.cells[k] (List.getElem?_eq_getElem hk)
        have hlt : c.s + k < cs.size := (Array.getElem?_eq_some_iff.1 hu).1
        exact ⟨v', by simp [hlt], hv⟩
      · rw [if_neg hkq] at hq
        obtain ⟨u', hu, hvr⟩ := hr q u hq
        refine ⟨u', ?_, hvr⟩
        rw [Array.getElem?_setIfInBounds, if_neg (by omega)]
        exact hu
    · rw [if_neg e] at hj
      obtain ⟨cj, cs', h1, h2, h3, h4, h5, h6⟩ := h.row j bl' hj
      refine ⟨cj, cs', h1, ?_, h3, h4, h5, h6⟩
      rw [setCell_other (fun hbb => e (h.inj j i bl' bl cj c hj hb h1 hg hbb))]
      exact h2
  · have hx : ∀ q bq, gt V (H.set i (some ⟨bl.ty, bl.esz, bl.cells.set k v⟩)) q = some bq → ∃ b', gt V H q = some b' := by
      intro q bq hq
      rw [hget] at hq
      by_cases e : q = i
      · exact ⟨bl, by rw [e]; exact hb⟩
      · rw [if_neg e] at hq; exact ⟨bq, hq⟩
    obtain ⟨b1, e1⟩ := hx j bj hj
    obtain ⟨b2, e2⟩ := hx j' bj' hj'
    exact h.inj j j' b1 b2 cj cj' e1 e2 gj gj' hb'
def withNew (g : Gh) (i : Nat) (c : Cf) : Gh := fun j => if j = i then some c else g j
theorem withNew_sub {g : Gh} {i : Nat} {c : Cf} (h : g i = none) : Sub g (withNew g i c) := fun j x e => by
  unfold withNew
  by_cases hj : j = i
  · rw [hj, h] at e; cases e
  · rw [if_neg hj]; exact e
theorem HR.new {g : Gh} {V : Vw} {H : Hp} {w : World} {B ty esz : Nat} {cells : List Value} {cs : Array Value} {s : Nat} (h : HR g (gt V H) w B) (hf : g H.next = none) (hm : H.next < MOST) (hB : B ≤ w.heap.size)
    (hr : ∀ (k : Nat) (v : Value), cells[k]? = some v → ∃ v', cs[s + k]? = some v' ∧ VR g v v') :
    HR (withNew g H.next ⟨w.heap.size, s, cs.size, esz⟩) (gt V (H.add ⟨ty, esz, cells⟩)) { w with heap := w.heap.push (.cells cs ty (0, 0)) } B := by
  have hs := withNew_sub (c := ⟨w.heap.size, s, cs.size, esz⟩) hf
  have hold : ∀ j bl, j ≠ H.next → gt V (H.add ⟨ty, esz, cells⟩) j = some bl → gt V H j = some bl := by
    intro j bl hj e
    rw [gt_def, get_add hm, if_neg hj] at e
    rw [gt_def]; exact e
  refine ⟨fun j bl hj => ?_, fun j j' bj bj' cj cj' hj hj' gj gj' hbb => ?_⟩
  · by_cases e : j = H.next
    · subst e
      rw [gt_def, get_add hm, if_pos rfl] at hj
      split at hj
      · cases hj
        refine ⟨_, cs, by unfold withNew; rw [if_pos rfl], by simp, rfl, rfl, hB, fun k v hk => ?_⟩
        obtain ⟨v', h1, h2⟩ := hr k v hk
        exact ⟨v', h1, h2.mono hs⟩
      · cases hj
    · obtain ⟨c, cs', h1, h2, h3, h4, h5, h6⟩ := h.row j bl (hold j bl e hj)
      refine ⟨c, cs', hs _ _ h1, ?_, h3, h4, h5, fun k v hk => ?_⟩
      · rw [Array.getElem?_push, if_neg (by have := lt_heap h2; omega)]; exact h2
      · obtain ⟨v', h7, h8⟩ := h6 k v hk; exact ⟨v', h7, h8.mono hs⟩
  · have key : ∀ q bq cq, q ≠ H.next → gt V (H.add ⟨ty, esz, cells⟩) q = some bq → withNew g H.next ⟨w.heap.size, s, cs.size, esz⟩ q = some cq → g q = some cq ∧ cq.b < w.heap.size := by
      intro q bq cq hq h1 h2
      unfold withNew at h2
      rw [if_neg hq] at h2
      obtain ⟨c, cs', h3, h4, _⟩ := h.row q bq (hold q bq hq h1)
      rw [h2] at h3; cases h3
      exact ⟨h2, lt_heap h4⟩
    by_cases e : j = H.next
    · by_cases e' : j' = H.next
      · rw [e, e']
      · obtain ⟨_, hl⟩ := key j' bj' cj' e' hj' gj'
        unfold withNew at gj
        rw [if_pos e] at gj
        cases gj
        simp only at hbb
        omega
    · obtain ⟨g1, hl⟩ := key j bj cj e hj gj
      by_cases e' : j' = H.next
      · unfold withNew at gj'
        rw [if_pos e'] at gj'
        cases gj'
        simp only at hbb
        omega
      · obtain ⟨g2, _⟩ := key j' bj' cj' e' hj' gj'
        exact h.inj j j' bj bj' cj cj' (hold _ _ e hj) (hold _ _ e' hj') g1 g2 hbb
theorem SR.run {α β : Type} {P : Program} {R : Gh → α → β → Prop} {g : Gh} {e : Sem α} {e' : Sem β} (h : SR P R g e e') : ∀ {V : Vw} {H : Hp} {W : List Nat} {x : α} {H' : Hp} {W' : List Nat} {w : World} {B : Nat},
    runA P V e H W = some (x, H', W') → HR g (gt V H) w B → B ≤ w.heap.size → Fresh g H.next H'.next →
    ∃ y w' g' Wn, W' = Wn ++ W ∧ e'.run P w = .ok y w' ∧ R g' x y ∧ After V H H' Wn B g w g' w' := by
  induction h with
  | pure h =>
    intro V H W x H' W' w B hr hh hB hf
    simp only [runA, Option.some.injEq, Prod.mk.injEq] at hr
    obtain ⟨rfl, rfl, rfl⟩ := hr
    exact ⟨_, w, _, [], rfl, rfl, h, After.refl hh⟩
  | load ha hk ih =>
    intro V H W x H' W' w B hr hh hB hf
    rename_i g m m' a a' k k'
    simp only [runA] at hr
    split at hr
    · rename_i bl hb
      split at hr
      · cases hr
      · split at hr
        · rename_i v hv
          obtain ⟨c, cs, h1, h2, h3, h4, h5, h6⟩ := hh.row _ _ hb
          obtain ⟨c', g1, g2, rfl⟩ := ha
          rw [h1] at g1; cases g1
          obtain ⟨v', h7, h8⟩ := h6 _ _ hv
          obtain ⟨y, w', g', Wn, r1, r2, r3, r4⟩ := ih v v' h8 hr hh hB hf
          refine ⟨y, w', g', Wn, r1, ?_, r3, r4⟩
          have hcell : w.cell? ⟨c.b, c.s + a.off, none⟩ = some v' := (cell_row h2).trans h7
          show (Sem.load m' ⟨c.b, c.s + a.off, none⟩ k').run P w = _
          simp only [Sem.run, hcell]
          exact r2
        · cases hr
    · cases hr
  | store ha hv hk ih =>
    intro V H W x H' W' w B hr hh hB hf
    rename_i g m m' a a' v v' k k'
    simp only [runA] at hr
    split at hr
    · rename_i ho
      split at hr
      · rename_i bl hb
        split at hr
        · cases hr
        · split at hr
          · rename_i hlt
            obtain ⟨c, cs, h1, h2, h3, h4, h5, h6⟩ := hh.row _ _ hb
            obtain ⟨c', g1, g2, rfl⟩ := ha
            rw [h1] at g1; cases g1
            have hh1 := hh.store hb h1 h2 h3 h4 h5 h6 hlt hv
            obtain ⟨u', hu, _⟩ := h6 a.off bl.cells[a.off] (List.getElem?_eq_getElem hlt)
            obtain ⟨y, w', g', Wn, r1, r2, r3, r4⟩ := ih hr hh1 (by rw [setCell_size]; exact hB) hf
            refine ⟨y, w', g', Wn ++ [a.block], by rw [r1]; simp, ?_, r3, ?_⟩
            · rw [run_store (hv.oneCell ho) ((cell_row h2).trans hu) (frozen_row h2)]
              exact r2
            · refine After.trans (H2 := H.set a.block _) (w2 := w.setCell ⟨c.b, c.s + a.off, none⟩ v') ⟨Sub.refl g, fun _ _ => rfl, hh1, rfl, rfl, rfl, by rw [setCell_size]; exact Nat.le_refl _, fun q hq hn => ?_, fun i c hi hi2 => ?_, fun i hi => ?_⟩ r4 (Nat.le_refl _) ?_
              · exact setCell_other (fun e => hn a.block (by simp) c h1 e.symm)
              · have : (H.set a.block (some ⟨bl.ty, bl.esz, bl.cells.set a.off v⟩)).next = H.next := rfl
                omega
              · rw [List.mem_singleton] at hi
                subst hi
                exact ⟨c, h1, h5⟩
              · obtain ⟨_, _, he⟩ := runA_evo _ hr
                exact he.next
          · cases hr
      · cases hr
    · cases hr
  | new hl hk ih =>
    intro V H W x H' W' w B hr hh hB hf
    rename_i g c c' e k k'
    simp only [runA] at hr
    split at hr
    · rename_i hm
      obtain ⟨_, _, he⟩ := runA_evo _ hr
      have hn : H.next + 1 ≤ H'.next := he.next
      have hfr : g H.next = none := hf _ (Nat.le_refl _) (by omega)
      have hh1 := hh.new (ty := e) (esz := 0) (cells := c.toList) (cs := c') (s := 0) hfr hm hB (fun k v hk => by
        obtain ⟨v', h1, h2⟩ := hl.at hk
        exact ⟨v', by rw [Nat.zero_add]; simpa using h1, h2⟩)
      have hs := withNew_sub (c := ⟨w.heap.size, 0, c'.size, 0⟩) hfr
      obtain ⟨y, w', g', Wn, r1, r2, r3, r4⟩ := ih _ H.next w.heap.size hs (by unfold withNew; rw [if_pos rfl]) hr hh1 (by simp; omega) (fun i h1 h2 => by
        have hi : H.next + 1 ≤ i := h1
        unfold withNew; rw [if_neg (by omega)]; exact hf i (by omega) h2)
      refine ⟨y, w', g', Wn, r1, r2, r3, ?_⟩
      have := After.trans (V := V) (H1 := H) (H2 := H.add ⟨e, 0, c.toList⟩) (W1 := []) (w1 := w) ⟨hs, fun i hi => ?_, hh1, rfl, rfl, rfl, by simp, fun q hq _ => ?_, fun i c h1 h2 hc => ?_, fun i hi => by simp at hi⟩ r4 (by show H.next ≤ H.next + 1; omega) he.next
      · rwa [List.append_nil] at this
      · have : (H.add ⟨e, 0, c.toList⟩).next = H.next + 1 := rfl
        unfold withNew; rw [if_neg (by omega)]
      · simp only [Array.getElem?_push]; rw [if_neg (by omega)]
      · have h3 : i < H.next + 1 := h2
        unfold withNew at hc
        rw [if_pos (by omega)] at hc
        cases hc
        exact .inl (Nat.le_refl _)
    · cases hr
  | program hk ih => intro V H W x H' W' w B hr hh hB hf; exact ih hr hh hB hf
  | mark hk ih => intro V H W x H' W' w B hr hh hB hf; exact ih hr hh hB hf
  | bad h => intro V H W x H' W' w B hr; rw [h] at hr; cases hr
end Go.Proofs.YtfphlpglgcmljaaGreat.Ev
