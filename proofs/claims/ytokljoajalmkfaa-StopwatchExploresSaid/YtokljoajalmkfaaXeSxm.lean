/- Part of the proof of stopwatch_explores_proved: Sxm. -/
import Derived.Maps.Keyed
import Derived.Test.YtokljoajalmkfaaXeSxe
namespace Go.Proofs.Ytokljoajalmkfaa
open Go Go.RowKit
set_option linter.unusedVariables false
set_option linter.unusedSimpArgs false
set_option linter.unnecessarySimpa false
set_option linter.unusedSectionVars false
def Rs.mp {κ ν : Type} (b : Nat) (ek : κ → Value) (ev : ν → Value) (l : List (κ × ν)) : Rs where
 dom := [b]
 ok w := (l.map (·.1)).Nodup ∧ ∃ es cl, w.heap[b]? = some (.map es cl) ∧ es.toList.map (fun e => (e.key, e.val)) = l.map fun p => (ek p.1, ev p.2)
 loc w w' h hw := by
  obtain ⟨h0, es, cl, h1, h2⟩ := hw
  exact ⟨h0, es, cl, (h b (by simp)).trans h1, h2⟩
 inh w hw c hc := by
  obtain ⟨h0, es, cl, h1, h2⟩ := hw
  have : c = b := by simpa using hc
  subst this; exact (Array.getElem?_eq_some_iff.1 h1).1
def lookM {κ ν : Type} [DecidableEq κ] : List (κ × ν) → κ → Option ν
 | [], _ => none
 | p :: l, k => if p.1 = k then some p.2 else lookM l k
def putM {κ ν : Type} [DecidableEq κ] : List (κ × ν) → κ → ν → List (κ × ν)
 | [], k, v => [(k, v)]
 | p :: l, k, v => if p.1 = k then (k, v) :: l else p :: putM l k v
theorem lookM_none {κ ν : Type} [DecidableEq κ] {k : κ} : ∀ {l : List (κ × ν)}, (∀ p, p ∈ l → p.1 ≠ k) → lookM l k = none
 | [], _ => rfl
 | p :: l, h => by
  unfold lookM
  rw [if_neg (h p (by simp)), lookM_none (fun q hq => h q (by simp [hq]))]
theorem lookM_some {κ ν : Type} [DecidableEq κ] {k : κ} : ∀ {l : List (κ × ν)} {j : Nat} {p : κ × ν}, (l.map (·.1)).Nodup → l[j]? = some p → p.1 = k → lookM l k = some p.2
  | [], j, p, _, hj, _ => by simp at hj
  | q :: l, 0, p, _, hj, hp => by
    have e : q = p := by simpa using hj
    subst e
    unfold lookM; rw [if_pos hp]
  | q :: l, j + 1, p, hn, hj, hp => by
    rw [List.map_cons, List.nodup_cons] at hn
    have hj' : l[j]? = some p := by simpa using hj
    have hm : p ∈ l := List.mem_of_getElem? hj'
    unfold lookM
    rw [if_neg (fun e => hn.1 (List.mem_map.2 ⟨p, hm, hp.trans e.symm⟩)), lookM_some hn.2 hj' hp]
theorem putM_new {κ ν : Type} [DecidableEq κ] {k : κ} {v : ν} : ∀ {l : List (κ × ν)}, (∀ p, p ∈ l → p.1 ≠ k) → putM l k v = l ++ [(k, v)]
 | [], _ => rfl
 | p :: l, h => by
  unfold putM
  rw [if_neg (h p (by simp)), putM_new (fun q hq => h q (by simp [hq]))]; rfl
theorem putM_old {κ ν : Type} [DecidableEq κ] {k : κ} {v : ν} : ∀ {l : List (κ × ν)} {j : Nat} {p : κ × ν}, (l.map (·.1)).Nodup → l[j]? = some p → p.1 = k → putM l k v = l.set j (k, v)
  | [], j, p, _, hj, _ => by simp at hj
  | q :: l, 0, p, _, hj, hp => by
    have e : q = p := by simpa using hj
    subst e
    unfold putM; rw [if_pos hp]; rfl
  | q :: l, j + 1, p, hn, hj, hp => by
    rw [List.map_cons, List.nodup_cons] at hn
    have hj' : l[j]? = some p := by simpa using hj
    have hm : p ∈ l := List.mem_of_getElem? hj'
    unfold putM
    rw [if_neg (fun e => hn.1 (List.mem_map.2 ⟨p, hm, hp.trans e.symm⟩)), putM_old hn.2 hj' hp]; rfl
theorem putM_keys {κ ν : Type} [DecidableEq κ] {k : κ} {v : ν} : ∀ {l : List (κ × ν)}, (l.map (·.1)).Nodup → ((putM l k v).map (·.1)).Nodup ∧ ∀ j, j ∈ (putM l k v).map (·.1) → j ∈ l.map (·.1) ∨ j = k
  | [], _ => by simp [putM]
  | p :: l, hn => by
    rw [List.map_cons, List.nodup_cons] at hn
    unfold putM
    by_cases e : p.1 = k
    · rw [if_pos e]
      refine ⟨?_, fun j hj => ?_⟩
      · rw [List.map_cons, List.nodup_cons]; exact ⟨e ▸ hn.1, hn.2⟩
      · rw [List.map_cons, List.mem_cons] at hj ⊢
        rcases hj with h | h
        · exact .inr h
        · exact .inl (.inr h)
    · rw [if_neg e]
      obtain ⟨h1, h2⟩ := putM_keys (k := k) (v := v) hn.2
      refine ⟨?_, fun j hj => ?_⟩
      · rw [List.map_cons, List.nodup_cons]
        refine ⟨fun hm => ?_, h1⟩
        rcases h2 _ hm with q | q
        · exact hn.1 q
        · exact e q
      · rw [List.map_cons, List.mem_cons] at hj ⊢
        rcases hj with h | h
        · exact .inl (.inl h)
        · rcases h2 j h with q | q
          · exact .inl (.inr q)
          · exact .inr q
structure EK (P : Program) (kt : Nat) {κ : Type} (ek : κ → Value) (good : κ → Prop) : Prop where
 keyed : Maps.Keyed P kt
 key : ∀ k, good k → ∃ l, keyOf P kt (ek k) = some l
 inj : ∀ a b, good a → good b → ek a = ek b → a = b
theorem find_mp {P : Program} {kt : Nat} {κ ν : Type} [DecidableEq κ] {ek : κ → Value} {ev : ν → Value} {good : κ → Prop} (E : EK P kt ek good) {l : List (κ × ν)} {es : List MapEntry} (w : World) {k : κ} (hk : good k) (hg : ∀ p, p ∈ l → good p.1) (hn : (l.map (·.1)).Nodup) (hes : es.map (fun e => (e.key, e.val)) = l.map fun p => (ek p.1, ev p.2)) :
  ((Instr.findKey kt (ek k) es).run P w = .ok none w ∧ ∀ p, p ∈ l → p.1 ≠ k) ∨ ∃ j e p, (Instr.findKey kt (ek k) es).run P w = .ok (some (j, ev p.2)) w ∧ es[j]? = some e ∧ e.key = ek k ∧ l[j]? = some p ∧ p.1 = k := by
 obtain ⟨lx, hx⟩ := E.key k hk
 have back : ∀ (j : Nat) (e : MapEntry), es[j]? = some e → ∃ p, l[j]? = some p ∧ e.key = ek p.1 ∧ e.val = ev p.2 := fun j e he => by
  have h := congrArg (fun x => x[j]?) hes
  simp only [List.getElem?_map, he, Option.map_some] at h
  cases hl : l[j]? with
  | none => rw [hl] at h; cases h
  | some p =>
   rw [hl] at h
   simp only [Option.map_some, Option.some.injEq, Prod.mk.injEq] at h
   exact ⟨p, rfl, h.1, h.2⟩
 have hkeys : ∀ e, e ∈ es → ∃ q, keyOf P kt e.key = some q := fun e he => by
  obtain ⟨j, hj⟩ := List.getElem?_of_mem he
  obtain ⟨p, h1, h2, _⟩ := back j e hj
  rw [h2]; exact E.key _ (hg p (List.mem_of_getElem? h1))
 rcases E.keyed.find w hx es hkeys with ⟨h1, h2⟩ | ⟨j, e, h1, h2, h3⟩
 ·refine .inl ⟨h1, fun p hp e => ?_⟩
  obtain ⟨j, hj⟩ := List.getElem?_of_mem hp
  have h := congrArg (fun x => x[j]?) hes
  simp only [List.getElem?_map, hj, Option.map_some] at h
  cases he : es[j]? with
  | none => rw [he] at h; cases h
  | some q =>
   rw [he] at h
   simp only [Option.map_some, Option.some.injEq, Prod.mk.injEq] at h
   exact h2 q (List.mem_of_getElem? he) (by rw [h.1, e])
 ·obtain ⟨p, g1, g2, g3⟩ := back j e h2
  refine .inr ⟨j, e, p, by rw [← g3]; exact h1, h2, h3, g1, E.inj _ _ (hg p (List.mem_of_getElem? g1)) hk (by rw [← g2, h3])⟩
section
variable {P : Program} {ops : Array Oper} {N : Act → World → Prop} {n : Nat} {ds : List Deferred} {l : List Oper} {K : Kn} {S : World → Prop} {w0 : World} {D : List Nat} {Hs : List Rs} {dst : Option Nat} {ty : Nat} {pos : String} {af : Array Edge} {g : Option (Nat × Bool)}
variable {κ ν : Type} [DecidableEq κ] {ek : κ → Value} {ev : ν → Value} {good : κ → Prop}
theorem run_lookup_mp {kt et t b : Nat} (E : EK P kt ek good) (hu : P.underlying t = some (.map kt et)) {l : List (κ × ν)} {w : World} (hok : (Rs.mp b ek ev l).ok w) (hg : ∀ p, p ∈ l → good p.1) {k : κ} (hk : good k) {z : Value} (hz : (zeroValue et).run P w = .ok z w) (ok : Bool) :
  (Instr.lookup t (.map (some b)) (ek k) ok).run P w = .ok (if ok = true then .tuple #[((lookM l k).map ev).getD z, .bool (lookM l k).isSome] else ((lookM l k).map ev).getD z) w := by
 obtain ⟨hn, es, cl, hb, hes⟩ := hok
 obtain ⟨lx, hx⟩ := E.key k hk
 have hgo : (getObj b).run P w = .ok (.map es cl) w := by simp [getObj, Sem.run, hb]
 have hck := fun em => E.keyed.check w em hx
 rcases find_mp E w hk hg hn hes with ⟨h1, h2⟩ | ⟨j, e, p, h1, h2, h3, h4, h5⟩
 ·rw [lookM_none h2]
  cases ok <;> simp [Instr.lookup, run_underlying hu, hgo, hck, h1, hz]
 ·rw [lookM_some hn h4 h5]
  cases ok <;> simp [Instr.lookup, run_underlying hu, hgo, hck, h1]
def mapT2 (P : Program) (t : Nat) : Option (Nat × Nat) := match P.underlying t with
 | some (.map k e) => some (k, e)
 | _ => none
theorem mapT2_is {t k e : Nat} (h : mapT2 P t = some (k, e)) : P.underlying t = some (.map k e) := by
 unfold mapT2 at h
 split at h
 ·rename_i hu; injection h with h; injection h with h1 h2; rw [hu, h1, h2]
 ·cases h
def zero1 (P : Program) (t : Nat) : Option Value := match P.info? t with
 | some i => i.zero
 | none => none
theorem zero1_is {t : Nat} {z : Value} (h : zero1 P t = some z) (w : World) : (zeroValue t).run P w = .ok z w := by
 unfold zero1 at h
 split at h
 ·rename_i i hi; simp [zeroValue, typeInfo, hi, h]
 ·cases h
theorem Yd.lookup {kt et t b i : Nat} {x y : Operand} (E : EK P kt ek good) (hu : mapT2 P t = some (kt, et)) {z : Value} (hz : zero1 P et = some z) {m : List (κ × ν)} {k : κ} (hx : opd K x = some (.map (some b))) (hy : opd K y = some (ek k)) (hi : nthR Hs i = some (Rs.mp b ek ev m)) (hg : ∀ p, p ∈ m → good p.1) (hk : good k) :
  Yd P (Wd w0 D Hs) n ds K ⟨dst, .lookup t x y false, ty, pos, af, g⟩ (((lookM m k).map ev).getD z) := fun a w ha hw => by
 have := run_lookup_mp E (mapT2_is hu) (hw.ok i _ hi) hg hk (zero1_is hz w) false
 simp [execOp, ha.eval hx, ha.eval hy, this]
theorem Ef.makeMap {t : Nat} (ek : κ → Value) (ev : ν → Value) : Ef P (Wd w0 D Hs) n ds K ⟨dst, .makeMap t none, ty, pos, af, g⟩ (σ := Nat) (fun b => .map (some b)) (fun b => Wd w0 D (Rs.mp b ek ev [] :: Hs)) := fun a w ha hw => by
 refine ⟨w.heap.size, w.alloc (.map #[] 0), ?_, hw.new (below_alloc _ _) ⟨by simp, #[], 0, World.alloc_heap_new w _, rfl⟩ (fun b hb => by
  have : b = w.heap.size := by simpa [Rs.mp] using hb
  omega)⟩
 simp [execOp, Instr.makeMap, run_newObj_alloc]
theorem run_update_mp {kt et t b : Nat} (E : EK P kt ek good) (hu : P.underlying t = some (.map kt et)) {l : List (κ × ν)} {w : World} (hok : (Rs.mp b ek ev l).ok w) (hg : ∀ p, p ∈ l → good p.1) {k : κ} (hk : good k) (v : ν) :
  ∃ es' cl', (Instr.mapUpdate t (.map (some b)) (ek k) (ev v)).run P w = .ok () { w with heap := w.heap.setIfInBounds b (.map es' cl') } ∧ (es' : Array MapEntry).toList.map (fun e => (e.key, e.val)) = (putM l k v).map fun p => (ek p.1, ev p.2) := by
 obtain ⟨hn, es, cl, hb, hes⟩ := hok
 obtain ⟨lx, hx⟩ := E.key k hk
 have hgo : (getObj b).run P w = .ok (.map es cl) w := by simp [getObj, Sem.run, hb]
 have hset : ∀ o, (setObj b o).run P w = .ok () { w with heap := w.heap.setIfInBounds b o } := fun o => by simp [setObj, Sem.run, hb]
 have hck := fun em => E.keyed.check w em hx
 rcases find_mp E w hk hg hn hes with ⟨h1, h2⟩ | ⟨j, e, p, h1, h2, h3, h4, h5⟩
 ·refine ⟨es.push ⟨ek k, ev v, cl⟩, cl + 1, by simp [Instr.mapUpdate, run_underlying hu, hgo, hck, h1, hset], ?_⟩
  rw [putM_new h2]
  simp [hes]
 ·have hst := E.keyed.stays w hx
  have hj2 : es[j]? = some e := by simpa using h2
  have hj3 : j < es.size := (Array.getElem?_eq_some_iff.1 hj2).1
  refine ⟨es.modify j fun e => { e with key := ek k, val := ev v }, cl, by simp [Instr.mapUpdate, run_underlying hu, hgo, hck, h1, hset, hj2, h3, hst], ?_⟩
  rw [putM_old hn h4 h5]
  have e1 : (es.modify j fun e => { e with key := ek k, val := ev v }).toList = es.toList.set j { e with key := ek k, val := ev v } := by
   apply List.ext_getElem?
   intro i
   rw [Array.getElem?_toList, Array.getElem?_modify, List.getElem?_set]
   by_cases q : j = i
   ·subst q
    rw [if_pos rfl, if_pos rfl, hj2]
    simp [hj3]
   ·rw [if_neg q, if_neg q]; simp
  rw [e1, List.map_set, List.map_set, hes]
theorem Ef0.mapUpdate {kt et t b i : Nat} {x y u : Operand} (E : EK P kt ek good) (hu : mapT2 P t = some (kt, et)) {m : List (κ × ν)} {k : κ} {v : ν} (hx : opd K x = some (.map (some b))) (hy : opd K y = some (ek k)) (hv : opd K u = some (ev v)) (hi : nthR Hs i = some (Rs.mp b ek ev m)) (hg : ∀ p, p ∈ m → good p.1) (hk : good k) :
  Ef0 P (Wd w0 D Hs) n ds K ⟨none, .mapUpdate t x y u, ty, pos, af, g⟩ (Wd w0 D (setR Hs i (Rs.mp b ek ev (putM m k v)))) := fun a w ha hw => by
 have hok := hw.ok i _ hi
 obtain ⟨es', cl', h1, h2⟩ := run_update_mp E (mapT2_is hu) hok hg hk v
 have hlt : b < w.heap.size := (Rs.mp b ek ev m).inh w hok b (by simp [Rs.mp])
 refine ⟨{ w with heap := w.heap.setIfInBounds b (.map es' cl') }, by simp only [execOp, ha.eval hx, ha.eval hy, ha.eval hv, Sem.run_bind, h1, Result.andThen_ok, Sem.run_pure], hw.step hi rfl rfl rfl (by simp) (fun c hc hne => ?_) ⟨(putM_keys hok.1).1, es', cl', by simp [hlt], h2⟩ (fun c hc => .inl hc)⟩
 have : c ≠ b := fun e => hne (by simp [Rs.mp, e])
 simp [Array.getElem?_setIfInBounds_ne (Ne.symm this)]
theorem Ef0.insert {kt et t b i : Nat} {x y u : Operand} (E : EK P kt ek good) (hu : mapT2 P t = some (kt, et)) {m : List (κ × ν)} {k : κ} {v : ν} (hx : opd K x = some (.map (some b))) (hy : opd K y = some (ek k)) (hv : opd K u = some (ev v)) (hi : nthR Hs i = some (Rs.mp b ek ev m)) (hg : ∀ p, p ∈ m → good p.1) (hk : good k) :
  Ef0 P (Wd w0 D Hs) n ds K ⟨none, .insert t x y u, ty, pos, af, g⟩ (Wd w0 D (setR Hs i (Rs.mp b ek ev (putM m k v)))) := fun a w ha hw => by
 have := Ef0.mapUpdate (ty := ty) (pos := pos) (af := af) (g := g) E hu hx hy hv hi hg hk a w ha hw
 exact this
end
/-! sets -/
abbrev tt1 : Unit → Value := fun _ => .bool true
def setM {κ : Type} (l : List κ) : List (κ × Unit) := l.map fun k => (k, ())
theorem lookM_set {κ : Type} [DecidableEq κ] (l : List κ) (k : κ) : ((lookM (setM l) k).map tt1).getD (.bool false) = .bool (decide (k ∈ l)) := by
 induction l with
 | nil => rfl
 | cons a l ih =>
  show ((if a = k then some () else lookM (setM l) k).map tt1).getD _ = _
  by_cases e : a = k
  ·rw [if_pos e]; simp [e]
  ·rw [if_neg e, ih]; simp [Ne.symm e]
theorem putM_set {κ : Type} [DecidableEq κ] (l : List κ) (k : κ) (h : k ∉ l) : putM (setM l) k () = setM (l ++ [k]) := by
 rw [putM_new (fun p hp e => h (by
  obtain ⟨q, hq, rfl⟩ := List.mem_map.1 hp
  rw [← e]; exact hq))]
 simp [setM]
theorem setM_good {κ : Type} {good : κ → Prop} {l : List κ} (h : ∀ k, k ∈ l → good k) : ∀ p, p ∈ setM l → good p.1 := fun p hp => by
 obtain ⟨q, hq, rfl⟩ := List.mem_map.1 hp
 exact h q hq
theorem Yd.inSet {P : Program} {n : Nat} {ds : List Deferred} {K : Kn} {w0 : World} {D : List Nat} {Hs : List Rs} {dst : Option Nat} {ty : Nat} {pos : String} {af : Array Edge} {g : Option (Nat × Bool)} {κ : Type} [DecidableEq κ] {ek : κ → Value} {good : κ → Prop} {kt et t b i : Nat} {x y : Operand} (E : EK P kt ek good) (hu : mapT2 P t = some (kt, et)) (hz : zero1 P et = some (.bool false)) {m : List κ} {k : κ} (hx : opd K x = some (.map (some b))) (hy : opd K y = some (ek k)) (hi : nthR Hs i = some (Rs.mp b ek tt1 (setM m))) (hg : ∀ p, p ∈ m → good p) (hk : good k) :
  Yd P (Wd w0 D Hs) n ds K ⟨dst, .lookup t x y false, ty, pos, af, g⟩ (.bool (decide (k ∈ m))) := by
 have h := Yd.lookup (P := P) (n := n) (ds := ds) (K := K) (w0 := w0) (D := D) (Hs := Hs) (dst := dst) (ty := ty) (pos := pos) (af := af) (g := g) E hu hz hx hy hi (setM_good hg) hk
 rw [lookM_set] at h
 exact h
theorem Ef0.addSet {P : Program} {n : Nat} {ds : List Deferred} {K : Kn} {w0 : World} {D : List Nat} {Hs : List Rs} {ty : Nat} {pos : String} {af : Array Edge} {g : Option (Nat × Bool)} {κ : Type} [DecidableEq κ] {ek : κ → Value} {good : κ → Prop} {kt et t b i : Nat} {x y u : Operand} (E : EK P kt ek good) (hu : mapT2 P t = some (kt, et)) {m : List κ} {k : κ} (hx : opd K x = some (.map (some b))) (hy : opd K y = some (ek k)) (hv : opd K u = some (.bool true)) (hi : nthR Hs i = some (Rs.mp b ek tt1 (setM m))) (hg : ∀ p, p ∈ m → good p) (hk : good k) (hn : k ∉ m) :
  Ef0 P (Wd w0 D Hs) n ds K ⟨none, .mapUpdate t x y u, ty, pos, af, g⟩ (Wd w0 D (setR Hs i (Rs.mp b ek tt1 (setM (m ++ [k]))))) := by
 have h := Ef0.mapUpdate (P := P) (n := n) (ds := ds) (K := K) (w0 := w0) (D := D) (Hs := Hs) (ty := ty) (pos := pos) (af := af) (g := g) (v := ()) E hu hx hy hv hi (setM_good hg) hk
 rw [putM_set _ _ hn] at h
 exact h
/-! keys -/
theorem ek_string {P : Program} {kt : Nat} (h : P.underlying kt = some .string) : EK P kt Value.string (fun s => s.size ≤ maxLen) := ⟨Maps.string_keyed h, fun s hs => ⟨_, WideMaps.keyOf_string_mk h hs⟩, fun a b _ _ e => by injection e⟩
theorem ek_int {P : Program} {kt : Nat} {q : IntKind} (h : P.underlying kt = some (.int q)) : EK P kt (Value.int q) (fun i => (Lit.int q i).wf = true) := ⟨Maps.int_keyed h, fun i hi => ⟨_, Maps.keyOf_int_mk h hi⟩, fun a b _ _ e => by injection e⟩
end Go.Proofs.Ytokljoajalmkfaa
