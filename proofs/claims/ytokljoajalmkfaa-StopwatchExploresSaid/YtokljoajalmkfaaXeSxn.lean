/- Part of the proof of stopwatch_explores_proved: Sxn. -/
import Derived.DeepKeys5
import Derived.Laws.IdiomStrings
import Derived.Test.YtokljoajalmkfaaXeSxm
import Derived.Test.YtokljoajalmkfaaXeSxr
namespace Go.Proofs.Ytokljoajalmkfaa
open Go Go.RowKit
set_option linter.unusedVariables false
set_option linter.unusedSimpArgs false
set_option linter.unnecessarySimpa false
theorem CW.know {X : Option Nat} {P : Program} {c : Code} {Q : Exit → Act → World → Prop} {n : Nat} {ds : List Deferred} {K : Kn} {S : World → Prop} {p : Prop} (hp : ∀ w, S w → p) (h : p → CW X P c Q n ds K S) : CW X P c Q n ds K S := fun a w ha hw => h (hp w hw) a w ha hw
theorem EX.know {Q : Exit → Act → World → Prop} {e : Exit} {n : Nat} {ds : List Deferred} {K : Kn} {S : World → Prop} {p : Prop} (hp : ∀ w, S w → p) (h : p → EX Q e n ds K S) : EX Q e n ds K S := fun a w ha hw => h (hp w hw) a w ha hw
theorem CW.some {X : Option Nat} {P : Program} {c : Code} {Q : Exit → Act → World → Prop} {n : Nat} {ds : List Deferred} {K : Kn} {σ : Type} {S : σ → World → Prop} (h : ∀ s, CW X P c Q n ds K (S s)) : CW X P c Q n ds K (fun w => ∃ s, S s w) := fun a w ha ⟨s, hw⟩ => h s a w ha hw
/-! keys of ints -/
def itree (P : Program) (q : IntKind) : Nat → Nat → Bool
 | 0, _ => false
 | d + 1, t => match P.underlying t with
  | some (.int q') => decide (q' = q) && Nat.beq (P.cellsOf t) 1
  | some (.array n e) => itree P q d e && Nat.beq (P.cellsOf t) (n * P.cellsOf e)
  | some (.struct fs) => fs.all fun f => f.name != "_" && itree P q d f.type && Nat.ble (f.offset + P.cellsOf f.type) (P.cellsOf t)
  | _ => false
theorem mapM_isSome {α β : Type} {f : α → Option β} : ∀ {l : List α}, (∀ x, x ∈ l → ∃ y, f x = some y) → ∃ ys, l.mapM f = some ys
  | [], _ => ⟨[], by simp⟩
  | x :: l, h => by
    obtain ⟨y, hy⟩ := h x (by simp)
    obtain ⟨ys, hys⟩ := mapM_isSome (f := f) (l := l) (fun z hz => h z (by simp [hz]))
    exact ⟨y :: ys, by simp [List.mapM_cons, hy, hys]⟩
theorem keyLits_itree {P : Program} {q : IntKind} : ∀ (d t : Nat), itree P q d t = true → ∀ cs : List Value, cs.length = P.cellsOf t → (∀ c, c ∈ cs → ∃ i, c = .int q i ∧ (Lit.int q i).wf = true) → ∃ ls, P.keyLits d t cs = some ls
  | 0, t, h, cs, _, _ => by cases h
  | d + 1, t, h, cs, hl, hc => by
    unfold itree at h
    unfold Program.keyLits
    split at h
    · rename_i q' hu
      rw [Bool.and_eq_true] at h
      have hq : q' = q := of_decide_eq_true h.1
      have h1 : P.cellsOf t = 1 := Nat.eq_of_beq_eq_true h.2
      subst hq
      rw [h1] at hl
      obtain ⟨c, rfl⟩ := List.length_eq_one_iff.1 hl
      obtain ⟨i, rfl, hw⟩ := hc c (by simp)
      exact ⟨[.int q' i], by simp [hu, hw]⟩
    · rename_i n e hu
      rw [Bool.and_eq_true] at h
      have h1 : P.cellsOf t = n * P.cellsOf e := Nat.eq_of_beq_eq_true h.2
      rw [hu]
      dsimp only
      rw [if_pos hl]
      obtain ⟨ys, hys⟩ := mapM_isSome (f := fun i => P.keyLits d e ((cs.drop (i * P.cellsOf e)).take (P.cellsOf e))) (l := List.range n) (fun i hi => by
        refine keyLits_itree d e h.1 _ ?_ (fun c hcm => hc c (List.mem_of_mem_drop (List.mem_of_mem_take hcm)))
        have hi := List.mem_range.1 hi
        have : (i + 1) * P.cellsOf e ≤ n * P.cellsOf e := Nat.mul_le_mul_right _ hi
        rw [Nat.add_mul, Nat.one_mul] at this
        rw [List.length_take, List.length_drop, hl, h1]; omega)
      exact ⟨ys.flatten, by simp [hys]⟩
    · rename_i fs hu
      rw [hu]
      dsimp only
      rw [Array.all_eq_true_iff_forall_mem] at h
      have hall : fs.all (·.name != "_") = true := by
        rw [Array.all_eq_true_iff_forall_mem]
        intro f hf
        have := h f hf
        rw [Bool.and_eq_true, Bool.and_eq_true] at this
        exact this.1.1
      rw [if_pos ⟨hl, hall⟩]
      obtain ⟨ys, hys⟩ := mapM_isSome (f := fun f : Field => P.keyLits d f.type ((cs.drop f.offset).take (P.cellsOf f.type))) (l := fs.toList) (fun f hf => by
        have h2 := h f (by simpa using hf)
        rw [Bool.and_eq_true, Bool.and_eq_true] at h2
        refine keyLits_itree d f.type h2.1.2 _ ?_ (fun c hcm => hc c (List.mem_of_mem_drop (List.mem_of_mem_take hcm)))
        have := Nat.le_of_ble_eq_true h2.2
        rw [List.length_take, List.length_drop, hl]; omega)
      exact ⟨ys.flatten, by simp [hys]⟩
    · cases h
theorem ek_ints {P : Program} {kt m : Nat} {q : IntKind} {κ : Type} {f : κ → List Value} {good : κ → Prop} (hl : laidOutB P = true) (hsmall : Nat.ble (P.types.size + 2) 10000 = true) (hrow : Nat.blt kt P.types.size = true) (hk : P.keyType kt = true)
  (hwide : (match P.underlying kt with | some (.array _ _) | some (.struct _) => true | _ => false) = true) (ht : itree P q (P.types.size + 1) kt = true) (hm : Nat.beq (P.cellsOf kt) m = true) (hf : ∀ k, good k → (f k).length = m ∧ ∀ c, c ∈ f k → ∃ i, c = .int q i ∧ (Lit.int q i).wf = true) (inj : ∀ a b, good a → good b → f a = f b → a = b) : EK P kt (fun k => .agg (f k).toArray) good := by
 refine ⟨Maps.Keyed.of_law (deep_law_gate hl (Nat.le_of_ble_eq_true hsmall) (by simpa [Nat.blt_eq] using hrow) hk hwide), fun k hg => ?_, fun a b ha hb e => inj a b ha hb (by injection e with e; exact List.toArray_inj e)⟩
 have hm := Nat.eq_of_beq_eq_true hm
 obtain ⟨h1, h2⟩ := hf k hg
 obtain ⟨ls, hls⟩ := keyLits_itree _ kt ht (f k) (by rw [h1, hm]) h2
 refine ⟨.string (keyBytes ls), ?_⟩
 have hform : (Value.agg (f k).toArray).formed P kt = true := by
  unfold Value.formed
  cases hu : P.underlying kt with
  | none => rw [hu] at hwide; cases hwide
  | some d => cases d <;> simp [hu, hm, h1] at hwide ⊢
 have hcells : (Value.agg (f k).toArray).cells.toList = f k := by simp [Value.cells]
 unfold keyOf
 cases hu : P.underlying kt with
 | none => rw [hu] at hwide; cases hwide
 | some d => cases d <;> simp [hu, hk, hform, hcells, hls] at hwide ⊢
/-! taking over what a call made -/
theorem nthR_app : ∀ (Hs' Hs : List Rs) (i : Nat), nthR (Hs' ++ Hs) i = if i < Hs'.length then nthR Hs' i else nthR Hs (i - Hs'.length)
 | [], Hs, i => by simp
 | r :: Hs', Hs, 0 => by simp [nthR]
 | r :: Hs', Hs, i + 1 => by
  show nthR (Hs' ++ Hs) i = _
  rw [nthR_app Hs' Hs i]
  by_cases h : i < Hs'.length
  ·rw [if_pos h, if_pos (by simp; omega)]; rfl
  ·rw [if_neg h, if_neg (by simp; omega)]; congr 1; simp
theorem Wd.join {w0 w w' : World} {D : List Nat} {Hs Hs' : List Rs} (h : Wd w0 D Hs w) (h' : Wd w [] Hs' w') : Wd w0 D (Hs' ++ Hs) w' := by
 have k := h.keep h'.below
 have new : ∀ i r, nthR Hs' i = some r → ∀ b, b ∈ r.dom → w.heap.size ≤ b := fun i r hr b hb => by
  rcases h'.dom i r hr b hb with q | q
  ·exact q
  ·cases q
 have old : ∀ i r, nthR Hs i = some r → ∀ b, b ∈ r.dom → b < w.heap.size := fun i r hr b hb => r.inh w (h.ok i r hr) b hb
 refine ⟨k.os, k.tape, k.output, k.size, k.block, fun i r hr => ?_, fun i r hr b hb => ?_, fun i j r r' hne hr hr' b hb => ?_⟩
 ·rw [nthR_app] at hr
  split at hr
  ·exact h'.ok i r hr
  ·exact k.ok _ r hr
 ·rw [nthR_app] at hr
  split at hr
  ·exact .inl (Nat.le_trans h.size (new i r hr b hb))
  ·exact k.dom _ r hr b hb
 ·rw [nthR_app] at hr hr'
  split at hr <;> split at hr'
  ·exact h'.apart i j r r' hne hr hr' b hb
  ·intro hb'; have := new i r hr b hb; have := old _ r' hr' b hb'; omega
  ·intro hb'; have := new j r' hr' b hb'; have := old _ r hr b hb; omega
  ·exact k.apart _ _ r r' (by omega) hr hr' b hb
theorem Wd.own0 {α : Type} {w0 w : World} {D : List Nat} {Hs : List Rs} (c : Cd α) (t : Nat) (h : Wd w0 D Hs w) : Wd w0 D (Rs.own c t (.slice none 0 0) [] :: Hs) w :=
 h.new (Below.refl _ w) (OE.nil c t 0 w) (fun b hb => by cases hb)
theorem Ef.append1 {P : Program} {n : Nat} {ds : List Deferred} {K : Kn} {w0 : World} {D : List Nat} {Hs : List Rs} {dst : Option Nat} {ty : Nat} {pos : String} {af : Array Edge} {g : Option (Nat × Bool)} {α : Type} {c : Cd α} {t e size bytes i b off cap : Nat} {s x : Operand} {v : Value} {xs : List α} {y : α} {z : List Value} (hs : opd K s = some v) (hx : opd K x = some (.slice (some ⟨b, off, none⟩) 1 cap)) (hz : slE P t = some (e, size, bytes, z)) (hcs : c.sz = size) (hi : nthR Hs i = some (Rs.own c e v xs))
  (hc : ∀ w, Wd w0 D Hs w → ∀ j u, (c.cells y)[j]? = some u → w.cell? ⟨b, off + j, none⟩ = some u) (h1 : (c.cells y).all (·.oneCell') = true) (hb : (xs.length + 1) * bytes ≤ 140737488355328) (h63 : xs.length + 1 ≤ maxLen) :
  Ef P (Wd w0 D Hs) n ds K ⟨dst, .call { callee := .builtin .append, args := #[s, x], argTypes := #[t, t] }, ty, pos, af, g⟩ (σ := Nat × Nat) (fun s => .slice (some ⟨s.1, 0, none⟩) (xs.length + 1) s.2) (fun s => Wd w0 D (setR Hs i (Rs.own c e (.slice (some ⟨s.1, 0, none⟩) (xs.length + 1) s.2) (xs ++ [y])))) := fun a w ha hw => by
 obtain ⟨v', w', h2, h3⟩ := Ef.append (P := P) (n := n) (ds := ds) (K := K) (dst := dst) (ty := ty) (pos := pos) (af := af) (g := g) (ys := [y]) hs hx hz hcs hi rfl (fun w hw j u hj => hc w hw j u (by simpa using hj)) (fun y' hy' => by
  have : y' = y := by simpa using hy'
  rw [this]; exact h1) hb h63 a w ha hw
 have ho := own_open (h3.ok i _ (by rw [nthR_set, if_pos ⟨rfl, by rw [hi]; rfl⟩]))
 rcases ho with ⟨_, q⟩ | ⟨b', cap', rfl⟩
 ·simp at q
 ·rw [List.length_append] at h2 h3
  exact ⟨(b', cap'), w', h2, h3⟩
theorem DL.know {P : Program} {ops : Array Oper} {N : Act → World → Prop} {hs : List Hd} {n : Nat} {ds : List Deferred} {f : Nat} {L : Array Bool} {K : Kn} {Sw : World → Prop} {p : Prop} (hp : ∀ w, Sw w → p) (h : p → DL P ops N hs n ds f L K Sw) : DL P ops N hs n ds f L K Sw := fun a w ha hw => h (hp w hw) a w ha hw
def Rs.non : Rs := ⟨[], fun _ => True, fun _ _ _ _ => trivial, fun _ _ b hb => by cases hb⟩
theorem Wd.after0 {w0 w w' : World} {D : List Nat} {Hs : List Rs} {i : Nat} {r : Rs} (h : Wd w0 D Hs w) (hi : nthR Hs i = some r) (h' : Wd w r.dom [] w') : Wd w0 D (setR Hs i Rs.non) w' :=
 h.after hi (h'.new (Below.refl _ w') (r := Rs.non) trivial (fun b hb => by cases hb))
def permH (Hs : List Rs) (is : List Nat) (k : Nat) : Option (List Rs) := (pickH Hs is).map fun l => l ++ Hs.drop k
theorem nthR_drop : ∀ (Hs : List Rs) (k i : Nat), nthR (Hs.drop k) i = nthR Hs (k + i)
 | Hs, 0, i => by simp
 | [], k + 1, i => by simp [nthR]
 | r :: Hs, k + 1, i => by rw [List.drop_succ_cons, nthR_drop Hs k i, show k + 1 + i = (k + i) + 1 by omega]; rfl
theorem pickH_len : ∀ (is : List Nat) {Hs Hs' : List Rs}, pickH Hs is = some Hs' → Hs'.length = is.length
 | [], Hs, Hs', h => by cases h; rfl
 | i :: is, Hs, Hs', h => by
  unfold pickH at h
  split at h
  ·rename_i r rs h1 h2; cases h; simp [pickH_len is h2]
  ·cases h
theorem Wd.perm {w0 w : World} {D : List Nat} {Hs Hs' : List Rs} (is : List Nat) (k : Nat) (hn : nodupN is = true) (hk : is.all (fun i => Nat.blt i k) = true) (hp : permH Hs is k = some Hs') (h : Wd w0 D Hs w) : Wd w0 D Hs' w := by
 unfold permH at hp
 cases hl : pickH Hs is with
 | none => rw [hl] at hp; cases hp
 | some l =>
  rw [hl] at hp
  injection hp with hp
  subst hp
  have hl' := pickH_len is hl
  have at1 : ∀ j r, nthR (l ++ Hs.drop k) j = some r → ∃ i, nthR Hs i = some r ∧ ((j < is.length ∧ is[j]? = some i ∧ i < k) ∨ (is.length ≤ j ∧ i = k + (j - is.length))) := fun j r hr => by
   rw [nthR_app, hl'] at hr
   by_cases c : j < is.length
   ·rw [if_pos c] at hr
    obtain ⟨i, e1, e2⟩ := pickH_at is l hl j r hr
    have := List.all_eq_true.1 hk i (List.mem_of_getElem? e1)
    exact ⟨i, e2, .inl ⟨c, e1, by simpa [Nat.blt_eq] using this⟩⟩
   ·rw [if_neg c, nthR_drop] at hr
    exact ⟨_, hr, .inr ⟨by omega, rfl⟩⟩
  refine ⟨h.os, h.tape, h.output, h.size, h.block, fun j r hr => ?_, fun j r hr b hb => ?_, fun j m r r' hne hr hr' b hb => ?_⟩
  ·obtain ⟨i, hi, _⟩ := at1 j r hr; exact h.ok i r hi
  ·obtain ⟨i, hi, _⟩ := at1 j r hr; exact h.dom i r hi b hb
  ·obtain ⟨i, hi, c1⟩ := at1 j r hr
   obtain ⟨i', hi', c2⟩ := at1 m r' hr'
   refine h.apart i i' r r' ?_ hi hi' b hb
   rcases c1 with ⟨a1, a2, a3⟩ | ⟨a1, a2⟩ <;> rcases c2 with ⟨b1, b2, b3⟩ | ⟨b1, b2⟩
   ·exact nodupN_ne is hn j m i i' hne a2 b2
   ·omega
   ·omega
   ·omega
theorem EX.perm {Q : Exit → Act → World → Prop} {e : Exit} {n : Nat} {ds : List Deferred} {K : Kn} {w0 : World} {D : List Nat} {Hs Hs' : List Rs} (is : List Nat) (k : Nat) (hn : nodupN is = true) (hk : is.all (fun i => Nat.blt i k) = true) (hp : permH Hs is k = some Hs') (h : EX Q e n ds K (Wd w0 D Hs')) : EX Q e n ds K (Wd w0 D Hs) := h.conseq Sub.refl (fun w hw => hw.perm is k hn hk hp)
theorem Ef0.addSetI {P : Program} {n : Nat} {ds : List Deferred} {K : Kn} {w0 : World} {D : List Nat} {Hs : List Rs} {ty : Nat} {pos : String} {af : Array Edge} {g : Option (Nat × Bool)} {κ : Type} [DecidableEq κ] {ek : κ → Value} {good : κ → Prop} {kt et t b i : Nat} {x y u : Operand} (E : EK P kt ek good) (hu : mapT2 P t = some (kt, et)) {m : List κ} {k : κ} (hx : opd K x = some (.map (some b))) (hy : opd K y = some (ek k)) (hv : opd K u = some (.bool true)) (hi : nthR Hs i = some (Rs.mp b ek tt1 (setM m))) (hg : ∀ p, p ∈ m → good p) (hk : good k) (hn : k ∉ m) :
  Ef0 P (Wd w0 D Hs) n ds K ⟨none, .insert t x y u, ty, pos, af, g⟩ (Wd w0 D (setR Hs i (Rs.mp b ek tt1 (setM (m ++ [k]))))) := by
 have h := Ef0.insert (P := P) (n := n) (ds := ds) (K := K) (w0 := w0) (D := D) (Hs := Hs) (ty := ty) (pos := pos) (af := af) (g := g) (v := ()) E hu hx hy hv hi (setM_good hg) hk
 rw [putM_set _ _ hn] at h
 exact h
theorem Ef.makeSet {P : Program} {n : Nat} {ds : List Deferred} {K : Kn} {w0 : World} {D : List Nat} {Hs : List Rs} {dst : Option Nat} {ty : Nat} {pos : String} {af : Array Edge} {g : Option (Nat × Bool)} {κ : Type} [DecidableEq κ] {t : Nat} (ek : κ → Value) : Ef P (Wd w0 D Hs) n ds K ⟨dst, .makeMap t none, ty, pos, af, g⟩ (σ := Nat) (fun b => .map (some b)) (fun b => Wd w0 D (Rs.mp b ek tt1 (setM []) :: Hs)) := Ef.makeMap (ν := Unit) ek tt1
theorem Wd.recast {w0 w : World} {D : List Nat} {Hs : List Rs} {i : Nat} {r : Rs} (h : Wd w0 D Hs w) (r' : Rs) (hi : nthR Hs i = some r) (hd : ∀ b, b ∈ r'.dom → b ∈ r.dom) (hr : ∀ w, r.ok w → r'.ok w) : Wd w0 D (setR Hs i r') w :=
 h.step hi rfl rfl rfl (Nat.le_refl _) (fun _ _ _ => rfl) (hr w (h.ok i r hi)) (fun b hb => .inl (hd b hb))
theorem row_own {α : Type} (c : Cd α) {b t : Nat} (xs : List α) {cells : List Value} (hc : cells = xs.flatMap c.cells) (hl : xs.length ≤ maxLen) : ∀ w, (Rs.row b cells t).ok w → (Rs.own c t (.slice (some ⟨b, 0, none⟩) xs.length xs.length) xs).ok w := fun w h => by
 have h' : w.heap[b]? = some (.cells cells.toArray t (0, 0)) := h
 show OE c t 0 w _ xs
 have hfl := flatE_len c xs
 refine ⟨hfl, .inr ⟨b, xs.length, cells.toArray, rfl, Nat.zero_le _, h', Nat.le_refl _, hl, ?_, ?_⟩⟩
 ·rw [hc, List.size_toArray, hfl]
 ·rw [hc, List.toList_toArray, List.take_of_length_le (by omega)]
theorem Yd.no {P : Program} {S : World → Prop} {n : Nat} {ds : List Deferred} {K : Kn} {o : Oper} {p : Prop} [Decidable p] (hp : ¬ p) (h : Yd P S n ds K o (.bool (decide p))) : Yd P S n ds K o (.bool false) := by rw [decide_eq_false hp] at h; exact h
theorem Yd.yes {P : Program} {S : World → Prop} {n : Nat} {ds : List Deferred} {K : Kn} {o : Oper} {p : Prop} [Decidable p] (hp : p) (h : Yd P S n ds K o (.bool (decide p))) : Yd P S n ds K o (.bool true) := by rw [decide_eq_true hp] at h; exact h
theorem Wd.ownBase {α : Type} {w0 w : World} {Hs : List Rs} {i t : Nat} {c : Cd α} {v : Value} {xs : List α} (h : Wd w0 [] Hs w) (hi : nthR Hs i = some (Rs.own c t v xs)) : OE c t w0.heap.size w v xs := by
 have ho : w.ownsRow 0 t c.sz v xs.length (xs.flatMap c.cells) := h.ok i _ hi
 have hd := h.dom i _ hi
 refine ⟨ho.1, ?_⟩
 rcases ho.2 with hn | ⟨g, cap, cur, rfl, hb, r⟩
 ·exact .inl hn
 ·refine .inr ⟨g, cap, cur, rfl, ?_, r⟩
  rcases hd g (by simp [Rs.own, blkL, Value.ownBlock]) with q | q
  ·exact q
  ·cases q
theorem Yd.strOf {P : Program} {S : World → Prop} {n : Nat} {ds : List Deferred} {K : Kn} {dst : Option Nat} {ty : Nat} {pos : String} {af : Array Edge} {g : Option (Nat × Bool)} {src dt e b off m cap : Nat} {x : Operand} (l : List UInt8) (hx : opd K x = some (.slice (some ⟨b, off, none⟩) m cap)) (hm : l.length = m) (hs : P.underlying src = some (.slice e)) (he : P.underlying e = some (.int .u8)) (hd : P.underlying dt = some .string) (hc : ∀ w, S w → ∀ j (hj : j < l.length), w.cell? ⟨b, off + j, none⟩ = some (.int .u8 (l[j].toNat : Int))) :
  Yd P S n ds K ⟨dst, .convert src dt x, ty, pos, af, g⟩ (.string ⟨l.toArray⟩) := fun a w ha hw => by
 subst hm
 have := run_convert_bytes_back (P := P) w src dt e ⟨b, off, none⟩ cap l hs he hd (fun j hj => by rw [add_at]; exact hc w hw j hj)
 simp [execOp, ha.eval hx, this]
/-! elements of several cells -/
theorem own_len {α : Type} {c : Cd α} {t b len cap : Nat} {w : World} {xs : List α} (h : (Rs.own c t (.slice (some ⟨b, 0, none⟩) len cap) xs).ok w) : len = xs.length := by
 have ho : w.ownsRow 0 t c.sz (.slice (some ⟨b, 0, none⟩) len cap) xs.length (xs.flatMap c.cells) := h
 rcases ho.2 with ⟨h', _⟩ | ⟨g', cap', cur, h', _⟩
 ·cases h'
 ·injection h'
theorem own_cells {α : Type} {c : Cd α} {t b len cap k : Nat} {xs : List α} (hk : k < xs.length) : ∀ w, (Rs.own c t (.slice (some ⟨b, 0, none⟩) len cap) xs).ok w → ∀ j u, (c.cells (ge c xs k))[j]? = some u → w.cell? ⟨b, 0 + k * c.sz + j, none⟩ = some u := fun w h j u hj => by
 have hlen := own_len h
 subst hlen
 have ho : w.ownsRow 0 t c.sz (.slice (some ⟨b, 0, none⟩) xs.length cap) xs.length (xs.flatMap c.cells) := h
 have hjlt : j < c.sz := by have := (List.getElem?_eq_some_iff.1 hj).1; rw [c.len] at this; exact this
 have hlt : k * c.sz + j < xs.length * c.sz := by
  have := Nat.mul_le_mul_right c.sz (show k + 1 ≤ xs.length by omega)
  rw [Nat.add_mul, Nat.one_mul] at this
  omega
 rw [show 0 + k * c.sz + j = k * c.sz + j by omega, ho.cellAt _ hlt, flatE c xs k j hk hjlt, hj]
theorem Yd.loadO {P : Program} {T : World → Prop} {n : Nat} {ds : List Deferred} {K : Kn} {dst : Option Nat} {ty : Nat} {pos : String} {af : Array Edge} {g : Option (Nat × Bool)} {α : Type} {c : Cd α} {t te b off m len cap k : Nat} {x : Operand} {xs : List α} {cs : List Value} (hx : opd K x = some (.pointer (some ⟨b, off, none⟩))) (ht : aggS P t = some (some m)) (hT : ∀ w, T w → (Rs.own c te (.slice (some ⟨b, 0, none⟩) len cap) xs).ok w) (hk : k < xs.length) (ho : off = 0 + k * c.sz) (hcs : c.cells (ge c xs k) = cs) (hl : cs.length = m) : Yd P T n ds K ⟨dst, .load t x, ty, pos, af, g⟩ (.agg cs.toArray) :=
 Yd.loadA hx ht hl (fun w hw j v hj => by subst ho; exact own_cells hk w (hT w hw) j v (by rw [hcs]; exact hj))
theorem own_rx {α : Type} {c : Cd α} {t : Nat} {v : Value} {xs : List α} {w : World} (hs : 0 < c.sz) (h : (Rs.own c t v xs).ok w) : RX c w.heap.size w v xs := OE.re hs h
end Go.Proofs.Ytokljoajalmkfaa
