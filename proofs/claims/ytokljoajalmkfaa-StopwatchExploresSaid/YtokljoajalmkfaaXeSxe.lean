/- Part of the proof of stopwatch_explores_proved: Sxd, Sxe. -/
import Derived.Laws.MakeOwn
import Derived.Laws.OwnMore
import Derived.Test.YtokljoajalmkfaaXeSxc
namespace Go.Proofs.Ytokljoajalmkfaa
open Go Go.RowKit
set_option linter.unusedVariables false
set_option linter.unusedSimpArgs false
set_option linter.unnecessarySimpa false
def callable (P : Program) (f : Nat) : Bool := match P.funcs[f]? with
 | some fn => !(fn.name == "runtime.NumGoroutine") && fn.body.isSome
 | none => false
theorem run_callFunc {P : Program} {f : Nat} (h : callable P f = true) (args : Array Value) (w : World) : (callFunc f args).run P w = .ok (.enter f args) w := by
 unfold callable at h
 split at h
 ·rename_i fn hf
  rw [Bool.and_eq_true] at h
  have h1 : ¬ fn.name = "runtime.NumGoroutine" := by simpa using h.1
  have h2 : ¬ fn.body = none := fun e => by rw [e] at h; cases h.2
  simp [callFunc, hf, h1, h2]
 ·cases h
def Cll (P : Program) (n : Nat) (ds : List Deferred) (K : Kn) (o : Oper) (f : Nat) (vs : List Value) : Prop := ∀ a w, Kw n ds K a → (execOp a.eval o).run P w = .ok (.enter f vs.toArray) w
section
variable {P : Program} {ops : Array Oper} {N : Act → World → Prop} {n : Nat} {ds : List Deferred} {l : List Oper} {K : Kn} {S : World → Prop} {w0 : World} {D : List Nat} {Hs : List Rs} {dst : Option Nat} {ty : Nat} {pos : String} {af : Array Edge} {g : Option (Nat × Bool)} {o : Oper}
theorem Cll.func {f : Nat} {xs : List Operand} {ats : Array Nat} {vs : List Value} (hx : opds K xs = some vs) (hf : callable P f = true) : Cll P n ds K ⟨dst, .call { callee := .value (.func f), args := xs.toArray, argTypes := ats }, ty, pos, af, g⟩ f vs := fun a w ha => by
 have e : a.eval (.func f) = .func (.func f) #[] #[] := rfl
 have e2 : xs.toArray.map a.eval = vs.toArray := by rw [List.map_toArray, ha.evals hx]
 simp [execOp, resolve, e, e2, Deferred.ofValue, invoke, run_callFunc hf, ha.evals hx]
theorem Cll.value {c : Operand} {f : Nat} {xs : List Operand} {ats : Array Nat} {fs us cs vs : List Value} (hc : opd K c = some (.func (.func f) fs.toArray cs.toArray)) (hx : opds K xs = some us) (hv : fs ++ us ++ cs = vs) (hf : callable P f = true) : Cll P n ds K ⟨dst, .call { callee := .value c, args := xs.toArray, argTypes := ats }, ty, pos, af, g⟩ f vs := fun a w ha => by
 subst hv
 simp [execOp, resolve, ha.eval hc, Deferred.ofValue, invoke, run_callFunc hf, ha.evals hx]
theorem SL.callG {σ : Type} {V : σ → Value} {S' : σ → World → Prop} {d f : Nat} {vs : List Value} (hd : o.dst = some d) (hn : (Nat.blt d n) = true) (hg : Gd ops n ds K o true) (hcl : Cll P n ds K o f vs)
  (hc : ∀ w, S w → Calls P f vs.toArray w fun e w' => ∃ s, e = .returned (V s) ∧ S' s w') (h : ∀ s, SL P ops N n ds l ((d, V s) :: K) (S' s)) : SL P ops N n ds (o :: l) K S := fun a w ha hw => by
 have hlt : d < n := by simpa [Nat.blt_eq] using hn
 show oneW P ops o (seqW P ops N l) a w
 unfold oneW opW
 rw [if_pos (hg a ha), hcl a w ha, hd]
 exact (hc w hw).mono fun e w' ⟨s, he, hs⟩ => ⟨V s, he, h s _ _ (ha.put hlt _) hs⟩
theorem SL.callB {v : Value} {d f : Nat} {vs : List Value} (hd : o.dst = some d) (hn : (Nat.blt d n) = true) (hg : Gd ops n ds K o true) (hcl : Cll P n ds K o f vs)
  (hc : ∀ w, Wd w0 D Hs w → Calls P f vs.toArray w fun e w' => e = .returned v ∧ Below w.heap.size w w') (h : SL P ops N n ds l ((d, v) :: K) (Wd w0 D Hs)) : SL P ops N n ds (o :: l) K (Wd w0 D Hs) :=
 SL.callG (σ := Unit) (V := fun _ => v) (S' := fun _ => Wd w0 D Hs) hd hn hg hcl (fun w hw => (hc w hw).mono fun e w' ⟨he, hb⟩ => ⟨(), he, hw.keep hb⟩) (fun _ => h)
theorem SL.callX {σ : Type} {I : σ → Prop} {V : σ → Value} {d f : Nat} {vs : List Value} (hd : o.dst = some d) (hn : (Nat.blt d n) = true) (hg : Gd ops n ds K o true) (hcl : Cll P n ds K o f vs)
  (hc : ∀ w, Wd w0 D Hs w → Calls P f vs.toArray w fun e w' => (∃ s, I s ∧ e = .returned (V s)) ∧ Below w.heap.size w w') (h : ∀ s, I s → SL P ops N n ds l ((d, V s) :: K) (Wd w0 D Hs)) : SL P ops N n ds (o :: l) K (Wd w0 D Hs) :=
 SL.callG (σ := {s : σ // I s}) (V := fun s => V s.1) (S' := fun _ => Wd w0 D Hs) hd hn hg hcl (fun w hw => (hc w hw).mono fun e w' ⟨⟨s, hI, he⟩, hb⟩ => ⟨⟨s, hI⟩, he, hw.keep hb⟩) (fun s => h s.1 s.2)
theorem SL.callO {α : Type} {c : Cd α} {t : Nat} {xs : List α} {V : Value → Value} {d f : Nat} {vs : List Value} (hd : o.dst = some d) (hn : (Nat.blt d n) = true) (hg : Gd ops n ds K o true) (hcl : Cll P n ds K o f vs)
  (hc : ∀ w, Wd w0 D Hs w → Calls P f vs.toArray w fun e w' => ∃ v, e = .returned (V v) ∧ OE c t w.heap.size w' v xs ∧ Below w.heap.size w w') (h : ∀ v, SL P ops N n ds l ((d, V v) :: K) (Wd w0 D (Rs.own c t v xs :: Hs))) : SL P ops N n ds (o :: l) K (Wd w0 D Hs) :=
 SL.callG (σ := Value) (V := V) (S' := fun v => Wd w0 D (Rs.own c t v xs :: Hs)) hd hn hg hcl (fun w hw => (hc w hw).mono fun e w' ⟨v, he, ho, hb⟩ => ⟨v, he, hw.new hb (OE.lower ho (Nat.zero_le _)) (fun b hb' => by
  have : b ∈ blkL v := hb'
  unfold blkL at this
  cases hv : v.ownBlock with
  | none => rw [hv] at this; cases this
  | some q =>
   rw [hv] at this
   have e : b = q := by simpa using this
   subst e
   exact (World.ownsRow.lt ho _ hv).1)⟩) h
theorem SL.efD {σ : Type} {V : σ → Value} {S' : σ → World → Prop} {d : Nat} (hd : o.dst = some d) (hn : (Nat.blt d n) = true) (hg : Gd ops n ds K o true) (hv : Ef P S n ds K o V S') (h : ∀ s, SL P ops N n ds l ((d, V s) :: K) (S' s)) : SL P ops N n ds (o :: l) K S := SL.eff hd hn hg hv h
theorem SL.ef0 {S' : World → Prop} (hd : o.dst = none) (hg : Gd ops n ds K o true) (hv : Ef0 P S n ds K o S') (h : SL P ops N n ds l K S') : SL P ops N n ds (o :: l) K S := SL.eff0 hd hg hv h
/-! make -/
def slE (P : Program) (t : Nat) : Option (Nat × Nat × Nat × List Value) := match P.underlying t with
 | some (.slice e) => match P.info? e with
  | some i => match i.zero with
   | some z => if z.cells.size = i.size ∧ 0 < i.size then some (e, i.size, i.bytes, z.cells.toList) else none
   | none => none
  | none => none
 | _ => none
theorem slE_is {t e size bytes : Nat} {z : List Value} (h : slE P t = some (e, size, bytes, z)) : ∃ i v, P.underlying t = some (.slice e) ∧ P.info? e = some i ∧ i.zero = some v ∧ i.size = size ∧ i.bytes = bytes ∧ v.cells = z.toArray ∧ v.cells.size = size ∧ 0 < size := by
 unfold slE at h
 split at h
 ·rename_i e' hu
  split at h
  ·rename_i i hi
   split at h
   ·rename_i v hv
    split at h
    ·rename_i hz
     injection h with h
     injection h with h1 h
     injection h with h2 h
     injection h with h3 h4
     subst h1; subst h2; subst h3
     exact ⟨i, v, hu, hi, hv, rfl, rfl, by rw [← h4], hz.1, hz.2⟩
    ·cases h
   ·cases h
  ·cases h
 ·cases h
def madeL (z : List Value) (k : Nat) : List Value := (List.range k).map fun j => z[j % z.length]!
theorem madeL_one (v : Value) (k : Nat) : madeL [v] k = List.replicate k v := by
 apply List.ext_getElem (by simp [madeL])
 intro i h1 h2
 simp [madeL, Nat.mod_one]
theorem Ef.makeSlice {t : Nat} {x y : Operand} {q q' : IntKind} {m e size bytes : Nat} {z : List Value} (hx : opd K x = some (.int q (m : Int))) (hy : opd K y = some (.int q' (m : Int))) (hz : slE P t = some (e, size, bytes, z)) (hb : bytes * m ≤ 281474976710656) (hm : m ≤ 9223372036854775807) :
  Ef P (Wd w0 D Hs) n ds K ⟨dst, .makeSlice t x y, ty, pos, af, g⟩ (σ := Nat) (fun b => .slice (some ⟨b, 0, none⟩) m m) (fun b => Wd w0 D (Rs.row b (madeL z (m * size)) e :: Hs)) := fun a w ha hw => by
 obtain ⟨i, v, hu, hi, hv, hs, hby, hvz, hvs, hs0⟩ := slE_is hz
 have hbi : (bytes : Int) * (m : Int) ≤ 281474976710656 := by
  have : ((bytes * m : Nat) : Int) ≤ 281474976710656 := by omega
  rwa [Int.natCast_mul] at this
 have hr := run_make (P := P) w t e i v hu hi hv q q' (m : Int) (m : Int) (by omega) (Int.le_refl _) (by rw [hby]; exact hbi) (by omega)
 simp only [Int.toNat_natCast, hs] at hr
 have em : madeCells v.cells (m * size) = (madeL z (m * size)).toArray := by
  unfold madeCells madeL
  rw [hvz]
  apply Array.ext'
  simp [Array.toList_range]
 rw [em] at hr
 refine ⟨w.heap.size, _, ?_, hw.new (below_alloc _ _) (alloc_row w _ e) (row_dom _ _ _)⟩
 simp [execOp, ha.eval hx, ha.eval hy, hr]
/-! append -/
theorem run_append2 (w : World) (t ty e : Nat) (i : TypeInfo) (z : Value) (size bytes : Nat) (ht : P.underlying t = some (.slice e)) (hi : P.info? e = some i) (hz : i.zero = some z)
  (hsize : i.size = size) (hby : i.bytes = bytes) (hzs : z.cells.size = size) (hsz : 0 < size)
  (v : Value) (n : Nat) (xs : List Value) (hown : w.ownsRow 0 e size v n xs)
  (a : Addr) (m c : Nat) (news : List Value) (hl : news.length = m * size) (hnews : ∀ j u, news[j]? = some u → w.cell? (a.add j) = some u) (h1 : ∀ u ∈ news, u.oneCell' = true)
  (h63 : n + m ≤ maxLen) (hbytes : (n + m) * bytes ≤ 140737488355328) :
  ∃ v' w', (Builtin.append_ #[t, t] ty #[v, .slice (some a) m c]).run P w = .ok v' w' ∧ w'.ownsRow 0 e size v' (n + m) (xs ++ news) ∧ w.grownBy w' v.ownBlock ∧ ∀ b, b ∈ blkL v' → b ∈ blkL v ∨ w.heap.size ≤ b := by
 rcases hown.2 with ⟨rfl, rfl⟩ | ⟨g, cap, cur, rfl, hbg, hg, hnc, hcm, hcs, htake⟩
 ·have hx : xs = [] := List.eq_nil_of_length_eq_zero (by simpa using hown.1)
  subst hx
  obtain ⟨v', w', h1, h2, h3, h4⟩ := run_append_own (P := P) w w.heap.size t ty e i z size bytes ht hi hz hsize hby hzs hsz (.slice none 0 0) 0 [] (World.ownsRow_nil _ _ _ _) a m c news hl hnews h1 h63 hbytes (Nat.le_refl _)
  refine ⟨v', w', h1, owns_mono h2 (Nat.zero_le _), h3, fun b hb => .inr ?_⟩
  unfold blkL at hb
  cases hv : v'.ownBlock with
  | none => rw [hv] at hb; cases hb
  | some q =>
   rw [hv] at hb
   have e : b = q := by simpa using hb
   subst e
   exact (World.ownsRow.lt h2 _ hv).1
 ·by_cases hroom : n + m ≤ cap
  ·have hfit : n * i.size + news.length ≤ cur.size := by rw [hl, hcs, hsize, ← Nat.add_mul]; exact Nat.mul_le_mul_right _ hroom
   have hr := run_append_room (P := P) w t ty e i ht hi g n cap cur hg a m c news (by rw [hsize]; exact hl) hnews h1 hroom hfit
   obtain ⟨v', w', q1, q2, q3, q4⟩ := run_append_own (P := P) w 0 t ty e i z size bytes ht hi hz hsize hby hzs hsz _ n xs hown a m c news hl hnews h1 h63 hbytes (Nat.zero_le _)
   rw [hr] at q1
   injection q1 with e1 e2
   subst e1
   exact ⟨_, w', by rw [hr, e2], q2, q3, fun b hb => .inl hb⟩
  ·obtain ⟨v', w', q1, q2, q3, q4⟩ := run_append_own (P := P) w 0 t ty e i z size bytes ht hi hz hsize hby hzs hsz _ n xs hown a m c news hl hnews h1 h63 hbytes (Nat.zero_le _)
   have holds : ∀ j u, xs[j]? = some u → w.cell? ((⟨g, 0, none⟩ : Addr).add j) = some u := hown.cells (g := g) rfl
   have hr := run_append_grow (P := P) w t ty e i z ht hi hz ⟨g, 0, none⟩ n cap xs (by rw [hsize]; exact hown.1) holds a m c news (by rw [hsize]; exact hl) hnews (by omega) (by simp only [maxLen] at h63; omega) (growslice_fits (by omega) (by rw [hby]; exact hbytes))
   refine ⟨v', w', q1, q2, q3, fun b hb => .inr ?_⟩
   rw [hr] at q1
   injection q1 with e1 e2
   rw [← e1] at hb
   have : b = w.heap.size := by simpa [blkL, Value.ownBlock] using hb
   omega
theorem Ef.append {α : Type} {c : Cd α} {t e size bytes i b off m cap : Nat} {s x : Operand} {v : Value} {xs ys : List α} {z : List Value} (hs : opd K s = some v) (hx : opd K x = some (.slice (some ⟨b, off, none⟩) m cap)) (hz : slE P t = some (e, size, bytes, z)) (hcs : c.sz = size) (hi : nthR Hs i = some (Rs.own c e v xs)) (hm : ys.length = m)
  (hc : ∀ w, Wd w0 D Hs w → ∀ j u, (ys.flatMap c.cells)[j]? = some u → w.cell? ⟨b, off + j, none⟩ = some u) (h1 : ∀ y, y ∈ ys → (c.cells y).all (·.oneCell') = true) (hb : (xs.length + m) * bytes ≤ 140737488355328) (h63 : xs.length + m ≤ maxLen) :
  Ef P (Wd w0 D Hs) n ds K ⟨dst, .call { callee := .builtin .append, args := #[s, x], argTypes := #[t, t] }, ty, pos, af, g⟩ (σ := Value) (fun v' => v') (fun v' => Wd w0 D (setR Hs i (Rs.own c e v' (xs ++ ys)))) := fun a w ha hw => by
 obtain ⟨inf, z', hu, hi2, hv, hsz, hby, hvz, hvs, hs0⟩ := slE_is hz
 have hown : w.ownsRow 0 e size v xs.length (xs.flatMap c.cells) := by have := hw.ok i _ hi; rw [← hcs]; exact this
 obtain ⟨v', w', q1, q2, q3, q4⟩ := run_append2 (P := P) w t ty e inf z' size bytes hu hi2 hv hsz hby hvs hs0 v xs.length _ hown ⟨b, off, none⟩ m cap (ys.flatMap c.cells) (by rw [flatE_len, hcs, hm]) (fun j u hj => by rw [add_at]; exact hc w hw j u hj)
  (fun u hu => by obtain ⟨y, hy, hu⟩ := List.mem_flatMap.1 hu; exact List.all_eq_true.1 (h1 y hy) u hu) h63 hb
 refine ⟨v', w', ?_, hw.step hi q3.os q3.tape q3.output q3.size (fun k hk hne => q3.block k hk (fun e => hne (by
  show k ∈ blkL v
  unfold blkL
  rw [← e]; simp))) ?_ (fun k hk => q4 k hk)⟩
 ·simp [execOp, resolve, invoke, builtin, ha.eval hs, ha.eval hx, q1]
 ·show OE c e 0 w' v' (xs ++ ys)
  unfold OE
  rw [hcs, List.length_append, hm, List.flatMap_append]
  exact q2
/-! literals -/
theorem foldl_set : ∀ (l : List Value) (k off : Nat) (C : Array Value), off + k + l.length ≤ C.size → (l.zipIdx k).foldl (fun cs p => cs.setIfInBounds (off + p.2) p.1) C = (C.toList.take (off + k) ++ l ++ C.toList.drop (off + k + l.length)).toArray
  | [], k, off, C, h => by simp
  | v :: l, k, off, C, h => by
    have h' : off + k < C.size := by simp at h; omega
    rw [List.zipIdx_cons, List.foldl_cons, foldl_set l (k + 1) off _ (by simp at h ⊢; omega)]
    congr 1
    simp only [Array.toList_setIfInBounds]
    have e1 : (C.toList.set (off + k) v).take (off + (k + 1)) = C.toList.take (off + k) ++ [v] := by
      rw [show off + (k + 1) = (off + k) + 1 by omega, List.take_succ_eq_append_getElem (by simpa using h'), List.take_set_of_le (Nat.le_refl _)]
      simp
    rw [e1, List.drop_set_of_lt (by omega)]
    simp [Nat.add_assoc, Nat.add_comm 1, Nat.add_left_comm]
theorem fill_full (s : Nat) : ∀ (ps : List (Nat × Value)) (k : Nat) (C : Array Value), ps.map (·.1) = List.range' k ps.length → (∀ p, p ∈ ps → p.2.cells.size = s) → (k + ps.length) * s = C.size → Instr.fill (fun i => some (i * s, s)) C ps = some (C.toList.take (k * s) ++ ps.flatMap (fun p => p.2.cells.toList)).toArray
  | [], k, C, _, _, hC => by
    have : C.toList.take (k * s) = C.toList := List.take_of_length_le (by simp at hC ⊢; omega)
    simp [Instr.fill, this]
  | (i, v) :: ps, k, C, hk, hs, hC => by
    rw [List.length_cons, List.range'_succ, List.map_cons] at hk
    injection hk with h1 h2
    dsimp only at h1
    subst h1
    have hv : v.cells.size = s := hs (i, v) (by simp)
    have hle : i * s + v.cells.size ≤ C.size := by
      rw [hv, ← hC, List.length_cons]
      have : (i + (ps.length + 1)) * s = i * s + s + ps.length * s := by rw [Nat.add_mul, Nat.add_mul]; omega
      omega
    unfold Instr.fill
    simp only [hv, ne_eq, not_true_eq_false, decide_false, Bool.false_or, decide_eq_true_eq]
    rw [if_neg (by rw [hv] at hle; simpa using hle)]
    have ef : v.cells.zipIdx.foldl (fun cs (x : Value × Nat) => match x with | (c, j) => cs.setIfInBounds (i * s + j) c) C = (C.toList.take (i * s) ++ v.cells.toList ++ C.toList.drop (i * s + s)).toArray := by
      have := foldl_set v.cells.toList 0 (i * s) C (by simpa using hle)
      rw [← Array.foldl_toList, Array.toList_zipIdx]
      simpa [hv] using this
    rw [ef, fill_full s ps (i + 1) _ h2 (fun p hp => hs p (by simp [hp])) (by
      simp [hv]
      rw [hv] at hle
      have e1 : (i + 1 + ps.length) * s = C.size := by rw [← hC, List.length_cons]; congr 1; omega
      rw [e1]
      have : min (i * s) C.size = i * s := by omega
      rw [this]; omega)]
    congr 2
    have hl1 : (C.toList.take (i * s)).length = i * s := by rw [hv] at hle; simp; omega
    have : ((C.toList.take (i * s) ++ v.cells.toList ++ C.toList.drop (i * s + s))).take ((i + 1) * s) = C.toList.take (i * s) ++ v.cells.toList := by
      rw [List.take_left']
      simp [hv]; rw [Nat.add_mul, hv] at *; omega
    simp only [List.flatMap_cons, ← List.append_assoc]
    rw [this]
theorem Ef.buildSlice {t m e size bytes : Nat} {ps : List (Nat × Operand)} {pv : List (Nat × Value)} {z : List Value} (hp : opdp K ps = some pv) (hz : slE P t = some (e, size, bytes, z)) (hm : pv.length = m) (hk : pv.map (·.1) = List.range' 0 pv.length) (hs : pv.all (fun p => p.2.cells.size == size) = true) (hb : Nat.ble (m * size) 16777216 = true) :
  Ef P (Wd w0 D Hs) n ds K ⟨dst, .buildSlice t m ps.toArray, ty, pos, af, g⟩ (σ := Nat) (fun b => .slice (some ⟨b, 0, none⟩) m m) (fun b => Wd w0 D (Rs.row b (pv.flatMap fun p => p.2.cells.toList) e :: Hs)) := fun a w ha hw => by
 obtain ⟨i, v, hu, hi, hv, hsz, hby, hvz, hvs, hs0⟩ := slE_is hz
 have hle : m * size ≤ 16777216 := Nat.le_of_ble_eq_true hb
 have e1 : (ps.toArray.map fun p => (p.1, a.eval p.2)) = pv.toArray := by rw [List.map_toArray, ha.evalp hp]
 have hfill : ∀ C : Array Value, C.size = m * size → Instr.fill (fun i => some (i * size, size)) C pv = some (pv.flatMap fun p => p.2.cells.toList).toArray := fun C hC => by
  have := fill_full size pv 0 C hk (fun p hp => by simpa using List.all_eq_true.1 hs p hp) (by rw [hC, Nat.zero_add, hm])
  simpa using this
 refine ⟨w.heap.size, w.alloc (.cells (pv.flatMap fun p => p.2.cells.toList).toArray e), ?_, hw.new (below_alloc _ _) (by exact alloc_row w _ e) (row_dom _ _ _)⟩
 show ((do pure (.value (← Instr.buildSlice t m (ps.toArray.map fun p => (p.1, a.eval p.2)))) : Sem Next)).run P w = _
 rw [e1]
 have hnle : ¬ (16777216 < m * size) := by omega
 by_cases h0 : m * size = 0
 ·simp [Instr.buildSlice, run_underlying hu, sizeOf, typeInfo, hi, hsz, h0, hfill #[] (by simp [h0]), newRow, Array.range_zero']
 ·simp [Instr.buildSlice, run_underlying hu, sizeOf, typeInfo, hi, hsz, h0, hnle, zeroValue, hv, hfill ((Array.range (m * size)).map (v.cells[· % v.cells.size]!)) (by simp), newRow]
/-! reading and writing a slice of one's own -/
theorem own_open {α : Type} {c : Cd α} {t : Nat} {w : World} {v : Value} {xs : List α} (h : (Rs.own c t v xs).ok w) : (v = .slice none 0 0 ∧ xs = []) ∨ ∃ b cap, v = .slice (some ⟨b, 0, none⟩) xs.length cap := by
 rcases h.2 with ⟨rfl, h0⟩ | ⟨g, cap, cur, rfl, hb, hg, r⟩
 ·exact .inl ⟨rfl, List.eq_nil_of_length_eq_zero h0⟩
 ·exact .inr ⟨g, cap, rfl⟩
end
theorem calls_openD {P : Program} {f n : Nat} {fn : Func} {c : Code} {vs : List Value} {w : World} {R : Ending → World → Prop} {D : List Nat} {Hs : List Rs} (hf : P.funcs[f]? = some fn) (hb : fn.body = some c) (hn : fn.ntmps = n) (hl : Nat.ble vs.length n = true) (hw : Wd w D Hs w) (h : CW none P c (bodyPost P fn R) n [] (argK vs 0) (Wd w D Hs)) : Calls P f vs.toArray w R := by
 subst hn
 exact calls_cw hf hb (eq_true (Nat.le_of_ble_eq_true hl)) (h.conseq Sub.refl (fun w' e => e ▸ hw))
theorem Wd.start1 {r : Rs} {w : World} (h : r.ok w) : Wd w r.dom [r] w :=
 ⟨rfl, rfl, rfl, Nat.le_refl _, fun _ _ _ => rfl, fun i q hq => by
  cases i with
  | zero => cases hq; exact h
  | succ i => exact (nthR_nil (i := i) hq).elim, fun i q hq b hb => by
  cases i with
  | zero => cases hq; exact .inr hb
  | succ i => exact (nthR_nil (i := i) hq).elim, fun i j q q' hne hq hq' => by
  cases i with
  | zero => cases j with
   | zero => exact absurd rfl hne
   | succ j => exact (nthR_nil (i := j) hq').elim
  | succ i => exact (nthR_nil (i := i) hq).elim⟩
theorem Wd.after {w0 w w' : World} {D : List Nat} {Hs : List Rs} {i : Nat} {r r' : Rs} (h : Wd w0 D Hs w) (hi : nthR Hs i = some r) (h' : Wd w r.dom [r'] w') : Wd w0 D (setR Hs i r') w' :=
 h.step hi h'.os h'.tape h'.output h'.size (fun b hb hn => h'.block b hb hn) (h'.ok 0 r' rfl) (fun b hb => (h'.dom 0 r' rfl b hb).symm)
theorem Wd.trans0 {w0 w w' : World} {D : List Nat} {Hs : List Rs} (h : Wd w0 D Hs w) (h' : Wd w D [] w') : Wd w0 D [] w' :=
 ⟨h'.os.trans h.os, h'.tape.trans h.tape, h'.output.trans h.output, Nat.le_trans h.size h'.size, fun b h1 h2 => (h'.block b (Nat.lt_of_lt_of_le h1 h.size) h2).trans (h.block b h1 h2), fun i q hq => (nthR_nil (i := i) hq).elim, fun i q hq => (nthR_nil (i := i) hq).elim, fun i j q q' _ hq => (nthR_nil (i := i) hq).elim⟩
theorem own_at1 {α : Type} {c : Cd α} {t b len cap : Nat} {xs : List α} (h1 : c.sz = 1) {k : Nat} {u : Value} (hk : k < xs.length) (hu : c.cells (ge c xs k) = [u]) : ∀ w, (Rs.own c t (.slice (some ⟨b, 0, none⟩) len cap) xs).ok w → w.cell? ⟨b, 0 + k * 1, none⟩ = some u := fun w h => by
 have ho : w.ownsRow 0 t c.sz (.slice (some ⟨b, 0, none⟩) len cap) xs.length (xs.flatMap c.cells) := h
 have hlen : len = xs.length := by
  rcases ho.2 with ⟨h', _⟩ | ⟨g', cap', cur, h', _⟩
  ·cases h'
  ·injection h'
 subst hlen
 have e := flatE c xs k 0 hk (by omega)
 rw [h1, hu] at e
 have := ho.cellAt (k * 1 + 0) (by rw [h1]; omega)
 rw [e] at this
 rw [show 0 + k * 1 = k * 1 + 0 by omega, this]; rfl
theorem flatMap_set1 {α : Type} {c : Cd α} (h1 : c.sz = 1) {u : Value} {y : α} (hy : c.cells y = [u]) : ∀ (xs : List α) (k : Nat), (xs.flatMap c.cells).set k u = (xs.set k y).flatMap c.cells
  | [], k => by simp
  | x :: xs, k => by
    obtain ⟨v, hv⟩ := List.length_eq_one_iff.1 ((c.len x).trans h1)
    cases k with
    | zero => simp [List.flatMap_cons, hv, hy]
    | succ k => simp [List.flatMap_cons, hv, flatMap_set1 h1 hy xs k]
theorem Ef0.storeOwn {P : Program} {n : Nat} {ds : List Deferred} {K : Kn} {w0 : World} {D : List Nat} {Hs : List Rs} {ty : Nat} {pos : String} {af : Array Edge} {g : Option (Nat × Bool)} {α : Type} {c : Cd α} {t e b off i len cap k : Nat} {x y : Operand} {v : Value} {xs : List α} {z : α} (hx : opd K x = some (.pointer (some ⟨b, off, none⟩))) (hy : opd K y = some v) (ht : aggS P t = some none) (hi : nthR Hs i = some (Rs.own c e (.slice (some ⟨b, 0, none⟩) len cap) xs)) (h1 : c.sz = 1) (hz : c.cells z = [v]) (h1v : v.oneCell' = true) (ho : off = k) (hk : k < xs.length) :
  Ef0 P (Wd w0 D Hs) n ds K ⟨none, .store t x y, ty, pos, af, g⟩ (Wd w0 D (setR Hs i (Rs.own c e (.slice (some ⟨b, 0, none⟩) len cap) (xs.set k z)))) := fun a w ha hw => by
 subst ho
 have hsz := ((run_isAgg (P := P) (t := t) (w := w)).2 ht).2
 have hown : w.ownsRow 0 e c.sz (.slice (some ⟨b, 0, none⟩) len cap) xs.length (xs.flatMap c.cells) := hw.ok i _ hi
 have hfl := flatE_len c xs
 rcases hown.2 with ⟨h', _⟩ | ⟨g', cap', cur, h', hb0, hg, hnc, hcm, hcs, htk⟩
 ·cases h'
 ·have ea : b = g' := by injection h' with e1 e2 e3; injection e1 with e1; injection e1
  have eb : len = xs.length := by injection h'
  have ec : cap = cap' := by injection h'
  subst ea; subst eb; subst ec
  have hlc : off < cur.size := by rw [hcs, h1]; omega
  obtain ⟨w', er, h2, h3, h4, h5, h6, h7⟩ := run_storeRow (P := P) (b := b) (t := e) [v] cur.toList off 0 w (by rw [Array.toArray_toList]; exact hg) (by simp; omega) (fun u hu => (show u = v by simpa using hu) ▸ h1v)
  have hvc : v.cells = #[v] := by cases v <;> first | rfl | (simp [Value.oneCell'] at h1v)
  refine ⟨w', ?_, hw.step hi h3 h4 h5 (by omega) (fun q _ hq => h7 q (fun e => hq (by simp [Rs.own, blkL, Value.ownBlock, e]))) ?_ (fun q hq => .inl hq)⟩
  ·simp [execOp, ha.eval hx, ha.eval hy, Instr.storeAt, Instr.sureAddr, storeVar, hsz, hvc, er]
  ·show OE c e 0 w' _ _
   refine ⟨by rw [← flatMap_set1 h1 hz, List.length_set, hfl, List.length_set], .inr ⟨b, cap, (cur.toList.set off v).toArray, by rw [List.length_set], Nat.zero_le _, by simpa [setRow2] using h2, by rw [List.length_set]; exact hnc, hcm, by simpa using hcs, ?_⟩⟩
   rw [List.length_set, ← flatMap_set1 h1 hz, ← htk, List.toList_toArray, List.take_set]
end Go.Proofs.Ytokljoajalmkfaa
namespace Go.Proofs.Ytokljoajalmkfaa
open Go Go.RowKit
set_option linter.unusedVariables false
set_option linter.unusedSimpArgs false
set_option linter.unnecessarySimpa false
abbrev Hd := (World → Prop) × List Nat
def SG : List Hd → Array Bool → World → Prop
 | [], _, _ => True
 | h :: hs, L, w => ((h.2.all fun k => !L.getD k false) = true → h.1 w) ∧ SG hs L w
theorem SG.get : ∀ {hs : List Hd} {L : Array Bool} {w : World} {i : Nat} {h : Hd}, SG hs L w → hs[i]? = some h → (h.2.all fun k => !L.getD k false) = true → h.1 w
  | [], _, _, i, h, _, hi, _ => by simp at hi
  | q :: hs, L, w, 0, h, hS, hi, hk => by
    have e : q = h := by simpa using hi
    subst e; exact hS.1 hk
  | q :: hs, L, w, i + 1, h, hS, hi, hk => SG.get hS.2 (by simpa using hi) hk
theorem SG.less : ∀ {hs : List Hd} {L : Array Bool} {w : World} {i : Nat}, (hs.all fun h => !h.2.contains i) = true → SG hs (L.setIfInBounds i true) w → SG hs L w
  | [], _, _, _, _, _ => trivial
  | q :: hs, L, w, i, hi, hS => by
    rw [List.all_cons, Bool.and_eq_true] at hi
    refine ⟨fun hk => hS.1 ?_, SG.less hi.2 hS.2⟩
    rw [List.all_eq_true] at hk ⊢
    intro k hm
    have hne : i ≠ k := fun e => by subst e; have := hi.1; simp at this; exact this hm
    rw [getD_set_ne false hne]
    exact hk k hm
section
variable {P : Program} {ops : Array Oper} {N : Act → World → Prop} {S : Array Bool → World → Prop} {T : World → Prop}
def anyW (P : Program) (ops : Array Oper) (N : Act → World → Prop) (S : Array Bool → World → Prop) : Nat → Array Bool → Act → World → Prop
 | 0, L, a, w => Region.ready .any ops L = [] ∧ N a w
 | f + 1, L, a, w => (Region.ready .any ops L = [] → N a w) ∧ ∀ i, i ∈ Region.ready .any ops L → ∀ o, ops[i]? = some o → oneW P ops o (fun a' w' => S (L.setIfInBounds i true) w' ∧ anyW P ops N S f (L.setIfInBounds i true) a' w') a w
theorem anyW_sound {X : Option Nat} {n : Nat} {Q : Exit → Act → World → Prop} : ∀ (f : Nat) (L : Array Bool) (a : Act) (w : World), anyW P ops (Q .normal) S f L a w → wpAnyIn (fx X) n P .any ops Q f L a w
  | 0, L, a, w, h => h
  | f + 1, L, a, w, h => by
    refine ⟨h.1, fun i hi => ?_⟩
    obtain ⟨hun, o, ho, _⟩ := mem_ready.1 hi
    exact oneW_wpOpIn ho (oneW_mono (fun a w q => anyW_sound f _ a w q.2) (h.2 i hi o ho))
def Yi (P : Program) (ops : Array Oper) (T : World → Prop) (o : Oper) (v : Value) (a : Act) : Prop :=
 (Region.wanted o (yielded ops a.tmps) = true ∧ ∀ w, T w → (execOp a.eval o).run P w = .ok (.value v) w) ∨ (Region.wanted o (yielded ops a.tmps) = false ∧ v = undef)
theorem Yi.one {o : Oper} {v : Value} {a : Act} {w : World} {K : Act → World → Prop} (hy : Yi P ops T o v a) (hT : T w) (h : K (a.put o.dst v) w) : oneW P ops o K a w := by
 unfold oneW
 rcases hy with ⟨hw, hv⟩ | ⟨hw, rfl⟩
 ·rw [if_pos hw]; unfold opW; rw [hv w hT]; exact h
 ·rw [if_neg (by rw [hw]; decide)]; exact h
theorem Yi.same {o : Oper} {v : Value} {a a' : Act} (hy : Yi P ops T o v a) (he : execOp a'.eval o = execOp a.eval o) (hw : Region.wanted o (yielded ops a'.tmps) = Region.wanted o (yielded ops a.tmps)) : Yi P ops T o v a' := by
 unfold Yi at *; rw [he, hw]; exact hy
theorem oneW_put {oi oj : Oper} {v : Value} (hap : oi.apart ops oj = true) (hsi : ∀ cs b, oi.op ≠ .select cs b) (hsj : ∀ cs b, oj.op ≠ .select cs b) {K : Act → World → Prop} {a : Act} {w : World} (hy : Yi P ops T oi v a)
  (h : oneW P ops oj K (a.put oi.dst v) w) : oneW P ops oj (fun a' w' => Yi P ops T oi v a' ∧ K (a'.put oi.dst v) w') a w := by
 obtain ⟨h1, h2, h3⟩ := Oper.apart_spec hap
 have keep : ∀ u, Yi P ops T oi v (a.put oj.dst u) := fun u => hy.same (execOp_put oi hsi a oj.dst u h3) (wanted_put oi a oj.dst u h3)
 unfold oneW at *
 rw [wanted_put oj a oi.dst v h1] at h
 split
 ·rename_i hw
  rw [if_pos hw] at h
  unfold opW at *
  rw [execOp_put oj hsj a oi.dst v h1] at h
  generalize (execOp a.eval oj).run P w = r at *
  cases r with
  | ok n w' =>
   cases n <;> dsimp only at h ⊢ <;> first
    | exact h.elim
    | exact ⟨keep _, by rw [← Act.put_comm a v _ h2]; exact h⟩
    | exact h.mono fun e w'' ⟨u, he, q⟩ => ⟨u, he, keep u, by rw [← Act.put_comm a v u h2]; exact q⟩
  | halt x w' => exact h.elim
 ·rename_i hw
  rw [if_neg hw] at h
  exact ⟨keep _, by rw [← Act.put_comm a v undef h2]; exact h⟩
def ClL (ops : Array Oper) (L : Array Bool) : Prop := ∀ j o, ops[j]? = some o → L.getD j false = true → ∀ e, e ∈ o.after → Region.binds .any e = true → L.getD e.on false = true
def clL (ops : Array Oper) (L : Array Bool) : Bool :=
 (List.range ops.size).all fun j => match ops[j]? with
  | some o => !(L.getD j false) || o.after.all fun e => !(Region.binds .any e) || L.getD e.on false
  | none => true
theorem ClL.of {L : Array Bool} (h : clL ops L = true) : ClL ops L := by
 intro j o ho hj e he hb
 have hlt : j < ops.size := (Array.getElem?_eq_some_iff.1 ho).1
 have h1 := List.all_eq_true.1 h j (List.mem_range.2 hlt)
 rw [ho] at h1
 simp only [hj, Bool.not_true, Bool.false_or] at h1
 have h2 := (Array.all_eq_true_iff_forall_mem.1 h1) e he
 simpa [hb] using h2
theorem getD_ft {L : Array Bool} {j : Nat} (h : L.getD j true = false) : L.getD j false = false := by
 rcases Nat.lt_or_ge j L.size with h' | h'
 ·simpa [h'] using h
 ·simp [Array.getElem?_eq_none h'] at h
theorem ClL.next {L : Array Bool} {j : Nat} (h : ClL ops L) (hj : j ∈ Region.ready .any ops L) : ClL ops (L.setIfInBounds j true) := by
 intro m o ho hm e he hb
 obtain ⟨hun, oj, hoj, hall⟩ := mem_ready.1 hj
 by_cases hmj : j = m
 ·subst hmj
  rw [hoj] at ho
  injection ho with ho
  subst ho
  exact getD_set_true (hall e he hb)
 ·rw [getD_set_ne false hmj] at hm
  exact getD_set_true (h m o ho hm e he hb)
def wtL (ops : Array Oper) (i : Nat) : Nat → Nat → Bool
 | 0, k => i == k
 | f + 1, k => i == k || match ops[k]? with
  | some o => o.after.any fun e => Region.binds .any e && wtL ops i f e.on
  | none => false
theorem wtL_spec {i : Nat} : ∀ (f k : Nat), wtL ops i f k = true → ∀ L : Array Bool, ClL ops L → L.getD k false = true → L.getD i false = true
  | 0, k, h, L, hc, hk => by
    have e : i = k := by simpa [wtL] using h
    rw [e]; exact hk
  | f + 1, k, h, L, hc, hk => by
    unfold wtL at h
    rw [Bool.or_eq_true] at h
    rcases h with h | h
    · have e : i = k := by simpa using h
      rw [e]; exact hk
    · cases ho : ops[k]? with
      | none => rw [ho] at h; cases h
      | some o =>
        rw [ho] at h
        obtain ⟨e, he, h2⟩ := Array.any_eq_true'.1 h
        rw [Bool.and_eq_true] at h2
        exact wtL_spec f e.on h2.2 L hc (hc k o ho hk e he h2.1)
theorem anyW_first {i : Nat} {oi : Oper} {v : Value} (hi : ops[i]? = some oi) (hsel : ∀ (j : Nat) (o : Oper) cs b, ops[j]? = some o → o.op ≠ .select cs b)
    (hT : ∀ L w, ClL ops L → L.getD i true = false → S L w → T w) (hS : ∀ L w, S (L.setIfInBounds i true) w → S L w) :
    ∀ (f : Nat) (L : Array Bool) (a : Act) (w : World),
      (∀ j oj, ops[j]? = some oj → j ≠ i → L.getD j true = false → (∀ e, e ∈ oj.after → Region.binds .any e = true → e.on ≠ i) → oi.apart ops oj = true) →
      i ∈ Region.ready .any ops L → Yi P ops T oi v a → ClL ops L → S L w → (S (L.setIfInBounds i true) w) →
      anyW P ops N S f (L.setIfInBounds i true) (a.put oi.dst v) w → anyW P ops N S (f + 1) L a w := by
  intro f
  induction f with
  | zero =>
    intro L a w _ hr hy hcl hSw hS1 H
    refine ⟨fun h => (by rw [h] at hr; cases hr), fun j hj oj hoj => ?_⟩
    by_cases hji : j = i
    · subst hji
      rw [hi] at hoj; injection hoj with hoj; subst hoj
      exact hy.one (hT L w hcl (mem_ready.1 hr).1 hSw) ⟨hS1, H⟩
    · have := ready_mono hj hji
      rw [H.1] at this
      cases this
  | succ f ih =>
    intro L a w hfree hr hy hcl hSw hS1 H
    refine ⟨fun h => (by rw [h] at hr; cases hr), fun j hj oj hoj => ?_⟩
    by_cases hji : j = i
    · subst hji
      rw [hi] at hoj; injection hoj with hoj; subst hoj
      exact hy.one (hT L w hcl (mem_ready.1 hr).1 hSw) ⟨hS1, H⟩
    · have h1 := H.2 j (ready_mono hj hji) oj hoj
      obtain ⟨hjun, oj', hoj', hall⟩ := mem_ready.1 hj
      rw [hoj] at hoj'; injection hoj' with hoj'; subst hoj'
      have hiun := (mem_ready.1 hr).1
      have hnot : ∀ e, e ∈ oj.after → Region.binds .any e = true → e.on ≠ i := fun e he hb heq => by
        have h1 := hall e he hb
        rw [heq, getD_ft hiun] at h1
        cases h1
      have h2 := oneW_put (hfree j oj hoj hji hjun hnot) (fun cs b => hsel i oi cs b hi) (fun cs b => hsel j oj cs b hoj) hy h1
      have hfree' : ∀ m om, ops[m]? = some om → m ≠ i → (L.setIfInBounds j true).getD m true = false →
          (∀ e, e ∈ om.after → Region.binds .any e = true → e.on ≠ i) → oi.apart ops om = true := fun m om hm hmi hun hno => by
        refine hfree m om hm hmi ?_ hno
        by_cases hjm : j = m
        · subst hjm; exact hjun
        · rw [getD_set_ne true hjm] at hun; exact hun
      refine oneW_mono (fun a' w' h3 => ?_) h2
      have hS2 : S ((L.setIfInBounds j true).setIfInBounds i true) w' := by rw [Array.setIfInBounds_comm _ _ hji]; exact h3.2.1
      refine ⟨hS _ _ hS2, ih (L.setIfInBounds j true) a' w' hfree' (ready_mono hr (Ne.symm hji)) h3.1 (hcl.next hj) (hS _ _ hS2) hS2 ?_⟩
      rw [Array.setIfInBounds_comm _ _ hji]
      exact h3.2.2
def DL (P : Program) (ops : Array Oper) (N : Act → World → Prop) (hs : List Hd) (n : Nat) (ds : List Deferred) (f : Nat) (L : Array Bool) (K : Kn) (Sw : World → Prop) : Prop :=
 ∀ a w, Kw n ds K a → Sw w → SG hs L w → anyW P ops N (SG hs) f L a w
def D1 (P : Program) (ops : Array Oper) (N : Act → World → Prop) (hs : List Hd) (n : Nat) (ds : List Deferred) (f : Nat) (L : Array Bool) (K : Kn) (Sw : World → Prop) (i : Nat) : Prop :=
 ∀ o, ops[i]? = some o → ∀ a w, Kw n ds K a → Sw w → SG hs L w → oneW P ops o (fun a' w' => SG hs (L.setIfInBounds i true) w' ∧ anyW P ops N (SG hs) f (L.setIfInBounds i true) a' w') a w
variable {hs : List Hd} {n : Nat} {ds : List Deferred} {f : Nat} {L : Array Bool} {K : Kn} {Sw : World → Prop} {X : Option Nat} {Q : Exit → Act → World → Prop}
theorem CW.draw {id : Nat} {l : List Oper} (hs : List Hd) (hm : P.follows .mixedOrders = true) (hd : ∀ w, Sw w → Sw w.drew) (hS : ∀ w, Sw w → SG hs (Array.replicate l.toArray.size false) w) (h : DL P l.toArray (Q .normal) hs n ds l.toArray.size (Array.replicate l.toArray.size false) K Sw) : CW X P (.region id l.toArray true) Q n ds K Sw := fun a w ha hw => by
 refine wpIn_region_any hm (anyW_sound (S := SG hs) _ _ a w.drew ?_)
 exact h a w.drew ha (hd w hw) (hS _ (hd w hw))
theorem DL.take (i : Nat) {oi : Oper} {d : Nat} {v : Value} (hi : ops[i]? = some oi) (hsl : Region.noSelect ops = true) (hf : Region.free .any ops L i = true) (hr : (Region.ready .any ops L).contains i = true) (hcl : clL ops L = true)
  (hks : (hs.all fun h => !h.2.contains i) = true) (hd : oi.dst = some d) (hn : Nat.blt d n = true) (hg : Gd ops n ds K oi true) (hT : ∀ L w, ClL ops L → L.getD i true = false → SG hs L w → T w) (hv : Yd P T n ds K oi v)
  (h : DL P ops N hs n ds f (L.setIfInBounds i true) ((d, v) :: K) Sw) : DL P ops N hs n ds (f + 1) L K Sw := fun a w ha hw hS => by
 have hlt : d < n := by simpa [Nat.blt_eq] using hn
 have hS1 : SG hs (L.setIfInBounds i true) w := by
  clear h hT hv
  induction hs with
  | nil => trivial
  | cons q hs ih =>
   rw [List.all_cons, Bool.and_eq_true] at hks
   refine ⟨fun hk => hS.1 ?_, ih hks.2 hS.2⟩
   rw [List.all_eq_true] at hk ⊢
   intro k hm
   have hne : i ≠ k := fun e => by subst e; have := hks.1; simp at this; exact this hm
   have := hk k hm
   rw [getD_set_ne false hne] at this
   exact this
 exact anyW_first hi (Region.noSelect_spec hsl) hT (fun L w => SG.less hks) f L a w (Region.free_spec hi hf) (by simpa using hr) (.inl ⟨hg a ha, fun w hw => hv a w ha hw⟩) (ClL.of hcl) hS hS1 (h _ w (by rw [hd]; exact ha.put hlt v) hw hS1)
theorem DL.takeN (i : Nat) {oi : Oper} {d : Nat} (hi : ops[i]? = some oi) (hsl : Region.noSelect ops = true) (hf : Region.free .any ops L i = true) (hr : (Region.ready .any ops L).contains i = true) (hcl : clL ops L = true)
  (hks : (hs.all fun h => !h.2.contains i) = true) (hd : oi.dst = some d) (hn : Nat.blt d n = true) (hg : Gd ops n ds K oi false)
  (h : DL P ops N hs n ds f (L.setIfInBounds i true) ((d, undef) :: K) Sw) : DL P ops N hs n ds (f + 1) L K Sw := fun a w ha hw hS => by
 have hlt : d < n := by simpa [Nat.blt_eq] using hn
 have hS1 : SG hs (L.setIfInBounds i true) w := by
  clear h
  induction hs with
  | nil => trivial
  | cons q hs ih =>
   rw [List.all_cons, Bool.and_eq_true] at hks
   refine ⟨fun hk => hS.1 ?_, ih hks.2 hS.2⟩
   rw [List.all_eq_true] at hk ⊢
   intro k hm
   have hne : i ≠ k := fun e => by subst e; have := hks.1; simp at this; exact this hm
   have := hk k hm
   rw [getD_set_ne false hne] at this
   exact this
 exact anyW_first (T := fun _ => True) hi (Region.noSelect_spec hsl) (fun _ _ _ _ _ => trivial) (fun L w => SG.less hks) f L a w (Region.free_spec hi hf) (by simpa using hr) (.inr ⟨hg a ha, rfl⟩) (ClL.of hcl) hS hS1 (h _ w (by rw [hd]; exact ha.put hlt undef) hw hS1)
theorem held (i m : Nat) {h : Hd} (hh : hs[m]? = some h) (hw : (h.2.all fun k => wtL ops i 40 k) = true) : ∀ L w, ClL ops L → L.getD i true = false → SG hs L w → h.1 w := fun L w hc hi hS => by
 refine SG.get hS hh ?_
 rw [List.all_eq_true] at hw ⊢
 intro k hk
 cases hb : L.getD k false with
 | false => rfl
 | true =>
  have := wtL_spec 40 k (hw k hk) L hc hb
  rw [getD_ft hi] at this; cases this
theorem heldN (i : Nat) : ∀ L w, ClL ops L → L.getD i true = false → SG hs L w → (fun _ : World => True) w := fun _ _ _ _ _ => trivial
theorem DL.done (hr : Region.ready .any ops L = []) (h : EX Q .normal n ds K Sw) : DL P ops (Q .normal) hs n ds f L K Sw := fun a w ha hw hS => by
 cases f with
 | zero => exact ⟨hr, h a w ha hw⟩
 | succ f => exact ⟨fun _ => h a w ha hw, by rw [hr]; simp⟩
theorem DL.ready1 {i : Nat} (hr : Region.ready .any ops L = [i]) (h : D1 P ops N hs n ds f L K Sw i) : DL P ops N hs n ds (f + 1) L K Sw := fun a w ha hw hS =>
 ⟨(fun e => by rw [hr] at e; cases e), fun j hj o ho => by
  rw [hr] at hj
  have e : j = i := by simpa using hj
  subst e; exact h o ho a w ha hw hS⟩
theorem DL.ready {is : List Nat} (hr : Region.ready .any ops L = is) (hne : is ≠ []) (h : ∀ i, i ∈ is → D1 P ops N hs n ds f L K Sw i) : DL P ops N hs n ds (f + 1) L K Sw := fun a w ha hw hS =>
 ⟨fun e => absurd (hr ▸ e) hne, fun j hj o ho => h j (hr ▸ hj) o ho a w ha hw hS⟩
theorem all1 {p : Nat → Prop} {i : Nat} {is : List Nat} (h : p i) (hs : ∀ j, j ∈ is → p j) : ∀ j, j ∈ i :: is → p j := fun j hj => by
 rcases List.mem_cons.1 hj with rfl | hj
 ·exact h
 ·exact hs j hj
theorem all0 {p : Nat → Prop} : ∀ j, j ∈ ([] : List Nat) → p j := fun j hj => by cases hj
variable {i : Nat} {oi : Oper}
theorem D1.ef {σ : Type} {V : σ → Value} {S' : σ → World → Prop} {d : Nat} (hi : ops[i]? = some oi) (hd : oi.dst = some d) (hn : (Nat.blt d n) = true) (hg : Gd ops n ds K oi true) (hv : Ef P Sw n ds K oi V S') (hS' : ∀ s w, S' s w → SG hs (L.setIfInBounds i true) w)
  (h : ∀ s, DL P ops N hs n ds f (L.setIfInBounds i true) ((d, V s) :: K) (S' s)) : D1 P ops N hs n ds f L K Sw i := fun o ho a w ha hw hS => by
 rw [hi] at ho; injection ho with ho; subst ho
 obtain ⟨s, w', e, hs'⟩ := hv a w ha hw
 have hlt : d < n := by simpa [Nat.blt_eq] using hn
 unfold oneW opW
 rw [if_pos (hg a ha), e, hd]
 exact ⟨hS' s _ hs', h s _ _ (ha.put hlt _) hs' (hS' s _ hs')⟩
theorem D1.ef0 {S' : World → Prop} (hi : ops[i]? = some oi) (hd : oi.dst = none) (hg : Gd ops n ds K oi true) (hv : Ef0 P Sw n ds K oi S') (hS' : ∀ w, S' w → SG hs (L.setIfInBounds i true) w)
  (h : DL P ops N hs n ds f (L.setIfInBounds i true) K S') : D1 P ops N hs n ds f L K Sw i := fun o ho a w ha hw hS => by
 rw [hi] at ho; injection ho with ho; subst ho
 obtain ⟨w', e, hs'⟩ := hv a w ha hw
 unfold oneW opW
 rw [if_pos (hg a ha), e, hd]
 exact ⟨hS' _ hs', h _ _ (ha.put0 _) hs' (hS' _ hs')⟩
theorem D1.callG {σ : Type} {V : σ → Value} {S' : σ → World → Prop} {d fc : Nat} {vs : List Value} (hi : ops[i]? = some oi) (hd : oi.dst = some d) (hn : (Nat.blt d n) = true) (hg : Gd ops n ds K oi true) (hcl : Cll P n ds K oi fc vs)
  (hc : ∀ w, Sw w → Calls P fc vs.toArray w fun e w' => ∃ s, e = .returned (V s) ∧ S' s w') (hS' : ∀ s w, S' s w → SG hs (L.setIfInBounds i true) w) (h : ∀ s, DL P ops N hs n ds f (L.setIfInBounds i true) ((d, V s) :: K) (S' s)) : D1 P ops N hs n ds f L K Sw i := fun o ho a w ha hw hS => by
 rw [hi] at ho; injection ho with ho; subst ho
 have hlt : d < n := by simpa [Nat.blt_eq] using hn
 unfold oneW opW
 rw [if_pos (hg a ha), hcl a w ha, hd]
 exact (hc w hw).mono fun e w' ⟨s, he, hs'⟩ => ⟨V s, he, hS' s _ hs', h s _ _ (ha.put hlt _) hs' (hS' s _ hs')⟩
theorem D1.callB {v : Value} {d fc : Nat} {vs : List Value} {w0 : World} {D : List Nat} {Hs : List Rs} (hi : ops[i]? = some oi) (hd : oi.dst = some d) (hn : (Nat.blt d n) = true) (hg : Gd ops n ds K oi true) (hcl : Cll P n ds K oi fc vs)
  (hc : ∀ w, Wd w0 D Hs w → Calls P fc vs.toArray w fun e w' => e = .returned v ∧ Below w.heap.size w w') (hS' : ∀ w, Wd w0 D Hs w → SG hs (L.setIfInBounds i true) w) (h : DL P ops N hs n ds f (L.setIfInBounds i true) ((d, v) :: K) (Wd w0 D Hs)) : D1 P ops N hs n ds f L K (Wd w0 D Hs) i :=
 D1.callG (σ := Unit) (V := fun _ => v) (S' := fun _ => Wd w0 D Hs) hi hd hn hg hcl (fun w hw => (hc w hw).mono fun e w' ⟨he, hb⟩ => ⟨(), he, hw.keep hb⟩) (fun _ => hS') (fun _ => h)
theorem D1.val {d : Nat} {v : Value} (hi : ops[i]? = some oi) (hd : oi.dst = some d) (hn : (Nat.blt d n) = true) (hg : Gd ops n ds K oi true) (hv : Yd P Sw n ds K oi v) (hS' : ∀ w, Sw w → SG hs (L.setIfInBounds i true) w)
  (h : DL P ops N hs n ds f (L.setIfInBounds i true) ((d, v) :: K) Sw) : D1 P ops N hs n ds f L K Sw i :=
 D1.ef (σ := Unit) (V := fun _ => v) (S' := fun _ => Sw) hi hd hn hg (fun a w ha hw => ⟨(), w, hv a w ha hw, hw⟩) (fun _ => hS') (fun _ => h)
theorem DL.split {dj : Nat} {b : Bool} (hb : look K dj = some (.bool b)) (ht : b = true → DL P ops N hs n ds f L ((dj, .bool true) :: K) Sw) (hf : b = false → DL P ops N hs n ds f L ((dj, .bool false) :: K) Sw) : DL P ops N hs n ds f L K Sw := by
 have key : ∀ b', b = b' → Sub K ((dj, .bool b') :: K) := fun b' e t v hv => by
  rw [look_cons] at hv
  by_cases q : dj = t
  ·subst q; rw [if_pos rfl] at hv; rw [hb, e]; exact hv
  ·rw [if_neg q] at hv; exact hv
 cases h : b with
 | true => exact fun a w ha => (ht h) a w (ha.sub (key _ h))
 | false => exact fun a w ha => (hf h) a w (ha.sub (key _ h))
theorem DL.splitD {dj : Nat} {p : Prop} [Decidable p] (hb : look K dj = some (.bool (decide p))) (ht : p → DL P ops N hs n ds f L ((dj, .bool true) :: K) Sw) (hf : ¬ p → DL P ops N hs n ds f L ((dj, .bool false) :: K) Sw) : DL P ops N hs n ds f L K Sw :=
 DL.split hb (fun h => ht (of_decide_eq_true h)) (fun h => hf (of_decide_eq_false h))
end
/-! what the held conditions give -/
def Tb (w0 : World) (D : List Nat) (w : World) : Prop := ∀ b, b < w0.heap.size → b ∉ D → w.heap[b]? = w0.heap[b]?
theorem Wd.tb {w0 w : World} {D : List Nat} {Hs : List Rs} (h : Wd w0 D Hs w) : Tb w0 D w := h.block
theorem Wd.k {w0 w : World} {D : List Nat} {Hs : List Rs} (hw : Wd w0 D Hs w) (i : Nat) {r : Rs} {q : Prop} (hi : nthR Hs i = some r) : q → r.ok w := fun _ => hw.ok i _ hi
theorem Tb.inp {w0 : World} {D : List Nat} {b o : Nat} {v : Value} (hb : b < w0.heap.size) (hD : b ∉ D) (hc : w0.cell? ⟨b, o, none⟩ = some v) : ∀ w, Tb w0 D w → w.cell? ⟨b, o, none⟩ = some v := fun w h => by
 have := h b hb hD
 unfold World.cell? at *
 simp only [this]
 exact hc
theorem row_cell {b o ty : Nat} {cells : List Value} {v : Value} (hc : cells[o]? = some v) : ∀ w, (Rs.row b cells ty).ok w → w.cell? ⟨b, o, none⟩ = some v := fun w h => by
 have : w.heap[b]? = some (.cells cells.toArray ty (0, 0)) := h
 unfold World.cell?
 simp only [this]
 simpa using hc
theorem row_cells {b ty : Nat} {cells : List Value} : ∀ w, (Rs.row b cells ty).ok w → ∀ j v, cells[j]? = some v → w.cell? ⟨b, 0 + j, none⟩ = some v := fun w h j v hj => by
 rw [Nat.zero_add]; exact row_cell hj w h
theorem Yd.loadH {P : Program} {T : World → Prop} {n : Nat} {ds : List Deferred} {K : Kn} {dst : Option Nat} {ty : Nat} {pos : String} {af : Array Edge} {g : Option (Nat × Bool)} {t b m ty' : Nat} {x : Operand} {cs : List Value} (hx : opd K x = some (.pointer (some ⟨b, 0, none⟩))) (ht : aggS P t = some (some m)) (hT : ∀ w, T w → (Rs.row b cs ty').ok w) (hl : cs.length = m) : Yd P T n ds K ⟨dst, .load t x, ty, pos, af, g⟩ (.agg cs.toArray) :=
 Yd.loadA hx ht hl (fun w hw j v hj => row_cells w (hT w hw) j v hj)
theorem D1.callX {P : Program} {ops : Array Oper} {N : Act → World → Prop} {hs : List Hd} {n : Nat} {ds : List Deferred} {f : Nat} {L : Array Bool} {K : Kn} {i : Nat} {oi : Oper} {σ : Type} {I : σ → Prop} {V : σ → Value} {d fc : Nat} {vs : List Value} {w0 : World} {D : List Nat} {Hs : List Rs} (hi : ops[i]? = some oi) (hd : oi.dst = some d) (hn : (Nat.blt d n) = true) (hg : Gd ops n ds K oi true) (hcl : Cll P n ds K oi fc vs)
  (hc : ∀ w, Wd w0 D Hs w → Calls P fc vs.toArray w fun e w' => (∃ s, I s ∧ e = .returned (V s)) ∧ Below w.heap.size w w') (hS' : ∀ w, Wd w0 D Hs w → SG hs (L.setIfInBounds i true) w) (h : ∀ s, I s → DL P ops N hs n ds f (L.setIfInBounds i true) ((d, V s) :: K) (Wd w0 D Hs)) : D1 P ops N hs n ds f L K (Wd w0 D Hs) i :=
 D1.callG (σ := {s : σ // I s}) (V := fun s => V s.1) (S' := fun _ => Wd w0 D Hs) hi hd hn hg hcl (fun w hw => (hc w hw).mono fun e w' ⟨⟨s, hI, he⟩, hb⟩ => ⟨⟨s, hI⟩, he, hw.keep hb⟩) (fun _ => hS') (fun s => h s.1 s.2)
theorem SG.gone {ks : List Nat} {L : Array Bool} {T : Prop} (h : (ks.all fun k => !L.getD k false) = false) : (ks.all fun k => !L.getD k false) = true → T := fun e => by rw [h] at e; cases e
theorem run_load1 {P : Program} {t b o : Nat} {v : Value} {w : World} (ht : aggS P t = some none) (hc : w.cell? ⟨b, o, none⟩ = some v) : (loadVar t ⟨b, o, none⟩).run P w = .ok v w := by
 have h1 := (run_isAgg (P := P) (t := t) (w := w)).2 ht
 simp [loadVar, h1.1, hc]
theorem RX.cells {α : Type} {c : Cd α} {B : Nat} {w : World} {v : Value} {xs : List α} (h : RX c B w v xs) :
  ∃ ao cap, v = .slice ao xs.length cap ∧ xs.length ≤ 9223372036854775807 ∧ (0 < xs.length → ∃ b off, ao = some ⟨b, off, none⟩ ∧ b < B ∧ ∀ k, k < xs.length → ∀ j u, (c.cells (ge c xs k))[j]? = some u → w.cell? ⟨b, off + k * c.sz + j, none⟩ = some u) := by
 obtain ⟨ao, cap, h1, h2, h3⟩ := h.open
 refine ⟨ao, cap, h1, h2, fun hp => ?_⟩
 obtain ⟨b, off, e1, e2, e3⟩ := h3 hp
 refine ⟨b, off, e1, e2, fun k hk j u hj => ?_⟩
 have hlt : j < c.sz := by have := (List.getElem?_eq_some_iff.1 hj).1; rw [c.len] at this; exact this
 rw [Nat.add_assoc, e3 k j hk hlt, hj]
theorem RX.cap {α : Type} {c : Cd α} {B : Nat} {w : World} {ao : Option Addr} {m cap : Nat} {xs : List α} (h : RX c B w (.slice ao m cap) xs) : m ≤ cap := by
 rcases h with ⟨h1, h2, h3⟩ | ⟨b, off, sp, cap', h0, h1, h2, h3, h4⟩
 ·injection h1 with a b c; omega
 ·injection h0 with a b c; omega
theorem Wd.inpA {w0 : World} {D : List Nat} {Hs : List Rs} {b o : Nat} {cs : List Value} (hb : b < w0.heap.size) (hD : b ∉ D) (hc : ∀ j v, cs[j]? = some v → w0.cell? ⟨b, o + j, none⟩ = some v) : ∀ w, Wd w0 D Hs w → ∀ j v, cs[j]? = some v → w.cell? ⟨b, o + j, none⟩ = some v := fun w h j v hj => Wd.inp hb hD (hc j v hj) w h
theorem Tb.inpA {w0 : World} {D : List Nat} {b o : Nat} {cs : List Value} (hb : b < w0.heap.size) (hD : b ∉ D) (hc : ∀ j v, cs[j]? = some v → w0.cell? ⟨b, o + j, none⟩ = some v) : ∀ w, Tb w0 D w → ∀ j v, cs[j]? = some v → w.cell? ⟨b, o + j, none⟩ = some v := fun w h j v hj => Tb.inp hb hD (hc j v hj) w h
end Go.Proofs.Ytokljoajalmkfaa
