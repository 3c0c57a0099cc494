/- Part of the proof of priced_covers_proved: Evb, Evc. -/
import Derived.Below
import Derived.Test.YtfphlpglgcmljaaGreatXvEva
namespace Go.Proofs.YtfphlpglgcmljaaGreat.Ev
open Go Go.RowKit
set_option linter.unusedVariables false
/-! the map -/
theorem Tr.get_leaf {α : Type} (k : Nat) : (Tr.leaf : Tr α).get k = none := rfl
theorem Tr.get_zero {α : Type} (l r : Tr α) (v : Option α) : (Tr.node l v r).get 0 = v := rfl
theorem Tr.get_succ {α : Type} (l r : Tr α) (v : Option α) (m : Nat) : (Tr.node l v r).get (m + 1) = if m % 2 = 0 then l.get (m / 2) else r.get (m / 2) := by
 show Bool.rec (motive := fun _ => Option α) (r.get (m / 2)) (l.get (m / 2)) (Nat.beq (m % 2) 0) = _
 by_cases h : m % 2 = 0
 ·rw [if_pos h, show Nat.beq (m % 2) 0 = true by rw [h]; rfl]
 ·rw [if_neg h, show Nat.beq (m % 2) 0 = false by
   cases hb : Nat.beq (m % 2) 0 with
   | false => rfl
   | true => exact absurd (Nat.eq_of_beq_eq_true hb) h]
theorem Tr.put_leaf {α : Type} (x : Option α) (k : Nat) : (Tr.leaf : Tr α).put x k = Tr.sing x 32 k := rfl
theorem Tr.put_zero {α : Type} (l r : Tr α) (v x : Option α) : (Tr.node l v r).put x 0 = .node l x r := rfl
theorem Tr.put_succ {α : Type} (l r : Tr α) (v x : Option α) (m : Nat) : (Tr.node l v r).put x (m + 1) = if m % 2 = 0 then .node (l.put x (m / 2)) v r else .node l v (r.put x (m / 2)) := by
 show Bool.rec (motive := fun _ => Tr α) (Tr.node l v (r.put x (m / 2))) (Tr.node (l.put x (m / 2)) v r) (Nat.beq (m % 2) 0) = _
 by_cases h : m % 2 = 0
 ·rw [if_pos h, show Nat.beq (m % 2) 0 = true by rw [h]; rfl]
 ·rw [if_neg h, show Nat.beq (m % 2) 0 = false by
   cases hb : Nat.beq (m % 2) 0 with
   | false => rfl
   | true => exact absurd (Nat.eq_of_beq_eq_true hb) h]
theorem Tr.sing_zero {α : Type} (x : Option α) (n : Nat) : Tr.sing x (n + 1) 0 = .node .leaf x .leaf := rfl
theorem Tr.sing_succ {α : Type} (x : Option α) (n m : Nat) : Tr.sing x (n + 1) (m + 1) = if m % 2 = 0 then .node (Tr.sing x n (m / 2)) none .leaf else .node .leaf none (Tr.sing x n (m / 2)) := by
 show Bool.rec (motive := fun _ => Tr α) (Tr.node .leaf none (Tr.sing x n (m / 2))) (Tr.node (Tr.sing x n (m / 2)) none .leaf) (Nat.beq (m % 2) 0) = _
 by_cases h : m % 2 = 0
 ·rw [if_pos h, show Nat.beq (m % 2) 0 = true by rw [h]; rfl]
 ·rw [if_neg h, show Nat.beq (m % 2) 0 = false by
   cases hb : Nat.beq (m % 2) 0 with
   | false => rfl
   | true => exact absurd (Nat.eq_of_beq_eq_true hb) h]
theorem Tr.get_sing {α : Type} (x : Option α) : ∀ (n k j : Nat), k + 1 < 2 ^ n → (Tr.sing x n k).get j = if j = k then x else none
  | 0, k, j, h => by simp at h
  | n + 1, 0, j, h => by
    rw [Tr.sing_zero]
    cases j with
    | zero => rw [Tr.get_zero, if_pos rfl]
    | succ j => rw [Tr.get_succ, Tr.get_leaf, ite_self, if_neg (by omega)]
  | n + 1, m + 1, j, h => by
    rw [Tr.sing_succ]
    have h2 : m / 2 + 1 < 2 ^ n := by rw [Nat.pow_succ] at h; omega
    by_cases hm : m % 2 = 0
    · rw [if_pos hm]
      cases j with
      | zero => rw [Tr.get_zero, if_neg (by omega)]
      | succ j =>
        rw [Tr.get_succ, Tr.get_leaf, Tr.get_sing x n _ _ h2]
        by_cases hj : j % 2 = 0
        · rw [if_pos hj]
          by_cases e : j = m
          · rw [e, if_pos rfl, if_pos rfl]
          · rw [if_neg (by omega), if_neg (by omega)]
        · rw [if_neg hj, if_neg (by omega)]
    · rw [if_neg hm]
      cases j with
      | zero => rw [Tr.get_zero, if_neg (by omega)]
      | succ j =>
        rw [Tr.get_succ, Tr.get_leaf, Tr.get_sing x n _ _ h2]
        by_cases hj : j % 2 = 0
        · rw [if_pos hj, if_neg (by omega)]
        · rw [if_neg hj]
          by_cases e : j = m
          · rw [e, if_pos rfl, if_pos rfl]
          · rw [if_neg (by omega), if_neg (by omega)]
theorem Tr.get_put {α : Type} (x : Option α) : ∀ (t : Tr α) (k j : Nat), (k < 4194305 ∨ t.get k ≠ none) → (t.put x k).get j = if j = k then x else t.get j
  | .leaf, k, j, h => by
    rcases h with h | h
    · have e : (2:Nat) ^ 32 = 4294967296 := by decide
      rw [Tr.put_leaf, Tr.get_sing x 32 k j (by rw [e]; omega)]; rfl
    · exact absurd rfl h
  | .node l v r, 0, j, h => by
    rw [Tr.put_zero]
    cases j with
    | zero => rw [Tr.get_zero, if_pos rfl]
    | succ j => rw [if_neg (show ¬ (j + 1 = 0) by omega), Tr.get_succ, Tr.get_succ]
  | .node l v r, m + 1, j, h => by
    rw [Tr.put_succ]
    rw [Tr.get_succ] at h
    by_cases hm : m % 2 = 0
    · rw [if_pos hm] at h ⊢
      have ih := Tr.get_put x l (m / 2)
      cases j with
      | zero => rw [Tr.get_zero, if_neg (by omega), Tr.get_zero]
      | succ j =>
        rw [Tr.get_succ, Tr.get_succ, ih _ (h.imp (fun _ => by omega) id)]
        by_cases hj : j % 2 = 0
        · rw [if_pos hj, if_pos hj]
          by_cases e : j = m
          · rw [if_pos (by omega), if_pos (by omega)]
          · rw [if_neg (by omega), if_neg (by omega)]
        · rw [if_neg hj, if_neg hj, if_neg (by omega)]
    · rw [if_neg hm] at h ⊢
      have ih := Tr.get_put x r (m / 2)
      cases j with
      | zero => rw [Tr.get_zero, if_neg (by omega), Tr.get_zero]
      | succ j =>
        rw [Tr.get_succ, Tr.get_succ, ih _ (h.imp (fun _ => by omega) id)]
        by_cases hj : j % 2 = 0
        · rw [if_pos hj, if_pos hj, if_neg (by omega)]
        · rw [if_neg hj, if_neg hj]
          by_cases e : j = m
          · rw [if_pos (by omega), if_pos (by omega)]
          · rw [if_neg (by omega), if_neg (by omega)]
theorem nth_eq {α : Type} : ∀ (l : List α) (i : Nat), nth l i = l[i]?
 | [], i => by simp [nth]
 | a :: l, 0 => rfl
 | a :: l, i + 1 => by show nth l i = _; rw [nth_eq l i]; simp
theorem setN_eq {α : Type} (x : α) : ∀ (l : List α) (i : Nat), setN x l i = l.set i x
 | [], i => rfl
 | a :: l, 0 => rfl
 | a :: l, i + 1 => by show a :: setN x l i = _; rw [setN_eq x l i]; rfl
theorem gt_def (V : Vw) (H : Hp) (i : Nat) : gt V H i = if V.see i = true then H.tr.get i else none := by
 show Bool.rec (motive := fun _ => Option Blk) none (H.tr.get i) (V.see i) = _
 cases V.see i <;> rfl
theorem gt_some {V : Vw} {H : Hp} {i : Nat} {b : Blk} (h : gt V H i = some b) : V.see i = true ∧ H.tr.get i = some b := by
 rw [gt_def] at h
 split at h
 ·exact ⟨by assumption, h⟩
 ·cases h
theorem see_top {V : Vw} {i : Nat} (h : V.top ≤ i) : V.see i = true := by
 show Bool.rec (motive := fun _ => Bool) _ true (Nat.ble V.top i) = true
 rw [Nat.ble_eq_true_of_le h]
theorem get_set {H : Hp} {i : Nat} {b : Option Blk} (h : H.tr.get i ≠ none) (j : Nat) : (H.set i b).tr.get j = if j = i then b else H.tr.get j := Tr.get_put b H.tr i j (.inr h)
theorem get_add {H : Hp} {b : Blk} (h : H.next < MOST) (j : Nat) : (H.add b).tr.get j = if j = H.next then some b else H.tr.get j := Tr.get_put (some b) H.tr H.next j (.inl (by unfold MOST at h; omega))
/-! what the data stand for -/
structure Cf where
 (b s n e : Nat)
abbrev Gh := Nat → Option Cf
def Sub (g g' : Gh) : Prop := ∀ i c, g i = some c → g' i = some c
theorem Sub.refl (g : Gh) : Sub g g := fun _ _ h => h
theorem Sub.trans {a b c : Gh} (h : Sub a b) (k : Sub b c) : Sub a c := fun i x e => k i x (h i x e)
def AR (g : Gh) (a a' : Addr) : Prop := ∃ c, g a.block = some c ∧ a.spot = none ∧ a' = ⟨c.b, c.s + a.off, none⟩
theorem AR.mono {g g' : Gh} {a a' : Addr} (h : AR g a a') (hs : Sub g g') : AR g' a a' := let ⟨c, h1, h2, h3⟩ := h; ⟨c, hs _ _ h1, h2, h3⟩
inductive VR (g : Gh) : Value → Value → Prop
 | plain {v : Value} (h : plain1 v = true) : VR g v v
 | ptr {a a' : Addr} (h : AR g a a') : VR g (.pointer (some a)) (.pointer (some a'))
 | sl {a a' : Addr} {n c : Nat} (h : AR g a a') (hc : c ≠ UNK) : VR g (.slice (some a) n c) (.slice (some a') n c)
 | su {a a' : Addr} {n c' : Nat} {cf : Cf} (hg : g a.block = some cf) (h : AR g a a') (hn : n ≤ c') (hc : cf.s + a.off + c' * cf.e ≤ cf.n) : VR g (.slice (some a) n UNK) (.slice (some a') n c')
 | func {fn : Fn} {x y x' y' : Array Value} (h1 : x.size = x'.size) (h2 : y.size = y'.size) (h3 : ∀ (i : Nat) (v v' : Value), x[i]? = some v → x'[i]? = some v' → VR g v v')
   (h4 : ∀ (i : Nat) (v v' : Value), y[i]? = some v → y'[i]? = some v' → VR g v v') : VR g (.func fn x y) (.func fn x' y')
 | agg {x x' : Array Value} (h1 : x.size = x'.size) (h2 : ∀ (i : Nat) (v v' : Value), x[i]? = some v → x'[i]? = some v' → VR g v v') : VR g (.agg x) (.agg x')
 | tuple {x x' : Array Value} (h1 : x.size = x'.size) (h2 : ∀ (i : Nat) (v v' : Value), x[i]? = some v → x'[i]? = some v' → VR g v v') : VR g (.tuple x) (.tuple x')
theorem VR.mono {g g' : Gh} {v v' : Value} (h : VR g v v') (hs : Sub g g') : VR g' v v' := by
 induction h with
 | plain h => exact .plain h
 | ptr h => exact .ptr (h.mono hs)
 | sl h hc => exact .sl (h.mono hs) hc
 | su hg h hn hc => exact .su (hs _ _ hg) (h.mono hs) hn hc
 | func h1 h2 h3 h4 i3 i4 => exact .func h1 h2 i3 i4
 | agg h1 h2 i2 => exact .agg h1 i2
 | tuple h1 h2 i2 => exact .tuple h1 i2
def LR (g : Gh) (l l' : List Value) : Prop := l.length = l'.length ∧ ∀ (i : Nat) (v v' : Value), l[i]? = some v → l'[i]? = some v' → VR g v v'
theorem LR.mono {g g' : Gh} {l l' : List Value} (h : LR g l l') (hs : Sub g g') : LR g' l l' := ⟨h.1, fun i v v' a b => (h.2 i v v' a b).mono hs⟩
theorem LR.nil (g : Gh) : LR g [] [] := ⟨rfl, fun i v v' a b => by simp at a⟩
theorem LR.cons {g : Gh} {v v' : Value} {l l' : List Value} (h : VR g v v') (hl : LR g l l') : LR g (v :: l) (v' :: l') := by
 refine ⟨by simp [hl.1], fun i u u' a b => ?_⟩
 cases i with
 | zero => simp at a b; subst a; subst b; exact h
 | succ i => exact hl.2 i u u' (by simpa using a) (by simpa using b)
theorem LR.of_cons {g : Gh} {v : Value} {l m : List Value} (h : LR g (v :: l) m) : ∃ v' l', m = v' :: l' ∧ VR g v v' ∧ LR g l l' := by
 cases m with
 | nil => exact absurd h.1 (by simp)
 | cons v' l' => exact ⟨v', l', rfl, h.2 0 v v' rfl rfl, by have := h.1; simpa using this, fun i u u' a b => h.2 (i + 1) u u' (by simpa using a) (by simpa using b)⟩
theorem LR.of_nil {g : Gh} {m : List Value} (h : LR g [] m) : m = [] := List.eq_nil_of_length_eq_zero (by have := h.1; simpa using this.symm)
theorem LR.at {g : Gh} {l l' : List Value} (h : LR g l l') {i : Nat} {v : Value} (e : l[i]? = some v) : ∃ v', l'[i]? = some v' ∧ VR g v v' := by
 have hi : i < l'.length := by
  rw [← h.1]; exact (List.getElem?_eq_some_iff.1 e).1
 exact ⟨l'[i], List.getElem?_eq_getElem hi, h.2 i v _ e (List.getElem?_eq_getElem hi)⟩
theorem LR.append {g : Gh} {l l' m m' : List Value} (h : LR g l l') (k : LR g m m') : LR g (l ++ m) (l' ++ m') := by
 induction l generalizing l' with
 | nil => rw [h.of_nil]; exact k
 | cons v l ih => obtain ⟨v', t, rfl, h1, h2⟩ := h.of_cons; exact (ih h2).cons h1
theorem LR.take {g : Gh} {l l' : List Value} (h : LR g l l') (n : Nat) : LR g (l.take n) (l'.take n) := by
 refine ⟨by simp [h.1], fun i v v' a b => ?_⟩
 rw [List.getElem?_take] at a b
 split at a
 ·rename_i hi; rw [if_pos hi] at b; exact h.2 i v v' a b
 ·cases a
theorem LR.drop {g : Gh} {l l' : List Value} (h : LR g l l') (n : Nat) : LR g (l.drop n) (l'.drop n) := by
 refine ⟨by simp [h.1], fun i v v' a b => ?_⟩
 rw [List.getElem?_drop] at a b
 exact h.2 _ v v' a b
theorem LR.set {g : Gh} {l l' : List Value} (h : LR g l l') {v v' : Value} (k : VR g v v') (n : Nat) : LR g (l.set n v) (l'.set n v') := by
 refine ⟨by simp [h.1], fun i u u' a b => ?_⟩
 rw [List.getElem?_set] at a b
 split at a
 ·rename_i hi
  subst hi
  split at a
  ·rename_i hl
   rw [if_pos rfl, if_pos (by rw [← h.1]; exact hl)] at b
   cases a; cases b; exact k
  ·cases a
 ·rename_i hi
  rw [if_neg hi] at b
  exact h.2 i u u' a b
theorem VR.aggL {g : Gh} {l l' : List Value} (h : LR g l l') : VR g (.agg ⟨l⟩) (.agg ⟨l'⟩) := .agg (by simpa using h.1) (fun i v v' a b => h.2 i v v' (by simpa using a) (by simpa using b))
theorem VR.tupleL {g : Gh} {l l' : List Value} (h : LR g l l') : VR g (.tuple ⟨l⟩) (.tuple ⟨l'⟩) := .tuple (by simpa using h.1) (fun i v v' a b => h.2 i v v' (by simpa using a) (by simpa using b))
theorem LR.plain {g : Gh} : ∀ {l : List Value}, l.all plain1 = true → LR g l l
 | [], _ => LR.nil g
 | v :: l, h => by
  rw [List.all_cons, Bool.and_eq_true] at h
  exact (LR.plain h.2).cons (.plain h.1)
theorem VR.plain2 {g : Gh} {v : Value} (h : plain2 v = true) : VR g v v := by
 unfold Ev.plain2 at h
 split at h
 ·rename_i cs
  exact VR.aggL (l := cs.toList) (l' := cs.toList) (LR.plain h)
 ·exact .plain h
theorem LR.plain2 {g : Gh} : ∀ {l : List Value}, l.all Ev.plain2 = true → LR g l l
 | [], _ => LR.nil g
 | v :: l, h => by
  rw [List.all_cons, Bool.and_eq_true] at h
  exact (LR.plain2 h.2).cons (.plain2 h.1)
theorem VR.plainB {g : Gh} {v : Value} (h : plainB v = true) : VR g v v := by
 unfold Ev.plainB at h
 split at h
 ·rename_i cs
  exact VR.tupleL (l := cs.toList) (l' := cs.toList) (LR.plain2 h)
 ·exact .plain2 h
theorem VR.undef (g : Gh) : VR g undef undef := VR.tupleL (LR.nil g)
theorem VR.eq1 {g : Gh} {v v' : Value} (h : VR g v v') (hp : plain1 v = true) : v' = v := by
 cases h with
 | plain => rfl
 | func h1 h2 h3 h4 =>
  rename_i fn x y x' y'
  unfold plain1 at hp
  rw [Bool.and_eq_true] at hp
  have hx : x.size = 0 := by have := hp.1; simpa using this
  have hy : y.size = 0 := by have := hp.2; simpa using this
  rw [Array.eq_empty_of_size_eq_zero hx, Array.eq_empty_of_size_eq_zero hy, Array.eq_empty_of_size_eq_zero (h1.symm.trans hx), Array.eq_empty_of_size_eq_zero (h2.symm.trans hy)]
 | ptr | sl | su | agg | tuple => simp [plain1] at hp
theorem LR.eq1 {g : Gh} : ∀ {l l' : List Value}, LR g l l' → l.all plain1 = true → l' = l
  | [], _, h, _ => h.of_nil
  | v :: l, _, h, hp => by
    obtain ⟨v', t, rfl, h1, h2⟩ := h.of_cons
    rw [List.all_cons, Bool.and_eq_true] at hp
    rw [h1.eq1 hp.1, LR.eq1 h2 hp.2]
theorem VR.of_agg {g : Gh} {cs : Array Value} {v' : Value} (h : VR g (.agg cs) v') : ∃ cs', v' = .agg cs' ∧ LR g cs.toList cs'.toList := by
 cases h with
 | plain h => simp [plain1] at h
 | agg h1 h2 => exact ⟨_, rfl, by simpa using h1, fun i v v' a b => h2 i v v' (by simpa using a) (by simpa using b)⟩
theorem VR.of_tuple {g : Gh} {cs : Array Value} {v' : Value} (h : VR g (.tuple cs) v') : ∃ cs', v' = .tuple cs' ∧ LR g cs.toList cs'.toList := by
 cases h with
 | plain h => simp [plain1] at h
 | tuple h1 h2 => exact ⟨_, rfl, by simpa using h1, fun i v v' a b => h2 i v v' (by simpa using a) (by simpa using b)⟩
theorem VR.eq2 {g : Gh} {v v' : Value} (h : VR g v v') (hp : Ev.plain2 v = true) : v' = v := by
 unfold Ev.plain2 at hp
 split at hp
 ·obtain ⟨cs', rfl, hl⟩ := h.of_agg
  have := hl.eq1 hp
  exact congrArg Value.agg (Array.toList_inj.1 this)
 ·exact h.eq1 hp
theorem LR.eq2 {g : Gh} : ∀ {l l' : List Value}, LR g l l' → l.all Ev.plain2 = true → l' = l
  | [], _, h, _ => h.of_nil
  | v :: l, _, h, hp => by
    obtain ⟨v', t, rfl, h1, h2⟩ := h.of_cons
    rw [List.all_cons, Bool.and_eq_true] at hp
    rw [h1.eq2 hp.1, LR.eq2 h2 hp.2]
theorem VR.eqB {g : Gh} {v v' : Value} (h : VR g v v') (hp : Ev.plainB v = true) : v' = v := by
 unfold Ev.plainB at hp
 split at hp
 ·obtain ⟨cs', rfl, hl⟩ := h.of_tuple
  have := hl.eq2 hp
  exact congrArg Value.tuple (Array.toList_inj.1 this)
 ·exact h.eq2 hp
theorem VR.of_int {g : Gh} {k : IntKind} {n : Int} {v' : Value} (h : VR g (.int k n) v') : v' = .int k n := h.eq1 rfl
theorem VR.of_bool {g : Gh} {b : Bool} {v' : Value} (h : VR g (.bool b) v') : v' = .bool b := h.eq1 rfl
theorem VR.of_ptr {g : Gh} {a : Addr} {v' : Value} (h : VR g (.pointer (some a)) v') : ∃ a', v' = .pointer (some a') ∧ AR g a a' := by
 cases h with
 | plain h => simp [plain1] at h
 | ptr h => exact ⟨_, rfl, h⟩
theorem VR.oneCell {g : Gh} {v v' : Value} (h : VR g v v') (ho : oneCellB v = true) : oneCellB v' = true := by
 cases h with
 | plain h => exact ho
 | agg | tuple => simp [oneCellB] at ho
 | _ => rfl
theorem VR.cells {g : Gh} {v v' : Value} (h : VR g v v') : LR g v.cells.toList v'.cells.toList := by
 have one : ∀ {u u' : Value}, VR g u u' → u.cells = #[u] → u'.cells = #[u'] → LR g u.cells.toList u'.cells.toList := by
  intro u u' h a b
  rw [a, b]
  exact (LR.nil g).cons h
 cases h with
 | plain h => cases v <;> first | exact one (.plain h) rfl rfl | simp [plain1] at h
 | agg h1 h2 => rename_i x x'; exact ⟨show x.toList.length = x'.toList.length by simpa using h1, fun i v v' a b => h2 i v v' (by have a' : x.toList[i]? = some v := a; simpa using a') (by have b' : x'.toList[i]? = some v' := b; simpa using b')⟩
 | ptr h => exact one (.ptr h) rfl rfl
 | sl h hc => exact one (.sl h hc) rfl rfl
 | su hg h hn hc => exact one (.su hg h hn hc) rfl rfl
 | func h1 h2 h3 h4 => exact one (.func h1 h2 h3 h4) rfl rfl
 | tuple h1 h2 => exact one (.tuple h1 h2) rfl rfl
structure HR (g : Gh) (L : Nat → Option Blk) (w : World) (B : Nat) : Prop where
 row : ∀ i bl, L i = some bl → ∃ c cs, g i = some c ∧ w.heap[c.b]? = some (.cells cs bl.ty (0, 0)) ∧ cs.size = c.n ∧ c.e = bl.esz ∧ B ≤ c.b ∧ ∀ (k : Nat) (v : Value), bl.cells[k]? = some v → ∃ v', cs[c.s + k]? = some v' ∧ VR g v v'
 inj : ∀ i j bi bj ci cj, L i = some bi → L j = some bj → g i = some ci → g j = some cj → ci.b = cj.b → i = j
theorem HR.sub {g : Gh} {L L' : Nat → Option Blk} {w : World} {B : Nat} (h : HR g L w B) (hs : ∀ i b, L' i = some b → L i = some b) : HR g L' w B :=
 ⟨fun i bl e => h.row i bl (hs i bl e), fun i j bi bj ci cj ei ej => h.inj i j bi bj ci cj (hs _ _ ei) (hs _ _ ej)⟩
def Fresh (g : Gh) (lo hi : Nat) : Prop := ∀ i, lo ≤ i → i < hi → g i = none
structure After (V : Vw) (H H' : Hp) (W : List Nat) (B : Nat) (g : Gh) (w : World) (g' : Gh) (w' : World) : Prop where
 sub : Sub g g'
 ext : ∀ i, i < H.next ∨ H'.next ≤ i → g' i = g i
 hr : HR g' (gt V H') w' B
 os : w'.os = w.os
 tape : w'.tape = w.tape
 output : w'.output = w.output
 size : w.heap.size ≤ w'.heap.size
 frame : ∀ k, k < w.heap.size → (∀ i, i ∈ W → ∀ c, g' i = some c → c.b ≠ k) → w'.heap[k]? = w.heap[k]?
 new : ∀ i c, H.next ≤ i → i < H'.next → g' i = some c → w.heap.size ≤ c.b ∨ ∃ j, j ∈ W ∧ ∃ cj, g j = some cj ∧ cj.b = c.b
 wb : ∀ i, i ∈ W → ∃ c, g' i = some c ∧ B ≤ c.b
def WFH (H : Hp) : Prop := ∀ i, H.tr.get i ≠ none → i < H.next
structure Evo (V : Vw) (H H' : Hp) (W : List Nat) : Prop where
 next : H.next ≤ H'.next
 same : ∀ i, i < H.next → i ∉ W → H'.tr.get i = H.tr.get i
 wf : WFH H → WFH H' ∧ ∀ i, i ∈ W → i < H'.next
 seen : ∀ i, i ∈ W → V.see i = true
 had : ∀ i, i < H.next → H'.tr.get i ≠ none → H.tr.get i ≠ none
 hadW : ∀ i, i ∈ W → i < H.next → H.tr.get i ≠ none
theorem Evo.refl (V : Vw) (H : Hp) : Evo V H H [] := ⟨Nat.le_refl _, fun _ _ _ => rfl, fun h => ⟨h, fun i hi => by simp at hi⟩, fun i hi => by simp at hi, fun _ _ h => h, fun i hi => by simp at hi⟩
theorem Evo.trans {V : Vw} {H1 H2 H3 : Hp} {W1 W2 : List Nat} (a : Evo V H1 H2 W1) (b : Evo V H2 H3 W2) : Evo V H1 H3 (W2 ++ W1) :=
 ⟨Nat.le_trans a.next b.next, fun i hi hn => by
  rw [List.mem_append] at hn
  have h1 : i ∉ W2 := fun h => hn (.inl h)
  have h2 : i ∉ W1 := fun h => hn (.inr h)
  exact (b.same i (Nat.lt_of_lt_of_le hi a.next) h1).trans (a.same i hi h2), fun h => ⟨(b.wf (a.wf h).1).1, fun i hi => by
  rcases List.mem_append.1 hi with hi | hi
  ·exact (b.wf (a.wf h).1).2 i hi
  ·exact Nat.lt_of_lt_of_le ((a.wf h).2 i hi) b.next⟩, fun i hi => by
  rcases List.mem_append.1 hi with hi | hi
  ·exact b.seen i hi
  ·exact a.seen i hi, fun i hi h => a.had i hi (b.had i (Nat.lt_of_lt_of_le hi a.next) h), fun i hi hl => by
  rcases List.mem_append.1 hi with hi | hi
  ·exact a.had i hl (b.hadW i hi (Nat.lt_of_lt_of_le hl a.next))
  ·exact a.hadW i hi hl⟩
theorem After.refl {V : Vw} {H : Hp} {B : Nat} {g : Gh} {w : World} (h : HR g (gt V H) w B) : After V H H [] B g w g w :=
 ⟨Sub.refl g, fun _ _ => rfl, h, rfl, rfl, rfl, Nat.le_refl _, fun _ _ _ => rfl, fun i c h1 h2 => by omega, fun i h => by simp at h⟩
theorem After.trans {V : Vw} {H1 H2 H3 : Hp} {W1 W2 : List Nat} {B : Nat} {g1 g2 g3 : Gh} {w1 w2 w3 : World} (a : After V H1 H2 W1 B g1 w1 g2 w2) (b : After V H2 H3 W2 B g2 w2 g3 w3)
  (h12 : H1.next ≤ H2.next) (h23 : H2.next ≤ H3.next) : After V H1 H3 (W2 ++ W1) B g1 w1 g3 w3 := by
 refine ⟨a.sub.trans b.sub, fun i hi => ?_, b.hr, b.os.trans a.os, b.tape.trans a.tape, b.output.trans a.output, Nat.le_trans a.size b.size, fun k hk hn => ?_, fun i c h1 h2 hc => ?_, fun i hi => ?_⟩
 ·rcases hi with hi | hi
  ·rw [b.ext i (.inl (by omega)), a.ext i (.inl hi)]
  ·rw [b.ext i (.inr hi), a.ext i (.inr (by omega))]
 ·rw [b.frame k (Nat.lt_of_lt_of_le hk a.size) (fun i hi c hc => hn i (List.mem_append.2 (.inl hi)) c hc), a.frame k hk (fun i hi c hc => hn i (List.mem_append.2 (.inr hi)) c (b.sub _ _ hc))]
 ·by_cases h : i < H2.next
  ·rw [b.ext i (.inl h)] at hc
   exact (a.new i c h1 h hc).imp id fun ⟨j, hj, cj, e1, e2⟩ => ⟨j, List.mem_append.2 (.inr hj), cj, e1, e2⟩
  ·rcases b.new i c (by omega) h2 hc with h3 | ⟨j, hj, cj, e1, e2⟩
   ·exact .inl (Nat.le_trans a.size h3)
   ·by_cases hj2 : H1.next ≤ j ∧ j < H2.next
    ·rcases a.new j cj hj2.1 hj2.2 e1 with h4 | ⟨j', hj', cj', e3, e4⟩
     ·exact .inl (by omega)
     ·exact .inr ⟨j', List.mem_append.2 (.inr hj'), cj', e3, e4.trans e2⟩
    ·rw [a.ext j (by omega)] at e1
     exact .inr ⟨j, List.mem_append.2 (.inl hj), cj, e1, e2⟩
 ·rcases List.mem_append.1 hi with hi | hi
  ·exact b.wb i hi
  ·obtain ⟨c, h1, h2⟩ := a.wb i hi
   exact ⟨c, b.sub _ _ h1, h2⟩
theorem Fresh.left {g : Gh} {a b c : Nat} (h : Fresh g a c) (hb : b ≤ c) : Fresh g a b := fun i h1 h2 => h i h1 (by omega)
theorem After.fresh {V : Vw} {H1 H2 : Hp} {W : List Nat} {B n : Nat} {g1 g2 : Gh} {w1 w2 : World} (a : After V H1 H2 W B g1 w1 g2 w2) (h : Fresh g1 H1.next n) (h12 : H1.next ≤ H2.next) : Fresh g2 H2.next n :=
 fun i h1 h2 => by rw [a.ext i (.inr h1)]; exact h i (by omega) h2
theorem After.below {V : Vw} {H H' : Hp} {W : List Nat} {B : Nat} {g g' : Gh} {w w' : World} (a : After V H H' W B g w g' w') (hB : B ≤ w.heap.size) : Below B w w' :=
 ⟨a.os, a.tape, a.output, a.size, fun k hk => a.frame k (by omega) (fun i hi c hc => by obtain ⟨c', h1, h2⟩ := a.wb i hi; rw [h1] at hc; cases hc; omega)⟩
end Go.Proofs.YtfphlpglgcmljaaGreat.Ev
namespace Go.Proofs.YtfphlpglgcmljaaGreat.Ev
open Go Go.RowKit
set_option linter.unusedVariables false
/-! a world's cells -/
theorem cell_row {w : World} {b k : Nat} {cs : Array Value} {ty : Nat} {fz : Nat × Nat} (h : w.heap[b]? = some (.cells cs ty fz)) : w.cell? ⟨b, k, none⟩ = cs[k]? := by
 unfold World.cell?
 simp only [h]
 rfl
theorem frozen_row {w : World} {b k : Nat} {cs : Array Value} {ty : Nat} (h : w.heap[b]? = some (.cells cs ty (0, 0))) : w.frozen? ⟨b, k, none⟩ = false := by
 unfold World.frozen?
 simp [h]
theorem setCell_same {w : World} {b k : Nat} {cs : Array Value} {ty : Nat} {fz : Nat × Nat} {v : Value} (h : w.heap[b]? = some (.cells cs ty fz)) : (w.setCell ⟨b, k, none⟩ v).heap[b]? = some (.cells (cs.setIfInBounds k v) ty fz) := by
 unfold World.setCell
 simp [Array.getElem?_modify, h]
theorem setCell_other {w : World} {b k j : Nat} {v : Value} (h : j ≠ b) : (w.setCell ⟨b, k, none⟩ v).heap[j]? = w.heap[j]? := by
 unfold World.setCell
 simp only [Array.getElem?_modify]
 rw [if_neg (fun e => h e.symm)]
theorem setCell_size {w : World} {a : Addr} {v : Value} : (w.setCell a v).heap.size = w.heap.size := by
 unfold World.setCell
 simp
theorem run_store {β : Type} {P : Program} {m : Mode} {a : Addr} {v u : Value} {k : Sem β} {w : World} (ho : oneCellB v = true) (hc : w.cell? a = some u) (hf : w.frozen? a = false) : (Sem.store m a v k).run P w = k.run P (w.setCell a v) := by
 cases v <;> first | (simp [oneCellB] at ho; done) | simp [Sem.run, hc, hf]
theorem lt_heap {w : World} {b : Nat} {o : Obj} (h : w.heap[b]? = some o) : b < w.heap.size := (Array.getElem?_eq_some_iff.1 h).1
/-! what a run does with the rows -/
theorem new_cases (P : Program) (V : Vw) (o : Obj) : (∃ c e, o = .cells c e (0, 0)) ∨ (∀ (α : Type) (k : Nat → Sem α) H W, runA P V (.new o k) H W = none) := by
 cases o with
 | cells c e fz =>
  obtain ⟨lo, hi⟩ := fz
  cases lo with
  | zero => cases hi with
   | zero => exact .inl ⟨c, e, rfl⟩
   | succ n => exact .inr fun α k H W => by simp [runA]
  | succ n => exact .inr fun α k H W => by simp [runA]
 | _ => exact .inr fun α k H W => by simp [runA]
theorem runA_new {α : Type} (P : Program) (V : Vw) (c : Array Value) (e : Nat) (k : Nat → Sem α) (H : Hp) (W : List Nat) : runA P V (.new (.cells c e (0, 0)) k) H W = if H.next < MOST then runA P V (k H.next) (H.add ⟨e, 0, c.toList⟩) W else none := by
 simp only [runA]
theorem runA_evo {α : Type} {P : Program} {V : Vw} (e : Sem α) : ∀ {H : Hp} {W : List Nat} {x : α} {H' : Hp} {W' : List Nat}, runA P V e H W = some (x, H', W') → ∃ Wn, W' = Wn ++ W ∧ Evo V H H' Wn := by
 induction e with
 | pure a => intro H W x H' W' h; simp only [runA, Option.some.injEq, Prod.mk.injEq] at h; obtain ⟨_, rfl, rfl⟩ := h; exact ⟨[], rfl, Evo.refl _ _⟩
 | load m a k ih =>
  intro H W x H' W' h
  simp only [runA] at h
  split at h
  ·split at h
   ·cases h
   ·split at h
    ·exact ih _ h
    ·cases h
  ·cases h
 | store m a v k ih =>
  intro H W x H' W' h
  simp only [runA] at h
  split at h
  ·split at h
   ·rename_i b hb
    split at h
    ·cases h
    ·split at h
     ·obtain ⟨Wn, rfl, he⟩ := ih h
      refine ⟨Wn ++ [a.block], by simp, ?_⟩
      have hbn : H.tr.get a.block ≠ none := by rw [(gt_some hb).2]; simp
      refine ⟨he.next, fun i hi hn => ?_, fun hw => ?_, fun i hi => ?_, fun i hi h => ?_, fun i hi hl => ?_⟩
      ·rw [List.mem_append, List.mem_singleton] at hn
       rw [he.same i hi (fun h => hn (.inl h)), get_set hbn, if_neg (fun e => hn (.inr e))]
      ·have hw1 : WFH (H.set a.block (some ⟨b.ty, b.esz, b.cells.set a.off v⟩)) := fun i hi => by
        rw [get_set hbn] at hi
        by_cases e : i = a.block
        ·rw [e]; exact hw _ hbn
        ·rw [if_neg e] at hi; exact hw i hi
       refine ⟨(he.wf hw1).1, fun i hi => ?_⟩
       rcases List.mem_append.1 hi with hi | hi
       ·exact (he.wf hw1).2 i hi
       ·rw [List.mem_singleton] at hi
        rw [hi]
        exact Nat.lt_of_lt_of_le (hw _ hbn) he.next
      ·rcases List.mem_append.1 hi with hi | hi
       ·exact he.seen i hi
       ·rw [List.mem_singleton] at hi
        rw [hi]; exact (gt_some hb).1
      ·have := he.had i hi h
       rw [get_set hbn] at this
       by_cases e : i = a.block
       ·rw [e]; exact hbn
       ·rw [if_neg e] at this; exact this
      ·rcases List.mem_append.1 hi with hi | hi
       ·have := he.hadW i hi hl
        rw [get_set hbn] at this
        by_cases e : i = a.block
        ·rw [e]; exact hbn
        ·rw [if_neg e] at this; exact this
       ·rw [List.mem_singleton] at hi
        rw [hi]; exact hbn
     ·cases h
   ·cases h
  ·cases h
 | new o k ih =>
  intro H W x H' W' h
  rcases new_cases P V o with ⟨c, e, rfl⟩ | hb
  ·rw [runA_new] at h
   split at h
   ·rename_i hlt
    obtain ⟨Wn, rfl, he⟩ := ih _ h
    have hn : (H.add ⟨e, 0, c.toList⟩).next = H.next + 1 := rfl
    refine ⟨Wn, rfl, by have := he.next; omega, fun i hi hni => ?_, fun hw => ?_, he.seen, fun i hi h => ?_, fun i hi hl => ?_⟩
    ·rw [he.same i (by omega) hni, get_add hlt, if_neg (by omega)]
    ·refine he.wf fun i hi => ?_
     rw [get_add hlt] at hi
     by_cases e : i = H.next
     ·omega
     ·rw [if_neg e] at hi; have := hw i hi; omega
    ·have := he.had i (by omega) h
     rw [get_add hlt, if_neg (by omega)] at this
     exact this
    ·have := he.hadW i hi (by omega)
     rw [get_add hlt, if_neg (by omega)] at this
     exact this
   ·cases h
  ·rw [hb] at h; cases h
 | program k ih => intro H W x H' W' h; exact ih P h
 | mark m k ih => intro H W x H' W' h; exact ih h
 | _ => intro H W x H' W' h; simp [runA] at h
theorem runA_bind {α β : Type} {P : Program} {V : Vw} (e : Sem α) (f : α → Sem β) : ∀ (H : Hp) (W : List Nat), runA P V (e.bind f) H W = match runA P V e H W with | some (x, H', W') => runA P V (f x) H' W' | none => none := by
 induction e with
 | pure a => intro H W; rfl
 | load m a k ih =>
  intro H W
  simp only [Sem.bind, runA]
  split
  ·split
   ·rfl
   ·split
    ·exact ih _ _ _
    ·rfl
  ·rfl
 | store m a v k ih =>
  intro H W
  simp only [Sem.bind, runA]
  split
  ·split
   ·split
    ·rfl
    ·split
     ·exact ih _ _
     ·rfl
   ·rfl
  ·rfl
 | new o k ih =>
  intro H W
  simp only [Sem.bind]
  rcases new_cases P V o with ⟨c, e, rfl⟩ | hb
  ·rw [runA_new, runA_new]
   split
   ·exact ih _ _ _
   ·rfl
  ·rw [hb, hb]
 | program k ih => intro H W; exact ih P H W
 | mark m k ih => intro H W; exact ih H W
 | _ => intro H W; rfl
inductive SR {α β : Type} (P : Program) (R : Gh → α → β → Prop) : Gh → Sem α → Sem β → Prop
 | pure {g : Gh} {x : α} {y : β} (h : R g x y) : SR P R g (.pure x) (.pure y)
 | load {g : Gh} {m m' : Mode} {a a' : Addr} {k : Value → Sem α} {k' : Value → Sem β} (h : AR g a a') (hk : ∀ v v', VR g v v' → SR P R g (k v) (k' v')) : SR P R g (.load m a k) (.load m' a' k')
 | store {g : Gh} {m m' : Mode} {a a' : Addr} {v v' : Value} {k : Sem α} {k' : Sem β} (h : AR g a a') (hv : VR g v v') (hk : SR P R g k k') : SR P R g (.store m a v k) (.store m' a' v' k')
 | new {g : Gh} {c c' : Array Value} {e : Nat} {k : Nat → Sem α} {k' : Nat → Sem β} (h : LR g c.toList c'.toList)
   (hk : ∀ g' i b, Sub g g' → g' i = some ⟨b, 0, c'.size, 0⟩ → SR P R g' (k i) (k' b)) : SR P R g (.new (.cells c e (0, 0)) k) (.new (.cells c' e (0, 0)) k')
 | program {g : Gh} {k : Program → Sem α} {k' : Program → Sem β} (hk : SR P R g (k P) (k' P)) : SR P R g (.program k) (.program k')
 | mark {g : Gh} {m m' : Mark} {k : Sem α} {k' : Sem β} (hk : SR P R g k k') : SR P R g (.mark m k) (.mark m' k')
 | bad {g : Gh} {e : Sem α} {e' : Sem β} (h : ∀ V H W, runA P V e H W = none) : SR P R g e e'
theorem SR.bind {α β γ δ : Type} {P : Program} {R : Gh → α → β → Prop} {R' : Gh → γ → δ → Prop} {g : Gh} {e : Sem α} {e' : Sem β} {f : α → Sem γ} {f' : β → Sem δ} (h : SR P R g e e')
  (hf : ∀ g' x y, Sub g g' → R g' x y → SR P R' g' (f x) (f' y)) : SR P R' g (e.bind f) (e'.bind f') := by
 induction h with
 | pure h => exact hf _ _ _ (Sub.refl _) h
 | load h hk ih => exact .load h fun v v' hv => ih v v' hv hf
 | store h hv hk ih => exact .store h hv (ih hf)
 | new h hk ih => exact .new h fun g' i b hs hg => ih g' i b hs hg fun g'' x y hs' hr => hf g'' x y (hs.trans hs') hr
 | program hk ih => exact .program (ih hf)
 | mark hk ih => exact .mark (ih hf)
 | bad h => exact .bad fun V H W => by rw [runA_bind, h V H W]
theorem SR.mono {α β : Type} {P : Program} {R R' : Gh → α → β → Prop} {g : Gh} {e : Sem α} {e' : Sem β} (h : SR P R g e e') (hr : ∀ g' x y, Sub g g' → R g' x y → R' g' x y) : SR P R' g e e' := by
 induction h with
 | pure h => exact .pure (hr _ _ _ (Sub.refl _) h)
 | load h hk ih => exact .load h fun v v' hv => ih v v' hv hr
 | store h hv hk ih => exact .store h hv (ih hr)
 | new h hk ih => exact .new h fun g' i b hs hg => ih g' i b hs hg fun g'' x y hs' hr' => hr g'' x y (hs.trans hs') hr'
 | program hk ih => exact .program (ih hr)
 | mark hk ih => exact .mark (ih hr)
 | bad h => exact .bad h
theorem HR.store {g : Gh} {V : Vw} {H : Hp} {w : World} {B i k : Nat} {bl : Blk} {c : Cf} {cs : Array Value} {v v' : Value} (h : HR g (gt V H) w B) (hb : gt V H i = some bl) (hg : g i = some c)
  (hc : w.heap[c.b]? = some (.cells cs bl.ty (0, 0))) (hn : cs.size = c.n) (he : c.e = bl.esz) (hB : B ≤ c.b) (hr : ∀ (k : Nat) (v : Value), bl.cells[k]? = some v → ∃ v', cs[c.s + k]? = some v' ∧ VR g v v') (hk : k < bl.cells.length) (hv : VR g v v') :
  HR g (gt V (H.set i (some ⟨bl.ty, bl.esz, bl.cells.set k v⟩))) (w.setCell ⟨c.b, c.s + k, none⟩ v') B := by
 have hget : ∀ j, gt V (H.set i (some ⟨bl.ty, bl.esz, bl.cells.set k v⟩)) j = if j = i then some ⟨bl.ty, bl.esz, bl.cells.set k v⟩ else gt V H j := by
  intro j
  rw [gt_def, gt_def, get_set (by rw [(gt_some hb).2]; simp)]
  by_cases e : j = i
  ·rw [if_pos e, if_pos e, e, if_pos (gt_some hb).1]
  ·rw [if_neg e, if_neg e]
 refine ⟨fun j bl' hj => ?_, fun j j' bj bj' cj cj' hj hj' gj gj' hb' => ?_⟩
 ·rw [hget] at hj
  by_cases e : j = i
  ·subst e
   rw [if_pos rfl] at hj
   cases hj
   refine ⟨c, cs.setIfInBounds (c.s + k) v', hg, setCell_same hc, by simp [hn], he, hB, fun q u hq => ?_⟩
   rw [List.getElem?_set] at hq
   by_cases hkq : k = q
   ·subst hkq
    rw [if_pos rfl, if_pos hk] at hq
    cases hq
    obtain ⟨u', hu, _⟩ := hr k bl.cells[k] (List.getElem?_eq_getElem hk)
    have hlt : c.s + k < cs.size := (Array.getElem?_eq_some_iff.1 hu).1
    exact ⟨v', by simp [hlt], hv⟩
   ·rw [if_neg hkq] at hq
    obtain ⟨u', hu, hvr⟩ := hr q u hq
    refine ⟨u', ?_, hvr⟩
    rw [Array.getElem?_setIfInBounds, if_neg (by omega)]
    exact hu
  ·rw [if_neg e] at hj
   obtain ⟨cj, cs', h1, h2, h3, h4, h5, h6⟩ := h.row j bl' hj
   refine ⟨cj, cs', h1, ?_, h3, h4, h5, h6⟩
   rw [setCell_other (fun hbb => e (h.inj j i bl' bl cj c hj hb h1 hg hbb))]
   exact h2
 ·have hx : ∀ q bq, gt V (H.set i (some ⟨bl.ty, bl.esz, bl.cells.set k v⟩)) q = some bq → ∃ b', gt V H q = some b' := by
   intro q bq hq
   rw [hget] at hq
   by_cases e : q = i
   ·exact ⟨bl, by rw [e]; exact hb⟩
   ·rw [if_neg e] at hq; exact ⟨bq, hq⟩
  obtain ⟨b1, e1⟩ := hx j bj hj
  obtain ⟨b2, e2⟩ := hx j' bj' hj'
  exact h.inj j j' b1 b2 cj cj' e1 e2 gj gj' hb'
def withNew (g : Gh) (i : Nat) (c : Cf) : Gh := fun j => if j = i then some c else g j
theorem withNew_sub {g : Gh} {i : Nat} {c : Cf} (h : g i = none) : Sub g (withNew g i c) := fun j x e => by
 unfold withNew
 by_cases hj : j = i
 ·rw [hj, h] at e; cases e
 ·rw [if_neg hj]; exact e
theorem HR.new {g : Gh} {V : Vw} {H : Hp} {w : World} {B ty esz : Nat} {cells : List Value} {cs : Array Value} {s : Nat} (h : HR g (gt V H) w B) (hf : g H.next = none) (hm : H.next < MOST) (hB : B ≤ w.heap.size)
  (hr : ∀ (k : Nat) (v : Value), cells[k]? = some v → ∃ v', cs[s + k]? = some v' ∧ VR g v v') :
  HR (withNew g H.next ⟨w.heap.size, s, cs.size, esz⟩) (gt V (H.add ⟨ty, esz, cells⟩)) { w with heap := w.heap.push (.cells cs ty (0, 0)) } B := by
 have hs := withNew_sub (c := ⟨w.heap.size, s, cs.size, esz⟩) hf
 have hold : ∀ j bl, j ≠ H.next → gt V (H.add ⟨ty, esz, cells⟩) j = some bl → gt V H j = some bl := by
  intro j bl hj e
  rw [gt_def, get_add hm, if_neg hj] at e
  rw [gt_def]; exact e
 refine ⟨fun j bl hj => ?_, fun j j' bj bj' cj cj' hj hj' gj gj' hbb => ?_⟩
 ·by_cases e : j = H.next
  ·subst e
   rw [gt_def, get_add hm, if_pos rfl] at hj
   split at hj
   ·cases hj
    refine ⟨_, cs, by unfold withNew; rw [if_pos rfl], by simp, rfl, rfl, hB, fun k v hk => ?_⟩
    obtain ⟨v', h1, h2⟩ := hr k v hk
    exact ⟨v', h1, h2.mono hs⟩
   ·cases hj
  ·obtain ⟨c, cs', h1, h2, h3, h4, h5, h6⟩ := h.row j bl (hold j bl e hj)
   refine ⟨c, cs', hs _ _ h1, ?_, h3, h4, h5, fun k v hk => ?_⟩
   ·rw [Array.getElem?_push, if_neg (by have := lt_heap h2; omega)]; exact h2
   ·obtain ⟨v', h7, h8⟩ := h6 k v hk; exact ⟨v', h7, h8.mono hs⟩
 ·have key : ∀ q bq cq, q ≠ H.next → gt V (H.add ⟨ty, esz, cells⟩) q = some bq → withNew g H.next ⟨w.heap.size, s, cs.size, esz⟩ q = some cq → g q = some cq ∧ cq.b < w.heap.size := by
   intro q bq cq hq h1 h2
   unfold withNew at h2
   rw [if_neg hq] at h2
   obtain ⟨c, cs', h3, h4, _⟩ := h.row q bq (hold q bq hq h1)
   rw [h2] at h3; cases h3
   exact ⟨h2, lt_heap h4⟩
  by_cases e : j = H.next
  ·by_cases e' : j' = H.next
   ·rw [e, e']
   ·obtain ⟨_, hl⟩ := key j' bj' cj' e' hj' gj'
    unfold withNew at gj
    rw [if_pos e] at gj
    cases gj
    simp only at hbb
    omega
  ·obtain ⟨g1, hl⟩ := key j bj cj e hj gj
   by_cases e' : j' = H.next
   ·unfold withNew at gj'
    rw [if_pos e'] at gj'
    cases gj'
    simp only at hbb
    omega
   ·obtain ⟨g2, _⟩ := key j' bj' cj' e' hj' gj'
    exact h.inj j j' bj bj' cj cj' (hold _ _ e hj) (hold _ _ e' hj') g1 g2 hbb
theorem SR.run {α β : Type} {P : Program} {R : Gh → α → β → Prop} {g : Gh} {e : Sem α} {e' : Sem β} (h : SR P R g e e') : ∀ {V : Vw} {H : Hp} {W : List Nat} {x : α} {H' : Hp} {W' : List Nat} {w : World} {B : Nat},
  runA P V e H W = some (x, H', W') → HR g (gt V H) w B → B ≤ w.heap.size → Fresh g H.next H'.next →
  ∃ y w' g' Wn, W' = Wn ++ W ∧ e'.run P w = .ok y w' ∧ R g' x y ∧ After V H H' Wn B g w g' w' := by
 induction h with
 | pure h =>
  intro V H W x H' W' w B hr hh hB hf
  simp only [runA, Option.some.injEq, Prod.mk.injEq] at hr
  obtain ⟨rfl, rfl, rfl⟩ := hr
  exact ⟨_, w, _, [], rfl, rfl, h, After.refl hh⟩
 | load ha hk ih =>
  intro V H W x H' W' w B hr hh hB hf
  rename_i g m m' a a' k k'
  simp only [runA] at hr
  split at hr
  ·rename_i bl hb
   split at hr
   ·cases hr
   ·split at hr
    ·rename_i v hv
     obtain ⟨c, cs, h1, h2, h3, h4, h5, h6⟩ := hh.row _ _ hb
     obtain ⟨c', g1, g2, rfl⟩ := ha
     rw [h1] at g1; cases g1
     obtain ⟨v', h7, h8⟩ := h6 _ _ hv
     obtain ⟨y, w', g', Wn, r1, r2, r3, r4⟩ := ih v v' h8 hr hh hB hf
     refine ⟨y, w', g', Wn, r1, ?_, r3, r4⟩
     have hcell : w.cell? ⟨c.b, c.s + a.off, none⟩ = some v' := (cell_row h2).trans h7
     show (Sem.load m' ⟨c.b, c.s + a.off, none⟩ k').run P w = _
     simp only [Sem.run, hcell]
     exact r2
    ·cases hr
  ·cases hr
 | store ha hv hk ih =>
  intro V H W x H' W' w B hr hh hB hf
  rename_i g m m' a a' v v' k k'
  simp only [runA] at hr
  split at hr
  ·rename_i ho
   split at hr
   ·rename_i bl hb
    split at hr
    ·cases hr
    ·split at hr
     ·rename_i hlt
      obtain ⟨c, cs, h1, h2, h3, h4, h5, h6⟩ := hh.row _ _ hb
      obtain ⟨c', g1, g2, rfl⟩ := ha
      rw [h1] at g1; cases g1
      have hh1 := hh.store hb h1 h2 h3 h4 h5 h6 hlt hv
      obtain ⟨u', hu, _⟩ := h6 a.off bl.cells[a.off] (List.getElem?_eq_getElem hlt)
      obtain ⟨y, w', g', Wn, r1, r2, r3, r4⟩ := ih hr hh1 (by rw [setCell_size]; exact hB) hf
      refine ⟨y, w', g', Wn ++ [a.block], by rw [r1]; simp, ?_, r3, ?_⟩
      ·rw [run_store (hv.oneCell ho) ((cell_row h2).trans hu) (frozen_row h2)]
       exact r2
      ·refine After.trans (H2 := H.set a.block _) (w2 := w.setCell ⟨c.b, c.s + a.off, none⟩ v') ⟨Sub.refl g, fun _ _ => rfl, hh1, rfl, rfl, rfl, by rw [setCell_size]; exact Nat.le_refl _, fun q hq hn => ?_, fun i c hi hi2 => ?_, fun i hi => ?_⟩ r4 (Nat.le_refl _) ?_
       ·exact setCell_other (fun e => hn a.block (by simp) c h1 e.symm)
       ·have : (H.set a.block (some ⟨bl.ty, bl.esz, bl.cells.set a.off v⟩)).next = H.next := rfl
        omega
       ·rw [List.mem_singleton] at hi
        subst hi
        exact ⟨c, h1, h5⟩
       ·obtain ⟨_, _, he⟩ := runA_evo _ hr
        exact he.next
     ·cases hr
   ·cases hr
  ·cases hr
 | new hl hk ih =>
  intro V H W x H' W' w B hr hh hB hf
  rename_i g c c' e k k'
  simp only [runA] at hr
  split at hr
  ·rename_i hm
   obtain ⟨_, _, he⟩ := runA_evo _ hr
   have hn : H.next + 1 ≤ H'.next := he.next
   have hfr : g H.next = none := hf _ (Nat.le_refl _) (by omega)
   have hh1 := hh.new (ty := e) (esz := 0) (cells := c.toList) (cs := c') (s := 0) hfr hm hB (fun k v hk => by
    obtain ⟨v', h1, h2⟩ := hl.at hk
    exact ⟨v', by rw [Nat.zero_add]; simpa using h1, h2⟩)
   have hs := withNew_sub (c := ⟨w.heap.size, 0, c'.size, 0⟩) hfr
   obtain ⟨y, w', g', Wn, r1, r2, r3, r4⟩ := ih _ H.next w.heap.size hs (by unfold withNew; rw [if_pos rfl]) hr hh1 (by simp; omega) (fun i h1 h2 => by
    have hi : H.next + 1 ≤ i := h1
    unfold withNew; rw [if_neg (by omega)]; exact hf i (by omega) h2)
   refine ⟨y, w', g', Wn, r1, r2, r3, ?_⟩
   have := After.trans (V := V) (H1 := H) (H2 := H.add ⟨e, 0, c.toList⟩) (W1 := []) (w1 := w) ⟨hs, fun i hi => ?_, hh1, rfl, rfl, rfl, by simp, fun q hq _ => ?_, fun i c h1 h2 hc => ?_, fun i hi => by simp at hi⟩ r4 (by show H.next ≤ H.next + 1; omega) he.next
   ·rwa [List.append_nil] at this
   ·have : (H.add ⟨e, 0, c.toList⟩).next = H.next + 1 := rfl
    unfold withNew; rw [if_neg (by omega)]
   ·simp only [Array.getElem?_push]; rw [if_neg (by omega)]
   ·have h3 : i < H.next + 1 := h2
    unfold withNew at hc
    rw [if_pos (by omega)] at hc
    cases hc
    exact .inl (Nat.le_refl _)
  ·cases hr
 | program hk ih => intro V H W x H' W' w B hr hh hB hf; exact ih hr hh hB hf
 | mark hk ih => intro V H W x H' W' w B hr hh hB hf; exact ih hr hh hB hf
 | bad h => intro V H W x H' W' w B hr; rw [h] at hr; cases hr
end Go.Proofs.YtfphlpglgcmljaaGreat.Ev
