/- Part of the proof of priced_resets_proved: Base, Lst. -/
import Derived.Test.YtfphlpglgcmljaaGreatRows
import Derived.WalkKit
import Derived.WalkSpells
import Derived.WalkLawsBesides
import Derived.Lib.Hide
import Derived.Deep.QuietTactic
import Derived.BigQuiet
namespace Go.Proofs.YtfphlpglgcmljaaGreat
open Go.RowKit
def RS (B : Nat) (w : World) (v : Value) (n : Nat) (cs : List Value) : Prop :=
 (v = .slice none 0 0 ∧ n = 0 ∧ cs = []) ∨
 ∃ b off sp cap, v = .slice (some ⟨b, off, sp⟩) n cap ∧ n ≤ cap ∧ cap ≤ maxLen ∧ (n = 0 → cs = []) ∧
  (0 < n → sp = none ∧ b < B ∧ ∀ k, k < cs.length → w.cell? ⟨b, off + k, none⟩ = cs[k]?)
def RL (B : Nat) (w : World) (v : Value) (xs : List Int) : Prop := RS B w v xs.length (xs.map (Value.int .i64))
theorem RS.keep {B : Nat} {w w' : World} {v : Value} {n : Nat} {cs : List Value} (h : RS B w v n cs) (hb : Below B w w') : RS B w' v n cs := by
 rcases h with h | ⟨b, off, sp, cap, rfl, h1, h2, h3, h4⟩
 ·exact .inl h
 ·refine .inr ⟨b, off, sp, cap, rfl, h1, h2, h3, fun hn => ?_⟩
  obtain ⟨p, q, r⟩ := h4 hn
  exact ⟨p, q, fun k hk => (hb.cell (p := ⟨b, off + k, none⟩) q).trans (r k hk)⟩
theorem RS.mono {B B' : Nat} {w : World} {v : Value} {n : Nat} {cs : List Value} (h : RS B w v n cs) (hb : B ≤ B') : RS B' w v n cs := by
 rcases h with h | ⟨b, off, sp, cap, rfl, h1, h2, h3, h4⟩
 ·exact .inl h
 ·exact .inr ⟨b, off, sp, cap, rfl, h1, h2, h3, fun hn => ⟨(h4 hn).1, by have := (h4 hn).2.1; omega, (h4 hn).2.2⟩⟩
theorem RL.keep {B : Nat} {w w' : World} {v : Value} {xs : List Int} (h : RL B w v xs) (hb : Below B w w') : RL B w' v xs := RS.keep h hb
theorem RL.mono {B B' : Nat} {w : World} {v : Value} {xs : List Int} (h : RL B w v xs) (hb : B ≤ B') : RL B' w v xs := RS.mono h hb
theorem RS.le {B : Nat} {w : World} {v : Value} {n : Nat} {cs : List Value} (h : RS B w v n cs) : n ≤ 9223372036854775807 := by
 rcases h with ⟨_, h, _⟩ | ⟨b, off, sp, cap, _, h1, h2, _⟩
 ·omega
 ·unfold maxLen at h2; omega
def gi (xs : List Int) (k : Nat) : Int := xs.getD k 0
theorem len_set (xs : List Int) (k : Nat) (l : Int) : (xs.set k l).length = xs.length := List.length_set
def imin (x y : Int) : Int := if y < x then y else x
theorem imin_fold : ∀ x y : Int, (if y < x then y else x) = imin x y := fun _ _ => rfl
theorem RL.open {B : Nat} {w : World} {v : Value} {xs : List Int} (h : RL B w v xs) :
  ∃ ao cap, v = .slice ao xs.length cap ∧ xs.length ≤ 9223372036854775807 ∧ (0 < xs.length → ∃ b off, ao = some ⟨b, off, none⟩ ∧ b < B ∧ ∀ k, k < xs.length → w.cell? ⟨b, off + k, none⟩ = some (.int .i64 (gi xs k))) := by
 have hl := RS.le h
 rcases h with ⟨rfl, h1, h2⟩ | ⟨b, off, sp, cap, rfl, h1, h2, h3, h4⟩
 ·exact ⟨none, 0, by rw [h1], hl, fun h => by omega⟩
 ·refine ⟨_, cap, rfl, hl, fun hn => ?_⟩
  obtain ⟨rfl, q, r⟩ := h4 hn
  refine ⟨b, off, rfl, q, fun k hk => ?_⟩
  rw [r k (by simpa using hk)]
  simp [gi, hk]
theorem RL_of_owns {w : World} {base e : Nat} {v : Value} {n : Nat} {xs : List Int} (h : w.ownsRow base e 1 v n (xs.map (Value.int .i64))) : RL w.heap.size w v xs ∧ n = xs.length := by
 have hn : n = xs.length := by have := h.1; simpa using this.symm
 refine ⟨?_, hn⟩
 subst hn
 rcases h.2 with ⟨rfl, h0⟩ | ⟨g, cap, cur, rfl, hb, hg, hnc, hcm, hcs, ht⟩
 ·exact .inl ⟨rfl, h0, by rw [List.map_eq_nil_iff]; exact List.eq_nil_of_length_eq_zero h0⟩
 ·refine .inr ⟨g, 0, none, cap, rfl, hnc, hcm, fun h0 => by rw [List.map_eq_nil_iff]; exact List.eq_nil_of_length_eq_zero h0, fun _ => ⟨rfl, (Array.getElem?_eq_some_iff.1 hg).1, fun k hk => ?_⟩⟩
  have := h.cellAt k (by simpa using hk)
  rw [Nat.zero_add]; exact this
def OL (e base : Nat) (w : World) (v : Value) (xs : List Int) : Prop := w.ownsRow base e 1 v xs.length (xs.map (Value.int .i64))
theorem OL.rl {e base : Nat} {w : World} {v : Value} {xs : List Int} (h : OL e base w v xs) : RL w.heap.size w v xs := (RL_of_owns h).1
theorem OL.open {e base : Nat} {w : World} {v : Value} {xs : List Int} (h : OL e base w v xs) (hp : 0 < xs.length) :
  ∃ g cap, v = .slice (some ⟨g, 0, none⟩) xs.length cap ∧ base ≤ g ∧ g < w.heap.size ∧ xs.length ≤ 9223372036854775807 ∧ ∀ k, k < xs.length → w.cell? ⟨g, k, none⟩ = some (.int .i64 (gi xs k)) ∧ w.frozen? ⟨g, k, none⟩ = false := by
 have hl := RS.le h.rl
 rcases h.2 with ⟨_, h0⟩ | ⟨g, cap, cur, rfl, hb, hg, hnc, hcm, hcs, ht⟩
 ·omega
 ·refine ⟨g, cap, rfl, hb, (Array.getElem?_eq_some_iff.1 hg).1, hl, fun k hk => ⟨?_, World.ownsRow.frozenAt h k⟩⟩
  rw [World.ownsRow.cellAt h k (by simpa using hk)]
  simp [gi, hk]
theorem OL.kept {e base : Nat} {w w' : World} {v : Value} {xs : List Int} {row : Option Nat} (h : OL e base w v xs) (hg : w.grownBy w' row) (hne : v.ownBlock = none ∨ v.ownBlock ≠ row) : OL e base w' v xs := World.ownsRow.kept h hg hne
theorem OL.keepb {e base : Nat} {w w' : World} {v : Value} {xs : List Int} (h : OL e base w v xs) (hb : Below w.heap.size w w') : OL e base w' v xs := World.ownsRow.kept h (row := none) ⟨hb.os, hb.tape, hb.output, hb.size, fun i hi _ => hb.block i hi⟩ (by cases v.ownBlock <;> simp)
theorem bt {a b c : World} (h : Below a.heap.size a b) (k : Below b.heap.size b c) : Below a.heap.size a c := h.trans (k.mono h.size)
theorem RL.keepb {w w' : World} {v : Value} {xs : List Int} (h : RL w.heap.size w v xs) (hb : Below w.heap.size w w') : RL w'.heap.size w' v xs := (h.keep hb).mono hb.size
theorem RL.drew {w : World} {v : Value} {xs : List Int} (h : RL w.heap.size w v xs) : RL w.drew.heap.size w.drew v xs := h
def zdim (r : Int × List Int) (N : Int) : Int := if r.1 = 0 then N else 0
def ZPost (lt base : Nat) (N : Int) (r : Int × List Int) (e : Ending) (w' : World) : Prop :=
 ∃ v', e = .returned (.tuple #[.agg #[.int .i64 (zdim r N), v'], .int .i64 r.1]) ∧ OL lt base w' v' r.2
theorem OL.nil (e base : Nat) (w : World) : OL e base w (.slice none 0 0) [] := World.ownsRow_nil w base e 1
theorem ZPost.err {lt base : Nat} {N : Int} {r : Int × List Int} {x : Int} (h : r = (x, [])) (hx : x ≠ 0) (w' : World) : ZPost lt base N r (.returned (.tuple #[.agg #[.int .i64 0, .slice none 0 0], .int .i64 x])) w' := by
 subst h; exact ⟨_, by simp [zdim, hx], OL.nil _ _ _⟩
theorem ZPost.ok {lt base : Nat} {N : Int} {r : Int × List Int} {v : Value} {xs : List Int} {w' : World} (h : r = (0, xs)) (ho : OL lt base w' v xs) : ZPost lt base N r (.returned (.tuple #[.agg #[.int .i64 N, v], .int .i64 0])) w' := by
 subst h; exact ⟨_, by simp [zdim], ho⟩
theorem all_take_succ {xs : List Int} {p : Int → Bool} {k : Nat} (h : (xs.take k).all p = true) (hk : k < xs.length) (hp : p (gi xs k) = true) : (xs.take (k + 1)).all p = true := by
 rw [List.take_succ_eq_append_getElem hk, List.all_append, h, Bool.true_and, List.all_cons, List.all_nil, Bool.and_true]
 have e : gi xs k = xs[k] := by simp [gi, hk]
 rw [← e]; exact hp
theorem not_all_of {xs : List Int} {p : Int → Bool} {k : Nat} (hk : k < xs.length) (hp : p (gi xs k) = false) : ¬ xs.all p = true := by
 intro h
 have e : gi xs k = xs[k] := by simp [gi, hk]
 have := List.all_eq_true.1 h xs[k] (List.getElem_mem hk)
 rw [← e, hp] at this; cases this
theorem ownsRow_other {e base : Nat} {w : World} {v : Value} {xs : List Int} (h : OL e base w v xs) {a : Addr} {u : Value} (hne : v.ownBlock ≠ some a.block) : OL e base (w.setCell a u) v xs :=
 World.ownsRow.kept h (row := some a.block) ⟨rfl, rfl, rfl, by simp [World.setCell], fun k _ hk => Below.heap_setCell _ _ _ _ (by simpa using hk)⟩ (.inr hne)
theorem OL.mono {e base base' : Nat} {w : World} {v : Value} {xs : List Int} (h : OL e base w v xs) (hb : base' ≤ base) : OL e base' w v xs := by
 refine ⟨h.1, ?_⟩
 rcases h.2 with h2 | ⟨g, cap, cur, h2, h3, h4⟩
 ·exact .inl h2
 ·exact .inr ⟨g, cap, cur, h2, by omega, h4⟩
theorem OL.drew {e base : Nat} {w : World} {v : Value} {xs : List Int} (h : OL e base w v xs) : OL e base w.drew v xs := ⟨h.1, h.2⟩
theorem OL.stored {e base : Nat} {w : World} {g n cap : Nat} {xs : List Int} (h : OL e base w (.slice (some ⟨g, 0, none⟩) n cap) xs) (hn : n = xs.length) (j : Nat) (l : Int) :
  OL e base (w.setCell ⟨g, j, none⟩ (.int .i64 l)) (.slice (some ⟨g, 0, none⟩) n cap) (xs.set j l) ∧ w.grownBy (w.setCell ⟨g, j, none⟩ (.int .i64 l)) (some g) := by
 subst hn
 have := World.ownsRow.stored h j (.int .i64 l)
 refine ⟨?_, this.2⟩
 unfold OL
 rw [List.length_set, List.map_set]
 exact this.1
theorem grownBy_trans {a b c : World} {row : Option Nat} (h : a.grownBy b row) (k : b.grownBy c row) : a.grownBy c row :=
 ⟨k.os.trans h.os, k.tape.trans h.tape, k.output.trans h.output, Nat.le_trans h.size k.size, fun i hi hne => (k.block i (Nat.lt_of_lt_of_le hi h.size) hne).trans (h.block i hi hne)⟩
theorem grownBy_below {a b : World} (h : Below a.heap.size a b) (row : Option Nat) : a.grownBy b row := ⟨h.os, h.tape, h.output, h.size, fun i hi _ => h.block i hi⟩
theorem below_grownBy {a b : World} (h : a.grownBy b none) : Below a.heap.size a b := ⟨h.os, h.tape, h.output, h.size, fun i hi => h.block i hi (by simp)⟩
theorem gcell {W w1 : World} {g : Nat} (h : W.grownBy w1 (some g)) : (∀ b o, b < W.heap.size → b ≠ g → w1.cell? ⟨b, o, none⟩ = W.cell? ⟨b, o, none⟩) ∧ (∀ b o, b < W.heap.size → b ≠ g → w1.frozen? ⟨b, o, none⟩ = W.frozen? ⟨b, o, none⟩) :=
 ⟨fun b o hb hne => World.cell?_of_block (w := W) (h.block b hb (by simpa using hne)), fun b o hb hne => World.frozen?_of_block (w := W) (h.block b hb (by simpa using hne))⟩
structure Loc (w wr : World) (row : Option Nat) (l : List Obj) : Prop where
 grown : w.grownBy wr row
 objs : ∀ i, i < l.length → wr.heap[w.heap.size + i]? = l[i]?
 size : w.heap.size + l.length ≤ wr.heap.size
theorem Loc.two (w : World) (a b : Obj) (row : Option Nat) : Loc w ((w.alloc a).alloc b) row [a, b] :=
 ⟨grownBy_trans (World.grownBy_alloc _ _ _) (World.grownBy_alloc _ _ _), fun i hi => by
  match i, hi with
  | 0, _ => rw [Nat.add_zero, Below.heap_alloc _ _ _ (by simp)]; exact heap_alloc_new w a
  | 1, _ => have := heap_alloc_new (w.alloc a) b; rw [show (w.alloc a).heap.size = w.heap.size + 1 by simp] at this; exact this, by simp⟩
theorem Loc.one (w : World) (a : Obj) (row : Option Nat) : Loc w (w.alloc a) row [a] :=
 ⟨World.grownBy_alloc _ _ _, fun i hi => by
  match i, hi with
  | 0, _ => exact heap_alloc_new w a, by simp⟩
theorem Loc.next {w wr w' : World} {row : Option Nat} {l : List Obj} (h : Loc w wr row l) (k : wr.grownBy w' row) (hr : ∀ g, row = some g → g < w.heap.size ∨ w.heap.size + l.length ≤ g) : Loc w w' row l :=
 ⟨grownBy_trans h.grown k, fun i hi => by rw [k.block (w.heap.size + i) (by have := h.size; omega) (fun e => by have := hr _ e.symm; omega)]; exact h.objs i hi, Nat.le_trans h.size k.size⟩
theorem below_grow {a b c : World} {row : Option Nat} (h : a.grownBy b none) (k : b.grownBy c row) (hr : ∀ g, row = some g → a.heap.size ≤ g) : a.grownBy c none :=
 ⟨k.os.trans h.os, k.tape.trans h.tape, k.output.trans h.output, Nat.le_trans h.size k.size, fun i hi hne => (k.block i (Nat.lt_of_lt_of_le hi h.size) (fun e => by have := hr i e.symm; omega)).trans (h.block i hi hne)⟩
theorem Loc.step {w wr w1 w2 : World} {row : Option Nat} {l : List Obj} (h : Loc w wr row l) (hb : Below wr.drew.heap.size wr.drew w1) (k : w1.grownBy w2 row) (hr : ∀ g, row = some g → g < w.heap.size ∨ w.heap.size + l.length ≤ g) : Loc w w2 row l :=
 h.next (grownBy_trans (grownBy_below (show Below wr.heap.size wr w1 from ⟨hb.os, hb.tape, hb.output, hb.size, hb.block⟩) row) k) hr
theorem Loc.cell {w wr : World} {row : Option Nat} {l : List Obj} (h : Loc w wr row l) (i : Nat) {cs : Array Value} {e : TypeId} {fz : Nat × Nat} (hl : l[i]? = some (.cells cs e fz)) (o : Nat) : wr.cell? ⟨w.heap.size + i, o, none⟩ = cs[o]? := by
 have := h.objs i (List.getElem?_eq_some_iff.1 hl).1
 rw [hl] at this
 exact cell_of_row wr _ o cs e fz this
theorem Loc.free {w wr : World} {row : Option Nat} {l : List Obj} (h : Loc w wr row l) (i : Nat) {cs : Array Value} {e : TypeId} (hl : l[i]? = some (.cells cs e (0, 0))) (o : Nat) : wr.frozen? ⟨w.heap.size + i, o, none⟩ = false := by
 have := h.objs i (List.getElem?_eq_some_iff.1 hl).1
 rw [hl] at this
 exact frozen_of_row wr _ o cs e this
theorem Loc.anyrow {w wr w' : World} {row : Option Nat} {l : List Obj} (h : Loc w wr none l) (k : wr.grownBy w' row) (hr : ∀ g, row = some g → w.heap.size + l.length ≤ g) : Loc w w' none l :=
 ⟨below_grow (h.grown) k (fun g e => by have := hr g e; omega), fun i hi => by rw [k.block (w.heap.size + i) (by have := h.size; omega) (fun e => by have := hr _ e.symm; omega)]; exact h.objs i hi, Nat.le_trans h.size k.size⟩
theorem Loc.below {w wr : World} {g base : Nat} {l : List Obj} (h : Loc w wr (some g) l) (hg : base ≤ g) (hb : base ≤ w.heap.size) : Below base w wr :=
 (Below.refl base w).grown h.grown hb (fun k hk => by simp at hk; omega)
theorem RS.head {B : Nat} {w : World} {v : Value} {n : Nat} {cs : List Value} (h : RS B w v n cs) : (v = .slice none 0 0 ∧ n = 0 ∧ cs = []) ∨ ∃ ad cap, v = .slice (some ad) n cap ∧ ∀ j u, cs[j]? = some u → w.cell? (ad.add j) = some u := by
 rcases h with h | ⟨b, off, sp, cap, rfl, h1, h2, h3, h4⟩
 ·exact .inl h
 ·refine .inr ⟨_, cap, rfl, fun j u hj => ?_⟩
  have hjl := (List.getElem?_eq_some_iff.1 hj).1
  by_cases hn : 0 < n
  ·obtain ⟨rfl, _, r⟩ := h4 hn
   have e : (⟨b, off, none⟩ : Addr).add j = ⟨b, off + j, none⟩ := by unfold Addr.add; split <;> simp_all
   rw [e, r j hjl]; exact hj
  ·rw [h3 (by omega)] at hjl; simp at hjl
theorem wp_append_rs {P : Program} {o : Oper} {a : Act} {w : World} {K : Act → World → Prop} {Q : Exit → Act → World → Prop}
    (s x : Operand) (t : TypeId) (ho : o.op = Op.call { callee := Callee.builtin Builtin.append, args := #[s, x], argTypes := #[t, t] })
    (base : Nat) (e : TypeId) (i : TypeInfo) (z : Value) (size bytes : Nat) (ht : P.underlying t = some (.slice e)) (hi : P.info? e = some i) (hz : i.zero = some z)
    (hsize : i.size = size) (hby : i.bytes = bytes) (hzs : z.cells.size = size) (hsz : 0 < size)
    (v : Value) (n : Nat) (xs : List Value) (hs : a.eval s = v) (hown : w.ownsRow base e size v n xs)
    (B : Nat) (xv : Value) (hx : a.eval x = xv) (m : Nat) (news : List Value) (hr : RS B w xv m news) (hl : news.length = m * size) (h1 : ∀ u ∈ news, u.oneCell' = true)
    (h63 : n + m ≤ maxLen) (hbytes : (n + m) * bytes ≤ 140737488355328) (hbase : base ≤ w.heap.size)
    (h : ∀ v' w', w'.ownsRow base e size v' (n + m) (xs ++ news) → w.grownBy w' v.ownBlock → K (a.put o.dst v') w') : Oper.wp P o a w K Q := by
  rcases hr.head with ⟨hv, rfl, rfl⟩ | ⟨ad, cap, hv, hc⟩
  · have hrun := run_append_owned_none (P := P) w base t o.type e i size ht hi v n xs hown
    unfold Oper.wp
    simp only [execOp, ho, resolve, invoke, builtin, Sem.run_bind, Sem.run_pure, Result.andThen_ok, List.map_toArray, List.map_cons, List.map_nil, hs, hx, hv, hrun]
    exact h v w (by simpa using hown) ⟨rfl, rfl, rfl, Nat.le_refl _, fun _ _ _ => rfl⟩
  · exact wp_append_own w s x t ho base e i z size bytes ht hi hz hsize hby hzs hsz v n xs hs hown ad m cap news (hx.trans hv) hl hc h1 h63 hbytes hbase (fun v' w' a1 a2 _ => h v' w' a1 a2)
theorem step_append_rs {P : Program} {ops : Array Oper} {o : Oper} {a : Act} {w : World} {K : Act → World → Prop} {Q : Exit → Act → World → Prop} {E : Prop}
    (hg : o.guard = none) (s x : Operand) (t : TypeId) (ho : o.op = Op.call { callee := Callee.builtin Builtin.append, args := #[s, x], argTypes := #[t, t] })
    (base : Nat) (e : TypeId) (i : TypeInfo) (z : Value) (size bytes : Nat) (ht : P.underlying t = some (.slice e)) (hi : P.info? e = some i) (hz : i.zero = some z)
    (hsize : i.size = size) (hby : i.bytes = bytes) (hzs : z.cells.size = size) (hsz : 0 < size)
    (v : Value) (n : Nat) (xs : List Value) (hs : a.eval s = v) (hown : w.ownsRow base e size v n xs)
    (B : Nat) (xv : Value) (hx : a.eval x = xv) (m : Nat) (news : List Value) (hr : RS B w xv m news) (hl : news.length = m * size) (h1 : ∀ u ∈ news, u.oneCell' = true)
    (h63 : n + m ≤ maxLen) (hbytes : (n + m) * bytes ≤ 140737488355328) (hbase : base ≤ w.heap.size)
    (h : ∀ v' w', w'.ownsRow base e size v' (n + m) (xs ++ news) → w.grownBy w' v.ownBlock → K (a.put o.dst v') w') :
    if Region.wanted o (yielded ops a.tmps) = true then Oper.wp P o a w K Q else E := by
  have hw : Region.wanted o (yielded ops a.tmps) = true := by simp [Region.wanted, hg]
  rw [if_pos hw]
  exact wp_append_rs s x t ho base e i z size bytes ht hi hz hsize hby hzs hsz v n xs hs hown B xv hx m news hr hl h1 h63 hbytes hbase h
theorem wpList_append_rs {P : Program} {ops : Array Oper} {rest : List Oper} {o : Oper} {a : Act} {w : World} {Q : Exit → Act → World → Prop}
    (hg : o.guard = none) (s x : Operand) (t : TypeId) (ho : o.op = Op.call { callee := Callee.builtin Builtin.append, args := #[s, x], argTypes := #[t, t] })
    (base : Nat) (e : TypeId) (i : TypeInfo) (z : Value) (size bytes : Nat) (ht : P.underlying t = some (.slice e)) (hi : P.info? e = some i) (hz : i.zero = some z)
    (hsize : i.size = size) (hby : i.bytes = bytes) (hzs : z.cells.size = size) (hsz : 0 < size)
    (v : Value) (n : Nat) (xs : List Value) (hs : a.eval s = v) (hown : w.ownsRow base e size v n xs)
    (B : Nat) (xv : Value) (hx : a.eval x = xv) (m : Nat) (news : List Value) (hr : RS B w xv m news) (hl : news.length = m * size) (h1 : ∀ u ∈ news, u.oneCell' = true)
    (h63 : n + m ≤ maxLen) (hbytes : (n + m) * bytes ≤ 140737488355328) (hbase : base ≤ w.heap.size)
    (h : ∀ v' w', w'.ownsRow base e size v' (n + m) (xs ++ news) → w.grownBy w' v.ownBlock → wpList P ops Q rest (a.put o.dst v') w') : wpList P ops Q (o :: rest) a w :=
  wpList_plain hg fun _ hK => wp_append_rs s x t ho base e i z size bytes ht hi hz hsize hby hzs hsz v n xs hs hown B xv hx m news hr hl h1 h63 hbytes hbase fun v' w' h2 h3 => hK _ _ (h v' w' h2 h3)
theorem ints_oneCell' (xs : List Int) : ∀ u ∈ xs.map (Value.int .i64), u.oneCell' = true := by
 intro u hu; obtain ⟨x, _, rfl⟩ := List.mem_map.1 hu; rfl
theorem owns_empty {w : World} {e base g : Nat} {size : Nat} (hg : w.heap[g]? = some (.cells #[] e (0, 0))) (hb : base ≤ g) : w.ownsRow base e size (.slice (some ⟨g, 0, none⟩) 0 0) 0 [] :=
 ⟨by simp, .inr ⟨g, 0, #[], rfl, hb, hg, Nat.le_refl _, by unfold maxLen; omega, by simp, by simp⟩⟩
theorem Loc.below0 {w wr w' : World} {l : List Obj} {row : Option Nat} (h : Loc w wr none l) (k : wr.grownBy w' row) (hr : ∀ g, row = some g → w.heap.size ≤ g := by intro g hg; first | (simp [Value.ownBlock] at hg; omega) | simp at hg) : Below w.heap.size w w' :=
 (below_grownBy h.grown).grown k h.grown.size hr
theorem run_slice3 {P : Program} (w : World) (t e : TypeId) (i : TypeInfo) (ht : P.underlying t = some (.slice e)) (hi : P.info? e = some i) (hs : i.size = 1) (b len cap l n : Nat) (el eh : Int) (h1 : el = l) (h2 : eh = (l : Int) + n) (hle : l + n ≤ cap) (hn : 0 < n) :
  (Instr.slice t (.slice (some ⟨b, 0, none⟩) len cap) (some (.int .i64 el)) (some (.int .i64 eh)) (some (.int .i64 eh))).run P w = .ok (.slice (some ⟨b, l, none⟩) n n) w := by
 subst h1 h2
 have a1 : ∀ code, (Instr.sliceBound (.int .i64 ((l : Int) + n)) cap code).run P w = .ok (l + n) w := fun code => by
  rw [run_sliceBound _ _ _ _ _ (by omega) (by omega)]; congr 1
 have a2 : ∀ code, (Instr.sliceBound (.int .i64 ((l : Int) + n)) (l + n) code).run P w = .ok (l + n) w := fun code => by
  rw [run_sliceBound _ _ _ _ _ (by omega) (by omega)]; congr 1
 have a3 : ∀ code, (Instr.sliceBound (.int .i64 (l : Int)) (l + n) code).run P w = .ok l w := fun code => by
  rw [run_sliceBound _ _ _ _ _ (by omega) (by omega)]; congr 1
 have hsz : (sizeOf e).run P w = .ok 1 w := by simp [sizeOf, typeInfo, hi, hs]
 have hadd : (⟨b, 0, none⟩ : Addr).add (l * 1) = ⟨b, l, none⟩ := by unfold Addr.add; split <;> simp_all
 simp only [Instr.slice, Instr.sliceBounds, Sem.run_bind, run_underlying ht, Result.andThen_ok, a1, a2, a3, hsz, Sem.run_pure, Option.isSome_some, if_true]
 rw [if_neg (by omega), Option.map_some, hadd, Nat.add_sub_cancel_left]
theorem obj_kept {w w' : World} {base e size : Nat} {v : Value} {n : Nat} {xs : List Value} {o : Obj} {k : Nat} (ho : w.ownsRow base e size v n xs) (h : w.grownBy w' v.ownBlock) (hb : w.heap[k]? = some o) (hk : k < base) : w'.heap[k]? = some o := by
 rw [h.block k (Array.getElem?_eq_some_iff.1 hb).1 (fun e => by have := ho.lt k e.symm; omega)]
 exact hb
theorem rs_one (w : World) (u : Value) (e : Nat) : RS (w.heap.size + 1) (w.alloc (.cells #[u] e)).drew (.slice (some ⟨w.heap.size, 0, none⟩) 1 1) 1 [u] :=
 .inr ⟨_, 0, none, 1, rfl, Nat.le_refl _, by unfold maxLen; omega, fun h => by omega, fun _ => ⟨rfl, by omega, fun k hk => by
  have hk' : k = 0 := by simpa using hk
  subst hk'
  exact cell_of_row (w.alloc (.cells #[u] e)) _ 0 #[u] e (0, 0) (heap_alloc_new w _)⟩⟩
theorem owns_mono {e base base' size : Nat} {w : World} {v : Value} {n : Nat} {xs : List Value} (h : w.ownsRow base e size v n xs) (hb : base' ≤ base) : w.ownsRow base' e size v n xs := by
 refine ⟨h.1, ?_⟩
 rcases h.2 with h2 | ⟨g, cap, cur, h2, h3, h4⟩
 ·exact .inl h2
 ·exact .inr ⟨g, cap, cur, h2, by omega, h4⟩
theorem own_set2 {e base size b : Nat} {w : World} {v : Value} {n : Nat} {xs : List Value} (h : w.ownsRow base e size v n xs) (hb : b < base) (u0 u1 : Value) : ((w.setCell ⟨b, 0, none⟩ u0).setCell ⟨b, 1, none⟩ u1).ownsRow base e size v n xs :=
 ownsRow_setCell_below (ownsRow_setCell_below h hb _) hb _
theorem own_set3 {e base size b : Nat} {w : World} {v : Value} {n : Nat} {xs : List Value} (h : w.ownsRow base e size v n xs) (hb : b < base) (u0 u1 u2 : Value) : (((w.setCell ⟨b, 0, none⟩ u0).setCell ⟨b, 1, none⟩ u1).setCell ⟨b, 2, none⟩ u2).ownsRow base e size v n xs :=
 ownsRow_setCell_below (own_set2 h hb _ _) hb _
theorem ol_cell {e base : Nat} {w : World} {g n cap : Nat} {xs : List Int} (h : OL e base w (.slice (some ⟨g, 0, none⟩) n cap) xs) {k : Nat} (hk : k < xs.length) :
  w.cell? ⟨g, k, none⟩ = some (.int .i64 (gi xs k)) ∧ w.frozen? ⟨g, k, none⟩ = false := by
 obtain ⟨g', cap', e1, _, _, _, e2⟩ := h.open (by omega)
 simp only [Value.slice.injEq, Option.some.injEq, Addr.mk.injEq, and_true] at e1
 rw [e1.1]; exact e2 k hk
theorem loc_row {w : World} {g k : Nat} (h : g < w.heap.size) : ∀ r, some g = some r → r < w.heap.size ∨ w.heap.size + k ≤ r := fun r e => by cases e; exact .inl h
theorem heap_new3 (w : World) (a b c : Obj) : (((w.alloc a).alloc b).alloc c).heap[w.heap.size + 1 + 1]? = some c := by
 have := heap_alloc_new ((w.alloc a).alloc b) c
 rwa [show ((w.alloc a).alloc b).heap.size = w.heap.size + 1 + 1 by simp] at this
theorem grownBy_drew (w : World) (row : Option Nat) : w.grownBy w.drew row := ⟨rfl, rfl, rfl, Nat.le_refl _, fun _ _ _ => rfl⟩
theorem owns_form {w : World} {base e size : Nat} {v : Value} {n : Nat} {xs : List Value} (h : w.ownsRow base e size v n xs) : ∃ ao c, v = .slice ao n c := by
 rcases h.2 with ⟨rfl, rfl⟩ | ⟨g, cap, cur, rfl, _⟩ <;> exact ⟨_, _, rfl⟩
theorem below_of_loc {w wr : World} {g : Nat} {l : List Obj} (h : Loc w wr (some g) l) (hg : w.heap.size ≤ g) : Below w.heap.size w wr := h.below hg (Nat.le_refl _)
theorem keepb {w w1 : World} {b o : Nat} {v : Value} (hc : w.cell? ⟨b, o, none⟩ = some v) (h : Below w.heap.size w w1) : w1.cell? ⟨b, o, none⟩ = some v := by
 rw [← hc]; exact h.cell (p := ⟨b, o, none⟩) (World.block_lt_of_cell? w _ hc)
theorem keepg {w w1 : World} {b o g : Nat} {v : Value} (hc : w.cell? ⟨b, o, none⟩ = some v) (h : w.grownBy w1 (some g)) (hne : b ≠ g) : w1.cell? ⟨b, o, none⟩ = some v :=
 h.cell hc (by simpa using hne)
theorem bcell {W w1 : World} {B : Nat} (hb : Below B W w1) : (∀ b o, b < B → w1.cell? ⟨b, o, none⟩ = W.cell? ⟨b, o, none⟩) ∧ (∀ b o, b < B → w1.frozen? ⟨b, o, none⟩ = W.frozen? ⟨b, o, none⟩) :=
 ⟨fun b o h => hb.cell (p := ⟨b, o, none⟩) h, fun b o h => hb.frozen (p := ⟨b, o, none⟩) h⟩
theorem below_drewN (w : World) (n : Nat) : Below w.heap.size w (w.drewN n) := ⟨rfl, rfl, rfl, Nat.le_refl _, fun _ _ => rfl⟩
theorem bdn {B : Nat} {a w : World} (h : Below B a w) (n : Nat) : Below B a (w.drewN n) := h.trans ⟨rfl, rfl, rfl, Nat.le_refl _, fun _ _ => rfl⟩
theorem ret_int {k : IntKind} {a b : Int} (h : a = b) : Ending.returned (.int k a) = .returned (.int k b) := by rw [h]
theorem ret_bool {a b : Bool} (h : a = b) : Ending.returned (.bool a) = .returned (.bool b) := by rw [h]
def vld (l : Int) : Bool := decide (l = 1099511627776 ∨ (-2147483648 ≤ l ∧ l ≤ 2147483649))
def lsum (a b : Int) : Int := if a = 1099511627776 ∨ b = 1099511627776 then 1099511627776 else wrap64 (a + b - if a % 2 = 0 ∧ b % 2 = 0 then 0 else 1)
theorem ofInt_toNat64 (x : Int) : ((BitVec.ofInt 64 x).toNat : Int) = x % 18446744073709551616 := by
 rw [BitVec.toNat_ofInt]
 have : (x % 18446744073709551616) ≥ 0 := Int.emod_nonneg _ (by omega)
 simp; omega
theorem or_mod2 (x y : Nat) : (x ||| y) % 2 = if x % 2 = 0 ∧ y % 2 = 0 then 0 else 1 := by
 have h : (x ||| y) % 2 ^ 1 = (x % 2 ^ 1) ||| (y % 2 ^ 1) := Nat.or_mod_two_pow
 simp only [Nat.pow_one] at h
 rw [h]
 rcases Nat.mod_two_eq_zero_or_one x with hx | hx <;> rcases Nat.mod_two_eq_zero_or_one y with hy | hy <;> rw [hx, hy] <;> rfl
theorem bits_or_one (a b : Int) : bits .and .i64 (bits .or .i64 a b) 1 = if a % 2 = 0 ∧ b % 2 = 0 then 0 else 1 := by
 show IntKind.i64.wrap ((BitVec.ofInt 64 (IntKind.i64.wrap ((BitVec.ofInt 64 a ||| BitVec.ofInt 64 b).toNat : Int)) &&& BitVec.ofInt 64 1).toNat : Int) = _
 rw [BitVec.toNat_and]
 have h1 : (BitVec.ofInt 64 1).toNat = 1 := by decide
 rw [h1, Nat.and_one_is_mod]
 have hw := ofInt_toNat64 (IntKind.i64.wrap ((BitVec.ofInt 64 a ||| BitVec.ofInt 64 b).toNat : Int))
 have ha := ofInt_toNat64 a
 have hb := ofInt_toNat64 b
 have hor : (BitVec.ofInt 64 a ||| BitVec.ofInt 64 b).toNat = (BitVec.ofInt 64 a).toNat ||| (BitVec.ofInt 64 b).toNat := BitVec.toNat_or ..
 have hm := or_mod2 (BitVec.ofInt 64 a).toNat (BitVec.ofInt 64 b).toNat
 rw [← hor] at hm
 generalize (BitVec.ofInt 64 a ||| BitVec.ofInt 64 b).toNat = r at *
 generalize (BitVec.ofInt 64 (IntKind.i64.wrap (r : Int))).toNat = q at *
 generalize (BitVec.ofInt 64 a).toNat = x at *
 generalize (BitVec.ofInt 64 b).toNat = y at *
 rw [IntKind.wrap_i64] at hw
 have hq : q % 2 = r % 2 := by omega
 rw [hq, hm]
 have e1 : (x % 2 = 0 ↔ a % 2 = 0) := by omega
 have e2 : (y % 2 = 0 ↔ b % 2 = 0) := by omega
 simp only [e1, e2]
 split <;> rfl
theorem tmod2_zero (a : Int) : a.tmod 2 = 0 ↔ a % 2 = 0 := by rw [← Int.dvd_iff_tmod_eq_zero, Int.dvd_iff_emod_eq_zero]
theorem lsum_nl (a b : Int) (h : a = 1099511627776 ∨ b = 1099511627776) : lsum a b = 1099511627776 := by unfold lsum; rw [if_pos h]
theorem lsum_bits (a b : Int) (h : ¬ a = 1099511627776) (h' : ¬ b = 1099511627776) : wrap64 (wrap64 (a + b) - bits .and .i64 (bits .or .i64 a b) 1) = lsum a b := by
 unfold lsum; rw [if_neg (by omega), bits_or_one]; split <;> unfold wrap64 <;> omega
theorem lsum_odd (a b : Int) (h : ¬ a = 1099511627776) (h' : ¬ b = 1099511627776) (k : ¬ a.tmod 2 = 0 ∨ ¬ b.tmod 2 = 0) : wrap64 (wrap64 (a + b) - 1) = lsum a b := by
 rw [tmod2_zero, tmod2_zero] at k
 unfold lsum; rw [if_neg (by omega), if_neg (by omega)]; unfold wrap64; omega
theorem lsum_even (a b : Int) (h : ¬ a = 1099511627776) (h' : ¬ b = 1099511627776) (k : a.tmod 2 = 0) (k' : b.tmod 2 = 0) : wrap64 (a + b) = lsum a b := by
 rw [tmod2_zero] at k k'
 unfold lsum; rw [if_neg (by omega), if_pos ⟨k, k'⟩]; unfold wrap64; omega
theorem vld_iff (l : Int) : vld l = true ↔ (l = 1099511627776 ∨ (-2147483648 ≤ l ∧ l ≤ 2147483649)) := by unfold vld; simp
set_option linter.unusedVariables false
structure Cd (α : Type) where
 sz : Nat
 cells : α → List Value
 len : ∀ x, (cells x).length = sz
 zero : α
def RX {α : Type} (c : Cd α) (B : Nat) (w : World) (v : Value) (xs : List α) : Prop := RS B w v xs.length (xs.flatMap c.cells)
def OE {α : Type} (c : Cd α) (t base : Nat) (w : World) (v : Value) (xs : List α) : Prop := w.ownsRow base t c.sz v xs.length (xs.flatMap c.cells)
def ge {α : Type} (c : Cd α) (xs : List α) (k : Nat) : α := xs.getD k c.zero
theorem ge_of {α : Type} (c : Cd α) {xs : List α} {k : Nat} (hk : k < xs.length) : ge c xs k = xs[k] := by unfold ge; rw [List.getD_eq_getElem?_getD, List.getElem?_eq_getElem hk]; rfl
theorem ge_mem {α : Type} (c : Cd α) {xs : List α} {k : Nat} (hk : k < xs.length) : ge c xs k ∈ xs := by rw [ge_of c hk]; exact List.getElem_mem hk
theorem flatE {α : Type} (c : Cd α) : ∀ (xs : List α) (k j : Nat), k < xs.length → j < c.sz → (xs.flatMap c.cells)[k * c.sz + j]? = (c.cells (ge c xs k))[j]?
  | [], k, j, h, _ => by simp at h
  | x :: xs, 0, j, _, hj => by
    rw [List.flatMap_cons, Nat.zero_mul, Nat.zero_add, List.getElem?_append_left (by rw [c.len]; exact hj)]
    rfl
  | x :: xs, k + 1, j, h, hj => by
    have e : (k + 1) * c.sz + j = c.sz + (k * c.sz + j) := by rw [Nat.add_mul]; omega
    rw [List.flatMap_cons, List.getElem?_append_right (by rw [c.len, e]; omega), c.len, e, Nat.add_sub_cancel_left, flatE c xs k j (by simpa using h) hj]
    rfl
theorem flatE_len {α : Type} (c : Cd α) (xs : List α) : (xs.flatMap c.cells).length = xs.length * c.sz := by
 induction xs with
 | nil => simp
 | cons x xs ih => rw [List.flatMap_cons, List.length_append, ih, c.len, List.length_cons, Nat.add_mul, Nat.one_mul, Nat.add_comm]
theorem RX.keep {α : Type} {c : Cd α} {B : Nat} {w w' : World} {v : Value} {xs : List α} (h : RX c B w v xs) (hb : Below B w w') : RX c B w' v xs := RS.keep h hb
theorem RX.keepb {α : Type} {c : Cd α} {w w' : World} {v : Value} {xs : List α} (h : RX c w.heap.size w v xs) (hb : Below w.heap.size w w') : RX c w'.heap.size w' v xs := (RS.keep h hb).mono hb.size
theorem RX.mono {α : Type} {c : Cd α} {B B' : Nat} {w : World} {v : Value} {xs : List α} (h : RX c B w v xs) (hb : B ≤ B') : RX c B' w v xs := RS.mono h hb
theorem RX.nil {α : Type} (c : Cd α) (B : Nat) (w : World) : RX c B w (.slice none 0 0) [] := .inl ⟨rfl, rfl, rfl⟩
theorem RX.open {α : Type} {c : Cd α} {B : Nat} {w : World} {v : Value} {xs : List α} (h : RX c B w v xs) :
  ∃ ao cap, v = .slice ao xs.length cap ∧ xs.length ≤ 9223372036854775807 ∧ (0 < xs.length → ∃ b off, ao = some ⟨b, off, none⟩ ∧ b < B ∧ ∀ k j, k < xs.length → j < c.sz → w.cell? ⟨b, off + (k * c.sz + j), none⟩ = (c.cells (ge c xs k))[j]?) := by
 have hl := RS.le h
 rcases h with ⟨rfl, h1, h2⟩ | ⟨b, off, sp, cap, rfl, h1, h2, h3, h4⟩
 ·exact ⟨none, 0, by rw [h1], hl, fun h => by omega⟩
 ·refine ⟨_, cap, rfl, hl, fun hn => ?_⟩
  obtain ⟨rfl, q, r⟩ := h4 hn
  refine ⟨b, off, rfl, q, fun k j hk hj => ?_⟩
  have hlt : k * c.sz + j < xs.length * c.sz := by
   have := Nat.mul_le_mul_right c.sz (show k + 1 ≤ xs.length by omega)
   rw [Nat.add_mul, Nat.one_mul] at this
   omega
  rw [r (k * c.sz + j) (by rw [flatE_len]; exact hlt), flatE c xs k j hk hj]
theorem OE.re {α : Type} {c : Cd α} {t base : Nat} {w : World} {v : Value} {xs : List α} (hs : 0 < c.sz) (h : OE c t base w v xs) : RX c w.heap.size w v xs := by
 rcases h.2 with ⟨rfl, h0⟩ | ⟨g, cap, cur, rfl, hb, hg, hnc, hcm, hcs, ht⟩
 ·exact .inl ⟨rfl, h0, by rw [List.eq_nil_of_length_eq_zero h0]; rfl⟩
 ·refine .inr ⟨g, 0, none, cap, rfl, hnc, hcm, fun h0 => by rw [List.eq_nil_of_length_eq_zero h0]; rfl, fun _ => ⟨rfl, (Array.getElem?_eq_some_iff.1 hg).1, fun k hk => ?_⟩⟩
  have := h.cellAt k (by rw [flatE_len] at hk; exact hk)
  rw [Nat.zero_add]; exact this
theorem OE.nil {α : Type} (c : Cd α) (t base : Nat) (w : World) : OE c t base w (.slice none 0 0) [] := World.ownsRow_nil _ _ _ _
theorem OE.kept {α : Type} {c : Cd α} {t base : Nat} {w w' : World} {v : Value} {xs : List α} {row : Option Nat} (h : OE c t base w v xs) (hg : w.grownBy w' row) (hne : v.ownBlock = none ∨ v.ownBlock ≠ row) : OE c t base w' v xs := World.ownsRow.kept h hg hne
theorem OE.keepw {α : Type} {c : Cd α} {t base : Nat} {w w' : World} {v : Value} {xs : List α} (h : OE c t base w v xs) (hb : Below w.heap.size w w') : OE c t base w' v xs :=
 World.ownsRow.kept h (grownBy_below hb none) (by cases hh : v.ownBlock with | none => exact .inl rfl | some b => exact .inr (by simp))
theorem OE.lower {α : Type} {c : Cd α} {t base base' : Nat} {w : World} {v : Value} {xs : List α} (h : OE c t base w v xs) (hb : base' ≤ base) : OE c t base' w v xs := owns_mono h hb
end Go.Proofs.YtfphlpglgcmljaaGreat
