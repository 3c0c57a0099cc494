/- Part of the proof of priced_covers_proved: Base, RatP, Lim, Fw, WidP, Rat. -/
import Derived.Test.YtfphlpglgcmljaaGreatRows
import Derived.WalkKit
import Derived.WalkSpells
import Derived.WalkLawsBesides
import Derived.Lib.Hide
import Derived.Deep.QuietTactic
import Derived.BigQuiet
namespace Go.Proofs.YtfphlpglgcmljaaGreat
open Go.RowKit
def RS (B : Nat) (w : World) (v : Value) (n : Nat) (cs : List Value) : Prop :=
 (v = .slice none 0 0 ∧ n = 0 ∧ cs = []) ∨
 ∃ b off sp cap, v = .slice (some ⟨b, off, sp⟩) n cap ∧ n ≤ cap ∧ cap ≤ maxLen ∧ (n = 0 → cs = []) ∧
  (0 < n → sp = none ∧ b < B ∧ ∀ k, k < cs.length → w.cell? ⟨b, off + k, none⟩ = cs[k]?)
def RL (B : Nat) (w : World) (v : Value) (xs : List Int) : Prop := RS B w v xs.length (xs.map (Value.int .i64))
theorem RS.keep {B : Nat} {w w' : World} {v : Value} {n : Nat} {cs : List Value} (h : RS B w v n cs) (hb : Below B w w') : RS B w' v n cs := by
 rcases h with h | ⟨b, off, sp, cap, rfl, h1, h2, h3, h4⟩
 ·exact .inl h
 ·refine .inr ⟨b, off, sp, cap, rfl, h1, h2, h3, fun hn => ?_⟩
  obtain ⟨p, q, r⟩ := h4 hn
  exact ⟨p, q, fun k hk => (hb.cell (p := ⟨b, off + k, none⟩) q).trans (r k hk)⟩
theorem RS.mono {B B' : Nat} {w : World} {v : Value} {n : Nat} {cs : List Value} (h : RS B w v n cs) (hb : B ≤ B') : RS B' w v n cs := by
 rcases h with h | ⟨b, off, sp, cap, rfl, h1, h2, h3, h4⟩
 ·exact .inl h
 ·exact .inr ⟨b, off, sp, cap, rfl, h1, h2, h3, fun hn => ⟨(h4 hn).1, by have := (h4 hn).2.1; omega, (h4 hn).2.2⟩⟩
theorem RL.keep {B : Nat} {w w' : World} {v : Value} {xs : List Int} (h : RL B w v xs) (hb : Below B w w') : RL B w' v xs := RS.keep h hb
theorem RL.mono {B B' : Nat} {w : World} {v : Value} {xs : List Int} (h : RL B w v xs) (hb : B ≤ B') : RL B' w v xs := RS.mono h hb
theorem RS.le {B : Nat} {w : World} {v : Value} {n : Nat} {cs : List Value} (h : RS B w v n cs) : n ≤ 9223372036854775807 := by
 rcases h with ⟨_, h, _⟩ | ⟨b, off, sp, cap, _, h1, h2, _⟩
 ·omega
 ·unfold maxLen at h2; omega
def gi (xs : List Int) (k : Nat) : Int := xs.getD k 0
theorem len_set (xs : List Int) (k : Nat) (l : Int) : (xs.set k l).length = xs.length := List.length_set
def imin (x y : Int) : Int := if y < x then y else x
theorem RL.open {B : Nat} {w : World} {v : Value} {xs : List Int} (h : RL B w v xs) :
  ∃ ao cap, v = .slice ao xs.length cap ∧ xs.length ≤ 9223372036854775807 ∧ (0 < xs.length → ∃ b off, ao = some ⟨b, off, none⟩ ∧ b < B ∧ ∀ k, k < xs.length → w.cell? ⟨b, off + k, none⟩ = some (.int .i64 (gi xs k))) := by
 have hl := RS.le h
 rcases h with ⟨rfl, h1, h2⟩ | ⟨b, off, sp, cap, rfl, h1, h2, h3, h4⟩
 ·exact ⟨none, 0, by rw [h1], hl, fun h => by omega⟩
 ·refine ⟨_, cap, rfl, hl, fun hn => ?_⟩
  obtain ⟨rfl, q, r⟩ := h4 hn
  refine ⟨b, off, rfl, q, fun k hk => ?_⟩
  rw [r k (by simpa using hk)]
  simp [gi, hk]
theorem RL_of_owns {w : World} {base e : Nat} {v : Value} {n : Nat} {xs : List Int} (h : w.ownsRow base e 1 v n (xs.map (Value.int .i64))) : RL w.heap.size w v xs ∧ n = xs.length := by
 have hn : n = xs.length := by have := h.1; simpa using this.symm
 refine ⟨?_, hn⟩
 subst hn
 rcases h.2 with ⟨rfl, h0⟩ | ⟨g, cap, cur, rfl, hb, hg, hnc, hcm, hcs, ht⟩
 ·exact .inl ⟨rfl, h0, by rw [List.map_eq_nil_iff]; exact List.eq_nil_of_length_eq_zero h0⟩
 ·refine .inr ⟨g, 0, none, cap, rfl, hnc, hcm, fun h0 => by rw [List.map_eq_nil_iff]; exact List.eq_nil_of_length_eq_zero h0, fun _ => ⟨rfl, (Array.getElem?_eq_some_iff.1 hg).1, fun k hk => ?_⟩⟩
  have := h.cellAt k (by simpa using hk)
  rw [Nat.zero_add]; exact this
def OL (e base : Nat) (w : World) (v : Value) (xs : List Int) : Prop := w.ownsRow base e 1 v xs.length (xs.map (Value.int .i64))
theorem OL.rl {e base : Nat} {w : World} {v : Value} {xs : List Int} (h : OL e base w v xs) : RL w.heap.size w v xs := (RL_of_owns h).1
theorem OL.open {e base : Nat} {w : World} {v : Value} {xs : List Int} (h : OL e base w v xs) (hp : 0 < xs.length) :
  ∃ g cap, v = .slice (some ⟨g, 0, none⟩) xs.length cap ∧ base ≤ g ∧ g < w.heap.size ∧ xs.length ≤ 9223372036854775807 ∧ ∀ k, k < xs.length → w.cell? ⟨g, k, none⟩ = some (.int .i64 (gi xs k)) ∧ w.frozen? ⟨g, k, none⟩ = false := by
 have hl := RS.le h.rl
 rcases h.2 with ⟨_, h0⟩ | ⟨g, cap, cur, rfl, hb, hg, hnc, hcm, hcs, ht⟩
 ·omega
 ·refine ⟨g, cap, rfl, hb, (Array.getElem?_eq_some_iff.1 hg).1, hl, fun k hk => ⟨?_, World.ownsRow.frozenAt h k⟩⟩
  rw [World.ownsRow.cellAt h k (by simpa using hk)]
  simp [gi, hk]
theorem OL.kept {e base : Nat} {w w' : World} {v : Value} {xs : List Int} {row : Option Nat} (h : OL e base w v xs) (hg : w.grownBy w' row) (hne : v.ownBlock = none ∨ v.ownBlock ≠ row) : OL e base w' v xs := World.ownsRow.kept h hg hne
theorem OL.keepb {e base : Nat} {w w' : World} {v : Value} {xs : List Int} (h : OL e base w v xs) (hb : Below w.heap.size w w') : OL e base w' v xs := World.ownsRow.kept h (row := none) ⟨hb.os, hb.tape, hb.output, hb.size, fun i hi _ => hb.block i hi⟩ (by cases v.ownBlock <;> simp)
theorem bt {a b c : World} (h : Below a.heap.size a b) (k : Below b.heap.size b c) : Below a.heap.size a c := h.trans (k.mono h.size)
theorem RL.keepb {w w' : World} {v : Value} {xs : List Int} (h : RL w.heap.size w v xs) (hb : Below w.heap.size w w') : RL w'.heap.size w' v xs := (h.keep hb).mono hb.size
theorem RL.drew {w : World} {v : Value} {xs : List Int} (h : RL w.heap.size w v xs) : RL w.drew.heap.size w.drew v xs := h
def zdim (r : Int × List Int) (N : Int) : Int := if r.1 = 0 then N else 0
def ZPost (lt base : Nat) (N : Int) (r : Int × List Int) (e : Ending) (w' : World) : Prop :=
 ∃ v', e = .returned (.tuple #[.agg #[.int .i64 (zdim r N), v'], .int .i64 r.1]) ∧ OL lt base w' v' r.2
theorem OL.nil (e base : Nat) (w : World) : OL e base w (.slice none 0 0) [] := World.ownsRow_nil w base e 1
theorem ZPost.ok {lt base : Nat} {N : Int} {r : Int × List Int} {v : Value} {xs : List Int} {w' : World} (h : r = (0, xs)) (ho : OL lt base w' v xs) : ZPost lt base N r (.returned (.tuple #[.agg #[.int .i64 N, v], .int .i64 0])) w' := by
 subst h; exact ⟨_, by simp [zdim], ho⟩
theorem all_take_succ {xs : List Int} {p : Int → Bool} {k : Nat} (h : (xs.take k).all p = true) (hk : k < xs.length) (hp : p (gi xs k) = true) : (xs.take (k + 1)).all p = true := by
 rw [List.take_succ_eq_append_getElem hk, List.all_append, h, Bool.true_and, List.all_cons, List.all_nil, Bool.and_true]
 have e : gi xs k = xs[k] := by simp [gi, hk]
 rw [← e]; exact hp
theorem not_all_of {xs : List Int} {p : Int → Bool} {k : Nat} (hk : k < xs.length) (hp : p (gi xs k) = false) : ¬ xs.all p = true := by
 intro h
 have e : gi xs k = xs[k] := by simp [gi, hk]
 have := List.all_eq_true.1 h xs[k] (List.getElem_mem hk)
 rw [← e, hp] at this; cases this
theorem OL.mono {e base base' : Nat} {w : World} {v : Value} {xs : List Int} (h : OL e base w v xs) (hb : base' ≤ base) : OL e base' w v xs := by
 refine ⟨h.1, ?_⟩
 rcases h.2 with h2 | ⟨g, cap, cur, h2, h3, h4⟩
 ·exact .inl h2
 ·exact .inr ⟨g, cap, cur, h2, by omega, h4⟩
theorem OL.drew {e base : Nat} {w : World} {v : Value} {xs : List Int} (h : OL e base w v xs) : OL e base w.drew v xs := ⟨h.1, h.2⟩
theorem OL.stored {e base : Nat} {w : World} {g n cap : Nat} {xs : List Int} (h : OL e base w (.slice (some ⟨g, 0, none⟩) n cap) xs) (hn : n = xs.length) (j : Nat) (l : Int) :
  OL e base (w.setCell ⟨g, j, none⟩ (.int .i64 l)) (.slice (some ⟨g, 0, none⟩) n cap) (xs.set j l) ∧ w.grownBy (w.setCell ⟨g, j, none⟩ (.int .i64 l)) (some g) := by
 subst hn
 have := World.ownsRow.stored h j (.int .i64 l)
 refine ⟨?_, this.2⟩
 unfold OL
 rw [List.length_set, List.map_set]
 exact this.1
theorem grownBy_trans {a b c : World} {row : Option Nat} (h : a.grownBy b row) (k : b.grownBy c row) : a.grownBy c row :=
 ⟨k.os.trans h.os, k.tape.trans h.tape, k.output.trans h.output, Nat.le_trans h.size k.size, fun i hi hne => (k.block i (Nat.lt_of_lt_of_le hi h.size) hne).trans (h.block i hi hne)⟩
theorem grownBy_below {a b : World} (h : Below a.heap.size a b) (row : Option Nat) : a.grownBy b row := ⟨h.os, h.tape, h.output, h.size, fun i hi _ => h.block i hi⟩
theorem below_grownBy {a b : World} (h : a.grownBy b none) : Below a.heap.size a b := ⟨h.os, h.tape, h.output, h.size, fun i hi => h.block i hi (by simp)⟩
structure Loc (w wr : World) (row : Option Nat) (l : List Obj) : Prop where
 grown : w.grownBy wr row
 objs : ∀ i, i < l.length → wr.heap[w.heap.size + i]? = l[i]?
 size : w.heap.size + l.length ≤ wr.heap.size
theorem Loc.two (w : World) (a b : Obj) (row : Option Nat) : Loc w ((w.alloc a).alloc b) row [a, b] :=
 ⟨grownBy_trans (World.grownBy_alloc _ _ _) (World.grownBy_alloc _ _ _), fun i hi => by
  match i, hi with
  | 0, _ => rw [Nat.add_zero, Below.heap_alloc _ _ _ (by simp)]; exact heap_alloc_new w a
  | 1, _ => have := heap_alloc_new (w.alloc a) b; rw [show (w.alloc a).heap.size = w.heap.size + 1 by simp] at this; exact this, by simp⟩
theorem Loc.one (w : World) (a : Obj) (row : Option Nat) : Loc w (w.alloc a) row [a] :=
 ⟨World.grownBy_alloc _ _ _, fun i hi => by
  match i, hi with
  | 0, _ => exact heap_alloc_new w a, by simp⟩
theorem Loc.next {w wr w' : World} {row : Option Nat} {l : List Obj} (h : Loc w wr row l) (k : wr.grownBy w' row) (hr : ∀ g, row = some g → g < w.heap.size ∨ w.heap.size + l.length ≤ g) : Loc w w' row l :=
 ⟨grownBy_trans h.grown k, fun i hi => by rw [k.block (w.heap.size + i) (by have := h.size; omega) (fun e => by have := hr _ e.symm; omega)]; exact h.objs i hi, Nat.le_trans h.size k.size⟩
theorem below_grow {a b c : World} {row : Option Nat} (h : a.grownBy b none) (k : b.grownBy c row) (hr : ∀ g, row = some g → a.heap.size ≤ g) : a.grownBy c none :=
 ⟨k.os.trans h.os, k.tape.trans h.tape, k.output.trans h.output, Nat.le_trans h.size k.size, fun i hi hne => (k.block i (Nat.lt_of_lt_of_le hi h.size) (fun e => by have := hr i e.symm; omega)).trans (h.block i hi hne)⟩
theorem Loc.step {w wr w1 w2 : World} {row : Option Nat} {l : List Obj} (h : Loc w wr row l) (hb : Below wr.drew.heap.size wr.drew w1) (k : w1.grownBy w2 row) (hr : ∀ g, row = some g → g < w.heap.size ∨ w.heap.size + l.length ≤ g) : Loc w w2 row l :=
 h.next (grownBy_trans (grownBy_below (show Below wr.heap.size wr w1 from ⟨hb.os, hb.tape, hb.output, hb.size, hb.block⟩) row) k) hr
theorem Loc.cell {w wr : World} {row : Option Nat} {l : List Obj} (h : Loc w wr row l) (i : Nat) {cs : Array Value} {e : TypeId} {fz : Nat × Nat} (hl : l[i]? = some (.cells cs e fz)) (o : Nat) : wr.cell? ⟨w.heap.size + i, o, none⟩ = cs[o]? := by
 have := h.objs i (List.getElem?_eq_some_iff.1 hl).1
 rw [hl] at this
 exact cell_of_row wr _ o cs e fz this
theorem Loc.free {w wr : World} {row : Option Nat} {l : List Obj} (h : Loc w wr row l) (i : Nat) {cs : Array Value} {e : TypeId} (hl : l[i]? = some (.cells cs e (0, 0))) (o : Nat) : wr.frozen? ⟨w.heap.size + i, o, none⟩ = false := by
 have := h.objs i (List.getElem?_eq_some_iff.1 hl).1
 rw [hl] at this
 exact frozen_of_row wr _ o cs e this
theorem Loc.anyrow {w wr w' : World} {row : Option Nat} {l : List Obj} (h : Loc w wr none l) (k : wr.grownBy w' row) (hr : ∀ g, row = some g → w.heap.size + l.length ≤ g) : Loc w w' none l :=
 ⟨below_grow (h.grown) k (fun g e => by have := hr g e; omega), fun i hi => by rw [k.block (w.heap.size + i) (by have := h.size; omega) (fun e => by have := hr _ e.symm; omega)]; exact h.objs i hi, Nat.le_trans h.size k.size⟩
theorem Loc.below {w wr : World} {g base : Nat} {l : List Obj} (h : Loc w wr (some g) l) (hg : base ≤ g) (hb : base ≤ w.heap.size) : Below base w wr :=
 (Below.refl base w).grown h.grown hb (fun k hk => by simp at hk; omega)
theorem RS.head {B : Nat} {w : World} {v : Value} {n : Nat} {cs : List Value} (h : RS B w v n cs) : (v = .slice none 0 0 ∧ n = 0 ∧ cs = []) ∨ ∃ ad cap, v = .slice (some ad) n cap ∧ ∀ j u, cs[j]? = some u → w.cell? (ad.add j) = some u := by
 rcases h with h | ⟨b, off, sp, cap, rfl, h1, h2, h3, h4⟩
 ·exact .inl h
 ·refine .inr ⟨_, cap, rfl, fun j u hj => ?_⟩
  have hjl := (List.getElem?_eq_some_iff.1 hj).1
  by_cases hn : 0 < n
  ·obtain ⟨rfl, _, r⟩ := h4 hn
   have e : (⟨b, off, none⟩ : Addr).add j = ⟨b, off + j, none⟩ := by unfold Addr.add; split <;> simp_all
   rw [e, r j hjl]; exact hj
  ·rw [h3 (by omega)] at hjl; simp at hjl
theorem wp_append_rs {P : Program} {o : Oper} {a : Act} {w : World} {K : Act → World → Prop} {Q : Exit → Act → World → Prop}
    (s x : Operand) (t : TypeId) (ho : o.op = Op.call { callee := Callee.builtin Builtin.append, args := #[s, x], argTypes := #[t, t] })
    (base : Nat) (e : TypeId) (i : TypeInfo) (z : Value) (size bytes : Nat) (ht : P.underlying t = some (.slice e)) (hi : P.info? e = some i) (hz : i.zero = some z)
    (hsize : i.size = size) (hby : i.bytes = bytes) (hzs : z.cells.size = size) (hsz : 0 < size)
    (v : Value) (n : Nat) (xs : List Value) (hs : a.eval s = v) (hown : w.ownsRow base e size v n xs)
    (B : Nat) (xv : Value) (hx : a.eval x = xv) (m : Nat) (news : List Value) (hr : RS B w xv m news) (hl : news.length = m * size) (h1 : ∀ u ∈ news, u.oneCell' = true)
    (h63 : n + m ≤ maxLen) (hbytes : (n + m) * bytes ≤ 140737488355328) (hbase : base ≤ w.heap.size)
    (h : ∀ v' w', w'.ownsRow base e size v' (n + m) (xs ++ news) → w.grownBy w' v.ownBlock → K (a.put o.dst v') w') : Oper.wp P o a w K Q := by
  rcases hr.head with ⟨hv, rfl, rfl⟩ | ⟨ad, cap, hv, hc⟩
  · have hrun := run_append_owned_none (P := P) w base t o.type e i size ht hi v n xs hown
    unfold Oper.wp
    simp only [execOp, ho, resolve, invoke, builtin, Sem.run_bind, Sem.run_pure, Result.andThen_ok, List.map_toArray, List.map_cons, List.map_nil, hs, hx, hv, hrun]
    exact h v w (by simpa using hown) ⟨rfl, rfl, rfl, Nat.le_refl _, fun _ _ _ => rfl⟩
  · exact wp_append_own w s x t ho base e i z size bytes ht hi hz hsize hby hzs hsz v n xs hs hown ad m cap news (hx.trans hv) hl hc h1 h63 hbytes hbase (fun v' w' a1 a2 _ => h v' w' a1 a2)
theorem wpList_append_rs {P : Program} {ops : Array Oper} {rest : List Oper} {o : Oper} {a : Act} {w : World} {Q : Exit → Act → World → Prop}
    (hg : o.guard = none) (s x : Operand) (t : TypeId) (ho : o.op = Op.call { callee := Callee.builtin Builtin.append, args := #[s, x], argTypes := #[t, t] })
    (base : Nat) (e : TypeId) (i : TypeInfo) (z : Value) (size bytes : Nat) (ht : P.underlying t = some (.slice e)) (hi : P.info? e = some i) (hz : i.zero = some z)
    (hsize : i.size = size) (hby : i.bytes = bytes) (hzs : z.cells.size = size) (hsz : 0 < size)
    (v : Value) (n : Nat) (xs : List Value) (hs : a.eval s = v) (hown : w.ownsRow base e size v n xs)
    (B : Nat) (xv : Value) (hx : a.eval x = xv) (m : Nat) (news : List Value) (hr : RS B w xv m news) (hl : news.length = m * size) (h1 : ∀ u ∈ news, u.oneCell' = true)
    (h63 : n + m ≤ maxLen) (hbytes : (n + m) * bytes ≤ 140737488355328) (hbase : base ≤ w.heap.size)
    (h : ∀ v' w', w'.ownsRow base e size v' (n + m) (xs ++ news) → w.grownBy w' v.ownBlock → wpList P ops Q rest (a.put o.dst v') w') : wpList P ops Q (o :: rest) a w :=
  wpList_plain hg fun _ hK => wp_append_rs s x t ho base e i z size bytes ht hi hz hsize hby hzs hsz v n xs hs hown B xv hx m news hr hl h1 h63 hbytes hbase fun v' w' h2 h3 => hK _ _ (h v' w' h2 h3)
theorem ints_oneCell' (xs : List Int) : ∀ u ∈ xs.map (Value.int .i64), u.oneCell' = true := by
 intro u hu; obtain ⟨x, _, rfl⟩ := List.mem_map.1 hu; rfl
theorem owns_empty {w : World} {e base g : Nat} {size : Nat} (hg : w.heap[g]? = some (.cells #[] e (0, 0))) (hb : base ≤ g) : w.ownsRow base e size (.slice (some ⟨g, 0, none⟩) 0 0) 0 [] :=
 ⟨by simp, .inr ⟨g, 0, #[], rfl, hb, hg, Nat.le_refl _, by unfold maxLen; omega, by simp, by simp⟩⟩
theorem Loc.below0 {w wr w' : World} {l : List Obj} {row : Option Nat} (h : Loc w wr none l) (k : wr.grownBy w' row) (hr : ∀ g, row = some g → w.heap.size ≤ g := by intro g hg; first | (simp [Value.ownBlock] at hg; omega) | simp at hg) : Below w.heap.size w w' :=
 (below_grownBy h.grown).grown k h.grown.size hr
theorem rs_one (w : World) (u : Value) (e : Nat) : RS (w.heap.size + 1) (w.alloc (.cells #[u] e)).drew (.slice (some ⟨w.heap.size, 0, none⟩) 1 1) 1 [u] :=
 .inr ⟨_, 0, none, 1, rfl, Nat.le_refl _, by unfold maxLen; omega, fun h => by omega, fun _ => ⟨rfl, by omega, fun k hk => by
  have hk' : k = 0 := by simpa using hk
  subst hk'
  exact cell_of_row (w.alloc (.cells #[u] e)) _ 0 #[u] e (0, 0) (heap_alloc_new w _)⟩⟩
theorem owns_mono {e base base' size : Nat} {w : World} {v : Value} {n : Nat} {xs : List Value} (h : w.ownsRow base e size v n xs) (hb : base' ≤ base) : w.ownsRow base' e size v n xs := by
 refine ⟨h.1, ?_⟩
 rcases h.2 with h2 | ⟨g, cap, cur, h2, h3, h4⟩
 ·exact .inl h2
 ·exact .inr ⟨g, cap, cur, h2, by omega, h4⟩
theorem ol_cell {e base : Nat} {w : World} {g n cap : Nat} {xs : List Int} (h : OL e base w (.slice (some ⟨g, 0, none⟩) n cap) xs) {k : Nat} (hk : k < xs.length) :
  w.cell? ⟨g, k, none⟩ = some (.int .i64 (gi xs k)) ∧ w.frozen? ⟨g, k, none⟩ = false := by
 obtain ⟨g', cap', e1, _, _, _, e2⟩ := h.open (by omega)
 simp only [Value.slice.injEq, Option.some.injEq, Addr.mk.injEq, and_true] at e1
 rw [e1.1]; exact e2 k hk
theorem grownBy_drew (w : World) (row : Option Nat) : w.grownBy w.drew row := ⟨rfl, rfl, rfl, Nat.le_refl _, fun _ _ _ => rfl⟩
theorem owns_form {w : World} {base e size : Nat} {v : Value} {n : Nat} {xs : List Value} (h : w.ownsRow base e size v n xs) : ∃ ao c, v = .slice ao n c := by
 rcases h.2 with ⟨rfl, rfl⟩ | ⟨g, cap, cur, rfl, _⟩ <;> exact ⟨_, _, rfl⟩
theorem keepb {w w1 : World} {b o : Nat} {v : Value} (hc : w.cell? ⟨b, o, none⟩ = some v) (h : Below w.heap.size w w1) : w1.cell? ⟨b, o, none⟩ = some v := by
 rw [← hc]; exact h.cell (p := ⟨b, o, none⟩) (World.block_lt_of_cell? w _ hc)
theorem bcell {W w1 : World} {B : Nat} (hb : Below B W w1) : (∀ b o, b < B → w1.cell? ⟨b, o, none⟩ = W.cell? ⟨b, o, none⟩) ∧ (∀ b o, b < B → w1.frozen? ⟨b, o, none⟩ = W.frozen? ⟨b, o, none⟩) :=
 ⟨fun b o h => hb.cell (p := ⟨b, o, none⟩) h, fun b o h => hb.frozen (p := ⟨b, o, none⟩) h⟩
theorem below_drewN (w : World) (n : Nat) : Below w.heap.size w (w.drewN n) := ⟨rfl, rfl, rfl, Nat.le_refl _, fun _ _ => rfl⟩
theorem bdn {B : Nat} {a w : World} (h : Below B a w) (n : Nat) : Below B a (w.drewN n) := h.trans ⟨rfl, rfl, rfl, Nat.le_refl _, fun _ _ => rfl⟩
theorem ret_int {k : IntKind} {a b : Int} (h : a = b) : Ending.returned (.int k a) = .returned (.int k b) := by rw [h]
theorem ret_bool {a b : Bool} (h : a = b) : Ending.returned (.bool a) = .returned (.bool b) := by rw [h]
def vld (l : Int) : Bool := decide (l = 1099511627776 ∨ (-2147483648 ≤ l ∧ l ≤ 2147483649))
def lsum (a b : Int) : Int := if a = 1099511627776 ∨ b = 1099511627776 then 1099511627776 else wrap64 (a + b - if a % 2 = 0 ∧ b % 2 = 0 then 0 else 1)
theorem ofInt_toNat64 (x : Int) : ((BitVec.ofInt 64 x).toNat : Int) = x % 18446744073709551616 := by
 rw [BitVec.toNat_ofInt]
 have : (x % 18446744073709551616) ≥ 0 := Int.emod_nonneg _ (by omega)
 simp; omega
theorem or_mod2 (x y : Nat) : (x ||| y) % 2 = if x % 2 = 0 ∧ y % 2 = 0 then 0 else 1 := by
 have h : (x ||| y) % 2 ^ 1 = (x % 2 ^ 1) ||| (y % 2 ^ 1) := Nat.or_mod_two_pow
 simp only [Nat.pow_one] at h
 rw [h]
 rcases Nat.mod_two_eq_zero_or_one x with hx | hx <;> rcases Nat.mod_two_eq_zero_or_one y with hy | hy <;> rw [hx, hy] <;> rfl
theorem bits_or_one (a b : Int) : bits .and .i64 (bits .or .i64 a b) 1 = if a % 2 = 0 ∧ b % 2 = 0 then 0 else 1 := by
 show IntKind.i64.wrap ((BitVec.ofInt 64 (IntKind.i64.wrap ((BitVec.ofInt 64 a ||| BitVec.ofInt 64 b).toNat : Int)) &&& BitVec.ofInt 64 1).toNat : Int) = _
 rw [BitVec.toNat_and]
 have h1 : (BitVec.ofInt 64 1).toNat = 1 := by decide
 rw [h1, Nat.and_one_is_mod]
 have hw := ofInt_toNat64 (IntKind.i64.wrap ((BitVec.ofInt 64 a ||| BitVec.ofInt 64 b).toNat : Int))
 have ha := ofInt_toNat64 a
 have hb := ofInt_toNat64 b
 have hor : (BitVec.ofInt 64 a ||| BitVec.ofInt 64 b).toNat = (BitVec.ofInt 64 a).toNat ||| (BitVec.ofInt 64 b).toNat := BitVec.toNat_or ..
 have hm := or_mod2 (BitVec.ofInt 64 a).toNat (BitVec.ofInt 64 b).toNat
 rw [← hor] at hm
 generalize (BitVec.ofInt 64 a ||| BitVec.ofInt 64 b).toNat = r at *
 generalize (BitVec.ofInt 64 (IntKind.i64.wrap (r : Int))).toNat = q at *
 generalize (BitVec.ofInt 64 a).toNat = x at *
 generalize (BitVec.ofInt 64 b).toNat = y at *
 rw [IntKind.wrap_i64] at hw
 have hq : q % 2 = r % 2 := by omega
 rw [hq, hm]
 have e1 : (x % 2 = 0 ↔ a % 2 = 0) := by omega
 have e2 : (y % 2 = 0 ↔ b % 2 = 0) := by omega
 simp only [e1, e2]
 split <;> rfl
theorem tmod2_zero (a : Int) : a.tmod 2 = 0 ↔ a % 2 = 0 := by rw [← Int.dvd_iff_tmod_eq_zero, Int.dvd_iff_emod_eq_zero]
theorem lsum_nl (a b : Int) (h : a = 1099511627776 ∨ b = 1099511627776) : lsum a b = 1099511627776 := by unfold lsum; rw [if_pos h]
theorem lsum_bits (a b : Int) (h : ¬ a = 1099511627776) (h' : ¬ b = 1099511627776) : wrap64 (wrap64 (a + b) - bits .and .i64 (bits .or .i64 a b) 1) = lsum a b := by
 unfold lsum; rw [if_neg (by omega), bits_or_one]; split <;> unfold wrap64 <;> omega
theorem lsum_odd (a b : Int) (h : ¬ a = 1099511627776) (h' : ¬ b = 1099511627776) (k : ¬ a.tmod 2 = 0 ∨ ¬ b.tmod 2 = 0) : wrap64 (wrap64 (a + b) - 1) = lsum a b := by
 rw [tmod2_zero, tmod2_zero] at k
 unfold lsum; rw [if_neg (by omega), if_neg (by omega)]; unfold wrap64; omega
theorem lsum_even (a b : Int) (h : ¬ a = 1099511627776) (h' : ¬ b = 1099511627776) (k : a.tmod 2 = 0) (k' : b.tmod 2 = 0) : wrap64 (a + b) = lsum a b := by
 rw [tmod2_zero] at k k'
 unfold lsum; rw [if_neg (by omega), if_pos ⟨k, k'⟩]; unfold wrap64; omega
theorem vld_iff (l : Int) : vld l = true ↔ (l = 1099511627776 ∨ (-2147483648 ≤ l ∧ l ≤ 2147483649)) := by unfold vld; simp
set_option linter.unusedVariables false
def vr (n d : Int) : Bool := decide (1 ≤ d ∧ d ≤ 2147483647 ∧ -2147483647 ≤ n ∧ n ≤ 2147483647 ∧ Nat.gcd n.natAbs d.natAbs = 1)
def mkR (n d : Int) : (Int × Int) × Int :=
 if d = 0 then ((0, 0), 2)
 else if 2147483647 < n.natAbs / Nat.gcd n.natAbs d.natAbs ∨ 2147483647 < d.natAbs / Nat.gcd n.natAbs d.natAbs then ((0, 0), 7)
 else ((if (n < 0 ↔ d < 0) then ((n.natAbs / Nat.gcd n.natAbs d.natAbs : Nat) : Int) else -((n.natAbs / Nat.gcd n.natAbs d.natAbs : Nat) : Int), ((d.natAbs / Nat.gcd n.natAbs d.natAbs : Nat) : Int)), 0)
def addR (a b c d : Int) : (Int × Int) × Int := if vr a b = true ∧ vr c d = true then mkR (a * d + c * b) (b * d) else ((0, 0), 2)
def subR (a b c d : Int) : (Int × Int) × Int := addR a b (wrap64 (-c)) d
def meetR (n d l : Int) : Bool × Int :=
 if vr n d = true ∧ vld l = true then
  if l = 1099511627776 then (true, 0) else if l % 2 = 0 then (decide (n < l / 2 * d), 0) else (decide (n ≤ l / 2 * d), 0)
 else (false, 2)
theorem vr_iff (n d : Int) : vr n d = true ↔ (1 ≤ d ∧ d ≤ 2147483647 ∧ -2147483647 ≤ n ∧ n ≤ 2147483647 ∧ Nat.gcd n.natAbs d.natAbs = 1) := by unfold vr; simp
theorem mkR_ok {n d : Int} (hd : ¬ d = 0) (h : ¬ (2147483647 < n.natAbs / Nat.gcd n.natAbs d.natAbs ∨ 2147483647 < d.natAbs / Nat.gcd n.natAbs d.natAbs)) :
  mkR n d = ((if (n < 0 ↔ d < 0) then ((n.natAbs / Nat.gcd n.natAbs d.natAbs : Nat) : Int) else -((n.natAbs / Nat.gcd n.natAbs d.natAbs : Nat) : Int), ((d.natAbs / Nat.gcd n.natAbs d.natAbs : Nat) : Int)), 0) := by
 unfold mkR; rw [if_neg hd, if_neg h]
theorem addR_yes {a b c d : Int} (h : vr a b = true ∧ vr c d = true) : addR a b c d = mkR (a * d + c * b) (b * d) := by unfold addR; rw [if_pos h]
end Go.Proofs.YtfphlpglgcmljaaGreat
namespace Go.Proofs.YtfphlpglgcmljaaGreat
open Go.RowKit
set_option maxHeartbeats 400000 in
theorem ref_valid (l : Int) (w : World) :
  Calls Tryz.prog 125 #[.int .i64 l] w fun e w' => e = .returned (.bool (vld l)) ∧ w = w' := by
 go_enter Tryz.func125, Tryz.ntmps125
 go_wp2
 all_goals go_ret
 all_goals exact ⟨ret_bool (by rw [Bool.eq_iff_iff, vld_iff]; simp <;> omega), rfl⟩
theorem prog_constant (l : Int) (w : World) :
  Calls Tryz.prog 169 #[.int .i64 l] w fun e w' => e = .returned (.int .i64 (l / 2)) ∧ w = w' := by
 go_enter Tryz.func169, Tryz.ntmps169
 go_wp2
 go_ret
 exact ⟨rfl, rfl⟩
set_option maxHeartbeats 400000 in
theorem prog_valid (l : Int) (w : World) :
  Calls Tryz.prog 132 #[.int .i64 l] w fun e w' => e = .returned (.bool (vld l)) ∧ w = w' := by
 go_enter Tryz.func132, Tryz.ntmps132
 go_wp2_with (go_at_call 169; refine (prog_constant _ _).mono ?_; rintro e w' ⟨rfl, rfl⟩)
 all_goals go_ret
 all_goals exact ⟨ret_bool (by rw [Bool.eq_iff_iff, vld_iff]; simp <;> omega), rfl⟩
set_option maxHeartbeats 400000 in
theorem prog_sum (a b : Int) (w : World) :
    Calls Tryz.prog 157 #[.int .i64 a, .int .i64 b] w fun e w' => e = .returned (.int .i64 (lsum a b)) ∧ w = w' := by
  go_enter Tryz.func157, Tryz.ntmps157
  go_wp2
  all_goals go_ret
  · exact ⟨ret_int (lsum_nl _ _ (.inl ‹_›)).symm, rfl⟩
  · exact ⟨ret_int (lsum_nl _ _ (by have h : (a == 1099511627776) = true ∨ (b == 1099511627776) = true := by assumption
                                    simpa using h)).symm, rfl⟩
  · have h : (a == 1099511627776) = false ∧ (b == 1099511627776) = false := by assumption
    simp at h
    exact ⟨ret_int (lsum_bits _ _ h.1 h.2), rfl⟩
set_option maxHeartbeats 400000 in
theorem ref_sum (a b : Int) (w : World) :
    Calls Tryz.prog 159 #[.int .i64 a, .int .i64 b] w fun e w' => e = .returned (.int .i64 (lsum a b)) ∧ w = w' := by
  go_enter Tryz.func159, Tryz.ntmps159
  go_wp2
  all_goals go_ret
  · exact ⟨ret_int (lsum_nl _ _ (.inl ‹_›)).symm, rfl⟩
  · exact ⟨ret_int (lsum_nl _ _ (by have h : (a == 1099511627776) = true ∨ (b == 1099511627776) = true := by assumption
                                    simpa using h)).symm, rfl⟩
  all_goals
    have h : (a == 1099511627776) = false ∧ (b == 1099511627776) = false := by assumption
    simp at h
    refine ⟨ret_int ?_, rfl⟩
  · have k : (b.tmod 2 != 0) = true := by assumption
    exact lsum_odd _ _ h.1 h.2 (.inr (by simpa using k))
  · have k : (b.tmod 2 != 0) = false := by assumption
    exact lsum_even _ _ h.1 h.2 (by assumption) (by simpa using k)
  · exact lsum_odd _ _ h.1 h.2 (.inl (by assumption))
end Go.Proofs.YtfphlpglgcmljaaGreat
namespace Go.Proofs.YtfphlpglgcmljaaGreat
open Go.RowKit
def fwJ (N k i : Nat) (m : List Int) : Nat → List Int
 | 0 => m
 | j + 1 => (fwJ N k i m j).set (i * (N + 1) + j) (imin (gi (fwJ N k i m j) (i * (N + 1) + j)) (lsum (gi (fwJ N k i m j) (i * (N + 1) + k)) (gi (fwJ N k i m j) (k * (N + 1) + j))))
def fwI (N k : Nat) (m : List Int) : Nat → List Int
 | 0 => m
 | i + 1 => fwJ N k i (fwI N k m i) (N + 1)
def fwK (N : Nat) (m : List Int) : Nat → List Int
 | 0 => m
 | k + 1 => fwI N k (fwK N m k) (N + 1)
structure OkZ (n : Int) (xs : List Int) : Prop where
 lo : 0 ≤ n
 hi : n ≤ 10
 len : xs.length = (n.toNat + 1) * (n.toNat + 1)
 val : ∀ i j, i ≤ n.toNat → j ≤ n.toNat → vld (gi xs (i * (n.toNat + 1) + j)) = true
 diag : ∀ i, i ≤ n.toNat → gi xs (i * (n.toNat + 1) + i) = 1
 row : ∀ j, j ≤ n.toNat → gi xs j ≤ 1
 tri : ∀ i j k, i ≤ n.toNat → j ≤ n.toNat → k ≤ n.toNat → gi xs (i * (n.toNat + 1) + j) ≤ lsum (gi xs (i * (n.toNat + 1) + k)) (gi xs (k * (n.toNat + 1) + j))
open Classical in
/-- What Check returns. -/
noncomputable def okErr (n : Int) (xs : List Int) : Int := if OkZ n xs then 0 else 2
theorem okErr_yes {n : Int} {xs : List Int} (h : OkZ n xs) : okErr n xs = 0 := by unfold okErr; rw [if_pos h]
theorem okErr_no {n : Int} {xs : List Int} (h : ¬ OkZ n xs) : okErr n xs = 2 := by unfold okErr; rw [if_neg h]
structure El (N : Nat) (xs : List Int) (i j : Nat) : Prop where
 val : vld (gi xs (i * (N + 1) + j)) = true
 diag : i = j → gi xs (i * (N + 1) + j) = 1
 row : i = 0 → gi xs (i * (N + 1) + j) ≤ 1
def ElTo (N : Nat) (xs : List Int) (q : Nat) : Prop := ∀ i j, i < q → j ≤ N → El N xs i j
def ElRow (N : Nat) (xs : List Int) (i q : Nat) : Prop := ∀ j, j < q → El N xs i j
def Tr (N : Nat) (xs : List Int) (i j k : Nat) : Prop := gi xs (i * (N + 1) + j) ≤ lsum (gi xs (i * (N + 1) + k)) (gi xs (k * (N + 1) + j))
def Tr1 (N : Nat) (xs : List Int) (q : Nat) : Prop := ∀ i j k, i < q → j ≤ N → k ≤ N → Tr N xs i j k
def Tr2 (N : Nat) (xs : List Int) (i q : Nat) : Prop := ∀ j k, j < q → k ≤ N → Tr N xs i j k
def Tr3 (N : Nat) (xs : List Int) (i j q : Nat) : Prop := ∀ k, k < q → Tr N xs i j k
theorem OkZ.el {N : Nat} {xs : List Int} (h : OkZ N xs) {i j : Nat} (hi : i ≤ N) (hj : j ≤ N) : El N xs i j :=
 ⟨h.val i j hi hj, fun e => by subst e; exact h.diag i hi, fun e => by subst e; have := h.row j hj; rwa [Nat.zero_mul, Nat.zero_add]⟩
theorem OkZ.mk' {N : Nat} {xs : List Int} (hN : N ≤ 10) (hx : xs.length = (N + 1) * (N + 1)) (h1 : ElTo N xs (N + 1)) (h2 : Tr1 N xs (N + 1)) : OkZ N xs where
 lo := by omega
 hi := by omega
 len := by rw [Int.toNat_natCast]; exact hx
 val := fun i j hi hj => by rw [Int.toNat_natCast] at *; exact (h1 i j (by omega) hj).val
 diag := fun i hi => by rw [Int.toNat_natCast] at *; exact (h1 i i (by omega) hi).diag rfl
 row := fun j hj => by rw [Int.toNat_natCast] at *; have := (h1 0 j (by omega) hj).row rfl; rwa [Nat.zero_mul, Nat.zero_add] at this
 tri := fun i j k hi hj hk => by rw [Int.toNat_natCast] at *; exact h2 i j k (by omega) hj hk
theorem El.gt {N : Nat} {xs : List Int} (h : OkZ N xs) {i j k : Nat} (hi : i ≤ N) (hj : j ≤ N) (hk : k ≤ N) : Tr N xs i j k := h.tri i j k (by rw [Int.toNat_natCast]; exact hi) (by rw [Int.toNat_natCast]; exact hj) (by rw [Int.toNat_natCast]; exact hk)
theorem ElTo.succ {N : Nat} {xs : List Int} {q : Nat} (h : ElTo N xs q) (h' : ElRow N xs q (N + 1)) : ElTo N xs (q + 1) := fun i j hi hj => by
 by_cases e : i = q
 ·subst e; exact h' j (by omega)
 ·exact h i j (by omega) hj
theorem ElRow.succ {N : Nat} {xs : List Int} {i q : Nat} (h : ElRow N xs i q) (h' : El N xs i q) : ElRow N xs i (q + 1) := fun j hj => by
 by_cases e : j = q
 ·subst e; exact h'
 ·exact h j (by omega)
theorem Tr1.succ {N : Nat} {xs : List Int} {q : Nat} (h : Tr1 N xs q) (h' : Tr2 N xs q (N + 1)) : Tr1 N xs (q + 1) := fun i j k hi hj hk => by
 by_cases e : i = q
 ·subst e; exact h' j k (by omega) hk
 ·exact h i j k (by omega) hj hk
theorem Tr2.succ {N : Nat} {xs : List Int} {i q : Nat} (h : Tr2 N xs i q) (h' : Tr3 N xs i q (N + 1)) : Tr2 N xs i (q + 1) := fun j k hj hk => by
 by_cases e : j = q
 ·subst e; exact h' k (by omega)
 ·exact h j k (by omega) hk
theorem Tr3.succ {N : Nat} {xs : List Int} {i j q : Nat} (h : Tr3 N xs i j q) (h' : Tr N xs i j q) : Tr3 N xs i j (q + 1) := fun k hk => by
 by_cases e : k = q
 ·subst e; exact h'
 ·exact h k (by omega)
theorem sq_bd (N : Nat) (hN : N ≤ 10) : (0 : Int) ≤ ((N : Int) + 1) * ((N : Int) + 1) ∧ ((N : Int) + 1) * ((N : Int) + 1) ≤ 121 := by
 have h : (N + 1) * (N + 1) ≤ 11 * 11 := Nat.mul_le_mul (by omega) (by omega)
 have e : (((N + 1) * (N + 1) : Nat) : Int) = ((N : Int) + 1) * ((N : Int) + 1) := by push_cast; rfl
 omega
theorem sq_nat (N : Nat) : (((N + 1) * (N + 1) : Nat) : Int) = ((N : Int) + 1) * ((N : Int) + 1) := by push_cast; rfl
theorem idx_lt (N i j : Nat) (hi : i ≤ N) (hj : j ≤ N) : i * (N + 1) + j < (N + 1) * (N + 1) := by
 have := Nat.mul_le_mul_right (N + 1) hi
 rw [Nat.add_mul]; omega
theorem idx_bd (N i : Nat) (hN : N ≤ 10) (hi : i ≤ N) : (0 : Int) ≤ (i : Int) * ((N : Int) + 1) ∧ (i : Int) * ((N : Int) + 1) ≤ 110 := by
 have h : i * (N + 1) ≤ 10 * 11 := Nat.mul_le_mul (by omega) (by omega)
 have e : ((i * (N + 1) : Nat) : Int) = (i : Int) * ((N : Int) + 1) := by push_cast; rfl
 omega
theorem idx_nat (N i j : Nat) : ((i : Int) * ((N : Int) + 1) + (j : Int)).toNat = i * (N + 1) + j := by
 have e : ((i * (N + 1) + j : Nat) : Int) = (i : Int) * ((N : Int) + 1) + j := by push_cast; rfl
 omega
def dimF (n : Int) (xs : List Int) : Bool := decide (0 ≤ n ∧ n ≤ 10 ∧ xs.length = (n.toNat + 1) * (n.toNat + 1) ∧ xs.all vld = true)
theorem dimF_nat {N : Nat} {xs : List Int} (h : dimF N xs = true) : N ≤ 10 ∧ xs.length = (N + 1) * (N + 1) ∧ xs.all vld = true := by
 unfold dimF at h
 simp only [decide_eq_true_eq, Int.toNat_natCast] at h
 exact ⟨by omega, h.2.2⟩
def PRow (N : Nat) (xs : List Int) (i : Nat) : Prop := gi xs (i * (N + 1) + i) = 1 ∧ gi xs i ≤ 1 ∧ ∀ k j, k ≤ N → j ≤ N → Tr N xs i j k
def PTo (N : Nat) (xs : List Int) (q : Nat) : Prop := ∀ i, i < q → PRow N xs i
def PK (N : Nat) (xs : List Int) (i q : Nat) : Prop := ∀ k j, k < q → j ≤ N → Tr N xs i j k
def PJ (N : Nat) (xs : List Int) (i k q : Nat) : Prop := ∀ j, j < q → Tr N xs i j k
theorem PTo.succ {N : Nat} {xs : List Int} {q : Nat} (h : PTo N xs q) (h1 : gi xs (q * (N + 1) + q) = 1) (h2 : gi xs q ≤ 1) (h' : PK N xs q (N + 1)) : PTo N xs (q + 1) := fun i hi => by
 by_cases e : i = q
 ·subst e; exact ⟨h1, h2, fun k j hk hj => h' k j (by omega) hj⟩
 ·exact h i (by omega)
theorem PK.succ {N : Nat} {xs : List Int} {i q : Nat} (h : PK N xs i q) (h' : PJ N xs i q (N + 1)) : PK N xs i (q + 1) := fun k j hk hj => by
 by_cases e : k = q
 ·subst e; exact h' j (by omega)
 ·exact h k j (by omega) hj
theorem PJ.succ {N : Nat} {xs : List Int} {i k q : Nat} (h : PJ N xs i k q) (h' : Tr N xs i q k) : PJ N xs i k (q + 1) := fun j hj => by
 by_cases e : j = q
 ·subst e; exact h'
 ·exact h j (by omega)
theorem gi_mem {xs : List Int} {k : Nat} (hk : k < xs.length) : gi xs k ∈ xs := by
 have e : gi xs k = xs[k] := by simp [gi, hk]
 rw [e]; exact List.getElem_mem hk
theorem vld_gi {xs : List Int} (h : xs.all vld = true) {k : Nat} (hk : k < xs.length) : vld (gi xs k) = true := List.all_eq_true.1 h _ (gi_mem hk)
theorem vld_le {l : Int} (h : vld l = true) : l ≤ 1099511627776 := by rw [vld_iff] at h; omega
theorem PK.skip {N : Nat} {xs : List Int} {i q : Nat} (h : PK N xs i q) (hx : xs.length = (N + 1) * (N + 1)) (hall : xs.all vld = true) (hi : i ≤ N) (hn : gi xs (i * (N + 1) + q) = 1099511627776) : PK N xs i (q + 1) :=
 h.succ fun j hj => by
  unfold Tr
  rw [lsum_nl _ _ (.inl hn)]
  exact vld_le (vld_gi hall (by rw [hx]; exact idx_lt N i j hi (by omega)))
theorem OkZ.of_prog {N : Nat} {xs : List Int} (hN : N ≤ 10) (hx : xs.length = (N + 1) * (N + 1)) (hall : xs.all vld = true) (h : PTo N xs (N + 1)) : OkZ N xs where
 lo := by omega
 hi := by omega
 len := by rw [Int.toNat_natCast]; exact hx
 val := fun i j hi hj => by rw [Int.toNat_natCast] at *; exact vld_gi hall (by rw [hx]; exact idx_lt N i j hi hj)
 diag := fun i hi => by rw [Int.toNat_natCast] at *; exact (h i (by omega)).1
 row := fun j hj => by rw [Int.toNat_natCast] at *; exact (h j (by omega)).2.1
 tri := fun i j k hi hj hk => by rw [Int.toNat_natCast] at *; exact (h i (by omega)).2.2 k j hk hj
theorem OkZ.diagN {N : Nat} {xs : List Int} (h : OkZ N xs) {i : Nat} (hi : i ≤ N) : gi xs (i * (N + 1) + i) = 1 := h.diag i (by rw [Int.toNat_natCast]; exact hi)
theorem OkZ.rowN {N : Nat} {xs : List Int} (h : OkZ N xs) {i : Nat} (hi : i ≤ N) : gi xs i ≤ 1 := h.row i (by rw [Int.toNat_natCast]; exact hi)
theorem all_of_idx {N : Nat} {xs : List Int} (hx : xs.length = (N + 1) * (N + 1)) {p : Int → Bool} (h : ∀ i j, i ≤ N → j ≤ N → p (gi xs (i * (N + 1) + j)) = true) : xs.all p = true := by
 rw [List.all_eq_true]
 intro l hl
 obtain ⟨k, hk, rfl⟩ := List.getElem_of_mem hl
 have e : gi xs k = xs[k] := by simp [gi, hk]
 have h1 : k / (N + 1) ≤ N := by
  have : k / (N + 1) < N + 1 := Nat.div_lt_of_lt_mul (by rw [← hx]; exact hk)
  omega
 have h2 : k % (N + 1) < N + 1 := Nat.mod_lt _ (by omega)
 have h3 := h _ _ h1 (by omega : k % (N + 1) ≤ N)
 rw [Nat.div_add_mod' k (N + 1)] at h3
 rw [← e]; exact h3
theorem OkZ.dim {n : Int} {xs : List Int} (h : OkZ n xs) : dimF n xs = true := by
 unfold dimF
 simp only [decide_eq_true_eq]
 exact ⟨h.lo, h.hi, h.len, all_of_idx h.len h.val⟩
theorem fwJ_len (N k i : Nat) (m : List Int) (n : Nat) : (fwJ N k i m n).length = m.length := by
 induction n with
 | zero => rfl
 | succ n ih => simp [fwJ, ih]
theorem fwI_len (N k : Nat) (m : List Int) (n : Nat) : (fwI N k m n).length = m.length := by
 induction n with
 | zero => rfl
 | succ n ih => simp [fwI, fwJ_len, ih]
end Go.Proofs.YtfphlpglgcmljaaGreat
namespace Go.Proofs.YtfphlpglgcmljaaGreat
open Go.RowKit
def spE (l : Int) : Int := if vld l = false then 2 else if l = 1099511627776 then 4 else 0
def spC (l : Int) : Int := if spE l = 0 then l / 2 else 0
def spS (l : Int) : Bool := if spE l = 0 then decide (l % 2 = 0) else false
def wid (low high : List Int) (i j : Nat) (l : Int) : Int :=
 if l = 1099511627776 then 1099511627776
 else if 1 ≤ i ∧ (gi low (i - 1) = -1 ∨ gi low (i - 1) < l / 2) then 1099511627776
 else if 1 ≤ j ∧ gi high (j - 1) = -1 then (if i = 0 then 1 else 1099511627776)
 else if 1 ≤ j ∧ l / 2 < - gi high (j - 1) then -2 * gi high (j - 1)
 else l
def widAt (N : Nat) (low high : List Int) (xs : List Int) (k : Nat) : Int := if k / (N + 1) = k % (N + 1) then gi xs k else wid low high (k / (N + 1)) (k % (N + 1)) (gi xs k)
theorem gi_of {xs : List Int} {k : Nat} (hk : k < xs.length) : gi xs k = xs[k] := by simp [gi, hk]
theorem ext_gi {xs ys : List Int} (hl : xs.length = ys.length) (h : ∀ k, k < xs.length → gi xs k = gi ys k) : xs = ys := by
 apply List.ext_getElem hl
 intro k h1 h2
 rw [← gi_of h1, ← gi_of h2]; exact h k h1
structure Mid (N : Nat) (low high xs m : List Int) (t : Nat) : Prop where
 len : m.length = xs.length
 done : ∀ k, k < t → k < xs.length → gi m k = widAt N low high xs k
 todo : ∀ k, t ≤ k → gi m k = gi xs k
theorem Mid.start (N : Nat) (low high xs : List Int) : Mid N low high xs xs 0 := ⟨rfl, fun _ h => by omega, fun _ _ => rfl⟩
theorem gi_set_same {m : List Int} {a : Nat} {x : Int} (h : a < m.length) : gi (m.set a x) a = x := by
 rw [gi_of (by rw [List.length_set]; exact h)]; simp
theorem gi_set_ne {m : List Int} {a b : Nat} {x : Int} (h : a ≠ b) : gi (m.set a x) b = gi m b := by
 unfold gi; rw [List.getD_eq_getElem?_getD, List.getD_eq_getElem?_getD, List.getElem?_set_ne h]
theorem div_idx {N i j : Nat} (hj : j ≤ N) : (i * (N + 1) + j) / (N + 1) = i ∧ (i * (N + 1) + j) % (N + 1) = j := by
 constructor
 ·rw [Nat.mul_comm, Nat.mul_add_div (by omega), Nat.div_eq_of_lt (by omega)]; omega
 ·rw [Nat.mul_comm, Nat.mul_add_mod]; exact Nat.mod_eq_of_lt (by omega)
theorem Mid.skip {N : Nat} {low high xs m : List Int} {i : Nat} (h : Mid N low high xs m (i * (N + 1) + i)) (hi : i ≤ N) : Mid N low high xs m (i * (N + 1) + i + 1) where
 len := h.len
 done := fun k hk hx => by
  by_cases e : k = i * (N + 1) + i
  ·subst e
   rw [h.todo _ (Nat.le_refl _)]
   unfold widAt
   rw [(div_idx hi).1, (div_idx hi).2, if_pos rfl]
  ·exact h.done k (by omega) hx
 todo := fun k hk => h.todo k (by omega)
theorem Mid.set {N : Nat} {low high xs m : List Int} {i j : Nat} (h : Mid N low high xs m (i * (N + 1) + j)) (hj : j ≤ N) (hne : i ≠ j) (hx : i * (N + 1) + j < xs.length) :
  Mid N low high xs (m.set (i * (N + 1) + j) (wid low high i j (gi m (i * (N + 1) + j)))) (i * (N + 1) + j + 1) where
 len := by rw [List.length_set]; exact h.len
 done := fun k hk hkx => by
  by_cases e : k = i * (N + 1) + j
  ·subst e
   rw [gi_set_same (by rw [h.len]; exact hx), h.todo _ (Nat.le_refl _)]
   unfold widAt
   rw [(div_idx hj).1, (div_idx hj).2, if_neg hne]
  ·rw [gi_set_ne (Ne.symm e)]; exact h.done k (by omega) hkx
 todo := fun k hk => by rw [gi_set_ne (by omega)]; exact h.todo k (by omega)
structure MidP (N : Nat) (low high xs m : List Int) (t : Nat) : Prop where
 len : m.length = xs.length
 done : ∀ k, k < t → k < xs.length → gi m k = widAt N low high xs k
theorem MidP.step {N : Nat} {low high xs m : List Int} {t : Nat} (h : MidP N low high xs m t) (ht : t < xs.length) {y x : Int} (hx : x = widAt N low high xs t) : MidP N low high xs ((m.set t y).set t x) (t + 1) where
 len := by rw [List.length_set, List.length_set]; exact h.len
 done := fun k hk hkx => by
  by_cases e : k = t
  ·subst e; rw [gi_set_same (by rw [List.length_set, h.len]; exact ht)]; exact hx
  ·rw [gi_set_ne (Ne.symm e), gi_set_ne (Ne.symm e)]; exact h.done k (by omega) hkx
theorem MidP.one {N : Nat} {low high xs m : List Int} {t : Nat} (h : MidP N low high xs m t) (ht : t < xs.length) {x : Int} (hx : x = widAt N low high xs t) : MidP N low high xs (m.set t x) (t + 1) where
 len := by rw [List.length_set]; exact h.len
 done := fun k hk hkx => by
  by_cases e : k = t
  ·subst e; rw [gi_set_same (by rw [h.len]; exact ht)]; exact hx
  ·rw [gi_set_ne (Ne.symm e)]; exact h.done k (by omega) hkx
set_option linter.unusedVariables false
def RE (r : (Int × Int) × Int) (e : Ending) : Prop := e = .returned (.tuple #[.agg #[.int .i64 r.1.1, .int .i64 r.1.2], .int .i64 r.2])
theorem RE.of {r : (Int × Int) × Int} {p q x : Int} (h : r = ((p, q), x)) : RE r (.returned (.tuple #[.agg #[.int .i64 p, .int .i64 q], .int .i64 x])) := by subst h; rfl
set_option linter.unusedVariables false
theorem Loc.push {w wr : World} {row : Option Nat} {l : List Obj} (h : Loc w wr row l) (hs : wr.heap.size = w.heap.size + l.length) (o : Obj) : Loc w (wr.alloc o) row (l ++ [o]) :=
 ⟨grownBy_trans h.grown (World.grownBy_alloc _ _ _), fun i hi => by
  rw [List.length_append, List.length_singleton] at hi
  by_cases e : i < l.length
  ·rw [List.getElem?_append_left e, Below.heap_alloc _ _ _ (by omega)]; exact h.objs i e
  ·obtain rfl : i = l.length := by omega
   rw [List.getElem?_append_right (Nat.le_refl _), Nat.sub_self, ← hs]
   exact heap_alloc_new wr o, by rw [List.length_append, List.length_singleton, World.size_alloc]; omega⟩
def BEm (r : Bool × Int) (e : Ending) : Prop := e = .returned (.tuple #[.bool r.1, .int .i64 r.2])
theorem BEm.of {r : Bool × Int} {b : Bool} {x : Int} (h : r = (b, x)) : BEm r (.returned (.tuple #[.bool b, .int .i64 x])) := by subst h; rfl
end Go.Proofs.YtfphlpglgcmljaaGreat
