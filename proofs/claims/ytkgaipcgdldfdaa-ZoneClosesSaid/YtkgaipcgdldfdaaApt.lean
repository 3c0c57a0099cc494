/- append(s, x...) where the types of both slices differ in name alone. -/
import Derived.Test.YtkgaipcgdldfdaaPt
namespace Go.Proofs.Ytkgaipcgdldfdaa
open Go.RowKit
set_option linter.unusedVariables false

theorem append_types {P : Program} {w : World} {t u e ty : TypeId} (s x : Value) (ht : P.underlying t = some (.slice e)) (hu : P.underlying u = some (.slice e)) :
    (Builtin.append_ #[t, u] ty #[s, x]).run P w = (Builtin.append_ #[t, t] ty #[s, x]).run P w := by
  have h0 : ∀ x : TypeId, (#[t, x] : Array TypeId)[0]? = some t := fun _ => rfl
  have h1 : ∀ x : TypeId, (#[t, x] : Array TypeId)[1]? = some x := fun _ => rfl
  have h2 : (#[s, x] : Array Value)[0]? = some s := rfl
  have h3 : (#[s, x] : Array Value)[1]? = some x := rfl
  unfold Builtin.append_
  simp only [h0, h1, h2, h3, Sem.run_bind, run_underlying ht, Result.andThen_ok]
  cases s <;> simp only [Sem.run_bind, run_underlying ht, run_underlying hu, Result.andThen_ok, Sem.run_pure]
theorem wp_append_types {P : Program} {o : Oper} {a : Act} {w : World} {K : Act → World → Prop} {Q : Exit → Act → World → Prop}
    (s x : Operand) (t u e : TypeId) (ho : o.op = Op.call { callee := Callee.builtin Builtin.append, args := #[s, x], argTypes := #[t, u] })
    (ht : P.underlying t = some (.slice e)) (hu : P.underlying u = some (.slice e))
    (h : Oper.wp P { o with op := Op.call { callee := Callee.builtin Builtin.append, args := #[s, x], argTypes := #[t, t] } } a w K Q) : Oper.wp P o a w K Q := by
  unfold Oper.wp at *
  unfold execOp at *
  simp only [ho, resolve, invoke, builtin, Sem.run_bind, Sem.run_pure, Result.andThen_ok, List.map_toArray, List.map_cons, List.map_nil, append_types _ _ ht hu] at h ⊢
  exact h
/-- append(v, x...), v the call's own and x any slice that can be read, of two types. -/
theorem wpList_append_rs2 {P : Program} {ops : Array Oper} {rest : List Oper} {o : Oper} {a : Act} {w : World} {Q : Exit → Act → World → Prop}
    (hg : o.guard = none) (s x : Operand) (t u : TypeId) (ho : o.op = Op.call { callee := Callee.builtin Builtin.append, args := #[s, x], argTypes := #[t, u] })
    (base : Nat) (e : TypeId) (i : TypeInfo) (z : Value) (size bytes : Nat) (ht : P.underlying t = some (.slice e)) (hu : P.underlying u = some (.slice e)) (hi : P.info? e = some i) (hz : i.zero = some z)
    (hsize : i.size = size) (hby : i.bytes = bytes) (hzs : z.cells.size = size) (hsz : 0 < size)
    (v : Value) (n : Nat) (xs : List Value) (hs : a.eval s = v) (hown : w.ownsRow base e size v n xs)
    (B : Nat) (xv : Value) (hx : a.eval x = xv) (m : Nat) (news : List Value) (hr : RS B w xv m news) (hl : news.length = m * size) (h1 : ∀ u ∈ news, u.oneCell' = true)
    (h63 : n + m ≤ maxLen) (hbytes : (n + m) * bytes ≤ 140737488355328) (hbase : base ≤ w.heap.size)
    (h : ∀ v' w', w'.ownsRow base e size v' (n + m) (xs ++ news) → w.grownBy w' v.ownBlock → wpList P ops Q rest (a.put o.dst v') w') : wpList P ops Q (o :: rest) a w :=
  wpList_plain hg fun _ hK => wp_append_types s x t u e ho ht hu (wp_append_rs s x t rfl base e i z size bytes ht hi hz hsize hby hzs hsz v n xs hs hown B xv hx m news hr hl h1 h63 hbytes hbase fun v' w' h2 h3 => hK _ _ (h v' w' h2 h3))
end Go.Proofs.Ytkgaipcgdldfdaa
