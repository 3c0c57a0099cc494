/- Part of the proof of priced_resets_proved: Fresh. -/
import Derived.Test.YtfphlpglgcmljaaGreatXsLst
namespace Go.Proofs.YtfphlpglgcmljaaGreat
open Go.RowKit
theorem growslice_fits' {m bytes : Nat} (hb : m * bytes ≤ 140737488355328) (hm : 0 < m) : Builtin.nextslicecap (0 + m) 0 * bytes ≤ 281474976710656 := by
 have h := growslice_fits (need := 0 + m) (old := 0) (bytes := bytes) (by omega) (by rw [Nat.zero_add]; exact hb)
 exact h
theorem wp_append_fresh {P : Program} {o : Oper} {a : Act} {w : World} {K : Act → World → Prop} {Q : Exit → Act → World → Prop}
    (s x : Operand) (t : TypeId) (ho : o.op = Op.call { callee := Callee.builtin Builtin.append, args := #[s, x], argTypes := #[t, t] })
    (e : TypeId) (i : TypeInfo) (z : Value) (size bytes : Nat) (ht : P.underlying t = some (.slice e)) (hi : P.info? e = some i) (hz : i.zero = some z)
    (hsize : i.size = size) (hby : i.bytes = bytes) (hzs : z.cells.size = size) (hsz : 0 < size)
    (b : Addr) (hs : a.eval s = .slice (some b) 0 0)
    (B : Nat) (xv : Value) (hx : a.eval x = xv) (m : Nat) (news : List Value) (hr : RS B w xv m news) (hl : news.length = m * size)
    (h63 : m ≤ maxLen) (hbytes : m * bytes ≤ 140737488355328)
    (h : ∀ v' w', RS w'.heap.size w' v' m news → Below w.heap.size w w' → ((∃ ao c, v' = .slice ao m c) ∧ (m = 0 ∨ v'.ownBlock = some w.heap.size)) → K (a.put o.dst v') w') : Oper.wp P o a w K Q := by
  subst hsize
  subst hby
  by_cases hm : m = 0
  · subst hm
    have hn : news = [] := List.eq_nil_of_length_eq_zero (by simpa using hl)
    subst hn
    have hrun : (Builtin.append_ #[t, t] o.type #[.slice (some b) 0 0, xv]).run P w = .ok (.slice (some b) 0 0) w := by
      rcases hr.head with ⟨rfl, _, _⟩ | ⟨ad, cap, rfl, hc⟩
      · simp [Builtin.append_, run_underlying ht, sizeOf, typeInfo, hi, Builtin.lenOf, Builtin.firstCells, storeCells]
      · simp [Builtin.append_, run_underlying ht, sizeOf, typeInfo, hi, Builtin.lenOf, Builtin.firstCells, loadCells, loadCellsFrom, storeCells]
    unfold Oper.wp
    simp only [execOp, ho, resolve, invoke, builtin, Sem.run_bind, Sem.run_pure, Result.andThen_ok, List.map_toArray, List.map_cons, List.map_nil, hs, hx, hrun]
    exact h _ _ (.inr ⟨b.block, b.off, b.spot, 0, rfl, Nat.le_refl _, by unfold maxLen; omega, fun _ => rfl, fun h => by omega⟩) (Below.refl _ _) ⟨⟨_, _, rfl⟩, .inl rfl⟩
  · have hmp : 0 < m := by omega
    rcases hr.head with ⟨_, h0, _⟩ | ⟨ad, cap, hv, hc⟩
    · exact absurd h0 hm
    · have hrun := run_append_grow (P := P) w t o.type e i z ht hi hz b 0 0 [] (by simp) (by simp) ad m cap news hl hc (by omega) (by simp only [maxLen] at h63; omega) (growslice_fits' hbytes hmp)
      simp only [Nat.zero_add] at hrun
      unfold Oper.wp
      simp only [execOp, ho, resolve, invoke, builtin, Sem.run_bind, Sem.run_pure, Result.andThen_ok, List.map_toArray, List.map_cons, List.map_nil, hs, hx, hv, hrun]
      refine h _ _ (.inr ⟨w.heap.size, 0, none, _, rfl, grownCap_ge w m 0 e, grownCap_le_maxLen w m 0 e h63, fun h => by omega, fun _ => ⟨rfl, ?_, fun k hk => ?_⟩⟩) ((Below.refl _ _).drew.alloc (Nat.le_refl _) _) ⟨⟨_, _, rfl⟩, .inr rfl⟩
      · show w.heap.size < (w.drew.alloc _).heap.size
        rw [World.size_alloc]; show w.heap.size < w.heap.size + 1; omega
      · have hnew := heap_alloc_new w.drew (.cells (([] : List Value).toArray ++ news.toArray ++ Builtin.zeroCells z.cells (grownCap w m 0 e - m)) e)
        rw [Nat.zero_add]
        refine (cell_of_row _ w.heap.size k _ e (0, 0) hnew).trans ?_
        simp [Array.getElem?_append, hk]
theorem step_append_fresh {P : Program} {ops : Array Oper} {o : Oper} {a : Act} {w : World} {K : Act → World → Prop} {Q : Exit → Act → World → Prop} {E : Prop}
    (hg : o.guard = none) (s x : Operand) (t : TypeId) (ho : o.op = Op.call { callee := Callee.builtin Builtin.append, args := #[s, x], argTypes := #[t, t] })
    (e : TypeId) (i : TypeInfo) (z : Value) (size bytes : Nat) (ht : P.underlying t = some (.slice e)) (hi : P.info? e = some i) (hz : i.zero = some z)
    (hsize : i.size = size) (hby : i.bytes = bytes) (hzs : z.cells.size = size) (hsz : 0 < size)
    (b : Addr) (hs : a.eval s = .slice (some b) 0 0)
    (B : Nat) (xv : Value) (hx : a.eval x = xv) (m : Nat) (news : List Value) (hr : RS B w xv m news) (hl : news.length = m * size)
    (h63 : m ≤ maxLen) (hbytes : m * bytes ≤ 140737488355328)
    (h : ∀ v' w', RS w'.heap.size w' v' m news → Below w.heap.size w w' → ((∃ ao c, v' = .slice ao m c) ∧ (m = 0 ∨ v'.ownBlock = some w.heap.size)) → K (a.put o.dst v') w') :
    if Region.wanted o (yielded ops a.tmps) = true then Oper.wp P o a w K Q else E := by
  have hw : Region.wanted o (yielded ops a.tmps) = true := by simp [Region.wanted, hg]
  rw [if_pos hw]
  exact wp_append_fresh s x t ho e i z size bytes ht hi hz hsize hby hzs hsz b hs B xv hx m news hr hl h63 hbytes h
theorem RL.other {w : World} {ao : Option Addr} {n c : Nat} {xs : List Int} {K o : Nat} {u : Value} (h : RL w.heap.size w (.slice ao n c) xs) (hne : n = 0 ∨ (Value.slice ao n c).ownBlock ≠ some K) :
  RL (w.setCell ⟨K, o, none⟩ u).heap.size (w.setCell ⟨K, o, none⟩ u) (.slice ao n c) xs := by
 rcases h with h | ⟨b, off, sp, cap, h0, h1, h2, h3, h4⟩
 ·exact .inl h
 ·refine .inr ⟨b, off, sp, cap, h0, h1, h2, h3, fun hp => ?_⟩
  obtain ⟨p, q, r⟩ := h4 hp
  simp only [Value.slice.injEq] at h0
  obtain ⟨rfl, rfl, rfl⟩ := h0
  have hb : b ≠ K := by
   rcases hne with hne | hne
   ·omega
   ·intro e; exact hne (by rw [e]; rfl)
  refine ⟨p, by simpa [World.setCell] using q, fun k hk => ?_⟩
  rw [← r k hk]
  exact World.cell?_of_block (w := w) (a := ⟨b, off + k, none⟩) (Below.heap_setCell w ⟨K, o, none⟩ u b hb)
end Go.Proofs.YtfphlpglgcmljaaGreat
