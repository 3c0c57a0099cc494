/- Lesser constants make a widened zone no smaller: the plain law. -/
import Derived.Test.YtmjpcakikflcfaaCan
import Derived.Test.YtmjpcakikflcfaaInc
namespace Go.Proofs.Ytmjpcakikflcfaa
open Go.RowKit
set_option linter.unusedVariables false

/-- l has come from the constants k by lowering some of them, to -1 at least. -/
structure Gr (k l : List Int) : Prop where
  len : l.length = k.length
  lo : ∀ i, i < k.length → -1 ≤ gi l i
  le : ∀ i, i < k.length → gi l i ≤ gi k i
theorem Gr.start {n : Int} {k : List Int} (h : cstF n k = true) : Gr k k := ⟨rfl, fun i hi => (cst_gi h hi).1, fun _ _ => Int.le_refl _⟩
theorem Gr.step {k l : List Int} (h : Gr k l) {q : Nat} (hq : q < k.length) {c : Int} (hc : 0 ≤ c) : Gr k (l.set q (imax (-1) (gi l q - c))) where
  len := by rw [List.length_set]; exact h.len
  lo := fun i hi => by
    rw [gi_set]; split
    · unfold imax; split <;> omega
    · exact h.lo i hi
  le := fun i hi => by
    rw [gi_set]; split
    · rename_i e; have := h.le q hq; have := h.lo q hq; rw [← e.1]; unfold imax; split <;> omega
    · exact h.le i hi
theorem Gr.cst {n : Int} {k l : List Int} (h : Gr k l) (hk : cstF n k = true) : cstF n l = true := by
  rw [cstF_eq, Bool.and_eq_true, decide_eq_true_eq]
  refine ⟨all_take_of fun i hi => ?_, by rw [h.len]; exact cst_len hk⟩
  rw [h.len] at hi
  unfold cOk
  have := h.lo i hi
  have := h.le i hi
  have := (cst_gi hk hi).2
  simp only [decide_eq_true_eq]; omega
theorem leAll_of {N : Nat} {xs ys : List Int} (hl : xs.length = (N + 1) * (N + 1)) (h : ∀ i j, i ≤ N → j ≤ N → ent N ys i j ≤ ent N xs i j) : leAll xs ys := fun k hk => by
  have h1 : k / (N + 1) ≤ N := by
    have : k / (N + 1) < N + 1 := Nat.div_lt_of_lt_mul (by rw [← hl]; exact hk)
    omega
  have h2 : k % (N + 1) < N + 1 := Nat.mod_lt _ (by omega)
  have h3 := h _ _ h1 (by omega : k % (N + 1) ≤ N)
  unfold ent at h3
  rwa [Nat.div_add_mod' k (N + 1)] at h3
theorem grow_plain {N : Nat} {xs k : List Int} (hok : OkZ N xs ∧ cstF N k = true ∧ cstF N k = true) : ∃ A, widB N xs k k = (0, A) ∧ A.length = xs.length ∧ Two N N A xs ∧ leAll A xs ∧
    ∀ l h, Gr k l → Gr k h → ∃ B, widB N xs l h = (0, B) ∧ Two N N B A ∧ leAll B A := by
  obtain ⟨A, a1, a2, a3, a4, a5, a6⟩ := widB_ok hok
  have hlen : xs.length = (N + 1) * (N + 1) := by have := hok.1.len; rwa [Int.toNat_natCast] at this
  refine ⟨A, a1, a3, ⟨a2, hok.1, rfl⟩, leAll_of (by rw [a3]; exact hlen) a6, fun l h hl hh => ?_⟩
  obtain ⟨B, b1, b2, b3, b4, b5, b6⟩ := widB_ok (N := N) (xs := xs) (low := l) (high := h) ⟨hok.1, hl.cst hok.2.1, hh.cst hok.2.1⟩
  refine ⟨B, b1, ⟨b2, a2, rfl⟩, leAll_of (by rw [b3]; exact hlen) (b4 A a2 fun i j hi hj => Int.le_trans (a5 i j hi hj) ?_)⟩
  have hkl := cst_len hok.2.1
  rw [ent_widM hlen hi hj, ent_widM hlen hi hj]
  split
  · exact Int.le_refl _
  · exact wid_mono (hok.1.el hi hj).val (hok.1.el hi hj).row (fun h1 => ⟨hl.le _ (by omega), hl.lo _ (by omega)⟩) (fun h1 => ⟨hh.le _ (by omega), hh.lo _ (by omega)⟩)
theorem tmod8 (x : Int) : -7 ≤ x.tmod 8 ∧ x.tmod 8 ≤ 7 := by
  rcases Int.le_total 0 x with h | h
  · rw [Int.tmod_eq_emod_of_nonneg h]; omega
  · have e : x = -(-x) := by omega
    rw [e, Int.neg_tmod, Int.tmod_eq_emod_of_nonneg (by omega)]; omega
/-- append([]T{}, x...): a copy of the call's own. -/
theorem wpList_append_copy {P : Program} {ops : Array Oper} {rest : List Oper} {o : Oper} {a : Act} {w : World} {Q : Exit → Act → World → Prop}
    (hg : o.guard = none) (s x : Operand) (t : TypeId) (ho : o.op = Op.call { callee := Callee.builtin Builtin.append, args := #[s, x], argTypes := #[t, t] })
    (e : TypeId) (ht : P.underlying t = some (.slice e)) (hi : (P.info? e).map (fun i => (i.zero, i.size, i.bytes)) = some (some (.int .i64 0), 1, 8))
    (g : Nat) (hs : a.eval s = .slice (some ⟨g, 0, none⟩) 0 0) (hgb : w.heap[g]? = some (.cells #[] e (0, 0)))
    (xv : Value) (hx : a.eval x = xv) (xs : List Int) (hr : RL w.heap.size w xv xs) (hl : xs.length ≤ 100000)
    (h : ∀ ao c w', OL e g w' (.slice ao xs.length c) xs → w.grownBy w' (some g) → wpList P ops Q rest (a.put o.dst (.slice ao xs.length c)) w') : wpList P ops Q (o :: rest) a w := by
  obtain ⟨i0, hi0, hz0, hz1, hz2⟩ := info_parts hi
  have hgl : g < w.heap.size := (Array.getElem?_eq_some_iff.1 hgb).1
  refine wpList_append_rs hg s x t ho g e i0 (.int .i64 0) 1 8 ht hi0 hz0 hz1 hz2 rfl (by decide) (.slice (some ⟨g, 0, none⟩) 0 0) 0 [] hs (owns_empty hgb (Nat.le_refl _)) w.heap.size xv hx xs.length (xs.map (Value.int .i64)) hr (by simp) (ints_oneCell' _) (by unfold maxLen; omega) (by omega) (by omega) ?_
  intro v' w' h1 h2
  rw [Nat.zero_add, List.nil_append] at h1
  obtain ⟨ao, c, rfl⟩ := owns_form h1
  exact h ao c w' h1 h2
end Go.Proofs.Ytmjpcakikflcfaa
