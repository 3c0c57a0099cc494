/- Contracts of the reference's ratios: floor, Cmp. -/
import Derived.Test.YtkgaipcgdldfdaaRat
namespace Go.Proofs.Ytkgaipcgdldfdaa
open Go.RowKit
set_option linter.unusedVariables false

set_option maxHeartbeats 400000 in
theorem r1_floor0 (n d : Int) (w : World) (h1 : 0 ≤ n) (h2 : n ≤ 9223372036854775807) (h3 : 1 ≤ d) (h4 : d ≤ 9223372036854775807) :
    Calls Try.prog 149 #[.int .i64 n, .int .i64 d] w fun e w' => e = .returned (.int .i64 (n / d)) ∧ w = w' := by
  have q1 : 0 ≤ n / d := Int.ediv_nonneg h1 (by omega)
  have q2 : n / d ≤ n := Int.ediv_le_self _ h1
  have t1 : n.tdiv d = n / d := Int.tdiv_eq_ediv_of_nonneg h1
  have t2 : n.tmod d = n % d := Int.tmod_eq_emod_of_nonneg h1
  have m1 : 0 ≤ n % d := Int.emod_nonneg _ (by omega)
  have d0 : ¬ d = 0 := by omega
  have m2 : decide (n % d < 0) = false := by simp; omega
  generalize hQ : n / d = q at *
  generalize hM : n % d = m at *
  have d1 : ¬ m < 0 := by omega
  go_enter Try.func149, Try.ntmps149
  go_wp2_with fail
  go_ret
  exact ⟨rfl, rfl⟩
/-- What Cmp returns. -/
def cmpR (a b c d : Int) : Int × Int := if vr a b = true ∧ vr c d = true then (if a * d < c * b then -1 else if c * b < a * d then 1 else 0, 0) else (0, 2)
def IE (r : Int × Int) (e : Ending) : Prop := e = .returned (.tuple #[.int .i64 r.1, .int .i64 r.2])
theorem IE.of {r : Int × Int} {p x : Int} (h : r = (p, x)) : IE r (.returned (.tuple #[.int .i64 p, .int .i64 x])) := by subst h; rfl
theorem cmpR_no {a b c d : Int} (h : ¬ (vr a b = true ∧ vr c d = true)) : cmpR a b c d = (0, 2) := by unfold cmpR; rw [if_neg h]
theorem cmpR_yes {a b c d : Int} (h : vr a b = true ∧ vr c d = true) : cmpR a b c d = (if a * d < c * b then -1 else if c * b < a * d then 1 else 0, 0) := by unfold cmpR; rw [if_pos h]
set_option maxHeartbeats 1000000 in
theorem r1_cmp (a b c d : Int) (w : World) :
    Calls Try.prog 117 #[.agg #[.int .i64 a, .int .i64 b], .agg #[.int .i64 c, .int .i64 d]] w fun e w' => IE (cmpR a b c d) e ∧ Below w.heap.size w w' := by
  have hloc0 := Loc.two w (.cells #[.int .i64 a, .int .i64 b] 48) (.cells #[.int .i64 c, .int .i64 d] 48) none
  cases h1 : vr a b
  · have H := Lib.hid (cmpR_no (a := a) (b := b) (c := c) (d := d) (fun h => by rw [h1] at h; cases h.1))
    go_enter Try.func117, Try.ntmps117
    go_wp2_with fail
    refine (r1_valid_no _ _ _ h1).mono ?_
    rintro e w1 ⟨rfl, hb1⟩
    have hloc1 := hloc0.next (grownBy_below hb1 none) (fun _ h => by cases h)
    clear h1
    go_wp2_with fail
    go_ret2
    exact ⟨IE.of H.out, below_grownBy hloc1.grown⟩
  · cases h2 : vr c d
    · have H := Lib.hid (cmpR_no (a := a) (b := b) (c := c) (d := d) (fun h => by rw [h2] at h; cases h.2))
      go_enter Try.func117, Try.ntmps117
      go_wp2_with fail
      refine (r1_valid_yes _ _ _ h1).mono ?_
      rintro e w1 ⟨rfl, hb1⟩
      have hloc1 := hloc0.next (grownBy_below hb1 none) (fun _ h => by cases h)
      have k0 : w1.cell? ⟨w.heap.size + 1, 0, none⟩ = some (.int .i64 c) := hloc1.cell 1 rfl 0
      have k1 : w1.cell? ⟨w.heap.size + 1, 1, none⟩ = some (.int .i64 d) := hloc1.cell 1 rfl 1
      clear hb1 hloc0 h1
      go_wp2_with fail
      refine (r1_valid_no _ _ _ h2).mono ?_
      rintro e w2 ⟨rfl, hb2⟩
      have hloc2 := hloc1.next (grownBy_below hb2 none) (fun _ h => by cases h)
      clear h2 k0 k1
      go_wp2_with fail
      go_ret2
      exact ⟨IE.of H.out, below_grownBy hloc2.grown⟩
    · have H := Lib.hid (cmpR_yes (a := a) (b := b) (c := c) (d := d) ⟨h1, h2⟩)
      obtain ⟨p1, p2, p3, p4, _⟩ := (vr_iff a b).1 h1
      obtain ⟨q1, q2, q3, q4, _⟩ := (vr_iff c d).1 h2
      obtain ⟨m1, m2⟩ := mul_bd (a := a) (b := d) p3 p4 (by omega) q2
      obtain ⟨m3, m4⟩ := mul_bd (a := c) (b := b) q3 q4 (by omega) p2
      have w1' : IntKind.i64.wrap (a * d) = a * d := by rw [IntKind.wrap_i64]; omega
      have w2' : IntKind.i64.wrap (c * b) = c * b := by rw [IntKind.wrap_i64]; omega
      generalize hA : a * d = x at *
      generalize hB : c * b = y at *
      have HA := Lib.hid hA
      go_enter Try.func117, Try.ntmps117
      go_wp2_with fail
      refine (r1_valid_yes _ _ _ h1).mono ?_
      rintro e w1 ⟨rfl, hb1⟩
      have hloc1 := hloc0.next (grownBy_below hb1 none) (fun _ h => by cases h)
      have k0 : w1.cell? ⟨w.heap.size + 1, 0, none⟩ = some (.int .i64 c) := hloc1.cell 1 rfl 0
      have k1 : w1.cell? ⟨w.heap.size + 1, 1, none⟩ = some (.int .i64 d) := hloc1.cell 1 rfl 1
      clear hb1 hloc0 h1
      go_wp2_with fail
      refine (r1_valid_yes _ _ _ h2).mono ?_
      rintro e w2 ⟨rfl, hb2⟩
      have hloc2 := hloc1.next (grownBy_below hb2 none) (fun _ h => by cases h)
      have l0 : w2.cell? ⟨w.heap.size, 0, none⟩ = some (.int .i64 a) := hloc2.cell 0 rfl 0
      have l1 : w2.cell? ⟨w.heap.size, 1, none⟩ = some (.int .i64 b) := hloc2.cell 0 rfl 1
      have l2 : w2.cell? ⟨w.heap.size + 1, 0, none⟩ = some (.int .i64 c) := hloc2.cell 1 rfl 0
      have l3 : w2.cell? ⟨w.heap.size + 1, 1, none⟩ = some (.int .i64 d) := hloc2.cell 1 rfl 1
      clear hb2 hloc1 h2 k0 k1
      go_wp2_with fail
      go_quiet (fail)
      by_cases c1 : x < y
      · have H' := Lib.hid (show cmpR a b c d = (-1, 0) by rw [H.out, if_pos c1])
        go_wp2_with fail
        go_ret2
        exact ⟨IE.of H'.out, (below_grownBy hloc2.grown).trans ⟨rfl, rfl, rfl, Nat.le_refl _, fun _ _ => rfl⟩⟩
      · have d1 : decide (x < y) = false := by simpa using c1
        by_cases c2 : y < x
        · have H' := Lib.hid (show cmpR a b c d = (1, 0) by rw [H.out, if_neg c1, if_pos c2])
          go_wp2_with fail
          go_ret2
          exact ⟨IE.of H'.out, (below_grownBy hloc2.grown).trans ⟨rfl, rfl, rfl, Nat.le_refl _, fun _ _ => rfl⟩⟩
        · have d2 : decide (y < x) = false := by simpa using c2
          have H' := Lib.hid (show cmpR a b c d = (0, 0) by rw [H.out, if_neg c1, if_neg c2])
          go_wp2_with fail
          go_ret2
          exact ⟨IE.of H'.out, (below_grownBy hloc2.grown).trans ⟨rfl, rfl, rfl, Nat.le_refl _, fun _ _ => rfl⟩⟩
end Go.Proofs.Ytkgaipcgdldfdaa
