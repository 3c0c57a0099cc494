/- The row of MinimalBackSaid, from the law on its walk. -/
import Derived.Test.YtkgaipcgdldfdaaBk
import Derived.Test.YtkgaipcgdldfdaaFrame3
import Derived.Test.YtkgaipcgdldfdaaRows
import Derived.WalkKit
import Derived.ProofKit
import Derived.OpenShut
import Derived.ShutString
import Derived.ChangeOld
import Derived.Below
import Derived.Lib.SmallJoins
namespace Go.Proofs.Ytkgaipcgdldfdaa
open Go.ChangeShapes Go.WideShapes Go.ChangeAt Go.RowKit
open Go.ChangeMaps (open_string shut_string)
set_option linter.unusedVariables false

theorem ownKnobBkRow : ownKnob Try.prog.godebug = none := by kernel_rfl
theorem laidOutBkRow : laidOutB Try.prog = true := by kernel_rfl
set_option maxRecDepth 100000 in
theorem min_back_lifted (os : Os) (started : os.Started) (H : Type) (enc : TypeId × Value → H) :
    ReturnsInHanded {} Try.checked os 5 .any (Rows.minimalBackSpec.pre6 enc Try.prog Try.f5 Rows.minimalBackRow.domain false) (Rows.minimalBackSpec.post enc Try.prog Try.f5 false true false false) := by
  refine returnsInHanded_of_change (C := Try.checked) ownKnobBkRow started (by kernel_rfl) Try.func5
    (ChangeSpec.witness6 (enc := enc) (C := Try.checked) false ⟨#[], #[.agg #[.int .i64 0, .slice none 0 0], .int .i64 0], []⟩ 8 (by kernel_rfl) (by kernel_rfl) (by kernel_rfl) (by kernel_rfl)) ?_
  intro W base args ds gs before hval0 hW hcnd _
  have hval : ∀ (j : Nat) t v, Try.f5.params[j]? = some t → args[j]? = some v → Value.okWide Try.prog W .any base t v := hval0
  have hW' := hW
  obtain ⟨p, q, hA0, hV, rfl, hfz, hnd⟩ := hW
  have hA : DataW.TrodAll enc Try.prog W 0 (fun _ => true) true Try.f5.params.toList args.toList ds p := hA0
  rw [Try.params5] at hA hval
  obtain ⟨v0, vs0, d0, ds0, p0, q0, hargs, rfl, rfl, h0, r0⟩ := trodAll_cons hA
  obtain ⟨v1, vs1, d1, ds1, p1, q1, rfl, rfl, rfl, h1, r1⟩ := trodAll_cons r0
  obtain ⟨rfl, rfl, rfl⟩ := trodAll_nil r1
  obtain rfl : args = #[v0, v1] := by cases args; simp_all
  obtain ⟨rfl, rfl⟩ := trodVars_none hV
  have k0 := h0
  have lt0 : ∀ x ∈ p0, x.block < W.heap.size := by obtain ⟨m, hm⟩ := k0; exact DataW.trod_lt m _ _ _ hm
  have k1 := h1
  have lt1 : ∀ x ∈ p1, x.block < W.heap.size := by obtain ⟨m, hm⟩ := k1; exact DataW.trod_lt m _ _ _ hm
  obtain ⟨u0a, u0b, y0a, y0b, m0, rfl, _, _, f0a, f0b⟩ := Go.Joins.open_agg2 Try.underlying24 (by kernel_rfl) (by kernel_rfl) (hval 0 24 v0 rfl rfl) h0
  obtain ⟨n0, hn0, _, _⟩ := DataW.trod_int Try.underlying3 f0a
  obtain rfl : u0a = .int .i64 n0 := by simpa using hn0
  obtain ⟨xs0, hx0, _⟩ := rl_of_trod Try.underlying22 Try.underlying60 (by kernel_rfl) f0b
  obtain ⟨n1, rfl⟩ := okWide_int Try.underlying3 (hval 1 3 v1 rfl rfl)
  have hwf1 : (Lit.int .i64 n1).wf = true := by
    obtain ⟨m3, hm3⟩ := h1
    obtain ⟨nn, e1, _, e2⟩ := DataW.trod_int Try.underlying3 hm3
    have e3 : nn = n1 := by have e4 : [Value.int .i64 n1] = [Value.int .i64 nn] := e1; simpa [eq_comm] using e4
    rwa [e3] at e2
  clear hA0 hval0
  refine ((fun W h0 h1 => law_min_back _ _ _ _ W h0 h1) W hx0 hwf1).mono fun e W' ⟨he, bel⟩ => ?_
  subst he
  exact ⟨_, rfl, _, _, _, [], _, [], hW', trodAll_mk1 (shut_bool Try.underlying4 _), (trodAll_cons_mk (Below.trod laidOutBkRow (by kernel_rfl) (of_decide_eq_true (by kernel_rfl)) k0 bel lt0) (trodAll_cons_mk (Below.trod laidOutBkRow (by kernel_rfl) (of_decide_eq_true (by kernel_rfl)) k1 bel lt1) trodAll_mk0)), rfl, bel.frame _, fun h => by cases h⟩
theorem min_back_over : Rows.minimalBackRow.holds Try.pinned (OpenSpec.ofChange Rows.minimalBackSpec) :=
  OpenClaim.holds_of_wide 5 Try.f5 rfl rfl rfl rfl rfl rfl rfl ⟨rfl, rfl, rfl, rfl, rfl⟩ rfl rfl rfl rfl rfl (by kernel_rfl) Try.func5 (by kernel_rfl)
    (of_decide_eq_true (by kernel_rfl)) (by unfold Func.isWrapper; first | (rw [if_pos (by decide +kernel)]; kernel_rfl) | (rw [if_neg (by decide +kernel)]; exact ⟨rfl, rfl⟩))
    (fun os started H enc _ => min_back_lifted os started H enc)
theorem min_back_proved : Rows.MinimalBackSaid := min_back_over
#print axioms min_back_proved
end Go.Proofs.Ytkgaipcgdldfdaa
