/- The row of MinimalBuildsSaid, from the law on its walk. -/
import Derived.Test.YtkgaipcgdldfdaaMr2
import Derived.Test.YtkgaipcgdldfdaaFrame3
import Derived.Test.YtkgaipcgdldfdaaRows
import Derived.WalkKit
import Derived.ProofKit
import Derived.OpenShut
import Derived.ShutString
import Derived.ChangeOld
import Derived.Below
import Derived.Lib.SmallJoins
namespace Go.Proofs.Ytkgaipcgdldfdaa
open Go.ChangeShapes Go.WideShapes Go.ChangeAt Go.RowKit
open Go.ChangeMaps (open_string shut_string)
set_option linter.unusedVariables false

theorem ownKnobMbRow : ownKnob Try.prog.godebug = none := by kernel_rfl
theorem laidOutMbRow : laidOutB Try.prog = true := by kernel_rfl
set_option maxRecDepth 100000 in
theorem min_builds_lifted (os : Os) (started : os.Started) (H : Type) (enc : TypeId × Value → H) :
    ReturnsInHanded {} Try.checked os 4 .any (Rows.minimalBuildsSpec.pre6 enc Try.prog Try.f4 Rows.minimalBuildsRow.domain false) (Rows.minimalBuildsSpec.post enc Try.prog Try.f4 false true false false) := by
  refine returnsInHanded_of_change (C := Try.checked) ownKnobMbRow started (by kernel_rfl) Try.func4
    (ChangeSpec.witness6 (enc := enc) (C := Try.checked) false ⟨#[], #[.int .i64 0, .slice none 0 0], []⟩ 8 (by kernel_rfl) (by kernel_rfl) (by kernel_rfl) (by kernel_rfl)) ?_
  intro W base args ds gs before hval0 hW hcnd _
  have hval : ∀ (j : Nat) t v, Try.f4.params[j]? = some t → args[j]? = some v → Value.okWide Try.prog W .any base t v := hval0
  have hW' := hW
  obtain ⟨p, q, hA0, hV, rfl, hfz, hnd⟩ := hW
  have hA : DataW.TrodAll enc Try.prog W 0 (fun _ => true) true Try.f4.params.toList args.toList ds p := hA0
  rw [Try.params4] at hA hval
  obtain ⟨v0, vs0, d0, ds0, p0, q0, hargs, rfl, rfl, h0, r0⟩ := trodAll_cons hA
  obtain ⟨v1, vs1, d1, ds1, p1, q1, rfl, rfl, rfl, h1, r1⟩ := trodAll_cons r0
  obtain ⟨rfl, rfl, rfl⟩ := trodAll_nil r1
  obtain rfl : args = #[v0, v1] := by cases args; simp_all
  obtain ⟨rfl, rfl⟩ := trodVars_none hV
  have k0 := h0
  have lt0 : ∀ x ∈ p0, x.block < W.heap.size := by obtain ⟨m, hm⟩ := k0; exact DataW.trod_lt m _ _ _ hm
  have k1 := h1
  have lt1 : ∀ x ∈ p1, x.block < W.heap.size := by obtain ⟨m, hm⟩ := k1; exact DataW.trod_lt m _ _ _ hm
  obtain ⟨n0, rfl⟩ := okWide_int Try.underlying3 (hval 0 3 v0 rfl rfl)
  have hwf0 : (Lit.int .i64 n0).wf = true := by
    obtain ⟨m3, hm3⟩ := h0
    obtain ⟨nn, e1, _, e2⟩ := DataW.trod_int Try.underlying3 hm3
    have e3 : nn = n0 := by have e4 : [Value.int .i64 n0] = [Value.int .i64 nn] := e1; simpa [eq_comm] using e4
    rwa [e3] at e2
  obtain ⟨a1, l1, c1, rfl⟩ := okWide_slice Try.underlying26 (hval 1 26 v1 rfl rfl)
  obtain ⟨cs1, hcs1⟩ : ∃ ps, RK W.heap.size W (.slice a1 l1 c1) ps := by
    obtain ⟨m3, hm3⟩ := h1
    exact rk_of_trod Try.underlying26 Try.underlying62 (by kernel_rfl) (by kernel_rfl) (by kernel_rfl) constr_ints hm3
  clear hA0 hval0
  refine ((fun W h0 h1 => law_min_builds _ _ _ W h1) W hwf0 hcs1).mono fun e W' ⟨he, bel⟩ => ?_
  subst he
  exact ⟨_, rfl, _, _, _, [], _, [], hW', trodAll_mk1 (shut_bool Try.underlying4 _), (trodAll_cons_mk (Below.trod laidOutMbRow (by kernel_rfl) (of_decide_eq_true (by kernel_rfl)) k0 bel lt0) (trodAll_cons_mk (Below.trod laidOutMbRow (by kernel_rfl) (of_decide_eq_true (by kernel_rfl)) k1 bel lt1) trodAll_mk0)), rfl, bel.frame _, fun h => by cases h⟩
theorem min_builds_over : Rows.minimalBuildsRow.holds Try.pinned (OpenSpec.ofChange Rows.minimalBuildsSpec) :=
  OpenClaim.holds_of_wide 4 Try.f4 rfl rfl rfl rfl rfl rfl rfl ⟨rfl, rfl, rfl, rfl, rfl⟩ rfl rfl rfl rfl rfl (by kernel_rfl) Try.func4 (by kernel_rfl)
    (of_decide_eq_true (by kernel_rfl)) (by unfold Func.isWrapper; first | (rw [if_pos (by decide +kernel)]; kernel_rfl) | (rw [if_neg (by decide +kernel)]; exact ⟨rfl, rfl⟩))
    (fun os started H enc _ => min_builds_lifted os started H enc)
theorem min_builds_proved : Rows.MinimalBuildsSaid := min_builds_over
#print axioms min_builds_proved
end Go.Proofs.Ytkgaipcgdldfdaa
