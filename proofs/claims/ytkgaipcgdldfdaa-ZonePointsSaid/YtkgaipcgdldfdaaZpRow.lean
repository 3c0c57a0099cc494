/- The row of ZonePointsSaid, from the law on its walk. -/
import Derived.Test.YtkgaipcgdldfdaaZp
import Derived.Test.YtkgaipcgdldfdaaFrame6
import Derived.Test.YtkgaipcgdldfdaaRows
import Derived.WalkKit
import Derived.ProofKit
import Derived.OpenShut
import Derived.ShutString
import Derived.ChangeOld
import Derived.Below
import Derived.Lib.SmallJoins
namespace Go.Proofs.Ytkgaipcgdldfdaa
open Go.ChangeShapes Go.WideShapes Go.ChangeAt Go.RowKit
open Go.ChangeMaps (open_string shut_string)
set_option linter.unusedVariables false

theorem ownKnobZpRow : ownKnob Try.prog.godebug = none := by kernel_rfl
theorem laidOutZpRow : laidOutB Try.prog = true := by kernel_rfl
set_option maxRecDepth 100000 in
theorem zone_points_lifted (os : Os) (started : os.Started) (H : Type) (enc : TypeId × Value → H) :
    ReturnsInHanded {} Try.checked os 7 .any (Rows.zonePointsSpec.pre6 enc Try.prog Try.f7 Rows.zonePointsRow.domain false) (Rows.zonePointsSpec.post enc Try.prog Try.f7 false true false false) := by
  refine returnsInHanded_of_change (C := Try.checked) ownKnobZpRow started (by kernel_rfl) Try.func7
    (ChangeSpec.witness6 (enc := enc) (C := Try.checked) false ⟨#[], #[.agg #[.int .i64 0, .slice none 0 0], .slice none 0 0], []⟩ 8 (by kernel_rfl) (by kernel_rfl) (by kernel_rfl) (by kernel_rfl)) ?_
  intro W base args ds gs before hval0 hW hcnd _
  have hval : ∀ (j : Nat) t v, Try.f7.params[j]? = some t → args[j]? = some v → Value.okWide Try.prog W .any base t v := hval0
  have hW' := hW
  obtain ⟨p, q, hA0, hV, rfl, hfz, hnd⟩ := hW
  have hA : DataW.TrodAll enc Try.prog W 0 (fun _ => true) true Try.f7.params.toList args.toList ds p := hA0
  rw [Try.params7] at hA hval
  obtain ⟨v0, vs0, d0, ds0, p0, q0, hargs, rfl, rfl, h0, r0⟩ := trodAll_cons hA
  obtain ⟨v1, vs1, d1, ds1, p1, q1, rfl, rfl, rfl, h1, r1⟩ := trodAll_cons r0
  obtain ⟨rfl, rfl, rfl⟩ := trodAll_nil r1
  obtain rfl : args = #[v0, v1] := by cases args; simp_all
  obtain ⟨rfl, rfl⟩ := trodVars_none hV
  have k0 := h0
  have lt0 : ∀ x ∈ p0, x.block < W.heap.size := by obtain ⟨m, hm⟩ := k0; exact DataW.trod_lt m _ _ _ hm
  have k1 := h1
  have lt1 : ∀ x ∈ p1, x.block < W.heap.size := by obtain ⟨m, hm⟩ := k1; exact DataW.trod_lt m _ _ _ hm
  obtain ⟨u0a, u0b, y0a, y0b, m0, rfl, _, _, f0a, f0b⟩ := Go.Joins.open_agg2 Try.underlying24 (by kernel_rfl) (by kernel_rfl) (hval 0 24 v0 rfl rfl) h0
  obtain ⟨n0, hn0, _, _⟩ := DataW.trod_int Try.underlying3 f0a
  obtain rfl : u0a = .int .i64 n0 := by simpa using hn0
  obtain ⟨xs0, hx0, _⟩ := rl_of_trod Try.underlying22 Try.underlying60 (by kernel_rfl) f0b
  obtain ⟨a1, l1, c1, rfl⟩ := okWide_slice Try.underlying45 (hval 1 45 v1 rfl rfl)
  obtain ⟨ps1, hps1, hI1⟩ : ∃ ps, RQ W.heap.size W (.slice a1 l1 c1) ps ∧ ∀ k, k < ps.length → (Lit.int .i64 (gq ps k).1).wf = true := by
    obtain ⟨m3, hm3⟩ := h1
    exact rqw_of_trod Try.underlying45 Try.underlying48 (by kernel_rfl) (by kernel_rfl) (by kernel_rfl) ratio_ints hm3
  clear hA0 hval0
  refine (law_zone_points _ _ _ _ _ W hx0 hps1 (fun k hk => i64_of_wf (hI1 k hk))).mono fun e W' ⟨he, bel⟩ => ?_
  subst he
  exact ⟨_, rfl, _, _, _, [], _, [], hW', trodAll_mk1 (shut_bool Try.underlying4 _), (trodAll_cons_mk (Below.trod laidOutZpRow (by kernel_rfl) (of_decide_eq_true (by kernel_rfl)) k0 bel lt0) (trodAll_cons_mk (Below.trod laidOutZpRow (by kernel_rfl) (of_decide_eq_true (by kernel_rfl)) k1 bel lt1) trodAll_mk0)), rfl, bel.frame _, fun h => by cases h⟩
theorem zone_points_over : Rows.zonePointsRow.holds Try.pinned (OpenSpec.ofChange Rows.zonePointsSpec) :=
  OpenClaim.holds_of_wide 7 Try.f7 rfl rfl rfl rfl rfl rfl rfl ⟨rfl, rfl, rfl, rfl, rfl⟩ rfl rfl rfl rfl rfl (by kernel_rfl) Try.func7 (by kernel_rfl)
    (of_decide_eq_true (by kernel_rfl)) (by unfold Func.isWrapper; first | (rw [if_pos (by decide +kernel)]; kernel_rfl) | (rw [if_neg (by decide +kernel)]; exact ⟨rfl, rfl⟩))
    (fun os started H enc _ => zone_points_lifted os started H enc)
theorem zone_points_proved : Rows.ZonePointsSaid := zone_points_over
#print axioms zone_points_proved
end Go.Proofs.Ytkgaipcgdldfdaa
