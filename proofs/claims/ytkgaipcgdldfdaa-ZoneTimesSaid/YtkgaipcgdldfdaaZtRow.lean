/- The row of ZoneTimesSaid, from the law on its walk. -/
import Derived.Test.YtkgaipcgdldfdaaZtm
import Derived.Test.YtkgaipcgdldfdaaFrame6
import Derived.Test.YtkgaipcgdldfdaaRows
import Derived.WalkKit
import Derived.ProofKit
import Derived.OpenShut
import Derived.ShutString
import Derived.ChangeOld
import Derived.Below
import Derived.Lib.SmallJoins
namespace Go.Proofs.Ytkgaipcgdldfdaa
open Go.ChangeShapes Go.WideShapes Go.ChangeAt Go.RowKit
open Go.ChangeMaps (open_string shut_string)
set_option linter.unusedVariables false

theorem ownKnobZtRow : ownKnob Try.prog.godebug = none := by kernel_rfl
theorem laidOutZtRow : laidOutB Try.prog = true := by kernel_rfl
set_option maxRecDepth 100000 in
theorem zone_times_lifted (os : Os) (started : os.Started) (H : Type) (enc : TypeId × Value → H) :
    ReturnsInHanded {} Try.checked os 10 .any (Rows.zoneTimesSpec.pre6 enc Try.prog Try.f10 Rows.zoneTimesRow.domain false) (Rows.zoneTimesSpec.post enc Try.prog Try.f10 false true false false) := by
  refine returnsInHanded_of_change (C := Try.checked) ownKnobZtRow started (by kernel_rfl) Try.func10
    (ChangeSpec.witness6 (enc := enc) (C := Try.checked) false ⟨#[], #[.agg #[.int .i64 0, .slice none 0 0], .slice none 0 0, .agg #[.int .i64 0, .int .i64 0]], []⟩ 8 (by kernel_rfl) (by kernel_rfl) (by kernel_rfl) (by kernel_rfl)) ?_
  intro W base args ds gs before hval0 hW hcnd _
  have hval : ∀ (j : Nat) t v, Try.f10.params[j]? = some t → args[j]? = some v → Value.okWide Try.prog W .any base t v := hval0
  have hW' := hW
  obtain ⟨p, q, hA0, hV, rfl, hfz, hnd⟩ := hW
  have hA : DataW.TrodAll enc Try.prog W 0 (fun _ => true) true Try.f10.params.toList args.toList ds p := hA0
  rw [Try.params10] at hA hval
  obtain ⟨v0, vs0, d0, ds0, p0, q0, hargs, rfl, rfl, h0, r0⟩ := trodAll_cons hA
  obtain ⟨v1, vs1, d1, ds1, p1, q1, rfl, rfl, rfl, h1, r1⟩ := trodAll_cons r0
  obtain ⟨v2, vs2, d2, ds2, p2, q2, rfl, rfl, rfl, h2, r2⟩ := trodAll_cons r1
  obtain ⟨rfl, rfl, rfl⟩ := trodAll_nil r2
  obtain rfl : args = #[v0, v1, v2] := by cases args; simp_all
  obtain ⟨rfl, rfl⟩ := trodVars_none hV
  have k0 := h0
  have lt0 : ∀ x ∈ p0, x.block < W.heap.size := by obtain ⟨m, hm⟩ := k0; exact DataW.trod_lt m _ _ _ hm
  have k1 := h1
  have lt1 : ∀ x ∈ p1, x.block < W.heap.size := by obtain ⟨m, hm⟩ := k1; exact DataW.trod_lt m _ _ _ hm
  have k2 := h2
  have lt2 : ∀ x ∈ p2, x.block < W.heap.size := by obtain ⟨m, hm⟩ := k2; exact DataW.trod_lt m _ _ _ hm
  obtain ⟨u0a, u0b, y0a, y0b, m0, rfl, _, _, f0a, f0b⟩ := Go.Joins.open_agg2 Try.underlying24 (by kernel_rfl) (by kernel_rfl) (hval 0 24 v0 rfl rfl) h0
  obtain ⟨n0, hn0, _, _⟩ := DataW.trod_int Try.underlying3 f0a
  obtain rfl : u0a = .int .i64 n0 := by simpa using hn0
  obtain ⟨xs0, hx0, _⟩ := rl_of_trod Try.underlying22 Try.underlying60 (by kernel_rfl) f0b
  obtain ⟨a1, l1, c1, rfl⟩ := okWide_slice Try.underlying45 (hval 1 45 v1 rfl rfl)
  obtain ⟨ps1, hps1, hI1⟩ : ∃ ps, RQ W.heap.size W (.slice a1 l1 c1) ps ∧ ∀ k, k < ps.length → (Lit.int .i64 (gq ps k).1).wf = true := by
    obtain ⟨m3, hm3⟩ := h1
    exact rqw_of_trod Try.underlying45 Try.underlying48 (by kernel_rfl) (by kernel_rfl) (by kernel_rfl) ratio_ints hm3
  obtain ⟨u2a, u2b, y2a, y2b, m2, rfl, _, _, f2a, f2b⟩ := Go.Joins.open_agg2 Try.underlying48 (by kernel_rfl) (by kernel_rfl) (hval 2 48 v2 rfl rfl) h2
  obtain ⟨n2, hn2, _, _⟩ := DataW.trod_int Try.underlying2 f2a
  obtain rfl : u2a = .int .i64 n2 := by simpa using hn2
  obtain ⟨d2', hd2, _, _⟩ := DataW.trod_int Try.underlying2 f2b
  obtain rfl : u2b = .int .i64 d2' := by simpa using hd2
  clear hA0 hval0
  refine (law_zone_times _ _ _ _ _ _ _ W hx0 hps1 (fun k hk => i64_of_wf (hI1 k hk))).mono fun e W' ⟨he, bel⟩ => ?_
  subst he
  exact ⟨_, rfl, _, _, _, [], _, [], hW', trodAll_mk1 (shut_bool Try.underlying4 _), (trodAll_cons_mk (Below.trod laidOutZtRow (by kernel_rfl) (of_decide_eq_true (by kernel_rfl)) k0 bel lt0) (trodAll_cons_mk (Below.trod laidOutZtRow (by kernel_rfl) (of_decide_eq_true (by kernel_rfl)) k1 bel lt1) (trodAll_cons_mk (Below.trod laidOutZtRow (by kernel_rfl) (of_decide_eq_true (by kernel_rfl)) k2 bel lt2) trodAll_mk0))), rfl, bel.frame _, fun h => by cases h⟩
theorem zone_times_over : Rows.zoneTimesRow.holds Try.pinned (OpenSpec.ofChange Rows.zoneTimesSpec) :=
  OpenClaim.holds_of_wide 10 Try.f10 rfl rfl rfl rfl rfl rfl rfl ⟨rfl, rfl, rfl, rfl, rfl⟩ rfl rfl rfl rfl rfl (by kernel_rfl) Try.func10 (by kernel_rfl)
    (of_decide_eq_true (by kernel_rfl)) (by unfold Func.isWrapper; first | (rw [if_pos (by decide +kernel)]; kernel_rfl) | (rw [if_neg (by decide +kernel)]; exact ⟨rfl, rfl⟩))
    (fun os started H enc _ => zone_times_lifted os started H enc)
theorem zone_times_proved : Rows.ZoneTimesSaid := zone_times_over
#print axioms zone_times_proved
end Go.Proofs.Ytkgaipcgdldfdaa
