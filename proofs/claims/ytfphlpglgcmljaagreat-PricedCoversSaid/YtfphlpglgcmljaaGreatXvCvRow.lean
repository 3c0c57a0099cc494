/- The row of PricedCoversSaid, from the law on its walk. -/
import Derived.Test.YtfphlpglgcmljaaGreatRows
import Derived.WalkKit
import Derived.ProofKit
import Derived.OpenShut
import Derived.ShutString
import Derived.ChangeOld
import Derived.Below
import Derived.Lib.SmallJoins
import Derived.Test.YtfphlpglgcmljaaGreatXvCpi
import Derived.Test.YtfphlpglgcmljaaGreatXvFrame7
namespace Go.Proofs.YtfphlpglgcmljaaGreat
open Go.ChangeShapes Go.WideShapes Go.ChangeAt Go.RowKit
open Go.ChangeMaps (open_string shut_string)
set_option linter.unusedVariables false
theorem ownKnobCvRow : ownKnob Tryz.prog.godebug = none := by kernel_rfl
theorem laidOutCvRow : laidOutB Tryz.prog = true := by kernel_rfl
set_option maxRecDepth 100000 in
theorem priced_covers_lifted (os : Os) (started : os.Started) (H : Type) (enc : TypeId × Value → H) :
  ReturnsInHanded {} Tryz.checked os 9 .any (Rows.pricedCoversSpec.pre6 enc Tryz.prog Tryz.f9 Rows.pricedCoversRow.domain false) (Rows.pricedCoversSpec.post enc Tryz.prog Tryz.f9 false true false false) := by
 refine returnsInHanded_of_change (C := Tryz.checked) ownKnobCvRow started (by kernel_rfl) Tryz.func9
  (ChangeSpec.witness6 (enc := enc) (C := Tryz.checked) false ⟨#[], #[.agg #[.int .i64 0, .slice none 0 0, .int .i64 0, .slice none 0 0], .agg #[.int .i64 0, .slice none 0 0, .int .i64 0, .slice none 0 0]], []⟩ 8 (by kernel_rfl) (by kernel_rfl) (by kernel_rfl) (by kernel_rfl)) ?_
 intro W base args ds gs before hval0 hW hcnd _
 have hval : ∀ (j : Nat) t v, Tryz.f9.params[j]? = some t → args[j]? = some v → Value.okWide Tryz.prog W .any base t v := hval0
 have hW' := hW
 obtain ⟨p, q, hA0, hV, rfl, hfz, hnd⟩ := hW
 have hA : DataW.TrodAll enc Tryz.prog W 0 (fun _ => true) true Tryz.f9.params.toList args.toList ds p := hA0
 rw [Tryz.params9] at hA hval
 obtain ⟨v0, vs0, d0, ds0, p0, q0, hargs, rfl, rfl, h0, r0⟩ := trodAll_cons hA
 obtain ⟨v1, vs1, d1, ds1, p1, q1, rfl, rfl, rfl, h1, r1⟩ := trodAll_cons r0
 obtain ⟨rfl, rfl, rfl⟩ := trodAll_nil r1
 obtain rfl : args = #[v0, v1] := by cases args; simp_all
 obtain ⟨rfl, rfl⟩ := trodVars_none hV
 have k0 := h0
 have lt0 : ∀ x ∈ p0, x.block < W.heap.size := by obtain ⟨m, hm⟩ := k0; exact DataW.trod_lt m _ _ _ hm
 have k1 := h1
 have lt1 : ∀ x ∈ p1, x.block < W.heap.size := by obtain ⟨m, hm⟩ := k1; exact DataW.trod_lt m _ _ _ hm
 obtain ⟨n0, c0, vM0, vR0, m01, m02, y01, y02, rfl, f01, f02⟩ := open_priced (hval 0 35 v0 rfl rfl) h0
 obtain ⟨xs0, hx0, _⟩ := rl_of_trod Tryz.underlying30 Tryz.underlying63 (by kernel_rfl) f01
 obtain ⟨rs0, hr0, _⟩ := rl_of_trod Tryz.underlying33 Tryz.underlying2 (by kernel_rfl) f02
 obtain ⟨n1, c1, vM1, vR1, m11, m12, y11, y12, rfl, f11, f12⟩ := open_priced (hval 1 35 v1 rfl rfl) h1
 obtain ⟨xs1, hx1, _⟩ := rl_of_trod Tryz.underlying30 Tryz.underlying63 (by kernel_rfl) f11
 obtain ⟨rs1, hr1, _⟩ := rl_of_trod Tryz.underlying33 Tryz.underlying2 (by kernel_rfl) f12
 clear hA0 hval0
 refine (law_priced_covers _ _ _ _ _ _ _ _ _ _ _ _ W hx0 hr0 hx1 hr1).mono fun e W' ⟨he, bel⟩ => ?_
 subst he
 exact ⟨_, rfl, _, _, _, [], _, [], hW', trodAll_mk1 (shut_bool Tryz.underlying4 _), (trodAll_cons_mk (Below.trod laidOutCvRow (by kernel_rfl) (of_decide_eq_true (by kernel_rfl)) k0 bel lt0) (trodAll_cons_mk (Below.trod laidOutCvRow (by kernel_rfl) (of_decide_eq_true (by kernel_rfl)) k1 bel lt1) trodAll_mk0)), rfl, bel.frame _, fun h => by cases h⟩
theorem priced_covers_over : Rows.pricedCoversRow.holds Tryz.pinned (OpenSpec.ofChange Rows.pricedCoversSpec) :=
 OpenClaim.holds_of_wide 9 Tryz.f9 rfl rfl rfl rfl rfl rfl rfl ⟨rfl, rfl, rfl, rfl, rfl⟩ rfl rfl rfl rfl rfl (by kernel_rfl) Tryz.func9 (by kernel_rfl)
  (of_decide_eq_true (by kernel_rfl)) (by unfold Func.isWrapper; first | (rw [if_pos (by decide +kernel)]; kernel_rfl) | (rw [if_neg (by decide +kernel)]; exact ⟨rfl, rfl⟩))
  (fun os started H enc _ => priced_covers_lifted os started H enc)
theorem priced_covers_proved : Rows.PricedCoversSaid := priced_covers_over
#print axioms priced_covers_proved
end Go.Proofs.YtfphlpglgcmljaaGreat
