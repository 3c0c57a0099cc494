/- The row of PricedClearsSaid, from the law on its walk. -/
import Derived.Test.YtfphlpglgcmljaaGreatRows
import Derived.WalkKit
import Derived.ProofKit
import Derived.OpenShut
import Derived.ShutString
import Derived.ChangeOld
import Derived.Below
import Derived.Lib.SmallJoins
import Derived.Test.YtfphlpglgcmljaaGreatXcWcw
import Derived.Test.YtfphlpglgcmljaaGreatXcFrame7
namespace Go.Proofs.YtfphlpglgcmljaaGreat
open Go.ChangeShapes Go.WideShapes Go.ChangeAt Go.RowKit
open Go.ChangeMaps (open_string shut_string)
set_option linter.unusedVariables false
theorem ownKnobWcRow : ownKnob Tryz.prog.godebug = none := by kernel_rfl
theorem laidOutWcRow : laidOutB Tryz.prog = true := by kernel_rfl
set_option maxRecDepth 100000 in
theorem priced_clears_lifted (os : Os) (started : os.Started) (H : Type) (enc : TypeId × Value → H) :
  ReturnsInHanded {} Tryz.checked os 7 .any (Rows.pricedClearsSpec.pre6 enc Tryz.prog Tryz.f7 Rows.pricedClearsRow.domain false) (Rows.pricedClearsSpec.post enc Tryz.prog Tryz.f7 false true false false) := by
 refine returnsInHanded_of_change (C := Tryz.checked) ownKnobWcRow started (by kernel_rfl) Tryz.func7
  (ChangeSpec.witness6 (enc := enc) (C := Tryz.checked) false ⟨#[], #[.agg #[.int .i64 0, .slice none 0 0, .int .i64 0, .slice none 0 0], .int .i64 0, .slice none 0 0], []⟩ 8 (by kernel_rfl) (by kernel_rfl) (by kernel_rfl) (by kernel_rfl)) ?_
 intro W base args ds gs before hval0 hW hcnd _
 have hval : ∀ (j : Nat) t v, Tryz.f7.params[j]? = some t → args[j]? = some v → Value.okWide Tryz.prog W .any base t v := hval0
 have hW' := hW
 obtain ⟨p, q, hA0, hV, rfl, hfz, hnd⟩ := hW
 have hA : DataW.TrodAll enc Tryz.prog W 0 (fun _ => true) true Tryz.f7.params.toList args.toList ds p := hA0
 rw [Tryz.params7] at hA hval
 obtain ⟨v0, vs0, d0, ds0, p0, q0, hargs, rfl, rfl, h0, r0⟩ := trodAll_cons hA
 obtain ⟨v1, vs1, d1, ds1, p1, q1, rfl, rfl, rfl, h1, r1⟩ := trodAll_cons r0
 obtain ⟨v2, vs2, d2, ds2, p2, q2, rfl, rfl, rfl, h2, r2⟩ := trodAll_cons r1
 obtain ⟨rfl, rfl, rfl⟩ := trodAll_nil r2
 obtain rfl : args = #[v0, v1, v2] := by cases args; simp_all
 obtain ⟨rfl, rfl⟩ := trodVars_none hV
 have k0 := h0
 have lt0 : ∀ x ∈ p0, x.block < W.heap.size := by obtain ⟨m, hm⟩ := k0; exact DataW.trod_lt m _ _ _ hm
 have k1 := h1
 have lt1 : ∀ x ∈ p1, x.block < W.heap.size := by obtain ⟨m, hm⟩ := k1; exact DataW.trod_lt m _ _ _ hm
 have k2 := h2
 have lt2 : ∀ x ∈ p2, x.block < W.heap.size := by obtain ⟨m, hm⟩ := k2; exact DataW.trod_lt m _ _ _ hm
 obtain ⟨n0, c0, vM0, vR0, m01, m02, y01, y02, rfl, f01, f02⟩ := open_priced (hval 0 35 v0 rfl rfl) h0
 obtain ⟨xs0, hx0, _⟩ := rl_of_trod Tryz.underlying30 Tryz.underlying63 (by kernel_rfl) f01
 obtain ⟨rs0, hr0, _⟩ := rl_of_trod Tryz.underlying33 Tryz.underlying2 (by kernel_rfl) f02
 obtain ⟨n1, rfl⟩ := okWide_int Tryz.underlying3 (hval 1 3 v1 rfl rfl)
 have hwf1 : (Lit.int .i64 n1).wf = true := by
  obtain ⟨m3, hm3⟩ := h1
  obtain ⟨nn, e1, _, e2⟩ := DataW.trod_int Tryz.underlying3 hm3
  have e3 : nn = n1 := by have e4 : [Value.int .i64 n1] = [Value.int .i64 nn] := e1; simpa [eq_comm] using e4
  rwa [e3] at e2
 obtain ⟨a2, l2, c2, rfl⟩ := okWide_slice Tryz.underlying33 (hval 2 33 v2 rfl rfl)
 obtain ⟨xs2, hx2, _⟩ : ∃ xs, RL W.heap.size W (.slice a2 l2 c2) xs ∧ ∀ n ∈ xs, (Lit.int .i64 n).wf = true := by
  obtain ⟨m1, hm1⟩ := h2
  exact rl_of_trod Tryz.underlying33 Tryz.underlying2 (by kernel_rfl) hm1
 clear hA0 hval0
 refine ((fun W h0 h1 _ h3 => law_priced_clears _ _ _ _ _ _ _ _ _ W h0 h1 h3) W hx0 hr0 hwf1 hx2).mono fun e W' ⟨he, bel⟩ => ?_
 subst he
 exact ⟨_, rfl, _, _, _, [], _, [], hW', trodAll_mk1 (shut_bool Tryz.underlying4 _), (trodAll_cons_mk (Below.trod laidOutWcRow (by kernel_rfl) (of_decide_eq_true (by kernel_rfl)) k0 bel lt0) (trodAll_cons_mk (Below.trod laidOutWcRow (by kernel_rfl) (of_decide_eq_true (by kernel_rfl)) k1 bel lt1) (trodAll_cons_mk (Below.trod laidOutWcRow (by kernel_rfl) (of_decide_eq_true (by kernel_rfl)) k2 bel lt2) trodAll_mk0))), rfl, bel.frame _, fun h => by cases h⟩
theorem priced_clears_over : Rows.pricedClearsRow.holds Tryz.pinned (OpenSpec.ofChange Rows.pricedClearsSpec) :=
 OpenClaim.holds_of_wide 7 Tryz.f7 rfl rfl rfl rfl rfl rfl rfl ⟨rfl, rfl, rfl, rfl, rfl⟩ rfl rfl rfl rfl rfl (by kernel_rfl) Tryz.func7 (by kernel_rfl)
  (of_decide_eq_true (by kernel_rfl)) (by unfold Func.isWrapper; first | (rw [if_pos (by decide +kernel)]; kernel_rfl) | (rw [if_neg (by decide +kernel)]; exact ⟨rfl, rfl⟩))
  (fun os started H enc _ => priced_clears_lifted os started H enc)
theorem priced_clears_proved : Rows.PricedClearsSaid := priced_clears_over
#print axioms priced_clears_proved
end Go.Proofs.YtfphlpglgcmljaaGreat
