/- The row of WidenAlike, from the law on its walk. -/
import Derived.Test.YtmjpcakikflcfaaFrame2
import Derived.Test.YtmjpcakikflcfaaRows
import Derived.WalkKit
import Derived.ProofKit
import Derived.OpenShut
import Derived.ShutString
import Derived.ChangeOld
import Derived.Below
import Derived.Lib.SmallJoins
namespace Go.Proofs.Ytmjpcakikflcfaa
open Go.ChangeShapes Go.WideShapes Go.ChangeAt Go.RowKit
open Go.ChangeMaps (open_string shut_string)
set_option linter.unusedVariables false

theorem ownKnobA : ownKnob Try.prog.godebug = none := by kernel_rfl
theorem laidOutA : laidOutB Try.prog = true := by kernel_rfl

def LawAl (fn : Nat) : Prop := ∀ (n : Int) (v kv pv : Value) (xs kk : List Int) (ps : List (Int × Int)) (w : World), RL w.heap.size w v xs → RL w.heap.size w kv kk → RQ w.heap.size w pv ps →
    Calls Try.prog fn #[.agg #[.int .i64 n, v], kv, pv] w fun e w' => e = .returned (.bool true) ∧ Below w.heap.size w w'

theorem ratio_intsA : ∀ (j : Nat) (f : Field), (match Try.prog.underlying 48 with | some (.struct fs) => fs | _ => #[])[j]? = some f → Try.prog.underlying f.type = some (.int .i64) := by
  intro j f h
  rw [Try.underlying48] at h
  match j, h with
  | 0, h => cases h; exact Try.underlying2
  | 1, h => cases h; exact Try.underlying2
  | j + 2, h => simp at h
set_option maxRecDepth 100000 in
theorem wa_lifted (law : LawAl 6) (os : Os) (started : os.Started) (H : Type) (enc : TypeId × Value → H) :
    ReturnsInHanded {} Try.checked os 6 .any (Rows.widenAlikeSpec.pre6 enc Try.prog Try.f6 Rows.widenAlikeRow.domain false) (Rows.widenAlikeSpec.post enc Try.prog Try.f6 false true false false) := by
  refine returnsInHanded_of_change (C := Try.checked) ownKnobA started (by kernel_rfl) Try.func6
    (ChangeSpec.witness6 (enc := enc) (C := Try.checked) false ⟨#[], #[.agg #[.int .i64 0, .slice none 0 0], .slice none 0 0, .slice none 0 0], []⟩ 8 (by kernel_rfl) (by kernel_rfl) (by kernel_rfl) (by kernel_rfl)) ?_
  intro W base args ds gs before hval0 hW hcnd _
  have hval : ∀ (j : Nat) t v, Try.f6.params[j]? = some t → args[j]? = some v → Value.okWide Try.prog W .any base t v := hval0
  have hW' := hW
  obtain ⟨p, q, hA0, hV, rfl, hfz, hnd⟩ := hW
  have hA : DataW.TrodAll enc Try.prog W 0 (fun _ => true) true Try.f6.params.toList args.toList ds p := hA0
  rw [Try.params6] at hA hval
  obtain ⟨v0, vs0, d0, ds0, p0, q0, hargs, rfl, rfl, h0, r0⟩ := trodAll_cons hA
  obtain ⟨v1, vs1, d1, ds1, p1, q1, rfl, rfl, rfl, h1, r1⟩ := trodAll_cons r0
  obtain ⟨v2, vs2, d2, ds2, p2, q2, rfl, rfl, rfl, h2, r2⟩ := trodAll_cons r1
  obtain ⟨rfl, rfl, rfl⟩ := trodAll_nil r2
  obtain rfl : args = #[v0, v1, v2] := by cases args; simp_all
  obtain ⟨rfl, rfl⟩ := trodVars_none hV
  have k0 := h0
  have k1 := h1
  have k2 := h2
  have lt0 : ∀ x ∈ p0, x.block < W.heap.size := by obtain ⟨m, hm⟩ := k0; exact DataW.trod_lt m _ _ _ hm
  have lt1 : ∀ x ∈ p1, x.block < W.heap.size := by obtain ⟨m, hm⟩ := k1; exact DataW.trod_lt m _ _ _ hm
  have lt2 : ∀ x ∈ p2, x.block < W.heap.size := by obtain ⟨m, hm⟩ := k2; exact DataW.trod_lt m _ _ _ hm
  obtain ⟨u0, u1, y0, y1, m, rfl, _, _, f0, f1⟩ := Go.Joins.open_agg2 Try.underlying24 (by kernel_rfl) (by kernel_rfl) (hval 0 24 v0 rfl rfl) h0
  obtain ⟨n, hn, _, _⟩ := DataW.trod_int Try.underlying3 f0
  obtain rfl : u0 = .int .i64 n := by simpa using hn
  obtain ⟨xs, hxs, _⟩ := rl_of_trod Try.underlying22 Try.underlying49 (by kernel_rfl) f1
  obtain ⟨ao1, l1, c1, rfl⟩ := okWide_slice Try.underlying25 (hval 1 25 v1 rfl rfl)
  obtain ⟨lows, hlow⟩ : ∃ xs, RL W.heap.size W (.slice ao1 l1 c1) xs := by
    obtain ⟨m1, hm1⟩ := h1
    obtain ⟨zs, hz, _⟩ := rl_of_trod Try.underlying25 Try.underlying2 (by kernel_rfl) hm1
    exact ⟨zs, hz⟩
  obtain ⟨ao2, l2, c2, rfl⟩ := okWide_slice Try.underlying37 (hval 2 37 v2 rfl rfl)
  obtain ⟨ps, hps⟩ : ∃ ps, RQ W.heap.size W (.slice ao2 l2 c2) ps := by
    obtain ⟨m3, hm3⟩ := h2
    exact rq_of_trod Try.underlying37 Try.underlying48 (by kernel_rfl) (by kernel_rfl) (by kernel_rfl) ratio_intsA hm3
  clear hA0 hval0
  refine (law n u1 _ _ xs lows ps W hxs hlow hps).mono fun e W' ⟨he, bel⟩ => ?_
  subst he
  exact ⟨_, rfl, _, _, _, [], _, [], hW', trodAll_mk1 (shut_bool Try.underlying4 _),
    (trodAll_cons_mk (Below.trod laidOutA (by kernel_rfl) (of_decide_eq_true (by kernel_rfl)) k0 bel lt0)
      (trodAll_cons_mk (Below.trod laidOutA (by kernel_rfl) (of_decide_eq_true (by kernel_rfl)) k1 bel lt1)
        (trodAll_cons_mk (Below.trod laidOutA (by kernel_rfl) (of_decide_eq_true (by kernel_rfl)) k2 bel lt2) trodAll_mk0))), rfl, bel.frame _, fun h => by cases h⟩

theorem wa_over (law : LawAl 6) : Rows.widenAlikeRow.holds Try.pinned (OpenSpec.ofChange Rows.widenAlikeSpec) :=
  OpenClaim.holds_of_wide 6 Try.f6 rfl rfl rfl rfl rfl rfl rfl ⟨rfl, rfl, rfl, rfl, rfl⟩ rfl rfl rfl rfl rfl (by kernel_rfl) Try.func6 (by kernel_rfl)
    (of_decide_eq_true (by kernel_rfl)) (by unfold Func.isWrapper; first | (rw [if_pos (by decide +kernel)]; kernel_rfl) | (rw [if_neg (by decide +kernel)]; exact ⟨rfl, rfl⟩))
    (fun os started H enc _ => wa_lifted law os started H enc)
end Go.Proofs.Ytmjpcakikflcfaa
