/- Middle of both sides: the simplest number between two. -/
import Derived.Test.YtkgaipcgdldfdaaMidP
import Derived.Test.YtkgaipcgdldfdaaRcm
import Derived.Test.YtkgaipcgdldfdaaPrat
import Derived.Test.YtkgaipcgdldfdaaLit
namespace Go.Proofs.Ytkgaipcgdldfdaa
open Go.RowKit
set_option linter.unusedVariables false

theorem mul_le2 {a b A B : Int} (ha : 0 ≤ a) (hb : 0 ≤ b) (h1 : a ≤ A) (h2 : b ≤ B) : 0 ≤ a * b ∧ a * b ≤ A * B :=
  ⟨Int.mul_nonneg ha hb, Int.le_trans (Int.mul_le_mul_of_nonneg_right h1 hb) (Int.mul_le_mul_of_nonneg_left h2 (by omega))⟩
/-- The bounds of a step's numbers, with names for the products. -/
theorem MidE.bds {n d m e : Int} (h : MidE n d m e) : (0 ≤ (n / d + 1) * e ∧ (n / d + 1) * e ≤ 4611686016279904256) ∧ (0 ≤ n / d * e ∧ n / d * e ≤ 4611686014132420609) ∧ (0 ≤ n / d * d ∧ n / d * d ≤ n) := by
  obtain ⟨k0, k1, k2, k3⟩ := h.k
  have a1 := mul_le2 (show 0 ≤ n / d + 1 by omega) h.e0 (show n / d + 1 ≤ 2147483648 by omega) h.be
  have a2 := mul_le2 k0 h.e0 k1 h.be
  have a3 := mul_le2 k0 (show (0 : Int) ≤ d by have := h.d0; omega) k1 h.bd
  exact ⟨⟨a1.1, by omega⟩, ⟨a2.1, by omega⟩, ⟨a3.1, by omega⟩⟩

set_option maxHeartbeats 2000000 in
theorem ref_simplest : ∀ (f : Nat) (n d m e : Int) (w : World), MidE n d m e → d + e ≤ f →
    Calls Try.prog 139 #[.int .i64 n, .int .i64 d, .int .i64 m, .int .i64 e] w fun r w' => IE (midF f n d m e) r ∧ Below w.heap.size w w' := by
  intro f
  induction f with
  | zero => intro n d m e w h hf; have := h.d0; have := h.e0; omega
  | succ f ih =>
    intro n d m e w h hf
    obtain ⟨⟨x1, x2⟩, ⟨x3, x4⟩, ⟨x5, x6⟩⟩ := h.bds
    obtain ⟨k0, k1, _, _⟩ := h.k
    have b1 := h.n0
    have b2 := h.d0
    have b3 := h.e0
    have b4 := h.bn
    have b5 := h.bd
    have b6 := h.bm
    have b7 := h.be
    have b8 := h.m0
    have HN := Lib.hid (fun hn => (h.next hn))
    have HB := Lib.hid (mid_bd _ _ _ _ _ h hf)
    have HIH := Lib.hid ih
    have HF := Lib.hid hf
    have HFl := Lib.hid (fun (w : World) => r1_floor0 n d w (by omega) (by omega) (by omega) (by omega))
    have w1' : IntKind.i64.wrap ((n / d + 1) * e) = (n / d + 1) * e := by rw [IntKind.wrap_i64]; omega
    have w2' : IntKind.i64.wrap (n / d * e) = n / d * e := by rw [IntKind.wrap_i64]; omega
    have w3' : IntKind.i64.wrap (n / d * d) = n / d * d := by rw [IntKind.wrap_i64]; omega
    by_cases hc : e = 0 ∨ (n / d + 1) * e < m
    · have HR := Lib.hid (show midF (f + 1) n d m e = (n / d + 1, 1) from midF_yes hc)
      clear h ih hf HIH HN HB
      rcases hc with rfl | hc
      · go_enter Try.func139, Try.ntmps139
        go_wp2_with fail
        refine (HFl.out _).mono ?_
        rintro r w1 ⟨rfl, rfl⟩
        go_wp2_with fail
        go_ret2
        exact ⟨IE.of HR.out, Below.refl _ _⟩
      · by_cases he : e = 0
        · subst he
          go_enter Try.func139, Try.ntmps139
          go_wp2_with fail
          refine (HFl.out _).mono ?_
          rintro r w1 ⟨rfl, rfl⟩
          go_wp2_with fail
          go_ret2
          exact ⟨IE.of HR.out, Below.refl _ _⟩
        · have he' : (e == 0) = false := by simpa using he
          have hc' : decide ((n / d + 1) * e < m) = true := by simpa using hc
          generalize hQ : n / d = k at *
          generalize hX : (k + 1) * e = X at *
          go_enter Try.func139, Try.ntmps139
          go_wp2_with fail
          refine (HFl.out _).mono ?_
          rintro r w1 ⟨rfl, rfl⟩
          go_wp2_with fail
          go_ret2
          exact ⟨IE.of HR.out, Below.refl _ _⟩
    · have HR := Lib.hid (midF_no (f := f) hc)
      have HX := Lib.hid (h.next hc)
      have he' : (e == 0) = false := by simpa using fun c => hc (.inl c)
      have hc' : decide ((n / d + 1) * e < m) = false := by simpa using fun c => hc (.inr c)
      have HD := Lib.hid (mid_bd _ _ _ _ _ HX.out.1 (show (m - n / d * e) + (n - n / d * d) ≤ f by have := HX.out.2.1; have := HF.out; omega))
      have HC := Lib.hid (fun (w : World) => HIH.out _ _ _ _ w HX.out.1 (show (m - n / d * e) + (n - n / d * d) ≤ f by have := HX.out.2.1; have := HF.out; omega))
      have HS := Lib.hid (HB.out)
      rw [HR.out] at HS
      clear h ih hf HIH HN HB hc
      obtain ⟨n1, n2, n3⟩ := HX.out
      have c1 := n1.d0
      have c2 := n1.e0
      have c3 := n1.bd
      have c4 := n1.be
      clear n1
      generalize hQ : n / d = k at *
      generalize hX : (k + 1) * e = X at *
      generalize hY : k * e = Y at *
      generalize hZ : k * d = Z at *
      generalize hR2 : midF f e (m - Y) d (n - Z) = R at *
      have b9 := HD.out.1
      have b10 := HD.out.2.1
      have b11 := HD.out.2.2.1
      have b12 := HD.out.2.2.2
      have b13 := HS.out.1
      have b14 := HS.out.2.2.1
      have b15 : 0 ≤ k * R.1 := Int.mul_nonneg k0 b9
      simp only at b13 b14
      have w4' : IntKind.i64.wrap (k * R.1) = k * R.1 := by rw [IntKind.wrap_i64]; omega
      obtain ⟨p, q⟩ := R
      simp only at b9 b10 b11 b12 b13 b14 b15 w4'
      generalize hW : k * p = U at *
      go_enter Try.func139, Try.ntmps139
      go_wp2_with fail
      refine (HFl.out _).mono ?_
      rintro r w1 ⟨rfl, rfl⟩
      go_wp2_with fail
      refine (HC.out _).mono ?_
      rintro r w1 ⟨hr, hb1⟩
      obtain rfl : r = .returned (.tuple #[.int .i64 p, .int .i64 q]) := hr
      go_wp2_with fail
      go_ret2
      exact ⟨IE.of HR.out, hb1⟩
end Go.Proofs.Ytkgaipcgdldfdaa
