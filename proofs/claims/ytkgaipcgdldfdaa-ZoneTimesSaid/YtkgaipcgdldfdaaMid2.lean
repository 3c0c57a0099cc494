/- The simplest number between two: as a function on integers, with its bounds. Middle of both sides: the simplest number between two. Middle of both sides. -/
import Derived.Test.YtkgaipcgdldfdaaRatP
import Derived.Test.YtkgaipcgdldfdaaRcm
import Derived.Test.YtkgaipcgdldfdaaPrat
import Derived.Test.YtkgaipcgdldfdaaLit
import Derived.Deep.DeepCutAuto
import Derived.BigQuiet
namespace Go.Proofs.Ytkgaipcgdldfdaa
set_option linter.unusedVariables false

/-- The simplest number between n / d and m / e (where e is 0: without an upper end); the first argument bounds the steps. -/
def midF : Nat → Int → Int → Int → Int → Int × Int
  | 0, _, _, _, _ => (0, 0)
  | f + 1, n, d, m, e =>
    if e = 0 ∨ (n / d + 1) * e < m then (n / d + 1, 1)
    else (n / d * (midF f e (m - n / d * e) d (n - n / d * d)).1 + (midF f e (m - n / d * e) d (n - n / d * d)).2, (midF f e (m - n / d * e) d (n - n / d * d)).1)
theorem midF_yes {f : Nat} {n d m e : Int} (h : e = 0 ∨ (n / d + 1) * e < m) : midF (f + 1) n d m e = (n / d + 1, 1) := by unfold midF; rw [if_pos h]
theorem midF_no {f : Nat} {n d m e : Int} (h : ¬ (e = 0 ∨ (n / d + 1) * e < m)) : midF (f + 1) n d m e = (n / d * (midF f e (m - n / d * e) d (n - n / d * d)).1 + (midF f e (m - n / d * e) d (n - n / d * d)).2, (midF f e (m - n / d * e) d (n - n / d * d)).1) := by
  conv => lhs; unfold midF
  rw [if_neg h]
/-- What holds of the two ends in each step. -/
structure MidE (n d m e : Int) : Prop where
  n0 : 0 ≤ n
  d0 : 1 ≤ d
  e0 : 0 ≤ e
  lt : n * e < m * d
  bn : n ≤ 2147483647
  bd : d ≤ 2147483647
  bm : m ≤ 2147483647
  be : e ≤ 2147483647
theorem MidE.m0 {n d m e : Int} (h : MidE n d m e) : 1 ≤ m := by
  rcases (show m < 1 ∨ 1 ≤ m by omega) with c | c
  · have h1 : m * d ≤ 0 := by
      have := Int.mul_le_mul_of_nonneg_right (show m ≤ 0 by omega) (show (0 : Int) ≤ d by have := h.d0; omega)
      simpa using this
    have h2 : 0 ≤ n * e := Int.mul_nonneg h.n0 h.e0
    have := h.lt
    omega
  · exact c
theorem MidE.k {n d m e : Int} (h : MidE n d m e) : 0 ≤ n / d ∧ n / d ≤ 2147483647 ∧ 0 ≤ n - n / d * d ∧ n - n / d * d < d := by
  have hd := h.d0
  have hm := Int.emod_add_mul_ediv n d
  have h1 := Int.emod_nonneg n (show d ≠ 0 by omega)
  have h2 := Int.emod_lt_of_pos n (show 0 < d by omega)
  have h3 : 0 ≤ n / d := Int.ediv_nonneg h.n0 (by omega)
  have h4 : n / d ≤ n := Int.ediv_le_self _ h.n0
  have h5 := h.bn
  rw [Int.mul_comm] at hm
  exact ⟨h3, by omega, by omega, by omega⟩
/-- The next step, where no integer lies between the ends. -/
theorem MidE.next {n d m e : Int} (h : MidE n d m e) (hn : ¬ (e = 0 ∨ (n / d + 1) * e < m)) : MidE e (m - n / d * e) d (n - n / d * d) ∧ (m - n / d * e) + (n - n / d * d) < d + e ∧ m - n / d * e ≤ e := by
  obtain ⟨k0, k1, k2, k3⟩ := h.k
  have hd := h.d0
  have he := h.e0
  have h1 : e ≠ 0 := fun c => hn (.inl c)
  have h2 : m ≤ (n / d + 1) * e := by
    rcases (show (n / d + 1) * e < m ∨ m ≤ (n / d + 1) * e by omega) with c | c
    · exact absurd (.inr c) hn
    · exact c
  rw [Int.add_mul, Int.one_mul] at h2
  -- m e' > ...
  have h3 : n / d * e < m := by
    rcases (show n / d * e < m ∨ m ≤ n / d * e by omega) with c | c
    · exact c
    · have a1 : m * d ≤ n / d * e * d := Int.mul_le_mul_of_nonneg_right c (by omega)
      have a2 : n / d * d ≤ n := by omega
      have a3 : n / d * d * e ≤ n * e := Int.mul_le_mul_of_nonneg_right a2 (by omega)
      have a4 : n / d * e * d = n / d * d * e := by rw [Int.mul_assoc, Int.mul_assoc, Int.mul_comm e d]
      have := h.lt
      omega
  refine ⟨⟨he, by omega, by omega, ?_, h.be, by have := h.be; omega, h.bd, by have := h.bd; omega⟩, by omega, by omega⟩
  rw [Int.mul_sub, Int.mul_sub]
  have a1 : e * (n / d * d) = d * (n / d * e) := by
    rw [Int.mul_comm e, Int.mul_comm d, Int.mul_assoc, Int.mul_assoc, Int.mul_comm d e]
  have a2 := h.lt
  rw [Int.mul_comm n e, Int.mul_comm m d] at a2
  omega
theorem mid_bd : ∀ (f : Nat) (n d m e : Int), MidE n d m e → d + e ≤ f → 0 ≤ (midF f n d m e).1 ∧ 0 ≤ (midF f n d m e).2 ∧ (midF f n d m e).1 ≤ n + m ∧ (midF f n d m e).2 ≤ d + e := by
  intro f
  induction f with
  | zero => intro n d m e h hf; have := h.d0; have := h.e0; omega
  | succ f ih =>
    intro n d m e h hf
    obtain ⟨k0, k1, k2, k3⟩ := h.k
    have hm := h.m0
    have hd := h.d0
    have he := h.e0
    have h4 : n / d ≤ n := Int.ediv_le_self _ h.n0
    unfold midF
    split
    · exact ⟨by simp only; omega, by simp only; omega, by simp only; omega, by simp only; omega⟩
    · rename_i hn
      obtain ⟨h1, h2, _⟩ := h.next hn
      obtain ⟨i1, i2, i3, i4⟩ := ih _ _ _ _ h1 (by omega)
      generalize midF f e (m - n / d * e) d (n - n / d * d) = r at *
      have j1 : n / d * r.1 ≤ n / d * (e + d) := Int.mul_le_mul_of_nonneg_left i3 k0
      have j2 : 0 ≤ n / d * r.1 := Int.mul_nonneg k0 i1
      rw [Int.mul_add] at j1
      exact ⟨by simp only; omega, by simp only; omega, by simp only; omega, by simp only; omega⟩
/-- What is taken off, put together from behind. -/
def midB : List Int → Int × Int → Int × Int
  | [], r => r
  | k :: ks, r => (k * (midB ks r).1 + (midB ks r).2, (midB ks r).1)
/-- The whole parts that are taken off. -/
def midL : Nat → Int → Int → Int → Int → List Int
  | 0, _, _, _, _ => []
  | f + 1, n, d, m, e =>
    if e = 0 ∨ (n / d + 1) * e < m then [n / d + 1]
    else n / d :: midL f e (m - n / d * e) d (n - n / d * d)
theorem midF_L : ∀ (f : Nat) (n d m e : Int), MidE n d m e → d + e ≤ f → midF f n d m e = midB (midL f n d m e) (1, 0) := by
  intro f
  induction f with
  | zero => intro n d m e h hf; have := h.d0; have := h.e0; omega
  | succ f ih =>
    intro n d m e h hf
    unfold midF midL
    split
    · simp [midB]
    · rename_i hn
      obtain ⟨h1, h2, _⟩ := h.next hn
      rw [ih _ _ _ _ h1 (by omega)]
      rfl
/-- A number between 0 and 2^31. -/
def In31 (x : Int) : Prop := 0 ≤ x ∧ x ≤ 4294967294
theorem midL_bd : ∀ (f : Nat) (n d m e : Int), MidE n d m e → d + e ≤ f → ∀ i, In31 (midB ((midL f n d m e).drop i) (1, 0)).1 ∧ In31 (midB ((midL f n d m e).drop i) (1, 0)).2 := by
  intro f
  induction f with
  | zero => intro n d m e h hf; have := h.d0; have := h.e0; omega
  | succ f ih =>
    intro n d m e h hf i
    cases i with
    | zero =>
      rw [List.drop_zero, ← midF_L _ _ _ _ _ h hf]
      obtain ⟨b1, b2, b3, b4⟩ := mid_bd _ _ _ _ _ h hf
      have := h.bn; have := h.bd; have := h.bm; have := h.be
      exact ⟨⟨b1, by omega⟩, ⟨b2, by omega⟩⟩
    | succ i =>
      unfold midL
      split
      · simp [midB, In31]
      · rename_i hn
        obtain ⟨h1, h2, _⟩ := h.next hn
        rw [List.drop_succ_cons]
        exact ih _ _ _ _ h1 (by omega) i
theorem midL_at : ∀ (f : Nat) (n d m e : Int), MidE n d m e → d + e ≤ f → ∀ i, i < (midL f n d m e).length → 0 ≤ gi (midL f n d m e) i ∧ gi (midL f n d m e) i ≤ 2147483648 := by
  intro f
  induction f with
  | zero => intro n d m e h hf; have := h.d0; have := h.e0; omega
  | succ f ih =>
    intro n d m e h hf i
    obtain ⟨k0, k1, k2, k3⟩ := h.k
    unfold midL
    split
    · intro hi
      have : i = 0 := by simpa using hi
      subst this
      simp only [gi, List.getD_cons_zero]
      omega
    · rename_i hn
      obtain ⟨h1, h2, _⟩ := h.next hn
      intro hi
      cases i with
      | zero => simp only [gi, List.getD_cons_zero]; omega
      | succ i =>
        have := ih _ _ _ _ h1 (by omega) i (by simpa using hi)
        simpa [gi] using this
theorem midL_len : ∀ (f : Nat) (n d m e : Int), (midL f n d m e).length ≤ f := by
  intro f
  induction f with
  | zero => intro n d m e; simp [midL]
  | succ f ih =>
    intro n d m e
    unfold midL
    split
    · simp
    · have := ih e (m - n / d * e) d (n - n / d * d)
      simp; omega
theorem midB_step (ks : List Int) (i : Nat) (hi : i < ks.length) : midB (ks.drop i) (1, 0) = (gi ks i * (midB (ks.drop (i + 1)) (1, 0)).1 + (midB (ks.drop (i + 1)) (1, 0)).2, (midB (ks.drop (i + 1)) (1, 0)).1) := by
  rw [List.drop_eq_getElem_cons hi]
  simp only [midB, gi, List.getD_eq_getElem?_getD, List.getElem?_eq_getElem hi, Option.getD_some]
end Go.Proofs.Ytkgaipcgdldfdaa
namespace Go.Proofs.Ytkgaipcgdldfdaa
open Go.RowKit
set_option linter.unusedVariables false

theorem mul_le2 {a b A B : Int} (ha : 0 ≤ a) (hb : 0 ≤ b) (h1 : a ≤ A) (h2 : b ≤ B) : 0 ≤ a * b ∧ a * b ≤ A * B :=
  ⟨Int.mul_nonneg ha hb, Int.le_trans (Int.mul_le_mul_of_nonneg_right h1 hb) (Int.mul_le_mul_of_nonneg_left h2 (by omega))⟩
/-- The bounds of a step's numbers, with names for the products. -/
theorem MidE.bds {n d m e : Int} (h : MidE n d m e) : (0 ≤ (n / d + 1) * e ∧ (n / d + 1) * e ≤ 4611686016279904256) ∧ (0 ≤ n / d * e ∧ n / d * e ≤ 4611686014132420609) ∧ (0 ≤ n / d * d ∧ n / d * d ≤ n) := by
  obtain ⟨k0, k1, k2, k3⟩ := h.k
  have a1 := mul_le2 (show 0 ≤ n / d + 1 by omega) h.e0 (show n / d + 1 ≤ 2147483648 by omega) h.be
  have a2 := mul_le2 k0 h.e0 k1 h.be
  have a3 := mul_le2 k0 (show (0 : Int) ≤ d by have := h.d0; omega) k1 h.bd
  exact ⟨⟨a1.1, by omega⟩, ⟨a2.1, by omega⟩, ⟨a3.1, by omega⟩⟩

set_option maxHeartbeats 2000000 in
theorem ref_simplest : ∀ (f : Nat) (n d m e : Int) (w : World), MidE n d m e → d + e ≤ f →
    Calls Try.prog 139 #[.int .i64 n, .int .i64 d, .int .i64 m, .int .i64 e] w fun r w' => IE (midF f n d m e) r ∧ Below w.heap.size w w' := by
  intro f
  induction f with
  | zero => intro n d m e w h hf; have := h.d0; have := h.e0; omega
  | succ f ih =>
    intro n d m e w h hf
    obtain ⟨⟨x1, x2⟩, ⟨x3, x4⟩, ⟨x5, x6⟩⟩ := h.bds
    obtain ⟨k0, k1, _, _⟩ := h.k
    have b1 := h.n0
    have b2 := h.d0
    have b3 := h.e0
    have b4 := h.bn
    have b5 := h.bd
    have b6 := h.bm
    have b7 := h.be
    have b8 := h.m0
    have HN := Lib.hid (fun hn => (h.next hn))
    have HB := Lib.hid (mid_bd _ _ _ _ _ h hf)
    have HIH := Lib.hid ih
    have HF := Lib.hid hf
    have HFl := Lib.hid (fun (w : World) => r1_floor0 n d w (by omega) (by omega) (by omega) (by omega))
    have w1' : IntKind.i64.wrap ((n / d + 1) * e) = (n / d + 1) * e := by rw [IntKind.wrap_i64]; omega
    have w2' : IntKind.i64.wrap (n / d * e) = n / d * e := by rw [IntKind.wrap_i64]; omega
    have w3' : IntKind.i64.wrap (n / d * d) = n / d * d := by rw [IntKind.wrap_i64]; omega
    by_cases hc : e = 0 ∨ (n / d + 1) * e < m
    · have HR := Lib.hid (show midF (f + 1) n d m e = (n / d + 1, 1) from midF_yes hc)
      clear h ih hf HIH HN HB
      rcases hc with rfl | hc
      · go_enter Try.func139, Try.ntmps139
        go_wp2_with fail
        refine (HFl.out _).mono ?_
        rintro r w1 ⟨rfl, rfl⟩
        go_wp2_with fail
        go_ret2
        exact ⟨IE.of HR.out, Below.refl _ _⟩
      · by_cases he : e = 0
        · subst he
          go_enter Try.func139, Try.ntmps139
          go_wp2_with fail
          refine (HFl.out _).mono ?_
          rintro r w1 ⟨rfl, rfl⟩
          go_wp2_with fail
          go_ret2
          exact ⟨IE.of HR.out, Below.refl _ _⟩
        · have he' : (e == 0) = false := by simpa using he
          have hc' : decide ((n / d + 1) * e < m) = true := by simpa using hc
          generalize hQ : n / d = k at *
          generalize hX : (k + 1) * e = X at *
          go_enter Try.func139, Try.ntmps139
          go_wp2_with fail
          refine (HFl.out _).mono ?_
          rintro r w1 ⟨rfl, rfl⟩
          go_wp2_with fail
          go_ret2
          exact ⟨IE.of HR.out, Below.refl _ _⟩
    · have HR := Lib.hid (midF_no (f := f) hc)
      have HX := Lib.hid (h.next hc)
      have he' : (e == 0) = false := by simpa using fun c => hc (.inl c)
      have hc' : decide ((n / d + 1) * e < m) = false := by simpa using fun c => hc (.inr c)
      have HD := Lib.hid (mid_bd _ _ _ _ _ HX.out.1 (show (m - n / d * e) + (n - n / d * d) ≤ f by have := HX.out.2.1; have := HF.out; omega))
      have HC := Lib.hid (fun (w : World) => HIH.out _ _ _ _ w HX.out.1 (show (m - n / d * e) + (n - n / d * d) ≤ f by have := HX.out.2.1; have := HF.out; omega))
      have HS := Lib.hid (HB.out)
      rw [HR.out] at HS
      clear h ih hf HIH HN HB hc
      obtain ⟨n1, n2, n3⟩ := HX.out
      have c1 := n1.d0
      have c2 := n1.e0
      have c3 := n1.bd
      have c4 := n1.be
      clear n1
      generalize hQ : n / d = k at *
      generalize hX : (k + 1) * e = X at *
      generalize hY : k * e = Y at *
      generalize hZ : k * d = Z at *
      generalize hR2 : midF f e (m - Y) d (n - Z) = R at *
      have b9 := HD.out.1
      have b10 := HD.out.2.1
      have b11 := HD.out.2.2.1
      have b12 := HD.out.2.2.2
      have b13 := HS.out.1
      have b14 := HS.out.2.2.1
      have b15 : 0 ≤ k * R.1 := Int.mul_nonneg k0 b9
      simp only at b13 b14
      have w4' : IntKind.i64.wrap (k * R.1) = k * R.1 := by rw [IntKind.wrap_i64]; omega
      obtain ⟨p, q⟩ := R
      simp only at b9 b10 b11 b12 b13 b14 b15 w4'
      generalize hW : k * p = U at *
      go_enter Try.func139, Try.ntmps139
      go_wp2_with fail
      refine (HFl.out _).mono ?_
      rintro r w1 ⟨rfl, rfl⟩
      go_wp2_with fail
      refine (HC.out _).mono ?_
      rintro r w1 ⟨hr, hb1⟩
      obtain rfl : r = .returned (.tuple #[.int .i64 p, .int .i64 q]) := hr
      go_wp2_with fail
      go_ret2
      exact ⟨IE.of HR.out, hb1⟩
end Go.Proofs.Ytkgaipcgdldfdaa
namespace Go.Proofs.Ytkgaipcgdldfdaa
open Go.RowKit
set_option linter.unusedVariables false

theorem cm_eq (a b c d : Int) : cmR a b c d = cmpR a b c d := by
  unfold cmR cmpR
  by_cases h : vr a b = true ∧ vr c d = true
  · rw [if_pos h, if_pos h]
    have e1 : (a * d - c * b < 0) = (a * d < c * b) := propext (by omega)
    have e2 : (0 < a * d - c * b) = (c * b < a * d) := propext (by omega)
    simp only [e1, e2]
  · rw [if_neg h, if_neg h]
/-- What Middle returns. -/
def midR (a b c d : Int) : (Int × Int) × Int := if (cmpR a b c d).2 ≠ 0 ∨ 0 ≤ (cmpR a b c d).1 then ((0, 0), 2) else mkR (midF (b + d).toNat a b c d).1 (midF (b + d).toNat a b c d).2
theorem midR_no {a b c d : Int} (h : (cmpR a b c d).2 ≠ 0 ∨ 0 ≤ (cmpR a b c d).1) : midR a b c d = ((0, 0), 2) := by unfold midR; rw [if_pos h]
theorem midR_yes {a b c d : Int} (h : ¬ ((cmpR a b c d).2 ≠ 0 ∨ 0 ≤ (cmpR a b c d).1)) : midR a b c d = mkR (midF (b + d).toNat a b c d).1 (midF (b + d).toNat a b c d).2 := by unfold midR; rw [if_neg h]
theorem midE_of {a b c d : Int} (ha : 0 ≤ a) (h : ¬ ((cmpR a b c d).2 ≠ 0 ∨ 0 ≤ (cmpR a b c d).1)) : MidE a b c d := by
  by_cases hv : vr a b = true ∧ vr c d = true
  · rw [cmpR_yes hv] at h
    obtain ⟨p1, p2, p3, p4, _⟩ := (vr_iff a b).1 hv.1
    obtain ⟨q1, q2, q3, q4, _⟩ := (vr_iff c d).1 hv.2
    have hlt : a * d < c * b := by
      by_cases c1 : a * d < c * b
      · exact c1
      · exfalso; apply h; right; simp only; rw [if_neg c1]; split <;> omega
    exact ⟨ha, p1, by omega, hlt, p4, p2, q4, q2⟩
  · rw [cmpR_no hv] at h; exact absurd (.inl (by simp)) h

theorem midL_yes {f : Nat} {n d m e : Int} (h : e = 0 ∨ (n / d + 1) * e < m) : midL (f + 1) n d m e = [n / d + 1] := by unfold midL; rw [if_pos h]
theorem midL_no {f : Nat} {n d m e : Int} (h : ¬ (e = 0 ∨ (n / d + 1) * e < m)) : midL (f + 1) n d m e = n / d :: midL f e (m - n / d * e) d (n - n / d * d) := by
  conv => lhs; unfold midL
  rw [if_neg h]
theorem Try.infoI64 : (Try.prog.info? 2).map (fun i => (i.zero, i.size, i.bytes)) = some (some (.int .i64 0), 1, 8) := by kernel_rfl
theorem Try.undI64s : Try.prog.underlying 121 = some (.slice 2) := by kernel_rfl
theorem pr_floor0 (n d : Int) (w : World) (h1 : 0 ≤ n) (h2 : n ≤ 9223372036854775807) (h3 : 1 ≤ d) (h4 : d ≤ 9223372036854775807) :
    Calls Try.prog 137 #[.int .i64 n, .int .i64 d] w fun e w' => e = .returned (.int .i64 (n / d)) ∧ w = w' := by
  have q1 : 0 ≤ n / d := Int.ediv_nonneg h1 (by omega)
  have q2 : n / d ≤ n := Int.ediv_le_self _ h1
  have t1 : n.tdiv d = n / d := Int.tdiv_eq_ediv_of_nonneg h1
  have hm := Int.emod_add_mul_ediv n d
  have hm1 := Int.emod_nonneg n (show d ≠ 0 by omega)
  rw [Int.mul_comm] at hm
  have q3 : n / d * d ≤ n := by omega
  have q4 : 0 ≤ n / d * d := Int.mul_nonneg q1 (by omega)
  have d0 : ¬ d = 0 := by omega
  clear hm hm1
  generalize hQ : n / d = q at *
  generalize hM : q * d = m at *
  have hw : IntKind.i64.wrap m = m := by rw [IntKind.wrap_i64]; omega
  have d1 : decide (n < m) = false := by simp; omega
  go_enter Try.func137, Try.ntmps137
  go_wp2_with fail
  go_ret
  exact ⟨rfl, rfl⟩
set_option maxRecDepth 100000 in
set_option maxHeartbeats 2000000 in
theorem r1_middle (a b c d : Int) (w : World) (ha : 0 ≤ a) :
    Calls Try.prog 98 #[.agg #[.int .i64 a, .int .i64 b], .agg #[.int .i64 c, .int .i64 d]] w fun e w' => RE (midR a b c d) e ∧ Below w.heap.size w w' := by
  have hloc0 := Loc.three w (.cells #[.int .i64 a, .int .i64 b] 48) (.cells #[.int .i64 c, .int .i64 d] 48) (.cells #[.int .i64 0, .int .i64 0] 48) none
  have HN := Lib.hid (fun h => midR_no (a := a) (b := b) (c := c) (d := d) h)
  have HY := Lib.hid (fun h => midR_yes (a := a) (b := b) (c := c) (d := d) h)
  have HE := Lib.hid (fun h => midE_of (a := a) (b := b) (c := c) (d := d) ha h)
  have HC := Lib.hid (fun w => r1_cmp a b c d w)
  generalize cmpR a b c d = C at *
  obtain ⟨k, x⟩ := C
  have err : ∀ h : (x ≠ 0 ∨ 0 ≤ k), True := fun _ => trivial
  by_cases hx : x = 0
  rotate_left
  · have e1 : (x != 0) = true := by simpa using hx
    have H := Lib.hid (HN.out (.inl hx))
    go_enter Try.func98, Try.ntmps98
    go_wp2_with fail
    refine (HC.out _).mono ?_
    rintro e w1 ⟨he, hb1⟩
    obtain rfl : e = .returned (.tuple #[.int .i64 k, .int .i64 x]) := he
    have hloc1 := hloc0.next (grownBy_below hb1 none) (fun _ h => by cases h)
    have r0 : w1.cell? ⟨w.heap.size + 1 + 1, 0, none⟩ = some (.int .i64 0) := hloc1.cell 2 rfl 0
    have r1 : w1.cell? ⟨w.heap.size + 1 + 1, 1, none⟩ = some (.int .i64 0) := hloc1.cell 2 rfl 1
    have r2 : w1.frozen? ⟨w.heap.size + 1 + 1, 0, none⟩ = false := hloc1.free 2 rfl 0
    have r3 : w1.frozen? ⟨w.heap.size + 1 + 1, 1, none⟩ = false := hloc1.free 2 rfl 1
    have Hb := Lib.hid (below_grownBy hloc1.grown)
    clear hb1 hloc0 hloc1
    go_wp2_with fail
    refine bodyPost_ret (v := .tuple #[.agg #[.int .i64 0, .int .i64 0], .int .i64 2]) (by simp [results, Try.results98, go_sem, r0, r1]) rfl ⟨RE.of H.out, ?_⟩
    exact (Hb.out.setCell (by simp; omega) _).setCell (by simp; omega) _
  by_cases hk : 0 ≤ k
  · subst hx
    have e2 : decide (0 ≤ k) = true := by simpa using hk
    have H := Lib.hid (HN.out (.inr hk))
    go_enter Try.func98, Try.ntmps98
    go_wp2_with fail
    refine (HC.out _).mono ?_
    rintro e w1 ⟨he, hb1⟩
    obtain rfl : e = .returned (.tuple #[.int .i64 k, .int .i64 0]) := he
    have hloc1 := hloc0.next (grownBy_below hb1 none) (fun _ h => by cases h)
    have r0 : w1.cell? ⟨w.heap.size + 1 + 1, 0, none⟩ = some (.int .i64 0) := hloc1.cell 2 rfl 0
    have r1 : w1.cell? ⟨w.heap.size + 1 + 1, 1, none⟩ = some (.int .i64 0) := hloc1.cell 2 rfl 1
    have r2 : w1.frozen? ⟨w.heap.size + 1 + 1, 0, none⟩ = false := hloc1.free 2 rfl 0
    have r3 : w1.frozen? ⟨w.heap.size + 1 + 1, 1, none⟩ = false := hloc1.free 2 rfl 1
    have Hb := Lib.hid (below_grownBy hloc1.grown)
    clear hb1 hloc0 hloc1
    go_wp2_with fail
    refine bodyPost_ret (v := .tuple #[.agg #[.int .i64 0, .int .i64 0], .int .i64 2]) (by simp [results, Try.results98, go_sem, r0, r1]) rfl ⟨RE.of H.out, ?_⟩
    exact (Hb.out.setCell (by simp; omega) _).setCell (by simp; omega) _
  subst hx
  have e2 : decide (0 ≤ k) = false := by simpa using hk
  have hE := HE.out (fun h => by rcases h with h | h; exact h rfl; exact hk h)
  have HR := Lib.hid (HY.out (fun h => by rcases h with h | h; exact h rfl; exact hk h))
  obtain ⟨F, hF⟩ : ∃ F, F = (b + d).toNat := ⟨_, rfl⟩
  have hdF : b + d ≤ (F : Int) := by have := hE.d0; have := hE.e0; omega
  rw [← hF] at HR
  have HFb := Lib.hid (show F ≤ 4294967294 by have := hE.bd; have := hE.be; omega)
  clear hF hk HN HY HE err
  have HB := Lib.hid (mid_bd _ _ _ _ _ hE hdF)
  have b1 := hE.n0
  have b2 := hE.d0
  have b3 := hE.e0
  have b4 := hE.bn
  have b5 := hE.bd
  have b6 := hE.bm
  have b7 := hE.be
  have HS := Lib.hid (fun w => ref_simplest F a b c d w hE hdF)
  generalize midF F a b c d = M at *
  obtain ⟨P, Q⟩ := M
  obtain ⟨g1, g2, g3, g4⟩ := HB.out
  simp only at g1 g2 g3 g4 HR
  go_enter Try.func98, Try.ntmps98
  go_wp2_with fail
  refine (HC.out _).mono ?_
  rintro e w1 ⟨he, hb1⟩
  obtain rfl : e = .returned (.tuple #[.int .i64 k, .int .i64 0]) := he
  have hloc1 := hloc0.next (grownBy_below hb1 none) (fun _ h => by cases h)
  have l0 : w1.cell? ⟨w.heap.size, 0, none⟩ = some (.int .i64 a) := hloc1.cell 0 rfl 0
  have l1 : w1.cell? ⟨w.heap.size, 1, none⟩ = some (.int .i64 b) := hloc1.cell 0 rfl 1
  have l2 : w1.cell? ⟨w.heap.size + 1, 0, none⟩ = some (.int .i64 c) := hloc1.cell 1 rfl 0
  have l3 : w1.cell? ⟨w.heap.size + 1, 1, none⟩ = some (.int .i64 d) := hloc1.cell 1 rfl 1
  clear hb1 hloc0
  go_wp2_with fail
  refine (HS.out _).mono ?_
  rintro e w2 ⟨he, hb2⟩
  obtain rfl : e = .returned (.tuple #[.int .i64 P, .int .i64 Q]) := he
  have hloc2 := hloc1.next (grownBy_below hb2 none) (fun _ h => by cases h)
  clear hb2 hloc1 l0 l1 l2 l3
  go_wp2_with fail
  refine (r1_make _ _ _ (by omega) (by omega) (by omega) (by omega)).mono ?_
  generalize hR : mkR P Q = R at *
  obtain ⟨⟨p, q⟩, x⟩ := R
  rintro e w3 ⟨he, hb3⟩
  obtain rfl : e = .returned (.tuple #[.agg #[.int .i64 p, .int .i64 q], .int .i64 x]) := he
  have hloc3 := hloc2.next (grownBy_below hb3 none) (fun _ h => by cases h)
  have r0 : w3.cell? ⟨w.heap.size + 1 + 1, 0, none⟩ = some (.int .i64 0) := hloc3.cell 2 rfl 0
  have r1 : w3.cell? ⟨w.heap.size + 1 + 1, 1, none⟩ = some (.int .i64 0) := hloc3.cell 2 rfl 1
  have r2 : w3.frozen? ⟨w.heap.size + 1 + 1, 0, none⟩ = false := hloc3.free 2 rfl 0
  have r3 : w3.frozen? ⟨w.heap.size + 1 + 1, 1, none⟩ = false := hloc3.free 2 rfl 1
  have Hb := Lib.hid (below_grownBy hloc3.grown)
  clear hb3 hloc2 hloc3 hR
  go_wp2_with fail
  refine bodyPost_ret (v := .tuple #[.agg #[.int .i64 p, .int .i64 q], .int .i64 x]) (by simp [results, Try.results98, go_sem, r0, r1]) rfl ⟨RE.of HR.out, ?_⟩
  exact (Hb.out.setCell (by simp; omega) _).setCell (by simp; omega) _
set_option maxRecDepth 100000 in
set_option maxHeartbeats 2000000 in
theorem pr_middle (a b c d : Int) (w : World) (ha : 0 ≤ a) (hA : I64 a) (hc : I64 c) :
    Calls Try.prog 96 #[.agg #[.int .i64 a, .int .i64 b], .agg #[.int .i64 c, .int .i64 d]] w fun e w' => RE (midR a b c d) e ∧ Below w.heap.size w w' := by
  have hloc0 := Loc.three w (.cells #[.int .i64 a, .int .i64 b] 48) (.cells #[.int .i64 c, .int .i64 d] 48) (.cells #[.int .i64 0, .int .i64 0] 48) none
  have HN := Lib.hid (fun h => midR_no (a := a) (b := b) (c := c) (d := d) h)
  have HY := Lib.hid (fun h => midR_yes (a := a) (b := b) (c := c) (d := d) h)
  have HE := Lib.hid (fun h => midE_of (a := a) (b := b) (c := c) (d := d) ha h)
  have HC := Lib.hid (fun w => pr_cmp a b c d w hA hc)
  rw [cm_eq] at HC
  generalize cmpR a b c d = C at *
  obtain ⟨k, x⟩ := C
  have err : ∀ h : (x ≠ 0 ∨ 0 ≤ k), True := fun _ => trivial
  by_cases hx : x = 0
  rotate_left
  · have e1 : (x != 0) = true := by simpa using hx
    have H := Lib.hid (HN.out (.inl hx))
    go_enter Try.func96, Try.ntmps96
    go_wp2_with fail
    refine (HC.out _).mono ?_
    rintro e w1 ⟨he, hb1⟩
    obtain rfl : e = .returned (.tuple #[.int .i64 k, .int .i64 x]) := he
    have hloc1 := hloc0.next (grownBy_below hb1 none) (fun _ h => by cases h)
    have r0 : w1.cell? ⟨w.heap.size + 1 + 1, 0, none⟩ = some (.int .i64 0) := hloc1.cell 2 rfl 0
    have r1 : w1.cell? ⟨w.heap.size + 1 + 1, 1, none⟩ = some (.int .i64 0) := hloc1.cell 2 rfl 1
    have r2 : w1.frozen? ⟨w.heap.size + 1 + 1, 0, none⟩ = false := hloc1.free 2 rfl 0
    have r3 : w1.frozen? ⟨w.heap.size + 1 + 1, 1, none⟩ = false := hloc1.free 2 rfl 1
    have Hb := Lib.hid (below_grownBy hloc1.grown)
    clear hb1 hloc0 hloc1
    go_wp2_with fail
    refine bodyPost_ret (v := .tuple #[.agg #[.int .i64 0, .int .i64 0], .int .i64 2]) (by simp [results, Try.results96, go_sem, r0, r1]) rfl ⟨RE.of H.out, ?_⟩
    exact (Hb.out.setCell (by simp; omega) _).setCell (by simp; omega) _
  by_cases hk : 0 ≤ k
  · subst hx
    have e2 : decide (0 ≤ k) = true := by simpa using hk
    have H := Lib.hid (HN.out (.inr hk))
    go_enter Try.func96, Try.ntmps96
    go_wp2_with fail
    refine (HC.out _).mono ?_
    rintro e w1 ⟨he, hb1⟩
    obtain rfl : e = .returned (.tuple #[.int .i64 k, .int .i64 0]) := he
    have hloc1 := hloc0.next (grownBy_below hb1 none) (fun _ h => by cases h)
    have r0 : w1.cell? ⟨w.heap.size + 1 + 1, 0, none⟩ = some (.int .i64 0) := hloc1.cell 2 rfl 0
    have r1 : w1.cell? ⟨w.heap.size + 1 + 1, 1, none⟩ = some (.int .i64 0) := hloc1.cell 2 rfl 1
    have r2 : w1.frozen? ⟨w.heap.size + 1 + 1, 0, none⟩ = false := hloc1.free 2 rfl 0
    have r3 : w1.frozen? ⟨w.heap.size + 1 + 1, 1, none⟩ = false := hloc1.free 2 rfl 1
    have Hb := Lib.hid (below_grownBy hloc1.grown)
    clear hb1 hloc0 hloc1
    go_wp2_with fail
    refine bodyPost_ret (v := .tuple #[.agg #[.int .i64 0, .int .i64 0], .int .i64 2]) (by simp [results, Try.results96, go_sem, r0, r1]) rfl ⟨RE.of H.out, ?_⟩
    exact (Hb.out.setCell (by simp; omega) _).setCell (by simp; omega) _
  subst hx
  have e2 : decide (0 ≤ k) = false := by simpa using hk
  have hE := HE.out (fun h => by rcases h with h | h; exact h rfl; exact hk h)
  have HR := Lib.hid (HY.out (fun h => by rcases h with h | h; exact h rfl; exact hk h))
  obtain ⟨F, hF⟩ : ∃ F, F = (b + d).toNat := ⟨_, rfl⟩
  have hdF : b + d ≤ (F : Int) := by have := hE.d0; have := hE.e0; omega
  rw [← hF] at HR
  have HFb := Lib.hid (show F ≤ 4294967294 by have := hE.bd; have := hE.be; omega)
  clear hF hk HN HY HE err
  have HB := Lib.hid (mid_bd _ _ _ _ _ hE hdF)
  have b1 := hE.n0
  have b2 := hE.d0
  have b3 := hE.e0
  have b4 := hE.bn
  have b5 := hE.bd
  have b6 := hE.bm
  have b7 := hE.be
  obtain ⟨L, hL⟩ : ∃ L, L = midL F a b c d := ⟨_, rfl⟩
  have hBR := midF_L _ _ _ _ _ hE hdF
  have HLb := Lib.hid (midL_bd _ _ _ _ _ hE hdF)
  have HLa := Lib.hid (midL_at _ _ _ _ _ hE hdF)
  have hLl := midL_len F a b c d
  rw [← hL] at hBR HLb HLa hLl
  have HLl := Lib.hid (show L.length ≤ 4294967294 from Nat.le_trans hLl HFb.out)
  rw [hBR] at HR
  obtain ⟨B, hBd⟩ : ∃ B : Nat → Int × Int, B = fun j => midB (L.drop j) (1, 0) := ⟨_, rfl⟩
  have HB0 := Lib.hid (show B L.length = (1, 0) by rw [hBd]; simp only; rw [List.drop_length]; rfl)
  have HBs := Lib.hid (show ∀ j, j < L.length → B j = (gi L j * (B (j + 1)).1 + (B (j + 1)).2, (B (j + 1)).1) from fun j hj => by rw [hBd]; exact midB_step L j hj)
  have HBb := Lib.hid (show ∀ j, In31 (B j).1 ∧ In31 (B j).2 from fun j => by rw [hBd]; exact HLb.out j)
  have HR := Lib.hid (show midR a b c d = mkR (B 0).1 (B 0).2 by rw [hBd]; exact HR.out)
  clear hBR HB hLl hBd HLb
  have HLe := Lib.hid hL.symm
  have HEE := Lib.hid hE
  have HdF := Lib.hid hdF
  obtain ⟨i0, hi, hz0, hz1, hz2⟩ := info_parts Try.infoI64
  have Hi := Lib.hid hi
  have Hz0 := Lib.hid hz0
  have Hz1 := Lib.hid hz1
  have Hz2 := Lib.hid hz2
  clear hi hz0 hz1 hz2 hE hdF hL
  go_enter Try.func96, Try.ntmps96
  go_wp2_with fail
  refine (HC.out _).mono ?_
  rintro e w1 ⟨he, hb1⟩
  obtain rfl : e = .returned (.tuple #[.int .i64 k, .int .i64 0]) := he
  have hloc1 := hloc0.next (grownBy_below hb1 none) (fun _ h => by cases h)
  have l0 : w1.cell? ⟨w.heap.size, 0, none⟩ = some (.int .i64 a) := hloc1.cell 0 rfl 0
  have l1 : w1.cell? ⟨w.heap.size, 1, none⟩ = some (.int .i64 b) := hloc1.cell 0 rfl 1
  have l2 : w1.cell? ⟨w.heap.size + 1, 0, none⟩ = some (.int .i64 c) := hloc1.cell 1 rfl 0
  have l3 : w1.cell? ⟨w.heap.size + 1, 1, none⟩ = some (.int .i64 d) := hloc1.cell 1 rfl 1
  clear hb1 hloc0
  have Hloc1 := Lib.hid hloc1
  clear hloc1 b1 b2 b3 b4 b5 b6 b7
  go_upto_region 5 with fail
  go_quiet (fail)
  have Hloc2 := Lib.hid (Hloc1.out.next (grownBy_below (below_drewN w1 nq) none) (fun _ h => by cases h))
  generalize w1.drewN nq = W1 at *
  clear l0 l1 l2 l3 Hloc1
  go_wp2_with fail
  go_loopw [8, 9, 10, 11, 12] (fun o n' d' m' e' wr => ∃ (n D m E : Int) (f : Nat) (ks : List Int), n' = .int .i64 n ∧ d' = .int .i64 D ∧ m' = .int .i64 m ∧ e' = .int .i64 E ∧ MidE n D m E ∧ D + E ≤ f ∧ L = ks ++ midL f n D m E ∧ OL 2 (w.heap.size + 3) wr o ks ∧ Loc w wr none [.cells #[.int .i64 a, .int .i64 b] 48, .cells #[.int .i64 c, .int .i64 d] 48, .cells #[.int .i64 0, .int .i64 0] 48]) (fun _ _ d' _ e' _ => (intOf d' + intOf e').toNat)
  case atStart => exact ⟨a, b, c, d, F, [], rfl, rfl, rfl, rfl, HEE.out, HdF.out, HLe.out.symm, OL.nil _ _ _, Hloc2.out⟩
  case round =>
    clear Hloc2
    obtain ⟨n, D, m, E, f, ks, rfl, rfl, rfl, rfl, hE, hf, hL, hown, hloc⟩ := hrel
    obtain ⟨⟨x1, x2⟩, ⟨x3, x4⟩, ⟨x5, x6⟩⟩ := hE.bds
    obtain ⟨k0, k1, k2, k3⟩ := hE.k
    have b1 := hE.n0
    have b2 := hE.d0
    have b3 := hE.e0
    have b4 := hE.bn
    have b5 := hE.bd
    have b6 := hE.bm
    have b7 := hE.be
    have b8 := hE.m0
    obtain ⟨f, rfl⟩ : ∃ f', f = f' + 1 := ⟨f - 1, by omega⟩
    have HNX := Lib.hid (fun hn => (hE.next hn))
    have HFl := Lib.hid (fun (w : World) => pr_floor0 n D w (by omega) (by omega) (by omega) (by omega))
    have HEo := Lib.hid hE
    have Hf := Lib.hid hf
    have w1' : IntKind.i64.wrap ((n / D + 1) * E) = (n / D + 1) * E := by rw [IntKind.wrap_i64]; omega
    have w2' : IntKind.i64.wrap (n / D * E) = n / D * E := by rw [IntKind.wrap_i64]; omega
    have w3' : IntKind.i64.wrap (n / D * D) = n / D * D := by rw [IntKind.wrap_i64]; omega
    have Hown := Lib.hid hown
    have Hloc := Lib.hid hloc
    have Hkl := Lib.hid (show ks.length ≤ 4294967294 by have := HLl.out; rw [hL, List.length_append] at this; omega)
    have Hws := Lib.hid (show w.heap.size + 3 ≤ wr.heap.size from hloc.size)
    clear hE hf hown hloc
    by_cases hc : E = 0 ∨ (n / D + 1) * E < m
    · have HLk := Lib.hid (show L = ks ++ [n / D + 1] by rw [hL, midL_yes hc])
      clear hL HNX HEo Hf
      have hcc : (E == 0) = true ∨ ((E == 0) = false ∧ decide ((n / D + 1) * E < m) = true) := by
        by_cases he : E = 0
        · left; simpa using he
        · right; exact ⟨by simpa using he, by rcases hc with h | h; exact absurd h he; simpa using h⟩
      have Hcc := Lib.hid hcc
      clear hc hcc
      generalize hQ : n / D = k at *
      generalize hX : (k + 1) * E = X at *
      go_upto_region 7 with (go_at_call 137; refine (HFl.out _).mono ?_; rintro r w5 ⟨rfl, rfl⟩)
      go_cut [50] (fun s50 wx => s50 = .bool true ∧ wx = wr)
      case first =>
        rcases Hcc.out with h | ⟨h, h'⟩
        · go_wp2_with fail
          go_meet
          exact ⟨rfl, rfl⟩
        · go_wp2_with fail
          go_meet
          exact ⟨rfl, rfl⟩
      case rest =>
        obtain ⟨rfl, hwc⟩ := hcut
        subst hwc
        clear x1 x2 x3 x4 x5 x6 w1' w2' w3'
        have hkb : 0 ≤ k + 1 ∧ k + 1 ≤ 9223372036854775807 := by omega
        go_wp2_with (at_builtin; (refine wpList_append_rs rfl (.tmp 51) (.tmp 54) 121 rfl (w.heap.size + 3) 2 i0 (.int .i64 0) 1 8 Try.undI64s Hi.out Hz0.out Hz1.out Hz2.out rfl (by decide) u8 ks.length (ks.map (Value.int .i64)) rfl ?_ (wc.heap.size + 1) (.slice (some ⟨wc.heap.size, 0, none⟩) 1 1) rfl 1 [.int .i64 (k + 1)] ?_ rfl ?_ ?_ ?_ ?_ ?_; (exact World.ownsRow.alloc Hown.out _); (exact rl_lit (xs := [k + 1]) rfl rfl (by simp)); (exact ints_oneCell' [k + 1]); (have := Hkl.out; unfold maxLen; omega); (have := Hkl.out; omega); (simp; have := Hws.out; omega); intro v' w' ho' hg'; (have hoL : OL 2 (w.heap.size + 3) w' v' L := by (rw [HLk.out]; unfold OL; rw [List.length_append, List.map_append]; exact ho')); obtain ⟨g, cap, rfl, _, _, hLle, hgc⟩ := hoL.open (by rw [HLk.out]; simp)))
        have Hlo2 := Lib.hid ((Hloc.out.next (World.grownBy_alloc wc (.cells #[.int .i64 (k + 1)] 2) none) (fun _ h => by cases h)).anyrow hg' (fun g e => (World.ownsRow.lt Hown.out g e).1))
        clear ho' hg'
        have Hg := Lib.hid hgc
        clear hoL hgc HLk k0 k1 k2 k3 b1 b2 b3 b4 b5 b6 b7 b8 hkb Hown Hloc Hkl Hws HFl Hcc
        go_loopw [14, 15, 16] (fun p' q' i wx => ∃ (I : Int) (j : Nat), j ≤ L.length ∧ I = (j : Int) - 1 ∧ p' = .int .i64 (B j).1 ∧ q' = .int .i64 (B j).2 ∧ i = .int .i64 I ∧ w' = wx) (fun _ _ i _ => (intOf i + 1).toNat)
        case atStart => exact ⟨_, L.length, Nat.le_refl _, rfl, by rw [HB0.out], by rw [HB0.out], rfl, rfl⟩
        case round =>
          obtain ⟨I, j, hj, hI, rfl, rfl, rfl, hwx⟩ := hrel
          subst hwx
          cases j with
          | zero =>
            obtain rfl : I = -1 := hI
            obtain ⟨⟨m1, m2⟩, m3, m4⟩ := HBb.out 0
            have hloc2 := Hlo2.out
            generalize B 0 = M at *
            obtain ⟨P, Q⟩ := M
            simp only at m1 m2 m3 m4 HR
            clear hLle
            go_wp2_with fail

            refine (pr_make _ _ _ (by omega) (by omega) (by omega) (by omega)).mono ?_
            generalize hR : mkR P Q = R at *
            obtain ⟨⟨p, q⟩, x⟩ := R
            rintro e w3 ⟨he, hb3⟩
            obtain rfl : e = .returned (.tuple #[.agg #[.int .i64 p, .int .i64 q], .int .i64 x]) := he
            have hloc3 := hloc2.next (grownBy_below hb3 none) (fun _ h => by cases h)
            have r0 : w3.cell? ⟨w.heap.size + 1 + 1, 0, none⟩ = some (.int .i64 0) := hloc3.cell 2 rfl 0
            have r1 : w3.cell? ⟨w.heap.size + 1 + 1, 1, none⟩ = some (.int .i64 0) := hloc3.cell 2 rfl 1
            have r2 : w3.frozen? ⟨w.heap.size + 1 + 1, 0, none⟩ = false := hloc3.free 2 rfl 0
            have r3 : w3.frozen? ⟨w.heap.size + 1 + 1, 1, none⟩ = false := hloc3.free 2 rfl 1
            have Hb := Lib.hid (below_grownBy hloc3.grown)
            clear hb3 hloc2 hloc3 hR
            go_wp2_with fail
            refine bodyPost_ret (v := .tuple #[.agg #[.int .i64 p, .int .i64 q], .int .i64 x]) (by simp [results, Try.results96, go_sem, r0, r1]) rfl ⟨RE.of HR.out, ?_⟩
            exact (Hb.out.setCell (by simp; omega) _).setCell (by simp; omega) _
          | succ j =>
            obtain rfl : I = (j : Int) := by rw [hI]; push_cast; omega
            obtain ⟨⟨m1, m2⟩, m3, m4⟩ := HBb.out (j + 1)
            obtain ⟨⟨m5, m6⟩, m7, m8⟩ := HBb.out j
            have hs := HBs.out j (by omega)
            rw [hs] at m5 m6
            have hx := HLa.out j (by omega)
            obtain ⟨hx, _⟩ := hx
            have hcell := (Hg.out j (by omega)).1
            have hj1 : (j : Int) < (L.length : Int) := by omega
            have hj0 : (0 : Int) ≤ (j : Int) := by omega
            have Hs := Lib.hid hs
            generalize gi L j = x at *
            generalize B (j + 1) = M at *
            obtain ⟨P, Q⟩ := M
            simp only at m1 m2 m3 m4 m5 m6
            have hm0 : 0 ≤ x * P := Int.mul_nonneg hx m1
            have hww : IntKind.i64.wrap (x * P) = x * P := by rw [IntKind.wrap_i64]; omega
            generalize hX2 : x * P = Y at *
            clear hs hI m7 m8
            go_wp2_with fail
            go_roundw
            case rel => exact ⟨_, j, by omega, rfl, by rw [Hs.out], by rw [Hs.out], by first | rfl | trivial, by first | rfl | trivial⟩
            case measure => simp [intOf] <;> omega
    · have HN2 := Lib.hid (HNX.out hc)
      have HLk := Lib.hid (show L = ks ++ [n / D] ++ midL f E (m - n / D * E) D (n - n / D * D) by rw [hL, midL_no hc, List.append_assoc]; rfl)
      have hcE : (E == 0) = false := by simpa using fun h => hc (.inl h)
      have hcL : decide ((n / D + 1) * E < m) = false := by simpa using fun h => hc (.inr h)
      have Hkl2 := Lib.hid (show ks.length + 1 ≤ 4294967294 by have := HLl.out; rw [HLk.out] at this; simp at this; omega)
      clear hL HNX HEo hc
      generalize hQ : n / D = k at *
      generalize hX : (k + 1) * E = X at *
      generalize hY : k * E = Y at *
      generalize hZ : k * D = Z at *
      go_wp2_with (first
        | (go_at_call 137; refine (HFl.out _).mono ?_; rintro r w5 ⟨rfl, rfl⟩)
        | (at_builtin; (refine wpList_append_rs rfl (.tmp 56) (.tmp 58) 121 rfl (w.heap.size + 3) 2 i0 (.int .i64 0) 1 8 Try.undI64s Hi.out Hz0.out Hz1.out Hz2.out rfl (by decide) u8 ks.length (ks.map (Value.int .i64)) rfl ?_ (wr.heap.size + 1) (.slice (some ⟨wr.heap.size, 0, none⟩) 1 1) rfl 1 [.int .i64 k] ?_ rfl ?_ ?_ ?_ ?_ ?_; (exact World.ownsRow.alloc Hown.out _); (exact rl_lit (xs := [k]) rfl rfl (by simp)); (exact ints_oneCell' [k]); (have := Hkl.out; unfold maxLen; omega); (have := Hkl.out; omega); (simp; have := Hws.out; omega); intro v' w' ho' hg')))
      have hoL : OL 2 (w.heap.size + 3) w' v' (ks ++ [k]) := by unfold OL; rw [List.length_append, List.map_append]; exact ho'
      have hlo2 := (Hloc.out.next (World.grownBy_alloc wr (.cells #[.int .i64 k] 2) none) (fun _ h => by cases h)).anyrow hg' (fun g e => (World.ownsRow.lt Hown.out g e).1)
      go_roundw
      case rel => exact ⟨E, m - Y, D, n - Z, f, ks ++ [k], rfl, rfl, rfl, rfl, HN2.out.1, (by have := HN2.out.2.1; have := Hf.out; omega), HLk.out, hoL, hlo2⟩
      case measure => have := HN2.out.2.1; simp [intOf]; have := HN2.out.1.d0; have := HN2.out.1.e0; omega
end Go.Proofs.Ytkgaipcgdldfdaa
