/- The reduced constraints make the zone. Plain Lean. -/
import Derived.Test.YtkgaipcgdldfdaaBackP
namespace Go.Proofs.Ytkgaipcgdldfdaa
open Go.RowKit
set_option linter.unusedVariables false

section
variable {N : Nat} {xs : List Int}
theorem bd_fin (h : OkZ N xs) {i j : Nat} (hi : i ≤ N) (hj : j ≤ N) (hb : bdB N xs i j = true) : ent N xs i j ≠ 1099511627776 := by
  intro e
  rw [bd_z h hi hj] at hb
  unfold Zm at hb
  rw [e, pl_nl] at hb
  cases hb
theorem in_step (h : OkZ N xs) {D : Nat → Nat → Lm} (h0 : ∀ j, j ≤ N → ple (D 0 j) (some 1)) (hk : ∀ i j, i ≤ N → j ≤ N → kpB N xs i j = true → ple (D i j) (Zm N xs i j))
    {i j : Nat} (hi : i ≤ N) (hj : j ≤ N) (hij : i ≠ j) (hb : bdB N xs i j = true) (hn : nxB N xs i j = true) : ple (D i j) (Zm N xs i j) := by
  by_cases c : i ≠ 0 ∨ ent N xs i j ≠ 1
  · exact hk i j hi hj ((kp_in hij (bd_fin h hi hj hb) hb).2 ⟨hn, c⟩)
  · have c1 : i = 0 := by omega
    have c2 : ent N xs i j = 1 := by omega
    subst c1
    unfold Zm
    rw [c2]
    exact h0 j hj
theorem in_up (h : OkZ N xs) {D : Nat → Nat → Lm} (hD : Cn N D) (h0 : ∀ j, j ≤ N → ple (D 0 j) (some 1)) (hk : ∀ i j, i ≤ N → j ≤ N → kpB N xs i j = true → ple (D i j) (Zm N xs i j)) (n : Nat) :
    ∀ i j, i ≤ N → j ≤ N → i < j → j - i ≤ n → bdB N xs i j = true → ple (D i j) (Zm N xs i j) := by
  induction n with
  | zero => intro i j _ _ _ _; omega
  | succ n ih =>
    intro i j hi hj hij hn hb
    cases hx : nxB N xs i j with
    | true => exact in_step h h0 hk hi hj (by omega) hb hx
    | false =>
      obtain ⟨k, k1, k2, k3, k4, k5⟩ := nx_no hx
      have hki : bdB N xs i k = true := by rw [bd_symm]; exact k4
      have hkj : bdB N xs k j = true := bd_trans h k1 hi hj k4 hb
      rw [z_left h hi hj k1 hki]
      exact ple_trans (hD.tri i j k hi hj k1) (psum_mono (ih i k hi k1 (by omega) (by omega) hki) (ih k j k1 hj (by omega) (by omega) hkj))
theorem in_down (h : OkZ N xs) {D : Nat → Nat → Lm} (hD : Cn N D) (h0 : ∀ j, j ≤ N → ple (D 0 j) (some 1)) (hk : ∀ i j, i ≤ N → j ≤ N → kpB N xs i j = true → ple (D i j) (Zm N xs i j)) (n : Nat) :
    ∀ i j, i ≤ N → j ≤ N → j < i → N - i + j ≤ n → bdB N xs i j = true → ple (D i j) (Zm N xs i j) := by
  induction n with
  | zero =>
    intro i j hi hj hij hn hb
    cases hx : nxB N xs i j with
    | true => exact in_step h h0 hk hi hj (by omega) hb hx
    | false => obtain ⟨k, k1, k2, k3, k4, k5⟩ := nx_no hx; omega
  | succ n ih =>
    intro i j hi hj hij hn hb
    cases hx : nxB N xs i j with
    | true => exact in_step h h0 hk hi hj (by omega) hb hx
    | false =>
      obtain ⟨k, k1, k2, k3, k4, k5⟩ := nx_no hx
      have hki : bdB N xs i k = true := by rw [bd_symm]; exact k4
      have hkj : bdB N xs k j = true := bd_trans h k1 hi hj k4 hb
      rw [z_left h hi hj k1 hki]
      refine ple_trans (hD.tri i j k hi hj k1) ?_
      rcases Nat.lt_or_ge i k with c | c
      · exact psum_mono (in_up h hD h0 hk N i k hi k1 c (by omega) hki) (ih k j k1 hj (by omega) (by omega) hkj)
      · exact psum_mono (ih i k hi k1 (by omega) (by omega) hki) (in_up h hD h0 hk N k j k1 hj (by omega) (by omega) hkj)
theorem in_all (h : OkZ N xs) {D : Nat → Nat → Lm} (hD : Cn N D) (h0 : ∀ j, j ≤ N → ple (D 0 j) (some 1)) (hk : ∀ i j, i ≤ N → j ≤ N → kpB N xs i j = true → ple (D i j) (Zm N xs i j))
    {i j : Nat} (hi : i ≤ N) (hj : j ≤ N) (hb : bdB N xs i j = true) : ple (D i j) (Zm N xs i j) := by
  rcases Nat.lt_trichotomy i j with c | c | c
  · exact in_up h hD h0 hk N i j hi hj c (by omega) hb
  · subst c
    rw [hD.diag i hi, (Zm.cn h).diag i hi]; exact ple_refl _
  · exact in_down h hD h0 hk (N + N) i j hi hj c (by omega) hb
theorem out_first (h : OkZ N xs) {D : Nat → Nat → Lm} (hD : Cn N D) (h0 : ∀ j, j ≤ N → ple (D 0 j) (some 1)) (hk : ∀ i j, i ≤ N → j ≤ N → kpB N xs i j = true → ple (D i j) (Zm N xs i j)) (n : Nat) :
    ∀ i j, i ≤ N → j ≤ N → fsB N xs i = true → fsB N xs j = true → i ≠ j → cnt (onB N xs i j) (N + 1) ≤ n → ple (D i j) (Zm N xs i j) := by
  induction n with
  | zero =>
    intro i j hi hj f1 f2 hij hn
    by_cases hnl : ent N xs i j = 1099511627776
    · unfold Zm; rw [hnl, pl_nl]; exact ple_none _
    have hb : bdB N xs i j = false := by
      cases e : bdB N xs i j with
      | false => rfl
      | true => exact absurd (fs_eq f1 f2 e) hij
    by_cases hkp : kpB N xs i j = true
    · exact hk i j hi hj hkp
    rw [kp_out hij hnl hb] at hkp
    have hkp : ¬ ∀ k, k ≤ N → _ := fun t => hkp ⟨f1, f2, t⟩
    simp only [Classical.not_forall] at hkp
    obtain ⟨k, k1, k2⟩ := hkp
    by_cases c1 : i = 0 ∧ bdB N xs k j = true ∧ ent N xs 0 k = 1
    · obtain ⟨rfl, c2, c3⟩ := c1
      rw [z_right h hi hj k1 c2]
      refine ple_trans (hD.tri 0 j k hi hj k1) (psum_mono ?_ (in_all h hD h0 hk k1 hj c2))
      unfold Zm; rw [c3]; exact h0 k k1
    · have c2 := Classical.not_not.1 (fun t => k2 ⟨c1, t⟩)
      obtain ⟨c3, c4, c5, c6⟩ := c2
      have on : onB N xs i j k = true := onB_iff.2 ⟨c3, c4, c5, (z_split h hi hj k1 hnl).1 c6⟩
      have : cnt (fun _ => false) (N + 1) < cnt (onB N xs i j) (N + 1) := cnt_lt (N + 1) (fun _ _ e => by cases e) (m := k) (by omega) rfl on
      omega
  | succ n ih =>
    intro i j hi hj f1 f2 hij hn
    by_cases hnl : ent N xs i j = 1099511627776
    · unfold Zm; rw [hnl, pl_nl]; exact ple_none _
    have hb : bdB N xs i j = false := by
      cases e : bdB N xs i j with
      | false => rfl
      | true => exact absurd (fs_eq f1 f2 e) hij
    by_cases hkp : kpB N xs i j = true
    · exact hk i j hi hj hkp
    rw [kp_out hij hnl hb] at hkp
    have hkp : ¬ ∀ k, k ≤ N → _ := fun t => hkp ⟨f1, f2, t⟩
    simp only [Classical.not_forall] at hkp
    obtain ⟨k, k1, k2⟩ := hkp
    by_cases c1 : i = 0 ∧ bdB N xs k j = true ∧ ent N xs 0 k = 1
    · obtain ⟨rfl, c2, c3⟩ := c1
      rw [z_right h hi hj k1 c2]
      refine ple_trans (hD.tri 0 j k hi hj k1) (psum_mono ?_ (in_all h hD h0 hk k1 hj c2))
      unfold Zm; rw [c3]; exact h0 k k1
    · have c2 := Classical.not_not.1 (fun t => k2 ⟨c1, t⟩)
      obtain ⟨c3, c4, c5, c6⟩ := c2
      have sp := (z_split h hi hj k1 hnl).1 c6
      have on : onB N xs i j k = true := onB_iff.2 ⟨c3, c4, c5, sp⟩
      have zc := Zm.cn h
      -- a first on the way from i to k, or from k to j, lies on the way from i to j
      have l1 : ∀ m, m < N + 1 → onB N xs i k m = true → onB N xs i j m = true := fun m hm e => by
        obtain ⟨e1, e2, e3, e4⟩ := onB_iff.1 e
        have hmN : m ≤ N := by omega
        refine onB_iff.2 ⟨e1, e2, fun e5 => ?_, ?_⟩
        · subst e5
          -- i, j, k, j: then j and k are bound
          have t : psum (Zm N xs m k) (Zm N xs k m) = some 1 := by
            have u := zc.tri m m k hj hj k1
            rw [zc.diag m hj] at u
            refine ple_anti ?_ u
            have s2 : Zm N xs i m = psum (Zm N xs i m) (psum (Zm N xs m k) (Zm N xs k m)) := by rw [← psum_assoc, ← e4, ← sp]
            cases e6 : Zm N xs i m with
            | none => unfold Zm at e6; rw [pl_fin hnl] at e6; cases e6
            | some x =>
              rw [e6] at s2
              cases e7 : psum (Zm N xs m k) (Zm N xs k m) with
              | none => rw [e7] at s2; cases s2
              | some y =>
                rw [e7] at s2 u
                have s3 : x = x + y - (if x % 2 = 0 ∧ y % 2 = 0 then 0 else 1) := Option.some.inj s2
                have u : (1 : Int) ≤ y := u
                show y ≤ 1
                split at s3 <;> omega
          exact c5 (fs_eq c3 f2 ((bd_z h k1 hj).2 (by rw [psum_comm]; exact t)))
        · refine ple_anti (zc.tri i j m hi hj hmN) ?_
          rw [sp, e4, psum_assoc]
          exact psum_mono (ple_refl _) (zc.tri m j k hmN hj k1)
      have l2 : ∀ m, m < N + 1 → onB N xs k j m = true → onB N xs i j m = true := fun m hm e => by
        obtain ⟨e1, e2, e3, e4⟩ := onB_iff.1 e
        have hmN : m ≤ N := by omega
        refine onB_iff.2 ⟨e1, fun e5 => ?_, e3, ?_⟩
        · subst e5
          have t : psum (Zm N xs m k) (Zm N xs k m) = some 1 := by
            have u := zc.tri m m k hi hi k1
            rw [zc.diag m hi] at u
            refine ple_anti ?_ u
            have s2 : Zm N xs m j = psum (psum (Zm N xs m k) (Zm N xs k m)) (Zm N xs m j) := by rw [psum_assoc, ← e4, ← sp]
            cases e6 : Zm N xs m j with
            | none => unfold Zm at e6; rw [pl_fin hnl] at e6; cases e6
            | some x =>
              rw [e6] at s2
              cases e7 : psum (Zm N xs m k) (Zm N xs k m) with
              | none => rw [e7] at s2; cases s2
              | some y =>
                rw [e7] at s2 u
                have s3 : x = y + x - (if y % 2 = 0 ∧ x % 2 = 0 then 0 else 1) := Option.some.inj s2
                have u : (1 : Int) ≤ y := u
                show y ≤ 1
                split at s3 <;> omega
          exact c4 (fs_eq c3 f1 ((bd_z h k1 hi).2 (by rw [psum_comm]; exact t)))
        · refine ple_anti (zc.tri i j m hi hj hmN) ?_
          rw [sp, e4, ← psum_assoc]
          exact psum_mono (zc.tri i m k hi hmN k1) (ple_refl _)
      have k0 : onB N xs i k k = false := by
        cases e : onB N xs i k k with
        | false => rfl
        | true => exact absurd rfl (onB_iff.1 e).2.2.1
      have k0' : onB N xs k j k = false := by
        cases e : onB N xs k j k with
        | false => rfl
        | true => exact absurd rfl (onB_iff.1 e).2.1
      have q1 := cnt_lt (N + 1) l1 (m := k) (by omega) k0 on
      have q2 := cnt_lt (N + 1) l2 (m := k) (by omega) k0' on
      rw [sp]
      exact ple_trans (hD.tri i j k hi hj k1) (psum_mono (ih i k hi k1 f1 c3 (Ne.symm c4) (by omega)) (ih k j k1 hj c3 f2 c5 (by omega)))
/-- A canonical matrix below the kept constraints lies below the zone. -/
theorem recon (h : OkZ N xs) {D : Nat → Nat → Lm} (hD : Cn N D) (h0 : ∀ j, j ≤ N → ple (D 0 j) (some 1)) (hk : ∀ i j, i ≤ N → j ≤ N → kpB N xs i j = true → ple (D i j) (Zm N xs i j))
    {i j : Nat} (hi : i ≤ N) (hj : j ≤ N) : ple (D i j) (Zm N xs i j) := by
  cases hb : bdB N xs i j with
  | true => exact in_all h hD h0 hk hi hj hb
  | false =>
    obtain ⟨f, f1, f2, f3⟩ := fs_ex h i hi
    obtain ⟨g, g1, g2, g3⟩ := fs_ex h j hj
    have f2' : bdB N xs i f = true := by rw [bd_symm]; exact f2
    have hfg : f ≠ g := fun e => by
      subst e
      rw [bd_trans h hi (by omega) hj f2' g2] at hb; cases hb
    rw [z_left h hi hj (k := f) (by omega) f2', z_right h (i := f) (by omega) hj (k := g) (by omega) g2]
    refine ple_trans (hD.tri i j f hi hj (by omega)) (psum_mono (in_all h hD h0 hk hi (by omega) f2') ?_)
    exact ple_trans (hD.tri f j g (by omega) hj (by omega)) (psum_mono (out_first h hD h0 hk (cnt (onB N xs f g) (N + 1)) f g (by omega) (by omega) f3 g3 hfg (Nat.le_refl _)) (in_all h hD h0 hk (by omega) hj g2))
end
end Go.Proofs.Ytkgaipcgdldfdaa
