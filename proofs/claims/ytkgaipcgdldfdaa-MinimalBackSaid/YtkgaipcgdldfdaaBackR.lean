/- Without one of the reduced constraints: a canonical matrix that shows the greater zone. Plain Lean. -/
import Derived.Test.YtkgaipcgdldfdaaBackQ
namespace Go.Proofs.Ytkgaipcgdldfdaa
open Go.RowKit
set_option linter.unusedVariables false

/-- A limit raised. -/
def pup (d : Int) : Lm → Lm := Option.map (· + d)
theorem le_pup {d : Int} (hd : 0 ≤ d) (a : Lm) : ple a (pup d a) := by
  cases a with
  | none => exact ple_none _
  | some x => show x ≤ x + d; omega
theorem pup_mono {d : Int} {a b : Lm} (h : ple a b) : ple (pup d a) (pup d b) := by
  cases a with
  | none => cases b with
    | none => exact ple_none _
    | some y => exact absurd h (by simp [ple])
  | some x => cases b with
    | none => exact ple_none _
    | some y => have h : x ≤ y := h; show x + d ≤ y + d; omega
theorem psum_up2_l (a b : Lm) : psum (pup 2 a) b = pup 2 (psum a b) := by
  cases a with
  | none => rfl
  | some x => cases b with
    | none => rfl
    | some y =>
      show some (x + 2 + y - (if (x + 2) % 2 = 0 ∧ y % 2 = 0 then 0 else 1)) = some (x + y - (if x % 2 = 0 ∧ y % 2 = 0 then 0 else 1) + 2)
      split <;> split <;> (congr 1; omega)
theorem psum_up2_r (a b : Lm) : psum a (pup 2 b) = pup 2 (psum a b) := by rw [psum_comm, psum_up2_l, psum_comm]
theorem psum_up1_r {x : Int} (hx : x % 2 = 1) (b : Lm) : psum (some x) (pup 1 b) = pup 1 (psum (some x) b) := by
  cases b with
  | none => rfl
  | some y =>
    show some (x + (y + 1) - (if x % 2 = 0 ∧ (y + 1) % 2 = 0 then 0 else 1)) = some (x + y - (if x % 2 = 0 ∧ y % 2 = 0 then 0 else 1) + 1)
    rw [if_neg (by omega), if_neg (by omega)]; congr 1; omega
theorem psum_up1_l {x : Int} (hx : x % 2 = 1) (b : Lm) : psum (pup 1 b) (some x) = pup 1 (psum b (some x)) := by rw [psum_comm, psum_up1_r hx, psum_comm]
theorem pup1_lt {a b : Lm} (h : ple a b) (hne : a ≠ b) : ple (pup 1 a) b := by
  cases a with
  | none => cases b with
    | none => exact absurd rfl hne
    | some y => exact absurd h (by simp [ple])
  | some x => cases b with
    | none => exact ple_none _
    | some y =>
      have h : x ≤ y := h
      have : x ≠ y := fun e => hne (by rw [e])
      show x + 1 ≤ y; omega
theorem odd_of {a b : Lm} (h : psum a b = some 1) : ∃ x, a = some x ∧ x % 2 = 1 := by
  cases a with
  | none => cases h
  | some x => cases b with
    | none => cases h
    | some y =>
      have h : x + y - (if x % 2 = 0 ∧ y % 2 = 0 then 0 else 1) = 1 := Option.some.inj h
      refine ⟨x, rfl, ?_⟩
      split at h <;> omega

section
variable {N : Nat} {xs : List Int}
/-- What shows that a kept constraint is needed. -/
structure Cert (N : Nat) (xs : List Int) (a b : Nat) (D : Nat → Nat → Lm) : Prop where
  cn : Cn N D
  row : ∀ j, j ≤ N → ple (D 0 j) (some 1)
  le : ∀ i j, i ≤ N → j ≤ N → kpB N xs i j = true → ¬ (i = a ∧ j = b) → ple (D i j) (Zm N xs i j)
  gt : ¬ ple (D a b) (Zm N xs a b)
theorem z_row (h : OkZ N xs) {j : Nat} (hj : j ≤ N) : ple (Zm N xs 0 j) (some 1) := by
  have r : ent N xs 0 j ≤ 1 := by have := h.rowN hj; unfold ent; rwa [Nat.zero_mul, Nat.zero_add]
  unfold Zm
  rw [pl_fin (by omega)]; exact r
theorem up_gt {d : Int} (hd : 0 < d) {a : Lm} (ha : a ≠ none) : ¬ ple (pup d a) a := by
  cases a with
  | none => exact absurd rfl ha
  | some x => intro h; have h : x + d ≤ x := h; omega
theorem z_some {i j : Nat} (hn : ent N xs i j ≠ 1099511627776) : Zm N xs i j ≠ none := by unfold Zm; rw [pl_fin hn]; simp
open Classical in
theorem cert_out (h : OkZ N xs) {a b : Nat} (ha : a ≤ N) (hb : b ≤ N) (hab : a ≠ b) (hn : ent N xs a b ≠ 1099511627776) (hbd : bdB N xs a b = false) (hk : kpB N xs a b = true) :
    Cert N xs a b (fun i j => if bdB N xs i a = true ∧ bdB N xs j b = true then pup 1 (Zm N xs i j) else Zm N xs i j) := by
  obtain ⟨fa, fb, hall⟩ := (kp_out hab hn hbd).1 hk
  have zc := Zm.cn h
  have B : ∀ {i j k : Nat}, i ≤ N → j ≤ N → k ≤ N → bdB N xs i k = true → bdB N xs j k = true → bdB N xs i j = true := fun hi hj hk h1 h2 => bd_trans h hi hk hj h1 (by rw [bd_symm]; exact h2)
  have notboth : ∀ i, i ≤ N → ¬ (bdB N xs i a = true ∧ bdB N xs i b = true) := fun i hi ⟨h1, h2⟩ => by
    have := bd_trans h ha hi hb (by rw [bd_symm]; exact h1) h2
    rw [hbd] at this; cases this
  have up : ∀ i j, ple (Zm N xs i j) (if bdB N xs i a = true ∧ bdB N xs j b = true then pup 1 (Zm N xs i j) else Zm N xs i j) := fun i j => by
    split
    · exact le_pup (by omega) _
    · exact ple_refl _
  refine ⟨⟨fun i hi => ?_, fun i j k hi hj hk' => ?_⟩, fun j hj => ?_, fun i j hi hj hkp hne => ?_, ?_⟩
  · show (if bdB N xs i a = true ∧ bdB N xs i b = true then _ else _) = _
    rw [if_neg (notboth i hi)]; exact zc.diag i hi
  · show ple (if bdB N xs i a = true ∧ bdB N xs j b = true then pup 1 (Zm N xs i j) else Zm N xs i j) (psum (if bdB N xs i a = true ∧ bdB N xs k b = true then pup 1 (Zm N xs i k) else Zm N xs i k) (if bdB N xs k a = true ∧ bdB N xs j b = true then pup 1 (Zm N xs k j) else Zm N xs k j))
    by_cases c : bdB N xs i a = true ∧ bdB N xs j b = true
    · rw [if_pos c]
      obtain ⟨ci, cj⟩ := c
      by_cases ka : bdB N xs k a = true
      · have kb : ¬ bdB N xs k b = true := fun e => notboth k hk' ⟨ka, e⟩
        rw [if_neg (fun e => kb e.2), if_pos ⟨ka, cj⟩]
        have bik := B hi hk' ha ci ka
        obtain ⟨x, hx, hx2⟩ := odd_of ((bd_z h hi hk').1 bik)
        rw [z_left h hi hj hk' bik, hx, psum_up1_r hx2]
        exact ple_refl _
      · by_cases kb : bdB N xs k b = true
        · rw [if_pos ⟨ci, kb⟩, if_neg (fun e => ka e.1)]
          have bkj := B hk' hj hb kb cj
          obtain ⟨x, hx, hx2⟩ := odd_of ((bd_z h hk' hj).1 bkj)
          rw [z_right h hi hj hk' bkj, hx, psum_up1_l hx2]
          exact ple_refl _
        · rw [if_neg (fun e => kb e.2), if_neg (fun e => ka e.1)]
          refine pup1_lt (zc.tri i j k hi hj hk') (fun e => ?_)
          obtain ⟨f, f1, f2, f3⟩ := fs_ex h k hk'
          have fN : f ≤ N := by omega
          have bai : bdB N xs a i = true := by rw [bd_symm]; exact ci
          have s : Zm N xs a b = psum (Zm N xs a f) (Zm N xs f b) := by
            have e1 : Zm N xs a b = psum (psum (Zm N xs a i) (Zm N xs i k)) (psum (Zm N xs k j) (Zm N xs j b)) := by
              rw [z_left h ha hb hi bai, z_right h hi hb hj cj, e, psum_assoc, psum_assoc]
            have kf : bdB N xs k f = true := by rw [bd_symm]; exact f2
            rw [e1, ← z_left h ha hk' hi bai, ← z_right h hk' hb hj cj, z_right h ha hk' fN f2, psum_assoc, ← z_left h fN hb hk' f2]
          exact (hall f fN).2 ⟨f3, fun e => ka (by subst e; rw [bd_symm]; exact f2), fun e => kb (by subst e; rw [bd_symm]; exact f2), (z_split h ha hb fN hn).2 s⟩
    · rw [if_neg c]
      exact ple_trans (zc.tri i j k hi hj hk') (psum_mono (up i k) (up k j))
  · show ple (if bdB N xs 0 a = true ∧ bdB N xs j b = true then pup 1 (Zm N xs 0 j) else Zm N xs 0 j) (some 1)
    split
    · rename_i c
      obtain rfl : 0 = a := fs_eq fs_zero fa c.1
      have r := z_row h hj
      have e1 : ent N xs 0 j ≠ 1 := fun e => (hall j hj).1 ⟨rfl, c.2, e⟩
      refine pup1_lt r (fun e => ?_)
      unfold Zm pl at e
      split at e
      · cases e
      · exact e1 (Option.some.inj e)
    · exact z_row h hj
  · show ple (if bdB N xs i a = true ∧ bdB N xs j b = true then pup 1 (Zm N xs i j) else Zm N xs i j) _
    split
    · rename_i c
      exfalso
      obtain ⟨i1, i2⟩ := kp_ne hkp
      have hbij : bdB N xs i j = false := by
        cases e : bdB N xs i j with
        | false => rfl
        | true =>
          have := bd_trans h ha hi hj (by rw [bd_symm]; exact c.1) e
          have := bd_trans h ha hj hb this c.2
          rw [hbd] at this; cases this
      obtain ⟨g1, g2, _⟩ := (kp_out i1 i2 hbij).1 hkp
      exact hne ⟨fs_eq g1 fa c.1, fs_eq g2 fb c.2⟩
    · exact ple_refl _
  · show ¬ ple (if bdB N xs a a = true ∧ bdB N xs b b = true then pup 1 (Zm N xs a b) else Zm N xs a b) _
    rw [if_pos ⟨bd_refl h ha, bd_refl h hb⟩]
    exact up_gt (by omega) (z_some hn)
theorem cert_in1 (h : OkZ N xs) {a b : Nat} (ha : a ≤ N) (hb : b ≤ N) (hab : a ≠ b) (hbd : bdB N xs a b = true) (hk : kpB N xs a b = true) (hf : fsB N xs a = false) :
    Cert N xs a b (fun i j => if i = a ∧ j ≠ a then pup 2 (Zm N xs i j) else Zm N xs i j) := by
  have hn := bd_fin h ha hb hbd
  have hx := ((kp_in hab hn hbd).1 hk).1
  have zc := Zm.cn h
  have up : ∀ i j, ple (Zm N xs i j) (if i = a ∧ j ≠ a then pup 2 (Zm N xs i j) else Zm N xs i j) := fun i j => by
    split
    · exact le_pup (by omega) _
    · exact ple_refl _
  have ha0 : a ≠ 0 := fun e => by subst e; rw [fs_zero] at hf; cases hf
  refine ⟨⟨fun i hi => ?_, fun i j k hi hj hk' => ?_⟩, fun j hj => ?_, fun i j hi hj hkp hne => ?_, ?_⟩
  · show (if i = a ∧ i ≠ a then _ else _) = _
    rw [if_neg (fun e => e.2 e.1)]; exact zc.diag i hi
  · show ple (if i = a ∧ j ≠ a then pup 2 (Zm N xs i j) else Zm N xs i j) (psum (if i = a ∧ k ≠ a then pup 2 (Zm N xs i k) else Zm N xs i k) (if k = a ∧ j ≠ a then pup 2 (Zm N xs k j) else Zm N xs k j))
    by_cases c : i = a ∧ j ≠ a
    · rw [if_pos c]
      by_cases ck : k = a
      · subst ck
        rw [if_neg (fun e => e.2 rfl), if_pos ⟨rfl, c.2⟩, psum_up2_r]
        exact pup_mono (zc.tri i j k hi hj hk')
      · rw [if_pos ⟨c.1, ck⟩, if_neg (fun e => ck e.1), psum_up2_l]
        exact pup_mono (zc.tri i j k hi hj hk')
    · rw [if_neg c]
      exact ple_trans (zc.tri i j k hi hj hk') (psum_mono (up i k) (up k j))
  · show ple (if 0 = a ∧ j ≠ a then pup 2 (Zm N xs 0 j) else Zm N xs 0 j) (some 1)
    rw [if_neg (fun e => ha0 e.1.symm)]; exact z_row h hj
  · show ple (if i = a ∧ j ≠ a then pup 2 (Zm N xs i j) else Zm N xs i j) _
    split
    · rename_i c
      exfalso
      obtain ⟨rfl, c2⟩ := c
      obtain ⟨i1, i2⟩ := kp_ne hkp
      cases e : bdB N xs i j with
      | false => have := ((kp_out i1 i2 e).1 hkp).1; rw [hf] at this; cases this
      | true =>
        have hx2 := ((kp_in i1 i2 e).1 hkp).1
        rw [nx_iff] at hx hx2
        have hjb : j ≠ b := fun e => hne ⟨rfl, e⟩
        have t1 := hx j hj c2 hjb (by rw [bd_symm]; exact e)
        have t2 := hx2 b hb (Ne.symm hab) (Ne.symm hjb) (by rw [bd_symm]; exact hbd)
        omega
    · exact ple_refl _
  · show ¬ ple (if a = a ∧ b ≠ a then pup 2 (Zm N xs a b) else Zm N xs a b) _
    rw [if_pos ⟨rfl, Ne.symm hab⟩]
    exact up_gt (by omega) (z_some hn)
theorem cert_in2 (h : OkZ N xs) {a b : Nat} (ha : a ≤ N) (hb : b ≤ N) (hab : a ≠ b) (hbd : bdB N xs a b = true) (hk : kpB N xs a b = true) (hf : fsB N xs a = true) :
    Cert N xs a b (fun i j => if j = b ∧ i ≠ b then pmin (pup 2 (Zm N xs i b)) (Zm N xs i 0) else Zm N xs i j) := by
  have hn := bd_fin h ha hb hbd
  obtain ⟨hx, hz⟩ := (kp_in hab hn hbd).1 hk
  have zc := Zm.cn h
  have hN0 : 0 ≤ N := Nat.zero_le _
  have hfb : fsB N xs b = false := by
    cases e : fsB N xs b with
    | false => rfl
    | true => exact absurd (fs_eq hf e hbd) hab
  have hb0 : b ≠ 0 := fun e => by subst e; rw [fs_zero] at hfb; cases hfb
  have via : ∀ i, i ≤ N → ple (Zm N xs i b) (Zm N xs i 0) := fun i hi => by
    have t := ple_trans (zc.tri i b 0 hi hb hN0) (psum_mono (ple_refl _) (z_row h hb))
    rwa [psum_one_r] at t
  have up : ∀ i j, i ≤ N → ple (Zm N xs i j) (if j = b ∧ i ≠ b then pmin (pup 2 (Zm N xs i b)) (Zm N xs i 0) else Zm N xs i j) := fun i j hi => by
    split
    · rename_i c
      rw [c.1]
      exact le_pmin (le_pup (by omega) _) (via i hi)
    · exact ple_refl _
  refine ⟨⟨fun i hi => ?_, fun i j k hi hj hk' => ?_⟩, fun j hj => ?_, fun i j hi hj hkp hne => ?_, ?_⟩
  · show (if i = b ∧ i ≠ b then _ else _) = _
    rw [if_neg (fun e => e.2 e.1)]; exact zc.diag i hi
  · show ple (if j = b ∧ i ≠ b then pmin (pup 2 (Zm N xs i b)) (Zm N xs i 0) else Zm N xs i j) (psum (if k = b ∧ i ≠ b then pmin (pup 2 (Zm N xs i b)) (Zm N xs i 0) else Zm N xs i k) (if j = b ∧ k ≠ b then pmin (pup 2 (Zm N xs k b)) (Zm N xs k 0) else Zm N xs k j))
    by_cases c : j = b ∧ i ≠ b
    · obtain ⟨rfl, c2⟩ := c
      rw [if_pos ⟨rfl, c2⟩]
      by_cases ck : k = j
      · subst ck
        rw [if_pos ⟨rfl, c2⟩, if_neg (fun e => e.2 rfl), zc.diag k hk', psum_one_r]
        exact ple_refl _
      · rw [if_neg (fun e => ck e.1), if_pos ⟨rfl, ck⟩]
        rcases pmin_or (pup 2 (Zm N xs k j)) (Zm N xs k 0) with e | e <;> rw [e]
        · rw [psum_up2_r]
          exact ple_trans (pmin_l _ _) (pup_mono (zc.tri i j k hi hj hk'))
        · exact ple_trans (pmin_r _ _) (zc.tri i 0 k hi hN0 hk')
    · rw [if_neg c]
      exact ple_trans (zc.tri i j k hi hj hk') (psum_mono (up i k hi) (up k j hk'))
  · show ple (if j = b ∧ 0 ≠ b then pmin (pup 2 (Zm N xs 0 b)) (Zm N xs 0 0) else Zm N xs 0 j) (some 1)
    split
    · refine ple_trans (pmin_r _ _) ?_
      rw [zc.diag 0 hN0]; exact ple_refl _
    · exact z_row h hj
  · show ple (if j = b ∧ i ≠ b then pmin (pup 2 (Zm N xs i b)) (Zm N xs i 0) else Zm N xs i j) _
    split
    · rename_i c
      exfalso
      obtain ⟨rfl, c2⟩ := c
      obtain ⟨i1, i2⟩ := kp_ne hkp
      cases e : bdB N xs i j with
      | false => have := ((kp_out i1 i2 e).1 hkp).2.1; rw [hfb] at this; cases this
      | true =>
        have hx2 := ((kp_in i1 i2 e).1 hkp).1
        rw [nx_iff] at hx hx2
        have hia : i ≠ a := fun e => hne ⟨e, rfl⟩
        have bia : bdB N xs i a = true := bd_trans h hi hj ha e (by rw [bd_symm]; exact hbd)
        have t1 := hx i hi hia c2 bia
        have t2 := hx2 a ha (Ne.symm hia) hab (by rw [bd_symm]; exact bia)
        omega
    · exact ple_refl _
  · show ¬ ple (if b = b ∧ a ≠ b then pmin (pup 2 (Zm N xs a b)) (Zm N xs a 0) else Zm N xs a b) _
    rw [if_pos ⟨rfl, hab⟩]
    intro hle
    rcases pmin_or (pup 2 (Zm N xs a b)) (Zm N xs a 0) with e | e <;> rw [e] at hle
    · exact up_gt (by omega) (z_some hn) hle
    · -- then b is bound to 0, and a is 0
      have hba := (bd_z h hb ha).1 (by rw [bd_symm]; exact hbd)
      have t1 : ple (Zm N xs b 0) (some 1) := by
        have t := ple_trans (zc.tri b 0 a hb hN0 ha) (psum_mono (ple_refl _) hle)
        rwa [hba] at t
      have t2 := z_row h hb
      have t3 := zc.tri 0 0 b hN0 hN0 hb
      rw [zc.diag 0 hN0] at t3
      have both : Zm N xs 0 b = some 1 ∧ Zm N xs b 0 = some 1 := by
        cases e1 : Zm N xs 0 b with
        | none => rw [e1] at t2; exact absurd t2 (by simp [ple])
        | some x =>
          cases e2 : Zm N xs b 0 with
          | none => rw [e2] at t1; exact absurd t1 (by simp [ple])
          | some y =>
            rw [e1] at t2 t3
            rw [e2] at t1 t3
            have t1 : y ≤ 1 := t1
            have t2 : x ≤ 1 := t2
            have t3 : (1 : Int) ≤ x + y - (if x % 2 = 0 ∧ y % 2 = 0 then 0 else 1) := t3
            have : x = 1 ∧ y = 1 := by split at t3 <;> omega
            rw [this.1, this.2]; exact ⟨rfl, rfl⟩
      have b0 : bdB N xs 0 b = true := (bd_z h hN0 hb).2 (by rw [both.1, both.2]; rfl)
      have b1 : bdB N xs 0 a = true := bd_trans h hN0 hb ha b0 (by rw [bd_symm]; exact hbd)
      obtain rfl : 0 = a := fs_eq fs_zero hf b1
      have e1 : ent N xs 0 b = 1 := by
        have := both.1
        unfold Zm pl at this
        split at this
        · cases this
        · exact Option.some.inj this
      rcases hz with hz | hz
      · exact hz rfl
      · exact hz e1
theorem cert (h : OkZ N xs) {a b : Nat} (ha : a ≤ N) (hb : b ≤ N) (hk : kpB N xs a b = true) : ∃ D, Cert N xs a b D := by
  obtain ⟨hab, hn⟩ := kp_ne hk
  cases hbd : bdB N xs a b with
  | false => exact ⟨_, cert_out h ha hb hab hn hbd hk⟩
  | true =>
    cases hf : fsB N xs a with
    | false => exact ⟨_, cert_in1 h ha hb hab hbd hk hf⟩
    | true => exact ⟨_, cert_in2 h ha hb hab hbd hk hf⟩
end
end Go.Proofs.Ytkgaipcgdldfdaa
