/- Part of the proof of priced_covers_proved: Cpa, Cpb, Cpc. -/
import Derived.Test.YtfphlpglgcmljaaGreatXvCvb
import Derived.Test.YtfphlpglgcmljaaGreatXvCvc
namespace Go.Proofs.YtfphlpglgcmljaaGreat
open Go.RowKit
set_option linter.unusedVariables false
set_option linter.unusedSimpArgs false
def farI : Int := 1152921504606846976
abbrev PS := (Nat → Int) × (Nat → Int)
structure Arc where
 u : Nat
 v : Nat
 c : Int
def rel (s : PS) (a : Arc) : PS := if s.1 a.u < farI ∧ s.1 a.u + a.c < s.1 a.v then (upI s.1 a.v (s.1 a.u + a.c), upI s.2 a.v (a.u : Int)) else s
def rels (A : List Arc) (s : PS) : PS := A.foldl rel s
def rnds (A : List Arc) (s : PS) : Nat → PS
 | 0 => s
 | r + 1 => rels A (rnds A s r)
theorem rels_cons (a : Arc) (A : List Arc) (s : PS) : rels (a :: A) s = rels A (rel s a) := rfl
theorem rels_append (A B : List Arc) (s : PS) : rels (A ++ B) s = rels B (rels A s) := List.foldl_append
theorem rel_le (s : PS) (a : Arc) (v : Nat) : (rel s a).1 v ≤ s.1 v := by
 unfold rel
 by_cases c : s.1 a.u < farI ∧ s.1 a.u + a.c < s.1 a.v
 ·rw [if_pos c]
  show upI s.1 a.v (s.1 a.u + a.c) v ≤ _
  by_cases e : v = a.v
  ·subst e; rw [upI_same]; omega
  ·rw [upI_ne e]; omega
 ·rw [if_neg c]; omega
theorem rels_le : ∀ (A : List Arc) (s : PS) (v : Nat), (rels A s).1 v ≤ s.1 v
 | [], s, v => Int.le_refl _
 | a :: A, s, v => Int.le_trans (rels_le A (rel s a) v) (rel_le s a v)
theorem rnds_le (A : List Arc) (s : PS) (v : Nat) : ∀ r, (rnds A s r).1 v ≤ s.1 v
 | 0 => Int.le_refl _
 | r + 1 => Int.le_trans (rels_le A _ v) (rnds_le A s v r)
theorem rel_id {s : PS} {a : Arc} (h : s.1 a.u < farI → s.1 a.v ≤ s.1 a.u + a.c) : rel s a = s := by
 unfold rel; rw [if_neg]; intro c; have := h c.1; omega
theorem rels_id {s : PS} : ∀ (A : List Arc), (∀ a, a ∈ A → s.1 a.u < farI → s.1 a.v ≤ s.1 a.u + a.c) → rels A s = s
 | [], _ => rfl
 | a :: A, h => by rw [rels_cons, rel_id (h a (by simp))]; exact rels_id A (fun b hb => h b (by simp [hb]))
def Pb (s : PS) (X : Int) : Prop := ∀ v, s.1 v = farI ∨ (-X ≤ s.1 v ∧ s.1 v ≤ X)
theorem Pb.mono {s : PS} {X Y : Int} (h : Pb s X) (hxy : X ≤ Y) : Pb s Y := fun v => (h v).imp id (fun q => by omega)
theorem Pb.rel {s : PS} {X B : Int} {a : Arc} (hB : 0 ≤ B) (h : Pb s X) (hc : -B ≤ a.c ∧ a.c ≤ B) : Pb (rel s a) (X + B) := by
 unfold Go.Proofs.YtfphlpglgcmljaaGreat.rel
 by_cases c : s.1 a.u < farI ∧ s.1 a.u + a.c < s.1 a.v
 ·rw [if_pos c]
  intro v
  show upI s.1 a.v (s.1 a.u + a.c) v = _ ∨ _ ≤ upI s.1 a.v (s.1 a.u + a.c) v ∧ upI s.1 a.v (s.1 a.u + a.c) v ≤ _
  by_cases e : v = a.v
  ·subst e; rw [upI_same]
   rcases h a.u with q | q
   ·have := c.1; omega
   ·right; omega
  ·rw [upI_ne e]; rcases h v with q | q
   ·exact Or.inl q
   ·right; omega
 ·rw [if_neg c]; exact h.mono (by omega)
theorem Pb.rels {B : Int} (hB : 0 ≤ B) : ∀ (A : List Arc) {s : PS} {X : Int}, Pb s X → (∀ a, a ∈ A → -B ≤ a.c ∧ a.c ≤ B) → Pb (rels A s) (X + A.length * B)
 | [], s, X, h, _ => h.mono (by simp)
 | a :: A, s, X, h, hc => by
  refine (Pb.rels hB A (h.rel hB (hc a (by simp))) (fun b hb => hc b (by simp [hb]))).mono ?_
  rw [List.length_cons, Int.natCast_add, Int.add_mul]
  simp; omega
theorem Pb.rels32 {B : Int} (hB : 0 ≤ B) {A : List Arc} {s : PS} {X : Int} (h : Pb s X) (hc : ∀ a, a ∈ A → -B ≤ a.c ∧ a.c ≤ B) (hl : A.length ≤ 32) : Pb (Go.Proofs.YtfphlpglgcmljaaGreat.rels A s) (X + 32 * B) :=
 (Pb.rels hB A h hc).mono (by have : (A.length : Int) * B ≤ 32 * B := Int.mul_le_mul_of_nonneg_right (by omega) hB; omega)
theorem Pb.rnds {B : Int} (hB : 0 ≤ B) {A : List Arc} {s : PS} (h : Pb s 0) (hc : ∀ a, a ∈ A → -B ≤ a.c ∧ a.c ≤ B) (hl : A.length ≤ 32) : ∀ r : Nat, Pb (rnds A s r) (r * (32 * B))
 | 0 => h.mono (by simp)
 | r + 1 => ((Pb.rnds hB h hc hl r).rels32 hB hc hl).mono (by rw [Int.natCast_add, Int.add_mul]; simp)
theorem arg1 (Q : Nat → Prop) (f : Nat → Int) : ∀ n, (∃ i, i < n ∧ Q i) → ∃ i, i < n ∧ Q i ∧ ∀ j, j < n → Q j → f i ≤ f j
 | 0, h => by obtain ⟨i, hi, _⟩ := h; omega
 | n + 1, h => by
  by_cases c : ∃ i, i < n ∧ Q i
  ·obtain ⟨i, hi, qi, hm⟩ := arg1 Q f n c
   by_cases d : Q n ∧ f n < f i
   ·refine ⟨n, by omega, d.1, fun j hj qj => ?_⟩
    by_cases e : j = n
    ·subst e; omega
    ·have := hm j (by omega) qj; omega
   ·refine ⟨i, by omega, qi, fun j hj qj => ?_⟩
    by_cases e : j = n
    ·subst e
     have : ¬ f j < f i := fun x => d ⟨qj, x⟩
     omega
    ·exact hm j (by omega) qj
  ·obtain ⟨i, hi, qi⟩ := h
   have e : i = n := by
    by_cases e : i = n
    ·exact e
    ·exact absurd ⟨i, by omega, qi⟩ c
   subst e
   refine ⟨i, by omega, qi, fun j hj qj => ?_⟩
   by_cases e : j = i
   ·subst e; omega
   ·exact absurd ⟨j, by omega, qj⟩ c
def AOk (A : List Arc) (m : Nat) (h : Nat → Int) : Prop := ∀ a, a ∈ A → a.u < m ∧ a.v < m ∧ a.u ≠ a.v ∧ h a.v ≤ h a.u + a.c
structure Rd (S : Nat → Bool) (m k : Nat) (h : Nat → Int) (s0 s : PS) : Prop where
 same : ∀ u, S u = true → s.1 u = s0.1 u
 samem : s.1 k = s0.1 k
 out : ∀ v, v < m → S v = false → s.1 v < farI → s0.1 k - h k ≤ s.1 v - h v
 less : ∀ v, s.1 v ≤ s0.1 v
structure Stl (A : List Arc) (S : Nat → Bool) (m : Nat) (h : Nat → Int) (s : PS) : Prop where
 got : ∀ u, S u = true → u < m ∧ s.1 u < farI
 arcs : ∀ a, a ∈ A → S a.u = true → s.1 a.v ≤ s.1 a.u + a.c
 far : ∀ u v, S u = true → v < m → S v = false → s.1 v < farI → s.1 u - h u ≤ s.1 v - h v
theorem Rd.step {A : List Arc} {S : Nat → Bool} {m k : Nat} {h : Nat → Int} {s0 s : PS} (hA : AOk A m h) (T : Stl A S m h s0) (hk : k < m) (kS : S k = false) (kf : s0.1 k < farI) (R : Rd S m k h s0 s) {a : Arc} (ha : a ∈ A) : Rd S m k h s0 (rel s a) := by
 obtain ⟨hu, hv, hne, hp⟩ := hA a ha
 unfold rel
 by_cases c : s.1 a.u < farI ∧ s.1 a.u + a.c < s.1 a.v
 ·rw [if_pos c]
  cases uS : S a.u with
  | true =>
   have q1 := T.arcs a ha uS
   have q2 := R.same a.u uS
   have q3 := R.less a.v
   omega
  | false =>
   have q1 := R.out a.u hu uS c.1
   have vS : S a.v = false := by
    cases vS : S a.v with
    | false => rfl
    | true =>
     have q2 := R.same a.v vS
     have q3 := T.far a.v k vS hk kS kf
     omega
   have vk : a.v ≠ k := fun e => by
    have q2 := R.samem
    rw [← e] at q1 q2
    omega
   refine ⟨fun x xS => ?_, ?_, fun x hx xS xf => ?_, fun x => ?_⟩
   ·show upI s.1 a.v (s.1 a.u + a.c) x = _
    rw [upI_ne (fun e => by rw [e, vS] at xS; cases xS)]; exact R.same x xS
   ·show upI s.1 a.v (s.1 a.u + a.c) k = _
    rw [upI_ne (fun e => vk e.symm)]; exact R.samem
   ·revert xf
    show upI s.1 a.v (s.1 a.u + a.c) x < farI → _ ≤ upI s.1 a.v (s.1 a.u + a.c) x - h x
    by_cases e : x = a.v
    ·subst e; rw [upI_same]; intro _; omega
    ·rw [upI_ne e]; exact R.out x hx xS
   ·show upI s.1 a.v (s.1 a.u + a.c) x ≤ _
    have := R.less x
    by_cases e : x = a.v
    ·subst e; rw [upI_same]; omega
    ·rw [upI_ne e]; exact this
 ·rw [if_neg c]; exact R
theorem Rd.all {A : List Arc} {S : Nat → Bool} {m k : Nat} {h : Nat → Int} {s0 : PS} (hA : AOk A m h) (T : Stl A S m h s0) (hk : k < m) (kS : S k = false) (kf : s0.1 k < farI) : ∀ (L : List Arc) (s : PS), (∀ a, a ∈ L → a ∈ A) → Rd S m k h s0 s → Rd S m k h s0 (rels L s) ∧ ∀ a, a ∈ L → a.u = k → (rels L s).1 a.v ≤ s0.1 k + a.c
  | [], s, _, R => ⟨R, fun a ha => by cases ha⟩
  | b :: L, s, hL, R => by
    have R1 := R.step hA T hk kS kf (hL b (by simp))
    obtain ⟨R2, q⟩ := Rd.all hA T hk kS kf L (rel s b) (fun a ha => hL a (by simp [ha])) R1
    refine ⟨R2, fun a ha e => ?_⟩
    rcases List.mem_cons.1 ha with rfl | ha
    · rw [rels_cons]
      refine Int.le_trans (rels_le L _ _) ?_
      have hs := R.samem
      rw [← e] at hs ⊢
      unfold rel
      by_cases c : s.1 a.u < farI ∧ s.1 a.u + a.c < s.1 a.v
      · rw [if_pos c]; show upI s.1 a.v (s.1 a.u + a.c) a.v ≤ _; rw [upI_same]; omega
      · rw [if_neg c]
        have : ¬ s.1 a.u + a.c < s.1 a.v := fun d => c ⟨by rw [hs, e]; exact kf, d⟩
        omega
    · rw [rels_cons]; exact q a ha e
def Fix (A : List Arc) (s : PS) : Prop := ∀ a, a ∈ A → s.1 a.u < farI → s.1 a.v ≤ s.1 a.u + a.c
theorem Fix.round {A : List Arc} {s : PS} (h : Fix A s) : rels A s = s := rels_id A h
theorem Stl.round {A : List Arc} {S : Nat → Bool} {m : Nat} {h : Nat → Int} {s : PS} (hA : AOk A m h) (T : Stl A S m h s) : Fix A s ∨ ∃ k, k < m ∧ S k = false ∧ Stl A (put1 S k) m h (rels A s) := by
 by_cases c : ∃ v, v < m ∧ S v = false ∧ s.1 v < farI
 ·obtain ⟨k, hk, ⟨kS, kf⟩, hm⟩ := arg1 (fun v => S v = false ∧ s.1 v < farI) (fun v => s.1 v - h v) m c
  obtain ⟨R, q⟩ := Rd.all hA T hk kS kf A s (fun a ha => ha) ⟨fun _ _ => rfl, rfl, fun v hv vS vf => hm v hv ⟨vS, vf⟩, fun _ => Int.le_refl _⟩
  refine Or.inr ⟨k, hk, kS, fun u hu => ?_, fun a ha hu => ?_, fun u v hu hv hvS hf => ?_⟩
  ·unfold put1 at hu
   by_cases e : u = k
   ·subst e; rw [R.samem]; exact ⟨hk, kf⟩
   ·rw [if_neg e] at hu; rw [R.same u hu]; exact T.got u hu
  ·unfold put1 at hu
   by_cases e : a.u = k
   ·have := q a ha e; rw [e, R.samem]; exact this
   ·rw [if_neg e] at hu
    rw [R.same a.u hu]
    exact Int.le_trans (R.less a.v) (T.arcs a ha hu)
  ·unfold put1 at hu hvS
   by_cases e2 : v = k
   ·rw [if_pos e2] at hvS; cases hvS
   ·rw [if_neg e2] at hvS
    have q2 := R.out v hv hvS hf
    by_cases e : u = k
    ·subst e; rw [R.samem]; exact q2
    ·rw [if_neg e] at hu
     have := T.far u k hu hk kS kf
     rw [R.same u hu]; omega
 ·refine Or.inl (fun a ha hf => ?_)
  cases uS : S a.u with
  | true => exact T.arcs a ha uS
  | false => exact absurd ⟨a.u, (hA a ha).1, uS, hf⟩ c
theorem bf_fix {A : List Arc} {m : Nat} {h : Nat → Int} (s : PS) (hA : AOk A m h) : Fix A (rnds A s m) := by
  have key : ∀ r, r ≤ m → Fix A (rnds A s r) ∨ ∃ S, Stl A S m h (rnds A s r) ∧ cntA S m = r := by
    intro r
    induction r with
    | zero => exact fun _ => Or.inr ⟨fun _ => false, ⟨fun u hu => (by cases hu), fun a _ hu => (by cases hu), fun u v hu => (by cases hu)⟩, by
        have : ∀ k, cntA (fun _ => false) k = 0 := fun k => by
          induction k with
          | zero => rfl
          | succ k ih => unfold cntA; rw [ih]; simp
        exact this m⟩
    | succ r ih =>
      intro hr
      rcases ih (by omega) with q | ⟨S, T, hc⟩
      · left; show Fix A (rels A (rnds A s r)); rw [q.round]; exact q
      · rcases T.round hA with q | ⟨k, hk, kS, T'⟩
        · left; show Fix A (rels A (rnds A s r)); rw [q.round]; exact q
        · refine Or.inr ⟨put1 S k, T', ?_⟩
          rw [cnt_put kS m, if_pos hk, hc]
  rcases key m (Nat.le_refl _) with q | ⟨S, T, hc⟩
  · exact q
  · exact fun a ha hf => T.arcs a ha (cnt_full m hc a.u (hA a ha).1)
def Fi (A : List Arc) (h : Nat → Int) (s0 s : PS) (d : Nat → Nat) : Prop :=
 ∀ v, (s.2 v = -1 ∧ s.1 v = s0.1 v) ∨ ∃ x, x ∈ A ∧ x.v = v ∧ s.2 v = (x.u : Int) ∧ s.1 x.u < farI ∧ s.1 x.u + x.c ≤ s.1 v ∧ s.1 v < farI ∧ (s.1 x.u - h x.u < s.1 v - h v ∨ (s.1 x.u - h x.u ≤ s.1 v - h v ∧ d x.u < d v))
theorem Fi.rel {A : List Arc} {m : Nat} {h : Nat → Int} {s0 s : PS} {d : Nat → Nat} (hA : AOk A m h) (F : Fi A h s0 s d) (hs : ∀ v, s.1 v ≤ farI) {a : Arc} (ha : a ∈ A) : ∃ d', Fi A h s0 (rel s a) d' := by
 unfold Go.Proofs.YtfphlpglgcmljaaGreat.rel
 by_cases c : s.1 a.u < farI ∧ s.1 a.u + a.c < s.1 a.v
 ·rw [if_pos c]
  obtain ⟨hu, hv, hne, hp⟩ := hA a ha
  have hsv := hs a.v
  refine ⟨fun x => if x = a.v then d a.u + 1 else d x, fun v => ?_⟩
  by_cases e : v = a.v
  ·subst e
   refine Or.inr ⟨a, ha, rfl, ?_⟩
   show upI s.2 a.v (a.u : Int) a.v = _ ∧ upI s.1 a.v (s.1 a.u + a.c) a.u < farI ∧ upI s.1 a.v (s.1 a.u + a.c) a.u + a.c ≤ upI s.1 a.v (s.1 a.u + a.c) a.v ∧ upI s.1 a.v (s.1 a.u + a.c) a.v < farI ∧ (upI s.1 a.v (s.1 a.u + a.c) a.u - h a.u < upI s.1 a.v (s.1 a.u + a.c) a.v - h a.v ∨ (upI s.1 a.v (s.1 a.u + a.c) a.u - h a.u ≤ upI s.1 a.v (s.1 a.u + a.c) a.v - h a.v ∧ (if a.u = a.v then d a.u + 1 else d a.u) < if a.v = a.v then d a.u + 1 else d a.v))
   rw [upI_same, upI_same, upI_ne hne, if_neg hne, if_pos rfl]
   exact ⟨rfl, c.1, Int.le_refl _, by omega, Or.inr ⟨by omega, by omega⟩⟩
  ·rcases F v with ⟨f1, f2⟩ | ⟨x, hx, xv, f1, f2, f3, f4, f5⟩
   ·left
    show upI s.2 a.v (a.u : Int) v = -1 ∧ upI s.1 a.v (s.1 a.u + a.c) v = _
    rw [upI_ne e, upI_ne e]; exact ⟨f1, f2⟩
   ·refine Or.inr ⟨x, hx, xv, ?_⟩
    show upI s.2 a.v (a.u : Int) v = _ ∧ upI s.1 a.v (s.1 a.u + a.c) x.u < farI ∧ upI s.1 a.v (s.1 a.u + a.c) x.u + x.c ≤ upI s.1 a.v (s.1 a.u + a.c) v ∧ upI s.1 a.v (s.1 a.u + a.c) v < farI ∧ (upI s.1 a.v (s.1 a.u + a.c) x.u - h x.u < upI s.1 a.v (s.1 a.u + a.c) v - h v ∨ (upI s.1 a.v (s.1 a.u + a.c) x.u - h x.u ≤ upI s.1 a.v (s.1 a.u + a.c) v - h v ∧ (if x.u = a.v then d a.u + 1 else d x.u) < if v = a.v then d a.u + 1 else d v))
    rw [upI_ne e, upI_ne e, if_neg e]
    by_cases e2 : x.u = a.v
    ·rw [e2, upI_same]
     rw [e2] at f2 f3 f5
     refine ⟨by rw [f1, e2], by omega, by omega, f4, Or.inl ?_⟩
     rcases f5 with g | g
     ·omega
     ·have := g.1; omega
    ·rw [upI_ne e2, if_neg e2]
     exact ⟨f1, f2, f3, f4, f5⟩
 ·rw [if_neg c]; exact ⟨d, F⟩
theorem Fi.rels {A : List Arc} {m : Nat} {h : Nat → Int} {s0 : PS} (hA : AOk A m h) : ∀ (L : List Arc) (s : PS) (d : Nat → Nat), (∀ a, a ∈ L → a ∈ A) → (∀ v, s.1 v ≤ farI) → Fi A h s0 s d → ∃ d', Fi A h s0 (rels L s) d'
  | [], s, d, _, _, F => ⟨d, F⟩
  | b :: L, s, d, hL, hs, F => by
    obtain ⟨d', F'⟩ := F.rel hA hs (hL b (by simp))
    exact Fi.rels hA L (Go.Proofs.YtfphlpglgcmljaaGreat.rel s b) d' (fun a ha => hL a (by simp [ha])) (fun v => Int.le_trans (rel_le s b v) (hs v)) F'
theorem Fi.rnds {A : List Arc} {m : Nat} {h : Nat → Int} {s0 : PS} (hA : AOk A m h) (h0 : ∀ v, s0.1 v ≤ farI) (hm : ∀ v, s0.2 v = -1) : ∀ r, ∃ d, Fi A h s0 (rnds A s0 r) d
  | 0 => ⟨fun _ => 0, fun v => Or.inl ⟨hm v, rfl⟩⟩
  | r + 1 => by
    obtain ⟨d, F⟩ := Fi.rnds hA h0 hm r
    exact Fi.rels hA A _ d (fun a ha => ha) (fun v => Int.le_trans (rnds_le A s0 v r) (h0 v)) F
theorem bound_all (f : Nat → Int) : ∀ n, ∃ C : Int, 0 ≤ C ∧ ∀ i, i < n → -C ≤ f i ∧ f i ≤ C
  | 0 => ⟨0, by omega, fun i hi => by omega⟩
  | n + 1 => by
    obtain ⟨C, hC, h⟩ := bound_all f n
    refine ⟨C + (f n).natAbs, by omega, fun i hi => ?_⟩
    by_cases e : i = n
    · subst e; omega
    · have := h i (by omega); omega
theorem Fi.rank {A : List Arc} {m : Nat} {h : Nat → Int} {s0 s : PS} {d : Nat → Nat} (hA : AOk A m h) (F : Fi A h s0 s d) : ∃ rk : Nat → Nat, ∀ v, v < m → 0 ≤ s.2 v → (s.2 v).toNat < m ∧ rk (s.2 v).toNat < rk v := by
 obtain ⟨C, hC, hc⟩ := bound_all (fun v => s.1 v - h v) m
 obtain ⟨D, hD, hd⟩ := bound_all (fun v => (d v : Int)) m
 refine ⟨fun v => ((s.1 v - h v + C) * (D + 1) + d v).toNat, fun v hv h0 => ?_⟩
 rcases F v with ⟨f1, _⟩ | ⟨x, hx, xv, f1, f2, f3, f4, f5⟩
 ·omega
 ·have hu := (hA x hx).1
  have e : (s.2 v).toNat = x.u := by omega
  rw [e]
  refine ⟨hu, ?_⟩
  have c1 := hc x.u hu
  have d1 := hd x.u hu
  have d2 := hd v hv
  have c2 := hc v hv
  dsimp only at c1 c2 d1 d2 ⊢
  have p1 : 0 ≤ (s.1 x.u - h x.u + C) * (D + 1) := Int.mul_nonneg (by omega) (by omega)
  rcases f5 with g | ⟨g1, g2⟩
  ·have p2 : (s.1 x.u - h x.u + C + 1) * (D + 1) ≤ (s.1 v - h v + C) * (D + 1) := Int.mul_le_mul_of_nonneg_right (by omega) (by omega)
   rw [Int.add_mul] at p2
   omega
  ·have p2 : (s.1 x.u - h x.u + C) * (D + 1) ≤ (s.1 v - h v + C) * (D + 1) := Int.mul_le_mul_of_nonneg_right (by omega) (by omega)
   omega
set_option linter.unusedVariables false
set_option linter.unusedSimpArgs false
def aOne (N : Nat) (xs : List Int) (mo : Nat → Nat → Int) (k i : Nat) : List Arc :=
 if k = i ∨ fnB N xs k i = false then [] else ⟨2 * k, 2 * i + 1, bF N xs k i⟩ :: (if 0 < mo k i then [⟨2 * i + 1, 2 * k, -bF N xs k i⟩] else [])
def aI (N : Nat) (xs : List Int) (mo : Nat → Nat → Int) (k : Nat) : Nat → List Arc
 | 0 => []
 | i + 1 => aI N xs mo k i ++ aOne N xs mo k i
def aK (N : Nat) (xs : List Int) (mo : Nat → Nat → Int) : Nat → List Arc
 | 0 => []
 | k + 1 => aK N xs mo k ++ aI N xs mo k (N + 1)
theorem aOne_mem {N : Nat} {xs : List Int} {mo : Nat → Nat → Int} {k i : Nat} {a : Arc} : a ∈ aOne N xs mo k i ↔ k ≠ i ∧ fnF N xs k i ∧ (a = ⟨2 * k, 2 * i + 1, bF N xs k i⟩ ∨ (0 < mo k i ∧ a = ⟨2 * i + 1, 2 * k, -bF N xs k i⟩)) := by
 unfold aOne
 by_cases c : k = i ∨ fnB N xs k i = false
 ·rw [if_pos c]
  constructor
  ·intro h; cases h
  ·rintro ⟨h1, h2, _⟩
   rcases c with e | e
   ·exact absurd e h1
   ·rw [fnB_iff.2 h2] at e; cases e
 ·rw [if_neg c]
  have h1 : k ≠ i := fun e => c (Or.inl e)
  have h2 : fnF N xs k i := by
   cases e : fnB N xs k i with
   | false => exact absurd (Or.inr e) c
   | true => exact fnB_iff.1 e
  rw [List.mem_cons]
  constructor
  ·intro h
   refine ⟨h1, h2, h.imp id (fun q => ?_)⟩
   by_cases d : 0 < mo k i
   ·rw [if_pos d] at q; exact ⟨d, by simpa using q⟩
   ·rw [if_neg d] at q; cases q
  ·rintro ⟨_, _, h⟩
   refine h.imp id (fun ⟨d, q⟩ => ?_)
   rw [if_pos d, q]; simp
theorem aI_mem {N : Nat} {xs : List Int} {mo : Nat → Nat → Int} {k : Nat} {a : Arc} : ∀ {n : Nat}, a ∈ aI N xs mo k n ↔ ∃ i, i < n ∧ a ∈ aOne N xs mo k i
 | 0 => ⟨fun h => (by cases h), fun ⟨i, hi, _⟩ => by omega⟩
 | n + 1 => by
  unfold aI
  rw [List.mem_append, aI_mem]
  constructor
  ·rintro (⟨i, hi, h⟩ | h)
   ·exact ⟨i, by omega, h⟩
   ·exact ⟨n, by omega, h⟩
  ·rintro ⟨i, hi, h⟩
   by_cases e : i = n
   ·subst e; exact Or.inr h
   ·exact Or.inl ⟨i, by omega, h⟩
theorem aK_mem {N : Nat} {xs : List Int} {mo : Nat → Nat → Int} {a : Arc} : ∀ {n : Nat}, a ∈ aK N xs mo n ↔ ∃ k i, k < n ∧ i < N + 1 ∧ a ∈ aOne N xs mo k i
 | 0 => ⟨fun h => (by cases h), fun ⟨k, i, hk, _⟩ => by omega⟩
 | n + 1 => by
  unfold aK
  rw [List.mem_append, aK_mem, aI_mem]
  constructor
  ·rintro (⟨k, i, hk, hi, h⟩ | ⟨i, hi, h⟩)
   ·exact ⟨k, i, by omega, hi, h⟩
   ·exact ⟨n, i, by omega, hi, h⟩
  ·rintro ⟨k, i, hk, hi, h⟩
   by_cases e : k = n
   ·subst e; exact Or.inr ⟨i, hi, h⟩
   ·exact Or.inl ⟨k, i, by omega, hi, h⟩
theorem aOne_len (N : Nat) (xs : List Int) (mo : Nat → Nat → Int) (k i : Nat) : (aOne N xs mo k i).length ≤ 2 := by
 unfold aOne
 split
 ·simp
 ·split <;> simp
theorem aI_len (N : Nat) (xs : List Int) (mo : Nat → Nat → Int) (k : Nat) : ∀ n, (aI N xs mo k n).length ≤ 2 * n
 | 0 => Nat.le_refl _
 | n + 1 => by have := aI_len N xs mo k n; have := aOne_len N xs mo k n; unfold aI; rw [List.length_append]; omega
theorem aK_len {N : Nat} (hN : N ≤ 3) (xs : List Int) (mo : Nat → Nat → Int) : ∀ n, (aK N xs mo n).length ≤ 8 * n
 | 0 => Nat.le_refl _
 | n + 1 => by have := aK_len hN xs mo n; have := aI_len N xs mo n (N + 1); unfold aK; rw [List.length_append]; omega
theorem arc_bd {N : Nat} {xs : List Int} (hn : Near N xs) {mo : Nat → Nat → Int} {k i : Nat} (hk : k ≤ N) (hi : i ≤ N) {a : Arc} (h : a ∈ aOne N xs mo k i) : -67108864 ≤ a.c ∧ a.c ≤ 67108864 := by
 obtain ⟨_, h2, h3⟩ := aOne_mem.1 h
 have := hn k i hk hi h2
 rcases h3 with rfl | ⟨_, rfl⟩
 ·exact this
 ·show _ ≤ -bF N xs k i ∧ -bF N xs k i ≤ _; omega
def p0F (need : Nat → Int) : PS := (fun j => if j % 2 = 0 ∧ need (j / 2) < 0 then 0 else farI, fun _ => -1)
theorem p0_pb (need : Nat → Int) : Pb (p0F need) 0 := fun v => by
 show (if v % 2 = 0 ∧ need (v / 2) < 0 then (0 : Int) else farI) = farI ∨ _ ≤ (if v % 2 = 0 ∧ need (v / 2) < 0 then (0 : Int) else farI) ∧ (if v % 2 = 0 ∧ need (v / 2) < 0 then (0 : Int) else farI) ≤ 0
 split
 ·right; omega
 ·left; rfl
theorem p0_le (need : Nat → Int) (v : Nat) : (p0F need).1 v ≤ farI := by
 show (if v % 2 = 0 ∧ need (v / 2) < 0 then (0 : Int) else farI) ≤ farI
 split
 ·decide
 ·exact Int.le_refl _
def pthS (N : Nat) (xs : List Int) (need : Nat → Int) (mo : Nat → Nat → Int) : PS := rnds (aK N xs mo (N + 1)) (p0F need) (2 * (N + 1))
theorem in_round {N : Nat} {xs : List Int} (hN : N ≤ 3) (hn : Near N xs) (need : Nat → Int) (mo : Nat → Nat → Int) {r : Nat} (hr : r ≤ 8) {L : List Arc} (hl : L.length ≤ 32) (hm : ∀ a, a ∈ L → -67108864 ≤ a.c ∧ a.c ≤ 67108864) : Pb (rels L (rnds (aK N xs mo (N + 1)) (p0F need) r)) 19327352832 := by
 have hA : ∀ a, a ∈ aK N xs mo (N + 1) → -67108864 ≤ a.c ∧ a.c ≤ 67108864 := fun a ha => by
  obtain ⟨k, i, hk, hi, h⟩ := aK_mem.1 ha
  exact arc_bd hn (by omega) (by omega) h
 have h := Pb.rnds (by decide) (p0_pb need) hA (by have := aK_len hN xs mo (N + 1); omega) r
 exact (h.rels32 (by decide) hm hl).mono (by omega)
def endT (need p : Nat → Int) : Nat → Int
 | 0 => -1
 | i + 1 => if 0 < need i ∧ p (2 * i + 1) < farI ∧ (endT need p i < 0 ∨ p (2 * i + 1) < p (endT need p i).toNat) then 2 * (i : Int) + 1 else endT need p i
theorem endT_is (need p : Nat → Int) : ∀ n, (endT need p n = -1 ∧ ∀ i, i < n → 0 < need i → ¬ p (2 * i + 1) < farI) ∨ ∃ i, i < n ∧ endT need p n = 2 * (i : Int) + 1 ∧ 0 < need i ∧ p (2 * i + 1) < farI
 | 0 => Or.inl ⟨rfl, fun i hi => by omega⟩
 | n + 1 => by
  unfold endT
  by_cases c : 0 < need n ∧ p (2 * n + 1) < farI ∧ (endT need p n < 0 ∨ p (2 * n + 1) < p (endT need p n).toNat)
  ·rw [if_pos c]; exact Or.inr ⟨n, by omega, rfl, c.1, c.2.1⟩
  ·rw [if_neg c]
   rcases endT_is need p n with ⟨h1, h2⟩ | ⟨i, hi, h⟩
   ·refine Or.inl ⟨h1, fun i hi hp hf => ?_⟩
    by_cases e : i = n
    ·subst e; exact c ⟨hp, hf, Or.inl (by omega)⟩
    ·exact h2 i (by omega) hp hf
   ·exact Or.inr ⟨i, by omega, h⟩
inductive Ch (fr : Nat → Int) : Int → List Nat → Prop
 | nil {x : Int} : x < 0 → Ch fr x []
 | cons {j : Nat} {L : List Nat} : Ch fr (fr j) L → Ch fr (j : Int) (j :: L)
def Rk (fr : Nat → Int) (m : Nat) (rk : Nat → Nat) : Prop := (∀ v, v < m → rk v ≤ m) ∧ ∀ v, v < m → 0 ≤ fr v → (fr v).toNat < m ∧ rk (fr v).toNat < rk v
theorem cnt_lt {a b : Nat → Bool} (hab : ∀ i, a i = true → b i = true) {u : Nat} (ha : a u = false) (hb : b u = true) : ∀ k, cntA a k ≤ cntA b k ∧ (u < k → cntA a k < cntA b k)
  | 0 => ⟨Nat.le_refl _, fun h => by omega⟩
  | k + 1 => by
    obtain ⟨h1, h2⟩ := cnt_lt hab ha hb k
    unfold cntA
    by_cases e : k = u
    · subst e
      rw [ha, hb]; simp; omega
    · by_cases c : a k = true
      · rw [if_pos c, if_pos (hab k c)]
        exact ⟨by omega, fun q => by have := h2 (by omega); omega⟩
      · rw [if_neg c]
        exact ⟨by omega, fun q => by have := h2 (by omega); omega⟩
theorem rk_of {fr : Nat → Int} {m : Nat} {rk : Nat → Nat} (h : ∀ v, v < m → 0 ≤ fr v → (fr v).toNat < m ∧ rk (fr v).toNat < rk v) : ∃ rk', Rk fr m rk' := by
 refine ⟨fun v => cntA (fun w => decide (rk w < rk v)) m, fun v _ => cnt_le _ m, fun v hv h0 => ?_⟩
 obtain ⟨h1, h2⟩ := h v hv h0
 refine ⟨h1, (cnt_lt (u := (fr v).toNat) (fun i hi => ?_) ?_ ?_ m).2 h1⟩
 ·simp only [decide_eq_true_eq] at hi ⊢; omega
 ·simp
 ·simp only [decide_eq_true_eq]; exact h2
theorem ch_ex {fr : Nat → Int} {m : Nat} {rk : Nat → Nat} (h : Rk fr m rk) : ∀ (n : Nat) (x : Int), (0 ≤ x → x.toNat < m ∧ rk x.toNat < n) → ∃ L, Ch fr x L ∧ L.length ≤ n
  | 0, x, hx => by
    by_cases c : 0 ≤ x
    · have := (hx c).2; omega
    · exact ⟨[], .nil (by omega), Nat.le_refl _⟩
  | n + 1, x, hx => by
    by_cases c : 0 ≤ x
    · obtain ⟨h1, h2⟩ := hx c
      obtain ⟨L, hL, hl⟩ := ch_ex h n (fr x.toNat) (fun q => ⟨(h.2 x.toNat h1 q).1, by have := (h.2 x.toNat h1 q).2; omega⟩)
      refine ⟨x.toNat :: L, ?_, by simp; omega⟩
      have e : x = (x.toNat : Int) := by omega
      rw [e]
      exact .cons hL
    · exact ⟨[], .nil (by omega), by simp⟩
theorem Ch.pos {fr : Nat → Int} {x : Int} {L : List Nat} (h : Ch fr x L) (hx : 0 ≤ x) : ∃ L', L = x.toNat :: L' ∧ Ch fr (fr x.toNat) L' := by
 cases h with
 | nil h => omega
 | cons h => exact ⟨_, rfl, h⟩
theorem Ch.neg {fr : Nat → Int} {x : Int} {L : List Nat} (h : Ch fr x L) (hx : x < 0) : L = [] := by
 cases h with
 | nil h => rfl
 | cons h => omega
theorem Ch.lt {fr : Nat → Int} {m : Nat} {rk : Nat → Nat} (hr : Rk fr m rk) : ∀ {L : List Nat} {x : Int}, Ch fr x L → (0 ≤ x → x.toNat < m) → ∀ j, j ∈ L → j < m
  | _, _, .nil _, _, j, hj => by cases hj
  | _, _, .cons (j := i) h, hx, j, hj => by
    have hi : i < m := by have := hx (by omega); simpa using this
    rcases List.mem_cons.1 hj with e | hj
    · rw [e]; exact hi
    · exact Ch.lt hr h (fun q => (hr.2 i hi q).1) j hj
def nd (R : List Nat) (s : Nat) : Nat := R.getD s 0
theorem nd_app {R : List Nat} {x s : Nat} (h : s < R.length) : nd (R ++ [x]) s = nd R s := by
 unfold nd; rw [List.getD_eq_getElem?_getD, List.getD_eq_getElem?_getD, List.getElem?_append_left h]
theorem nd_end (R : List Nat) (x : Nat) : nd (R ++ [x]) R.length = x := by
 unfold nd; rw [List.getD_eq_getElem?_getD, List.getElem?_append_right (Nat.le_refl _)]; simp
structure Way (A : List Arc) (m : Nat) (s : PS) (rk : Nat → Nat) (e : Nat) (R : List Nat) : Prop where
 one : 0 < R.length
 lst : nd R (R.length - 1) = e
 fst : s.2 (nd R 0) < 0 ∧ s.1 (nd R 0) < farI
 all : ∀ t, t < R.length → nd R t < m
 up : ∀ t t', t < t' → t' < R.length → rk (nd R t) < rk (nd R t')
 arc : ∀ t, t + 1 < R.length → ∃ x, x ∈ A ∧ x.u = nd R t ∧ x.v = nd R (t + 1) ∧ s.1 x.v = s.1 x.u + x.c
theorem way_of {A : List Arc} {m : Nat} {h : Nat → Int} {s0 s : PS} {d rk : Nat → Nat} (hA : AOk A m h) (F : Fi A h s0 s d) (X : Fix A s) (hr : Rk s.2 m rk) : ∀ {L : List Nat} {x : Int}, Ch s.2 x L → 0 ≤ x → x.toNat < m → s.1 x.toNat < farI → Way A m s rk x.toNat L.reverse
  | _, _, .nil h0, hx, _, _ => by omega
  | _, _, .cons (j := i) (L := L) hc, hx, hm, hf => by
    have hi : i < m := by simpa using hm
    have hfi : s.1 i < farI := by simpa using hf
    rw [Int.toNat_natCast, List.reverse_cons]
    by_cases c : 0 ≤ s.2 i
    · obtain ⟨h1, h2⟩ := hr.2 i hi c
      rcases F i with ⟨f1, _⟩ | ⟨x, hxA, xv, f1, f2, f3, _, _⟩
      · omega
      · have e : (s.2 i).toNat = x.u := by omega
        have W := way_of hA F X hr hc c h1 (by rw [e]; exact f2)
        rw [e] at W h2
        have hpos := W.one
        refine ⟨by simp, ?_, ?_, fun t ht => ?_, fun t t' h1 h2' => ?_, fun t ht => ?_⟩
        · rw [List.length_append, List.length_singleton, Nat.add_sub_cancel]; exact nd_end _ _
        · rw [nd_app hpos]; exact W.fst
        · rw [List.length_append, List.length_singleton] at ht
          by_cases q : t = L.reverse.length
          · rw [q, nd_end]; exact hi
          · rw [nd_app (by omega)]; exact W.all t (by omega)
        · rw [List.length_append, List.length_singleton] at h2'
          rw [nd_app (show t < L.reverse.length by omega)]
          by_cases q : t' = L.reverse.length
          · rw [q, nd_end]
            by_cases q2 : t = L.reverse.length - 1
            · rw [q2, W.lst]; exact h2
            · have := W.up t (L.reverse.length - 1) (by omega) (by omega)
              rw [W.lst] at this; omega
          · rw [nd_app (by omega)]; exact W.up t t' h1 (by omega)
        · rw [List.length_append, List.length_singleton] at ht
          rw [nd_app (show t < L.reverse.length by omega)]
          by_cases q : t + 1 = L.reverse.length
          · rw [q, nd_end]
            have e2 : t = L.reverse.length - 1 := by omega
            rw [e2, W.lst]
            refine ⟨x, hxA, rfl, xv, ?_⟩
            have := X x hxA f2
            rw [xv] at this ⊢
            omega
          · rw [nd_app (by omega)]; exact W.arc t (by omega)
    · have e : L = [] := hc.neg (by omega)
      subst e
      refine ⟨by simp, by simp [nd], ⟨by simp [nd]; omega, by simpa [nd] using hfi⟩, fun t ht => ?_, fun t t' h1 h2 => ?_, fun t ht => ?_⟩
      · have : t = 0 := by simpa using ht
        subst this; simpa [nd] using hi
      · simp at h2; omega
      · simp at ht
set_option linter.unusedVariables false
set_option linter.unusedSimpArgs false
def sm (f : Nat → Int) : Nat → Int
 | 0 => 0
 | n + 1 => sm f n + f n
theorem sm_congr {f g : Nat → Int} : ∀ n, (∀ i, i < n → f i = g i) → sm f n = sm g n
 | 0, _ => rfl
 | n + 1, h => by unfold sm; rw [sm_congr n (fun i hi => h i (by omega)), h n (by omega)]
theorem sm_le {f g : Nat → Int} : ∀ n, (∀ i, i < n → f i ≤ g i) → sm f n ≤ sm g n
  | 0, _ => Int.le_refl _
  | n + 1, h => by
    have h1 := sm_le n (fun i hi => h i (by omega))
    have h2 := h n (by omega)
    unfold sm; omega
theorem sm_lt {f g : Nat → Int} {j : Nat} : ∀ n, j < n → (∀ i, i < n → f i ≤ g i) → f j < g j → sm f n < sm g n
  | 0, hj, _, _ => by omega
  | n + 1, hj, h, hl => by
    have h2 := h n (by omega)
    by_cases e : j = n
    · subst e
      have h1 := sm_le j (fun i hi => h i (by omega))
      unfold sm; omega
    · have h1 := sm_lt n (by omega) (fun i hi => h i (by omega)) hl
      unfold sm; omega
theorem sm_zero : ∀ n, sm (fun _ => 0) n = 0
 | 0 => rfl
 | n + 1 => by unfold sm; rw [sm_zero n]; rfl
theorem sm_neg (f : Nat → Int) : ∀ n, sm (fun i => -f i) n = -sm f n
 | 0 => rfl
 | n + 1 => by unfold sm; rw [sm_neg f n]; omega
theorem sm_one {f g : Nat → Int} {k : Nat} : ∀ n, k < n → (∀ i, i < n → i ≠ k → g i = f i) → sm g n = sm f n + (g k - f k)
  | 0, hk, _ => by omega
  | n + 1, hk, h => by
    by_cases e : k = n
    · subst e
      unfold sm; rw [sm_congr (f := g) (g := f) k (fun i hi => h i (by omega) (by omega))]; omega
    · unfold sm; rw [sm_one n (by omega) (fun i hi hne => h i (by omega) hne), h n (by omega) (fun c => e c.symm)]; omega
theorem sm_shift (f : Nat → Int) : ∀ n, sm f (n + 1) = f 0 + sm (fun i => f (i + 1)) n
 | 0 => by show 0 + f 0 = f 0 + 0; omega
 | n + 1 => by show sm f (n + 1) + f (n + 1) = f 0 + (sm (fun i => f (i + 1)) n + f (n + 1)); rw [sm_shift f n]; omega
def sm2 (n : Nat) (mo w : Nat → Nat → Int) : Int := sm (fun k => sm (fun i => mo k i * w k i) n) n
theorem sm2_le {n : Nat} {mo w mo' w' : Nat → Nat → Int} (h : ∀ k i, k < n → i < n → mo k i * w k i ≤ mo' k i * w' k i) : sm2 n mo w ≤ sm2 n mo' w' :=
 sm_le n (fun k hk => sm_le n (fun i hi => h k i hk hi))
theorem sm2_congr {n : Nat} {mo w mo' w' : Nat → Nat → Int} (h : ∀ k i, k < n → i < n → mo k i * w k i = mo' k i * w' k i) : sm2 n mo w = sm2 n mo' w' :=
 sm_congr n (fun k hk => sm_congr n (fun i hi => h k i hk hi))
theorem sm2_neg (n : Nat) (mo w : Nat → Nat → Int) : sm2 n mo (fun k i => -w k i) = -sm2 n mo w := by
 unfold sm2
 rw [← sm_neg]
 refine sm_congr n (fun k _ => ?_)
 rw [← sm_neg]
 exact sm_congr n (fun i _ => Int.mul_neg _ _)
theorem sm2_zero (n : Nat) (w : Nat → Nat → Int) : sm2 n (fun _ _ => 0) w = 0 := by
 unfold sm2
 rw [sm_congr (g := fun _ => 0) n (fun k _ => ?_), sm_zero]
 rw [sm_congr (g := fun _ => 0) n (fun i _ => Int.zero_mul _), sm_zero]
def upd2 (mo : Nat → Nat → Int) (k i : Nat) (x : Int) : Nat → Nat → Int := fun a b => if a = k ∧ b = i then x else mo a b
theorem upd2_same (mo : Nat → Nat → Int) (k i : Nat) (x : Int) : upd2 mo k i x k i = x := by unfold upd2; rw [if_pos ⟨rfl, rfl⟩]
theorem upd2_ne {mo : Nat → Nat → Int} {k i a b : Nat} {x : Int} (h : ¬ (a = k ∧ b = i)) : upd2 mo k i x a b = mo a b := by unfold upd2; rw [if_neg h]
theorem sm2_upd {n : Nat} {mo w : Nat → Nat → Int} {k i : Nat} (x : Int) (hk : k < n) (hi : i < n) : sm2 n (upd2 mo k i x) w = sm2 n mo w + (x - mo k i) * w k i := by
 have e1 : sm (fun b => upd2 mo k i x k b * w k b) n = sm (fun b => mo k b * w k b) n + (x * w k i - mo k i * w k i) := by
  rw [sm_one (f := fun b => mo k b * w k b) (g := fun b => upd2 mo k i x k b * w k b) (k := i) n hi (fun b _ hb => by
   show upd2 mo k i x k b * w k b = _
   rw [upd2_ne (fun c => hb c.2)])]
  show _ + (upd2 mo k i x k i * w k i - _) = _
  rw [upd2_same]
 have e2 : sm2 n (upd2 mo k i x) w = sm2 n mo w + (sm (fun b => upd2 mo k i x k b * w k b) n - sm (fun b => mo k b * w k b) n) :=
  sm_one (f := fun a => sm (fun b => mo a b * w a b) n) (g := fun a => sm (fun b => upd2 mo k i x a b * w a b) n) (k := k) n hk (fun a _ ha => sm_congr n (fun b _ => by rw [upd2_ne (fun c => ha c.1)]))
 rw [e2, e1, Int.sub_mul]; omega
def movT (wy : Nat → Nat) (amt : Int) (mo : Nat → Nat → Int) : Nat → (Nat → Nat → Int)
 | 0 => mo
 | s + 1 => if s % 2 = 0 then upd2 (movT wy amt mo s) (wy s) (wy (s + 1)) (movT wy amt mo s (wy s) (wy (s + 1)) + amt) else upd2 (movT wy amt mo s) (wy (s + 1)) (wy s) (movT wy amt mo s (wy (s + 1)) (wy s) - amt)
theorem mov_sm {n len : Nat} {wy : Nat → Nat} {amt : Int} {mo w : Nat → Nat → Int} {f : Nat → Int} (hle : ∀ t, t < len → wy t < n) (he : ∀ t, t + 1 < len → t % 2 = 0 → w (wy t) (wy (t + 1)) = f (t + 1) - f t) (ho : ∀ t, t + 1 < len → t % 2 = 1 → w (wy (t + 1)) (wy t) = f t - f (t + 1)) : ∀ s, s < len → sm2 n (movT wy amt mo s) w = sm2 n mo w + amt * (f s - f 0)
  | 0, _ => by show sm2 n mo w = _; rw [Int.sub_self, Int.mul_zero, Int.add_zero]
  | s + 1, hs => by
    have ih := mov_sm hle he ho (amt := amt) (mo := mo) s (by omega)
    have e : amt * (f (s + 1) - f 0) = amt * (f s - f 0) + amt * (f (s + 1) - f s) := by rw [← Int.mul_add]; congr 1; omega
    unfold movT
    by_cases c : s % 2 = 0
    · rw [if_pos c, sm2_upd _ (hle s (by omega)) (hle (s + 1) hs), he s hs c, ih, e, Int.add_comm (movT wy amt mo s (wy s) (wy (s + 1))) amt, Int.add_sub_cancel]; omega
    · rw [if_neg c, sm2_upd _ (hle (s + 1) hs) (hle s (by omega)), ho s hs (by omega), ih, e, show movT wy amt mo s (wy (s + 1)) (wy s) - amt - movT wy amt mo s (wy (s + 1)) (wy s) = -amt by omega, Int.neg_mul, ← Int.mul_neg, show -(f s - f (s + 1)) = f (s + 1) - f s by omega]; omega
theorem mov_bd {len : Nat} {wy : Nat → Nat} {amt : Int} {mo : Nat → Nat → Int} {n : Nat} (ha : 0 ≤ amt) (hle : ∀ t, t < len → wy t < n) (hm : ∀ k i, k < n → i < n → 0 ≤ mo k i) (hd : ∀ t t', t < t' → t' < len → t % 2 = 0 → t' % 2 = 0 → wy t ≠ wy t') (hb : ∀ t, t + 1 < len → t % 2 = 1 → amt ≤ mo (wy (t + 1)) (wy t)) : ∀ s, s < len →
    (∀ k i, k < n → i < n → 0 ≤ movT wy amt mo s k i) ∧ (∀ t, s ≤ t → t + 1 < len → t % 2 = 1 → amt ≤ movT wy amt mo s (wy (t + 1)) (wy t)) ∧
    (∀ k i, movT wy amt mo s k i ≤ mo k i + amt ∧ ((∀ t, t < s → t % 2 = 0 → wy t ≠ k) → movT wy amt mo s k i ≤ mo k i)) ∧
    (∀ k i, 0 < movT wy amt mo s k i → 0 < mo k i ∨ ∃ t, t < s ∧ t % 2 = 0 ∧ wy t = k ∧ wy (t + 1) = i)
  | 0, _ => ⟨hm, fun t _ h1 h2 => hb t h1 h2, fun k i => ⟨by show mo k i ≤ _; omega, fun _ => Int.le_refl _⟩, fun k i h => Or.inl h⟩
  | s + 1, hs => by
    obtain ⟨h1, h2, h3, h4⟩ := mov_bd ha hle hm hd hb s (by omega)
    unfold movT
    by_cases c : s % 2 = 0
    · rw [if_pos c]
      refine ⟨fun k i hk hi => ?_, fun t q1 q2 q3 => ?_, fun k i => ?_, fun k i => ?_⟩
      · by_cases e : k = wy s ∧ i = wy (s + 1)
        · obtain ⟨rfl, rfl⟩ := e; rw [upd2_same]; have := h1 _ _ hk hi; omega
        · rw [upd2_ne e]; exact h1 k i hk hi
      · have := h2 t (by omega) q2 q3
        by_cases e : wy (t + 1) = wy s ∧ wy t = wy (s + 1)
        · rw [e.1, e.2] at this ⊢; rw [upd2_same]; omega
        · rw [upd2_ne e]; exact this
      · by_cases e : k = wy s ∧ i = wy (s + 1)
        · obtain ⟨rfl, rfl⟩ := e
          rw [upd2_same]
          have := (h3 (wy s) (wy (s + 1))).2 (fun t ht h0 => hd t s ht (by omega) h0 c)
          exact ⟨by omega, fun q => absurd rfl (q s (by omega) c)⟩
        · rw [upd2_ne e]
          exact ⟨(h3 k i).1, fun q => (h3 k i).2 (fun t ht h0 => q t (by omega) h0)⟩
      · by_cases e : k = wy s ∧ i = wy (s + 1)
        · intro _; exact Or.inr ⟨s, by omega, c, e.1.symm, e.2.symm⟩
        · rw [upd2_ne e]
          intro q
          rcases h4 k i q with q | ⟨t, ht, q⟩
          · exact Or.inl q
          · exact Or.inr ⟨t, by omega, q⟩
    · rw [if_neg c]
      have hs2 := h2 s (Nat.le_refl _) hs (by omega)
      refine ⟨fun k i hk hi => ?_, fun t q1 q2 q3 => ?_, fun k i => ?_, fun k i => ?_⟩
      · by_cases e : k = wy (s + 1) ∧ i = wy s
        · obtain ⟨rfl, rfl⟩ := e; rw [upd2_same]; omega
        · rw [upd2_ne e]; exact h1 k i hk hi
      · have := h2 t (by omega) q2 q3
        rw [upd2_ne (fun e => hd (s + 1) (t + 1) (by omega) q2 (by omega) (by omega) e.1.symm)]
        exact this
      · by_cases e : k = wy (s + 1) ∧ i = wy s
        · obtain ⟨rfl, rfl⟩ := e
          rw [upd2_same]
          exact ⟨by have := (h3 (wy (s + 1)) (wy s)).1; omega, fun q => by have := (h3 (wy (s + 1)) (wy s)).2 (fun t ht h0 => q t (by omega) h0); omega⟩
        · rw [upd2_ne e]
          exact ⟨(h3 k i).1, fun q => (h3 k i).2 (fun t ht h0 => q t (by omega) h0)⟩
      · by_cases e : k = wy (s + 1) ∧ i = wy s
        · obtain ⟨rfl, rfl⟩ := e
          rw [upd2_same]
          intro q
          rcases h4 (wy (s + 1)) (wy s) (by omega) with q | ⟨t, ht, q⟩
          · exact Or.inl q
          · exact Or.inr ⟨t, by omega, q⟩
        · rw [upd2_ne e]
          intro q
          rcases h4 k i q with q | ⟨t, ht, q⟩
          · exact Or.inl q
          · exact Or.inr ⟨t, by omega, q⟩
def amT (need : Nat → Int) (mo : Nat → Nat → Int) (wy : Nat → Nat) (len : Nat) : Nat → Int
 | 0 => min (-need (wy 0)) (need (wy (len - 1)))
 | t + 1 => min (amT need mo wy len t) (mo (wy (2 * t + 2)) (wy (2 * t + 1)))
theorem am_le (need : Nat → Int) (mo : Nat → Nat → Int) (wy : Nat → Nat) (len : Nat) : ∀ n, amT need mo wy len n ≤ -need (wy 0) ∧ amT need mo wy len n ≤ need (wy (len - 1)) ∧ ∀ t, t < n → amT need mo wy len n ≤ mo (wy (2 * t + 2)) (wy (2 * t + 1))
  | 0 => ⟨Int.min_le_left _ _, Int.min_le_right _ _, fun t ht => by omega⟩
  | n + 1 => by
    obtain ⟨h1, h2, h3⟩ := am_le need mo wy len n
    have a : amT need mo wy len (n + 1) ≤ amT need mo wy len n := Int.min_le_left _ _
    refine ⟨by omega, by omega, fun t ht => ?_⟩
    by_cases e : t = n
    · subst e; exact Int.min_le_right _ _
    · have := h3 t (by omega); omega
theorem am_pos {need : Nat → Int} {mo : Nat → Nat → Int} {wy : Nat → Nat} {len : Nat} (h1 : need (wy 0) < 0) (h2 : 0 < need (wy (len - 1))) : ∀ n, (∀ t, t < n → 0 < mo (wy (2 * t + 2)) (wy (2 * t + 1))) → 0 < amT need mo wy len n
  | 0, _ => by show 0 < min (-need (wy 0)) (need (wy (len - 1))); omega
  | n + 1, h => by
    have a := am_pos h1 h2 n (fun t ht => h t (by omega))
    have b := h n (by omega)
    show 0 < min (amT need mo wy len n) (mo (wy (2 * n + 2)) (wy (2 * n + 1))); omega
def ps (x : Int) : Int := if 0 < x then x else 0
def posS (N : Nat) (need : Nat → Int) : Int := sm (fun j => ps (need j)) (N + 1)
structure Inv (N : Nat) (xs : List Int) (need0 : Nat → Int) (c0 : Int) (need : Nat → Int) (mo : Nat → Nat → Int) (c : Int) : Prop where
 flow : ∀ v : Nat → Int, sm (fun i => need i * v i) (N + 1) + sm2 (N + 1) mo (fun k i => v i - v k) = sm (fun i => need0 i * v i) (N + 1)
 nn : ∀ k i, k < N + 1 → i < N + 1 → 0 ≤ mo k i
 sup : ∀ k i, k < N + 1 → i < N + 1 → 0 < mo k i → fnF N xs k i ∧ k ≠ i ∧ need0 k < 0 ∧ 0 < need0 i
 cost : c = c0 - sm2 (N + 1) mo (bF N xs)
 pot : ∃ h, AOk (aK N xs mo (N + 1)) (2 * (N + 1)) h
 sgn : ∀ k, k < N + 1 → (need0 k < 0 → need k ≤ 0) ∧ (0 < need0 k → 0 ≤ need k) ∧ (need0 k = 0 → need k = 0)
 bd : ∀ k i, k < N + 1 → i < N + 1 → mo k i + posS N need ≤ 268435456
theorem aok_of {N : Nat} {xs : List Int} {mo : Nat → Nat → Int} {h : Nat → Int} (H : ∀ k i, k ≤ N → i ≤ N → k ≠ i → fnF N xs k i → h (2 * i + 1) ≤ h (2 * k) + bF N xs k i ∧ (0 < mo k i → h (2 * k) ≤ h (2 * i + 1) - bF N xs k i)) : AOk (aK N xs mo (N + 1)) (2 * (N + 1)) h := fun a ha => by
 obtain ⟨k, i, hk, hi, h1⟩ := aK_mem.1 ha
 obtain ⟨h2, h3, h4⟩ := aOne_mem.1 h1
 have q := H k i (by omega) (by omega) h2 h3
 rcases h4 with rfl | ⟨h5, rfl⟩
 ·exact ⟨by show 2 * k < _; omega, by show 2 * i + 1 < _; omega, by show 2 * k ≠ 2 * i + 1; omega, q.1⟩
 ·exact ⟨by show 2 * i + 1 < _; omega, by show 2 * k < _; omega, by show 2 * i + 1 ≠ 2 * k; omega, by show h (2 * k) ≤ h (2 * i + 1) + -bF N xs k i; have := q.2 h5; omega⟩
theorem fwd_mem {N : Nat} {xs : List Int} {mo : Nat → Nat → Int} {k i : Nat} (hk : k ≤ N) (hi : i ≤ N) (h1 : k ≠ i) (h2 : fnF N xs k i) : (⟨2 * k, 2 * i + 1, bF N xs k i⟩ : Arc) ∈ aK N xs mo (N + 1) :=
 aK_mem.2 ⟨k, i, by omega, by omega, aOne_mem.2 ⟨h1, h2, Or.inl rfl⟩⟩
theorem bwd_mem {N : Nat} {xs : List Int} {mo : Nat → Nat → Int} {k i : Nat} (hk : k ≤ N) (hi : i ≤ N) (h1 : k ≠ i) (h2 : fnF N xs k i) (h3 : 0 < mo k i) : (⟨2 * i + 1, 2 * k, -bF N xs k i⟩ : Arc) ∈ aK N xs mo (N + 1) :=
 aK_mem.2 ⟨k, i, by omega, by omega, aOne_mem.2 ⟨h1, h2, Or.inr ⟨h3, rfl⟩⟩⟩
structure Fnd (N : Nat) (xs : List Int) (need : Nat → Int) (mo : Nat → Nat → Int) (h : Nat → Int) (d rk : Nat → Nat) : Prop where
 ok : AOk (aK N xs mo (N + 1)) (2 * (N + 1)) h
 fi : Fi (aK N xs mo (N + 1)) h (p0F need) (pthS N xs need mo) d
 fx : Fix (aK N xs mo (N + 1)) (pthS N xs need mo)
 rk : Rk (pthS N xs need mo).2 (2 * (N + 1)) rk
 bd : ∀ v, (pthS N xs need mo).1 v = farI ∨ (-19327352832 ≤ (pthS N xs need mo).1 v ∧ (pthS N xs need mo).1 v ≤ 19327352832)
theorem Inv.fnd {N : Nat} {xs : List Int} {need0 need : Nat → Int} {mo : Nat → Nat → Int} {c0 c : Int} (hN : N ≤ 3) (hn : Near N xs) (I : Inv N xs need0 c0 need mo c) : ∃ h d rk, Fnd N xs need mo h d rk := by
 obtain ⟨h, hA⟩ := I.pot
 have X : Fix (aK N xs mo (N + 1)) (pthS N xs need mo) := bf_fix _ hA
 obtain ⟨d, F⟩ := Fi.rnds hA (p0_le need) (fun _ => rfl) (2 * (N + 1))
 obtain ⟨rk, hr⟩ := F.rank hA
 obtain ⟨rk', hr'⟩ := rk_of hr
 exact ⟨h, d, rk', hA, F, X, hr', in_round hN hn need mo (r := 2 * (N + 1)) (by omega) (L := []) (by simp) (fun a ha => by cases ha)⟩
theorem far_val : farI = 1152921504606846976 := rfl
theorem Fnd.giver {N : Nat} {xs : List Int} {need0 need : Nat → Int} {mo : Nat → Nat → Int} {c0 c : Int} {h : Nat → Int} {d rk : Nat → Nat} (I : Inv N xs need0 c0 need mo c) (F : Fnd N xs need mo h d rk) {k : Nat} (hk : k ≤ N) (hp : (pthS N xs need mo).1 (2 * k) < farI) : need0 k < 0 := by
 rcases F.fi (2 * k) with ⟨_, f2⟩ | ⟨x, hx, xv, _⟩
 ·rw [f2] at hp
  have hp' : (if (2 * k) % 2 = 0 ∧ need (2 * k / 2) < 0 then (0 : Int) else farI) < farI := hp
  have e : need k < 0 := by
   refine Classical.byContradiction fun q => ?_
   rw [if_neg (fun c => q (by have := c.2; rwa [show 2 * k / 2 = k by omega] at this))] at hp'
   omega
  have := I.sgn k (by omega)
  refine Classical.byContradiction fun q => ?_
  by_cases z : need0 k = 0
  ·have := this.2.2 z; omega
  ·have := this.2.1 (by omega); omega
 ·obtain ⟨k', i, hk', hi, h1⟩ := aK_mem.1 hx
  obtain ⟨_, _, h4⟩ := aOne_mem.1 h1
  rcases h4 with rfl | ⟨h5, rfl⟩
  ·have : 2 * i + 1 = 2 * k := xv
   omega
  ·have : 2 * k' = 2 * k := xv
   have e : k' = k := by omega
   subst e
   exact (I.sup k' i hk' hi h5).2.2.1
structure Wy (N : Nat) (xs : List Int) (need : Nat → Int) (mo : Nat → Nat → Int) (p : Nat → Int) (e len : Nat) (wy : Nat → Nat) : Prop where
 two : 2 ≤ len ∧ len % 2 = 0
 le : ∀ t, t < len → wy t ≤ N
 gt : ∀ t, t < len → p (2 * wy t + t % 2) < farI
 ev : ∀ t, t + 1 < len → t % 2 = 0 → wy t ≠ wy (t + 1) ∧ fnF N xs (wy t) (wy (t + 1)) ∧ p (2 * wy (t + 1) + 1) = p (2 * wy t) + bF N xs (wy t) (wy (t + 1))
 od : ∀ t, t + 1 < len → t % 2 = 1 → 0 < mo (wy (t + 1)) (wy t) ∧ p (2 * wy (t + 1)) = p (2 * wy t + 1) - bF N xs (wy (t + 1)) (wy t)
 dis : ∀ t t', t < t' → t' < len → t % 2 = 0 → t' % 2 = 0 → wy t ≠ wy t'
 fst : need (wy 0) < 0 ∧ p (2 * wy 0) = 0
 lst : 0 < need (wy (len - 1)) ∧ e = 2 * wy (len - 1) + 1
theorem Fnd.way {N : Nat} {xs : List Int} {need : Nat → Int} {mo : Nat → Nat → Int} {h : Nat → Int} {d rk : Nat → Nat} (hn : Near N xs) (F : Fnd N xs need mo h d rk) {L : List Nat} (hE : 0 ≤ endT need (pthS N xs need mo).1 (N + 1)) (hL : Ch (pthS N xs need mo).2 (endT need (pthS N xs need mo).1 (N + 1)) L) :
  Wy N xs need mo (pthS N xs need mo).1 (endT need (pthS N xs need mo).1 (N + 1)).toNat L.length (fun t => nd L.reverse t / 2) ∧ L.length ≤ 2 * (N + 1) + 1 := by
 obtain ⟨i, hi, he, hpos, hf⟩ : ∃ i, i < N + 1 ∧ endT need (pthS N xs need mo).1 (N + 1) = 2 * (i : Int) + 1 ∧ 0 < need i ∧ (pthS N xs need mo).1 (2 * i + 1) < farI := by
  rcases endT_is need (pthS N xs need mo).1 (N + 1) with ⟨e, _⟩ | q
  ·omega
  ·exact q
 have et : (endT need (pthS N xs need mo).1 (N + 1)).toNat = 2 * i + 1 := by omega
 have W := way_of F.ok F.fi F.fx F.rk hL hE (by omega) (by rw [et]; exact hf)
 have hlen : L.length ≤ 2 * (N + 1) + 1 := by
  obtain ⟨L', hL', hl⟩ := ch_ex F.rk (2 * (N + 1) + 1) _ (fun q => ⟨by rw [et]; omega, by have := F.rk.1 (endT need (pthS N xs need mo).1 (N + 1)).toNat (by omega); omega⟩)
  have uq : ∀ {x : Int} {A B : List Nat}, Ch (pthS N xs need mo).2 x A → Ch (pthS N xs need mo).2 x B → A = B := by
   intro x A B hA
   induction hA generalizing B with
   | nil h => exact fun hB => (hB.neg h).symm
   | cons h ih =>
    intro hB
    obtain ⟨B', rfl, hB'⟩ := hB.pos (by omega)
    rw [Int.toNat_natCast] at hB' ⊢
    rw [ih hB']
  rw [uq hL hL']; exact hl
 rw [et] at W ⊢
 have hl : L.reverse.length = L.length := List.length_reverse
 obtain ⟨s, hs⟩ : ∃ s, s = pthS N xs need mo := ⟨_, rfl⟩
 obtain ⟨R, hR⟩ : ∃ R, R = L.reverse := ⟨_, rfl⟩
 rw [← hR] at W hl ⊢
 rw [← hs] at W hf ⊢
 have hb := F.bd
 have hfi := F.fi
 rw [← hs] at hb hfi
 have one := W.one
 -- the root
 obtain ⟨r1, r2, r3⟩ : nd R 0 % 2 = 0 ∧ need (nd R 0 / 2) < 0 ∧ s.1 (nd R 0) = 0 := by
  have hff := W.fst
  rcases hfi (nd R 0) with ⟨_, f2⟩ | ⟨x, _, _, f1, _⟩
  ·have f3 : s.1 (nd R 0) = if nd R 0 % 2 = 0 ∧ need (nd R 0 / 2) < 0 then (0 : Int) else farI := f2
   by_cases c : nd R 0 % 2 = 0 ∧ need (nd R 0 / 2) < 0
   ·rw [if_pos c] at f3; exact ⟨c.1, c.2, f3⟩
   ·rw [if_neg c] at f3; omega
  ·have := hff.1; omega
 -- the arcs
 have arc : ∀ t, t + 1 < R.length → ∃ k i, k ≤ N ∧ i ≤ N ∧ k ≠ i ∧ fnF N xs k i ∧ ((nd R t = 2 * k ∧ nd R (t + 1) = 2 * i + 1 ∧ s.1 (2 * i + 1) = s.1 (2 * k) + bF N xs k i) ∨ (nd R t = 2 * i + 1 ∧ nd R (t + 1) = 2 * k ∧ 0 < mo k i ∧ s.1 (2 * k) = s.1 (2 * i + 1) - bF N xs k i)) := fun t ht => by
  obtain ⟨x, hx, xu, xv, xc⟩ := W.arc t ht
  obtain ⟨k, i, hk, hi, h1⟩ := aK_mem.1 hx
  obtain ⟨h2, h3, h4⟩ := aOne_mem.1 h1
  refine ⟨k, i, by omega, by omega, h2, h3, ?_⟩
  rcases h4 with rfl | ⟨h5, rfl⟩
  ·exact Or.inl ⟨xu.symm, xv.symm, xc⟩
  ·exact Or.inr ⟨xu.symm, xv.symm, h5, by have : s.1 (2 * k) = s.1 (2 * i + 1) + -bF N xs k i := xc; omega⟩
 have par : ∀ t, t < R.length → nd R t % 2 = t % 2 ∧ s.1 (nd R t) < farI := by
  intro t
  induction t with
  | zero => exact fun _ => ⟨r1, W.fst.2⟩
  | succ t ih =>
   intro ht
   obtain ⟨p1, p2⟩ := ih (by omega)
   obtain ⟨k, i, hk, hi, _, hfn, q⟩ := arc t ht
   have nb := hn k i hk hi hfn
   rcases q with ⟨a1, a2, a3⟩ | ⟨a1, a2, _, a3⟩
   ·rw [a1] at p1 p2; rw [a2]
    refine ⟨by omega, ?_⟩
    rw [far_val] at *
    rcases hb (2 * k) with z | z <;> omega
   ·rw [a1] at p1 p2; rw [a2]
    refine ⟨by omega, ?_⟩
    rw [far_val] at *
    rcases hb (2 * i + 1) with z | z <;> omega
 have dm : ∀ t, t < R.length → 2 * (nd R t / 2) + t % 2 = nd R t := fun t ht => by have := (par t ht).1; omega
 have lst := W.lst
 have pl := par (R.length - 1) (by omega)
 rw [lst] at pl
 refine ⟨⟨by omega, fun t ht => ?_, fun t ht => ?_, fun t ht h0 => ?_, fun t ht h0 => ?_, fun t t' h1 h2 h3 h4 => ?_, ⟨r2, ?_⟩, ?_, ?_⟩, hlen⟩
 ·have := W.all t (by omega)
  show nd R t / 2 ≤ N; omega
 ·show s.1 (2 * (nd R t / 2) + t % 2) < farI
  rw [dm t (by omega)]; exact (par t (by omega)).2
 ·obtain ⟨k, i, hk, hi, hki, hfn, q⟩ := arc t (by omega)
  have p1 := (par t (by omega)).1
  rcases q with ⟨a1, a2, a3⟩ | ⟨a1, a2, a4, a3⟩
  ·have e1 : nd R t / 2 = k := by omega
   have e2 : nd R (t + 1) / 2 = i := by omega
   show nd R t / 2 ≠ nd R (t + 1) / 2 ∧ fnF N xs (nd R t / 2) (nd R (t + 1) / 2) ∧ s.1 (2 * (nd R (t + 1) / 2) + 1) = s.1 (2 * (nd R t / 2)) + bF N xs (nd R t / 2) (nd R (t + 1) / 2)
   rw [e1, e2]; exact ⟨hki, hfn, a3⟩
  ·omega
 ·obtain ⟨k, i, hk, hi, hki, hfn, q⟩ := arc t (by omega)
  have p1 := (par t (by omega)).1
  rcases q with ⟨a1, a2, a3⟩ | ⟨a1, a2, a4, a3⟩
  ·omega
  ·have e1 : nd R t / 2 = i := by omega
   have e2 : nd R (t + 1) / 2 = k := by omega
   show 0 < mo (nd R (t + 1) / 2) (nd R t / 2) ∧ s.1 (2 * (nd R (t + 1) / 2)) = s.1 (2 * (nd R t / 2) + 1) - bF N xs (nd R (t + 1) / 2) (nd R t / 2)
   rw [e1, e2]; exact ⟨a4, a3⟩
 ·have q := W.up t t' h1 (by omega)
  have d1 := dm t (by omega)
  have d2 := dm t' (by omega)
  intro e
  have e' : nd R t / 2 = nd R t' / 2 := e
  have : nd R t = nd R t' := by omega
  rw [this] at q; omega
 ·show s.1 (2 * (nd R 0 / 2)) = 0
  rw [show 2 * (nd R 0 / 2) = nd R 0 by omega]; exact r3
 ·show 0 < need (nd R (L.length - 1) / 2)
  rw [← hl, lst, show (2 * i + 1) / 2 = i by omega]; exact hpos
 ·show 2 * i + 1 = 2 * (nd R (L.length - 1) / 2) + 1
  rw [← hl, lst]; omega
end Go.Proofs.YtfphlpglgcmljaaGreat
