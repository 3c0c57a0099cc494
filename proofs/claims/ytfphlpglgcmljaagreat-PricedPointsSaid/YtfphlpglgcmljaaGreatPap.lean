/- What the cost of a point comes to, and with which error; plain words. -/
import Derived.Test.YtfphlpglgcmljaaGreatRmu
import Derived.Test.YtfphlpglgcmljaaGreatPzl
namespace Go.Proofs.YtfphlpglgcmljaaGreat
open Go.RowKit
set_option linter.unusedVariables false

theorem sbR_vr {a b c d : Int} {p : Int × Int} (h : sbR a b c d = (p, 0)) : vr p.1 p.2 = true := by
  cases hv : (vr a b && vr c d) with
  | false => rw [sbR_no hv] at h; cases h
  | true =>
    rw [sbR_yes hv] at h
    have h2 : vr a b = true ∧ vr c d = true := by simpa using hv
    have b1 := vr_bd h2.1
    have b2 := vr_bd h2.2
    exact (mkR_val (p := p.1) (q := p.2) (Int.mul_pos (by omega) (by omega)) h rfl).2.2
theorem addR_vr {a b c d : Int} {p : Int × Int} (h : addR a b c d = (p, 0)) : vr p.1 p.2 = true := by
  cases hv : (vr a b && vr c d) with
  | false => rw [adR_no hv] at h; cases h
  | true =>
    rw [adR_yes hv] at h
    have h2 : vr a b = true ∧ vr c d = true := by simpa using hv
    have b1 := vr_bd h2.1
    have b2 := vr_bd h2.2
    exact (mkR_val (p := p.1) (q := p.2) (Int.mul_pos (by omega) (by omega)) h rfl).2.2
theorem mulR_vr {a b c d : Int} {p : Int × Int} (h : mulR a b c d = (p, 0)) : vr p.1 p.2 = true := by
  cases hv : (vr a b && vr c d) with
  | false => rw [mulR_no hv] at h; cases h
  | true =>
    rw [mulR_yes hv] at h
    have h2 : vr a b = true ∧ vr c d = true := by simpa using hv
    have b1 := vr_bd h2.1
    have b2 := vr_bd h2.2
    exact (mkR_val (p := p.1) (q := p.2) (Int.mul_pos (by omega) (by omega)) h rfl).2.2
theorem ofR_vr {n : Int} {p : Int × Int} (h : mkR n 1 = (p, 0)) : vr p.1 p.2 = true := (mkR_val (p := p.1) (q := p.2) (by decide) h rfl).2.2
theorem vr_i64 {a b : Int} (h : vr a b = true) : I64 a := by have := vr_bd h; exact ⟨by omega, by omega⟩
/-- The share of one clock added: the sum so far s, its value x, its least value l, its rate r. -/
def at1 (s x : Int × Int) (l r : Int) : (Int × Int) × Int :=
  if (mkR l 1).2 = 0 then
    if (sbR x.1 x.2 (mkR l 1).1.1 (mkR l 1).1.2).2 = 0 then
      if (mkR r 1).2 = 0 then
        if (mulR (mkR r 1).1.1 (mkR r 1).1.2 (sbR x.1 x.2 (mkR l 1).1.1 (mkR l 1).1.2).1.1 (sbR x.1 x.2 (mkR l 1).1.1 (mkR l 1).1.2).1.2).2 = 0 then
          addR s.1 s.2 (mulR (mkR r 1).1.1 (mkR r 1).1.2 (sbR x.1 x.2 (mkR l 1).1.1 (mkR l 1).1.2).1.1 (sbR x.1 x.2 (mkR l 1).1.1 (mkR l 1).1.2).1.2).1.1 (mulR (mkR r 1).1.1 (mkR r 1).1.2 (sbR x.1 x.2 (mkR l 1).1.1 (mkR l 1).1.2).1.1 (sbR x.1 x.2 (mkR l 1).1.1 (mkR l 1).1.2).1.2).1.2
        else (s, (mulR (mkR r 1).1.1 (mkR r 1).1.2 (sbR x.1 x.2 (mkR l 1).1.1 (mkR l 1).1.2).1.1 (sbR x.1 x.2 (mkR l 1).1.1 (mkR l 1).1.2).1.2).2)
      else (s, (mkR r 1).2)
    else (s, (sbR x.1 x.2 (mkR l 1).1.1 (mkR l 1).1.2).2)
  else (s, (mkR l 1).2)
theorem at1_f {s x f : Int × Int} {l r e : Int} (h : mkR l 1 = (f, e)) (he : e ≠ 0) : at1 s x l r = (s, e) := by unfold at1; rw [h, if_neg he]
theorem at1_m {s x f m : Int × Int} {l r e : Int} (h : mkR l 1 = (f, 0)) (h2 : sbR x.1 x.2 f.1 f.2 = (m, e)) (he : e ≠ 0) : at1 s x l r = (s, e) := by unfold at1; rw [h, if_pos rfl, h2, if_neg he]
theorem at1_q {s x f m q : Int × Int} {l r e : Int} (h : mkR l 1 = (f, 0)) (h2 : sbR x.1 x.2 f.1 f.2 = (m, 0)) (h3 : mkR r 1 = (q, e)) (he : e ≠ 0) : at1 s x l r = (s, e) := by unfold at1; rw [h, if_pos rfl, h2, if_pos rfl, h3, if_neg he]
theorem at1_y {s x f m q y : Int × Int} {l r e : Int} (h : mkR l 1 = (f, 0)) (h2 : sbR x.1 x.2 f.1 f.2 = (m, 0)) (h3 : mkR r 1 = (q, 0)) (h4 : mulR q.1 q.2 m.1 m.2 = (y, e)) (he : e ≠ 0) : at1 s x l r = (s, e) := by
  unfold at1; rw [h, if_pos rfl, h2, if_pos rfl, h3, if_pos rfl, h4, if_neg he]
theorem at1_ok {s x f m q y : Int × Int} {l r : Int} (h : mkR l 1 = (f, 0)) (h2 : sbR x.1 x.2 f.1 f.2 = (m, 0)) (h3 : mkR r 1 = (q, 0)) (h4 : mulR q.1 q.2 m.1 m.2 = (y, 0)) : at1 s x l r = addR s.1 s.2 y.1 y.2 := by
  unfold at1; rw [h, if_pos rfl, h2, if_pos rfl, h3, if_pos rfl, h4, if_pos rfl]
/-- The sum over the first clocks. -/
def atTo (N : Nat) (xs : List Int) (c : Int) (rs : List Int) (ps : List (Int × Int)) : Nat → (Int × Int) × Int
  | 0 => mkR c 1
  | k + 1 => if (atTo N xs c rs ps k).2 = 0 then at1 (atTo N xs c rs ps k).1 (ge cdRes ps k) (lowF N xs (k + 1)) (gi rs k) else atTo N xs c rs ps k
theorem atTo_next {N : Nat} {xs : List Int} {c : Int} {rs : List Int} {ps : List (Int × Int)} {k : Nat} {s : Int × Int} (h : atTo N xs c rs ps k = (s, 0)) : atTo N xs c rs ps (k + 1) = at1 s (ge cdRes ps k) (lowF N xs (k + 1)) (gi rs k) := by
  show (if (atTo N xs c rs ps k).2 = 0 then _ else _) = _
  rw [h, if_pos rfl]
theorem atTo_stuck {N : Nat} {xs : List Int} {c : Int} {rs : List Int} {ps : List (Int × Int)} {k : Nat} (h : (atTo N xs c rs ps k).2 ≠ 0) : ∀ j, atTo N xs c rs ps (k + j) = atTo N xs c rs ps k
  | 0 => rfl
  | j + 1 => by
    show (if (atTo N xs c rs ps (k + j)).2 = 0 then _ else atTo N xs c rs ps (k + j)) = _
    rw [atTo_stuck h j, if_neg h]
theorem at1_vr {s x : Int × Int} {l r : Int} {p : Int × Int} (h : at1 s x l r = (p, 0)) : vr p.1 p.2 = true := by
  unfold at1 at h
  split at h
  · split at h
    · split at h
      · split at h
        · exact addR_vr h
        · rename_i h1; injection h with _ h2; exact absurd h2 h1
      · rename_i h1; injection h with _ h2; exact absurd h2 h1
    · rename_i h1; injection h with _ h2; exact absurd h2 h1
  · rename_i h1; injection h with _ h2; exact absurd h2 h1
theorem atTo_vr {N : Nat} {xs : List Int} {c : Int} {rs : List Int} {ps : List (Int × Int)} : ∀ {k : Nat} {s : Int × Int}, atTo N xs c rs ps k = (s, 0) → vr s.1 s.2 = true
  | 0, s, h => ofR_vr h
  | k + 1, s, h => by
    have h' : (if (atTo N xs c rs ps k).2 = 0 then at1 (atTo N xs c rs ps k).1 (ge cdRes ps k) (lowF N xs (k + 1)) (gi rs k) else atTo N xs c rs ps k) = (s, 0) := h
    split at h'
    · exact at1_vr h'
    · rename_i h1; rw [h'] at h1; exact absurd rfl h1
/-- What At answers. -/
noncomputable def atF (n : Int) (xs : List Int) (c : Int) (rs : List Int) (ps : List (Int × Int)) : (Int × Int) × Int :=
  if pzB n xs c rs = true ∧ (ps.length : Int) = n ∧ ps.all (fun x => vr x.1 x.2) = true then
    (if (atTo n.toNat xs c rs ps ps.length).2 = 0 then atTo n.toNat xs c rs ps ps.length else ((0, 0), (atTo n.toNat xs c rs ps ps.length).2))
  else ((0, 0), 2)
theorem atF_bad {n c : Int} {xs rs : List Int} {ps : List (Int × Int)} (h : ¬(pzB n xs c rs = true ∧ (ps.length : Int) = n ∧ ps.all (fun x => vr x.1 x.2) = true)) : atF n xs c rs ps = ((0, 0), 2) := by unfold atF; rw [if_neg h]
theorem atF_err {n c : Int} {xs rs : List Int} {ps : List (Int × Int)} {k : Nat} {s : Int × Int} {e : Int} (h : pzB n xs c rs = true ∧ (ps.length : Int) = n ∧ ps.all (fun x => vr x.1 x.2) = true) (hk : k ≤ ps.length) (h2 : atTo n.toNat xs c rs ps k = (s, e)) (he : e ≠ 0) : atF n xs c rs ps = ((0, 0), e) := by
  have hs := atTo_stuck (N := n.toNat) (xs := xs) (c := c) (rs := rs) (ps := ps) (k := k) (by rw [h2]; exact he) (ps.length - k)
  rw [Nat.add_sub_cancel' hk, h2] at hs
  unfold atF
  rw [if_pos h, hs, if_neg he]
theorem atF_ok {n c : Int} {xs rs : List Int} {ps : List (Int × Int)} {s : Int × Int} (h : pzB n xs c rs = true ∧ (ps.length : Int) = n ∧ ps.all (fun x => vr x.1 x.2) = true) (h2 : atTo n.toNat xs c rs ps ps.length = (s, 0)) : atF n xs c rs ps = (s, 0) := by
  unfold atF
  rw [if_pos h, h2, if_pos rfl]
end Go.Proofs.YtfphlpglgcmljaaGreat
