/- Part of the proof of priced_clears_proved: Clx. -/
import Derived.Test.YtfphlpglgcmljaaGreatXcClv
import Derived.Test.YtfphlpglgcmljaaGreatXcRand
namespace Go.Proofs.YtfphlpglgcmljaaGreat
open Go.RowKit
set_option linter.unusedVariables false
set_option linter.unusedVariables false
theorem ple_anti {a b : Lm} (h : ple a b) (k : ple b a) : a = b := by
 cases a with
 | none => cases b with
  | none => rfl
  | some y => exact absurd h (by simp [ple])
 | some x => cases b with
  | none => exact absurd k (by simp [ple])
  | some y => rw [Int.le_antisymm h k]
def dK (m : Nat → Nat → Lm) : Nat → Nat → Nat → Lm
 | 0 => m
 | k + 1 => fun i j => pmin (dK m k i j) (psum (dK m k i k) (dK m k k j))
structure Dn (N : Nat) (Y m D : Nat → Nat → Lm) (k : Nat) : Prop where
 ge : ∀ i j, i ≤ N → j ≤ N → ple (Y i j) (D i j)
 le : ∀ i j, i ≤ N → j ≤ N → ple (D i j) (m i j)
 diag : ∀ i, i ≤ N → D i i = some 1
 tri : ∀ q i j, q < k → i ≤ N → j ≤ N → ple (D i j) (psum (D i q) (D q j))
theorem Dn.next {N : Nat} {Y m : Nat → Nat → Lm} {k : Nat} (hy : Cn N Y) (hk : k ≤ N) (h : Dn N Y m (dK m k) k) : Dn N Y m (dK m (k + 1)) (k + 1) := by
 have e : ∀ i j, dK m (k + 1) i j = pmin (dK m k i j) (psum (dK m k i k) (dK m k k j)) := fun _ _ => rfl
 have g : ∀ i j, i ≤ N → j ≤ N → ple (Y i j) (dK m (k + 1) i j) := fun i j hi hj => by
  rw [e]
  exact le_pmin (h.ge i j hi hj) (ple_trans (hy.tri i j k hi hj hk) (psum_mono (h.ge i k hi hk) (h.ge k j hk hj)))
 have le1 : ∀ i j, ple (dK m (k + 1) i j) (dK m k i j) := fun i j => by rw [e]; exact pmin_l _ _
 have le2 : ∀ i j, ple (dK m (k + 1) i j) (psum (dK m k i k) (dK m k k j)) := fun i j => by rw [e]; exact pmin_r _ _
 have col : ∀ i, i ≤ N → dK m (k + 1) i k = dK m k i k := fun i hi => by
  rw [e, h.diag k hk, psum_one_r]; rcases pmin_or (dK m k i k) (dK m k i k) with c | c <;> exact c
 have row : ∀ j, j ≤ N → dK m (k + 1) k j = dK m k k j := fun j hj => by
  rw [e, h.diag k hk, psum_one_l]; rcases pmin_or (dK m k k j) (dK m k k j) with c | c <;> exact c
 refine ⟨g, fun i j hi hj => ple_trans (le1 i j) (h.le i j hi hj), fun i hi => ?_, fun q i j hq hi hj => ?_⟩
 ·refine ple_anti (ple_trans (le1 i i) (by rw [h.diag i hi]; exact ple_refl _)) ?_
  have := g i i hi hi
  rwa [hy.diag i hi] at this
 ·by_cases hqk : q = k
  ·subst hqk
   rw [col i hi, row j hj]; exact le2 i j
  have hq : q < k := by omega
  have hqN : q ≤ N := by omega
  rw [e i q, e q j]
  rcases pmin_or (dK m k i q) (psum (dK m k i k) (dK m k k q)) with e1 | e1 <;> rcases pmin_or (dK m k q j) (psum (dK m k q k) (dK m k k j)) with e2 | e2 <;> rw [e1, e2]
  ·exact ple_trans (le1 i j) (h.tri q i j hq hi hj)
  ·rw [← psum_assoc]
   exact ple_trans (le2 i j) (psum_mono (h.tri q i k hq hi hk) (ple_refl _))
  ·rw [psum_assoc]
   exact ple_trans (le2 i j) (psum_mono (ple_refl _) (h.tri q k j hq hk hj))
  ·rw [psum_mid]
   refine ple_trans (le2 i j) (psum_mono (ple_refl _) ?_)
   have t := psum_mono (h.tri q k k hq hk hk) (ple_refl (dK m k k j))
   rwa [h.diag k hk, psum_one_l] at t
theorem Dn.all {N : Nat} {Y m : Nat → Nat → Lm} (hy : Cn N Y) (h : Dn N Y m m 0) (k : Nat) (hk : k ≤ N + 1) : Dn N Y m (dK m k) k := by
 induction k with
 | zero => exact h
 | succ k ih => exact (ih (by omega)).next hy (by omega)
def tB (k : Nat) : Int := 68719476736 - 4294967296 * k
structure Ex (N : Nat) (D : Nat → Nat → Lm) (m : List Int) (T : Int) : Prop where
 up : ∀ i j, i ≤ N → j ≤ N → ple (D i j) (pl (ent N m i j))
 eq : ∀ i j y, i ≤ N → j ≤ N → D i j = some y → y ≤ T → ent N m i j = y
theorem ple_pl {y x : Int} (h : ple (some y) (pl x)) (hx : x ≤ 1099511627776) (hy : y ≤ 1099511627776) : y ≤ x := by
 unfold pl at h; split at h
 ·omega
 ·exact h
theorem Ex.next {N : Nat} {Y : Nat → Nat → Lm} {c : Nat → Nat → Lm} {m : List Int} {k : Nat} {R : Int} (hy : Cn N Y) (hYlo : ∀ i j y, i ≤ N → j ≤ N → Y i j = some y → -2147483648 ≤ y) (hk : k ≤ N) (hk11 : k ≤ 10)
  (hd : Dn N Y c (dK c k) k) (hs : Sn N Y m R) (hR : 1099511627776 ≤ R) (hR' : R ≤ 1152921504606846976) (h : Ex N (dK c k) m (tB k)) :
  Ex N (dK c (k + 1)) (fwI N k m (N + 1)) (tB (k + 1)) := by
 have w : ∀ i j, i ≤ N → j ≤ N → Rg 1152921504606846976 (ent N m i j) := fun i j hi hj => by
  have := hs.rg i j hi hj; unfold Rg at *; omega
 have E : ∀ a b, a ≤ N → b ≤ N → ent N (fwI N k m (N + 1)) a b = imin (ent N m a b) (lsum (ent N m a k) (ent N m k b)) := fun a b ha hb => by
  rw [fwI_ent hs.len hk (hs.diag k hk) (fun i hi => lsum1r (w i k hi hk)) (fun j hj => lsum1l (w k j hk hj)) (N + 1) (Nat.le_refl _) a b ha hb, if_pos (by omega)]
 have up : ∀ i j, i ≤ N → j ≤ N → ple (dK c (k + 1) i j) (pl (ent N (fwI N k m (N + 1)) i j)) := fun i j hi hj => by
  rw [E i j hi hj]
  rcases imin_eq (ent N m i j) (lsum (ent N m i k) (ent N m k j)) with e | e <;> rw [e]
  ·exact ple_trans (pmin_l _ _) (h.up i j hi hj)
  ·exact ple_trans (pmin_r _ _) (ple_trans (psum_mono (h.up i k hi hk) (h.up k j hk hj)) (pl_lsum (w i k hi hk) (w k j hk hj)))
 have lo : ∀ i j y, i ≤ N → j ≤ N → dK c k i j = some y → -2147483648 ≤ y := fun i j y hi hj e => by
  have g := hd.ge i j hi hj
  rw [e] at g
  cases hY : Y i j with
  | none => rw [hY] at g; exact absurd g (by simp [ple])
  | some v => rw [hY] at g; have := hYlo i j v hi hj hY; have g : v ≤ y := g; omega
 refine ⟨up, fun i j y hi hj hy' hyT => ?_⟩
 have tb : tB (k + 1) = tB k - 4294967296 := by unfold tB; push_cast; omega
 have tb2 : tB k ≤ 68719476736 := by unfold tB; omega
 have hup := up i j hi hj
 rw [hy'] at hup
 have le : ent N (fwI N k m (N + 1)) i j ≤ y := by
  rw [E i j hi hj]
  rcases pmin_or (dK c k i j) (psum (dK c k i k) (dK c k k j)) with e | e
  ·have e1 : dK c k i j = some y := e.symm.trans hy'
   have := h.eq i j y hi hj e1 (by omega)
   rw [this]; exact imin_le_l _ _
  ·have e1 : psum (dK c k i k) (dK c k k j) = some y := e.symm.trans hy'
   cases eu : dK c k i k with
   | none => rw [eu] at e1; cases e1
   | some u =>
    cases ev : dK c k k j with
    | none => rw [eu, ev] at e1; cases e1
    | some v =>
     rw [eu, ev] at e1
     have lu := lo i k u hi hk eu
     have lv := lo k j v hk hj ev
     have e2 : u + v - (if u % 2 = 0 ∧ v % 2 = 0 then 0 else 1) = y := Option.some.inj e1
     have e3 : (if u % 2 = 0 ∧ v % 2 = 0 then (0 : Int) else 1) ≤ 1 ∧ 0 ≤ (if u % 2 = 0 ∧ v % 2 = 0 then (0 : Int) else 1) := by split <;> omega
     have mu := h.eq i k u hi hk eu (by omega)
     have mv := h.eq k j v hk hj ev (by omega)
     rw [mu, mv, lsum_fin' (by omega) (by omega) (by unfold Rg; omega) (by unfold Rg; omega), e2]
     exact imin_le_r _ _
 have ge := ple_pl hup (by omega) (by omega)
 omega
theorem Ex.all {N : Nat} {Y : Nat → Nat → Lm} {m : List Int} (hN : N ≤ 10) (hy : Cn N Y) (hYlo : ∀ i j y, i ≤ N → j ≤ N → Y i j = some y → -2147483648 ≤ y) (hs : Sn N Y m 4398046511104)
  (hd : Dn N Y (fun i j => pl (ent N m i j)) (fun i j => pl (ent N m i j)) 0) (k : Nat) (hk : k ≤ N + 1) : Ex N (dK (fun i j => pl (ent N m i j)) k) (fwK N m k) (tB k) := by
 induction k with
 | zero =>
  refine ⟨fun i j _ _ => ple_refl _, fun i j y hi hj e hT => ?_⟩
  have e : pl (ent N m i j) = some y := e
  show ent N m i j = y
  unfold pl at e; split at e
  ·cases e
  ·exact Option.some.inj e
 | succ k ih => exact (ih (by omega)).next hy hYlo (by omega) (by omega) (hd.all hy k (by omega)) (hs.all hN hy k (by omega)) (rgk_le k (by omega)).1 (rgk_le k (by omega)).2
theorem closed_exact {N : Nat} {zs m : List Int} (hN : N ≤ 10) (hz : OkZ N zs) (hl : m.length = (N + 1) * (N + 1)) (hge : ∀ i j, i ≤ N → j ≤ N → ple (pl (ent N zs i j)) (pl (ent N m i j))) (hv : ∀ i j, i ≤ N → j ≤ N → vld (ent N m i j) = true) :
  ∃ D, Cn N D ∧ (∀ i j, i ≤ N → j ≤ N → ple (D i j) (pl (ent N m i j))) ∧ (∀ j, j ≤ N → ple (D 0 j) (some 1)) ∧ (∀ i j, i ≤ N → j ≤ N → ple (pl (ent N zs i j)) (D i j)) ∧
   (∀ i j, i ≤ N → j ≤ N → ple (D i j) (pl (ent N (fw N m) i j))) ∧ (∀ i j y, i ≤ N → j ≤ N → D i j = some y → y ≤ 17179869184 → ent N (fw N m) i j = y) ∧ (∀ i, i ≤ N → ent N (fw N m) i i = 1) ∧ negTo N (fw N m) (N + 1) = false ∧
   (∀ Y, Cn N Y → (∀ j, j ≤ N → ple (Y 0 j) (some 1)) → (∀ i j, i ≤ N → j ≤ N → ple (Y i j) (pl (ent N m i j))) → ∀ i j, i ≤ N → j ≤ N → ple (Y i j) (pl (ent N (fw N m) i j))) := by
 have C := capTo_ent hl (N + 1) (Nat.le_refl _)
 have start : ∀ Y, Cn N Y → (∀ j, j ≤ N → ple (Y 0 j) (some 1)) → (∀ i j, i ≤ N → j ≤ N → ple (Y i j) (pl (ent N m i j))) → Sn N Y (capTo N m (N + 1)) 4398046511104 := fun Y hy hrow hge => by
  refine ⟨by rw [capTo_len]; exact hl, fun i j hi hj => ?_, fun i hi => ?_, fun i j hi hj => ?_⟩
  ·rw [C i j hi hj]; split
   ·rename_i c
    rcases imin_eq (ent N m i j) 1 with e | e <;> rw [e]
    ·exact hge i j hi hj
    ·rcases c.1 with rfl | rfl
     ·exact hrow j hj
     ·rw [hy.diag i hi]; exact ple_refl _
   ·exact hge i j hi hj
  ·rw [C i i hi hi, if_pos (by omega)]
   have t := hge i i hi hi
   rw [hy.diag i hi] at t
   have : 1 ≤ ent N m i i := by
    unfold pl at t; split at t
    ·omega
    ·exact t
   unfold imin; split <;> omega
  ·have := hv i j hi hj
   rw [vld_iff] at this
   rw [C i j hi hj]; split
   ·rcases imin_eq (ent N m i j) 1 with e | e <;> rw [e]
    ·unfold Rg; omega
    ·unfold Rg; omega
   ·unfold Rg; omega
 have hy := hz.cn
 have hrow : ∀ j, j ≤ N → ple (pl (ent N zs 0 j)) (some 1) := fun j hj => by
  have r : ent N zs 0 j ≤ 1 := by have := hz.rowN hj; unfold ent; rwa [Nat.zero_mul, Nat.zero_add]
  rw [pl_fin (by omega)]; exact r
 have hlo : ∀ i j y, i ≤ N → j ≤ N → pl (ent N zs i j) = some y → -2147483648 ≤ y := fun i j y hi hj e => by
  have := hz.elo hi hj
  unfold pl at e; split at e
  ·cases e
  ·have := Option.some.inj e; omega
 have S := start _ hy hrow hge
 have SA := S.all hN hy (N + 1) (Nat.le_refl _)
 have D0 : Dn N (fun i j => pl (ent N zs i j)) (fun i j => pl (ent N (capTo N m (N + 1)) i j)) (fun i j => pl (ent N (capTo N m (N + 1)) i j)) 0 :=
  ⟨S.ge, fun i j _ _ => ple_refl _, fun i hi => by show pl (ent N (capTo N m (N + 1)) i i) = some 1; rw [S.diag i hi]; rfl, fun q _ _ hq => by omega⟩
 have DA := D0.all hy (N + 1) (Nat.le_refl _)
 have EA := Ex.all hN hy hlo S D0 (N + 1) (Nat.le_refl _)
 have cap : ∀ i j, i ≤ N → j ≤ N → ple (pl (ent N (capTo N m (N + 1)) i j)) (pl (ent N m i j)) := fun i j hi hj => by
  rw [C i j hi hj]; split
  ·rename_i c
   rcases imin_eq (ent N m i j) 1 with e | e
   ·rw [e]; exact ple_refl _
   ·have l := imin_le_l (ent N m i j) 1
    rw [e] at l ⊢
    rw [show pl (1 : Int) = some 1 from rfl]
    unfold pl; split
    ·exact ple_none _
    ·exact l
  ·exact ple_refl _
 refine ⟨dK (fun i j => pl (ent N (capTo N m (N + 1)) i j)) (N + 1), ⟨DA.diag, fun i j k hi hj hk => DA.tri k i j (by omega) hi hj⟩, fun i j hi hj => ple_trans (DA.le i j hi hj) (cap i j hi hj), fun j hj => ?_, DA.ge, EA.up, fun i j y hi hj e hy => EA.eq i j y hi hj e (by unfold tB; omega), SA.diag, ?_,
  fun Y hY hYr hYm => ((start Y hY hYr hYm).all hN hY (N + 1) (Nat.le_refl _)).ge⟩
 ·refine ple_trans (DA.le 0 j (Nat.zero_le _) hj) ?_
  show ple (pl (ent N (capTo N m (N + 1)) 0 j)) (some 1)
  rw [C 0 j (Nat.zero_le _) hj, if_pos (by omega)]
  have := imin_le_r (ent N m 0 j) 1
  rw [pl_fin (by omega)]; exact this
 ·unfold negTo
  rw [List.any_eq_false]
  intro i hi
  rw [List.mem_range] at hi
  have := SA.diag i (by omega)
  have e : gi (fw N m) (i * (N + 1) + i) = 1 := this
  rw [e]; decide
set_option linter.unusedVariables false
theorem tm_ext {N : Nat} {m Z : List Int} (hm : m.length = (N + 1) * (N + 1)) (hz : Z.length = (N + 1) * (N + 1)) (h : ∀ i j, i ≤ N → j ≤ N → ent N m i j = ent N Z i j) : m = Z := by
 refine ext_gi (by rw [hm, hz]) (fun k hk => ?_)
 rw [hm] at hk
 have hj : k % (N + 1) ≤ N := by have := Nat.mod_lt k (show 0 < N + 1 by omega); omega
 have hi : k / (N + 1) ≤ N := by have := Nat.div_lt_of_lt_mul (show k < (N + 1) * (N + 1) from hk); omega
 have hidx : k = (k / (N + 1)) * (N + 1) + k % (N + 1) := by rw [Nat.mul_comm]; exact (Nat.div_add_mod k (N + 1)).symm
 rw [hidx]
 exact h _ _ hi hj
theorem closed_is {N : Nat} {m Z : List Int} (hZ : OkZ N Z) (hl : m.length = (N + 1) * (N + 1)) (hge : ∀ i j, i ≤ N → j ≤ N → ple (pl (ent N Z i j)) (pl (ent N m i j))) (hv : ∀ i j, i ≤ N → j ≤ N → vld (ent N m i j) = true)
  (hmax : ∀ D, Cn N D → (∀ i j, i ≤ N → j ≤ N → ple (D i j) (pl (ent N m i j))) → (∀ j, j ≤ N → ple (D 0 j) (some 1)) → ∀ i j, i ≤ N → j ≤ N → ple (D i j) (pl (ent N Z i j))) : closedF N m = (0, Z) := by
 have hN : N ≤ 10 := by have := hZ.hi; omega
 have hlen : Z.length = (N + 1) * (N + 1) := by have := hZ.len; rwa [Int.toNat_natCast] at this
 obtain ⟨D, cD, dm, dr, dz, dU, dE, dg, hneg, _⟩ := closed_exact hN hZ hl hge hv
 have eqD : ∀ i j, i ≤ N → j ≤ N → D i j = pl (ent N Z i j) := fun i j hi hj => ple_anti (hmax D cD dm dr i j hi hj) (dz i j hi hj)
 have efw : fw N m = Z := tm_ext (by rw [fw_len, hl]) hlen (fun i j hi hj => by
  have ed := eqD _ _ hi hj
  have eu := dU _ _ hi hj
  have lo := hZ.elo hi hj
  by_cases hn : ent N Z i j = 1099511627776
  ·rw [ed, hn, pl_nl] at eu
   unfold pl at eu; split at eu
   ·rename_i e2; rw [e2, hn]
   ·exact absurd eu (by simp [ple])
  ·have : D i j = some (ent N Z i j) := by rw [ed]; exact pl_fin hn
   exact dE _ _ _ hi hj this (by omega))
 unfold closedF
 rw [hneg, efw]
 have hall := (dimF_nat hZ.dim).2.2
 simp [hall]
end Go.Proofs.YtfphlpglgcmljaaGreat
