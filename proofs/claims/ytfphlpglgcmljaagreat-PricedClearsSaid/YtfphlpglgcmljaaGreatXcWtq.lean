/- Part of the proof of priced_clears_proved: Wtp, Wtq. -/
import Derived.Test.YtfphlpglgcmljaaGreatXcPap
import Derived.Test.YtfphlpglgcmljaaGreatXcPdd
namespace Go.Proofs.YtfphlpglgcmljaaGreat
open Go.RowKit
set_option linter.unusedVariables false
theorem mul_rng {a b A B : Int} (h1 : -A ≤ a) (h2 : a ≤ A) (h3 : -B ≤ b) (h4 : b ≤ B) : -(A * B) ≤ a * b ∧ a * b ≤ A * B := by
 have hA : 0 ≤ A := by omega
 have hB : 0 ≤ B := by omega
 have ha : a.natAbs ≤ A.natAbs := by omega
 have hb : b.natAbs ≤ B.natAbs := by omega
 have h := Nat.mul_le_mul ha hb
 rw [← Int.natAbs_mul, ← Int.natAbs_mul] at h
 have := Int.mul_nonneg hA hB
 generalize a * b = X at *
 generalize A * B = Y at *
 omega
theorem mk_one {n : Int} (h : -2147483647 ≤ n) (h' : n ≤ 2147483647) : mkR n 1 = ((n, 1), 0) := by
 have e : Nat.gcd n.natAbs (1 : Int).natAbs = 1 := Nat.gcd_one_right _
 rw [mkR_ok (by decide) (by rw [e]; simp; omega), e]
 refine Prod.ext (Prod.ext ?_ rfl) rfl
 show (if (n < 0 ↔ (1 : Int) < 0) then ((n.natAbs / 1 : Nat) : Int) else -((n.natAbs / 1 : Nat) : Int)) = n
 rw [Nat.div_one]
 split
 ·rename_i c; have : ¬ n < 0 := fun hn => by have := c.1 hn; omega
  omega
 ·rename_i c; have : n < 0 := by
   by_cases hn : n < 0
   ·exact hn
   ·exact absurd ⟨fun h => absurd h hn, fun h => by omega⟩ c
  omega
theorem vr_one {n : Int} (h : -2147483647 ≤ n) (h' : n ≤ 2147483647) : vr n 1 = true := (vr_iff n 1).2 ⟨by decide, by decide, h, h', Nat.gcd_one_right _⟩
theorem sub_one {a b : Int} (h1 : -1000000 ≤ a) (h2 : a ≤ 1000000) (h3 : -1000000 ≤ b) (h4 : b ≤ 1000000) : subR a 1 b 1 = ((a - b, 1), 0) := by
 have e : wrap64 (-b) = -b := by unfold wrap64; omega
 unfold subR
 rw [e, addR_yes ⟨vr_one (by omega) (by omega), vr_one (by omega) (by omega)⟩, show a * 1 + -b * 1 = a - b by omega, show (1 : Int) * 1 = 1 from rfl]
 exact mk_one (by omega) (by omega)
theorem sb_one {a b : Int} (h1 : -1000000 ≤ a) (h2 : a ≤ 1000000) (h3 : -1000000 ≤ b) (h4 : b ≤ 1000000) : sbR a 1 b 1 = ((a - b, 1), 0) := by
 rw [sbR_yes (by rw [vr_one (by omega) (by omega), vr_one (by omega) (by omega)]; rfl), show a * 1 - b * 1 = a - b by omega, show (1 : Int) * 1 = 1 from rfl]
 exact mk_one (by omega) (by omega)
theorem mul_one_r {a b : Int} (h1 : -100000 ≤ a) (h2 : a ≤ 100000) (h3 : -10000 ≤ b) (h4 : b ≤ 10000) : mulR a 1 b 1 = ((a * b, 1), 0) := by
 have h := mul_rng h1 h2 h3 h4
 rw [mulR_yes2 ⟨vr_one (by omega) (by omega), vr_one (by omega) (by omega)⟩, show (1 : Int) * 1 = 1 from rfl]
 exact mk_one (by omega) (by omega)
theorem add_one_r {a b : Int} (h1 : -1073741823 ≤ a) (h2 : a ≤ 1073741823) (h3 : -1073741823 ≤ b) (h4 : b ≤ 1073741823) : addR a 1 b 1 = ((a + b, 1), 0) := by
 rw [addR_yes ⟨vr_one (by omega) (by omega), vr_one (by omega) (by omega)⟩, show a * 1 + b * 1 = a + b by omega, show (1 : Int) * 1 = 1 from rfl]
 exact mk_one (by omega) (by omega)
def ipts (p : Nat → Int) (N : Nat) : List (Int × Int) := (List.range N).map fun k => (p (k + 1), (1 : Int))
theorem ipts_len (p : Nat → Int) (N : Nat) : (ipts p N).length = N := by simp [ipts]
theorem ipts_get (p : Nat → Int) {N k : Nat} (hk : k < N) : (ipts p N)[k]? = some (p (k + 1), 1) := by
 unfold ipts; rw [List.getElem?_map, List.getElem?_range hk]; rfl
theorem ipts_gq (p : Nat → Int) {N k : Nat} (hk : k < N) : gq (ipts p N) k = (p (k + 1), 1) := by
 unfold gq; rw [List.getD_eq_getElem?_getD, ipts_get p hk]; rfl
theorem ipts_ge (p : Nat → Int) {N k : Nat} (hk : k < N) : ge cdRes (ipts p N) k = (p (k + 1), 1) := by
 unfold ge; rw [List.getD_eq_getElem?_getD, ipts_get p hk]; rfl
theorem ck_ip {p : Nat → Int} (h0 : p 0 = 0) {N i : Nat} (hi : i ≤ N) : ck (ipts p N) i = (p i, 1) := by
 unfold ck
 split
 ·rename_i e; subst e; rw [h0]
 ·rw [ipts_gq p (by omega), show i - 1 + 1 = i by omega]
def Ip (N : Nat) (xs : List Int) (p : Nat → Int) : Prop := ∀ i j, i ≤ N → j ≤ N → 2 * (p i - p j) + 1 ≤ ent N xs i j
structure Sp9 (N : Nat) (p : Nat → Int) : Prop where
 z : p 0 = 0
 b : ∀ k, k ≤ N → -1000 ≤ p k ∧ p k ≤ 1000
theorem dif_ip {N : Nat} {p : Nat → Int} (hp : Sp9 N p) {i j : Nat} (hi : i ≤ N) (hj : j ≤ N) : dif (ipts p N) i j = ((p i - p j, 1), 0) := by
 unfold dif
 rw [ck_ip hp.z hi, ck_ip hp.z hj]
 have := hp.b i hi
 have := hp.b j hj
 exact sub_one (by omega) (by omega) (by omega) (by omega)
theorem mt_ip {N : Nat} {xs : List Int} {p : Nat → Int} (hp : Sp9 N p) {i j : Nat} (hi : i ≤ N) (hj : j ≤ N) (hv : vld (ent N xs i j) = true) : mt N xs (ipts p N) i j = true ↔ 2 * (p i - p j) + 1 ≤ ent N xs i j := by
 have h1 := hp.b i hi
 have h2 := hp.b j hj
 have e : gi xs (i * (N + 1) + j) = ent N xs i j := rfl
 unfold mt
 rw [dif_ip hp hi hj, e]
 unfold meetR
 rw [if_pos ⟨vr_one (by show _ ≤ p i - p j; omega) (by show p i - p j ≤ _; omega), hv⟩]
 show (if ent N xs i j = 1099511627776 then (true, 0) else if ent N xs i j % 2 = 0 then (decide (p i - p j < ent N xs i j / 2 * 1), 0) else (decide (p i - p j ≤ ent N xs i j / 2 * 1), (0 : Int))).1 = true ↔ _
 split
 ·rename_i c; simp; omega
 ·split
  ·simp; omega
  ·simp; omega
theorem has_int {N : Nat} {xs : List Int} {p : Nat → Int} (h : OkZ N xs) (hp : Sp9 N p) : (hasF N xs (ipts p N)).1 = true ↔ Ip N xs p := by
 have hl := ipts_len p N
 by_cases hn : AllP (ipts p N) (ipts p N).length
 ·have hr : readyF N xs (ipts p N) = 0 := readyF_ok ⟨h, by rw [hl]⟩ hn (fun i j hi hj => by rw [hl] at hi hj; rw [dif_ip hp (by omega) hj])
  have k : AllM N xs (ipts p N) (N + 1) ↔ Ip N xs p := by
   constructor
   ·intro m i j hi hj; exact (mt_ip hp hi hj (h.el hi hj).val).1 (m i j (by omega) hj)
   ·intro m i j hi hj; exact (mt_ip hp (by omega) hj (h.el (by omega) hj).val).2 (m i j (by omega) hj)
  by_cases hm : AllM N xs (ipts p N) (N + 1)
  ·rw [hasF_in hr (by rw [hl]; exact hm)]; exact ⟨fun _ => k.1 hm, fun _ => rfl⟩
  ·rw [hasF_out hr (by rw [hl]; exact hm)]; exact ⟨fun c => by simp at c, fun c => absurd (k.2 c) hm⟩
 ·rw [hasF_no (readyF_val hn) (by decide)]
  refine ⟨fun c => by simp at c, fun c => absurd (fun k hk => ?_) hn⟩
  rw [hl] at hk
  rw [ipts_gq p hk]
  have b := hp.b (k + 1) (by omega)
  have r := ent_row h (j := k + 1) (by omega)
  have m := c 0 (k + 1) (Nat.zero_le _) (by omega)
  rw [hp.z] at m
  unfold okP
  rw [vr_one (by omega) (by omega)]
  simp; omega
def cS (N : Nat) (xs : List Int) (c : Int) (rs : List Int) (p : Nat → Int) : Nat → Int
 | 0 => c
 | k + 1 => cS N xs c rs p k + gi rs k * (p (k + 1) - lowF N xs (k + 1))
theorem cS_bd {N : Nat} {xs : List Int} {c : Int} {rs : List Int} {p : Nat → Int} {R D : Int} (hr : ∀ k, k < N → -R ≤ gi rs k ∧ gi rs k ≤ R) (hd : ∀ k, 1 ≤ k → k ≤ N → -D ≤ p k - lowF N xs k ∧ p k - lowF N xs k ≤ D) : ∀ k, k ≤ N → c - k * (R * D) ≤ cS N xs c rs p k ∧ cS N xs c rs p k ≤ c + k * (R * D)
  | 0, _ => by show c - (0 : Nat) * _ ≤ c ∧ c ≤ _; simp
  | k + 1, hk => by
    have ih := cS_bd (c := c) hr hd k (by omega)
    have h1 := hr k (by omega)
    have h2 := hd (k + 1) (by omega) hk
    have h3 := mul_rng h1.1 h1.2 h2.1 h2.2
    show c - ((k + 1 : Nat) : Int) * _ ≤ cS N xs c rs p k + gi rs k * (p (k + 1) - lowF N xs (k + 1)) ∧ cS N xs c rs p k + gi rs k * (p (k + 1) - lowF N xs (k + 1)) ≤ _
    rw [show ((k + 1 : Nat) : Int) * (R * D) = k * (R * D) + R * D by push_cast; rw [Int.add_mul, Int.one_mul]]
    generalize (k : Int) * (R * D) = X at *
    generalize gi rs k * (p (k + 1) - lowF N xs (k + 1)) = Y at *
    omega
theorem wr_id {x : Int} (h : -9223372036854775808 ≤ x) (h' : x ≤ 9223372036854775807) : IntKind.i64.wrap x = x := IntWalk.i64_in _ ⟨h, h'⟩
theorem at_int {N : Nat} {xs : List Int} {c : Int} {rs : List Int} {p : Nat → Int} (hN : N ≤ 3) (hz : pzB N xs c rs = true) (hp : Sp9 N p) (hc : -100000000 ≤ c ∧ c ≤ 100000000) (hr : ∀ k, k < N → -10000 ≤ gi rs k ∧ gi rs k ≤ 10000)
  (hl : ∀ k, 1 ≤ k → k ≤ N → -2000 ≤ lowF N xs k ∧ lowF N xs k ≤ 2000) : patF N xs c rs (ipts p N) = ((cS N xs c rs p N, 1), 0) := by
 have hlen := ipts_len p N
 have hd : ∀ k, 1 ≤ k → k ≤ N → -3000 ≤ p k - lowF N xs k ∧ p k - lowF N xs k ≤ 3000 := fun k h1 h2 => by have := hp.b k h2; have := hl k h1 h2; omega
 refine patF_ok ⟨hz, by rw [hlen], ?_⟩ ?_
 ·rw [List.all_eq_true]
  intro x hx
  unfold ipts at hx
  rw [List.mem_map] at hx
  obtain ⟨k, hk, rfl⟩ := hx
  rw [List.mem_range] at hk
  have := hp.b (k + 1) (by omega)
  exact vr_one (by omega) (by omega)
 ·rw [hlen, Int.toNat_natCast]
  have : ∀ k, k ≤ N → atTo N xs c rs (ipts p N) k = ((cS N xs c rs p k, 1), 0) := by
   intro k
   induction k with
   | zero => intro _; exact mk_one (by omega) (by omega)
   | succ k ih =>
    intro hk
    rw [atTo_next (ih (by omega)), ipts_ge p (by omega)]
    have b1 := hp.b (k + 1) hk
    have b2 := hl (k + 1) (by omega) hk
    have b3 := hr k (by omega)
    have b4 := hd (k + 1) (by omega) hk
    have b5 := mul_rng b3.1 b3.2 b4.1 b4.2
    have b6 := cS_bd (c := c) hr hd k (by omega)
    have b7 : (k : Int) ≤ 2 := by omega
    rw [at1_ok (f := (lowF N xs (k + 1), 1)) (m := (p (k + 1) - lowF N xs (k + 1), 1)) (q := (gi rs k, 1)) (y := (gi rs k * (p (k + 1) - lowF N xs (k + 1)), 1)) (mk_one (by omega) (by omega)) (sb_one (by omega) (by omega) (by omega) (by omega)) (mk_one (by omega) (by omega)) (mul_one_r (by omega) (by omega) (by omega) (by omega))]
    show addR (cS N xs c rs p k) 1 _ 1 = ((cS N xs c rs p k + _, 1), 0)
    generalize gi rs k * (p (k + 1) - lowF N xs (k + 1)) = Y at *
    exact add_one_r (by omega) (by omega) (by omega) (by omega)
  exact this N (Nat.le_refl _)
theorem Sn.E {N : Nat} {Y : Nat → Nat → Lm} {m : List Int} {R : Int} (h : Sn N Y m R) {k : Nat} (hk : k ≤ N) (hR' : R ≤ 1152921504606846976) {a b : Nat} (ha : a ≤ N) (hb : b ≤ N) : ent N (fwI N k m (N + 1)) a b = imin (ent N m a b) (lsum (ent N m a k) (ent N m k b)) := by
 have w : ∀ i j, i ≤ N → j ≤ N → Rg 1152921504606846976 (ent N m i j) := fun i j hi hj => by
  have := h.rg i j hi hj; unfold Rg at *; omega
 rw [fwI_ent h.len hk (h.diag k hk) (fun i hi => lsum1r (w i k hi hk)) (fun j hj => lsum1l (w k j hk hj)) (N + 1) (Nat.le_refl _) a b ha hb, if_pos (by omega)]
def Fn (B l : Int) : Prop := l = 1099511627776 ∨ (-B ≤ l ∧ l ≤ B)
theorem Fn.imin {B a b : Int} (ha : Fn B a) (hb : Fn B b) : Fn B (imin a b) := by rcases imin_eq a b with e | e <;> rw [e] <;> assumption
theorem Fn.mono {B B' l : Int} (h : Fn B l) (hb : B ≤ B') : Fn B' l := by unfold Fn at *; omega
theorem Fn.lsum {B a b : Int} (hB : B ≤ 100000000) (ha : Fn B a) (hb : Fn B b) : Fn (2 * B + 1) (lsum a b) := by
 by_cases e : a = 1099511627776 ∨ b = 1099511627776
 ·rw [lsum_nl a b e]; exact .inl rfl
 ·unfold Fn at *
  rw [lsum_fin (by omega) (by omega) (by omega) (by omega) (by omega) (by omega)]
  split <;> omega
def bk (B : Int) : Nat → Int
 | 0 => B
 | k + 1 => 2 * bk B k + 1
theorem closed_small {N : Nat} {m : List Int} {Y : Nat → Nat → Lm} {B : Int} (hN : N ≤ 3) (hy : Cn N Y) (hrow : ∀ j, j ≤ N → ple (Y 0 j) (some 1)) (hl : m.length = (N + 1) * (N + 1)) (hge : ∀ i j, i ≤ N → j ≤ N → ple (Y i j) (pl (ent N m i j)))
  (h1 : 1 ≤ B) (h2 : B ≤ 200) (hB : ∀ i j, i ≤ N → j ≤ N → Fn B (ent N m i j)) : closedF N m = (0, fw N m) ∧ (∀ i j, i ≤ N → j ≤ N → ple (Y i j) (pl (ent N (fw N m) i j))) ∧ ∀ i j, i ≤ N → j ≤ N → Fn 3300 (ent N (fw N m) i j) := by
 have C := capTo_ent hl (N + 1) (Nat.le_refl _)
 have hrg : ∀ i j, i ≤ N → j ≤ N → Rg 4398046511104 (ent N m i j) := fun i j hi hj => by have := hB i j hi hj; unfold Fn at this; unfold Rg; omega
 have S0 : Sn N Y (capTo N m (N + 1)) 4398046511104 := by
  refine ⟨by rw [capTo_len]; exact hl, fun i j hi hj => ?_, fun i hi => ?_, fun i j hi hj => ?_⟩
  ·rw [C i j hi hj]; split
   ·rename_i c
    rcases imin_eq (ent N m i j) 1 with e | e <;> rw [e]
    ·exact hge i j hi hj
    ·rcases c.1 with rfl | rfl
     ·exact hrow j hj
     ·rw [hy.diag i hi]; exact ple_refl _
   ·exact hge i j hi hj
  ·rw [C i i hi hi, if_pos (by omega)]
   have t := hge i i hi hi
   rw [hy.diag i hi] at t
   have : 1 ≤ ent N m i i := by
    unfold pl at t; split at t
    ·omega
    ·exact t
   unfold imin; split <;> omega
  ·rw [C i j hi hj]; split
   ·have := hrg i j hi hj
    rcases imin_eq (ent N m i j) 1 with e | e <;> rw [e]
    ·exact this
    ·unfold Rg; omega
   ·exact hrg i j hi hj
 have F0 : ∀ i j, i ≤ N → j ≤ N → Fn B (ent N (capTo N m (N + 1)) i j) := fun i j hi hj => by
  rw [C i j hi hj]; split
  ·exact (hB i j hi hj).imin (.inr ⟨by omega, by omega⟩)
  ·exact hB i j hi hj
 have hbk : ∀ k, k ≤ 4 → 1 ≤ bk B k ∧ bk B k ≤ 3300 := by
  intro k hk
  have e0 : bk B 0 = B := rfl
  have e1 : bk B 1 = 2 * bk B 0 + 1 := rfl
  have e2 : bk B 2 = 2 * bk B 1 + 1 := rfl
  have e3 : bk B 3 = 2 * bk B 2 + 1 := rfl
  have e4 : bk B 4 = 2 * bk B 3 + 1 := rfl
  match k, hk with
  | 0, _ => omega
  | 1, _ => omega
  | 2, _ => omega
  | 3, _ => omega
  | 4, _ => omega
  | k + 5, h => omega
 have F : ∀ k, k ≤ N + 1 → ∀ i j, i ≤ N → j ≤ N → Fn (bk B k) (ent N (fwK N (capTo N m (N + 1)) k) i j) := by
  intro k
  induction k with
  | zero => intro _; exact F0
  | succ k ih =>
   intro hk i j hi hj
   have S := S0.all (by omega) hy k (by omega)
   have b := hbk k (by omega)
   show Fn (2 * bk B k + 1) (ent N (fwI N k (fwK N (capTo N m (N + 1)) k) (N + 1)) i j)
   rw [S.E (by omega) (rgk_le k (by omega)).2 hi hj]
   exact Fn.imin ((ih (by omega) i j hi hj).mono (by omega)) (Fn.lsum (by omega) (ih (by omega) i k hi (by omega)) (ih (by omega) k j (by omega) hj))
 have S := S0.all (by omega) hy (N + 1) (Nat.le_refl _)
 have hF : ∀ i j, i ≤ N → j ≤ N → Fn 3300 (ent N (fw N m) i j) := fun i j hi hj => (F (N + 1) (Nat.le_refl _) i j hi hj).mono (hbk (N + 1) (by omega)).2
 have hneg : negTo N (fw N m) (N + 1) = false := by
  unfold negTo
  rw [List.any_eq_false]
  intro i hi
  rw [List.mem_range] at hi
  have := S.diag i (by omega)
  have e : gi (fw N m) (i * (N + 1) + i) = 1 := this
  rw [e]; decide
 have hall : (fw N m).all vld = true := by
  rw [List.all_eq_true]
  intro x hx
  obtain ⟨q, hq, rfl⟩ := List.getElem_of_mem hx
  have hq' := hq
  rw [fw_len, hl] at hq'
  have hi : q / (N + 1) < N + 1 := Nat.div_lt_of_lt_mul hq'
  have hj : q % (N + 1) < N + 1 := Nat.mod_lt _ (by omega)
  have := hF (q / (N + 1)) (q % (N + 1)) (by omega) (by omega)
  have e : ent N (fw N m) (q / (N + 1)) (q % (N + 1)) = (fw N m)[q] := by
   unfold ent
   rw [show q / (N + 1) * (N + 1) + q % (N + 1) = q by rw [Nat.mul_comm]; exact Nat.div_add_mod q (N + 1), gi_of hq]
  rw [e] at this
  rw [vld_iff]; unfold Fn at this; omega
 refine ⟨?_, fun i j hi hj => S.ge i j hi hj, hF⟩
 unfold closedF
 rw [hneg, hall]; simp
def Sk (N : Nat) (B : Int) (cs : List K3) : Prop := ∀ q, q < cs.length → kOk N (gk cs q) = true ∧ -B ≤ (gk cs q).2.2 ∧ (gk cs q).2.2 ≤ B
def Mk (p : Nat → Int) (cs : List K3) : Prop := ∀ q, q < cs.length → 2 * (p (gk cs q).1.toNat - p (gk cs q).2.1.toNat) + 1 ≤ (gk cs q).2.2
theorem andTo_le {N : Nat} {xs : List Int} {cs : List K3} (hl : xs.length = (N + 1) * (N + 1)) (hk : AllK N cs cs.length) : ∀ q, q ≤ cs.length → (∀ i j, i ≤ N → j ≤ N → ent N (andTo N xs cs q) i j ≤ ent N xs i j) ∧ ∀ r, r < q → ent N (andTo N xs cs q) (gk cs r).1.toNat (gk cs r).2.1.toNat ≤ (gk cs r).2.2
  | 0, _ => ⟨fun _ _ _ _ => Int.le_refl _, fun r h => by omega⟩
  | q + 1, hq => by
    obtain ⟨h1, h2⟩ := andTo_le hl hk q (by omega)
    have sq : andTo N xs cs (q + 1) = (andTo N xs cs q).set ((gk cs q).1.toNat * (N + 1) + (gk cs q).2.1.toNat) (imin (ent N (andTo N xs cs q) (gk cs q).1.toNat (gk cs q).2.1.toNat) (gk cs q).2.2) := rfl
    have idx : ∀ r, r < cs.length → (gk cs r).1.toNat ≤ N ∧ (gk cs r).2.1.toNat ≤ N := fun r hr => by
      have k := hk r hr
      generalize gk cs r = c at *
      obtain ⟨I, J, L⟩ := c
      obtain ⟨k1, k2, k3, k4, k5⟩ := (kOk_iff N I J L).1 k
      simp only; omega
    have hiq := idx q (by omega)
    have E : ∀ i j, i ≤ N → j ≤ N → ent N (andTo N xs cs (q + 1)) i j = if i = (gk cs q).1.toNat ∧ j = (gk cs q).2.1.toNat then imin (ent N (andTo N xs cs q) (gk cs q).1.toNat (gk cs q).2.1.toNat) (gk cs q).2.2 else ent N (andTo N xs cs q) i j := fun i j hi hj => by
      rw [sq, ent_set (by rw [andTo_len]; exact hl) hiq.1 hiq.2 hj]
    have mono : ∀ i j, i ≤ N → j ≤ N → ent N (andTo N xs cs (q + 1)) i j ≤ ent N (andTo N xs cs q) i j := fun i j hi hj => by
      rw [E i j hi hj]; split
      · rename_i e; rw [e.1, e.2]; unfold imin; split <;> omega
      · exact Int.le_refl _
    refine ⟨fun i j hi hj => Int.le_trans (mono i j hi hj) (h1 i j hi hj), fun r hr => ?_⟩
    by_cases e : r = q
    · subst e
      rw [E _ _ hiq.1 hiq.2, if_pos ⟨rfl, rfl⟩]; unfold imin; split <;> omega
    · have := idx r (by omega)
      exact Int.le_trans (mono _ _ this.1 this.2) (h2 r (by omega))
theorem andTo_ge {N : Nat} {xs : List Int} {cs : List K3} {Y : Nat → Nat → Lm} {B : Int} (hl : xs.length = (N + 1) * (N + 1)) (hk : Sk N B cs) (hx : ∀ i j, i ≤ N → j ≤ N → ple (Y i j) (pl (ent N xs i j)) ∧ Fn B (ent N xs i j)) (hB : B ≤ 200)
    (hc : ∀ q, q < cs.length → ple (Y (gk cs q).1.toNat (gk cs q).2.1.toNat) (pl (gk cs q).2.2)) : ∀ q, q ≤ cs.length → ∀ i j, i ≤ N → j ≤ N → ple (Y i j) (pl (ent N (andTo N xs cs q) i j)) ∧ Fn B (ent N (andTo N xs cs q) i j)
  | 0, _ => hx
  | q + 1, hq => by
    intro i j hi hj
    have ih := andTo_ge hl hk hx hB hc q (by omega)
    obtain ⟨kq, b1, b2⟩ := hk q (by omega)
    have cq := hc q (by omega)
    have sq : andTo N xs cs (q + 1) = (andTo N xs cs q).set ((gk cs q).1.toNat * (N + 1) + (gk cs q).2.1.toNat) (imin (ent N (andTo N xs cs q) (gk cs q).1.toNat (gk cs q).2.1.toNat) (gk cs q).2.2) := rfl
    rw [sq]
    generalize gk cs q = c at *
    obtain ⟨I, J, L⟩ := c
    obtain ⟨k1, k2, k3, k4, k5⟩ := (kOk_iff N I J L).1 kq
    simp only at *
    rw [ent_set (by rw [andTo_len]; exact hl) (i := I.toNat) (j := J.toNat) (by omega) (by omega) hj]
    split
    · obtain ⟨a', b'⟩ := ih I.toNat J.toNat (by omega) (by omega)
      rename_i e
      rw [e.1, e.2]
      refine ⟨?_, b'.imin (.inr ⟨b1, b2⟩)⟩
      rcases imin_eq (ent N (andTo N xs cs q) I.toNat J.toNat) L with e | e <;> rw [e]
      · exact a'
      · exact cq
    · exact ih i j hi hj
def Yp (p : Nat → Int) (i j : Nat) : Lm := some (2 * (p i - p j) + 1)
theorem Yp.cn (N : Nat) (p : Nat → Int) : Cn N (Yp p) := by
 refine ⟨fun i hi => by unfold Yp; congr 1; omega, fun i j k hi hj hk => ?_⟩
 show 2 * (p i - p j) + 1 ≤ (2 * (p i - p k) + 1) + (2 * (p k - p j) + 1) - (if (2 * (p i - p k) + 1) % 2 = 0 ∧ (2 * (p k - p j) + 1) % 2 = 0 then 0 else 1)
 rw [if_neg (by omega)]; omega
theorem ple_int {x l : Int} (h : ple (some x) (pl l)) (hx : x ≤ 1099511627776) : x ≤ l := by
 unfold pl at h
 split at h
 ·omega
 ·exact h
theorem int_ple {x l : Int} (h : x ≤ l) : ple (some x) (pl l) := by
 unfold pl; split
 ·trivial
 ·exact h
theorem Sk.all {N : Nat} {B : Int} {cs : List K3} (h : Sk N B cs) : AllK N cs cs.length := fun q hq => (h q hq).1
theorem and_int {N : Nat} {xs : List Int} {cs : List K3} {B : Int} {p : Nat → Int} (hN : N ≤ 3) (hx : OkZ N xs) (h1 : 1 ≤ B) (h2 : B ≤ 200) (hB : ∀ i j, i ≤ N → j ≤ N → Fn B (ent N xs i j)) (hk : Sk N B cs) (hp : Ip N xs p) (hm : Mk p cs) :
  ∃ R, andF N xs cs = (0, R) ∧ (Sp9 N p → Ip N R p) := by
 have hl : xs.length = (N + 1) * (N + 1) := by have := hx.len; rwa [Int.toNat_natCast] at this
 have G := andTo_ge (Y := Yp p) hl hk (fun i j hi hj => ⟨int_ple (hp i j hi hj), hB i j hi hj⟩) h2 (fun q hq => int_ple (hm q hq)) cs.length (Nat.le_refl _)
 obtain ⟨e, g, f⟩ := closed_small hN (Yp.cn N p) (fun j hj => by have := hp 0 j (Nat.zero_le _) hj; have := ent_row hx hj; show 2 * (p 0 - p j) + 1 ≤ 1; omega) (by rw [andTo_len]; exact hl) (fun i j hi hj => (G i j hi hj).1) h1 h2 (fun i j hi hj => (G i j hi hj).2)
 refine ⟨_, by rw [andF_yes hx hk.all]; exact e, fun hs i j hi hj => ple_int (g i j hi hj) ?_⟩
 have := hs.b i hi
 have := hs.b j hj
 omega
theorem and_inv {N : Nat} {xs R : List Int} {cs : List K3} {B : Int} (hN : N ≤ 3) (hx : OkZ N xs) (h1 : 1 ≤ B) (h2 : B ≤ 200) (hB : ∀ i j, i ≤ N → j ≤ N → Fn B (ent N xs i j)) (hk : Sk N B cs) (h : andF N xs cs = (0, R)) :
    OkZ N R ∧ (∀ i j, i ≤ N → j ≤ N → Fn 3300 (ent N R i j)) ∧ ∀ p, Ip N R p → Ip N xs p ∧ Mk p cs := by
  have hl : xs.length = (N + 1) * (N + 1) := by have := hx.len; rwa [Int.toNat_natCast] at this
  rw [andF_yes hx hk.all] at h
  have hlm : (andTo N xs cs cs.length).length = (N + 1) * (N + 1) := by rw [andTo_len]; exact hl
  obtain ⟨l1, l2⟩ := andTo_le (xs := xs) hl hk.all cs.length (Nat.le_refl _)
  have hvm : ∀ i j, i ≤ N → j ≤ N → vld (ent N (andTo N xs cs cs.length) i j) = true := fun i j hi hj => by
    have G := andTo_ge (Y := fun _ _ => some (-2147483648)) (B := B) hl hk (fun i j hi hj => ⟨int_ple (by have := hB i j hi hj; unfold Fn at this; omega), hB i j hi hj⟩) h2 (fun q hq => int_ple (by have := (hk q hq).2; omega)) cs.length (Nat.le_refl _) i j hi hj
    have := G.2
    rw [vld_iff]; unfold Fn at this; omega
  have ok := closed_valid (by omega) hlm hvm h
  obtain ⟨e, _, _⟩ := closed_inv h
  have le : ∀ i j, i ≤ N → j ≤ N → ent N R i j ≤ ent N (andTo N xs cs cs.length) i j := fun i j hi hj => by rw [e]; exact fw_le N _ _
  have key := closed_small (m := andTo N xs cs cs.length) (B := B) hN ok.cn (fun j hj => by have := ent_row ok hj; exact (by rw [pl_fin (by omega)]; exact this)) hlm (fun i j hi hj => by
      have := le i j hi hj
      have k := hvm i j hi hj
      rw [vld_iff] at k
      unfold pl; split
      · split
        · trivial
        · omega
      · split
        · trivial
        · exact this) h1 h2 (fun i j hi hj => by
    have G := andTo_ge (Y := fun _ _ => some (-2147483648)) (B := B) hl hk (fun i j hi hj => ⟨int_ple (by have := hB i j hi hj; unfold Fn at this; omega), hB i j hi hj⟩) h2 (fun q hq => int_ple (by have := (hk q hq).2; omega)) cs.length (Nat.le_refl _) i j hi hj
    exact G.2)
  refine ⟨ok, by rw [e]; exact key.2.2, fun p hp => ⟨fun i j hi hj => Int.le_trans (hp i j hi hj) (Int.le_trans (le i j hi hj) (l1 i j hi hj)), fun q hq => ?_⟩⟩
  have k := (hk q hq).1
  have l := l2 q hq
  generalize gk cs q = c at *
  obtain ⟨I, J, L⟩ := c
  obtain ⟨k1, k2, k3, k4, k5⟩ := (kOk_iff N I J L).1 k
  simp only at *
  exact Int.le_trans (hp _ _ (by omega) (by omega)) (Int.le_trans (le _ _ (by omega) (by omega)) l)
set_option linter.unusedVariables false
structure SmZ (N : Nat) (xs : List Int) (c : Int) (rs : List Int) : Prop where
 pz : pzB N xs c rs = true
 ok : OkZ N xs
 n1 : 1 ≤ N
 n3 : N ≤ 3
 len : rs.length = N
 cb : -1000000 ≤ c ∧ c ≤ 1000000
 rb : ∀ k, k < N → -1000 ≤ gi rs k ∧ gi rs k ≤ 1000
 eb : ∀ i j, i ≤ N → j ≤ N → ent N xs i j = 1099511627776 ∨ (ent N xs i j % 2 = 1 ∧ -39 ≤ ent N xs i j ∧ ent N xs i j ≤ 41)
theorem SmZ.fn {N : Nat} {xs : List Int} {c : Int} {rs : List Int} (h : SmZ N xs c rs) {i j : Nat} (hi : i ≤ N) (hj : j ≤ N) : Fn 81 (ent N xs i j) := by
 rcases h.eb i j hi hj with e | e
 ·exact .inl e
 ·exact .inr ⟨by omega, by omega⟩
theorem col0_ge {N : Nat} {xs : List Int} (h : OkZ N xs) {k : Nat} (hk : k ≤ N) : 1 ≤ ent N xs k 0 := by
 have h1 := ent_tri h (Nat.zero_le N) (Nat.zero_le N) hk (i := 0) (j := 0)
 have h2 : ent N xs 0 0 = 1 := h.diagN (Nat.zero_le _)
 have h3 := ent_row h hk
 by_cases n : ent N xs k 0 = 1099511627776
 ·omega
 ·rw [h2, lsum_val (ent_vld h (Nat.zero_le _) hk) (ent_vld h hk (Nat.zero_le _)) (by omega) n] at h1
  split at h1 <;> omega
theorem SmZ.low {N : Nat} {xs : List Int} {c : Int} {rs : List Int} (h : SmZ N xs c rs) {i : Nat} (hi : i ≤ N) : ent N xs 0 i = -2 * lowF N xs i + 1 ∧ 0 ≤ lowF N xs i ∧ lowF N xs i ≤ 20 := by
 have e := h.eb 0 i (Nat.zero_le _) hi
 have r := ent_row h.ok hi
 unfold lowF; omega
theorem SmZ.high {N : Nat} {xs : List Int} {c : Int} {rs : List Int} (h : SmZ N xs c rs) {i : Nat} (hi : i ≤ N) (hf : ent N xs i 0 ≠ 1099511627776) : ent N xs i 0 = 2 * hiF N xs i + 1 ∧ 0 ≤ hiF N xs i ∧ hiF N xs i ≤ 20 := by
 have e := h.eb i 0 hi (Nat.zero_le _)
 have r := col0_ge h.ok hi
 unfold hiF; omega
def pv (vs : List Int) (d : Int) : Nat → Int := fun k => if k = 0 then 0 else gi vs (k - 1) - d
theorem pv_z (vs : List Int) (d : Int) : pv vs d 0 = 0 := rfl
theorem pv_s {vs : List Int} {d : Int} {k : Nat} (hk : 1 ≤ k) : pv vs d k = gi vs (k - 1) - d := by unfold pv; rw [if_neg (by omega)]
theorem pvd_at {vs : List Int} {d : Int} {k : Nat} (hk : 1 ≤ k) : pv vs d k = pv vs 0 k - d := by rw [pv_s hk, pv_s hk]; omega
def Vs (N : Nat) (vs : List Int) : Prop := vs.length = N ∧ ∀ k, k < N → 0 ≤ gi vs k ∧ gi vs k ≤ 60
theorem Vs.at {N : Nat} {vs : List Int} (h : Vs N vs) {k : Nat} (h1 : 1 ≤ k) (hk : k ≤ N) : 0 ≤ pv vs 0 k ∧ pv vs 0 k ≤ 60 := by
 rw [pv_s h1]; have := h.2 (k - 1) (by omega); omega
theorem Vs.sp {N : Nat} {vs : List Int} (h : Vs N vs) {d : Int} (h0 : 0 ≤ d) (h1 : d ≤ 60) : Sp9 N (pv vs d) :=
 ⟨rfl, fun k hk => by
  by_cases e : k = 0
  ·subst e; rw [pv_z]; omega
  ·rw [pvd_at (by omega)]; have := h.at (k := k) (by omega) hk; omega⟩
def dS (rs : List Int) (p q : Nat → Int) : Nat → Int
 | 0 => 0
 | k + 1 => dS rs p q k + gi rs k * (p (k + 1) - q (k + 1))
theorem cS_dS (N : Nat) (xs : List Int) (c : Int) (rs : List Int) (p : Nat → Int) : ∀ k, cS N xs c rs p k = c + dS rs p (lowF N xs) k
 | 0 => by show c = c + 0; omega
 | k + 1 => by show cS N xs c rs p k + _ = c + (dS rs p (lowF N xs) k + _); rw [cS_dS N xs c rs p k]; omega
theorem dS_via (rs : List Int) (p q r : Nat → Int) : ∀ k, dS rs p r k = dS rs p q k + dS rs q r k
 | 0 => rfl
 | k + 1 => by
  show dS rs p r k + gi rs k * (p (k + 1) - r (k + 1)) = (dS rs p q k + gi rs k * (p (k + 1) - q (k + 1))) + (dS rs q r k + gi rs k * (q (k + 1) - r (k + 1)))
  rw [dS_via rs p q r k, show p (k + 1) - r (k + 1) = (p (k + 1) - q (k + 1)) + (q (k + 1) - r (k + 1)) by omega, Int.mul_add]; omega
theorem dS_set (rs : List Int) (i : Nat) (m : Int) (p q : Nat → Int) (hi : 1 ≤ i) (hl : i ≤ rs.length) : ∀ k, dS (rs.set (i - 1) (gi rs (i - 1) + m)) p q k = dS rs p q k + (if i ≤ k then m * (p i - q i) else 0)
 | 0 => by rw [if_neg (by omega)]; rfl
 | k + 1 => by
  show dS (rs.set (i - 1) (gi rs (i - 1) + m)) p q k + gi (rs.set (i - 1) (gi rs (i - 1) + m)) k * (p (k + 1) - q (k + 1)) = (dS rs p q k + gi rs k * (p (k + 1) - q (k + 1))) + _
  rw [dS_set rs i m p q hi hl k]
  by_cases e : i = k + 1
  ·subst e
   rw [if_neg (by omega), if_pos (by omega), show k + 1 - 1 = k by omega, gi_set_same (by omega), Int.add_mul]; omega
  ·rw [gi_set_ne (by omega)]
   by_cases e2 : i ≤ k
   ·rw [if_pos e2, if_pos (by omega)]; omega
   ·rw [if_neg e2, if_neg (by omega)]; omega
theorem cst_cS {N : Nat} {xs : List Int} {c : Int} {rs : List Int} {q : Nat → Int} {C R D : Int} (hC : C ≤ 100000000000) (hRD : R * D ≤ 100000000000) (hD : D ≤ 1000000) (hN : N ≤ 3) (hc : -C ≤ c ∧ c ≤ C) (hr : ∀ k, k < N → -R ≤ gi rs k ∧ gi rs k ≤ R)
    (hd : ∀ k, 1 ≤ k → k ≤ N → -D ≤ q k - lowF N xs k ∧ q k - lowF N xs k ≤ D) : ∀ k, k ≤ N → cstTo N xs c rs q k = cS N xs c rs q k
  | 0, _ => rfl
  | k + 1, hk => by
    show IntKind.i64.wrap (cstTo N xs c rs q k + IntKind.i64.wrap (gi rs k * IntKind.i64.wrap (q (k + 1) - lowF N xs (k + 1)))) = cS N xs c rs q k + gi rs k * (q (k + 1) - lowF N xs (k + 1))
    rw [cst_cS hC hRD hD hN hc hr hd k (by omega)]
    have h1 := hr k (by omega)
    have h2 := hd (k + 1) (by omega) hk
    have h3 := mul_rng h1.1 h1.2 h2.1 h2.2
    have h4 := cS_bd (c := c) hr hd k (by omega)
    have h5 : (k : Int) * (R * D) ≤ 2 * 100000000000 := by
      have : 0 ≤ R * D := by omega
      generalize R * D = X at *
      have : k = 0 ∨ k = 1 ∨ k = 2 := by omega
      rcases this with rfl | rfl | rfl <;> simp <;> omega
    rw [wr_id (x := q (k + 1) - lowF N xs (k + 1)) (by omega) (by omega)]
    generalize gi rs k * (q (k + 1) - lowF N xs (k + 1)) = Y at *
    generalize (k : Int) * (R * D) = Z at *
    rw [wr_id (x := Y) (by omega) (by omega), wr_id (by omega) (by omega)]
theorem fr_small {l : Int} (h : Fn 3300 l) : frB l = true := by
 unfold frB btw
 unfold Fn at h
 rcases h with e | e
 ·rw [e]; rfl
 ·have h1 : -67108864 ≤ l / 2 := by omega
  have h2 : l / 2 ≤ 67108864 := by omega
  simp [h1, h2]
theorem all_small {N : Nat} {R : List Int} (h : OkZ N R) (hf : ∀ i j, i ≤ N → j ≤ N → Fn 3300 (ent N R i j)) : R.all frB = true := by
 have hl : R.length = (N + 1) * (N + 1) := by have := h.len; rwa [Int.toNat_natCast] at this
 rw [List.all_eq_true]
 intro x hx
 obtain ⟨q, hq, rfl⟩ := List.getElem_of_mem hx
 have hq' := hq
 rw [hl] at hq'
 have hi : q / (N + 1) < N + 1 := Nat.div_lt_of_lt_mul hq'
 have hj : q % (N + 1) < N + 1 := Nat.mod_lt _ (by omega)
 have := hf (q / (N + 1)) (q % (N + 1)) (by omega) (by omega)
 have e : ent N R (q / (N + 1)) (q % (N + 1)) = R[q] := by
  unfold ent
  rw [show q / (N + 1) * (N + 1) + q % (N + 1) = q by rw [Nat.mul_comm]; exact Nat.div_add_mod q (N + 1), gi_of hq]
 rw [e] at this
 exact fr_small this
theorem low_small {N : Nat} {R : List Int} (h : OkZ N R) (hf : ∀ i j, i ≤ N → j ≤ N → Fn 3300 (ent N R i j)) {i : Nat} (hi : i ≤ N) : 0 ≤ lowF N R i ∧ lowF N R i ≤ 1650 := by
 have r := ent_row h hi
 have := hf 0 i (Nat.zero_le _) hi
 unfold Fn at this
 unfold lowF; omega
theorem sl_small {r : Int} (h : -10000 ≤ r ∧ r ≤ 10000) : slB r = true := by
 unfold slB btw
 have h1 : -16777216 ≤ r := by omega
 have h2 : r ≤ 16777216 := by omega
 simp [h1, h2]
theorem sl_all {rs : List Int} (h : ∀ k, k < rs.length → -10000 ≤ gi rs k ∧ gi rs k ≤ 10000) : rs.all slB = true := by
 rw [List.all_eq_true]
 intro x hx
 obtain ⟨q, hq, rfl⟩ := List.getElem_of_mem hx
 have := h q hq
 rw [gi_of hq] at this
 exact sl_small this
theorem pz_small {N : Nat} {R rs : List Int} {c : Int} (h : OkZ N R) (hf : ∀ i j, i ≤ N → j ≤ N → Fn 3300 (ent N R i j)) (hl : rs.length = N) (hc : -100000000 ≤ c ∧ c ≤ 100000000) (hr : ∀ k, k < N → -10000 ≤ gi rs k ∧ gi rs k ≤ 10000) : rngB R c rs = true ∧ pzB N R c rs = true := by
 have e : rngB R c rs = true := by
  unfold rngB cstB btw
  rw [all_small h hf, sl_all (fun k hk => hr k (by omega))]
  have h1 : (-1152921504606846976 : Int) ≤ c := by omega
  have h2 : c ≤ (1152921504606846976 : Int) := by omega
  simp [h1, h2]
 refine ⟨e, ?_⟩
 unfold pzB
 rw [e, hl]
 simp [h]
theorem on_int {N : Nat} {xs : List Int} {c : Int} {rs R : List Int} {more at' : Int} {i : Nat} (hz : SmZ N xs c rs) (hR : OkZ N R) (hf : ∀ a b, a ≤ N → b ≤ N → Fn 3300 (ent N R a b)) (hm : -4000 ≤ more ∧ more ≤ 4000) (hi : i ≤ N) (h0 : i = 0 → more = 0) (ha : -1000 ≤ at' ∧ at' ≤ 1000) :
  ∃ c' rs', onF N xs c rs R more i at' = (⟨N, R, c', rs'⟩, 0) ∧ pzB N R c' rs' = true ∧ ∀ p, Sp9 N p → patF N R c' rs' (ipts p N) = ((cS N xs c rs p N + more * (p i - at'), 1), 0) := by
 have n3 := hz.n3
 have lo : ∀ k, 1 ≤ k → k ≤ N → -1650 ≤ lowF N R k - lowF N xs k ∧ lowF N R k - lowF N xs k ≤ 1650 := fun k h1 h2 => by
  have := low_small hR hf h2; have := hz.low h2; omega
 have e0 : cst0 N xs c rs R = cS N xs c rs (lowF N R) N := cst_cS (C := 1000000) (R := 1000) (D := 1650) (by decide) (by decide) (by decide) n3 hz.cb hz.rb lo N (Nat.le_refl _)
 have b0 := cS_bd (c := c) hz.rb lo N (Nat.le_refl _)
 have cb := hz.cb
 have hNc : (N : Int) ≤ 3 := by omega
 have hN0 : (0 : Int) ≤ N := by omega
 have li := low_small hR hf hi
 have b1 := mul_rng (a := more) (b := lowF N R i - at') (A := 4000) (B := 2650) hm.1 hm.2 (by omega) (by omega)
 have eC : onC N xs c rs R more i at' = cS N xs c rs (lowF N R) N + more * (lowF N R i - at') := by
  unfold onC
  rw [e0]
  split
  ·rw [wr_id (x := lowF N R i - at') (by omega) (by omega)]
   generalize more * (lowF N R i - at') = Y at *
   rw [wr_id (x := Y) (by omega) (by omega), wr_id (by omega) (by omega)]
  ·rw [h0 (by omega), Int.zero_mul, Int.add_zero]
 have eR : onR rs more i = if 0 < i then rs.set (i - 1) (gi rs (i - 1) + more) else rs := by
  unfold onR
  split
  ·have := hz.rb (i - 1) (by omega)
   rw [wr_id (by omega) (by omega)]
  ·rfl
 have rlen : (onR rs more i).length = N := by rw [eR]; split <;> simp [hz.len]
 have rb : ∀ k, k < N → -10000 ≤ gi (onR rs more i) k ∧ gi (onR rs more i) k ≤ 10000 := fun k hk => by
  have r := hz.rb k hk
  rw [eR]
  split
  ·by_cases e : k = i - 1
   ·subst e; rw [gi_set_same (by rw [hz.len]; exact hk)]; omega
   ·rw [gi_set_ne (fun h => e h.symm)]; omega
  ·omega
 have cB : -100000000 ≤ onC N xs c rs R more i at' ∧ onC N xs c rs R more i at' ≤ 100000000 := by
  rw [eC]
  generalize more * (lowF N R i - at') = Y at *
  omega
 obtain ⟨g1, g2⟩ := pz_small hR hf rlen cB rb
 refine ⟨onC N xs c rs R more i at', onR rs more i, by unfold onF; rw [resF_ok g1], g2, fun p hp => ?_⟩
 rw [at_int n3 g2 hp cB rb (fun k h1 h2 => by have := low_small hR hf h2; omega)]
 refine Prod.ext (Prod.ext ?_ rfl) rfl
 show cS N R (onC N xs c rs R more i at') (onR rs more i) p N = cS N xs c rs p N + more * (p i - at')
 rw [cS_dS, cS_dS, eC, cS_dS, eR]
 by_cases h : 0 < i
 ·rw [if_pos h, dS_set rs i more p (lowF N R) (by omega) (by rw [hz.len]; exact hi), if_pos hi, dS_via rs p (lowF N R) (lowF N xs) N, show p i - at' = (p i - lowF N R i) + (lowF N R i - at') by omega, Int.mul_add]
  omega
 ·rw [if_neg h, h0 (by omega), dS_via rs p (lowF N R) (lowF N xs) N, Int.zero_mul, Int.zero_mul]; omega
theorem gk_app {cs : List K3} {x : K3} {q : Nat} (h : q < cs.length) : gk (cs ++ [x]) q = gk cs q := by
 unfold gk; rw [List.getD_eq_getElem?_getD, List.getElem?_append_left h, ← List.getD_eq_getElem?_getD]
theorem gk_last {cs : List K3} {x : K3} : gk (cs ++ [x]) cs.length = x := by
 unfold gk; rw [List.getD_eq_getElem?_getD, List.getElem?_append_right (Nat.le_refl _)]; simp
theorem Mk.app {p : Nat → Int} {cs : List K3} {x : K3} : Mk p (cs ++ [x]) ↔ Mk p cs ∧ 2 * (p x.1.toNat - p x.2.1.toNat) + 1 ≤ x.2.2 := by
 constructor
 ·intro h
  refine ⟨fun q hq => ?_, ?_⟩
  ·have := h q (by rw [List.length_append]; omega)
   rwa [gk_app hq] at this
  ·have := h cs.length (by rw [List.length_append]; simp)
   rwa [gk_last] at this
 ·intro ⟨h, k⟩ q hq
  rw [List.length_append] at hq
  by_cases e : q < cs.length
  ·rw [gk_app e]; exact h q e
  ·rw [show q = cs.length by simp at hq; omega, gk_last]; exact k
theorem Sk.app {N : Nat} {B : Int} {cs : List K3} {x : K3} (h : Sk N B cs) (k : kOk N x = true ∧ -B ≤ x.2.2 ∧ x.2.2 ≤ B) : Sk N B (cs ++ [x]) := by
 intro q hq
 rw [List.length_append] at hq
 by_cases e : q < cs.length
 ·rw [gk_app e]; exact h q e
 ·rw [show q = cs.length by simp at hq; omega, gk_last]; exact k
theorem Mk.nil (p : Nat → Int) : Mk p [] := fun q hq => absurd hq (by simp)
theorem Sk.nil (N : Nat) (B : Int) : Sk N B [] := fun q hq => absurd hq (by simp)
theorem wk_ok {N i j : Nat} {c : Int} (hi : i ≤ N) (hj : j ≤ N) (h1 : -40 ≤ c) (h2 : c ≤ 40) : kOk N (wk i j c) = true ∧ -81 ≤ (wk i j c).2.2 ∧ (wk i j c).2.2 ≤ 81 := by
 refine ⟨(kOk_iff N i j (2 * c + 1)).2 ⟨by omega, by omega, by omega, by omega, by rw [vld_iff]; omega⟩, by show -81 ≤ 2 * c + 1; omega, by show 2 * c + 1 ≤ 81; omega⟩
theorem wk_mk {p : Nat → Int} {i j : Nat} {c : Int} : 2 * (p (wk i j c).1.toNat - p (wk i j c).2.1.toNat) + 1 ≤ (wk i j c).2.2 ↔ p i - p j ≤ c := by
 show 2 * (p ((i : Int).toNat) - p ((j : Int).toNat)) + 1 ≤ 2 * c + 1 ↔ _
 rw [Int.toNat_natCast, Int.toNat_natCast]; omega
theorem argmax (Q : Nat → Prop) (f : Nat → Int) : ∀ N, (∃ a, 1 ≤ a ∧ a ≤ N ∧ Q a) → ∃ i, 1 ≤ i ∧ i ≤ N ∧ Q i ∧ ∀ j, 1 ≤ j → j ≤ N → Q j → f j ≤ f i
  | 0, ⟨a, h1, h2, _⟩ => by omega
  | N + 1, ⟨a, h1, h2, h3⟩ => by
    by_cases hp : ∃ a, 1 ≤ a ∧ a ≤ N ∧ Q a
    · obtain ⟨i, i1, i2, i3, i4⟩ := argmax Q f N hp
      by_cases hq : Q (N + 1) ∧ f i < f (N + 1)
      · refine ⟨N + 1, by omega, Nat.le_refl _, hq.1, fun j j1 j2 j3 => ?_⟩
        by_cases e : j = N + 1
        · rw [e]; exact Int.le_refl _
        · have := i4 j j1 (by omega) j3; omega
      · refine ⟨i, i1, by omega, i3, fun j j1 j2 j3 => ?_⟩
        by_cases e : j = N + 1
        · subst e
          by_cases h : f i < f (N + 1)
          · exact absurd ⟨j3, h⟩ hq
          · omega
        · exact i4 j j1 (by omega) j3
    · have e : a = N + 1 := by
        by_cases e : a = N + 1
        · exact e
        · exact absurd ⟨a, h1, by omega, h3⟩ hp
      subst e
      refine ⟨N + 1, by omega, Nat.le_refl _, h3, fun j j1 j2 j3 => ?_⟩
      by_cases e : j = N + 1
      · rw [e]; exact Int.le_refl _
      · exact absurd ⟨j, j1, by omega, j3⟩ hp
theorem ga_mem {G : Nat → Pv × Int} {first : Nat} : ∀ n, (∀ k, first ≤ k → k < n → (G k).2 = 0 ∨ (G k).2 = 4) → (gaTo G first n).2 = 0 ∧ ∀ x, x ∈ (gaTo G first n).1 ↔ ∃ k, first ≤ k ∧ k < n ∧ G k = (x, 0)
  | 0, _ => ⟨rfl, fun x => ⟨(fun h => by cases h), fun ⟨k, h1, h2, _⟩ => by omega⟩⟩
  | n + 1, h => by
    obtain ⟨a, b⟩ := ga_mem n (fun k h1 h2 => h k h1 (by omega))
    have e : gaTo G first (n + 1) = if (gaTo G first n).2 = 0 then (if n < first then gaTo G first n else if (G n).2 = 0 then ((gaTo G first n).1 ++ [(G n).1], 0) else if (G n).2 = 4 then gaTo G first n else ([], (G n).2)) else gaTo G first n := rfl
    rw [e, if_pos a]
    split
    · rename_i c
      exact ⟨a, fun x => (b x).trans ⟨fun ⟨k, h1, h2, h3⟩ => ⟨k, h1, by omega, h3⟩, fun ⟨k, h1, h2, h3⟩ => absurd h1 (by omega)⟩⟩
    · rename_i c
      split
      · rename_i g
        refine ⟨rfl, fun x => ?_⟩
        show x ∈ (gaTo G first n).1 ++ [(G n).1] ↔ _
        rw [List.mem_append, b x, List.mem_singleton]
        constructor
        · rintro (⟨k, h1, h2, h3⟩ | rfl)
          · exact ⟨k, h1, by omega, h3⟩
          · exact ⟨n, by omega, by omega, Prod.ext rfl g⟩
        · intro ⟨k, h1, h2, h3⟩
          by_cases e2 : k = n
          · subst e2; exact .inr (by rw [h3])
          · exact .inl ⟨k, h1, by omega, h3⟩
      · rename_i g
        rw [if_pos ((h n (by omega) (by omega)).resolve_left g)]
        refine ⟨a, fun x => (b x).trans ⟨fun ⟨k, h1, h2, h3⟩ => ⟨k, h1, by omega, h3⟩, fun ⟨k, h1, h2, h3⟩ => ?_⟩⟩
        by_cases e2 : k = n
        · subst e2; rw [h3] at g; exact absurd rfl g
        · exact ⟨k, h1, by omega, h3⟩
end Go.Proofs.YtfphlpglgcmljaaGreat
