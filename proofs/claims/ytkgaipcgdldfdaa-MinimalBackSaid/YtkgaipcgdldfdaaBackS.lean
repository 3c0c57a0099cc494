/- What Build makes of the reduced constraints, all of them and all but one. Plain Lean. -/
import Derived.Test.YtkgaipcgdldfdaaBackR
import Derived.Test.YtkgaipcgdldfdaaBld
import Derived.Test.YtkgaipcgdldfdaaOkb
import Derived.Test.YtkgaipcgdldfdaaMrd
import Derived.Test.YtkgaipcgdldfdaaInc
namespace Go.Proofs.Ytkgaipcgdldfdaa
open Go.RowKit
set_option linter.unusedVariables false

/-- The zone of all values. -/
def topM (N : Nat) : List Int := (List.range ((N + 1) * (N + 1))).map fun k => if k < N + 1 ∨ k / (N + 1) = k % (N + 1) then 1 else 1099511627776
theorem top_len (N : Nat) : (topM N).length = (N + 1) * (N + 1) := by simp [topM]
theorem ent_top {N i j : Nat} (hi : i ≤ N) (hj : j ≤ N) : ent N (topM N) i j = if i = 0 ∨ i = j then 1 else 1099511627776 := by
  unfold ent gi topM
  have hl := idx_lt N i j hi hj
  obtain ⟨d1, d2⟩ := div_idx (N := N) (i := i) hj
  rw [List.getD_eq_getElem?_getD, List.getElem?_map, List.getElem?_range hl]
  simp only [Option.map_some, Option.getD_some, d1, d2]
  have e : (i * (N + 1) + j < N + 1) ↔ i = 0 := by
    constructor
    · intro h
      rcases Nat.eq_zero_or_pos i with c | c
      · exact c
      · have := Nat.mul_le_mul_right (N + 1) c; omega
    · intro h; subst h; omega
  simp only [e]
theorem ok_top (N : Nat) (hN : N ≤ 10) : OkZ N (topM N) := by
  have e : ∀ i j, gi (topM N) (i * (N + 1) + j) = ent N (topM N) i j := fun _ _ => rfl
  refine OkZ.of_prog hN (top_len N) (all_of_idx (N := N) (top_len N) (fun i j hi hj => ?_)) fun i hi => ⟨?_, ?_, fun k j hk hj => ?_⟩
  · rw [e, ent_top hi hj]; split <;> decide
  · rw [e, ent_top (by omega) (by omega), if_pos (.inr rfl)]
  · have := ent_top (N := N) (i := 0) (j := i) (by omega) (by omega)
    rw [if_pos (.inl rfl)] at this
    unfold ent at this
    rw [Nat.zero_mul, Nat.zero_add] at this
    rw [this]; exact Int.le_refl _
  · show ent N (topM N) i j ≤ lsum (ent N (topM N) i k) (ent N (topM N) k j)
    rw [ent_top (by omega) hj, ent_top (by omega) hk, ent_top hk hj]
    by_cases c1 : i = 0 ∨ i = k
    · by_cases c2 : k = 0 ∨ k = j
      · rw [if_pos c1, if_pos c2, if_pos (by omega), lsum1r (by unfold Rg; omega)]; exact Int.le_refl _
      · rw [if_neg c2, lsum_nl _ _ (.inr rfl)]; split <;> omega
    · rw [if_neg c1, lsum_nl _ _ (.inl rfl)]; split <;> omega
/-- A matrix whose canonical one lies at a valid zone closes to it. -/
theorem fw_eq {N : Nat} {xs m : List Int} {D : Nat → Nat → Lm} (h : OkZ N xs) (hl : m.length = (N + 1) * (N + 1)) (eqD : ∀ i j, i ≤ N → j ≤ N → D i j = Zm N xs i j) (dU : ∀ i j, i ≤ N → j ≤ N → ple (D i j) (pl (ent N (fw N m) i j)))
    (dE : ∀ i j y, i ≤ N → j ≤ N → D i j = some y → y ≤ 17179869184 → ent N (fw N m) i j = y) : fw N m = xs := by
  have hlen : xs.length = (N + 1) * (N + 1) := by have := h.len; rwa [Int.toNat_natCast] at this
  refine ext_gi (by rw [fw_len, hl, hlen]) (fun k hk => ?_)
  rw [fw_len, hl] at hk
  have hj : k % (N + 1) ≤ N := by have := Nat.mod_lt k (show 0 < N + 1 by omega); omega
  have hi : k / (N + 1) ≤ N := by have := Nat.div_lt_of_lt_mul (show k < (N + 1) * (N + 1) from hk); omega
  have hidx : k = (k / (N + 1)) * (N + 1) + k % (N + 1) := by rw [Nat.mul_comm]; exact (Nat.div_add_mod k (N + 1)).symm
  rw [hidx]
  show ent N _ _ _ = ent N xs _ _
  have ed := eqD _ _ hi hj
  have eu := dU _ _ hi hj
  have lo := h.elo hi hj
  by_cases hn : ent N xs (k / (N + 1)) (k % (N + 1)) = 1099511627776
  · rw [ed] at eu
    unfold Zm at eu
    rw [hn, pl_nl] at eu
    unfold pl at eu; split at eu
    · rename_i e2; rw [e2, hn]
    · exact absurd eu (by simp [ple])
  · have : D (k / (N + 1)) (k % (N + 1)) = some (ent N xs (k / (N + 1)) (k % (N + 1))) := by rw [ed]; exact pl_fin hn
    exact dE _ _ _ hi hj this (by omega)
theorem closed_self {N : Nat} {xs : List Int} (h : OkZ N xs) : closedF N xs = (0, xs) := by
  have hN : N ≤ 10 := by have := h.hi; omega
  have hlen : xs.length = (N + 1) * (N + 1) := by have := h.len; rwa [Int.toNat_natCast] at this
  obtain ⟨D, cD, dm, dr, dz, dU, dE, dg, hneg, _⟩ := closed_exact hN h hlen (fun i j hi hj => ple_refl _) (fun i j hi hj => (h.el hi hj).val)
  have efw := fw_eq h hlen (fun i j hi hj => ple_anti (dm i j hi hj) (dz i j hi hj)) dU dE
  unfold closedF
  rw [hneg, efw]
  have hall := (dimF_nat h.dim).2.2
  simp [hall]
theorem fill_top (N : Nat) (hN : N ≤ 10) : fillF N 1099511627776 = (0, topM N) := by
  rw [fillF_yes hN, ← closed_self (ok_top N hN)]
  have hc : capTo N (List.replicate ((N + 1) * (N + 1)) 1099511627776) (N + 1) = capTo N (topM N) (N + 1) := by
    refine ext_gi (by rw [capTo_len, capTo_len, top_len]; simp) (fun k hk => ?_)
    rw [capTo_len, List.length_replicate] at hk
    have hj : k % (N + 1) ≤ N := by have := Nat.mod_lt k (show 0 < N + 1 by omega); omega
    have hi : k / (N + 1) ≤ N := by have := Nat.div_lt_of_lt_mul (show k < (N + 1) * (N + 1) from hk); omega
    have hidx : k = (k / (N + 1)) * (N + 1) + k % (N + 1) := by rw [Nat.mul_comm]; exact (Nat.div_add_mod k (N + 1)).symm
    rw [hidx]
    show ent N _ _ _ = ent N _ _ _
    rw [capTo_ent (by simp) (N + 1) (Nat.le_refl _) _ _ hi hj, capTo_ent (top_len N) (N + 1) (Nat.le_refl _) _ _ hi hj, ent_top hi hj]
    have er : ent N (List.replicate ((N + 1) * (N + 1)) 1099511627776) (k / (N + 1)) (k % (N + 1)) = 1099511627776 := by
      unfold ent gi
      rw [← hidx, List.getD_eq_getElem?_getD, List.getElem?_replicate, if_pos hk]; rfl
    rw [er]
    by_cases c : k / (N + 1) = 0 ∨ k / (N + 1) = k % (N + 1)
    · rw [if_pos ⟨c, by omega⟩, if_pos ⟨c, by omega⟩, if_pos c]; decide
    · rw [if_neg (fun e => c e.1), if_neg (fun e => c e.1), if_neg c]
  have hf : fw N (List.replicate ((N + 1) * (N + 1)) 1099511627776) = fw N (topM N) := by unfold fw; rw [hc]
  unfold closedF
  rw [hf]
/-- What narrowing keeps. -/
theorem andTo_spec {N : Nat} {m : List Int} {cs : List (Int × Int × Int)} (hl : m.length = (N + 1) * (N + 1)) (hm : ∀ i j, i ≤ N → j ≤ N → vld (ent N m i j) = true) (q : Nat) (hq : q ≤ cs.length) (hk : AllK N cs q) :
    (∀ i j, i ≤ N → j ≤ N → ent N (andTo N m cs q) i j ≤ ent N m i j ∧ vld (ent N (andTo N m cs q) i j) = true) ∧
    (∀ k, k < q → ent N (andTo N m cs q) (gk cs k).1.toNat (gk cs k).2.1.toNat ≤ (gk cs k).2.2) ∧
    (∀ Y : Nat → Nat → Lm, (∀ i j, i ≤ N → j ≤ N → ple (Y i j) (pl (ent N m i j))) → (∀ k, k < q → ple (Y (gk cs k).1.toNat (gk cs k).2.1.toNat) (pl (gk cs k).2.2)) → ∀ i j, i ≤ N → j ≤ N → ple (Y i j) (pl (ent N (andTo N m cs q) i j))) := by
  induction q with
  | zero => exact ⟨fun i j hi hj => ⟨Int.le_refl _, hm i j hi hj⟩, fun k hk => by omega, fun Y h _ => h⟩
  | succ q ih =>
    obtain ⟨i1, i2, i3⟩ := ih (by omega) (fun k h => hk k (by omega))
    have kq := hk q (by omega)
    have sq : andTo N m cs (q + 1) = (andTo N m cs q).set ((gk cs q).1.toNat * (N + 1) + (gk cs q).2.1.toNat) (imin (ent N (andTo N m cs q) (gk cs q).1.toNat (gk cs q).2.1.toNat) (gk cs q).2.2) := rfl
    have bnd : ∀ k, k < q + 1 → (gk cs k).1.toNat ≤ N ∧ (gk cs k).2.1.toNat ≤ N ∧ vld (gk cs k).2.2 = true := fun k hkq => by
      have := hk k hkq
      generalize gk cs k = c at this
      obtain ⟨I, J, L⟩ := c
      obtain ⟨k1, k2, k3, k4, k5⟩ := (kOk_iff N I J L).1 this
      exact ⟨by simp only; omega, by simp only; omega, k5⟩
    obtain ⟨b1, b2, b3⟩ := bnd q (by omega)
    have E : ∀ i j, i ≤ N → j ≤ N → ent N (andTo N m cs (q + 1)) i j = if i = (gk cs q).1.toNat ∧ j = (gk cs q).2.1.toNat then imin (ent N (andTo N m cs q) (gk cs q).1.toNat (gk cs q).2.1.toNat) (gk cs q).2.2 else ent N (andTo N m cs q) i j := fun i j hi hj => by
      rw [sq, ent_set (by rw [andTo_len]; exact hl) b1 b2 hj]
    have less : ∀ i j, i ≤ N → j ≤ N → ent N (andTo N m cs (q + 1)) i j ≤ ent N (andTo N m cs q) i j := fun i j hi hj => by
      rw [E i j hi hj]; split
      · rename_i c; rw [c.1, c.2]; exact imin_le_l _ _
      · exact Int.le_refl _
    refine ⟨fun i j hi hj => ⟨Int.le_trans (less i j hi hj) (i1 i j hi hj).1, ?_⟩, fun k hkq => ?_, fun Y h1 h2 i j hi hj => ?_⟩
    · rw [E i j hi hj]; split
      · rcases imin_eq (ent N (andTo N m cs q) (gk cs q).1.toNat (gk cs q).2.1.toNat) (gk cs q).2.2 with e | e <;> rw [e]
        · exact (i1 _ _ b1 b2).2
        · exact b3
      · exact (i1 i j hi hj).2
    · obtain ⟨c1, c2, c3⟩ := bnd k hkq
      by_cases e : k = q
      · subst e
        rw [E _ _ c1 c2, if_pos ⟨rfl, rfl⟩]; exact imin_le_r _ _
      · exact Int.le_trans (less _ _ c1 c2) (i2 k (by omega))
    · have old := i3 Y h1 (fun k hk => h2 k (by omega))
      rw [E i j hi hj]; split
      · rename_i c
        obtain ⟨rfl, rfl⟩ := c
        rcases imin_eq (ent N (andTo N m cs q) (gk cs q).1.toNat (gk cs q).2.1.toNat) (gk cs q).2.2 with e | e <;> rw [e]
        · exact old _ _ hi hj
        · exact h2 q (by omega)
      · exact old i j hi hj

section
variable {N : Nat} {xs : List Int}
/-- The reduced constraints, as a list without repetition. -/
theorem mem_row {kp : Nat → Nat → Bool} {i : Nat} {c : Int × Int × Int} : ∀ n, c ∈ redRow N xs kp i n ↔ ∃ j, j < n ∧ kp i j = true ∧ c = ((i : Int), (j : Int), ent N xs i j)
  | 0 => by simp [redRow]
  | n + 1 => by
    rw [redRow, List.mem_append, mem_row n]
    constructor
    · rintro (⟨j, h1, h2, h3⟩ | h)
      · exact ⟨j, by omega, h2, h3⟩
      · split at h
        · rename_i e
          rw [List.mem_singleton] at h
          exact ⟨n, by omega, e, h⟩
        · cases h
    · rintro ⟨j, h1, h2, h3⟩
      by_cases e : j = n
      · subst e; right; rw [if_pos h2, h3]; exact List.mem_singleton.2 rfl
      · left; exact ⟨j, by omega, h2, h3⟩
theorem mem_red {kp : Nat → Nat → Bool} {c : Int × Int × Int} : ∀ n, c ∈ redTo N xs kp n ↔ ∃ i j, i < n ∧ j ≤ N ∧ kp i j = true ∧ c = ((i : Int), (j : Int), ent N xs i j)
  | 0 => by simp [redTo]
  | n + 1 => by
    rw [redTo, List.mem_append, mem_red n, mem_row]
    constructor
    · rintro (⟨i, j, h1, h2, h3, h4⟩ | ⟨j, h2, h3, h4⟩)
      · exact ⟨i, j, by omega, h2, h3, h4⟩
      · exact ⟨n, j, by omega, by omega, h3, h4⟩
    · rintro ⟨i, j, h1, h2, h3, h4⟩
      by_cases e : i = n
      · subst e; right; exact ⟨j, by omega, h3, h4⟩
      · left; exact ⟨i, j, by omega, h2, h3, h4⟩
theorem nodup_row {kp : Nat → Nat → Bool} {i : Nat} : ∀ n, (redRow N xs kp i n).Nodup
  | 0 => by simp [redRow]
  | n + 1 => by
    rw [redRow, List.nodup_append]
    refine ⟨nodup_row n, by split <;> simp, fun a ha b hb => ?_⟩
    obtain ⟨j, h1, h2, h3⟩ := (mem_row n).1 ha
    split at hb
    · rw [List.mem_singleton] at hb
      rintro rfl
      rw [h3] at hb
      have : (j : Int) = (n : Int) := (Prod.mk.inj (Prod.mk.inj hb).2).1
      omega
    · cases hb
theorem nodup_red {kp : Nat → Nat → Bool} : ∀ n, (redTo N xs kp n).Nodup
  | 0 => by simp [redTo]
  | n + 1 => by
    rw [redTo, List.nodup_append]
    refine ⟨nodup_red n, nodup_row _, fun a ha b hb => ?_⟩
    obtain ⟨i, j, h1, h2, h3, h4⟩ := (mem_red n).1 ha
    obtain ⟨j', g1, g2, g3⟩ := (mem_row _).1 hb
    rintro rfl
    rw [h4] at g3
    have : (i : Int) = (n : Int) := (Prod.mk.inj g3).1
    omega
/-- The list of a zone's reduced constraints, and parts of it. -/
theorem red_allK (h : OkZ N xs) {cs : List (Int × Int × Int)} (hc : ∀ c ∈ cs, c ∈ redTo N xs (kpB N xs) (N + 1)) : AllK N cs cs.length := by
  intro k hk
  have hm := hc _ (List.getElem_mem hk)
  rw [← gk_of hk] at hm
  obtain ⟨i, j, h1, h2, h3, h4⟩ := (mem_red _).1 hm
  rw [h4, kOk_iff]
  exact ⟨by omega, by omega, by omega, by omega, (h.el (by omega) h2).val⟩
theorem build_le (h : OkZ N xs) {cs : List (Int × Int × Int)} (hc : ∀ c ∈ cs, c ∈ redTo N xs (kpB N xs) (N + 1)) :
    buildF N cs = closedF N (andTo N (topM N) cs cs.length) ∧ (andTo N (topM N) cs cs.length).length = (N + 1) * (N + 1) ∧
    (∀ i j, i ≤ N → j ≤ N → vld (ent N (andTo N (topM N) cs cs.length) i j) = true) ∧
    (∀ i j, i ≤ N → j ≤ N → ple (Zm N xs i j) (pl (ent N (andTo N (topM N) cs cs.length) i j))) := by
  have hN : N ≤ 10 := by have := h.hi; omega
  have hk := red_allK h hc
  have ht := ok_top N hN
  have hv : ∀ i j, i ≤ N → j ≤ N → vld (ent N (topM N) i j) = true := fun i j hi hj => (ht.el hi hj).val
  obtain ⟨s1, s2, s3⟩ := andTo_spec (top_len N) hv cs.length (Nat.le_refl _) hk
  refine ⟨?_, by rw [andTo_len]; exact top_len N, fun i j hi hj => (s1 i j hi hj).2, s3 _ (fun i j hi hj => ?_) (fun k hkl => ?_)⟩
  · rw [buildF_yes (by rw [fill_top N hN]), fill_top N hN]
    exact andF_yes ht hk
  · rw [ent_top hi hj]
    split
    · rename_i c
      rcases c with rfl | rfl
      · exact z_row h hj
      · rw [(Zm.cn h).diag i hi]; exact ple_refl _
    · exact ple_none _
  · have hm := hc _ (List.getElem_mem hkl)
    rw [← gk_of hkl] at hm
    obtain ⟨i, j, h1, h2, h3, h4⟩ := (mem_red _).1 hm
    rw [h4]
    simp only [Int.toNat_natCast]
    exact ple_refl _
/-- All of them make the zone. -/
theorem build_all (h : OkZ N xs) : buildF N (redTo N xs (kpB N xs) (N + 1)) = (0, xs) := by
  have hN : N ≤ 10 := by have := h.hi; omega
  have hlen : xs.length = (N + 1) * (N + 1) := by have := h.len; rwa [Int.toNat_natCast] at this
  obtain ⟨e, hl, hv, hge⟩ := build_le h (fun c hc => hc)
  have hk := red_allK h (fun c hc => hc)
  have ht := ok_top N hN
  obtain ⟨s1, s2, s3⟩ := andTo_spec (top_len N) (fun i j hi hj => (ht.el hi hj).val) (redTo N xs (kpB N xs) (N + 1)).length (Nat.le_refl _) hk
  obtain ⟨D, cD, dm, dr, dz, dU, dE, dg, hneg, _⟩ := closed_exact hN h hl hge hv
  have eqD : ∀ i j, i ≤ N → j ≤ N → D i j = Zm N xs i j := fun i j hi hj => by
    refine ple_anti (recon h cD dr (fun a b ha hb hkp => ?_) hi hj) (dz i j hi hj)
    have hm : ((a : Int), (b : Int), ent N xs a b) ∈ redTo N xs (kpB N xs) (N + 1) := (mem_red _).2 ⟨a, b, by omega, hb, hkp, rfl⟩
    obtain ⟨k, hkl, hke⟩ := List.getElem_of_mem hm
    have t := s2 k hkl
    rw [gk_of hkl, hke] at t
    simp only [Int.toNat_natCast] at t
    refine ple_trans (dm a b ha hb) ?_
    have hne := (kp_ne hkp).2
    have v := hv a b ha hb
    rw [vld_iff] at v
    have v2 := h.elo ha hb
    unfold Zm
    rw [pl_fin (by omega), pl_fin hne]; exact t
  have efw := fw_eq h hl eqD dU dE
  rw [e]
  unfold closedF
  rw [hneg, efw]
  have hall := (dimF_nat h.dim).2.2
  simp [hall]
/-- Without one of them a greater zone comes out, or a number is out of range. -/
theorem build_less (h : OkZ N xs) {cs : List (Int × Int × Int)} {k : Nat} (hk : k < (redTo N xs (kpB N xs) (N + 1)).length) (hcs : cs = (redTo N xs (kpB N xs) (N + 1)).take k ++ (redTo N xs (kpB N xs) (N + 1)).drop (k + 1)) :
    buildF N cs = (7, []) ∨ ∃ A, buildF N cs = (0, A) ∧ OkZ N A ∧ leAll A xs ∧ A ≠ xs := by
  have hN : N ≤ 10 := by have := h.hi; omega
  have hlen : xs.length = (N + 1) * (N + 1) := by have := h.len; rwa [Int.toNat_natCast] at this
  have nd := nodup_red (N := N) (xs := xs) (kp := kpB N xs) (N + 1)
  generalize hR : redTo N xs (kpB N xs) (N + 1) = R at hk hcs nd
  have hsub : ∀ c ∈ cs, c ∈ R := fun c hc => by
    rw [hcs, List.mem_append] at hc
    rcases hc with hc | hc
    · exact List.mem_of_mem_take hc
    · exact List.mem_of_mem_drop hc
  have hnot : R[k] ∉ cs := by
    have e : R = R.take k ++ R[k] :: R.drop (k + 1) := by rw [← List.drop_eq_getElem_cons hk, List.take_append_drop]
    rw [e] at nd
    have nd2 := List.nodup_append.1 nd
    rw [hcs, List.mem_append]
    rintro (hc | hc)
    · exact nd2.2.2 _ hc _ (List.mem_cons_self) rfl
    · exact (List.nodup_cons.1 nd2.2.1).1 hc
  obtain ⟨a, b, ha, hb, hkp, hab⟩ := (mem_red (N + 1)).1 (show R[k] ∈ redTo N xs (kpB N xs) (N + 1) by rw [hR]; exact List.getElem_mem hk)
  have ha : a ≤ N := by omega
  obtain ⟨Y, cY⟩ := cert h ha hb hkp
  obtain ⟨e, hl, hv, hge⟩ := build_le h (cs := cs) (fun c hc => by rw [hR]; exact hsub c hc)
  have hkA := red_allK h (cs := cs) (fun c hc => by rw [hR]; exact hsub c hc)
  have ht := ok_top N hN
  obtain ⟨s1, s2, s3⟩ := andTo_spec (top_len N) (fun i j hi hj => (ht.el hi hj).val) cs.length (Nat.le_refl _) hkA
  have hYm := s3 Y (fun i j hi hj => by
    rw [ent_top hi hj]; split
    · rename_i c
      rcases c with rfl | rfl
      · exact cY.row j hj
      · rw [cY.cn.diag i hi]; exact ple_refl _
    · exact ple_none _) (fun q hq => by
    have hm := List.getElem_mem hq
    rw [← gk_of hq] at hm
    obtain ⟨i, j, h1, h2, h3, h4⟩ := (mem_red (N + 1)).1 (show gk cs q ∈ redTo N xs (kpB N xs) (N + 1) by rw [hR]; exact hsub _ hm)
    have hne : ¬ (i = a ∧ j = b) := by
      rintro ⟨rfl, rfl⟩
      rw [h4, ← hab] at hm
      exact hnot hm
    rw [h4]
    simp only [Int.toNat_natCast]
    exact cY.le i j (by omega) h2 h3 hne)
  obtain ⟨D, cD, dm, dr, dz, dU, dE, dg, hneg, hgr⟩ := closed_exact hN h hl hge hv
  have c2 : closedF N (andTo N (topM N) cs cs.length) = (7, []) ∨ closedF N (andTo N (topM N) cs cs.length) = (0, fw N (andTo N (topM N) cs cs.length)) := by
    unfold closedF
    rw [hneg]
    simp only [Bool.false_eq_true, if_false]
    split
    · exact .inr rfl
    · exact .inl rfl
  rcases c2 with c2 | c2
  · left; rw [e, c2]
  · right
    have hA := closed_ok hN h hl hge hv c2
    refine ⟨_, by rw [e, c2], hA, fun q hq => ?_, fun eq => ?_⟩
    · rw [fw_len, hl] at hq
      have hj : q % (N + 1) ≤ N := by have := Nat.mod_lt q (show 0 < N + 1 by omega); omega
      have hi : q / (N + 1) ≤ N := by have := Nat.div_lt_of_lt_mul (show q < (N + 1) * (N + 1) from hq); omega
      have hidx : q = (q / (N + 1)) * (N + 1) + q % (N + 1) := by rw [Nat.mul_comm]; exact (Nat.div_add_mod q (N + 1)).symm
      rw [hidx]
      show ent N xs _ _ ≤ ent N _ _ _
      have t := ple_trans (dz _ _ hi hj) (dU _ _ hi hj)
      have v1 := h.elo hi hj
      have v2 := hA.elo hi hj
      by_cases hn : ent N xs (q / (N + 1)) (q % (N + 1)) = 1099511627776
      · rw [hn, pl_nl] at t
        unfold pl at t; split at t
        · rename_i e2; rw [hn, e2]; exact Int.le_refl _
        · exact absurd t (by simp [ple])
      · rw [pl_fin hn] at t
        unfold pl at t; split at t
        · omega
        · exact t
    · have g := hgr Y cY.cn cY.row hYm a b ha hb
      rw [eq] at g
      exact cY.gt g
end
end Go.Proofs.Ytkgaipcgdldfdaa
