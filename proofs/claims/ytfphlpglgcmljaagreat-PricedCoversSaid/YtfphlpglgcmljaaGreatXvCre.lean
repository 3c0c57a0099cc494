/- Part of the proof of priced_covers_proved: Cre. -/
import Derived.Test.YtfphlpglgcmljaaGreatXvCvb
namespace Go.Proofs.YtfphlpglgcmljaaGreat
open Go.RowKit
set_option linter.unusedVariables false
def aS (S : Nat) : Nat → Bool := fun i => decide (i = 0) || decide (S / 2 ^ (i - 1) % 2 = 0)
theorem aS_s (S k : Nat) : aS S (k + 1) = decide (S / 2 ^ k % 2 = 0) := by unfold aS; simp
theorem bits_one (m : Nat) (h : m < 8) : bits .and .i64 (m : Int) 1 = ((m % 2 : Nat) : Int) := by
 match m, h with
 | 0, _ => rfl
 | 1, _ => rfl
 | 2, _ => rfl
 | 3, _ => rfl
 | 4, _ => rfl
 | 5, _ => rfl
 | 6, _ => rfl
 | 7, _ => rfl
 | m + 8, h => omega
theorem bit_is {S k : Nat} (h : S < 8) : (bits .and .i64 ((S : Int) / 2 ^ k) 1 == 0) = aS S (k + 1) := by
 have e : (S : Int) / 2 ^ k = ((S / 2 ^ k : Nat) : Int) := by push_cast; rfl
 have l : S / 2 ^ k < 8 := Nat.lt_of_le_of_lt (Nat.div_le_self _ _) h
 rw [e, bits_one _ l, aS_s]
 by_cases c : S / 2 ^ k % 2 = 0
 ·rw [c]; rfl
 ·have : S / 2 ^ k % 2 = 1 := by omega
  rw [this]; rfl
def FreeS (N : Nat) (xs : List Int) (S i : Nat) : Prop := ∀ i' j, i' < i → j ≤ N → aS S i' = false → aS S j = true → ¬ fnF N xs i' j
def FreeJ (N : Nat) (xs : List Int) (S i j : Nat) : Prop := ∀ j', j' < j → j' ≤ N → aS S j' = true → ¬ fnF N xs i j'
theorem FreeS.next_out {N : Nat} {xs : List Int} {S k : Nat} (h : aS S (k + 1) = true) : FreeS N xs S (k + 2) ↔ FreeS N xs S (k + 1) :=
 ⟨fun f i j h1 h2 h3 h4 => f i j (by omega) h2 h3 h4, fun f i j h1 h2 h3 h4 => by
  by_cases e : i = k + 1
  ·subst e; rw [h] at h3; cases h3
  ·exact f i j (by omega) h2 h3 h4⟩
theorem FreeS.next_in {N : Nat} {xs : List Int} {S k : Nat} (h : aS S (k + 1) = false) : FreeS N xs S (k + 2) ↔ FreeS N xs S (k + 1) ∧ FreeJ N xs S (k + 1) (N + 1) :=
 ⟨fun f => ⟨fun i j h1 h2 h3 h4 => f i j (by omega) h2 h3 h4, fun j h1 h2 h3 => f (k + 1) j (by omega) h2 h h3⟩, fun ⟨f, g⟩ i j h1 h2 h3 h4 => by
  by_cases e : i = k + 1
  ·subst e; exact g j (by omega) h2 h4
  ·exact f i j (by omega) h2 h3 h4⟩
theorem FreeJ.next {N : Nat} {xs : List Int} {S i j : Nat} (hj : j ≤ N) : FreeJ N xs S i (j + 1) ↔ FreeJ N xs S i j ∧ ¬ (fnF N xs i j ∧ aS S j = true) :=
 ⟨fun f => ⟨fun j' h1 h2 h3 => f j' (by omega) h2 h3, fun ⟨a, b⟩ => f j (by omega) hj b a⟩, fun ⟨f, g⟩ j' h1 h2 h3 h4 => by
  by_cases e : j' = j
  ·subst e; exact g ⟨h4, h3⟩
  ·exact f j' (by omega) h2 h3 h4⟩
def FallS (N : Nat) (xs rs : List Int) (S : Nat) : Prop := FreeS N xs S (N + 1) ∧ wU rs (aS S) N < 0
theorem FallS.fall {N : Nat} {xs rs : List Int} {S : Nat} (h : FallS N xs rs S) : Fall N xs rs := ⟨aS S, rfl, fun i j hi hj a b => h.1 i j (by omega) hj a b, h.2⟩
theorem wU_congr {rs : List Int} {a b : Nat → Bool} : ∀ k, (∀ i, 1 ≤ i → i ≤ k → a i = b i) → wU rs a k = wU rs b k
 | 0, _ => rfl
 | k + 1, h => by
  show wU rs a k + _ = wU rs b k + _
  rw [wU_congr k (fun i h1 h2 => h i h1 (by omega)), h (k + 1) (by omega) (Nat.le_refl _)]
theorem fall_num {N : Nat} {xs rs : List Int} (hN : N ≤ 3) (h : Fall N xs rs) : ∃ S, 1 ≤ S ∧ S < 2 ^ N ∧ FallS N xs rs S := by
 obtain ⟨a, h0, h1, h2⟩ := h
 have key : ∃ S, S < 2 ^ N ∧ ∀ i, i ≤ N → aS S i = a i := by
  have : N = 0 ∨ N = 1 ∨ N = 2 ∨ N = 3 := by omega
  rcases this with rfl | rfl | rfl | rfl
  ·exact ⟨0, by decide, fun i hi => by rw [show i = 0 by omega, h0]; rfl⟩
  ·refine ⟨(if a 1 = true then 0 else 1), by split <;> decide, fun i hi => ?_⟩
   have : i = 0 ∨ i = 1 := by omega
   rcases this with rfl | rfl
   ·rw [h0]; rfl
   ·cases a 1 <;> rfl
  ·refine ⟨(if a 1 = true then 0 else 1) + (if a 2 = true then 0 else 2), by split <;> split <;> decide, fun i hi => ?_⟩
   have : i = 0 ∨ i = 1 ∨ i = 2 := by omega
   rcases this with rfl | rfl | rfl
   ·rw [h0]; rfl
   ·cases a 1 <;> cases a 2 <;> rfl
   ·cases a 1 <;> cases a 2 <;> rfl
  ·refine ⟨(if a 1 = true then 0 else 1) + (if a 2 = true then 0 else 2) + (if a 3 = true then 0 else 4), by split <;> split <;> split <;> decide, fun i hi => ?_⟩
   have : i = 0 ∨ i = 1 ∨ i = 2 ∨ i = 3 := by omega
   rcases this with rfl | rfl | rfl | rfl
   ·rw [h0]; rfl
   ·cases a 1 <;> cases a 2 <;> cases a 3 <;> rfl
   ·cases a 1 <;> cases a 2 <;> cases a 3 <;> rfl
   ·cases a 1 <;> cases a 2 <;> cases a 3 <;> rfl
 obtain ⟨S, hS, he⟩ := key
 have e := wU_congr (rs := rs) (a := aS S) (b := a) N (fun i _ h => he i h)
 refine ⟨S, ?_, hS, fun i j hi hj ai aj => h1 i j (by omega) hj (by rw [← he i (by omega)]; exact ai) (by rw [← he j hj]; exact aj), by rw [e]; exact h2⟩
 by_cases z : S = 0
 ·subst z
  have : wU rs (aS 0) N = 0 := by
   have : ∀ k, wU rs (aS 0) k = 0 := by
    intro k
    induction k with
    | zero => rfl
    | succ k ih => show wU rs (aS 0) k + _ = 0; rw [ih, aS_s]; simp
   exact this N
  omega
 ·omega
theorem wU_bd {rs : List Int} {a : Nat → Bool} {N : Nat} (h : ∀ k, k < N → -33554432 ≤ gi rs k ∧ gi rs k ≤ 33554432) : ∀ k, k ≤ N → -(33554432 * k) ≤ wU rs a k ∧ wU rs a k ≤ 33554432 * k
  | 0, _ => by show _ ≤ (0 : Int) ∧ (0 : Int) ≤ _; omega
  | k + 1, hk => by
    have := wU_bd (a := a) h k (by omega)
    have := h k (by omega)
    have e : wU rs a (k + 1) = wU rs a k + if a (k + 1) = true then 0 else gi rs k := rfl
    rw [e]; split <;> omega
set_option maxRecDepth 100000 in
set_option maxHeartbeats 4000000 in
theorem ref_endless (N : Nat) (v rv : Value) (xs rs : List Int) (w : World) (hv : RL w.heap.size w v xs) (hr : RL w.heap.size w rv rs) (hok : OkZ N xs) (hN : N ≤ 3) (hlr : rs.length = N) (hrb : ∀ k, k < N → -33554432 ≤ gi rs k ∧ gi rs k ≤ 33554432) :
  Calls Tryz.prog 148 #[.agg #[.int .i64 N, v], rv] w fun e w' => (e = .returned (.bool true) ∧ Fall N xs rs ∨ e = .returned (.bool false) ∧ ¬ Fall N xs rs) ∧ Below w.heap.size w w' := by
 obtain ⟨ao, cap, rfl, hle, h0⟩ := hv.open
 obtain ⟨aor, capr, rfl, hler, h0r⟩ := hr.open
 have hloc := Loc.one w (.cells #[.int .i64 N, .slice ao xs.length cap] 32) none
 have H0r := Lib.hid h0r
 have Hv := Lib.hid hv
 have Hlr := Lib.hid hlr
 clear hv h0 h0r hr hlr
 go_enter Tryz.func148, Tryz.ntmps148
 go_upto_region 1 with fail
 have HL := Lib.hid hloc
 clear hloc
 go_wp2_with fail
 go_loopw [5] (fun s wr => ∃ S : Nat, 1 ≤ S ∧ S ≤ 2 ^ N ∧ s = .int .i64 S ∧ (∀ S', 1 ≤ S' → S' < S → ¬ FallS N xs rs S') ∧ Loc w wr none [.cells #[.int .i64 N, .slice ao xs.length cap] 32]) (fun s _ => 2 ^ N - (intOf s).toNat)
 case atStart => exact ⟨1, Nat.le_refl _, Nat.one_le_two_pow, rfl, fun S' h1 h2 => by omega, HL.out⟩
 case round =>
  clear HL
  obtain ⟨S, hS1, hS2, rfl, hno, hloc⟩ := hrel
  have Hno := Lib.hid hno
  have HL := Lib.hid hloc
  have z0 : wr.cell? ⟨w.heap.size, 0, none⟩ = some (.int .i64 N) := hloc.cell 0 rfl 0
  clear hno hloc
  obtain ⟨P, hP, hp⟩ : ∃ P : Nat, 2 ^ N = P ∧ wrap64 ((2 : Int) ^ N) = (P : Int) := by
   have : N = 0 ∨ N = 1 ∨ N = 2 ∨ N = 3 := by omega
   rcases this with rfl | rfl | rfl | rfl
   ·exact ⟨1, rfl, by simp [wrap64]⟩
   ·exact ⟨2, rfl, by simp [wrap64]⟩
   ·exact ⟨4, rfl, by simp [wrap64]⟩
   ·exact ⟨8, rfl, by simp [wrap64]⟩
  by_cases hlt : S < 2 ^ N
  rotate_left
  ·have htk : decide ((S : Int) < wrap64 ((2 : Int) ^ N)) = false := by rw [hp, ← hP]; rw [hP] at hlt ⊢; simp; omega
   have HF := Lib.hid (show ¬ Fall N xs rs from fun h => by
    obtain ⟨S', a, b, c⟩ := fall_num hN h
    exact Hno.out S' a (by omega) c)
   clear hp hS2 hlt hP
   go_wp2_with fail
   go_ret
   exact ⟨.inr ⟨rfl, HF.out⟩, below_grownBy HL.out.grown⟩
  have htk : decide ((S : Int) < wrap64 ((2 : Int) ^ N)) = true := by rw [hp]; rw [hP] at hlt; simp; omega
  have hlt8 : S < 8 := by
   have : N = 0 ∨ N = 1 ∨ N = 2 ∨ N = 3 := by omega
   rcases this with rfl | rfl | rfl | rfl <;> simp at hlt <;> omega
  have Hlt := Lib.hid hlt
  clear hp hlt hS2 hP
  go_upto_region 5 with fail
  clear z0 htk
  go_wp2_with fail
  go_loopw [6, 7, 8] (fun s6 s7 s8 wr2 => ∃ (k : Nat) (f : Bool), k ≤ N ∧ s8 = .int .i64 ((k : Int) + 1) ∧ s6 = .int .i64 (wU rs (aS S) k) ∧ s7 = .bool f ∧ (f = true ↔ FreeS N xs S (k + 1)) ∧ Loc w wr2 none [.cells #[.int .i64 N, .slice ao xs.length cap] 32]) (fun _ _ s8 _ => N + 1 - (intOf s8).toNat)
  case atStart => exact ⟨0, true, by omega, rfl, rfl, rfl, ⟨(fun _ i' j h1 _ h2 => by
   have : i' = 0 := by omega
   subst this; cases h2), fun _ => rfl⟩, HL.out⟩
  case round =>
   clear HL
   obtain ⟨k, f, hk, rfl, rfl, rfl, hfr, hloc2⟩ := hrel
   have Hfr := Lib.hid hfr
   have HL := Lib.hid hloc2
   obtain ⟨wa, hwa⟩ : ∃ V, V = wr := ⟨_, rfl⟩
   subst hwa
   have z0 : wa.cell? ⟨w.heap.size, 0, none⟩ = some (.int .i64 N) := hloc2.cell 0 rfl 0
   clear hfr hloc2
   obtain ⟨WS, hWS⟩ : ∃ WS, wU rs (aS S) k = WS := ⟨_, rfl⟩
   have HWS := Lib.hid hWS
   rw [hWS]
   clear hWS
   by_cases hle2 : k < N
   rotate_left
   ·have hti : decide ((k : Int) + 1 ≤ (N : Int)) = false := by simp; omega
    have hkN : k = N := by omega
    have HFr := Lib.hid (show f = true ↔ FreeS N xs S (N + 1) by have q := Hfr.out; rw [hkN] at q; exact q)
    have HWS2 := Lib.hid (show wU rs (aS S) N = WS by rw [← hkN]; exact HWS.out)
    clear hkN
    cases f with
    | false =>
     have HN := Lib.hid (show ∀ S', 1 ≤ S' → S' < S + 1 → ¬ FallS N xs rs S' from fun S' a b c => by
      by_cases e : S' = S
      ·subst e; have := HFr.out.2 c.1; cases this
      ·exact Hno.out S' a (by omega) c)
     go_wp2_with fail
     go_roundw
     case rel => exact ⟨S + 1, by omega, Hlt.out, by go_num, HN.out, HL.out⟩
     case measure => have := Hlt.out; simp [intOf]; omega
    | true =>
     by_cases hneg : WS < 0
     ·have hn' : decide (WS < 0) = true := by simpa using hneg
      have HF := Lib.hid (FallS.fall (show FallS N xs rs S from ⟨HFr.out.1 rfl, by rw [HWS2.out]; exact hneg⟩))
      go_wp2_with fail
      go_ret
      exact ⟨.inl ⟨rfl, HF.out⟩, below_grownBy HL.out.grown⟩
     ·have hn' : decide (WS < 0) = false := by simpa using hneg
      have HN := Lib.hid (show ∀ S', 1 ≤ S' → S' < S + 1 → ¬ FallS N xs rs S' from fun S' a b c => by
       by_cases e : S' = S
       ·subst e; have := c.2; rw [HWS2.out] at this; exact hneg this
       ·exact Hno.out S' a (by omega) c)
      go_wp2_with fail
      go_roundw
      case rel => exact ⟨S + 1, by omega, Hlt.out, by go_num, HN.out, HL.out⟩
      case measure => have := Hlt.out; simp [intOf]; omega
   have hti : decide ((k : Int) + 1 ≤ (N : Int)) = true := by simp; omega
   have hbit := bit_is (k := k) hlt8
   cases hA : aS S (k + 1) with
   | true =>
    rw [hA] at hbit
    have HN1 := Lib.hid (show wU rs (aS S) (k + 1) = WS by show wU rs (aS S) k + (if aS S (k + 1) = true then 0 else gi rs k) = WS; rw [hA, if_pos rfl, HWS.out]; omega)
    have HN2 := Lib.hid (show f = true ↔ FreeS N xs S (k + 1 + 1) from Hfr.out.trans (FreeS.next_out hA).symm)
    go_wp2_with fail
    go_roundw
    case rel => exact ⟨k + 1, f, by omega, by go_num, by rw [HN1.out], rfl, HN2.out, HL.out⟩
    case measure => simp [intOf]; omega
   | false =>
    rw [hA] at hbit
    obtain ⟨b, off, rfl, hb, hc⟩ := H0r.out (by have := Hlr.out; omega)
    obtain ⟨E, hE⟩ : ∃ E, gi rs k = E := ⟨_, rfl⟩
    have x0 : wa.cell? ⟨b, off + k, none⟩ = some (.int .i64 E) := by
     have h := ((bcell (below_grownBy HL.out.grown)).1 b (off + k) hb).trans (hc k (by have := Hlr.out; omega))
     rw [hE] at h
     exact h
    have k0 : (k : Int) < rs.length := by have := Hlr.out; omega
    have k1 : (0 : Int) ≤ (k : Int) := by omega
    have hEb := hrb k hle2
    rw [hE] at hEb
    have hWb := wU_bd (a := aS S) hrb k (by omega)
    rw [HWS.out] at hWb
    have HN1 := Lib.hid (show wU rs (aS S) (k + 1) = WS + E by show wU rs (aS S) k + (if aS S (k + 1) = true then 0 else gi rs k) = WS + E; rw [hA, if_neg (by simp), HWS.out, hE])
    have HN2 := Lib.hid (FreeS.next_in (N := N) (xs := xs) hA)
    clear hc hE
    go_upto_region 10 with fail
    clear x0 k0 k1 hb z0 hbit
    have HSum := Lib.hid (show WS + E = wU rs (aS S) (k + 1) from HN1.out.symm)
    obtain ⟨W2, hW2⟩ : ∃ W2, WS + E = W2 := ⟨_, rfl⟩
    rw [hW2] at HSum HN1
    try rw [hW2]
    clear hW2 hEb hWb
    have HLx := Lib.hid HL.out
    go_wp2_with fail
    go_loopw [7, 9] (fun s7 s9 wr3 => ∃ (j : Nat) (g : Bool), j ≤ N + 1 ∧ s9 = .int .i64 j ∧ s7 = .bool g ∧ (g = true ↔ f = true ∧ FreeJ N xs S (k + 1) j) ∧ Loc w wr3 none [.cells #[.int .i64 N, .slice ao xs.length cap] 32]) (fun _ s9 _ => N + 1 - (intOf s9).toNat)
    case atStart => exact ⟨0, f, by omega, rfl, rfl, ⟨fun h => ⟨h, fun j' h1 => by omega⟩, fun h => h.1⟩, HLx.out⟩
    case round =>
     clear HLx HL
     obtain ⟨j, g, hj, rfl, rfl, hg, hloc3⟩ := hrel
     have Hg := Lib.hid hg
     have HL := Lib.hid hloc3
     obtain ⟨wb, hwb⟩ : ∃ V, V = wr := ⟨_, rfl⟩
     subst hwb
     have z0 : wb.cell? ⟨w.heap.size, 0, none⟩ = some (.int .i64 N) := hloc3.cell 0 rfl 0
     have z1 : wb.cell? ⟨w.heap.size, 1, none⟩ = some (.slice ao xs.length cap) := hloc3.cell 0 rfl 1
     clear hg hloc3
     by_cases hlj : j ≤ N
     rotate_left
     ·have htj : decide ((j : Int) ≤ (N : Int)) = false := by simp; omega
      have hjN : j = N + 1 := by omega
      have HN3 := Lib.hid (show g = true ↔ FreeS N xs S (k + 1 + 1) by rw [HN2.out, ← Hfr.out, ← hjN]; exact Hg.out)
      clear hjN
      go_wp2_with fail
      go_roundw
      case rel => exact ⟨k + 1, g, by omega, by go_num, by rw [HN1.out], rfl, HN3.out, HL.out⟩
      case measure => simp [intOf]; omega
     have htj : decide ((j : Int) ≤ (N : Int)) = true := by simp; omega
     have HJ := Lib.hid (FreeJ.next (xs := xs) (S := S) (i := k + 1) hlj)
     go_wp2_with fail
     refine (ref_bound N _ ((k : Int) + 1) (j : Int) xs _ (Hv.out.keepb (below_grownBy HL.out.grown)) hok (by omega) (by omega) (by omega) (by omega)).mono ?_
     rintro e w3 ⟨rfl, hb3⟩
     have hloc4 := HL.out.next (grownBy_below hb3 none) (fun _ h => by cases h)
     have HL4 := Lib.hid hloc4
     clear hb3 hloc4 z0 z1 HL
     obtain ⟨is, his⟩ : ∃ b : Bool, decide (ent N xs ((k : Int) + 1).toNat (j : Int).toNat ≠ 1099511627776) = b := ⟨_, rfl⟩
     have HIs := Lib.hid (show is = true ↔ fnF N xs (k + 1) j by
      rw [← his, show ((k : Int) + 1).toNat = k + 1 by omega, Int.toNat_natCast]; unfold fnF; simp)
     rw [his]
     clear his
     cases is with
     | false =>
      have HN4 := Lib.hid (show g = true ↔ f = true ∧ FreeJ N xs S (k + 1) (j + 1) by
       rw [HJ.out, Hg.out]; exact ⟨fun h => ⟨h.1, h.2, fun q => by have := HIs.out.2 q.1; cases this⟩, fun h => ⟨h.1, h.2.1⟩⟩)
      go_wp2_with fail
      go_roundw
      case rel => exact ⟨j + 1, g, by omega, by go_num, rfl, HN4.out, HL4.out⟩
      case measure => simp [intOf]; omega
     | true =>
      have hfin := HIs.out.1 rfl
      have HFin := Lib.hid hfin
      clear hfin
      have yes : aS S j = true → ((false : Bool) = true ↔ f = true ∧ FreeJ N xs S (k + 1) (j + 1)) := fun ha => by
       rw [HJ.out]; exact ⟨(fun h => by cases h), fun h => absurd ⟨HFin.out, ha⟩ h.2.2⟩
      have no : aS S j = false → (g = true ↔ f = true ∧ FreeJ N xs S (k + 1) (j + 1)) := fun ha => by
       rw [HJ.out, Hg.out]; exact ⟨fun h => ⟨h.1, h.2, fun q => by rw [ha] at q; cases q.2⟩, fun h => ⟨h.1, h.2.1⟩⟩
      have Hyes := Lib.hid yes
      have Hno2 := Lib.hid no
      clear yes no
      rcases Nat.eq_zero_or_pos j with hj0 | hj0
      ·subst hj0
       go_wp2_with fail
       go_roundw
       case rel => exact ⟨0 + 1, false, by omega, by go_num, rfl, Hyes.out rfl, HL4.out⟩
       case measure => simp [intOf]
      ·obtain ⟨m, rfl⟩ : ∃ m, j = m + 1 := ⟨j - 1, by omega⟩
       have hbm := bit_is (k := m) hlt8
       have hm0 : (((m + 1 : Nat) : Int) == 0) = false := by simp; omega
       cases hAm : aS S (m + 1) with
       | true =>
        rw [hAm] at hbm
        go_wp2_with fail
        go_roundw
        case rel => exact ⟨m + 1 + 1, false, by omega, by go_num, rfl, Hyes.out hAm, HL4.out⟩
        case measure => simp [intOf]; omega
       | false =>
        rw [hAm] at hbm
        go_wp2_with fail
        go_roundw
        case rel => exact ⟨m + 1 + 1, g, by omega, by go_num, rfl, Hno2.out hAm, HL4.out⟩
        case measure => simp [intOf]; omega
end Go.Proofs.YtfphlpglgcmljaaGreat
