/- Part of the proof of priced_clears_proved: Wts. -/
import Derived.Test.YtfphlpglgcmljaaGreatXcWtq
import Derived.Test.YtfphlpglgcmljaaGreatXcPzc
namespace Go.Proofs.YtfphlpglgcmljaaGreat
open Go.RowKit
set_option linter.unusedVariables false
def Eok (l : Int) : Prop := l = 1099511627776 ∨ (l % 2 = 1 ∧ -39 ≤ l ∧ l ≤ 41)
structure Sml (n : Int) (xs : List Int) (c : Int) (rs : List Int) : Prop where
 pz : pzB n xs c rs = true
 n1 : 1 ≤ n
 cb : -1000000 ≤ c ∧ c ≤ 1000000
 eb : ∀ k, k < xs.length → Eok (gi xs k)
 rb : ∀ k, k < rs.length → -1000 ≤ gi rs k ∧ gi rs k ≤ 1000
def SmR (n : Int) (xs : List Int) (c : Int) (rs : List Int) (e : Ending) : Prop := ∃ b, e = .returned (.bool b) ∧ (b = true → Sml n xs c rs)
theorem SmR.no (n : Int) (xs : List Int) (c : Int) (rs : List Int) : SmR n xs c rs (.returned (.bool false)) := ⟨false, rfl, fun h => by cases h⟩
theorem SmR.yes {n : Int} {xs : List Int} {c : Int} {rs : List Int} (h : Sml n xs c rs) : SmR n xs c rs (.returned (.bool true)) := ⟨true, rfl, fun _ => h⟩
set_option maxRecDepth 100000 in
set_option maxHeartbeats 4000000 in
theorem law_small (n c : Int) (v rv : Value) (xs rs : List Int) (w : World) (hv : RL w.heap.size w v xs) (hr : RL w.heap.size w rv rs) :
  Calls Tryz.prog 23 #[.agg #[.int .i64 n, v, .int .i64 c, rv]] w fun e w' => SmR n xs c rs e ∧ Below w.heap.size w w' := by
 obtain ⟨ao, cap, rfl, hle, h0⟩ := hv.open
 obtain ⟨aor, capr, rfl, hler, h0r⟩ := hr.open
 have hloc := Loc.one w (.cells #[.int .i64 n, .slice ao xs.length cap, .int .i64 c, .slice aor rs.length capr] 35) none
 have H0 := Lib.hid h0
 have H0r := Lib.hid h0r
 have Hv := Lib.hid hv
 have Hr := Lib.hid hr
 clear hv hr h0r h0
 go_enter Tryz.func23, Tryz.ntmps23
 have z0 : (w.alloc (.cells #[.int .i64 n, .slice ao xs.length cap, .int .i64 c, .slice aor rs.length capr] 35)).cell? ⟨w.heap.size, 0, none⟩ = some (.int .i64 n) := hloc.cell 0 rfl 0
 have z1 : (w.alloc (.cells #[.int .i64 n, .slice ao xs.length cap, .int .i64 c, .slice aor rs.length capr] 35)).cell? ⟨w.heap.size, 1, none⟩ = some (.slice ao xs.length cap) := hloc.cell 0 rfl 1
 have z2 : (w.alloc (.cells #[.int .i64 n, .slice ao xs.length cap, .int .i64 c, .slice aor rs.length capr] 35)).cell? ⟨w.heap.size, 2, none⟩ = some (.int .i64 c) := hloc.cell 0 rfl 2
 have z3 : (w.alloc (.cells #[.int .i64 n, .slice ao xs.length cap, .int .i64 c, .slice aor rs.length capr] 35)).cell? ⟨w.heap.size, 3, none⟩ = some (.slice aor rs.length capr) := hloc.cell 0 rfl 3
 go_wp2_with fail
 refine (ref_pcheck n c _ _ xs rs _ (Hv.out.keepb (below_grownBy hloc.grown)) (Hr.out.keepb (below_grownBy hloc.grown))).mono ?_
 rintro e w1 ⟨rfl, hb⟩
 have hloc1 := hloc.next (grownBy_below hb none) (fun _ h => by cases h)
 clear hb z0 z1 z2 z3 hloc
 have z0 : w1.cell? ⟨w.heap.size, 0, none⟩ = some (.int .i64 n) := hloc1.cell 0 rfl 0
 have z1 : w1.cell? ⟨w.heap.size, 1, none⟩ = some (.slice ao xs.length cap) := hloc1.cell 0 rfl 1
 have z2 : w1.cell? ⟨w.heap.size, 2, none⟩ = some (.int .i64 c) := hloc1.cell 0 rfl 2
 have z3 : w1.cell? ⟨w.heap.size, 3, none⟩ = some (.slice aor rs.length capr) := hloc1.cell 0 rfl 3
 have HW1 := Lib.hid (below_grownBy hloc1.grown)
 cases hpz : pzB n xs c rs with
 | false =>
  rw [pzE_no hpz]
  go_wp2_with fail
  go_ret
  exact ⟨SmR.no _ _ _ _, HW1.out⟩
 | true =>
  rw [pzE_yes hpz]
  by_cases hn : n < 1
  ·have hn' : decide (n < 1) = true := by simp; omega
   go_wp2_with fail
   go_ret
   exact ⟨SmR.no _ _ _ _, HW1.out⟩
  have hn' : decide (n < 1) = false := by simp; omega
  by_cases hc1 : c < -1000000
  ·have hc1' : decide (c < -1000000) = true := by simp; omega
   go_wp2_with fail
   go_ret
   exact ⟨SmR.no _ _ _ _, HW1.out⟩
  have hc1' : decide (c < -1000000) = false := by simp; omega
  by_cases hc2 : 1000000 < c
  ·have hc2' : decide (1000000 < c) = true := by simp; omega
   go_wp2_with fail
   go_ret
   exact ⟨SmR.no _ _ _ _, HW1.out⟩
  have hc2' : decide (1000000 < c) = false := by simp; omega
  go_upto_region 3 with fail
  have HL := Lib.hid hloc1
  clear z0 z1 z2 z3 hloc1
  go_wp2_with fail
  go_loopw [3] (fun i wr => ∃ k : Nat, k ≤ xs.length ∧ i = .int .i64 k ∧ (∀ j, j < k → Eok (gi xs j)) ∧ Loc w wr none [.cells #[.int .i64 n, .slice ao xs.length cap, .int .i64 c, .slice aor rs.length capr] 35]) (fun i _ => xs.length - (intOf i).toNat)
  case atStart => exact ⟨0, Nat.zero_le _, rfl, fun j hj => by omega, HL.out⟩
  case round =>
   obtain ⟨k, hk, rfl, hE, hloc1⟩ := hrel
   have HE := Lib.hid hE
   have HW := Lib.hid (below_grownBy hloc1.grown)
   have z0 : wr.cell? ⟨w.heap.size, 0, none⟩ = some (.int .i64 n) := hloc1.cell 0 rfl 0
   have z1 : wr.cell? ⟨w.heap.size, 1, none⟩ = some (.slice ao xs.length cap) := hloc1.cell 0 rfl 1
   have z2 : wr.cell? ⟨w.heap.size, 2, none⟩ = some (.int .i64 c) := hloc1.cell 0 rfl 2
   have z3 : wr.cell? ⟨w.heap.size, 3, none⟩ = some (.slice aor rs.length capr) := hloc1.cell 0 rfl 3
   clear hE
   by_cases hlt : k < xs.length
   ·have htk : decide ((k : Int) < (xs.length : Int)) = true := by simp; omega
    obtain ⟨b, off, rfl, hb, hc⟩ := H0.out (by omega)
    obtain ⟨E, hE⟩ : ∃ E, gi xs k = E := ⟨_, rfl⟩
    have x0 : wr.cell? ⟨b, off + k, none⟩ = some (.int .i64 E) := by
     have h := ((bcell HW.out).1 b (off + k) hb).trans (hc k hlt)
     rw [hE] at h
     exact h
    have k0 : (k : Int) < xs.length := by omega
    have k1 : (0 : Int) ≤ (k : Int) := by omega
    clear hc
    go_upto_region 7 with fail
    by_cases e1 : E = 1099511627776
    ·have e1' : (E != 1099511627776) = false := by simpa using e1
     have HN := Lib.hid (show ∀ j, j < k + 1 → Eok (gi xs j) from fun j hj => by
      by_cases e : j = k
      ·rw [e, hE]; exact .inl e1
      ·exact HE.out j (by omega))
     go_wp2_with fail
     go_roundw
     case rel => exact ⟨k + 1, by omega, by go_num, HN.out, hloc1⟩
     case measure => simp [intOf]; omega
    have e1' : (E != 1099511627776) = true := by simpa using e1
    by_cases e2 : E.tmod 2 = 0
    ·have e2' : (E.tmod 2 == 0) = true := by simpa using e2
     clear e2
     go_wp2_with fail
     go_ret
     exact ⟨SmR.no _ _ _ _, HW.out⟩
    have e2' : (E.tmod 2 == 0) = false := by simpa using e2
    have e5 : E % 2 = 1 := by
     by_cases h : E % 2 = 0
     ·exact absurd (Int.tmod_eq_zero_of_dvd (Int.dvd_of_emod_eq_zero h)) e2
     ·omega
    have e5' : (E % 2 == 0) = false := by rw [e5]; rfl
    have E5 := Lib.hid e5
    clear e5
    by_cases e3 : 41 < E
    ·have e3' : decide (41 < E) = true := by simpa using e3
     clear e2
     go_wp2_with fail
     go_ret
     exact ⟨SmR.no _ _ _ _, HW.out⟩
    have e3' : decide (41 < E) = false := by simp; omega
    by_cases e4 : E < -39
    ·have e4' : decide (E < -39) = true := by simpa using e4
     clear e2
     go_wp2_with fail
     go_ret
     exact ⟨SmR.no _ _ _ _, HW.out⟩
    have e4' : decide (E < -39) = false := by simp; omega
    have HN := Lib.hid (show ∀ j, j < k + 1 → Eok (gi xs j) from fun j hj => by
     by_cases e : j = k
     ·rw [e, hE]; exact .inr ⟨E5.out, by omega, by omega⟩
     ·exact HE.out j (by omega))
    clear e2
    go_wp2_with fail
    go_roundw
    case rel => exact ⟨k + 1, by omega, by go_num, HN.out, hloc1⟩
    case measure => simp [intOf]; omega
   ·have htk : decide ((k : Int) < (xs.length : Int)) = false := by simp; omega
    have HX := Lib.hid (show ∀ j, j < xs.length → Eok (gi xs j) from fun j hj => HE.out j (by omega))
    go_upto_region 9 with fail
    have HL := Lib.hid hloc1
    clear z0 z1 z2 z3 hloc1 HE hk hlt htk
    go_wp2_with fail
    go_loopw [5] (fun i wr2 => ∃ k : Nat, k ≤ rs.length ∧ i = .int .i64 k ∧ (∀ j, j < k → -1000 ≤ gi rs j ∧ gi rs j ≤ 1000) ∧ Loc w wr2 none [.cells #[.int .i64 n, .slice ao xs.length cap, .int .i64 c, .slice aor rs.length capr] 35]) (fun i _ => rs.length - (intOf i).toNat)
    case atStart => exact ⟨0, Nat.zero_le _, rfl, fun j hj => by omega, HL.out⟩
    case round =>
     clear HL HW
     obtain ⟨q, hq, rfl, hE2, hloc2⟩ := hrel
     have HE2 := Lib.hid hE2
     obtain ⟨wa, hwa⟩ : ∃ V, V = wr := ⟨_, rfl⟩
     subst hwa
     have HW2 := Lib.hid (below_grownBy hloc2.grown)
     have z0 : wa.cell? ⟨w.heap.size, 0, none⟩ = some (.int .i64 n) := hloc2.cell 0 rfl 0
     have z1 : wa.cell? ⟨w.heap.size, 1, none⟩ = some (.slice ao xs.length cap) := hloc2.cell 0 rfl 1
     have z2 : wa.cell? ⟨w.heap.size, 2, none⟩ = some (.int .i64 c) := hloc2.cell 0 rfl 2
     have z3 : wa.cell? ⟨w.heap.size, 3, none⟩ = some (.slice aor rs.length capr) := hloc2.cell 0 rfl 3
     clear hE2
     by_cases hlt : q < rs.length
     ·have htk : decide ((q : Int) < (rs.length : Int)) = true := by simp; omega
      obtain ⟨b, off, rfl, hb, hc⟩ := H0r.out (by omega)
      obtain ⟨E, hE⟩ : ∃ E, gi rs q = E := ⟨_, rfl⟩
      have x0 : wa.cell? ⟨b, off + q, none⟩ = some (.int .i64 E) := by
       have h := ((bcell HW2.out).1 b (off + q) hb).trans (hc q hlt)
       rw [hE] at h
       exact h
      have k0 : (q : Int) < rs.length := by omega
      have k1 : (0 : Int) ≤ (q : Int) := by omega
      clear hc
      by_cases e3 : E < -1000
      ·have e3' : decide (E < -1000) = true := by simpa using e3
       go_wp2_with fail
       go_ret
       exact ⟨SmR.no _ _ _ _, HW2.out⟩
      have e3' : decide (E < -1000) = false := by simp; omega
      by_cases e4 : 1000 < E
      ·have e4' : decide (1000 < E) = true := by simpa using e4
       go_wp2_with fail
       go_ret
       exact ⟨SmR.no _ _ _ _, HW2.out⟩
      have e4' : decide (1000 < E) = false := by simp; omega
      have HN := Lib.hid (show ∀ j, j < q + 1 → -1000 ≤ gi rs j ∧ gi rs j ≤ 1000 from fun j hj => by
       by_cases e : j = q
       ·rw [e, hE]; omega
       ·exact HE2.out j (by omega))
      go_wp2_with fail
      go_roundw
      case rel => exact ⟨q + 1, by omega, by go_num, HN.out, hloc2⟩
      case measure => simp [intOf]; omega
     ·have htk : decide ((q : Int) < (rs.length : Int)) = false := by simp; omega
      have HY := Lib.hid (show ∀ j, j < rs.length → -1000 ≤ gi rs j ∧ gi rs j ≤ 1000 from fun j hj => HE2.out j (by omega))
      go_wp2_with fail
      go_ret
      exact ⟨SmR.yes ⟨hpz, by omega, ⟨by omega, by omega⟩, HX.out, HY.out⟩, HW2.out⟩
end Go.Proofs.YtfphlpglgcmljaaGreat
