/- Part of the proof of priced_covers_proved: Crc. -/
import Derived.Test.YtfphlpglgcmljaaGreatXvCvb
namespace Go.Proofs.YtfphlpglgcmljaaGreat
open Go.RowKit
set_option linter.unusedVariables false
set_option linter.unnecessarySimpa false
def lv (vs : List Int) : Nat → Int := fun i => if i = 0 then 0 else gi vs (i - 1)
theorem lv_z (vs : List Int) : lv vs 0 = 0 := rfl
theorem lv_s (vs : List Int) (k : Nat) : lv vs (k + 1) = gi vs k := by unfold lv; rw [if_neg (by omega), show k + 1 - 1 = k by omega]
def InJ (N : Nat) (xs vs : List Int) (i j : Nat) : Prop := ∀ j', j' < j → j' ≤ N → fnF N xs i j' → lv vs i - lv vs j' ≤ bF N xs i j'
def InI (N : Nat) (xs vs : List Int) (i : Nat) : Prop := ∀ i', i' < i → i' ≤ N → InJ N xs vs i' (N + 1)
theorem InI.pi {N : Nat} {xs vs : List Int} : InI N xs vs (N + 1) ↔ PI N xs (lv vs) :=
 ⟨fun h => ⟨rfl, fun i j hi hj hf => h i (by omega) hi j (by omega) hj hf⟩, fun h i _ hi j _ hj hf => h.2 i j hi hj hf⟩
theorem InI.next {N : Nat} {xs vs : List Int} {i : Nat} (h : InI N xs vs i) (k : InJ N xs vs i (N + 1)) : InI N xs vs (i + 1) := fun i' h1 h2 => by
 by_cases e : i' = i
 ·subst e; exact k
 ·exact h i' (by omega) h2
theorem InJ.next {N : Nat} {xs vs : List Int} {i j : Nat} (h : InJ N xs vs i j) (k : fnF N xs i j → lv vs i - lv vs j ≤ bF N xs i j) : InJ N xs vs i (j + 1) := fun j' h1 h2 hf => by
 by_cases e : j' = j
 ·subst e; exact k hf
 ·exact h j' (by omega) h2 hf
theorem ref_bn (N i j : Nat) (ai aj : Int) (v : Value) (xs : List Int) (w : World) (hv : RL w.heap.size w v xs) (hok : OkZ N xs) (hi : ai = (i : Int)) (hj : aj = (j : Int)) (h1 : i ≤ N) (h2 : j ≤ N) :
  Calls Tryz.prog 68 #[.agg #[.int .i64 N, v], .int .i64 ai, .int .i64 aj] w fun e w' => e = .returned (.tuple #[.int .i64 (bF N xs i j), .bool (fnB N xs i j)]) ∧ Below w.heap.size w w' := by
 subst hi hj
 exact ref_bound N v i j xs w hv hok (by omega) (by omega) (by omega) (by omega)
set_option maxRecDepth 100000 in
set_option maxHeartbeats 4000000 in
theorem ref_closed23 (N : Nat) (v vv : Value) (xs vs : List Int) (w : World) (hv : RL w.heap.size w v xs) (hq : RL w.heap.size w vv vs) (hok : OkZ N xs) (hl : vs.length = N) (hb : ∀ k, k < N → -1099511627776 ≤ gi vs k ∧ gi vs k ≤ 1099511627776) :
  Calls Tryz.prog 175 #[.agg #[.int .i64 N, v], vv] w fun e w' => (e = .returned (.bool true) ∧ PI N xs (lv vs) ∨ e = .returned (.bool false) ∧ ¬ PI N xs (lv vs)) ∧ Below w.heap.size w w' := by
 obtain ⟨ao, cap, rfl, hle, _⟩ := hv.open
 obtain ⟨aov, capv, rfl, hlev, h0v⟩ := hq.open
 have hloc := Loc.one w (.cells #[.int .i64 N, .slice ao xs.length cap] 32) none
 have hN10 : N ≤ 10 := by have := hok.hi; omega
 have H0v := Lib.hid h0v
 have Hv := Lib.hid hv
 have Hl := Lib.hid hl
 have Hvb := Lib.hid (show ∀ i, i ≤ N → -1099511627776 ≤ lv vs i ∧ lv vs i ≤ 1099511627776 from fun i hi => by
  by_cases e : i = 0
  ·subst e; rw [lv_z]; omega
  ·rw [show i = (i - 1) + 1 by omega, lv_s]; exact hb _ (by omega))
 clear hv h0v hq hl hb
 go_enter Tryz.func175, Tryz.ntmps175
 go_upto_region 1 with fail
 have HL := Lib.hid hloc
 clear hloc
 go_wp2_with fail
 go_loopw [5] (fun s wr => ∃ i : Nat, i ≤ N + 1 ∧ s = .int .i64 i ∧ InI N xs vs i ∧ Loc w wr none [.cells #[.int .i64 N, .slice ao xs.length cap] 32]) (fun s _ => N + 1 - (intOf s).toNat)
 case atStart => exact ⟨0, by omega, rfl, fun i' h => by omega, HL.out⟩
 case round =>
  clear HL
  obtain ⟨i, hi, rfl, hin, hloc⟩ := hrel
  have Hin := Lib.hid hin
  have HL := Lib.hid hloc
  have z0 : wr.cell? ⟨w.heap.size, 0, none⟩ = some (.int .i64 N) := hloc.cell 0 rfl 0
  clear hin hloc
  by_cases hiN : i ≤ N
  rotate_left
  ·have hti : decide ((i : Int) ≤ (N : Int)) = false := by simp; omega
   have HF := Lib.hid (show PI N xs (lv vs) by have q := Hin.out; rw [show i = N + 1 by omega] at q; exact InI.pi.1 q)
   go_wp2_with fail
   go_ret
   exact ⟨.inl ⟨rfl, HF.out⟩, below_grownBy HL.out.grown⟩
  have hti : decide ((i : Int) ≤ (N : Int)) = true := by simp; omega
  go_upto_region 4 with fail
  clear z0
  go_wp2_with fail
  go_loopw [6] (fun s wr2 => ∃ j : Nat, j ≤ N + 1 ∧ s = .int .i64 j ∧ InJ N xs vs i j ∧ Loc w wr2 none [.cells #[.int .i64 N, .slice ao xs.length cap] 32]) (fun s _ => N + 1 - (intOf s).toNat)
  case atStart => exact ⟨0, by omega, rfl, fun j' h => by omega, HL.out⟩
  case round =>
   clear HL
   obtain ⟨j, hj, rfl, hjn, hloc2⟩ := hrel
   have Hjn := Lib.hid hjn
   have HL := Lib.hid hloc2
   obtain ⟨wa, hwa⟩ : ∃ V, V = wr := ⟨_, rfl⟩
   subst hwa
   have z0 : wa.cell? ⟨w.heap.size, 0, none⟩ = some (.int .i64 N) := hloc2.cell 0 rfl 0
   clear hjn hloc2
   by_cases hjN : j ≤ N
   rotate_left
   ·have htj : decide ((j : Int) ≤ (N : Int)) = false := by simp; omega
    have HN := Lib.hid (show InI N xs vs (i + 1) from Hin.out.next (by have q := Hjn.out; rw [show j = N + 1 by omega] at q; exact q))
    go_wp2_with fail
    go_roundw
    case rel => exact ⟨i + 1, by omega, by go_num, HN.out, HL.out⟩
    case measure => simp [intOf]; omega
   have htj : decide ((j : Int) ≤ (N : Int)) = true := by simp; omega
   obtain ⟨a, ha⟩ : ∃ a, lv vs i = a := ⟨_, rfl⟩
   obtain ⟨b, hb⟩ : ∃ b, lv vs j = b := ⟨_, rfl⟩
   have Ha := Lib.hid ha
   have Hb := Lib.hid hb
   have hab := Hvb.out i hiN
   have hbb := Hvb.out j hjN
   rw [ha] at hab
   rw [hb] at hbb
   clear ha hb
   have val : ∀ k x, k + 1 ≤ N → lv vs (k + 1) = x → ∃ b0 o0, aov = some ⟨b0, o0, none⟩ ∧ wa.cell? ⟨b0, o0 + k, none⟩ = some (.int .i64 x) := fun k x hk hx => by
    obtain ⟨b0, o0, e, h1, h2⟩ := H0v.out (by have := Hl.out; omega)
    refine ⟨b0, o0, e, ?_⟩
    rw [← hx, lv_s]
    exact ((bcell (below_grownBy HL.out.grown)).1 b0 (o0 + k) h1).trans (h2 k (by have := Hl.out; omega))
   have Val := Lib.hid val
   clear val
   rcases Nat.eq_zero_or_pos i with h0 | h0
   ·skip
    rcases Nat.eq_zero_or_pos j with g0 | g0
    ·skip
     go_upto_region 8 with fail
     clear z0
     replace Ha := Lib.hid (show lv vs i = 0 by rw [show i = 0 by omega]; rfl)
     have Hzx := Lib.hid (show i = 0 by omega)
     clear h0
     go_cut [24] (fun s wx => s = .bool false ∧ wx = wa)
     case first =>
      go_wp2_with fail
      go_meet
      exact ⟨by rw [Hzx.out]; rfl, rfl⟩
     case rest =>
      obtain ⟨rfl, hwc⟩ := hcut
      subst hwc
      obtain ⟨wa, hwa⟩ : ∃ V, V = wc := ⟨_, rfl⟩
      subst hwa
      go_upto_region 10 with fail
      replace Hb := Lib.hid (show lv vs j = 0 by rw [show j = 0 by omega]; rfl)
      have Hzy := Lib.hid (show j = 0 by omega)
      clear g0
      go_cut [31] (fun s wx => s = .bool false ∧ wx = wa)
      case first =>
       go_wp2_with fail
       go_meet
       exact ⟨by rw [Hzy.out]; rfl, rfl⟩
      case rest =>
       obtain ⟨rfl, hwc⟩ := hcut
       subst hwc
       obtain ⟨wa, hwa⟩ : ∃ V, V = wc := ⟨_, rfl⟩
       subst hwa
       have z0 : wa.cell? ⟨w.heap.size, 0, none⟩ = some (.int .i64 N) := HL.out.cell 0 rfl 0
       have z1 : wa.cell? ⟨w.heap.size, 1, none⟩ = some (.slice ao xs.length cap) := HL.out.cell 0 rfl 1
       go_wp2_with fail
       refine (ref_bn N i j (i : Int) (j : Int) _ xs _ (Hv.out.keepb (below_grownBy HL.out.grown)) hok (by omega) (by omega) hiN hjN).mono ?_
       rintro e w3 ⟨rfl, hb3⟩
       have hloc4 := HL.out.next (grownBy_below hb3 none) (fun _ h => by cases h)
       have HL4 := Lib.hid hloc4
       clear hb3 hloc4 z0 z1 HL
       obtain ⟨is, his⟩ : ∃ b : Bool, fnB N xs i j = b := ⟨_, rfl⟩
       have HIs := Lib.hid (show is = true ↔ fnF N xs i j by rw [← his]; exact fnB_iff)
       rw [his]
       obtain ⟨c, hc⟩ : ∃ c, bF N xs i j = c := ⟨_, rfl⟩
       have HC := Lib.hid hc
       rw [hc]
       clear his hc
       have Next := Lib.hid (show (fnF N xs i j → 0 - 0 ≤ c) → InJ N xs vs i (j + 1) from fun q => Hjn.out.next (fun hf => by have e1 := Ha.out; have e2 := Hb.out; have e3 := HC.out; have e4 := q hf; omega))
       cases is with
       | false =>
        have HN := Lib.hid (Next.out (fun hf => by have := HIs.out.2 hf; cases this))
        go_wp2_with fail
        go_roundw
        case rel => exact ⟨j + 1, by omega, by go_num, HN.out, HL4.out⟩
        case measure => simp [intOf]; omega
       | true =>
        by_cases hij : i = j
        ·have hijb : ((i : Int) != (j : Int)) = false := by simp; omega
         have HN := Lib.hid (Next.out (fun hf => by
          have e1 := Ha.out
          have e2 := Hb.out
          have e3 := HC.out
          rw [hij] at e1 e3
          rw [(b_diag hok hjN).2] at e3
          omega))
         have Hij := Lib.hid hij
         clear hij
         go_wp2_with fail
         go_roundw
         case rel => exact ⟨j + 1, by omega, by go_num, HN.out, HL4.out⟩
         case measure => simp [intOf]; omega
        ·have hijb : ((i : Int) != (j : Int)) = true := by simp; omega
         have Hij := Lib.hid hij
         clear hij
         by_cases hgt : c < 0 - 0
         ·have hg' : decide (c < 0 - 0) = true := by simpa using hgt
          have HF := Lib.hid (show ¬ PI N xs (lv vs) from fun h => by
           have e0 := h.2 i j hiN hjN (HIs.out.1 rfl)
           have e1 := Ha.out
           have e2 := Hb.out
           have e3 := HC.out
           omega)
          go_wp2_with fail
          go_ret
          exact ⟨.inr ⟨rfl, HF.out⟩, below_grownBy HL4.out.grown⟩
         ·have hg' : decide (c < 0 - 0) = false := by simpa using hgt
          have HN := Lib.hid (Next.out (fun hf => by omega))
          go_wp2_with fail
          go_roundw
          case rel => exact ⟨j + 1, by omega, by go_num, HN.out, HL4.out⟩
          case measure => simp [intOf]; omega
    ·skip
     obtain ⟨bby, ooy, eoy, xxy⟩ := Val.out (j - 1) b (by omega) (by rw [show j - 1 + 1 = j by omega]; exact Hb.out)
     have pky : (j : Int) - 1 < vs.length := by have := Hl.out; omega
     have ply : (0 : Int) ≤ (j : Int) - 1 := by omega
     have pmy : j - 1 < vs.length := by have := Hl.out; omega
     have ppy : decide (0 < j) = true := by simpa using g0
     subst eoy
     go_upto_region 8 with fail
     clear z0
     replace Ha := Lib.hid (show lv vs i = 0 by rw [show i = 0 by omega]; rfl)
     have Hzx := Lib.hid (show i = 0 by omega)
     clear h0
     go_cut [24] (fun s wx => s = .bool false ∧ wx = wa)
     case first =>
      go_wp2_with fail
      go_meet
      exact ⟨by rw [Hzx.out]; rfl, rfl⟩
     case rest =>
      obtain ⟨rfl, hwc⟩ := hcut
      subst hwc
      obtain ⟨wa, hwa⟩ : ∃ V, V = wc := ⟨_, rfl⟩
      subst hwa
      go_upto_region 10 with fail
      have z0 : wa.cell? ⟨w.heap.size, 0, none⟩ = some (.int .i64 N) := HL.out.cell 0 rfl 0
      have z1 : wa.cell? ⟨w.heap.size, 1, none⟩ = some (.slice ao xs.length cap) := HL.out.cell 0 rfl 1
      go_wp2_with fail
      refine (ref_bn N i j (i : Int) (j : Int) _ xs _ (Hv.out.keepb (below_grownBy HL.out.grown)) hok (by omega) (by omega) hiN hjN).mono ?_
      rintro e w3 ⟨rfl, hb3⟩
      have hloc4 := HL.out.next (grownBy_below hb3 none) (fun _ h => by cases h)
      have HL4 := Lib.hid hloc4
      clear hb3 hloc4 z0 z1 HL
      obtain ⟨is, his⟩ : ∃ b : Bool, fnB N xs i j = b := ⟨_, rfl⟩
      have HIs := Lib.hid (show is = true ↔ fnF N xs i j by rw [← his]; exact fnB_iff)
      rw [his]
      obtain ⟨c, hc⟩ : ∃ c, bF N xs i j = c := ⟨_, rfl⟩
      have HC := Lib.hid hc
      rw [hc]
      clear his hc
      have Next := Lib.hid (show (fnF N xs i j → 0 - b ≤ c) → InJ N xs vs i (j + 1) from fun q => Hjn.out.next (fun hf => by have e1 := Ha.out; have e2 := Hb.out; have e3 := HC.out; have e4 := q hf; omega))
      cases is with
      | false =>
       have HN := Lib.hid (Next.out (fun hf => by have := HIs.out.2 hf; cases this))
       go_wp2_with fail
       go_roundw
       case rel => exact ⟨j + 1, by omega, by go_num, HN.out, HL4.out⟩
       case measure => simp [intOf]; omega
      | true =>
       by_cases hij : i = j
       ·have hijb : ((i : Int) != (j : Int)) = false := by simp; omega
        have HN := Lib.hid (Next.out (fun hf => by
         have e1 := Ha.out
         have e2 := Hb.out
         have e3 := HC.out
         rw [hij] at e1 e3
         rw [(b_diag hok hjN).2] at e3
         omega))
        have Hij := Lib.hid hij
        clear hij
        go_wp2_with fail
        go_roundw
        case rel => exact ⟨j + 1, by omega, by go_num, HN.out, HL4.out⟩
        case measure => simp [intOf]; omega
       ·have hijb : ((i : Int) != (j : Int)) = true := by simp; omega
        have Hij := Lib.hid hij
        clear hij
        by_cases hgt : c < 0 - b
        ·have hg' : decide (c < 0 - b) = true := by simpa using hgt
         have HF := Lib.hid (show ¬ PI N xs (lv vs) from fun h => by
          have e0 := h.2 i j hiN hjN (HIs.out.1 rfl)
          have e1 := Ha.out
          have e2 := Hb.out
          have e3 := HC.out
          omega)
         go_wp2_with fail
         go_ret
         exact ⟨.inr ⟨rfl, HF.out⟩, below_grownBy HL4.out.grown⟩
        ·have hg' : decide (c < 0 - b) = false := by simpa using hgt
         have HN := Lib.hid (Next.out (fun hf => by omega))
         go_wp2_with fail
         go_roundw
         case rel => exact ⟨j + 1, by omega, by go_num, HN.out, HL4.out⟩
         case measure => simp [intOf]; omega
   ·skip
    obtain ⟨bbx, oox, eox, xxx⟩ := Val.out (i - 1) a (by omega) (by rw [show i - 1 + 1 = i by omega]; exact Ha.out)
    have pkx : (i : Int) - 1 < vs.length := by have := Hl.out; omega
    have plx : (0 : Int) ≤ (i : Int) - 1 := by omega
    have pmx : i - 1 < vs.length := by have := Hl.out; omega
    have ppx : decide (0 < i) = true := by simpa using h0
    rcases Nat.eq_zero_or_pos j with g0 | g0
    ·skip
     subst eox
     go_upto_region 8 with fail
     clear z0
     go_upto_region 10 with fail
     replace Hb := Lib.hid (show lv vs j = 0 by rw [show j = 0 by omega]; rfl)
     have Hzy := Lib.hid (show j = 0 by omega)
     clear g0
     go_cut [31] (fun s wx => s = .bool false ∧ wx = wa)
     case first =>
      go_wp2_with fail
      go_meet
      exact ⟨by rw [Hzy.out]; rfl, rfl⟩
     case rest =>
      obtain ⟨rfl, hwc⟩ := hcut
      subst hwc
      obtain ⟨wa, hwa⟩ : ∃ V, V = wc := ⟨_, rfl⟩
      subst hwa
      have z0 : wa.cell? ⟨w.heap.size, 0, none⟩ = some (.int .i64 N) := HL.out.cell 0 rfl 0
      have z1 : wa.cell? ⟨w.heap.size, 1, none⟩ = some (.slice ao xs.length cap) := HL.out.cell 0 rfl 1
      go_wp2_with fail
      refine (ref_bn N i j (i : Int) (j : Int) _ xs _ (Hv.out.keepb (below_grownBy HL.out.grown)) hok (by omega) (by omega) hiN hjN).mono ?_
      rintro e w3 ⟨rfl, hb3⟩
      have hloc4 := HL.out.next (grownBy_below hb3 none) (fun _ h => by cases h)
      have HL4 := Lib.hid hloc4
      clear hb3 hloc4 z0 z1 HL
      obtain ⟨is, his⟩ : ∃ b : Bool, fnB N xs i j = b := ⟨_, rfl⟩
      have HIs := Lib.hid (show is = true ↔ fnF N xs i j by rw [← his]; exact fnB_iff)
      rw [his]
      obtain ⟨c, hc⟩ : ∃ c, bF N xs i j = c := ⟨_, rfl⟩
      have HC := Lib.hid hc
      rw [hc]
      clear his hc
      have Next := Lib.hid (show (fnF N xs i j → a - 0 ≤ c) → InJ N xs vs i (j + 1) from fun q => Hjn.out.next (fun hf => by have e1 := Ha.out; have e2 := Hb.out; have e3 := HC.out; have e4 := q hf; omega))
      cases is with
      | false =>
       have HN := Lib.hid (Next.out (fun hf => by have := HIs.out.2 hf; cases this))
       go_wp2_with fail
       go_roundw
       case rel => exact ⟨j + 1, by omega, by go_num, HN.out, HL4.out⟩
       case measure => simp [intOf]; omega
      | true =>
       by_cases hij : i = j
       ·have hijb : ((i : Int) != (j : Int)) = false := by simp; omega
        have HN := Lib.hid (Next.out (fun hf => by
         have e1 := Ha.out
         have e2 := Hb.out
         have e3 := HC.out
         rw [hij] at e1 e3
         rw [(b_diag hok hjN).2] at e3
         omega))
        have Hij := Lib.hid hij
        clear hij
        go_wp2_with fail
        go_roundw
        case rel => exact ⟨j + 1, by omega, by go_num, HN.out, HL4.out⟩
        case measure => simp [intOf]; omega
       ·have hijb : ((i : Int) != (j : Int)) = true := by simp; omega
        have Hij := Lib.hid hij
        clear hij
        by_cases hgt : c < a - 0
        ·have hg' : decide (c < a - 0) = true := by simpa using hgt
         have HF := Lib.hid (show ¬ PI N xs (lv vs) from fun h => by
          have e0 := h.2 i j hiN hjN (HIs.out.1 rfl)
          have e1 := Ha.out
          have e2 := Hb.out
          have e3 := HC.out
          omega)
         go_wp2_with fail
         go_ret
         exact ⟨.inr ⟨rfl, HF.out⟩, below_grownBy HL4.out.grown⟩
        ·have hg' : decide (c < a - 0) = false := by simpa using hgt
         have HN := Lib.hid (Next.out (fun hf => by omega))
         go_wp2_with fail
         go_roundw
         case rel => exact ⟨j + 1, by omega, by go_num, HN.out, HL4.out⟩
         case measure => simp [intOf]; omega
    ·skip
     obtain ⟨bby, ooy, eoy, xxy⟩ := Val.out (j - 1) b (by omega) (by rw [show j - 1 + 1 = j by omega]; exact Hb.out)
     have pky : (j : Int) - 1 < vs.length := by have := Hl.out; omega
     have ply : (0 : Int) ≤ (j : Int) - 1 := by omega
     have pmy : j - 1 < vs.length := by have := Hl.out; omega
     have ppy : decide (0 < j) = true := by simpa using g0
     subst eox
     cases eoy
     go_upto_region 8 with fail
     clear z0
     go_upto_region 10 with fail
     have z0 : wa.cell? ⟨w.heap.size, 0, none⟩ = some (.int .i64 N) := HL.out.cell 0 rfl 0
     have z1 : wa.cell? ⟨w.heap.size, 1, none⟩ = some (.slice ao xs.length cap) := HL.out.cell 0 rfl 1
     go_wp2_with fail
     refine (ref_bn N i j (i : Int) (j : Int) _ xs _ (Hv.out.keepb (below_grownBy HL.out.grown)) hok (by omega) (by omega) hiN hjN).mono ?_
     rintro e w3 ⟨rfl, hb3⟩
     have hloc4 := HL.out.next (grownBy_below hb3 none) (fun _ h => by cases h)
     have HL4 := Lib.hid hloc4
     clear hb3 hloc4 z0 z1 HL
     obtain ⟨is, his⟩ : ∃ b : Bool, fnB N xs i j = b := ⟨_, rfl⟩
     have HIs := Lib.hid (show is = true ↔ fnF N xs i j by rw [← his]; exact fnB_iff)
     rw [his]
     obtain ⟨c, hc⟩ : ∃ c, bF N xs i j = c := ⟨_, rfl⟩
     have HC := Lib.hid hc
     rw [hc]
     clear his hc
     have Next := Lib.hid (show (fnF N xs i j → a - b ≤ c) → InJ N xs vs i (j + 1) from fun q => Hjn.out.next (fun hf => by have e1 := Ha.out; have e2 := Hb.out; have e3 := HC.out; have e4 := q hf; omega))
     cases is with
     | false =>
      have HN := Lib.hid (Next.out (fun hf => by have := HIs.out.2 hf; cases this))
      go_wp2_with fail
      go_roundw
      case rel => exact ⟨j + 1, by omega, by go_num, HN.out, HL4.out⟩
      case measure => simp [intOf]; omega
     | true =>
      by_cases hij : i = j
      ·have hijb : ((i : Int) != (j : Int)) = false := by simp; omega
       have HN := Lib.hid (Next.out (fun hf => by
        have e1 := Ha.out
        have e2 := Hb.out
        have e3 := HC.out
        rw [hij] at e1 e3
        rw [(b_diag hok hjN).2] at e3
        omega))
       have Hij := Lib.hid hij
       clear hij
       go_wp2_with fail
       go_roundw
       case rel => exact ⟨j + 1, by omega, by go_num, HN.out, HL4.out⟩
       case measure => simp [intOf]; omega
      ·have hijb : ((i : Int) != (j : Int)) = true := by simp; omega
       have Hij := Lib.hid hij
       clear hij
       by_cases hgt : c < a - b
       ·have hg' : decide (c < a - b) = true := by simpa using hgt
        have HF := Lib.hid (show ¬ PI N xs (lv vs) from fun h => by
         have e0 := h.2 i j hiN hjN (HIs.out.1 rfl)
         have e1 := Ha.out
         have e2 := Hb.out
         have e3 := HC.out
         omega)
        go_wp2_with fail
        go_ret
        exact ⟨.inr ⟨rfl, HF.out⟩, below_grownBy HL4.out.grown⟩
       ·have hg' : decide (c < a - b) = false := by simpa using hgt
        have HN := Lib.hid (Next.out (fun hf => by omega))
        go_wp2_with fail
        go_roundw
        case rel => exact ⟨j + 1, by omega, by go_num, HN.out, HL4.out⟩
        case measure => simp [intOf]; omega
end Go.Proofs.YtfphlpglgcmljaaGreat
