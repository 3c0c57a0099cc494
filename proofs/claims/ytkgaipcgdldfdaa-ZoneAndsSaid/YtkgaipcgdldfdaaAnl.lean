/- The law ZoneAnds answers true for every input, and writes nothing that was there. -/
import Derived.Test.YtkgaipcgdldfdaaLaw3
import Derived.Test.YtkgaipcgdldfdaaPhs
import Derived.Test.YtkgaipcgdldfdaaAndP
import Derived.Test.YtkgaipcgdldfdaaPand2
import Derived.Deep.DeepCutAuto
import Derived.Deep.CutBlock
namespace Go.Proofs.Ytkgaipcgdldfdaa
open Go.RowKit
set_option linter.unusedVariables false

/-- The six cells of the case's box. -/
def CaseC (b : Nat) (n i j c : Int) (v k : Value) (X : World) : Prop :=
  X.cell? ⟨b, 0, none⟩ = some (.int .i64 n) ∧ X.cell? ⟨b, 1, none⟩ = some v ∧ X.cell? ⟨b, 2, none⟩ = some (.int .i64 i) ∧ X.cell? ⟨b, 3, none⟩ = some (.int .i64 j) ∧ X.cell? ⟨b, 4, none⟩ = some (.int .i64 c) ∧ X.cell? ⟨b, 5, none⟩ = some k
theorem CaseC.keep {b : Nat} {n i j c : Int} {v k : Value} {W X : World} (h : CaseC b n i j c v k W) (hb : Below W.heap.size W X) : CaseC b n i j c v k X :=
  ⟨keepb h.1 hb, keepb h.2.1 hb, keepb h.2.2.1 hb, keepb h.2.2.2.1 hb, keepb h.2.2.2.2.1 hb, keepb h.2.2.2.2.2 hb⟩

/-- Bx2 boxes of ratios, one behind the other. -/
def Bx2 (B : Nat) (p q : Int × Int) (X : World) : Prop :=
  X.heap[B]? = some (.cells #[.int .i64 p.1, .int .i64 p.2] 48 (0, 0)) ∧ X.heap[B + 1]? = some (.cells #[.int .i64 q.1, .int .i64 q.2] 48 (0, 0))
theorem Bx2.keep {B : Nat} {p q : Int × Int} {X X' : World} (h : Bx2 B p q X) (hb : Below X.heap.size X X') : Bx2 B p q X' := ⟨hp_keep h.1 hb, hp_keep h.2 hb⟩
theorem Bx2.set1 {B : Nat} {p q : Int × Int} {X : World} (h : Bx2 B p q X) (x y : Int) : Bx2 B (x, y) q ((X.setCell ⟨B, 0, none⟩ (.int .i64 x)).setCell ⟨B, 1, none⟩ (.int .i64 y)) :=
  ⟨store2_at _ _ h.1, (store2_ne _ _ (by omega)).trans h.2⟩
theorem Bx2.set2 {B : Nat} {p q : Int × Int} {X : World} (h : Bx2 B p q X) (x y : Int) : Bx2 B p (x, y) ((X.setCell ⟨B + 1, 0, none⟩ (.int .i64 x)).setCell ⟨B + 1, 1, none⟩ (.int .i64 y)) :=
  ⟨(store2_ne _ _ (by omega)).trans h.1, store2_at _ _ h.2⟩
theorem Bx2.cells {B : Nat} {p q : Int × Int} {X : World} (h : Bx2 B p q X) :
    X.cell? ⟨B, 0, none⟩ = some (.int .i64 p.1) ∧ X.cell? ⟨B, 1, none⟩ = some (.int .i64 p.2) ∧ X.cell? ⟨B + 1, 0, none⟩ = some (.int .i64 q.1) ∧ X.cell? ⟨B + 1, 1, none⟩ = some (.int .i64 q.2) ∧
    X.frozen? ⟨B, 0, none⟩ = false ∧ X.frozen? ⟨B, 1, none⟩ = false ∧ X.frozen? ⟨B + 1, 0, none⟩ = false ∧ X.frozen? ⟨B + 1, 1, none⟩ = false :=
  ⟨cell_of_row _ B 0 _ _ _ h.1, cell_of_row _ B 1 _ _ _ h.1, cell_of_row _ (B + 1) 0 _ _ _ h.2, cell_of_row _ (B + 1) 1 _ _ _ h.2, frozen_of_row _ B 0 _ _ h.1, frozen_of_row _ B 1 _ _ h.1, frozen_of_row _ (B + 1) 0 _ _ h.2, frozen_of_row _ (B + 1) 1 _ _ h.2⟩
theorem dif_vr {ps : List (Int × Int)} {i j : Nat} (h1 : okP (ck ps i) = true) (h2 : okP (ck ps j) = true) (h : (dif ps i j).2 = 0) : vr (dif ps i j).1.1 (dif ps i j).1.2 = true := by
  have e := df_dif h1 h2
  rw [← e] at h ⊢
  unfold df at h ⊢
  rw [gq_ck, gq_ck, sbR_yes (by rw [(okP_vr h1).1, (okP_vr h2).1]; rfl)] at h ⊢
  have b1 := vr_bd (okP_vr h1).1
  have b2 := vr_bd (okP_vr h2).1
  exact (mkR_val (Int.mul_pos (by omega) (by omega)) rfl h).2.2
set_option maxRecDepth 100000 in
set_option maxHeartbeats 8000000 in
theorem law_zone_ands (n i j c : Int) (v k pv : Value) (xs : List Int) (cs : List (Int × Int × Int)) (ps : List (Int × Int)) (w : World) (hv : RL w.heap.size w v xs) (hk : RK w.heap.size w k cs) (hp : RQ w.heap.size w pv ps) (hI : ∀ k, k < ps.length → I64 (gq ps k).1) :
    Calls Try.prog 8 #[.agg #[.int .i64 n, v, .int .i64 i, .int .i64 j, .int .i64 c, k], pv] w fun e w' => e = .returned (.bool true) ∧ Below w.heap.size w w' := by
  obtain ⟨ao, cap, rfl, hle, _⟩ := hv.open
  obtain ⟨aok, capk, rfl, hlek, _⟩ := hk.open
  obtain ⟨aop, capp, rfl, hlep, _⟩ := hp.open
  have hloc := Loc.one w (.cells #[.int .i64 n, .slice ao xs.length cap, .int .i64 i, .int .i64 j, .int .i64 c, .slice aok cs.length capk] 58) none
  have Hv := Lib.hid (hv.keepb (below_grownBy hloc.grown))
  have Hk := Lib.hid (hk.keepb (below_grownBy hloc.grown))
  have Hp := Lib.hid (hp.keepb (below_grownBy hloc.grown))
  have HI := Lib.hid hI
  clear hv hk hp hI
  by_cases hhtb : 200 < xs.length
  · have htb : decide ((200 : Int) < (xs.length : Int)) = true := by simp; omega
    go_enter Try.func8, Try.ntmps8
    go_wp2_with fail
    refine (law_shown03 _).mono ?_
    rintro e w1 ⟨rfl, hb1⟩
    go_wp2_with fail
    go_ret
    exact ⟨rfl, below_grownBy (hloc.next (grownBy_below hb1 none) (fun _ h => by cases h)).grown⟩
  have htb : decide ((200 : Int) < (xs.length : Int)) = false := by simp; omega
  by_cases hhtc : 100 < cs.length
  · have htc : decide ((100 : Int) < (cs.length : Int)) = true := by simp; omega
    go_enter Try.func8, Try.ntmps8
    go_wp2_with fail
    refine (law_shown03 _).mono ?_
    rintro e w1 ⟨rfl, hb1⟩
    go_wp2_with fail
    go_ret
    exact ⟨rfl, below_grownBy (hloc.next (grownBy_below hb1 none) (fun _ h => by cases h)).grown⟩
  have htc : decide ((100 : Int) < (cs.length : Int)) = false := by simp; omega
  by_cases hhtp : 50 < ps.length
  · have htp : decide ((50 : Int) < (ps.length : Int)) = true := by simp; omega
    go_enter Try.func8, Try.ntmps8
    go_wp2_with fail
    refine (law_shown03 _).mono ?_
    rintro e w1 ⟨rfl, hb1⟩
    go_wp2_with fail
    go_ret
    exact ⟨rfl, below_grownBy (hloc.next (grownBy_below hb1 none) (fun _ h => by cases h)).grown⟩
  have htp : decide ((50 : Int) < (ps.length : Int)) = false := by simp; omega
  go_enter Try.func8, Try.ntmps8
  go_upto_region 3 with fail
  have hz0 := hloc.cell 0 rfl 0
  have hz1 := hloc.cell 0 rfl 1
  have hz2 := hloc.cell 0 rfl 2
  have hz3 := hloc.cell 0 rfl 3
  have hz4 := hloc.cell 0 rfl 4
  have hz5 := hloc.cell 0 rfl 5
  generalize hW : World.alloc _ (Obj.cells _ 58) = W at *
  have HZ := Lib.hid (show CaseC w.heap.size n i j c (.slice ao xs.length cap) (.slice aok cs.length capk) W from ⟨hz0, hz1, hz2, hz3, hz4, hz5⟩)
  have Hloc := Lib.hid hloc
  have HL2 := Lib.hid (show ps.length ≤ 50 from by omega)
  clear hz0 hz1 hz2 hz3 hz4 hz5 hW hloc htb htc htp hhtb hhtc hhtp
  have HA := Lib.hid (fun v k w hv hk => prog_and n v k xs cs w hv hk)
  have HH := Lib.hid (fun v pv w hv hp => prog_has n v pv xs ps w hv hp HI.out)
  have HH2 := Lib.hid (fun m v pv ys w hv hp => prog_has m v pv ys ps w hv hp HI.out)
  have HAe := Lib.hid (show andF n xs cs = andF n xs cs from rfl)
  have HPL := Lib.hid (ands_plain n xs cs ps)
  generalize hRA : andF n xs cs = RA at HA HPL
  generalize hRH : hasF n xs ps = RH at HH HPL
  clear HAe hRA hRH
  obtain ⟨d, hd⟩ : ∃ d, d = zdim RA n := ⟨_, rfl⟩
  have Hd := Lib.hid hd
  clear hd
  obtain ⟨hin, hf⟩ := RH
  obtain ⟨z0, z1, z2, z3, z4, z5⟩ := HZ.out
  go_wp2_with fail
  refine (HA.out _ _ W Hv.out Hk.out).mono ?_
  rintro e w4 ⟨⟨v4, rfl, ho4⟩, hb4⟩
  rw [← Hd.out]
  obtain ⟨ao4, c4, rfl⟩ := owns_form ho4
  have HB := Lib.hid (bal hb4 (.cells #[.int .i64 d, .slice ao4 RA.2.length c4] 24))
  have HP := Lib.hid (Zb.new (d := d) ho4)
  clear z0 z1 z2 z3 z4 z5 ho4 hb4
  go_upto_region 4 with fail
  generalize w4.alloc (.cells #[.int .i64 d, .slice ao4 RA.2.length c4] 24) = W1 at *
  generalize w4.heap.size = b5 at *
  obtain ⟨z0, z1, z2, z3, z4, z5⟩ := HZ.out.keep HB.out
  go_wp2_with fail
  refine (HH.out _ _ W1 (Hv.out.keepb HB.out) (Hp.out.keepb HB.out)).mono ?_
  rintro e w5 ⟨he, hb5⟩
  obtain rfl : e = .returned (.tuple #[.bool hin, .int .i64 hf]) := he
  have HB1 := Lib.hid (bt HB.out hb5)
  have HP1 := Lib.hid (HP.out.keep hb5)
  clear z0 z1 z2 z3 z4 z5 HB HP hb5
  obtain ⟨z0, z1, z2, z3, z4, z5⟩ := HZ.out.keep HB1.out
  have good : ∀ hg : (RA.1 = 0 ∨ RA.1 = 4) ∧ hf = 0, True := fun _ => trivial
  by_cases ha : RA.1 = 0 ∨ RA.1 = 4
  case neg =>
    have e1 : (RA.1 != 0) = true := by simp; omega
    have e2 : (RA.1 != 4) = true := by simp; omega
    clear ha good
    go_wp2_with fail
    refine (law_shown03 _).mono ?_
    rintro e w6 ⟨rfl, hb6⟩
    go_wp2_with fail
    go_ret
    exact ⟨rfl, below_grownBy (Hloc.out.next (grownBy_below (bt HB1.out hb6) none) (fun _ h => by cases h)).grown⟩
  by_cases hf0 : hf = 0
  case neg =>
    have e3 : (hf != 0) = true := by simpa using hf0
    rcases ha with ha | ha
    · have e1 : (RA.1 != 0) = false := by simp [ha]
      clear ha hf0 good
      go_wp2_with fail
      refine (law_shown03 _).mono ?_
      rintro e w6 ⟨rfl, hb6⟩
      go_wp2_with fail
      go_ret
      exact ⟨rfl, below_grownBy (Hloc.out.next (grownBy_below (bt HB1.out hb6) none) (fun _ h => by cases h)).grown⟩
    · have e1 : (RA.1 != 0) = true := by simp [ha]
      have e2 : (RA.1 != 4) = false := by simp [ha]
      clear ha hf0 good
      go_wp2_with fail
      refine (law_shown03 _).mono ?_
      rintro e w6 ⟨rfl, hb6⟩
      go_wp2_with fail
      go_ret
      exact ⟨rfl, below_grownBy (Hloc.out.next (grownBy_below (bt HB1.out hb6) none) (fun _ h => by cases h)).grown⟩
  clear good
  subst hf0
  obtain ⟨hok, hlen, hK, hPD, hin0, hA0, hA4⟩ := HPL.out ha rfl
  obtain ⟨N, rfl⟩ := Int.eq_ofNat_of_zero_le hok.lo
  have hN : ps.length = N := by omega
  have e4 : ((ps.length : Int) != (N : Int)) = false := by simp; omega
  have HOK := Lib.hid hok
  have HK := Lib.hid hK
  have HN := Lib.hid hN
  have HIN := Lib.hid hin0
  have HPD := Lib.hid hPD
  have HA0 := Lib.hid hA0
  have HA4 := Lib.hid hA4
  have HRA := Lib.hid ha
  clear hok hK hin0 hlen hPD hA0 hA4 hN HPL HA HH
  have step : ∀ (b : Bool), ((RA.1 != 0) = b → ((RA.1 != 4) = false ∨ b = false)) := fun b hb => by
    cases b
    · exact .inr rfl
    · left; rcases HRA.out with h | h
      · rw [h] at hb; cases hb
      · simp [h]
  clear step
  go_upto_region 5 with fail
  go_cut [66] (fun s66 wx => s66 = .bool false ∧ wx = w5)
  case first =>
    rcases HRA.out with h | h
    · have e1 : (RA.1 != 0) = false := by simp [h]
      clear h
      go_wp2_with fail
      go_meet
      exact ⟨rfl, rfl⟩
    · have e1 : (RA.1 != 0) = true := by simp [h]
      have e2 : (RA.1 != 4) = false := by simp [h]
      clear h
      go_wp2_with fail
      go_meet
      exact ⟨rfl, rfl⟩
  case rest =>
    obtain ⟨rfl, hw5⟩ := hcut
    subst hw5
    clear e4
    obtain ⟨V5, hV5⟩ : ∃ V, V = wc := ⟨_, rfl⟩
    subst hV5
    obtain ⟨aok', capk', ek, _, h0k⟩ := Hk.out.open
    injection ek with ek1 ek2 ek3
    subst ek1
    obtain ⟨aop', capp', ep, _, h0p⟩ := Hp.out.open
    injection ep with ep1 ep2 ep3
    subst ep1
    have H0k := Lib.hid h0k
    have H0p := Lib.hid h0p
    clear ek2 ek3 ep2 ep3 h0k h0p z0 z1 z2 z3 z4 z5
    go_upto_block 0 with fail
    go_cut [7] (fun s7 wx => ∃ b, s7 = .bool b ∧ (b = true ↔ (hin = true ∧ KMet ps cs cs.length)) ∧ Below V5.heap.size V5 wx)
    case first =>
      go_wp2_with fail
      go_loopw [9, 7] (fun s9 s7 wr => ∃ (q : Nat) (b : Bool), q ≤ cs.length ∧ s9 = .int .i64 q ∧ s7 = .bool b ∧ (b = true ↔ (hin = true ∧ KMet ps cs q)) ∧ Below V5.heap.size V5 wr) (fun s9 _ _ => cs.length - (intOf s9).toNat)
      case atStart => exact ⟨0, hin, by omega, rfl, rfl, ⟨fun h => ⟨h, fun k hk => by omega⟩, fun h => h.1⟩, Below.refl _ _⟩
      case round =>
        obtain ⟨q, b, hq, rfl, rfl, hb, hbel⟩ := hrel
        have HBr := Lib.hid (bt HB1.out hbel)
        have HIf := Lib.hid hb
        have Hbel := Lib.hid hbel
        clear hb hbel
        obtain ⟨z0, z1, z2, z3, z4, z5⟩ := HZ.out.keep HBr.out
        by_cases hlt : q < cs.length
        case neg =>
          have htd : decide ((q : Int) < (cs.length : Int)) = false := by simp; omega
          have HFin := Lib.hid (show b = true ↔ (hin = true ∧ KMet ps cs cs.length) from by rw [show cs.length = q by omega]; exact HIf.out)
          go_wp2_with fail
          go_meet
          exact ⟨b, rfl, HFin.out, Hbel.out⟩
        cases b with
        | false =>
          have htd : decide ((q : Int) < (cs.length : Int)) = true := by simp; omega
          have HFin := Lib.hid (show false = true ↔ (hin = true ∧ KMet ps cs cs.length) from ⟨fun h => (by cases h), fun h => HIf.out.2 ⟨h.1, fun k hk => h.2 k (by omega)⟩⟩)
          go_wp2_with fail
          go_meet
          exact ⟨false, rfl, HFin.out, Hbel.out⟩
        | true =>
          have htd : decide ((q : Int) < (cs.length : Int)) = true := by simp; omega
          have Hq := Lib.hid (HIf.out.1 rfl)
          obtain ⟨bk, ok, rfl, hbk, hck⟩ := H0k.out (by omega)
          obtain ⟨x1, x2, x3⟩ := hck q hlt
          have y1 := ((bcell HBr.out).1 _ _ hbk).trans x1
          have y2 := ((bcell HBr.out).1 _ _ hbk).trans x2
          have y3 := ((bcell HBr.out).1 _ _ hbk).trans x3
          have y4 : (q : Int) < cs.length := by omega
          have hq0 : (0 : Int) ≤ (q : Int) := by omega
          have hkq := HK.out q hlt
          rw [Int.toNat_natCast] at hkq
          have HKs := Lib.hid (fun (h : kmet ps (gk cs q) = true) => (KMet.succ (q := q) Hq.out.2 h : KMet ps cs (q + 1)))
          have HKn := Lib.hid (fun (h : KMet ps cs (q + 1)) => h q (by omega))
          have HX := Lib.hid (show _ ∧ _ ∧ _ ∧ _ from ⟨hbk, x1, x2, x3⟩)
          clear hck x1 x2 x3
          generalize hG : gk cs q = kc at *
          obtain ⟨I, J, L⟩ := kc
          clear hG
          obtain ⟨k1, k2, k3, k4, k5⟩ := (kOk_iff N I J L).1 hkq
          have HKI := Lib.hid (show 0 ≤ I ∧ I ≤ ps.length ∧ 0 ≤ J ∧ J ≤ ps.length from ⟨k1, by have := HN.out; omega, k3, by have := HN.out; omega⟩)
          have HL := Lib.hid k5
          have d1 : decide (I < 0) = false := by simp; omega
          have d2 : decide ((ps.length : Int) < I) = false := by have := HKI.out; simp; omega
          have d3 : decide (J < 0) = false := by simp; omega
          have d4 : decide ((ps.length : Int) < J) = false := by have := HKI.out; simp; omega
          clear k1 k2 k3 k4 k5 hkq
          go_upto_region 11 with fail
          have g10 : ((wr.alloc (.cells #[.int .i64 0, .int .i64 1] 48)).alloc (.cells #[.int .i64 0, .int .i64 1] 48)).heap[wr.heap.size]? = some (.cells #[.int .i64 0, .int .i64 1] 48 (0, 0)) := hp_keep (heap_alloc_new wr _) (b1_alloc _ _)
          have g11 : ((wr.alloc (.cells #[.int .i64 0, .int .i64 1] 48)).alloc (.cells #[.int .i64 0, .int .i64 1] 48)).heap[wr.heap.size + 1]? = some (.cells #[.int .i64 0, .int .i64 1] 48 (0, 0)) := by
            have := heap_alloc_new (wr.alloc (.cells #[.int .i64 0, .int .i64 1] 48)) (.cells #[.int .i64 0, .int .i64 1] 48)
            rwa [show (wr.alloc (.cells #[.int .i64 0, .int .i64 1] 48)).heap.size = wr.heap.size + 1 by simp] at this
          have HBb := Lib.hid (bal (bal Hbel.out (.cells #[.int .i64 0, .int .i64 1] 48)) (.cells #[.int .i64 0, .int .i64 1] 48))
          have HBs := Lib.hid (show w.heap.size + 1 ≤ wr.heap.size ∧ V5.heap.size ≤ wr.heap.size ∧ W.heap.size ≤ wr.heap.size from ⟨Nat.le_trans Hloc.out.size HBr.out.size, Hbel.out.size, HBr.out.size⟩)
          have HG10 := Lib.hid g10
          have HG11 := Lib.hid g11
          clear z0 z1 z2 z3 z4 z5 y1 y2 y3 g10 g11 Hbel HBr
          generalize (wr.alloc (.cells #[.int .i64 0, .int .i64 1] 48)).alloc (.cells #[.int .i64 0, .int .i64 1] 48) = Wb at *
          generalize wr.heap.size = B at *
          have HT := Lib.hid (show Bx2 B (0, 1) (0, 1) Wb from ⟨HG10.out, HG11.out⟩)
          clear HG10 HG11
          have HY := Lib.hid (fun (X : World) (hX : Below V5.heap.size V5 X) => (⟨((bcell (bt HB1.out hX)).1 _ _ HX.out.1).trans HX.out.2.1, ((bcell (bt HB1.out hX)).1 _ _ HX.out.1).trans HX.out.2.2.1, ((bcell (bt HB1.out hX)).1 _ _ HX.out.1).trans HX.out.2.2.2⟩ : X.cell? ⟨bk, ok + q * 3, none⟩ = some (.int .i64 I) ∧ X.cell? ⟨bk, ok + q * 3 + 1, none⟩ = some (.int .i64 J) ∧ X.cell? ⟨bk, ok + q * 3 + 2, none⟩ = some (.int .i64 L)))
          obtain ⟨z0, z1, z2, z3, z4, z5⟩ := HZ.out.keep (bt HB1.out HBb.out)
          obtain ⟨y1, y2, y3⟩ := HY.out Wb HBb.out
          go_upto_if 124 with fail
          clear d1 d2 d3 d4
          go_cut [9] (fun s9 wx => s9 = .int .i64 q ∧ Bx2 B (ck ps I.toNat) (0, 1) wx ∧ Below V5.heap.size V5 wx)
          case first =>
            by_cases hI0 : I = 0
            · have d5 : decide (0 < I) = false := by simp; omega
              have HE := Lib.hid (show ck ps I.toNat = (0, 1) by rw [hI0]; rfl)
              clear hI0
              rw [d5]
              go_wp2_with fail
              go_meet
              exact ⟨rfl, by rw [HE.out]; exact HT.out, HBb.out⟩
            · have d5 : decide (0 < I) = true := by have := HKI.out; simp; omega
              obtain ⟨m, hm⟩ : ∃ m : Nat, I = (m : Int) + 1 := ⟨(I - 1).toNat, by have := HKI.out; omega⟩
              have hml : m < ps.length := by have := HKI.out; omega
              obtain ⟨bp, op, rfl, hbp, hcp⟩ := H0p.out (by omega)
              obtain ⟨q1, q2⟩ := hcp m hml
              have c1 := ((bcell (bt HB1.out HBb.out)).1 _ _ hbp).trans q1
              have c2 := ((bcell (bt HB1.out HBb.out)).1 _ _ hbp).trans q2
              have e3 : I - 1 = (m : Int) := by omega
              have e5 : (m : Int) < ps.length := by omega
              have e6 : (0 : Int) ≤ (m : Int) := by omega
              have e7 : 1 ≤ I ∧ I ≤ 9223372036854775807 := by have := HKI.out; have := HL2.out; omega
              have HE := Lib.hid (show ck ps I.toNat = ((gq ps m).1, (gq ps m).2) by rw [hm, show ((m : Int) + 1).toNat = m + 1 by omega]; rfl)
              obtain ⟨p0, p1, _, _, p4, p5, _, _⟩ := HT.out.cells
              obtain ⟨e7, e8⟩ := e7
              clear hm q1 q2 hcp hml hI0
              rw [d5]
              go_wp2_with fail
              go_meet
              exact ⟨rfl, by rw [HE.out]; exact HT.out.set1 _ _, (HBb.out.setCell (p := ⟨B, 0, none⟩) HBs.out.2.1 _).setCell (p := ⟨B, 1, none⟩) HBs.out.2.1 _⟩
          case rest =>
            obtain ⟨V6, hV6⟩ : ∃ V, V = wc := ⟨_, rfl⟩
            subst hV6
            obtain ⟨rfl, hT2, hb2⟩ := hcut
            have HT2 := Lib.hid hT2
            have HB2 := Lib.hid hb2
            clear hT2 hb2 z0 z1 z2 z3 z4 z5 y1 y2 y3 HT HBb
            obtain ⟨z0, z1, z2, z3, z4, z5⟩ := HZ.out.keep (bt HB1.out HB2.out)
            obtain ⟨y1, y2, y3⟩ := HY.out V6 HB2.out
            go_upto_if 141 with fail
            go_cut [9] (fun s9 wx => s9 = .int .i64 q ∧ Bx2 B (ck ps I.toNat) (ck ps J.toNat) wx ∧ Below V5.heap.size V5 wx)
            case first =>
              by_cases hJ0 : J = 0
              · have d5 : decide (0 < J) = false := by simp; omega
                have HE := Lib.hid (show ck ps J.toNat = (0, 1) by rw [hJ0]; rfl)
                clear hJ0
                rw [d5]
                go_wp2_with fail
                go_meet
                exact ⟨rfl, by rw [HE.out]; exact HT2.out, HB2.out⟩
              · have d5 : decide (0 < J) = true := by have := HKI.out; simp; omega
                obtain ⟨m, hm⟩ : ∃ m : Nat, J = (m : Int) + 1 := ⟨(J - 1).toNat, by have := HKI.out; omega⟩
                have hml : m < ps.length := by have := HKI.out; omega
                obtain ⟨bp, op, rfl, hbp, hcp⟩ := H0p.out (by omega)
                obtain ⟨q1, q2⟩ := hcp m hml
                have c1 := ((bcell (bt HB1.out HB2.out)).1 _ _ hbp).trans q1
                have c2 := ((bcell (bt HB1.out HB2.out)).1 _ _ hbp).trans q2
                have e3 : J - 1 = (m : Int) := by omega
                have e5 : (m : Int) < ps.length := by omega
                have e6 : (0 : Int) ≤ (m : Int) := by omega
                have e7 : 1 ≤ J ∧ J ≤ 9223372036854775807 := by have := HKI.out; have := HL2.out; omega
                have HE := Lib.hid (show ck ps J.toNat = ((gq ps m).1, (gq ps m).2) by rw [hm, show ((m : Int) + 1).toNat = m + 1 by omega]; rfl)
                obtain ⟨_, _, p0, p1, _, _, p4, p5⟩ := HT2.out.cells
                obtain ⟨e7, e8⟩ := e7
                clear hm q1 q2 hcp hml hJ0
                rw [d5]
                go_wp2_with fail
                go_meet
                exact ⟨rfl, by rw [HE.out]; exact HT2.out.set2 _ _, (HB2.out.setCell (p := ⟨B + 1, 0, none⟩) (Nat.le_succ_of_le HBs.out.2.1) _).setCell (p := ⟨B + 1, 1, none⟩) (Nat.le_succ_of_le HBs.out.2.1) _⟩
            case rest =>
              as_aux_lemma =>
                obtain ⟨V7, hV7⟩ : ∃ V, V = wc := ⟨_, rfl⟩
                subst hV7
                obtain ⟨rfl, hT3, hb3⟩ := hcut
                have HB3 := Lib.hid hb3
                have ha := ck_all HPD.out.1 (i := I.toNat) (by have := HKI.out; omega)
                have hb := ck_all HPD.out.1 (i := J.toNat) (by have := HKI.out; omega)
                have hd0 := HPD.out.2 I.toNat J.toNat (by have := HKI.out; omega) (by have := HKI.out; omega)
                have hvr := dif_vr ha hb hd0
                have hkm := Lib.hid (show kmet ps (I, J, L) = (meetR (dif ps I.toNat J.toNat).1.1 (dif ps I.toNat J.toNat).1.2 L).1 from rfl)
                generalize hD : dif ps I.toNat J.toNat = D at *
                obtain ⟨⟨dn, dd⟩, x⟩ := D
                simp only at hd0 hvr
                subst hd0
                have HD := Lib.hid hD
                have HVR := Lib.hid hvr
                obtain ⟨p0, p1, p2, p3, _, _, _, _⟩ := hT3.cells
                clear hT3 hb3 z0 z1 z2 z3 z4 z5 y1 y2 y3 HT2 HB2 ha hb hD hvr
                obtain ⟨z0, z1, z2, z3, z4, z5⟩ := HZ.out.keep (bt HB1.out HB3.out)
                obtain ⟨y1, y2, y3⟩ := HY.out V7 HB3.out
                go_upto_region 18 with (go_at_call 40; (refine (r1_sub _ _ _ _ _).mono ?_); rintro e w3 ⟨he, hb3⟩; (obtain rfl : e = .returned (.tuple #[.agg #[.int .i64 dn, .int .i64 dd], .int .i64 0]) := he.trans (by rw [show subR (ck ps I.toNat).1 (ck ps I.toNat).2 (ck ps J.toNat).1 (ck ps J.toNat).2 = ((dn, dd), 0) from HD.out])))
                have HB4 := Lib.hid (bal (bt HB3.out hb3) (.cells #[.int .i64 dn, .int .i64 dd] 48))
                have hn := heap_alloc_new w3 (.cells #[.int .i64 dn, .int .i64 dd] 48)
                clear p0 p1 p2 p3 z0 z1 z2 z3 z4 z5 y1 y2 y3 hb3
                generalize w3.alloc (.cells #[.int .i64 dn, .int .i64 dd] 48) = V8 at *
                generalize w3.heap.size = b12 at *
                have t0 := cell_of_row _ b12 0 _ _ _ hn
                have t1 := cell_of_row _ b12 1 _ _ _ hn
                obtain ⟨z0, z1, z2, z3, z4, z5⟩ := HZ.out.keep (bt HB1.out HB4.out)
                obtain ⟨y1, y2, y3⟩ := HY.out V8 HB4.out
                have hand := and_one_i64 L
                go_upto_region 20 with fail
                go_quiet (fail)
                have HREL := Lib.hid (fun (b' : Bool) (h : kmet ps (I, J, L) = b') => (⟨fun e => ⟨Hq.out.1, HKs.out (h.trans e)⟩, fun e => h.symm.trans (HKn.out e.2)⟩ : b' = true ↔ (hin = true ∧ KMet ps cs (q + 1))))
                have HBF := Lib.hid (HB4.out)
                clear hand
                by_cases hL : L = 1099511627776
                · have eL : (L == 1099511627776) = true := by simpa using hL
                  have HR := Lib.hid (HREL.out true (by rw [hkm.out, meetR_nl ⟨HVR.out, HL.out⟩ hL]))
                  clear hL
                  go_wp2_with fail
                  go_roundw
                  case rel => exact ⟨q + 1, true, by omega, by go_num, rfl, HR.out, bdn HBF.out _⟩
                  case measure => simp [intOf]; omega
                have eL : (L == 1099511627776) = false := by simpa using hL
                obtain ⟨v1, v2, v3, v4⟩ := vr_bd HVR.out
                have hLb : -2147483647 ≤ L / 2 ∧ L / 2 ≤ 2147483647 := by
                  have := (vld_iff L).1 HL.out
                  omega
                obtain ⟨m1, m2⟩ := mul_bd hLb.1 hLb.2 (show -2147483647 ≤ dd by omega) v2
                have hw : IntKind.i64.wrap (L / 2 * dd) = L / 2 * dd := by rw [IntKind.wrap_i64]; omega
                have HM := Lib.hid (show ∀ h : L % 2 = 0, kmet ps (I, J, L) = decide (dn < L / 2 * dd) from fun h => by rw [hkm.out, meetR_strict ⟨HVR.out, HL.out⟩ hL h])
                have HM2 := Lib.hid (show ∀ h : ¬ L % 2 = 0, kmet ps (I, J, L) = decide (dn ≤ L / 2 * dd) from fun h => by rw [hkm.out, meetR_weak ⟨HVR.out, HL.out⟩ hL h])
                clear hLb v1 v2 v3 v4 hL
                generalize hX : L / 2 * dd = X at *
                by_cases h2 : L % 2 = 0
                · have eS : (L % 2 == 0) = true := by simpa using h2
                  have HV := Lib.hid (HM.out h2)
                  rw [eS]
                  clear h2
                  by_cases h1 : dn < X
                  · have e1 : decide (dn < X) = true := by simpa using h1
                    have HR := Lib.hid (HREL.out true (by rw [HV.out, e1]))
                    clear h1
                    go_wp2_with fail
                    go_roundw
                    case rel => exact ⟨q + 1, true, by omega, by go_num, rfl, HR.out, bdn HBF.out _⟩
                    case measure => simp [intOf]; omega
                  · have e1 : decide (dn < X) = false := by simpa using h1
                    have HR := Lib.hid (HREL.out false (by rw [HV.out, e1]))
                    clear h1
                    go_wp2_with fail
                    go_roundw
                    case rel => exact ⟨q + 1, false, by omega, by go_num, rfl, HR.out, bdn HBF.out _⟩
                    case measure => simp [intOf]; omega
                · have eS : (L % 2 == 0) = false := by simpa using h2
                  have HV := Lib.hid (HM2.out h2)
                  rw [eS]
                  clear h2
                  by_cases h1 : dn < X
                  · have e1 : decide (dn < X) = true := by simpa using h1
                    have HR := Lib.hid (HREL.out true (by rw [HV.out]; simp; omega))
                    clear h1
                    go_wp2_with fail
                    go_roundw
                    case rel => exact ⟨q + 1, true, by omega, by go_num, rfl, HR.out, bdn HBF.out _⟩
                    case measure => simp [intOf]; omega
                  · have e1 : decide (dn < X) = false := by simpa using h1
                    by_cases h3 : dn = X
                    · have e3 : (dn == X) = true := by simpa using h3
                      have HR := Lib.hid (HREL.out true (by rw [HV.out]; simp; omega))
                      clear h1 h3
                      go_wp2_with fail
                      go_roundw
                      case rel => exact ⟨q + 1, true, by omega, by go_num, rfl, HR.out, bdn HBF.out _⟩
                      case measure => simp [intOf]; omega
                    · have e3 : (dn == X) = false := by simpa using h3
                      have HR := Lib.hid (HREL.out false (by rw [HV.out]; simp; omega))
                      clear h1 h3
                      go_wp2_with fail
                      go_roundw
                      case rel => exact ⟨q + 1, false, by omega, by go_num, rfl, HR.out, bdn HBF.out _⟩
                      case measure => simp [intOf]; omega
    case rest =>
      obtain ⟨b, rfl, hb, hbel⟩ := hcut
      have HBr := Lib.hid (bt HB1.out hbel)
      have HF := Lib.hid hb
      have HP2 := Lib.hid (HP1.out.keep hbel)
      clear hb hbel
      rcases HRA.out with h | h
      · have e1 : (RA.1 == 0) = true := by simp [h]
        obtain ⟨bg, hg1, hg2⟩ := HA0.out h
        have Hg1 := Lib.hid hg1
        have hgb : bg = b := by
          have := hg2.trans HF.out.symm
          cases bg <;> cases b <;> simp_all
        subst hgb
        have e2 : (bg == bg) = true := by simp
        obtain ⟨p0, p1, p2, p3⟩ := HP2.out.cells
        obtain rfl : d = (N : Int) := by rw [Hd.out, zdim, if_pos h]
        obtain ⟨z0, z1, z2, z3, z4, z5⟩ := HZ.out.keep HBr.out
        clear h hg1 hg2
        go_wp2_with fail
        refine (HH2.out _ _ _ RA.2 _ HP2.out.rl (Hp.out.keepb HBr.out)).mono ?_
        rw [Hg1.out]
        rintro e w7 ⟨he, hb7⟩
        obtain rfl : e = .returned (.tuple #[.bool bg, .int .i64 0]) := he
        go_wp2_with fail
        refine (law_shown03 _).mono ?_
        rintro e w6 ⟨rfl, hb6⟩
        go_wp2_with fail
        go_ret
        exact ⟨rfl, below_grownBy (Hloc.out.next (grownBy_below (bt (bt HBr.out hb7) hb6) none) (fun _ h => by cases h)).grown⟩
      · have e1 : (RA.1 == 0) = false := by simp [h]
        have hb : b = false := by
          have := HA4.out h
          cases b with
          | false => rfl
          | true => exact absurd (HF.out.1 rfl) this
        subst hb
        clear h
        go_wp2_with fail
        refine (law_shown03 _).mono ?_
        rintro e w6 ⟨rfl, hb6⟩
        go_wp2_with fail
        go_ret
        exact ⟨rfl, below_grownBy (Hloc.out.next (grownBy_below (bt HBr.out hb6) none) (fun _ h => by cases h)).grown⟩
end Go.Proofs.Ytkgaipcgdldfdaa
