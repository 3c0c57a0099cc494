/- The law ZoneSteps answers true for every input, and writes nothing that was there. -/
import Derived.Test.YtkgaipcgdldfdaaLaw3
import Derived.Test.YtkgaipcgdldfdaaStp
import Derived.Test.YtkgaipcgdldfdaaRst2
import Derived.Deep.DeepCutAuto
namespace Go.Proofs.Ytkgaipcgdldfdaa
open Go.RowKit
set_option linter.unusedVariables false

/-- A lent zone in its box. -/
structure One (W X : World) (n : Int) (xs : List Int) (b g c : Nat) : Prop where
  bel : Below W.heap.size W X
  h : X.heap[b]? = some (.cells #[.int .i64 n, .slice (some ⟨g, 0, none⟩) xs.length c] 24 (0, 0))
  o : OL 60 W.heap.size X (.slice (some ⟨g, 0, none⟩) (xs.length + 1) c) (xs ++ [77])
  l : W.heap.size ≤ b
  ne : g ≠ b
theorem One.keep {W X X' : World} {n : Int} {xs : List Int} {b g c : Nat} (h : One W X n xs b g c) (hb : Below X.heap.size X X') : One W X' n xs b g c := ⟨bt h.bel hb, hp_keep h.h hb, OL.keepw h.o hb, h.l, h.ne⟩
theorem One.r {W X : World} {n : Int} {xs : List Int} {b g c : Nat} (h : One W X n xs b g c) : RL X.heap.size X (.slice (some ⟨g, 0, none⟩) xs.length c) xs := (rl_init (n := 0) h.o).1
theorem One.store {W X : World} {n : Int} {xs : List Int} {b g c e : Nat} (h : One W X n xs b g c) (hW : W.heap.size ≤ e) (e1 : b ≠ e) (e2 : g ≠ e) (x y : Value) : One W ((X.setCell ⟨e, 0, none⟩ x).setCell ⟨e, 1, none⟩ y) n xs b g c :=
  ⟨(h.bel.setCell (p := ⟨e, 0, none⟩) hW _).setCell (p := ⟨e, 1, none⟩) hW _, (store2_ne x y e1).trans h.h, h.o.other2 e2 x y, h.l, h.ne⟩
theorem One.cells {W X : World} {n : Int} {xs : List Int} {b g c : Nat} (h : One W X n xs b g c) : X.cell? ⟨b, 0, none⟩ = some (.int .i64 n) ∧ X.cell? ⟨b, 1, none⟩ = some (.slice (some ⟨g, 0, none⟩) xs.length c) :=
  ⟨cell_of_row X b 0 _ _ _ h.h, cell_of_row X b 1 _ _ _ h.h⟩
theorem One.mk' {W X : World} {n : Int} {xs : List Int} {g c : Nat} (ho : OL 60 W.heap.size X (.slice (some ⟨g, 0, none⟩) (xs.length + 1) c) (xs ++ [77])) (hb : Below W.heap.size W X) :
    One W (X.alloc (.cells #[.int .i64 n, .slice (some ⟨g, 0, none⟩) xs.length c] 24)) n xs X.heap.size g c :=
  ⟨bal hb _, heap_alloc_new X _, OL.keepw ho (b1_alloc X _), hb.size, by have := (ol_blk ho).2; omega⟩
/-- The six cells of the case's box. -/
def CaseC (b : Nat) (n i j c : Int) (v k : Value) (X : World) : Prop :=
  X.cell? ⟨b, 0, none⟩ = some (.int .i64 n) ∧ X.cell? ⟨b, 1, none⟩ = some v ∧ X.cell? ⟨b, 2, none⟩ = some (.int .i64 i) ∧ X.cell? ⟨b, 3, none⟩ = some (.int .i64 j) ∧ X.cell? ⟨b, 4, none⟩ = some (.int .i64 c) ∧ X.cell? ⟨b, 5, none⟩ = some k
theorem CaseC.keep {b : Nat} {n i j c : Int} {v k : Value} {W X : World} (h : CaseC b n i j c v k W) (hb : Below W.heap.size W X) : CaseC b n i j c v k X :=
  ⟨keepb h.1 hb, keepb h.2.1 hb, keepb h.2.2.1 hb, keepb h.2.2.2.1 hb, keepb h.2.2.2.2.1 hb, keepb h.2.2.2.2.2 hb⟩

set_option maxRecDepth 100000 in
set_option maxHeartbeats 8000000 in
theorem law_zone_steps (n i j c : Int) (v k : Value) (xs : List Int) (cs : List (Int × Int × Int)) (w : World) (hv : RL w.heap.size w v xs) (hk : RK w.heap.size w k cs) :
    Calls Try.prog 9 #[.agg #[.int .i64 n, v, .int .i64 i, .int .i64 j, .int .i64 c, k]] w fun e w' => e = .returned (.bool true) ∧ Below w.heap.size w w' := by
  obtain ⟨ao, cap, rfl, hle, _⟩ := hv.open
  obtain ⟨aok, capk, rfl, hlek, _⟩ := hk.open
  have hloc := Loc.one w (.cells #[.int .i64 n, .slice ao xs.length cap, .int .i64 i, .int .i64 j, .int .i64 c, .slice aok cs.length capk] 58) none
  have Hv := Lib.hid (hv.keepb (below_grownBy hloc.grown))
  have Hk := Lib.hid (hk.keepb (below_grownBy hloc.grown))
  clear hv hk
  by_cases hb : 200 < xs.length
  · have htb : decide ((200 : Int) < (xs.length : Int)) = true := by simp; omega
    go_enter Try.func9, Try.ntmps9
    go_wp2_with fail
    refine (law_shown03 _).mono ?_
    rintro e w1 ⟨rfl, hb1⟩
    go_wp2_with fail
    go_ret
    exact ⟨rfl, below_grownBy (hloc.next (grownBy_below hb1 none) (fun _ h => by cases h)).grown⟩
  have htb : decide ((200 : Int) < (xs.length : Int)) = false := by simp; omega
  by_cases hb2 : 100 < cs.length
  · have htb2 : decide ((100 : Int) < (cs.length : Int)) = true := by simp; omega
    go_enter Try.func9, Try.ntmps9
    go_wp2_with fail
    refine (law_shown03 _).mono ?_
    rintro e w1 ⟨rfl, hb1⟩
    go_wp2_with fail
    go_ret
    exact ⟨rfl, below_grownBy (hloc.next (grownBy_below hb1 none) (fun _ h => by cases h)).grown⟩
  have htb2 : decide ((100 : Int) < (cs.length : Int)) = false := by simp; omega
  have Hl := Lib.hid (show xs.length ≤ 200 by omega)
  go_enter Try.func9, Try.ntmps9
  go_upto_region 3 with fail
  have hz0 := hloc.cell 0 rfl 0
  have hz1 := hloc.cell 0 rfl 1
  have hz2 := hloc.cell 0 rfl 2
  have hz3 := hloc.cell 0 rfl 3
  have hz4 := hloc.cell 0 rfl 4
  have hz5 := hloc.cell 0 rfl 5
  generalize hW : World.alloc _ (Obj.cells _ 58) = W at *
  have HZ := Lib.hid (show CaseC w.heap.size n i j c (.slice ao xs.length cap) (.slice aok cs.length capk) W from ⟨hz0, hz1, hz2, hz3, hz4, hz5⟩)
  have Hloc := Lib.hid hloc
  clear hz0 hz1 hz2 hz3 hz4 hz5 hW hloc htb htb2 hb hb2
  have HA1 := Lib.hid (fun v k w hv hk => prog_and n v k xs cs w hv hk)
  have HA2 := Lib.hid (fun v k w hv hk => ref_and n v k xs cs w hv hk)
  have HB1 := Lib.hid (fun v w hv => prog_up n v xs w hv)
  have HB2 := Lib.hid (fun v w hv => ref_up n v xs w hv)
  have HC1 := Lib.hid (fun v w hv => prog_down n v xs w hv)
  have HC2 := Lib.hid (fun v w hv => ref_down n v xs w hv)
  have HD1 := Lib.hid (fun v w hv => prog_reset n i c v xs w hv)
  have hD2 := fun v w hv => ref_reset n i c v xs w hv
  rw [← reset_eq] at hD2
  have HE1 := Lib.hid (fun v w hv => prog_zfree n i v xs w hv)
  have hE2 := fun v w hv => ref_free n i v xs w hv
  rw [← free_eq] at hE2
  have HF1 := Lib.hid (fun v w hv => prog_before n i c v xs w hv)
  have hF2 := fun v w hv => ref_before n i c v xs w hv
  rw [← before_eq] at hF2
  have HG1 := Lib.hid (fun v w hv => prog_copy n i j v xs w hv)
  have hG2 := fun v w hv => ref_copy n i j v xs w hv
  rw [← copy_eq] at hG2
  have HD2 := Lib.hid hD2
  have HE2 := Lib.hid hE2
  have HF2 := Lib.hid hF2
  have HG2 := Lib.hid hG2
  clear hD2 hE2 hF2 hG2
  generalize andF n xs cs = RA at HA1 HA2
  generalize upF n xs = RB at HB1 HB2
  generalize downF n xs = RC at HC1 HC2
  generalize resetF n xs i c = RD at HD1 HD2
  generalize freeF n xs i = RE at HE1 HE2
  generalize befF n xs i c = RF at HF1 HF2
  generalize copyF n xs i j = RG at HG1 HG2
  obtain ⟨dA, hdA⟩ : ∃ d, d = zdim RA n := ⟨_, rfl⟩
  have HdA := Lib.hid hdA
  clear hdA
  obtain ⟨dB, hdB⟩ : ∃ d, d = zdim RB n := ⟨_, rfl⟩
  have HdB := Lib.hid hdB
  clear hdB
  obtain ⟨dC, hdC⟩ : ∃ d, d = zdim RC n := ⟨_, rfl⟩
  have HdC := Lib.hid hdC
  clear hdC
  obtain ⟨dD, hdD⟩ : ∃ d, d = zdim RD n := ⟨_, rfl⟩
  have HdD := Lib.hid hdD
  clear hdD
  obtain ⟨dE, hdE⟩ : ∃ d, d = zdim RE n := ⟨_, rfl⟩
  have HdE := Lib.hid hdE
  clear hdE
  obtain ⟨dF, hdF⟩ : ∃ d, d = zdim RF n := ⟨_, rfl⟩
  have HdF := Lib.hid hdF
  clear hdF
  obtain ⟨dG, hdG⟩ : ∃ d, d = zdim RG n := ⟨_, rfl⟩
  have HdG := Lib.hid hdG
  clear hdG
  obtain ⟨z0, z1, z2, z3, z4, z5⟩ := HZ.out
  go_wp2_with fail
  refine (law_lent n _ xs W Hv.out Hl.out).mono ?_
  rintro e w3 ⟨g, cg, rfl, ho3, hb3⟩
  have HL0 := Lib.hid (One.mk' (n := n) ho3 hb3)
  clear ho3 hb3 z0 z1 z2 z3 z4 z5
  go_upto_region 4 with fail
  generalize w3.alloc (.cells #[.int .i64 n, .slice (some ⟨g, 0, none⟩) xs.length cg] 24) = W0 at *
  generalize w3.heap.size = b3 at *
  obtain ⟨a0, a1⟩ := HL0.out.cells
  obtain ⟨z0, z1, z2, z3, z4, z5⟩ := HZ.out.keep HL0.out.bel
  go_wp2_with fail
  refine (HA1.out _ _ W0 HL0.out.r (Hk.out.keepb HL0.out.bel)).mono ?_
  rintro e w4 ⟨⟨v4, rfl, ho4⟩, hb4⟩
  rw [← HdA.out]
  obtain ⟨ao4, c4, rfl⟩ := owns_form ho4
  have HL1 := Lib.hid (HL0.out.keep (bal hb4 (.cells #[.int .i64 dA, .slice ao4 RA.2.length c4] 24)))
  have HP := Lib.hid (Zb.new (d := dA) ho4)
  have P1 := Lib.hid (show b3 < w4.heap.size ∧ g < w4.heap.size ∧ W.heap.size ≤ w4.heap.size from ⟨Nat.lt_of_lt_of_le (hp_lt HL0.out.h) hb4.size, Nat.lt_of_lt_of_le (ol_blk HL0.out.o).2 hb4.size, Nat.le_trans HL0.out.bel.size hb4.size⟩)
  clear a0 a1 z0 z1 z2 z3 z4 z5 HL0 ho4 hb4
  go_upto_region 5 with fail
  generalize w4.alloc (.cells #[.int .i64 dA, .slice ao4 RA.2.length c4] 24) = W1 at *
  generalize w4.heap.size = b4 at *
  obtain ⟨z0, z1, z2, z3, z4, z5⟩ := HZ.out.keep HL1.out.bel
  go_wp2_with fail
  refine (HA2.out _ _ W1 (Hv.out.keepb HL1.out.bel) (Hk.out.keepb HL1.out.bel)).mono ?_
  rintro e w5 ⟨⟨v5, rfl, ho5⟩, hb5⟩
  rw [← HdA.out]
  obtain ⟨ao5, c5, rfl⟩ := owns_form ho5
  have HL2 := Lib.hid (HL1.out.keep (bal hb5 (.cells #[.int .i64 dA, .slice ao5 RA.2.length c5] 24)))
  have HP2 := Lib.hid (HP.out.keep (bal hb5 (.cells #[.int .i64 dA, .slice ao5 RA.2.length c5] 24)))
  have HQ2 := Lib.hid (Zb.new (d := dA) ho5)
  have P2 := Lib.hid (show b4 < W1.heap.size ∧ b4 < w5.heap.size from ⟨hp_lt HP.out.h, Nat.lt_of_lt_of_le (hp_lt HP.out.h) hb5.size⟩)
  clear z0 z1 z2 z3 z4 z5 HL1 HP ho5 hb5
  go_upto_region 6 with fail
  generalize hBP : W1.heap.size = BP at *
  clear hBP
  generalize w5.alloc (.cells #[.int .i64 dA, .slice ao5 RA.2.length c5] 24) = W2 at *
  generalize w5.heap.size = b6 at *
  obtain ⟨p0, p1, p2, p3⟩ := HP2.out.cells
  obtain ⟨q0, q1, q2, q3⟩ := HQ2.out.cells
  go_wp2_with fail
  refine (law_same03 dA RA.1 _ _ RA.2 W2 HP2.out.rl HQ2.out.rl).mono ?_
  rintro e w6 ⟨rfl, hb6⟩
  have HL := Lib.hid (HL2.out.keep hb6)
  have HP := Lib.hid (HP2.out.keep hb6)
  have HQ := Lib.hid (HQ2.out.keep hb6)
  clear p0 p1 p2 p3 q0 q1 q2 q3 HL2 HP2 HQ2 hb6
  obtain ⟨a0, a1⟩ := HL.out.cells
  obtain ⟨z0, z1, z2, z3, z4, z5⟩ := HZ.out.keep HL.out.bel
  go_wp2_with fail
  refine (HB1.out _ _ HL.out.r).mono ?_
  rintro e wmB ⟨⟨vmB, rfl, hom⟩, hbm⟩
  rw [← HdB.out]
  obtain ⟨aomB, cmB, rfl⟩ := owns_form hom
  have HLn := Lib.hid ((HL.out.keep hbm).store (e := b4) (by have := P1.out; omega) (by have := P1.out; omega) (by have := P1.out; omega) (.int .i64 dB) (.slice aomB RB.2.length cmB))
  have HPn := Lib.hid ((HP.out.keep hbm).store (d' := dB) hom (hp_lt HP.out.h))
  have HQn := Lib.hid ((HQ.out.keep hbm).other (e := b4) (by have := P2.out; omega) (by have := P2.out; omega) (.int .i64 dB) (.slice aomB RB.2.length cmB))
  have P3B := Lib.hid (hp_lt HQ.out.h)
  obtain ⟨p0, p1, p2, p3⟩ := (HP.out.keep hbm).cells
  clear a0 a1 z0 z1 z2 z3 z4 z5 HL HP HQ hom hbm
  go_upto_region 9 with fail
  clear p0 p1 p2 p3
  generalize (wmB.setCell ⟨b4, 0, none⟩ (.int .i64 dB)).setCell ⟨b4, 1, none⟩ (.slice aomB RB.2.length cmB) = WmB at *
  have z00 := HZ.out.keep HLn.out.bel
  obtain ⟨z0, z1, z2, z3, z4, z5⟩ := z00
  go_wp2_with fail
  refine (HB2.out _ _ (Hv.out.keepb HLn.out.bel)).mono ?_
  rintro e wnB ⟨⟨vnB, rfl, hom⟩, hbm⟩
  rw [← HdB.out]
  obtain ⟨aonB, cnB, rfl⟩ := owns_form hom
  have HLo := Lib.hid ((HLn.out.keep hbm).store (e := b6) (by have := P1.out; have := P2.out; omega) (by have := P1.out; have := P2.out; omega) (by have := P1.out; have := P2.out; omega) (.int .i64 dB) (.slice aonB RB.2.length cnB))
  have HPo := Lib.hid ((HPn.out.keep hbm).other (e := b6) (by have := P2.out; omega) P3B.out (.int .i64 dB) (.slice aonB RB.2.length cnB))
  have HQo := Lib.hid ((HQn.out.keep hbm).store (d' := dB) hom (hp_lt HQn.out.h))
  have P2' := Lib.hid (show b4 < b6 ∧ b4 < _ from ⟨P2.out.2, hp_lt HPn.out.h⟩)
  obtain ⟨q0, q1, q2, q3⟩ := (HQn.out.keep hbm).cells
  clear z0 z1 z2 z3 z4 z5 HLn HPn HQn hom hbm P2
  go_upto_region 10 with fail
  clear q0 q1 q2 q3
  generalize (wnB.setCell ⟨b6, 0, none⟩ (.int .i64 dB)).setCell ⟨b6, 1, none⟩ (.slice aonB RB.2.length cnB) = WnB at *
  have P2 := Lib.hid (show b4 < WmB.heap.size ∧ b4 < b6 from ⟨P2'.out.2, P2'.out.1⟩)
  clear P2'
  obtain ⟨p0, p1, p2, p3⟩ := HPo.out.cells
  obtain ⟨q0, q1, q2, q3⟩ := HQo.out.cells
  go_wp2_with fail
  refine (law_same03 dB RB.1 _ _ RB.2 WnB HPo.out.rl HQo.out.rl).mono ?_
  rintro e wsB ⟨rfl, hb6⟩
  have HL := Lib.hid (HLo.out.keep hb6)
  have HP := Lib.hid (HPo.out.keep hb6)
  have HQ := Lib.hid (HQo.out.keep hb6)
  clear p0 p1 p2 p3 q0 q1 q2 q3 HLo HPo HQo hb6
  obtain ⟨a0, a1⟩ := HL.out.cells
  obtain ⟨z0, z1, z2, z3, z4, z5⟩ := HZ.out.keep HL.out.bel
  go_wp2_with fail
  refine (HC1.out _ _ HL.out.r).mono ?_
  rintro e wmC ⟨⟨vmC, rfl, hom⟩, hbm⟩
  rw [← HdC.out]
  obtain ⟨aomC, cmC, rfl⟩ := owns_form hom
  have HLn := Lib.hid ((HL.out.keep hbm).store (e := b4) (by have := P1.out; omega) (by have := P1.out; omega) (by have := P1.out; omega) (.int .i64 dC) (.slice aomC RC.2.length cmC))
  have HPn := Lib.hid ((HP.out.keep hbm).store (d' := dC) hom (hp_lt HP.out.h))
  have HQn := Lib.hid ((HQ.out.keep hbm).other (e := b4) (by have := P2.out; omega) (by have := P2.out; omega) (.int .i64 dC) (.slice aomC RC.2.length cmC))
  have P3C := Lib.hid (hp_lt HQ.out.h)
  obtain ⟨p0, p1, p2, p3⟩ := (HP.out.keep hbm).cells
  clear a0 a1 z0 z1 z2 z3 z4 z5 HL HP HQ hom hbm
  go_upto_region 13 with fail
  clear p0 p1 p2 p3
  generalize (wmC.setCell ⟨b4, 0, none⟩ (.int .i64 dC)).setCell ⟨b4, 1, none⟩ (.slice aomC RC.2.length cmC) = WmC at *
  have z00 := HZ.out.keep HLn.out.bel
  obtain ⟨z0, z1, z2, z3, z4, z5⟩ := z00
  go_wp2_with fail
  refine (HC2.out _ _ (Hv.out.keepb HLn.out.bel)).mono ?_
  rintro e wnC ⟨⟨vnC, rfl, hom⟩, hbm⟩
  rw [← HdC.out]
  obtain ⟨aonC, cnC, rfl⟩ := owns_form hom
  have HLo := Lib.hid ((HLn.out.keep hbm).store (e := b6) (by have := P1.out; have := P2.out; omega) (by have := P1.out; have := P2.out; omega) (by have := P1.out; have := P2.out; omega) (.int .i64 dC) (.slice aonC RC.2.length cnC))
  have HPo := Lib.hid ((HPn.out.keep hbm).other (e := b6) (by have := P2.out; omega) P3C.out (.int .i64 dC) (.slice aonC RC.2.length cnC))
  have HQo := Lib.hid ((HQn.out.keep hbm).store (d' := dC) hom (hp_lt HQn.out.h))
  have P2' := Lib.hid (show b4 < b6 ∧ b4 < _ from ⟨P2.out.2, hp_lt HPn.out.h⟩)
  obtain ⟨q0, q1, q2, q3⟩ := (HQn.out.keep hbm).cells
  clear z0 z1 z2 z3 z4 z5 HLn HPn HQn hom hbm P2
  go_upto_region 14 with fail
  clear q0 q1 q2 q3
  generalize (wnC.setCell ⟨b6, 0, none⟩ (.int .i64 dC)).setCell ⟨b6, 1, none⟩ (.slice aonC RC.2.length cnC) = WnC at *
  have P2 := Lib.hid (show b4 < WmC.heap.size ∧ b4 < b6 from ⟨P2'.out.2, P2'.out.1⟩)
  clear P2'
  obtain ⟨p0, p1, p2, p3⟩ := HPo.out.cells
  obtain ⟨q0, q1, q2, q3⟩ := HQo.out.cells
  go_wp2_with fail
  refine (law_same03 dC RC.1 _ _ RC.2 WnC HPo.out.rl HQo.out.rl).mono ?_
  rintro e wsC ⟨rfl, hb6⟩
  have HL := Lib.hid (HLo.out.keep hb6)
  have HP := Lib.hid (HPo.out.keep hb6)
  have HQ := Lib.hid (HQo.out.keep hb6)
  clear p0 p1 p2 p3 q0 q1 q2 q3 HLo HPo HQo hb6
  obtain ⟨a0, a1⟩ := HL.out.cells
  obtain ⟨z0, z1, z2, z3, z4, z5⟩ := HZ.out.keep HL.out.bel
  go_wp2_with fail
  refine (HD1.out _ _ HL.out.r).mono ?_
  rintro e wmD ⟨⟨vmD, rfl, hom⟩, hbm⟩
  rw [← HdD.out]
  obtain ⟨aomD, cmD, rfl⟩ := owns_form hom
  have HLn := Lib.hid ((HL.out.keep hbm).store (e := b4) (by have := P1.out; omega) (by have := P1.out; omega) (by have := P1.out; omega) (.int .i64 dD) (.slice aomD RD.2.length cmD))
  have HPn := Lib.hid ((HP.out.keep hbm).store (d' := dD) hom (hp_lt HP.out.h))
  have HQn := Lib.hid ((HQ.out.keep hbm).other (e := b4) (by have := P2.out; omega) (by have := P2.out; omega) (.int .i64 dD) (.slice aomD RD.2.length cmD))
  have P3D := Lib.hid (hp_lt HQ.out.h)
  obtain ⟨p0, p1, p2, p3⟩ := (HP.out.keep hbm).cells
  clear a0 a1 z0 z1 z2 z3 z4 z5 HL HP HQ hom hbm
  go_upto_region 17 with fail
  clear p0 p1 p2 p3
  generalize (wmD.setCell ⟨b4, 0, none⟩ (.int .i64 dD)).setCell ⟨b4, 1, none⟩ (.slice aomD RD.2.length cmD) = WmD at *
  have z00 := HZ.out.keep HLn.out.bel
  obtain ⟨z0, z1, z2, z3, z4, z5⟩ := z00
  go_wp2_with fail
  refine (HD2.out _ _ (Hv.out.keepb HLn.out.bel)).mono ?_
  rintro e wnD ⟨⟨vnD, rfl, hom⟩, hbm⟩
  rw [← HdD.out]
  obtain ⟨aonD, cnD, rfl⟩ := owns_form hom
  have HLo := Lib.hid ((HLn.out.keep hbm).store (e := b6) (by have := P1.out; have := P2.out; omega) (by have := P1.out; have := P2.out; omega) (by have := P1.out; have := P2.out; omega) (.int .i64 dD) (.slice aonD RD.2.length cnD))
  have HPo := Lib.hid ((HPn.out.keep hbm).other (e := b6) (by have := P2.out; omega) P3D.out (.int .i64 dD) (.slice aonD RD.2.length cnD))
  have HQo := Lib.hid ((HQn.out.keep hbm).store (d' := dD) hom (hp_lt HQn.out.h))
  have P2' := Lib.hid (show b4 < b6 ∧ b4 < _ from ⟨P2.out.2, hp_lt HPn.out.h⟩)
  obtain ⟨q0, q1, q2, q3⟩ := (HQn.out.keep hbm).cells
  clear z0 z1 z2 z3 z4 z5 HLn HPn HQn hom hbm P2
  go_upto_region 18 with fail
  clear q0 q1 q2 q3
  generalize (wnD.setCell ⟨b6, 0, none⟩ (.int .i64 dD)).setCell ⟨b6, 1, none⟩ (.slice aonD RD.2.length cnD) = WnD at *
  have P2 := Lib.hid (show b4 < WmD.heap.size ∧ b4 < b6 from ⟨P2'.out.2, P2'.out.1⟩)
  clear P2'
  obtain ⟨p0, p1, p2, p3⟩ := HPo.out.cells
  obtain ⟨q0, q1, q2, q3⟩ := HQo.out.cells
  go_wp2_with fail
  refine (law_same03 dD RD.1 _ _ RD.2 WnD HPo.out.rl HQo.out.rl).mono ?_
  rintro e wsD ⟨rfl, hb6⟩
  have HL := Lib.hid (HLo.out.keep hb6)
  have HP := Lib.hid (HPo.out.keep hb6)
  have HQ := Lib.hid (HQo.out.keep hb6)
  clear p0 p1 p2 p3 q0 q1 q2 q3 HLo HPo HQo hb6
  obtain ⟨a0, a1⟩ := HL.out.cells
  obtain ⟨z0, z1, z2, z3, z4, z5⟩ := HZ.out.keep HL.out.bel
  go_wp2_with fail
  refine (HE1.out _ _ HL.out.r).mono ?_
  rintro e wmE ⟨⟨vmE, rfl, hom⟩, hbm⟩
  rw [← HdE.out]
  obtain ⟨aomE, cmE, rfl⟩ := owns_form hom
  have HLn := Lib.hid ((HL.out.keep hbm).store (e := b4) (by have := P1.out; omega) (by have := P1.out; omega) (by have := P1.out; omega) (.int .i64 dE) (.slice aomE RE.2.length cmE))
  have HPn := Lib.hid ((HP.out.keep hbm).store (d' := dE) hom (hp_lt HP.out.h))
  have HQn := Lib.hid ((HQ.out.keep hbm).other (e := b4) (by have := P2.out; omega) (by have := P2.out; omega) (.int .i64 dE) (.slice aomE RE.2.length cmE))
  have P3E := Lib.hid (hp_lt HQ.out.h)
  obtain ⟨p0, p1, p2, p3⟩ := (HP.out.keep hbm).cells
  clear a0 a1 z0 z1 z2 z3 z4 z5 HL HP HQ hom hbm
  go_upto_region 21 with fail
  clear p0 p1 p2 p3
  generalize (wmE.setCell ⟨b4, 0, none⟩ (.int .i64 dE)).setCell ⟨b4, 1, none⟩ (.slice aomE RE.2.length cmE) = WmE at *
  have z00 := HZ.out.keep HLn.out.bel
  obtain ⟨z0, z1, z2, z3, z4, z5⟩ := z00
  go_wp2_with fail
  refine (HE2.out _ _ (Hv.out.keepb HLn.out.bel)).mono ?_
  rintro e wnE ⟨⟨vnE, rfl, hom⟩, hbm⟩
  rw [← HdE.out]
  obtain ⟨aonE, cnE, rfl⟩ := owns_form hom
  have HLo := Lib.hid ((HLn.out.keep hbm).store (e := b6) (by have := P1.out; have := P2.out; omega) (by have := P1.out; have := P2.out; omega) (by have := P1.out; have := P2.out; omega) (.int .i64 dE) (.slice aonE RE.2.length cnE))
  have HPo := Lib.hid ((HPn.out.keep hbm).other (e := b6) (by have := P2.out; omega) P3E.out (.int .i64 dE) (.slice aonE RE.2.length cnE))
  have HQo := Lib.hid ((HQn.out.keep hbm).store (d' := dE) hom (hp_lt HQn.out.h))
  have P2' := Lib.hid (show b4 < b6 ∧ b4 < _ from ⟨P2.out.2, hp_lt HPn.out.h⟩)
  obtain ⟨q0, q1, q2, q3⟩ := (HQn.out.keep hbm).cells
  clear z0 z1 z2 z3 z4 z5 HLn HPn HQn hom hbm P2
  go_upto_region 22 with fail
  clear q0 q1 q2 q3
  generalize (wnE.setCell ⟨b6, 0, none⟩ (.int .i64 dE)).setCell ⟨b6, 1, none⟩ (.slice aonE RE.2.length cnE) = WnE at *
  have P2 := Lib.hid (show b4 < WmE.heap.size ∧ b4 < b6 from ⟨P2'.out.2, P2'.out.1⟩)
  clear P2'
  obtain ⟨p0, p1, p2, p3⟩ := HPo.out.cells
  obtain ⟨q0, q1, q2, q3⟩ := HQo.out.cells
  go_wp2_with fail
  refine (law_same03 dE RE.1 _ _ RE.2 WnE HPo.out.rl HQo.out.rl).mono ?_
  rintro e wsE ⟨rfl, hb6⟩
  have HL := Lib.hid (HLo.out.keep hb6)
  have HP := Lib.hid (HPo.out.keep hb6)
  have HQ := Lib.hid (HQo.out.keep hb6)
  clear p0 p1 p2 p3 q0 q1 q2 q3 HLo HPo HQo hb6
  obtain ⟨a0, a1⟩ := HL.out.cells
  obtain ⟨z0, z1, z2, z3, z4, z5⟩ := HZ.out.keep HL.out.bel
  go_wp2_with fail
  refine (HF1.out _ _ HL.out.r).mono ?_
  rintro e wmF ⟨⟨vmF, rfl, hom⟩, hbm⟩
  rw [← HdF.out]
  obtain ⟨aomF, cmF, rfl⟩ := owns_form hom
  have HLn := Lib.hid ((HL.out.keep hbm).store (e := b4) (by have := P1.out; omega) (by have := P1.out; omega) (by have := P1.out; omega) (.int .i64 dF) (.slice aomF RF.2.length cmF))
  have HPn := Lib.hid ((HP.out.keep hbm).store (d' := dF) hom (hp_lt HP.out.h))
  have HQn := Lib.hid ((HQ.out.keep hbm).other (e := b4) (by have := P2.out; omega) (by have := P2.out; omega) (.int .i64 dF) (.slice aomF RF.2.length cmF))
  have P3F := Lib.hid (hp_lt HQ.out.h)
  obtain ⟨p0, p1, p2, p3⟩ := (HP.out.keep hbm).cells
  clear a0 a1 z0 z1 z2 z3 z4 z5 HL HP HQ hom hbm
  go_upto_region 25 with fail
  clear p0 p1 p2 p3
  generalize (wmF.setCell ⟨b4, 0, none⟩ (.int .i64 dF)).setCell ⟨b4, 1, none⟩ (.slice aomF RF.2.length cmF) = WmF at *
  have z00 := HZ.out.keep HLn.out.bel
  obtain ⟨z0, z1, z2, z3, z4, z5⟩ := z00
  go_wp2_with fail
  refine (HF2.out _ _ (Hv.out.keepb HLn.out.bel)).mono ?_
  rintro e wnF ⟨⟨vnF, rfl, hom⟩, hbm⟩
  rw [← HdF.out]
  obtain ⟨aonF, cnF, rfl⟩ := owns_form hom
  have HLo := Lib.hid ((HLn.out.keep hbm).store (e := b6) (by have := P1.out; have := P2.out; omega) (by have := P1.out; have := P2.out; omega) (by have := P1.out; have := P2.out; omega) (.int .i64 dF) (.slice aonF RF.2.length cnF))
  have HPo := Lib.hid ((HPn.out.keep hbm).other (e := b6) (by have := P2.out; omega) P3F.out (.int .i64 dF) (.slice aonF RF.2.length cnF))
  have HQo := Lib.hid ((HQn.out.keep hbm).store (d' := dF) hom (hp_lt HQn.out.h))
  have P2' := Lib.hid (show b4 < b6 ∧ b4 < _ from ⟨P2.out.2, hp_lt HPn.out.h⟩)
  obtain ⟨q0, q1, q2, q3⟩ := (HQn.out.keep hbm).cells
  clear z0 z1 z2 z3 z4 z5 HLn HPn HQn hom hbm P2
  go_upto_region 26 with fail
  clear q0 q1 q2 q3
  generalize (wnF.setCell ⟨b6, 0, none⟩ (.int .i64 dF)).setCell ⟨b6, 1, none⟩ (.slice aonF RF.2.length cnF) = WnF at *
  have P2 := Lib.hid (show b4 < WmF.heap.size ∧ b4 < b6 from ⟨P2'.out.2, P2'.out.1⟩)
  clear P2'
  obtain ⟨p0, p1, p2, p3⟩ := HPo.out.cells
  obtain ⟨q0, q1, q2, q3⟩ := HQo.out.cells
  go_wp2_with fail
  refine (law_same03 dF RF.1 _ _ RF.2 WnF HPo.out.rl HQo.out.rl).mono ?_
  rintro e wsF ⟨rfl, hb6⟩
  have HL := Lib.hid (HLo.out.keep hb6)
  have HP := Lib.hid (HPo.out.keep hb6)
  have HQ := Lib.hid (HQo.out.keep hb6)
  clear p0 p1 p2 p3 q0 q1 q2 q3 HLo HPo HQo hb6
  obtain ⟨a0, a1⟩ := HL.out.cells
  obtain ⟨z0, z1, z2, z3, z4, z5⟩ := HZ.out.keep HL.out.bel
  go_wp2_with fail
  refine (HG1.out _ _ HL.out.r).mono ?_
  rintro e wmG ⟨⟨vmG, rfl, hom⟩, hbm⟩
  rw [← HdG.out]
  obtain ⟨aomG, cmG, rfl⟩ := owns_form hom
  have HLn := Lib.hid ((HL.out.keep hbm).store (e := b4) (by have := P1.out; omega) (by have := P1.out; omega) (by have := P1.out; omega) (.int .i64 dG) (.slice aomG RG.2.length cmG))
  have HPn := Lib.hid ((HP.out.keep hbm).store (d' := dG) hom (hp_lt HP.out.h))
  have HQn := Lib.hid ((HQ.out.keep hbm).other (e := b4) (by have := P2.out; omega) (by have := P2.out; omega) (.int .i64 dG) (.slice aomG RG.2.length cmG))
  have P3G := Lib.hid (hp_lt HQ.out.h)
  obtain ⟨p0, p1, p2, p3⟩ := (HP.out.keep hbm).cells
  clear a0 a1 z0 z1 z2 z3 z4 z5 HL HP HQ hom hbm
  go_upto_region 29 with fail
  clear p0 p1 p2 p3
  generalize (wmG.setCell ⟨b4, 0, none⟩ (.int .i64 dG)).setCell ⟨b4, 1, none⟩ (.slice aomG RG.2.length cmG) = WmG at *
  obtain ⟨a0, a1⟩ := HLn.out.cells
  obtain ⟨z0, z1, z2, z3, z4, z5⟩ := HZ.out.keep HLn.out.bel
  go_wp2_with fail
  refine (law_kept n g cg _ xs _ HLn.out.r (Hv.out.keepb HLn.out.bel) (rl_init (n := 0) HLn.out.o).2.1 (rl_init (n := 0) HLn.out.o).2.2.1 (rl_init (n := 0) HLn.out.o).2.2.2 Hl.out).mono ?_
  rintro e w9 ⟨rfl, hb9⟩
  have HL9 := Lib.hid (HLn.out.keep hb9)
  have HP9 := Lib.hid (HPn.out.keep hb9)
  have HQ9 := Lib.hid (HQn.out.keep hb9)
  clear a0 a1 z0 z1 z2 z3 z4 z5 HLn HPn HQn hb9
  have Hg0 := Lib.hid (show w9.grownBy w9 (some g) from grownBy_below (Below.refl _ _) _)
  have P5 := Lib.hid (show g < b4 ∧ b4 < b6 ∧ b4 < WmF.heap.size ∧ b6 < wsF.heap.size from ⟨P1.out.2.1, P2.out.2, P2.out.1, P3G.out⟩)
  go_wp2_with fail
  go_loopw [8] (fun i wr => ∃ q : Nat, q ≤ xs.length ∧ i = .int .i64 q ∧ (∃ zs, zs.length = xs.length + 1 ∧ OL 60 W.heap.size wr (.slice (some ⟨g, 0, none⟩) (xs.length + 1) cg) zs) ∧ w9.grownBy wr (some g)) (fun i _ => xs.length - (intOf i).toNat)
  case atStart => exact ⟨0, by omega, rfl, ⟨_, by simp, HL9.out.o⟩, Hg0.out⟩
  case round =>
    obtain ⟨q, hq, rfl, ⟨zs, hz, ho⟩, hg⟩ := hrel
    have h5 := hp_grown HL9.out.h hg (fun e => HL9.out.ne e.symm)
    have a1 := cell_of_row wr b3 1 _ _ _ h5
    clear h5
    by_cases hlt : q < xs.length
    · have htd : decide ((q : Int) < (xs.length : Int)) = true := by simp; omega
      obtain ⟨x1, x2⟩ := ol_cell ho (k := q) (by omega)
      have hq0 : (0 : Int) ≤ (q : Int) := by omega
      have hq1 : (q : Int) < (xs.length : Int) := by omega
      have Hst := Lib.hid (ho.stored hz.symm q 99)
      have Hg := Lib.hid hg
      have Hz := Lib.hid hz
      clear ho hg hz
      go_wp2_with fail
      go_roundw
      case rel => exact ⟨q + 1, by omega, by go_num, ⟨_, by rw [List.length_set]; exact Hz.out, Hst.out.1⟩, grownBy_trans Hg.out Hst.out.2⟩
      case measure => simp [intOf]; omega
    · have htd : decide ((q : Int) < (xs.length : Int)) = false := by simp; omega
      have HPa := Lib.hid (HP9.out.keepg hg (by have := P5.out; omega) (by have := P5.out; omega))
      have HQa := Lib.hid (HQ9.out.keepg hg (by have := P5.out; omega) (by have := P5.out; omega))
      have HBa := Lib.hid (show Below W.heap.size W wr from HL9.out.bel.grown hg HL9.out.bel.size (fun k hk => by simp at hk; subst hk; exact (ol_blk HL9.out.o).1))
      clear ho hg hz HL9 HP9 HQ9
      obtain ⟨z0, z1, z2, z3, z4, z5⟩ := HZ.out.keep HBa.out
      go_wp2_with fail
      refine (HG2.out _ wr (Hv.out.keepb HBa.out)).mono ?_
      rintro e wd ⟨⟨vd, rfl, hod⟩, hbd⟩
      rw [← HdG.out]
      obtain ⟨aod, cd, rfl⟩ := owns_form hod
      have HPd := Lib.hid ((HPa.out.keep hbd).other (e := b6) (by have := P5.out; omega) (by have := P5.out; omega) (.int .i64 dG) (.slice aod RG.2.length cd))
      have HQd := Lib.hid ((HQa.out.keep hbd).store (d' := dG) hod (hp_lt HQa.out.h))
      have HBd := Lib.hid (((bt HBa.out hbd).setCell (p := ⟨b6, 0, none⟩) (by have := P1.out; have := P5.out; show _ ≤ b6; omega) (.int .i64 dG)).setCell (p := ⟨b6, 1, none⟩) (by have := P1.out; have := P5.out; show _ ≤ b6; omega) (.slice aod RG.2.length cd))
      obtain ⟨p0, p1, p2, p3⟩ := (HQa.out.keep hbd).cells
      clear z0 z1 z2 z3 z4 z5 a1 hod hbd HPa HQa HBa
      go_upto_region 36 with fail
      clear p0 p1 p2 p3
      generalize (wd.setCell ⟨b6, 0, none⟩ (.int .i64 dG)).setCell ⟨b6, 1, none⟩ (.slice aod RG.2.length cd) = Wd at *
      obtain ⟨p0, p1, p2, p3⟩ := HPd.out.cells
      obtain ⟨r0, r1, r2, r3⟩ := HQd.out.cells
      go_wp2_with fail
      refine (law_same03 dG RG.1 _ _ RG.2 Wd HPd.out.rl HQd.out.rl).mono ?_
      rintro e we ⟨rfl, hbe⟩
      have HBe := Lib.hid (bt HBd.out hbe)
      clear p0 p1 p2 p3 r0 r1 r2 r3 HPd HQd HBd hbe
      go_wp2_with fail
      refine (law_shown03 _).mono ?_
      rintro e wf ⟨rfl, hbf⟩
      go_wp2_with fail
      go_ret
      exact ⟨rfl, below_grownBy (Hloc.out.next (grownBy_below (bt HBe.out hbf) none) (fun _ h => by cases h)).grown⟩
end Go.Proofs.Ytkgaipcgdldfdaa
