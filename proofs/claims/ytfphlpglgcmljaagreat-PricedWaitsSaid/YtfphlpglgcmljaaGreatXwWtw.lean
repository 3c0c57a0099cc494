/- Part of the proof of priced_waits_proved: Wtw. -/
import Derived.Deep.RegionHeld3
import Derived.Test.YtfphlpglgcmljaaGreatXwWts
import Derived.Test.YtfphlpglgcmljaaGreatXwPaw
namespace Go.Proofs.YtfphlpglgcmljaaGreat
open Go.RowKit
set_option linter.unusedVariables false
set_option linter.unusedSimpArgs false
theorem wpList_append_copy {P : Program} {ops : Array Oper} {rest : List Oper} {o : Oper} {a : Act} {w : World} {Q : Exit → Act → World → Prop}
    (hg : o.guard = none) (s x : Operand) (t : TypeId) (ho : o.op = Op.call { callee := Callee.builtin Builtin.append, args := #[s, x], argTypes := #[t, t] })
    (e : TypeId) (ht : P.underlying t = some (.slice e)) (hi : (P.info? e).map (fun i => (i.zero, i.size, i.bytes)) = some (some (.int .i64 0), 1, 8))
    (g : Nat) (hs : a.eval s = .slice (some ⟨g, 0, none⟩) 0 0) (hgb : w.heap[g]? = some (.cells #[] e (0, 0)))
    (xv : Value) (hx : a.eval x = xv) (xs : List Int) (hr : RL w.heap.size w xv xs) (hl : xs.length ≤ 100000)
    (h : ∀ ao c w', OL e g w' (.slice ao xs.length c) xs → w.grownBy w' (some g) → wpList P ops Q rest (a.put o.dst (.slice ao xs.length c)) w') : wpList P ops Q (o :: rest) a w := by
  obtain ⟨i0, hi0, hz0, hz1, hz2⟩ := info_parts hi
  have hgl : g < w.heap.size := (Array.getElem?_eq_some_iff.1 hgb).1
  refine wpList_append_rs hg s x t ho g e i0 (.int .i64 0) 1 8 ht hi0 hz0 hz1 hz2 rfl (by decide) (.slice (some ⟨g, 0, none⟩) 0 0) 0 [] hs (owns_empty hgb (Nat.le_refl _)) w.heap.size xv hx xs.length (xs.map (Value.int .i64)) hr (by simp) (ints_oneCell' _) (by unfold maxLen; omega) (by omega) (by omega) ?_
  intro v' w' h1 h2
  rw [Nat.zero_add, List.nil_append] at h1
  obtain ⟨ao, c, rfl⟩ := owns_form h1
  exact h ao c w' h1 h2
theorem below_copy {w w' : World} {o : Obj} (h : (w.alloc o).grownBy w' (some w.heap.size)) : Below w.heap.size w w' :=
 ((Below.refl _ w).alloc (Nat.le_refl _) o).grown h (by simp) (fun k hk => by cases hk; exact Nat.le_refl _)
theorem OL.openk {e base n c : Nat} {ao : Option Addr} {w : World} {xs : List Int} (h : OL e base w (.slice ao n c) xs) (hp : 0 < xs.length) :
  ∃ g, ao = some ⟨g, 0, none⟩ ∧ base ≤ g ∧ g < w.heap.size ∧ ∀ k, k < xs.length → w.cell? ⟨g, k, none⟩ = some (.int .i64 (gi xs k)) ∧ w.frozen? ⟨g, k, none⟩ = false := by
 obtain ⟨g, cap, he, h1, h2, _, h3⟩ := h.open hp
 cases he
 exact ⟨g, rfl, h1, h2, h3⟩
theorem Sml.smz {n : Int} {xs : List Int} {c : Int} {rs : List Int} (h : Sml n xs c rs) (h3 : n ≤ 3) : ∃ N : Nat, n = N ∧ SmZ N xs c rs := by
 obtain ⟨N, rfl, ok, hl, _⟩ := pzB_nat h.pz
 have hx : xs.length = (N + 1) * (N + 1) := by have := ok.len; rwa [Int.toNat_natCast] at this
 have n1 := h.n1
 exact ⟨N, rfl, ⟨h.pz, ok, by omega, by omega, hl, h.cb, fun k hk => h.rb k (by omega), fun i j hi hj => h.eb _ (by rw [hx]; exact idx_lt N i j hi hj)⟩⟩
def Bk (vs us : List Int) (d : Int) (i : Nat) : Prop := us.length = vs.length ∧ ∀ k, k < vs.length → gi us k = if k < i then gi vs k - d else gi vs k
theorem Bk.next {vs us : List Int} {d : Int} {i : Nat} (h : Bk vs us d i) (hi : i < vs.length) : Bk vs (us.set i (gi vs i - d)) d (i + 1) := by
 refine ⟨by rw [List.length_set]; exact h.1, fun k hk => ?_⟩
 by_cases e : k = i
 ·subst e; rw [gi_set_same (by rw [h.1]; exact hk), if_pos (by omega)]
 ·rw [gi_set_ne (fun c => e c.symm), h.2 k hk]
  by_cases c : k < i
  ·rw [if_pos c, if_pos (by omega)]
  ·rw [if_neg c, if_neg (by omega)]
set_option maxRecDepth 100000 in
set_option maxHeartbeats 16000000 in
theorem law_priced_waits (n c rate : Int) (v rv vv : Value) (xs rs vs : List Int) (w : World) (hv : RL w.heap.size w v xs) (hr : RL w.heap.size w rv rs) (hq : RL w.heap.size w vv vs) :
  Calls Tryz.prog 6 #[.agg #[.int .i64 n, v, .int .i64 c, rv], .int .i64 rate, vv] w fun e w' => e = .returned (.bool true) ∧ Below w.heap.size w w' := by
 obtain ⟨ao, cap, rfl, _, _⟩ := hv.open
 obtain ⟨aor, capr, rfl, _, _⟩ := hr.open
 obtain ⟨aov, capv, rfl, hlv, hcv⟩ := hq.open
 have Hcv := Lib.hid hcv
 clear hcv
 have hloc := Loc.one w (.cells #[.int .i64 n, .slice ao xs.length cap, .int .i64 c, .slice aor rs.length capr] 35) none
 have hbw := below_grownBy hloc.grown
 have hqz : (w.alloc (.cells #[.int .i64 n, .slice ao xs.length cap, .int .i64 c, .slice aor rs.length capr] 35)).heap[w.heap.size]? = some (.cells #[.int .i64 n, .slice ao xs.length cap, .int .i64 c, .slice aor rs.length capr] 35 (0, 0)) := hloc.objs 0 (by simp)
 have hvz := hv.keepb hbw
 have hrz := hr.keepb hbw
 have hqz2 := hq.keepb hbw
 clear hv hr hq hloc
 go_enter Tryz.func6, Tryz.ntmps6
 go_upto_region 1 with fail
 generalize (w.alloc (.cells #[.int .i64 n, .slice ao xs.length cap, .int .i64 c, .slice aor rs.length capr] 35)) = X1 at *
 have HW := Lib.hid hbw
 have HBz := Lib.hid hqz
 have Hvz := Lib.hid hvz
 have Hrz := Lib.hid hrz
 have Hq := Lib.hid hqz2
 clear hbw hqz hvz hrz hqz2
 have z0 : X1.cell? ⟨w.heap.size, 0, none⟩ = some (.int .i64 n) := cell_of_row _ (w.heap.size) 0 _ _ _ HBz.out
 have z1 : X1.cell? ⟨w.heap.size, 1, none⟩ = some (.slice ao xs.length cap) := cell_of_row _ (w.heap.size) 1 _ _ _ HBz.out
 have z2 : X1.cell? ⟨w.heap.size, 2, none⟩ = some (.int .i64 c) := cell_of_row _ (w.heap.size) 2 _ _ _ HBz.out
 have z3 : X1.cell? ⟨w.heap.size, 3, none⟩ = some (.slice aor rs.length capr) := cell_of_row _ (w.heap.size) 3 _ _ _ HBz.out
 go_wp2_with fail
 refine (law_large23 n c _ _ xs rs _ Hvz.out Hrz.out).mono ?_
 rintro e w1 ⟨bl, rfl, hbl, hb⟩
 clear z0 z1 z2 z3
 replace HBz := Lib.hid (hp_keep4 HBz.out hb)
 replace Hvz := Lib.hid (RL.keepb Hvz.out hb)
 replace Hrz := Lib.hid (RL.keepb Hrz.out hb)
 replace Hq := Lib.hid (RL.keepb Hq.out hb)
 replace HW := Lib.hid (bt HW.out hb)
 clear hb
 cases bl with
 | true =>
  go_wp2_with fail
  refine (law_awake _).mono ?_
  rintro e w9 ⟨rfl, hb⟩
  go_wp2_with fail
  go_ret
  exact ⟨rfl, bt HW.out hb⟩
 | false =>
  have HS := Lib.hid (hbl rfl)
  clear hbl
  have z0 : w1.cell? ⟨w.heap.size, 0, none⟩ = some (.int .i64 n) := cell_of_row _ (w.heap.size) 0 _ _ _ HBz.out
  have z1 : w1.cell? ⟨w.heap.size, 1, none⟩ = some (.slice ao xs.length cap) := cell_of_row _ (w.heap.size) 1 _ _ _ HBz.out
  have z2 : w1.cell? ⟨w.heap.size, 2, none⟩ = some (.int .i64 c) := cell_of_row _ (w.heap.size) 2 _ _ _ HBz.out
  have z3 : w1.cell? ⟨w.heap.size, 3, none⟩ = some (.slice aor rs.length capr) := cell_of_row _ (w.heap.size) 3 _ _ _ HBz.out
  go_wp2_with fail
  refine (law_small n c _ _ xs rs _ Hvz.out Hrz.out).mono ?_
  rintro e w2 ⟨⟨bs, rfl, hbs⟩, hb⟩
  clear z0 z1 z2 z3
  replace HBz := Lib.hid (hp_keep4 HBz.out hb)
  replace Hvz := Lib.hid (RL.keepb Hvz.out hb)
  replace Hrz := Lib.hid (RL.keepb Hrz.out hb)
  replace Hq := Lib.hid (RL.keepb Hq.out hb)
  replace HW := Lib.hid (bt HW.out hb)
  clear hb
  have z0 : w2.cell? ⟨w.heap.size, 0, none⟩ = some (.int .i64 n) := cell_of_row _ (w.heap.size) 0 _ _ _ HBz.out
  have z1 : w2.cell? ⟨w.heap.size, 1, none⟩ = some (.slice ao xs.length cap) := cell_of_row _ (w.heap.size) 1 _ _ _ HBz.out
  have z2 : w2.cell? ⟨w.heap.size, 2, none⟩ = some (.int .i64 c) := cell_of_row _ (w.heap.size) 2 _ _ _ HBz.out
  have z3 : w2.cell? ⟨w.heap.size, 3, none⟩ = some (.slice aor rs.length capr) := cell_of_row _ (w.heap.size) 3 _ _ _ HBz.out
  cases bs with
  | false =>
   go_wp2_with fail
   refine (law_awake _).mono ?_
   rintro e w9 ⟨rfl, hb⟩
   go_wp2_with fail
   go_ret
   exact ⟨rfl, bt HW.out hb⟩
  | true =>
   obtain ⟨N, rfl, hz⟩ := (hbs rfl).smz HS.out.1
   have HZ := Lib.hid hz
   have n1 := hz.n1
   have n3 := hz.n3
   clear hz hbs HS
   by_cases h1 : rate < 0
   ·have h1' : decide (rate < 0) = true := by simpa using h1
    go_wp2_with fail
    refine (law_awake _).mono ?_
    rintro e w9 ⟨rfl, hb⟩
    go_wp2_with fail
    go_ret
    exact ⟨rfl, bt HW.out hb⟩
   have h1' : decide (rate < 0) = false := by simpa using h1
   by_cases h2 : 1000 < rate
   ·have h2' : decide (1000 < rate) = true := by simpa using h2
    go_wp2_with fail
    refine (law_awake _).mono ?_
    rintro e w9 ⟨rfl, hb⟩
    go_wp2_with fail
    go_ret
    exact ⟨rfl, bt HW.out hb⟩
   have h2' : decide (1000 < rate) = false := by simpa using h2
   by_cases h3 : vs.length = N
   rotate_left
   ·have h3' : ((vs.length : Int) != (N : Int)) = true := by simp; omega
    go_wp2_with fail
    refine (law_awake _).mono ?_
    rintro e w9 ⟨rfl, hb⟩
    go_wp2_with fail
    go_ret
    exact ⟨rfl, bt HW.out hb⟩
   subst h3
   have h3' : ((vs.length : Int) != (vs.length : Int)) = false := by simp
   have hv100 : vs.length ≤ 100 := by omega
   have r0 : 0 ≤ rate := by omega
   have r1 : rate ≤ 1000 := by omega
   go_upto_region 3 with fail
   clear z0 z1 z2 z3
   clear h1 h2 h1' h2' h3'
   go_wp2_with fail
   go_loopw [7] (fun i wr => ∃ k : Nat, k ≤ vs.length ∧ i = .int .i64 k ∧ (∀ j, j < k → 0 ≤ gi vs j ∧ gi vs j ≤ 60) ∧ wr = w2) (fun i _ => vs.length - (intOf i).toNat)
   case atStart => exact ⟨0, Nat.zero_le _, rfl, fun j hj => by omega, rfl⟩
   case round =>
    obtain ⟨k, hk, rfl, hE, hwr⟩ := hrel
    subst hwr
    have HE := Lib.hid hE
    clear hE
    by_cases hlt : k < vs.length
    ·have htk : decide ((k : Int) < (vs.length : Int)) = true := by simp; omega
     obtain ⟨b, off, rfl, hb, hc⟩ := Hcv.out (by omega)
     obtain ⟨E, hE⟩ : ∃ E, gi vs k = E := ⟨_, rfl⟩
     have x0 : wr.cell? ⟨b, off + k, none⟩ = some (.int .i64 E) := by
      have h := ((bcell HW.out).1 b (off + k) hb).trans (hc k hlt)
      rw [hE] at h
      exact h
     have k0 : (k : Int) < vs.length := by omega
     have k1 : (0 : Int) ≤ (k : Int) := by omega
     clear hc
     by_cases e3 : E < 0
     ·have e3' : decide (E < 0) = true := by simpa using e3
      go_wp2_with fail
      refine (law_awake _).mono ?_
      rintro e w9 ⟨rfl, hb⟩
      go_wp2_with fail
      go_ret
      exact ⟨rfl, bt HW.out hb⟩
     have e3' : decide (E < 0) = false := by simpa using e3
     by_cases e4 : 60 < E
     ·have e4' : decide (60 < E) = true := by simpa using e4
      go_wp2_with fail
      refine (law_awake _).mono ?_
      rintro e w9 ⟨rfl, hb⟩
      go_wp2_with fail
      go_ret
      exact ⟨rfl, bt HW.out hb⟩
     have e4' : decide (60 < E) = false := by simpa using e4
     have HN := Lib.hid (show ∀ j, j < k + 1 → 0 ≤ gi vs j ∧ gi vs j ≤ 60 from fun j hj => by
      by_cases e : j = k
      ·rw [e, hE]; omega
      ·exact HE.out j (by omega))
     go_wp2_with fail
     go_roundw
     case rel => exact ⟨k + 1, by omega, by go_num, HN.out, trivial⟩
     case measure => simp [intOf]; omega
    have htk : decide ((k : Int) < (vs.length : Int)) = false := by simp; omega
    have HV := Lib.hid (show Vs vs.length vs from ⟨rfl, fun j hj => HE.out j (by omega)⟩)
    go_upto_region 8 with fail
    clear HE hk hlt htk
    obtain ⟨w3, hw3⟩ : ∃ V, V = wr := ⟨_, rfl⟩
    subst hw3
    obtain ⟨L, hL, hT⟩ := waits_plain HZ.out r0 r1
    have HL := Lib.hid hL
    have HT := Lib.hid (show toldF L (rat1 vs) = bestTo vs.length xs c rs rate vs 61 by rw [← hT vs HV.out, rat1_pts (d := 0) rfl (fun k hk => by omega)])
    clear hL hT
    have s0 : w3.cell? ⟨w.heap.size, 0, none⟩ = some (.int .i64 vs.length) := cell_of_row _ (w.heap.size) 0 _ _ _ HBz.out
    have s1 : w3.cell? ⟨w.heap.size, 1, none⟩ = some (.slice ao xs.length cap) := cell_of_row _ (w.heap.size) 1 _ _ _ HBz.out
    have s2 : w3.cell? ⟨w.heap.size, 2, none⟩ = some (.int .i64 c) := cell_of_row _ (w.heap.size) 2 _ _ _ HBz.out
    have s3 : w3.cell? ⟨w.heap.size, 3, none⟩ = some (.slice aor rs.length capr) := cell_of_row _ (w.heap.size) 3 _ _ _ HBz.out
    go_wp2_with fail
    refine (prog_delay vs.length c rate _ _ (.slice none 0 0) xs rs [] _ Hvz.out Hrz.out (RX.nil _ _ _) (by simp)).mono ?_
    rintro e w4 ⟨h, hb⟩
    obtain ⟨va, he, hg⟩ := GaP.gr h
    rw [HL.out] at he hg
    obtain rfl : e = .returned (.tuple #[va, .int .i64 0]) := he
    clear h
    clear s0 s1 s2 s3
    replace HBz := Lib.hid (hp_keep4 HBz.out hb)
    replace Hvz := Lib.hid (RL.keepb Hvz.out hb)
    replace Hrz := Lib.hid (RL.keepb Hrz.out hb)
    replace Hq := Lib.hid (RL.keepb Hq.out hb)
    replace HW := Lib.hid (bt HW.out hb)
    clear hb
    have HG := Lib.hid (show GR L va w4 from hg)
    clear hg HL
    have HWF := Lib.hid (Below.refl w4.heap.size w4)
    go_wp2_with fail
    go_loopw [10, 11, 12] (fun s10 s11 s12 wr => ∃ (d : Nat) (a : Int) (b : Bool), d ≤ 61 ∧ s10 = .int .i64 a ∧ s11 = .bool b ∧ s12 = .int .i64 d ∧ bestTo vs.length xs c rs rate vs d = (a, b) ∧ Below w4.heap.size w4 wr) (fun _ _ s12 _ => 61 - (intOf s12).toNat)
    case atStart => exact ⟨0, 0, false, by omega, rfl, rfl, rfl, rfl, Below.refl _ _⟩
    case round =>
     obtain ⟨d, a, fd, hd, rfl, rfl, rfl, hacc, hwr⟩ := hrel
     have HA := Lib.hid hacc
     clear hacc
     obtain ⟨wa, hwa⟩ : ∃ V, V = wr := ⟨_, rfl⟩
     subst hwa
     have hb := hwr
     replace HBz := Lib.hid (hp_keep4 HBz.out hb)
     replace Hvz := Lib.hid (RL.keepb Hvz.out hb)
     replace Hrz := Lib.hid (RL.keepb Hrz.out hb)
     replace Hq := Lib.hid (RL.keepb Hq.out hb)
     replace HG := Lib.hid (GR.keepb HG.out hb)
     replace HWF := Lib.hid (bt HWF.out hb)
     replace HW := Lib.hid (bt HW.out hb)
     clear hb
     clear hwr
     by_cases hlt : d ≤ 60
     rotate_left
     ·have htk : decide ((d : Int) ≤ 60) = false := by simp; omega
      obtain rfl : d = 61 := by omega
      have HT2 := Lib.hid (show toldF L (rat1 vs) = (a, fd) by rw [HT.out]; exact HA.out)
      go_wp2_with fail
      refine (law_told va _ L vs _ HG.out Hq.out hv100 (fun k hk => by have := HV.out.2 k (by omega); omega)).mono ?_
      rintro e w6 ⟨he, hb⟩
      rw [HT2.out] at he
      obtain rfl : e = .returned (.tuple #[.int .i64 a, .bool fd]) := he
      have haa : (a == a) = true := by simp
      have hff : (fd == fd) = true := by simp
      replace HBz := Lib.hid (hp_keep4 HBz.out hb)
      replace Hvz := Lib.hid (RL.keepb Hvz.out hb)
      replace Hrz := Lib.hid (RL.keepb Hrz.out hb)
      replace Hq := Lib.hid (RL.keepb Hq.out hb)
      replace HG := Lib.hid (GR.keepb HG.out hb)
      replace HWF := Lib.hid (bt HWF.out hb)
      replace HW := Lib.hid (bt HW.out hb)
      clear hb
      go_wp2_with fail
      refine (law_awake _).mono ?_
      rintro e w7 ⟨rfl, hb⟩
      go_wp2_with fail
      go_ret
      exact ⟨rfl, bt HW.out hb⟩
     have htk : decide ((d : Int) ≤ 60) = true := by simp; omega
     have hcp := ((Below.refl _ wa).alloc (Nat.le_refl _) (.cells #[] 2))
     have HQa := Lib.hid (Hq.out.keepb hcp)
     clear hcp
     go_upto_region 15 with fail
     go_upto_region 16 with (at_builtin; (refine wpList_append_copy rfl (.tmp 76) (.tmp 77) 33 rfl 2 Tryz.undL64 Tryz.infL64 wa.heap.size rfl ?_ _ rfl vs ?_ (by omega) ?_; (exact heap_alloc_new wa _); (exact HQa.out); intro ao4 c4 w5 ho4 hg4))
     have hb := below_copy hg4
     clear hg4 HQa
     have hs5 : wa.heap.size ≤ w5.heap.size := hb.size
     obtain ⟨g4, rfl, hg4, _, _⟩ := ho4.openk (by omega)
     have Ho := Lib.hid ho4
     have HB5 := Lib.hid hb
     clear hb ho4 hg4
     go_wp2_with fail
     go_loopw [14] (fun s14 wr => ∃ (i : Nat) (us : List Int), i ≤ vs.length ∧ s14 = .int .i64 i ∧ Bk vs us d i ∧ OL 2 wa.heap.size wr (.slice (some ⟨g4, 0, none⟩) vs.length c4) us ∧ Below wa.heap.size wa wr) (fun s14 _ => vs.length - (intOf s14).toNat)
     case atStart => exact ⟨0, vs, by omega, rfl, ⟨rfl, fun k hk => by rw [if_neg (by omega)]⟩, Ho.out, HB5.out⟩
     case round =>
      clear Ho HB5 hs5
      obtain ⟨i, us, hi, rfl, hbk, hown, hbel⟩ := hrel
      have Hbk := Lib.hid hbk
      have Hown := Lib.hid hown
      have HB5 := Lib.hid hbel
      obtain ⟨g5, he8, hge, hg4l, hcc⟩ := hown.openk (by rw [hbk.1]; omega)
      cases he8
      clear hbk hown hbel
      obtain ⟨wb, hwb⟩ : ∃ V, V = wr := ⟨_, rfl⟩
      subst hwb
      by_cases hin : i < vs.length
      ·have htj : decide ((i : Int) < (vs.length : Int)) = true := by simp; omega
       obtain ⟨x0, f0⟩ := hcc i (by rw [Hbk.out.1]; omega)
       rw [show gi us i = gi vs i by rw [Hbk.out.2 i (by omega), if_neg (by omega)]] at x0
       obtain ⟨E, hE⟩ : ∃ E, gi vs i = E := ⟨_, rfl⟩
       rw [hE] at x0
       have hEb := HV.out.2 i hin
       rw [hE] at hEb
       have HNX := Lib.hid (show Bk vs (us.set i (E - d)) d (i + 1) by
        rw [← hE]; exact Hbk.out.next (by omega))
       have hsd := OL.stored Hown.out Hbk.out.1.symm i (E - d)
       have Hs1 := Lib.hid hsd.1
       have Hs2 := Lib.hid (HB5.out.grown hsd.2 HB5.out.size (fun g e => by cases e; exact hge))
       have i0 : (i : Int) < vs.length := by omega
       have i1 : (0 : Int) ≤ (i : Int) := by omega
       clear hsd hcc hE
       go_wp2_with fail
       go_roundw
       case rel => exact ⟨i + 1, _, by omega, by go_num, HNX.out, Hs1.out, Hs2.out⟩
       case measure => simp [intOf]; omega
      have htj : decide ((i : Int) < (vs.length : Int)) = false := by simp; omega
      have HU := Lib.hid (show us.length = vs.length ∧ ∀ k, k < vs.length → gi us k = gi vs k - d from ⟨Hbk.out.1, fun k hk => by rw [Hbk.out.2 k hk, if_pos (by omega)]⟩)
      have HP := Lib.hid (show rat1 us = ipts (pv vs d) vs.length by rw [rat1_pts HU.out.1 HU.out.2])
      obtain ⟨y0, _⟩ := hcc 0 (by rw [Hbk.out.1]; omega)
      obtain ⟨E, hE⟩ : ∃ E, gi us 0 = E := ⟨_, rfl⟩
      have HEe := Lib.hid (show E = gi vs 0 - d by rw [← hE]; exact HU.out.2 0 (by omega))
      rw [hE] at y0
      have y1 : (0 : Int) < vs.length := by omega
      have Hus := Lib.hid (OL.rl Hown.out)
      have hb := HB5.out
      clear hcc hE Hown Hbk hge hg4l
      replace HBz := Lib.hid (hp_keep4 HBz.out hb)
      replace Hvz := Lib.hid (RL.keepb Hvz.out hb)
      replace Hrz := Lib.hid (RL.keepb Hrz.out hb)
      replace Hq := Lib.hid (RL.keepb Hq.out hb)
      replace HG := Lib.hid (GR.keepb HG.out hb)
      replace HWF := Lib.hid (bt HWF.out hb)
      replace HW := Lib.hid (bt HW.out hb)
      clear hb
      clear HB5
      by_cases hneg : E < 0
      ·have hn' : decide (E < 0) = true := by simpa using hneg
       have HT2 := Lib.hid (show toldF L (rat1 vs) = (a, fd) by rw [HT.out]; rw [← HA.out]; have e := best_stop HZ.out r0 r1 HV.out (n := d) (by rw [← HEe.out]; exact hneg) (61 - d) (by omega); rw [show d + (61 - d) = 61 by omega] at e; exact e)
       go_wp2_with fail
       refine (law_told va _ L vs _ HG.out Hq.out hv100 (fun k hk => by have := HV.out.2 k (by omega); omega)).mono ?_
       rintro e w6 ⟨he, hb⟩
       rw [HT2.out] at he
       obtain rfl : e = .returned (.tuple #[.int .i64 a, .bool fd]) := he
       have haa : (a == a) = true := by simp
       have hff : (fd == fd) = true := by simp
       replace HBz := Lib.hid (hp_keep4 HBz.out hb)
       replace Hvz := Lib.hid (RL.keepb Hvz.out hb)
       replace Hrz := Lib.hid (RL.keepb Hrz.out hb)
       replace Hq := Lib.hid (RL.keepb Hq.out hb)
       replace HG := Lib.hid (GR.keepb HG.out hb)
       replace HWF := Lib.hid (bt HWF.out hb)
       replace HW := Lib.hid (bt HW.out hb)
       clear hb
       go_wp2_with fail
       refine (law_awake _).mono ?_
       rintro e w7 ⟨rfl, hb⟩
       go_wp2_with fail
       go_ret
       exact ⟨rfl, bt HW.out hb⟩
      have hn' : decide (E < 0) = false := by simpa using hneg
      obtain ⟨hh, hxe, hH⟩ : ∃ a b, hasF vs.length xs (rat1 us) = (a, b) := ⟨_, _, rfl⟩
      obtain ⟨an, ad, ae, hA⟩ : ∃ p q r, atF vs.length xs c rs (rat1 us) = ((p, q), r) := ⟨_, _, _, rfl⟩
      have HN := Lib.hid (show bestTo vs.length xs c rs rate vs (d + 1) = if hh = true ∧ ae = 0 then (if fd = false ∨ wrap64 (an + wrap64 (rate * d)) < a then (wrap64 (an + wrap64 (rate * d)), true) else (a, fd)) else (a, fd) by
       show bestS vs.length xs c rs rate vs (bestTo vs.length xs c rs rate vs d) d = _
       unfold bestS
       rw [HA.out, ← HP.out, hH, hA]; simp only [IntWalk.i64_left])
      have HUb := Lib.hid (show ∀ k, k < us.length → -1000000 ≤ gi us k ∧ gi us k ≤ 1000000 from fun k hk => by
       have e := HU.out.2 k (by rw [← HU.out.1]; exact hk)
       have := HV.out.2 k (by have := HU.out.1; omega)
       omega)
      have HU1 := Lib.hid (show us.length ≤ 100 by rw [HU.out.1]; exact hv100)
      have HRat := Lib.hid (fun (X : World) (hX : Below wb.heap.size wb X) => law_ratios _ us X (Hus.out.keepb hX) HU1.out HUb.out)
      have HHas := Lib.hid (fun (X : World) (qv : Value) (hX : Below wb.heap.size wb X) (hq : RQ X.heap.size X qv (rat1 us)) => ref_has vs.length _ qv xs (rat1 us) X (Hvz.out.keepb hX) hq)
      rw [hH] at HHas
      clear hH
      have z0 : wb.cell? ⟨w.heap.size, 0, none⟩ = some (.int .i64 vs.length) := cell_of_row _ (w.heap.size) 0 _ _ _ HBz.out
      have z1 : wb.cell? ⟨w.heap.size, 1, none⟩ = some (.slice ao xs.length cap) := cell_of_row _ (w.heap.size) 1 _ _ _ HBz.out
      have z2 : wb.cell? ⟨w.heap.size, 2, none⟩ = some (.int .i64 c) := cell_of_row _ (w.heap.size) 2 _ _ _ HBz.out
      have z3 : wb.cell? ⟨w.heap.size, 3, none⟩ = some (.slice aor rs.length capr) := cell_of_row _ (w.heap.size) 3 _ _ _ HBz.out
      go_upto_region 21 with fail
      clear y0
      clear z2 z3
      have HS := Lib.hid (fun (X : World) (hX : Below wb.heap.size wb X) => (⟨keepb z0 hX, keepb z1 hX⟩ : X.cell? ⟨w.heap.size, 0, none⟩ = some (.int .i64 vs.length) ∧ X.cell? ⟨w.heap.size, 1, none⟩ = some (.slice ao xs.length cap)))
      refine wp_region_noPanic ?_
      refine wp_region_held_drew (S := (fun w' => w'.cell? ⟨w.heap.size, 0, none⟩ = some (.int .i64 vs.length) ∧ w'.cell? ⟨w.heap.size, 1, none⟩ = some (.slice ao xs.length cap))) (by kernel_rfl) ⟨z0, z1⟩ (fun hHeld => ?_)
      refine wpAnyH_take (i := 0) (v := ?_) rfl (by kernel_rfl) (by kernel_rfl) (by kernel_rfl) (fun _ _ _ h => h) (Or.inl ⟨by rfl, ?_⟩) (by assumption) ?_
      rotate_left
      ·intro w hSw; (try dsimp only at hSw); go_simp; (try with_reducible rfl)
      try simp only [Act.put, List.getElem_toArray, List.getElem_cons_zero, List.setIfInBounds_toArray, List.set_cons_zero, List.set_cons_succ]
      refine wpAnyH_take (i := 1) (v := ?_) rfl (by kernel_rfl) (by kernel_rfl) (by kernel_rfl) (fun _ _ _ h => h) (Or.inl ⟨by rfl, ?_⟩) (by assumption) ?_
      rotate_left
      ·intro w hSw; (try dsimp only at hSw); go_simp; (try with_reducible rfl)
      try simp only [Act.put, List.getElem_toArray, List.getElem_cons_zero, List.getElem_cons_succ, List.setIfInBounds_toArray, List.set_cons_zero, List.set_cons_succ]
      refine wpAnyH_take (i := 2) (v := ?_) rfl (by kernel_rfl) (by kernel_rfl) (by kernel_rfl) (fun _ _ _ h => h) (Or.inl ⟨by rfl, ?_⟩) (by assumption) ?_
      rotate_left
      ·intro w hSw; (try dsimp only at hSw); go_simp; (try with_reducible rfl)
      try simp only [Act.put, List.getElem_toArray, List.getElem_cons_zero, List.getElem_cons_succ, List.setIfInBounds_toArray, List.set_cons_zero, List.set_cons_succ]
      have H0 := Lib.hid (show Below wb.heap.size wb wb.drew from (Below.refl _ _).drew)
      clear hHeld
      generalize wb.drew = L0 at *
      refine wpAnyH_ready (rs := [3]) (by kernel_rfl) (by simp) ?_
      refine AllReadyH.cons rfl (fun K hK => ?_) AllReadyH.nil
      go_simp
      refine (HRat.out L0 H0.out).mono ?_
      rintro e L1 ⟨⟨qv, rfl, hq⟩, hb⟩
      have H1 := Lib.hid (bt H0.out hb)
      have Hq := Lib.hid (OQ.rq hq)
      refine hK.out _ _ (HS.out L1 H1.out) (fun hHeld2 => ?_)
      clear hK K hb hq
      try simp only [Act.put, List.getElem_toArray, List.getElem_cons_zero, List.getElem_cons_succ, List.setIfInBounds_toArray, List.set_cons_zero, List.set_cons_succ]
      refine wpAnyH_ready (rs := [4]) (by kernel_rfl) (by simp) ?_
      refine AllReadyH.cons rfl (fun K hK => ?_) AllReadyH.nil
      go_simp
      refine (HHas.out L1 _ H1.out Hq.out).mono ?_
      rintro e L2 ⟨he, hb⟩
      obtain rfl := he
      have hbel := bt H1.out hb
      refine hK.out _ _ (HS.out L2 hbel) (fun hHeld3 => ?_)
      clear hK K hb Hq
      try simp only [Act.put, List.getElem_toArray, List.getElem_cons_zero, List.getElem_cons_succ, List.setIfInBounds_toArray, List.set_cons_zero, List.set_cons_succ]
      refine wpAnyH_take (i := 5) (v := ?_) rfl (by kernel_rfl) (by kernel_rfl) (by kernel_rfl) (fun _ _ _ h => h) (Or.inl ⟨by rfl, ?_⟩) (by assumption) ?_
      rotate_left
      ·intro w hSw; (try dsimp only at hSw); go_simp; (try with_reducible rfl)
      try simp only [Act.put, List.getElem_toArray, List.getElem_cons_zero, List.getElem_cons_succ, List.setIfInBounds_toArray, List.set_cons_zero, List.set_cons_succ]
      refine wpAnyH_take (i := 6) (v := ?_) rfl (by kernel_rfl) (by kernel_rfl) (by kernel_rfl) (fun _ _ _ h => h) (Or.inl ⟨by rfl, ?_⟩) (by assumption) ?_
      rotate_left
      ·intro w hSw; (try dsimp only at hSw); go_simp; (try with_reducible rfl)
      try simp only [Act.put, List.getElem_toArray, List.getElem_cons_zero, List.getElem_cons_succ, List.setIfInBounds_toArray, List.set_cons_zero, List.set_cons_succ]
      refine wpAnyH_take (i := 7) (v := ?_) rfl (by kernel_rfl) (by kernel_rfl) (by kernel_rfl) (fun _ _ _ h => h) (Or.inl ⟨by rfl, ?_⟩) (by assumption) ?_
      rotate_left
      ·intro w hSw; (try dsimp only at hSw); go_simp; (try with_reducible rfl)
      try simp only [Act.put, List.getElem_toArray, List.getElem_cons_zero, List.getElem_cons_succ, List.setIfInBounds_toArray, List.set_cons_zero, List.set_cons_succ]
      refine wpAnyH_take (i := 8) (v := ?_) rfl (by kernel_rfl) (by kernel_rfl) (by kernel_rfl) (fun _ _ _ h => h) (Or.inl ⟨by rfl, ?_⟩) (by assumption) ?_
      rotate_left
      ·intro w hSw; (try dsimp only at hSw); go_simp; (try with_reducible rfl)
      try simp only [Act.put, List.getElem_toArray, List.getElem_cons_zero, List.getElem_cons_succ, List.setIfInBounds_toArray, List.set_cons_zero, List.set_cons_succ]
      refine wpAnyH_take (i := 9) (v := ?_) rfl (by kernel_rfl) (by kernel_rfl) (by kernel_rfl) (fun _ _ _ h => h) (Or.inl ⟨by rfl, ?_⟩) (by assumption) ?_
      rotate_left
      ·intro w hSw; (try dsimp only at hSw); go_simp; (try with_reducible rfl)
      try simp only [Act.put, List.getElem_toArray, List.getElem_cons_zero, List.getElem_cons_succ, List.setIfInBounds_toArray, List.set_cons_zero, List.set_cons_succ]
      refine wpAnyH_done (by kernel_rfl) ?_ _
      refine NoPanic.normal ?_
      clear HS HRat HHas H0 H1
      clear hHeld2 hHeld3 z0 z1
      have Hus2 := Lib.hid (Hus.out.keepb hbel)
      have hb := hbel
      clear Hus hbel
      replace HBz := Lib.hid (hp_keep4 HBz.out hb)
      replace Hvz := Lib.hid (RL.keepb Hvz.out hb)
      replace Hrz := Lib.hid (RL.keepb Hrz.out hb)
      replace Hq := Lib.hid (RL.keepb Hq.out hb)
      replace HG := Lib.hid (GR.keepb HG.out hb)
      replace HWF := Lib.hid (bt HWF.out hb)
      replace HW := Lib.hid (bt HW.out hb)
      clear hb
      have HRat := Lib.hid (fun (X : World) (hX : Below L2.heap.size L2 X) => law_ratios _ us X (Hus2.out.keepb hX) HU1.out HUb.out)
      have HAt := Lib.hid (fun (X : World) (qv : Value) (hX : Below L2.heap.size L2 X) (hq : RQ X.heap.size X qv (rat1 us)) => ref_pat vs.length c _ _ qv xs rs (rat1 us) X (Hvz.out.keepb hX) (Hrz.out.keepb hX) hq)
      rw [hA] at HAt
      clear hA
      have z0 : L2.cell? ⟨w.heap.size, 0, none⟩ = some (.int .i64 vs.length) := cell_of_row _ (w.heap.size) 0 _ _ _ HBz.out
      have z1 : L2.cell? ⟨w.heap.size, 1, none⟩ = some (.slice ao xs.length cap) := cell_of_row _ (w.heap.size) 1 _ _ _ HBz.out
      have z2 : L2.cell? ⟨w.heap.size, 2, none⟩ = some (.int .i64 c) := cell_of_row _ (w.heap.size) 2 _ _ _ HBz.out
      have z3 : L2.cell? ⟨w.heap.size, 3, none⟩ = some (.slice aor rs.length capr) := cell_of_row _ (w.heap.size) 3 _ _ _ HBz.out
      go_upto_region 22 with fail
      have HS := Lib.hid (fun (X : World) (hX : Below L2.heap.size L2 X) => (⟨keepb z0 hX, keepb z1 hX, keepb z2 hX, keepb z3 hX⟩ : X.cell? ⟨w.heap.size, 0, none⟩ = some (.int .i64 vs.length) ∧ X.cell? ⟨w.heap.size, 1, none⟩ = some (.slice ao xs.length cap) ∧ X.cell? ⟨w.heap.size, 2, none⟩ = some (.int .i64 c) ∧ X.cell? ⟨w.heap.size, 3, none⟩ = some (.slice aor rs.length capr)))
      go_cut [17, 18] (fun s6 s7 wx => s7 = .int .i64 ae ∧ ∃ bx, s6 = .pointer (some ⟨bx, 0, none⟩) ∧ wx.heap[bx]? = some (.cells #[.int .i64 an, .int .i64 ad] 56 (0, 0)) ∧ L2.heap.size ≤ bx ∧ Below L2.heap.size L2 wx)
      case first =>
       refine wp_region_noPanic ?_
       refine wp_region_held_drew (S := (fun w' => w'.cell? ⟨w.heap.size, 0, none⟩ = some (.int .i64 vs.length) ∧ w'.cell? ⟨w.heap.size, 1, none⟩ = some (.slice ao xs.length cap) ∧ w'.cell? ⟨w.heap.size, 2, none⟩ = some (.int .i64 c) ∧ w'.cell? ⟨w.heap.size, 3, none⟩ = some (.slice aor rs.length capr))) (by kernel_rfl) ⟨z0, z1, z2, z3⟩ (fun hHeld => ?_)
       refine wpAnyH_take (i := 0) (v := ?_) rfl (by kernel_rfl) (by kernel_rfl) (by kernel_rfl) (fun _ _ _ h => h) (Or.inl ⟨by rfl, ?_⟩) (by assumption) ?_
       rotate_left
       ·intro w hSw; (try dsimp only at hSw); go_simp; (try with_reducible rfl)
       try simp only [Act.put, List.getElem_toArray, List.getElem_cons_zero, List.setIfInBounds_toArray, List.set_cons_zero, List.set_cons_succ]
       refine wpAnyH_take (i := 1) (v := ?_) rfl (by kernel_rfl) (by kernel_rfl) (by kernel_rfl) (fun _ _ _ h => h) (Or.inl ⟨by rfl, ?_⟩) (by assumption) ?_
       rotate_left
       ·intro w hSw; (try dsimp only at hSw); go_simp; (try with_reducible rfl)
       try simp only [Act.put, List.getElem_toArray, List.getElem_cons_zero, List.getElem_cons_succ, List.setIfInBounds_toArray, List.set_cons_zero, List.set_cons_succ]
       have H0 := Lib.hid (show Below L2.heap.size L2 L2.drew from (Below.refl _ _).drew)
       clear hHeld
       generalize L2.drew = L0 at *
       refine wpAnyH_ready (rs := [2, 7]) (by kernel_rfl) (by simp) ?_
       refine AllReadyH.cons rfl (fun K hK => ?_) (AllReadyH.cons rfl (fun K hK => ?_) (AllReadyH.nil))
       ·skip
        go_simp
        refine (HRat.out L0 H0.out).mono ?_
        rintro e L1 ⟨⟨qv, rfl, hq⟩, hb⟩
        have H1 := Lib.hid (bt H0.out hb)
        have Hq := Lib.hid (OQ.rq hq)
        refine hK.out _ _ (HS.out L1 H1.out) (fun hHeld2 => ?_)
        clear hK K hb hq
        try simp only [Act.put, List.getElem_toArray, List.getElem_cons_zero, List.getElem_cons_succ, List.setIfInBounds_toArray, List.set_cons_zero, List.set_cons_succ]
        refine wpAnyH_ready (rs := [3, 7]) (by kernel_rfl) (by simp) ?_
        refine AllReadyH.cons rfl (fun K hK => ?_) (AllReadyH.cons rfl (fun K hK => ?_) (AllReadyH.nil))
        ·skip
         go_simp
         refine (HAt.out L1 _ H1.out Hq.out).mono ?_
         rintro e L2 ⟨he, hb⟩
         obtain rfl := he
         have H2 := Lib.hid (bt H1.out hb)
         refine hK.out _ _ (HS.out L2 H2.out) (fun hHeld2 => ?_)
         clear hK K hb Hq
         try simp only [Act.put, List.getElem_toArray, List.getElem_cons_zero, List.getElem_cons_succ, List.setIfInBounds_toArray, List.set_cons_zero, List.set_cons_succ]
         refine wpAnyH_take (i := 4) (v := ?_) rfl (by kernel_rfl) (by kernel_rfl) (by kernel_rfl) (fun _ _ _ h => h) (Or.inl ⟨by rfl, ?_⟩) (by assumption) ?_
         rotate_left
         ·intro w hSw; (try dsimp only at hSw); go_simp; (try with_reducible rfl)
         try simp only [Act.put, List.getElem_toArray, List.getElem_cons_zero, List.getElem_cons_succ, List.setIfInBounds_toArray, List.set_cons_zero, List.set_cons_succ]
         refine wpAnyH_take (i := 5) (v := ?_) rfl (by kernel_rfl) (by kernel_rfl) (by kernel_rfl) (fun _ _ _ h => h) (Or.inl ⟨by rfl, ?_⟩) (by assumption) ?_
         rotate_left
         ·intro w hSw; (try dsimp only at hSw); go_simp; (try with_reducible rfl)
         try simp only [Act.put, List.getElem_toArray, List.getElem_cons_zero, List.getElem_cons_succ, List.setIfInBounds_toArray, List.set_cons_zero, List.set_cons_succ]
         refine wpAnyH_take (i := 6) (v := ?_) rfl (by kernel_rfl) (by kernel_rfl) (by kernel_rfl) (fun _ _ _ h => h) (Or.inl ⟨by rfl, ?_⟩) (by assumption) ?_
         rotate_left
         ·intro w hSw; (try dsimp only at hSw); go_simp; (try with_reducible rfl)
         try simp only [Act.put, List.getElem_toArray, List.getElem_cons_zero, List.getElem_cons_succ, List.setIfInBounds_toArray, List.set_cons_zero, List.set_cons_succ]
         refine wpAnyH_ready (rs := [7]) (by kernel_rfl) (by simp) ?_
         refine AllReadyH.cons rfl (fun K hK => ?_) (AllReadyH.nil)
         ·skip
          go_simp
          have H3' := bal H2.out (.cells #[.int .i64 0, .int .i64 0] 56)
          have Hbx' := heap_alloc_new L2 (.cells #[.int .i64 0, .int .i64 0] 56)
          have Hge' := H2.out.size
          refine hK.out _ _ (HS.out _ H3') (fun hHeld2 => ?_)
          clear hK K
          generalize hgen : World.alloc L2 _ = L3 at *
          clear hgen
          generalize L2.heap.size = bx at *
          have H3 := Lib.hid H3'
          have Hbx := Lib.hid Hbx'
          have Hge := Lib.hid Hge'
          clear H3' Hbx' Hge'
          try simp only [Act.put, List.getElem_toArray, List.getElem_cons_zero, List.getElem_cons_succ, List.setIfInBounds_toArray, List.set_cons_zero, List.set_cons_succ]
          refine wpAnyH_ready (rs := [8]) (by kernel_rfl) (by simp) ?_
          refine AllReadyH.cons rfl (fun K hK => ?_) (AllReadyH.nil)
          ·skip
           have t0 := cell_of_row _ bx 0 _ _ _ Hbx.out
           have t1 := cell_of_row _ bx 1 _ _ _ Hbx.out
           have f0 := frozen_of_row _ bx 0 _ _ Hbx.out
           have f1 := frozen_of_row _ bx 1 _ _ Hbx.out
           have HF1 := Lib.hid (heap_setCell_same _ bx 1 _ _ (.int .i64 ad) (heap_setCell_same _ bx 0 _ _ (.int .i64 an) Hbx.out))
           have HF3 := Lib.hid ((H3.out.setCell (p := ⟨bx, 0, none⟩) Hge.out (.int .i64 an)).setCell (p := ⟨bx, 1, none⟩) Hge.out (.int .i64 ad))
           go_simp
           refine hK.out _ _ (HS.out _ HF3.out) (fun hHeld2 => ?_)
           clear hK K t0 t1 f0 f1
           try simp only [Act.put, List.getElem_toArray, List.getElem_cons_zero, List.getElem_cons_succ, List.setIfInBounds_toArray, List.set_cons_zero, List.set_cons_succ]
           refine wpAnyH_take (i := 9) (v := ?_) rfl (by kernel_rfl) (by kernel_rfl) (by kernel_rfl) (fun _ _ _ h => h) (Or.inl ⟨by rfl, ?_⟩) (by assumption) ?_
           rotate_left
           ·intro w hSw; (try dsimp only at hSw); go_simp; (try with_reducible rfl)
           try simp only [Act.put, List.getElem_toArray, List.getElem_cons_zero, List.getElem_cons_succ, List.setIfInBounds_toArray, List.set_cons_zero, List.set_cons_succ]
           refine wpAnyH_done (by kernel_rfl) ?_ _
           refine NoPanic.normal ?_
           go_wp2_with fail
           go_meet
           exact ⟨rfl, bx, rfl, HF1.out, Hge.out, HF3.out⟩
        ·skip
         go_simp
         have H2' := bal H1.out (.cells #[.int .i64 0, .int .i64 0] 56)
         have Hbx' := heap_alloc_new L1 (.cells #[.int .i64 0, .int .i64 0] 56)
         have Hge' := H1.out.size
         have Hq' := RQ.keepb Hq.out ((Below.refl L1.heap.size L1).alloc (Nat.le_refl _) (.cells #[.int .i64 0, .int .i64 0] 56))
         refine hK.out _ _ (HS.out _ H2') (fun hHeld2 => ?_)
         clear hK K
         generalize hgen : World.alloc L1 _ = L2 at *
         clear hgen
         generalize L1.heap.size = bx at *
         have H2 := Lib.hid H2'
         have Hbx := Lib.hid Hbx'
         have Hge := Lib.hid Hge'
         clear Hq
         have Hq := Lib.hid Hq'
         clear Hq'
         clear H2' Hbx' Hge'
         try simp only [Act.put, List.getElem_toArray, List.getElem_cons_zero, List.getElem_cons_succ, List.setIfInBounds_toArray, List.set_cons_zero, List.set_cons_succ]
         refine wpAnyH_ready (rs := [3]) (by kernel_rfl) (by simp) ?_
         refine AllReadyH.cons rfl (fun K hK => ?_) (AllReadyH.nil)
         ·skip
          go_simp
          refine (HAt.out L2 _ H2.out Hq.out).mono ?_
          rintro e L3 ⟨he, hb⟩
          obtain rfl := he
          have H3 := Lib.hid (bt H2.out hb)
          replace Hbx := Lib.hid (hp_keep4 Hbx.out hb)
          refine hK.out _ _ (HS.out L3 H3.out) (fun hHeld2 => ?_)
          clear hK K hb Hq
          try simp only [Act.put, List.getElem_toArray, List.getElem_cons_zero, List.getElem_cons_succ, List.setIfInBounds_toArray, List.set_cons_zero, List.set_cons_succ]
          refine wpAnyH_take (i := 4) (v := ?_) rfl (by kernel_rfl) (by kernel_rfl) (by kernel_rfl) (fun _ _ _ h => h) (Or.inl ⟨by rfl, ?_⟩) (by assumption) ?_
          rotate_left
          ·intro w hSw; (try dsimp only at hSw); go_simp; (try with_reducible rfl)
          try simp only [Act.put, List.getElem_toArray, List.getElem_cons_zero, List.getElem_cons_succ, List.setIfInBounds_toArray, List.set_cons_zero, List.set_cons_succ]
          refine wpAnyH_take (i := 5) (v := ?_) rfl (by kernel_rfl) (by kernel_rfl) (by kernel_rfl) (fun _ _ _ h => h) (Or.inl ⟨by rfl, ?_⟩) (by assumption) ?_
          rotate_left
          ·intro w hSw; (try dsimp only at hSw); go_simp; (try with_reducible rfl)
          try simp only [Act.put, List.getElem_toArray, List.getElem_cons_zero, List.getElem_cons_succ, List.setIfInBounds_toArray, List.set_cons_zero, List.set_cons_succ]
          refine wpAnyH_take (i := 6) (v := ?_) rfl (by kernel_rfl) (by kernel_rfl) (by kernel_rfl) (fun _ _ _ h => h) (Or.inl ⟨by rfl, ?_⟩) (by assumption) ?_
          rotate_left
          ·intro w hSw; (try dsimp only at hSw); go_simp; (try with_reducible rfl)
          try simp only [Act.put, List.getElem_toArray, List.getElem_cons_zero, List.getElem_cons_succ, List.setIfInBounds_toArray, List.set_cons_zero, List.set_cons_succ]
          refine wpAnyH_ready (rs := [8]) (by kernel_rfl) (by simp) ?_
          refine AllReadyH.cons rfl (fun K hK => ?_) (AllReadyH.nil)
          ·skip
           have t0 := cell_of_row _ bx 0 _ _ _ Hbx.out
           have t1 := cell_of_row _ bx 1 _ _ _ Hbx.out
           have f0 := frozen_of_row _ bx 0 _ _ Hbx.out
           have f1 := frozen_of_row _ bx 1 _ _ Hbx.out
           have HF1 := Lib.hid (heap_setCell_same _ bx 1 _ _ (.int .i64 ad) (heap_setCell_same _ bx 0 _ _ (.int .i64 an) Hbx.out))
           have HF3 := Lib.hid ((H3.out.setCell (p := ⟨bx, 0, none⟩) Hge.out (.int .i64 an)).setCell (p := ⟨bx, 1, none⟩) Hge.out (.int .i64 ad))
           go_simp
           refine hK.out _ _ (HS.out _ HF3.out) (fun hHeld2 => ?_)
           clear hK K t0 t1 f0 f1
           try simp only [Act.put, List.getElem_toArray, List.getElem_cons_zero, List.getElem_cons_succ, List.setIfInBounds_toArray, List.set_cons_zero, List.set_cons_succ]
           refine wpAnyH_take (i := 9) (v := ?_) rfl (by kernel_rfl) (by kernel_rfl) (by kernel_rfl) (fun _ _ _ h => h) (Or.inl ⟨by rfl, ?_⟩) (by assumption) ?_
           rotate_left
           ·intro w hSw; (try dsimp only at hSw); go_simp; (try with_reducible rfl)
           try simp only [Act.put, List.getElem_toArray, List.getElem_cons_zero, List.getElem_cons_succ, List.setIfInBounds_toArray, List.set_cons_zero, List.set_cons_succ]
           refine wpAnyH_done (by kernel_rfl) ?_ _
           refine NoPanic.normal ?_
           go_wp2_with fail
           go_meet
           exact ⟨rfl, bx, rfl, HF1.out, Hge.out, HF3.out⟩
       ·skip
        go_simp
        have H1' := bal H0.out (.cells #[.int .i64 0, .int .i64 0] 56)
        have Hbx' := heap_alloc_new L0 (.cells #[.int .i64 0, .int .i64 0] 56)
        have Hge' := H0.out.size
        refine hK.out _ _ (HS.out _ H1') (fun hHeld2 => ?_)
        clear hK K
        generalize hgen : World.alloc L0 _ = L1 at *
        clear hgen
        generalize L0.heap.size = bx at *
        have H1 := Lib.hid H1'
        have Hbx := Lib.hid Hbx'
        have Hge := Lib.hid Hge'
        clear H1' Hbx' Hge'
        try simp only [Act.put, List.getElem_toArray, List.getElem_cons_zero, List.getElem_cons_succ, List.setIfInBounds_toArray, List.set_cons_zero, List.set_cons_succ]
        refine wpAnyH_ready (rs := [2]) (by kernel_rfl) (by simp) ?_
        refine AllReadyH.cons rfl (fun K hK => ?_) (AllReadyH.nil)
        ·skip
         go_simp
         refine (HRat.out L1 H1.out).mono ?_
         rintro e L2 ⟨⟨qv, rfl, hq⟩, hb⟩
         have H2 := Lib.hid (bt H1.out hb)
         have Hq := Lib.hid (OQ.rq hq)
         replace Hbx := Lib.hid (hp_keep4 Hbx.out hb)
         refine hK.out _ _ (HS.out L2 H2.out) (fun hHeld2 => ?_)
         clear hK K hb hq
         try simp only [Act.put, List.getElem_toArray, List.getElem_cons_zero, List.getElem_cons_succ, List.setIfInBounds_toArray, List.set_cons_zero, List.set_cons_succ]
         refine wpAnyH_ready (rs := [3]) (by kernel_rfl) (by simp) ?_
         refine AllReadyH.cons rfl (fun K hK => ?_) (AllReadyH.nil)
         ·skip
          go_simp
          refine (HAt.out L2 _ H2.out Hq.out).mono ?_
          rintro e L3 ⟨he, hb⟩
          obtain rfl := he
          have H3 := Lib.hid (bt H2.out hb)
          replace Hbx := Lib.hid (hp_keep4 Hbx.out hb)
          refine hK.out _ _ (HS.out L3 H3.out) (fun hHeld2 => ?_)
          clear hK K hb Hq
          try simp only [Act.put, List.getElem_toArray, List.getElem_cons_zero, List.getElem_cons_succ, List.setIfInBounds_toArray, List.set_cons_zero, List.set_cons_succ]
          refine wpAnyH_take (i := 4) (v := ?_) rfl (by kernel_rfl) (by kernel_rfl) (by kernel_rfl) (fun _ _ _ h => h) (Or.inl ⟨by rfl, ?_⟩) (by assumption) ?_
          rotate_left
          ·intro w hSw; (try dsimp only at hSw); go_simp; (try with_reducible rfl)
          try simp only [Act.put, List.getElem_toArray, List.getElem_cons_zero, List.getElem_cons_succ, List.setIfInBounds_toArray, List.set_cons_zero, List.set_cons_succ]
          refine wpAnyH_take (i := 5) (v := ?_) rfl (by kernel_rfl) (by kernel_rfl) (by kernel_rfl) (fun _ _ _ h => h) (Or.inl ⟨by rfl, ?_⟩) (by assumption) ?_
          rotate_left
          ·intro w hSw; (try dsimp only at hSw); go_simp; (try with_reducible rfl)
          try simp only [Act.put, List.getElem_toArray, List.getElem_cons_zero, List.getElem_cons_succ, List.setIfInBounds_toArray, List.set_cons_zero, List.set_cons_succ]
          refine wpAnyH_take (i := 6) (v := ?_) rfl (by kernel_rfl) (by kernel_rfl) (by kernel_rfl) (fun _ _ _ h => h) (Or.inl ⟨by rfl, ?_⟩) (by assumption) ?_
          rotate_left
          ·intro w hSw; (try dsimp only at hSw); go_simp; (try with_reducible rfl)
          try simp only [Act.put, List.getElem_toArray, List.getElem_cons_zero, List.getElem_cons_succ, List.setIfInBounds_toArray, List.set_cons_zero, List.set_cons_succ]
          refine wpAnyH_ready (rs := [8]) (by kernel_rfl) (by simp) ?_
          refine AllReadyH.cons rfl (fun K hK => ?_) (AllReadyH.nil)
          ·skip
           have t0 := cell_of_row _ bx 0 _ _ _ Hbx.out
           have t1 := cell_of_row _ bx 1 _ _ _ Hbx.out
           have f0 := frozen_of_row _ bx 0 _ _ Hbx.out
           have f1 := frozen_of_row _ bx 1 _ _ Hbx.out
           have HF1 := Lib.hid (heap_setCell_same _ bx 1 _ _ (.int .i64 ad) (heap_setCell_same _ bx 0 _ _ (.int .i64 an) Hbx.out))
           have HF3 := Lib.hid ((H3.out.setCell (p := ⟨bx, 0, none⟩) Hge.out (.int .i64 an)).setCell (p := ⟨bx, 1, none⟩) Hge.out (.int .i64 ad))
           go_simp
           refine hK.out _ _ (HS.out _ HF3.out) (fun hHeld2 => ?_)
           clear hK K t0 t1 f0 f1
           try simp only [Act.put, List.getElem_toArray, List.getElem_cons_zero, List.getElem_cons_succ, List.setIfInBounds_toArray, List.set_cons_zero, List.set_cons_succ]
           refine wpAnyH_take (i := 9) (v := ?_) rfl (by kernel_rfl) (by kernel_rfl) (by kernel_rfl) (fun _ _ _ h => h) (Or.inl ⟨by rfl, ?_⟩) (by assumption) ?_
           rotate_left
           ·intro w hSw; (try dsimp only at hSw); go_simp; (try with_reducible rfl)
           try simp only [Act.put, List.getElem_toArray, List.getElem_cons_zero, List.getElem_cons_succ, List.setIfInBounds_toArray, List.set_cons_zero, List.set_cons_succ]
           refine wpAnyH_done (by kernel_rfl) ?_ _
           refine NoPanic.normal ?_
           go_wp2_with fail
           go_meet
           exact ⟨rfl, bx, rfl, HF1.out, Hge.out, HF3.out⟩
      case rest =>
       obtain ⟨rfl, bx, rfl, hbx, hge, hbel⟩ := hcut
       clear HS HRat HAt
       have hb := hbel
       have t0 := cell_of_row _ bx 0 _ _ _ hbx
       have t1 := cell_of_row _ bx 1 _ _ _ hbx
       clear hbel z0 z1 z2 z3 hbx
       replace HBz := Lib.hid (hp_keep4 HBz.out hb)
       replace Hvz := Lib.hid (RL.keepb Hvz.out hb)
       replace Hrz := Lib.hid (RL.keepb Hrz.out hb)
       replace Hq := Lib.hid (RL.keepb Hq.out hb)
       replace HG := Lib.hid (GR.keepb HG.out hb)
       replace HWF := Lib.hid (bt HWF.out hb)
       replace HW := Lib.hid (bt HW.out hb)
       clear hb
       cases hh with
       | false =>
        have HN3 := Lib.hid (show bestTo vs.length xs c rs rate vs (d + 1) = (a, fd) by rw [HN.out, if_neg (fun h => by cases h.1)])
        clear HN
        go_wp2_with fail
        go_roundw
        case rel => exact ⟨d + 1, a, fd, by omega, rfl, rfl, by go_num, HN3.out, HWF.out⟩
        case measure => simp [intOf]; omega
       | true =>
        by_cases h1 : ae = 0
        rotate_left
        ·have h1' : (ae == 0) = false := by simpa using h1
         have HN3 := Lib.hid (show bestTo vs.length xs c rs rate vs (d + 1) = (a, fd) by rw [HN.out, if_neg (fun h => h1 h.2)])
         clear HN
         go_wp2_with fail
         go_roundw
         case rel => exact ⟨d + 1, a, fd, by omega, rfl, rfl, by go_num, HN3.out, HWF.out⟩
         case measure => simp [intOf]; omega
        have h1' : (ae == 0) = true := by simpa using h1
        cases fd with
        | false =>
         have HN3 := Lib.hid (show bestTo vs.length xs c rs rate vs (d + 1) = ((wrap64 (an + wrap64 (rate * d))), true) by rw [HN.out, if_pos ⟨rfl, h1⟩, if_pos (.inl rfl)])
         clear HN
         go_wp2_with fail
         go_roundw
         case rel => exact ⟨d + 1, (wrap64 (an + wrap64 (rate * d))), true, by omega, rfl, rfl, by go_num, HN3.out, HWF.out⟩
         case measure => simp [intOf]; omega
        | true =>
         by_cases h5 : (wrap64 (an + wrap64 (rate * d))) < a
         ·have h5' : decide ((wrap64 (an + wrap64 (rate * d))) < a) = true := by simpa using h5
          have HN3 := Lib.hid (show bestTo vs.length xs c rs rate vs (d + 1) = ((wrap64 (an + wrap64 (rate * d))), true) by rw [HN.out, if_pos ⟨rfl, h1⟩, if_pos (.inr h5)])
          clear HN
          go_wp2_with fail
          go_roundw
          case rel => exact ⟨d + 1, (wrap64 (an + wrap64 (rate * d))), true, by omega, rfl, rfl, by go_num, HN3.out, HWF.out⟩
          case measure => simp [intOf]; omega
         ·have h5' : decide ((wrap64 (an + wrap64 (rate * d))) < a) = false := by simpa using h5
          have HN3 := Lib.hid (show bestTo vs.length xs c rs rate vs (d + 1) = (a, true) by rw [HN.out, if_pos ⟨rfl, h1⟩, if_neg (fun h => by rcases h with h | h <;> first | cases h | exact h5 h)])
          clear HN
          go_wp2_with fail
          go_roundw
          case rel => exact ⟨d + 1, a, true, by omega, rfl, rfl, by go_num, HN3.out, HWF.out⟩
          case measure => simp [intOf]; omega
end Go.Proofs.YtfphlpglgcmljaaGreat
