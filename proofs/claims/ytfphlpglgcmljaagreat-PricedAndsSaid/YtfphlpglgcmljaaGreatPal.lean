/- The law PricedAnds answers true for every input, and writes nothing that was there. -/
import Derived.Test.YtfphlpglgcmljaaGreatPad
import Derived.Test.YtfphlpglgcmljaaGreatPla
import Derived.Test.YtfphlpglgcmljaaGreatPaw
namespace Go.Proofs.YtfphlpglgcmljaaGreat
open Go.RowKit
set_option linter.unusedVariables false

theorem bw23 {w X X' : World} (h : Below w.heap.size w X) (hb : Below X.heap.size X X') : Below w.heap.size w X' := bt h hb
/-- A priced zone and an error that a call returns, as they read behind it. -/
def PR (r : Pv × Int) (e : Ending) (w' : World) : Prop := ∃ v rv, e = .returned (.tuple #[.agg #[.int .i64 r.1.n, v, .int .i64 r.1.c, rv], .int .i64 r.2]) ∧ RL w'.heap.size w' v r.1.xs ∧ RL w'.heap.size w' rv r.1.rs
theorem PO.pr {base : Nat} {r : Pv × Int} {e : Ending} {w' : World} (h : PO base r e w') : PR r e w' := by
  obtain ⟨v, rv, h1, h2, h3⟩ := h
  exact ⟨v, rv, h1, OL.rl h2, OL.rl h3⟩
theorem paddF_form (n c : Int) (xs rs : List Int) (m : Int) : (∃ N C R, paddF n xs c rs m = (⟨N, xs, C, R⟩, 0)) ∨ ∃ x, x ≠ 0 ∧ paddF n xs c rs m = (pv0, x) := by
  unfold paddF
  split
  · rcases onF_two n.toNat xs (c + m) rs xs 0 0 0 with ⟨C, R, h⟩ | h
    · exact .inl ⟨_, _, _, h⟩
    · exact .inr ⟨7, by decide, h⟩
  · exact .inr ⟨2, by decide, rfl⟩
theorem ref_padd_pr (n c m : Int) (v rv : Value) (xs rs : List Int) (w : World) (hv : RL w.heap.size w v xs) (hr : RL w.heap.size w rv rs) :
    Calls Tryz.prog 32 #[.agg #[.int .i64 n, v, .int .i64 c, rv], .int .i64 m] w fun e w' => PR (paddF n xs c rs m) e w' ∧ Below w.heap.size w w' := by
  refine (ref_padd n c m v rv xs rs w hv hr).mono ?_
  rintro e w' ⟨⟨rv', he, ho⟩, hb⟩
  refine ⟨⟨_, _, he, ?_, OL.rl ho⟩, hb⟩
  rcases paddF_form n c xs rs m with ⟨N, C, R, h⟩ | ⟨x, hx, h⟩
  · rw [h]; exact hv.keepb hb
  · rw [h]; show RL _ w' (if x = 0 then v else .slice none 0 0) []
    rw [if_neg hx]; exact RL.nil _ _
set_option maxRecDepth 100000 in
set_option maxHeartbeats 8000000 in
theorem law_priced_ands (n c m : Int) (v rv lv : Value) (xs rs : List Int) (cs : List Kc) (w : World) (hv : RL w.heap.size w v xs) (hr : RL w.heap.size w rv rs) (hl : RX cdCon w.heap.size w lv cs) :
    Calls Tryz.prog 8 #[.agg #[.int .i64 n, v, .int .i64 c, rv], lv, .int .i64 m] w fun e w' => e = .returned (.bool true) ∧ Below w.heap.size w w' := by
  have Hvz := Lib.hid hv
  have Hrz := Lib.hid hr
  have Hl := Lib.hid hl
  obtain ⟨aoz, capz, rfl, _, _⟩ := hv.open
  obtain ⟨aorz, caprz, rfl, _, _⟩ := hr.open
  obtain ⟨aol, capl, rfl, _, _⟩ := hl.open
  have HW := Lib.hid (Below.refl w.heap.size w)
  clear hv hr hl
  go_enter Tryz.func8, Tryz.ntmps8
  replace Hvz := Lib.hid (RL.keepb Hvz.out ((Below.refl _ w).alloc (Nat.le_refl _) (.cells #[.int .i64 n, .slice aoz xs.length capz, .int .i64 c, .slice aorz rs.length caprz] 35)))
  replace Hrz := Lib.hid (RL.keepb Hrz.out ((Below.refl _ w).alloc (Nat.le_refl _) (.cells #[.int .i64 n, .slice aoz xs.length capz, .int .i64 c, .slice aorz rs.length caprz] 35)))
  replace Hl := Lib.hid (RX.keepb Hl.out ((Below.refl _ w).alloc (Nat.le_refl _) (.cells #[.int .i64 n, .slice aoz xs.length capz, .int .i64 c, .slice aorz rs.length caprz] 35)))
  replace HW := Lib.hid (bal HW.out (.cells #[.int .i64 n, .slice aoz xs.length capz, .int .i64 c, .slice aorz rs.length caprz] 35))
  have HBz := Lib.hid (heap_alloc_new w (.cells #[.int .i64 n, .slice aoz xs.length capz, .int .i64 c, .slice aorz rs.length caprz] 35))
  go_upto_region 1 with fail
  generalize w.alloc (.cells #[.int .i64 n, .slice aoz xs.length capz, .int .i64 c, .slice aorz rs.length caprz] 35) = Xa at *
  have qz0 : Xa.cell? ⟨w.heap.size, 0, none⟩ = some (.int .i64 n) := cell_of_row _ w.heap.size 0 _ _ _ HBz.out
  have qz1 : Xa.cell? ⟨w.heap.size, 1, none⟩ = some (.slice aoz xs.length capz) := cell_of_row _ w.heap.size 1 _ _ _ HBz.out
  have qz2 : Xa.cell? ⟨w.heap.size, 2, none⟩ = some (.int .i64 c) := cell_of_row _ w.heap.size 2 _ _ _ HBz.out
  have qz3 : Xa.cell? ⟨w.heap.size, 3, none⟩ = some (.slice aorz rs.length caprz) := cell_of_row _ w.heap.size 3 _ _ _ HBz.out
  go_wp2_with fail
  refine (law_large23 n c _ _ xs rs _ Hvz.out Hrz.out).mono ?_
  rintro e w1 ⟨bl, rfl, hbl, hb⟩
  clear qz0 qz1 qz2 qz3
  replace HBz := Lib.hid (hp_keep4 HBz.out hb)
  replace Hvz := Lib.hid (RL.keepb Hvz.out hb)
  replace Hrz := Lib.hid (RL.keepb Hrz.out hb)
  replace Hl := Lib.hid (RX.keepb Hl.out hb)
  replace HW := Lib.hid (bw23 HW.out hb)
  clear hb
  cases bl with
  | true =>
    go_wp2_with fail
    refine (law_awake _).mono ?_
    rintro e w9 ⟨rfl, hb⟩
    go_wp2_with fail
    go_ret
    exact ⟨rfl, bw23 HW.out hb⟩
  | false =>
    by_cases h2 : 110 < cs.length
    · have h2' : decide ((110 : Int) < (cs.length : Int)) = true := by simp; omega
      clear h2
      go_wp2_with fail
      refine (law_awake _).mono ?_
      rintro e w9 ⟨rfl, hb⟩
      go_wp2_with fail
      go_ret
      exact ⟨rfl, bw23 HW.out hb⟩
    have h2' : decide ((110 : Int) < (cs.length : Int)) = false := by simp; omega
    have HN := Lib.hid (show cs.length ≤ 1000 by omega)
    have HS := Lib.hid (hbl rfl)
    clear h2 hbl
    have qz0 : w1.cell? ⟨w.heap.size, 0, none⟩ = some (.int .i64 n) := cell_of_row _ w.heap.size 0 _ _ _ HBz.out
    have qz1 : w1.cell? ⟨w.heap.size, 1, none⟩ = some (.slice aoz xs.length capz) := cell_of_row _ w.heap.size 1 _ _ _ HBz.out
    have qz2 : w1.cell? ⟨w.heap.size, 2, none⟩ = some (.int .i64 c) := cell_of_row _ w.heap.size 2 _ _ _ HBz.out
    have qz3 : w1.cell? ⟨w.heap.size, 3, none⟩ = some (.slice aorz rs.length caprz) := cell_of_row _ w.heap.size 3 _ _ _ HBz.out
    go_wp2_with fail
    refine (law_copied23 n c _ _ xs rs _ Hvz.out Hrz.out HS.out.2.1 HS.out.2.2).mono ?_
    rintro e w2 ⟨⟨v', rv', rfl, hv, hr⟩, hb⟩
    clear qz0 qz1 qz2 qz3
    replace HBz := Lib.hid (hp_keep4 HBz.out hb)
    replace Hvz := Lib.hid (RL.keepb Hvz.out hb)
    replace Hrz := Lib.hid (RL.keepb Hrz.out hb)
    replace Hl := Lib.hid (RX.keepb Hl.out hb)
    replace HW := Lib.hid (bw23 HW.out hb)
    have Hvo := Lib.hid hv
    have Hro := Lib.hid hr
    obtain ⟨aoo, capo, rfl, _, _⟩ := hv.open
    obtain ⟨aoro, capro, rfl, _, _⟩ := hr.open
    clear hv hr hb
    replace HBz := Lib.hid (hp_keep4 HBz.out ((Below.refl _ w2).alloc (Nat.le_refl _) (.cells #[.int .i64 n, .slice aoo xs.length capo, .int .i64 c, .slice aoro rs.length capro] 35)))
    replace Hvz := Lib.hid (RL.keepb Hvz.out ((Below.refl _ w2).alloc (Nat.le_refl _) (.cells #[.int .i64 n, .slice aoo xs.length capo, .int .i64 c, .slice aoro rs.length capro] 35)))
    replace Hrz := Lib.hid (RL.keepb Hrz.out ((Below.refl _ w2).alloc (Nat.le_refl _) (.cells #[.int .i64 n, .slice aoo xs.length capo, .int .i64 c, .slice aoro rs.length capro] 35)))
    replace Hvo := Lib.hid (RL.keepb Hvo.out ((Below.refl _ w2).alloc (Nat.le_refl _) (.cells #[.int .i64 n, .slice aoo xs.length capo, .int .i64 c, .slice aoro rs.length capro] 35)))
    replace Hro := Lib.hid (RL.keepb Hro.out ((Below.refl _ w2).alloc (Nat.le_refl _) (.cells #[.int .i64 n, .slice aoo xs.length capo, .int .i64 c, .slice aoro rs.length capro] 35)))
    replace Hl := Lib.hid (RX.keepb Hl.out ((Below.refl _ w2).alloc (Nat.le_refl _) (.cells #[.int .i64 n, .slice aoo xs.length capo, .int .i64 c, .slice aoro rs.length capro] 35)))
    replace HW := Lib.hid (bw23 HW.out ((Below.refl _ w2).alloc (Nat.le_refl _) (.cells #[.int .i64 n, .slice aoo xs.length capo, .int .i64 c, .slice aoro rs.length capro] 35)))
    have HBo := Lib.hid (heap_alloc_new w2 (.cells #[.int .i64 n, .slice aoo xs.length capo, .int .i64 c, .slice aoro rs.length capro] 35))
    go_upto_region 4 with fail
    generalize w2.alloc (.cells #[.int .i64 n, .slice aoo xs.length capo, .int .i64 c, .slice aoro rs.length capro] 35) = X2 at *
    generalize w2.heap.size = bo at *
    have qo0 : X2.cell? ⟨bo, 0, none⟩ = some (.int .i64 n) := cell_of_row _ bo 0 _ _ _ HBo.out
    have qo1 : X2.cell? ⟨bo, 1, none⟩ = some (.slice aoo xs.length capo) := cell_of_row _ bo 1 _ _ _ HBo.out
    have qo2 : X2.cell? ⟨bo, 2, none⟩ = some (.int .i64 c) := cell_of_row _ bo 2 _ _ _ HBo.out
    have qo3 : X2.cell? ⟨bo, 3, none⟩ = some (.slice aoro rs.length capro) := cell_of_row _ bo 3 _ _ _ HBo.out
    go_wp2_with fail
    refine (prog_pand n c _ _ _ xs rs cs _ Hvo.out Hro.out Hl.out HN.out).mono ?_
    rintro e w3 ⟨h, hb⟩
    replace h := PO.pr h
    clear qo0 qo1 qo2 qo3
    replace HBz := Lib.hid (hp_keep4 HBz.out hb)
    replace HBo := Lib.hid (hp_keep4 HBo.out hb)
    replace Hvz := Lib.hid (RL.keepb Hvz.out hb)
    replace Hrz := Lib.hid (RL.keepb Hrz.out hb)
    replace Hvo := Lib.hid (RL.keepb Hvo.out hb)
    replace Hro := Lib.hid (RL.keepb Hro.out hb)
    replace Hl := Lib.hid (RX.keepb Hl.out hb)
    replace HW := Lib.hid (bw23 HW.out hb)
    generalize hRR : pandF n xs c rs cs = RR at *
    have HA := Lib.hid hRR
    clear hRR
    obtain ⟨⟨nA, xsA, cA, rsA⟩, xA⟩ := RR
    obtain ⟨v', rv', he, hv, hr⟩ := h
    obtain rfl : e = .returned (.tuple #[.agg #[.int .i64 nA, v', .int .i64 cA, rv'], .int .i64 xA]) := he
    have hv : RL _ _ _ xsA := hv
    have hr : RL _ _ _ rsA := hr
    have Hva := Lib.hid hv
    have Hra := Lib.hid hr
    obtain ⟨aoa, capa, rfl, _, _⟩ := hv.open
    obtain ⟨aora, capra, rfl, _, _⟩ := hr.open
    clear hv hr hb
    replace HBz := Lib.hid (hp_keep4 HBz.out ((Below.refl _ w3).alloc (Nat.le_refl _) (.cells #[.int .i64 nA, .slice aoa xsA.length capa, .int .i64 cA, .slice aora rsA.length capra] 35)))
    replace HBo := Lib.hid (hp_keep4 HBo.out ((Below.refl _ w3).alloc (Nat.le_refl _) (.cells #[.int .i64 nA, .slice aoa xsA.length capa, .int .i64 cA, .slice aora rsA.length capra] 35)))
    replace Hvz := Lib.hid (RL.keepb Hvz.out ((Below.refl _ w3).alloc (Nat.le_refl _) (.cells #[.int .i64 nA, .slice aoa xsA.length capa, .int .i64 cA, .slice aora rsA.length capra] 35)))
    replace Hrz := Lib.hid (RL.keepb Hrz.out ((Below.refl _ w3).alloc (Nat.le_refl _) (.cells #[.int .i64 nA, .slice aoa xsA.length capa, .int .i64 cA, .slice aora rsA.length capra] 35)))
    replace Hvo := Lib.hid (RL.keepb Hvo.out ((Below.refl _ w3).alloc (Nat.le_refl _) (.cells #[.int .i64 nA, .slice aoa xsA.length capa, .int .i64 cA, .slice aora rsA.length capra] 35)))
    replace Hro := Lib.hid (RL.keepb Hro.out ((Below.refl _ w3).alloc (Nat.le_refl _) (.cells #[.int .i64 nA, .slice aoa xsA.length capa, .int .i64 cA, .slice aora rsA.length capra] 35)))
    replace Hva := Lib.hid (RL.keepb Hva.out ((Below.refl _ w3).alloc (Nat.le_refl _) (.cells #[.int .i64 nA, .slice aoa xsA.length capa, .int .i64 cA, .slice aora rsA.length capra] 35)))
    replace Hra := Lib.hid (RL.keepb Hra.out ((Below.refl _ w3).alloc (Nat.le_refl _) (.cells #[.int .i64 nA, .slice aoa xsA.length capa, .int .i64 cA, .slice aora rsA.length capra] 35)))
    replace Hl := Lib.hid (RX.keepb Hl.out ((Below.refl _ w3).alloc (Nat.le_refl _) (.cells #[.int .i64 nA, .slice aoa xsA.length capa, .int .i64 cA, .slice aora rsA.length capra] 35)))
    replace HW := Lib.hid (bw23 HW.out ((Below.refl _ w3).alloc (Nat.le_refl _) (.cells #[.int .i64 nA, .slice aoa xsA.length capa, .int .i64 cA, .slice aora rsA.length capra] 35)))
    have HBa := Lib.hid (heap_alloc_new w3 (.cells #[.int .i64 nA, .slice aoa xsA.length capa, .int .i64 cA, .slice aora rsA.length capra] 35))
    go_upto_region 5 with fail
    generalize w3.alloc (.cells #[.int .i64 nA, .slice aoa xsA.length capa, .int .i64 cA, .slice aora rsA.length capra] 35) = X3 at *
    generalize w3.heap.size = ba at *
    have qz0 : X3.cell? ⟨w.heap.size, 0, none⟩ = some (.int .i64 n) := cell_of_row _ w.heap.size 0 _ _ _ HBz.out
    have qz1 : X3.cell? ⟨w.heap.size, 1, none⟩ = some (.slice aoz xs.length capz) := cell_of_row _ w.heap.size 1 _ _ _ HBz.out
    have qz2 : X3.cell? ⟨w.heap.size, 2, none⟩ = some (.int .i64 c) := cell_of_row _ w.heap.size 2 _ _ _ HBz.out
    have qz3 : X3.cell? ⟨w.heap.size, 3, none⟩ = some (.slice aorz rs.length caprz) := cell_of_row _ w.heap.size 3 _ _ _ HBz.out
    go_wp2_with fail
    refine (ref_pand n c _ _ _ xs rs cs _ Hvz.out Hrz.out Hl.out HN.out).mono ?_
    rintro e w4 ⟨h, hb⟩
    replace h := PO.pr h
    clear qz0 qz1 qz2 qz3
    replace HBz := Lib.hid (hp_keep4 HBz.out hb)
    replace HBo := Lib.hid (hp_keep4 HBo.out hb)
    replace HBa := Lib.hid (hp_keep4 HBa.out hb)
    replace Hvz := Lib.hid (RL.keepb Hvz.out hb)
    replace Hrz := Lib.hid (RL.keepb Hrz.out hb)
    replace Hvo := Lib.hid (RL.keepb Hvo.out hb)
    replace Hro := Lib.hid (RL.keepb Hro.out hb)
    replace Hva := Lib.hid (RL.keepb Hva.out hb)
    replace Hra := Lib.hid (RL.keepb Hra.out hb)
    replace Hl := Lib.hid (RX.keepb Hl.out hb)
    replace HW := Lib.hid (bw23 HW.out hb)
    rw [HA.out] at h
    obtain ⟨v', rv', he, hv, hr⟩ := h
    obtain rfl : e = .returned (.tuple #[.agg #[.int .i64 nA, v', .int .i64 cA, rv'], .int .i64 xA]) := he
    have hv : RL _ _ _ xsA := hv
    have hr : RL _ _ _ rsA := hr
    have Hvb := Lib.hid hv
    have Hrb := Lib.hid hr
    obtain ⟨aob, capb, rfl, _, _⟩ := hv.open
    obtain ⟨aorb, caprb, rfl, _, _⟩ := hr.open
    clear hv hr hb
    replace HBz := Lib.hid (hp_keep4 HBz.out ((Below.refl _ w4).alloc (Nat.le_refl _) (.cells #[.int .i64 nA, .slice aob xsA.length capb, .int .i64 cA, .slice aorb rsA.length caprb] 35)))
    replace HBo := Lib.hid (hp_keep4 HBo.out ((Below.refl _ w4).alloc (Nat.le_refl _) (.cells #[.int .i64 nA, .slice aob xsA.length capb, .int .i64 cA, .slice aorb rsA.length caprb] 35)))
    replace HBa := Lib.hid (hp_keep4 HBa.out ((Below.refl _ w4).alloc (Nat.le_refl _) (.cells #[.int .i64 nA, .slice aob xsA.length capb, .int .i64 cA, .slice aorb rsA.length caprb] 35)))
    replace Hvz := Lib.hid (RL.keepb Hvz.out ((Below.refl _ w4).alloc (Nat.le_refl _) (.cells #[.int .i64 nA, .slice aob xsA.length capb, .int .i64 cA, .slice aorb rsA.length caprb] 35)))
    replace Hrz := Lib.hid (RL.keepb Hrz.out ((Below.refl _ w4).alloc (Nat.le_refl _) (.cells #[.int .i64 nA, .slice aob xsA.length capb, .int .i64 cA, .slice aorb rsA.length caprb] 35)))
    replace Hvo := Lib.hid (RL.keepb Hvo.out ((Below.refl _ w4).alloc (Nat.le_refl _) (.cells #[.int .i64 nA, .slice aob xsA.length capb, .int .i64 cA, .slice aorb rsA.length caprb] 35)))
    replace Hro := Lib.hid (RL.keepb Hro.out ((Below.refl _ w4).alloc (Nat.le_refl _) (.cells #[.int .i64 nA, .slice aob xsA.length capb, .int .i64 cA, .slice aorb rsA.length caprb] 35)))
    replace Hva := Lib.hid (RL.keepb Hva.out ((Below.refl _ w4).alloc (Nat.le_refl _) (.cells #[.int .i64 nA, .slice aob xsA.length capb, .int .i64 cA, .slice aorb rsA.length caprb] 35)))
    replace Hra := Lib.hid (RL.keepb Hra.out ((Below.refl _ w4).alloc (Nat.le_refl _) (.cells #[.int .i64 nA, .slice aob xsA.length capb, .int .i64 cA, .slice aorb rsA.length caprb] 35)))
    replace Hvb := Lib.hid (RL.keepb Hvb.out ((Below.refl _ w4).alloc (Nat.le_refl _) (.cells #[.int .i64 nA, .slice aob xsA.length capb, .int .i64 cA, .slice aorb rsA.length caprb] 35)))
    replace Hrb := Lib.hid (RL.keepb Hrb.out ((Below.refl _ w4).alloc (Nat.le_refl _) (.cells #[.int .i64 nA, .slice aob xsA.length capb, .int .i64 cA, .slice aorb rsA.length caprb] 35)))
    replace Hl := Lib.hid (RX.keepb Hl.out ((Below.refl _ w4).alloc (Nat.le_refl _) (.cells #[.int .i64 nA, .slice aob xsA.length capb, .int .i64 cA, .slice aorb rsA.length caprb] 35)))
    replace HW := Lib.hid (bw23 HW.out ((Below.refl _ w4).alloc (Nat.le_refl _) (.cells #[.int .i64 nA, .slice aob xsA.length capb, .int .i64 cA, .slice aorb rsA.length caprb] 35)))
    have HBb := Lib.hid (heap_alloc_new w4 (.cells #[.int .i64 nA, .slice aob xsA.length capb, .int .i64 cA, .slice aorb rsA.length caprb] 35))
    go_upto_region 6 with fail
    generalize w4.alloc (.cells #[.int .i64 nA, .slice aob xsA.length capb, .int .i64 cA, .slice aorb rsA.length caprb] 35) = X4 at *
    generalize w4.heap.size = bb at *
    have qo0 : X4.cell? ⟨bo, 0, none⟩ = some (.int .i64 n) := cell_of_row _ bo 0 _ _ _ HBo.out
    have qo1 : X4.cell? ⟨bo, 1, none⟩ = some (.slice aoo xs.length capo) := cell_of_row _ bo 1 _ _ _ HBo.out
    have qo2 : X4.cell? ⟨bo, 2, none⟩ = some (.int .i64 c) := cell_of_row _ bo 2 _ _ _ HBo.out
    have qo3 : X4.cell? ⟨bo, 3, none⟩ = some (.slice aoro rs.length capro) := cell_of_row _ bo 3 _ _ _ HBo.out
    go_wp2_with fail
    refine (prog_padd n c m _ _ xs rs _ Hvo.out Hro.out).mono ?_
    rintro e w5 ⟨h, hb⟩
    replace h := PO.pr h
    clear qo0 qo1 qo2 qo3
    replace HBz := Lib.hid (hp_keep4 HBz.out hb)
    replace HBo := Lib.hid (hp_keep4 HBo.out hb)
    replace HBa := Lib.hid (hp_keep4 HBa.out hb)
    replace HBb := Lib.hid (hp_keep4 HBb.out hb)
    replace Hvz := Lib.hid (RL.keepb Hvz.out hb)
    replace Hrz := Lib.hid (RL.keepb Hrz.out hb)
    replace Hvo := Lib.hid (RL.keepb Hvo.out hb)
    replace Hro := Lib.hid (RL.keepb Hro.out hb)
    replace Hva := Lib.hid (RL.keepb Hva.out hb)
    replace Hra := Lib.hid (RL.keepb Hra.out hb)
    replace Hvb := Lib.hid (RL.keepb Hvb.out hb)
    replace Hrb := Lib.hid (RL.keepb Hrb.out hb)
    replace Hl := Lib.hid (RX.keepb Hl.out hb)
    replace HW := Lib.hid (bw23 HW.out hb)
    generalize hRR : paddF n xs c rs m = RR at *
    have HD := Lib.hid hRR
    clear hRR
    obtain ⟨⟨nD, xsD, cD, rsD⟩, xD⟩ := RR
    obtain ⟨v', rv', he, hv, hr⟩ := h
    obtain rfl : e = .returned (.tuple #[.agg #[.int .i64 nD, v', .int .i64 cD, rv'], .int .i64 xD]) := he
    have hv : RL _ _ _ xsD := hv
    have hr : RL _ _ _ rsD := hr
    have Hvc := Lib.hid hv
    have Hrc := Lib.hid hr
    obtain ⟨aoc, capc, rfl, _, _⟩ := hv.open
    obtain ⟨aorc, caprc, rfl, _, _⟩ := hr.open
    clear hv hr hb
    replace HBz := Lib.hid (hp_keep4 HBz.out ((Below.refl _ w5).alloc (Nat.le_refl _) (.cells #[.int .i64 nD, .slice aoc xsD.length capc, .int .i64 cD, .slice aorc rsD.length caprc] 35)))
    replace HBo := Lib.hid (hp_keep4 HBo.out ((Below.refl _ w5).alloc (Nat.le_refl _) (.cells #[.int .i64 nD, .slice aoc xsD.length capc, .int .i64 cD, .slice aorc rsD.length caprc] 35)))
    replace HBa := Lib.hid (hp_keep4 HBa.out ((Below.refl _ w5).alloc (Nat.le_refl _) (.cells #[.int .i64 nD, .slice aoc xsD.length capc, .int .i64 cD, .slice aorc rsD.length caprc] 35)))
    replace HBb := Lib.hid (hp_keep4 HBb.out ((Below.refl _ w5).alloc (Nat.le_refl _) (.cells #[.int .i64 nD, .slice aoc xsD.length capc, .int .i64 cD, .slice aorc rsD.length caprc] 35)))
    replace Hvz := Lib.hid (RL.keepb Hvz.out ((Below.refl _ w5).alloc (Nat.le_refl _) (.cells #[.int .i64 nD, .slice aoc xsD.length capc, .int .i64 cD, .slice aorc rsD.length caprc] 35)))
    replace Hrz := Lib.hid (RL.keepb Hrz.out ((Below.refl _ w5).alloc (Nat.le_refl _) (.cells #[.int .i64 nD, .slice aoc xsD.length capc, .int .i64 cD, .slice aorc rsD.length caprc] 35)))
    replace Hvo := Lib.hid (RL.keepb Hvo.out ((Below.refl _ w5).alloc (Nat.le_refl _) (.cells #[.int .i64 nD, .slice aoc xsD.length capc, .int .i64 cD, .slice aorc rsD.length caprc] 35)))
    replace Hro := Lib.hid (RL.keepb Hro.out ((Below.refl _ w5).alloc (Nat.le_refl _) (.cells #[.int .i64 nD, .slice aoc xsD.length capc, .int .i64 cD, .slice aorc rsD.length caprc] 35)))
    replace Hva := Lib.hid (RL.keepb Hva.out ((Below.refl _ w5).alloc (Nat.le_refl _) (.cells #[.int .i64 nD, .slice aoc xsD.length capc, .int .i64 cD, .slice aorc rsD.length caprc] 35)))
    replace Hra := Lib.hid (RL.keepb Hra.out ((Below.refl _ w5).alloc (Nat.le_refl _) (.cells #[.int .i64 nD, .slice aoc xsD.length capc, .int .i64 cD, .slice aorc rsD.length caprc] 35)))
    replace Hvb := Lib.hid (RL.keepb Hvb.out ((Below.refl _ w5).alloc (Nat.le_refl _) (.cells #[.int .i64 nD, .slice aoc xsD.length capc, .int .i64 cD, .slice aorc rsD.length caprc] 35)))
    replace Hrb := Lib.hid (RL.keepb Hrb.out ((Below.refl _ w5).alloc (Nat.le_refl _) (.cells #[.int .i64 nD, .slice aoc xsD.length capc, .int .i64 cD, .slice aorc rsD.length caprc] 35)))
    replace Hvc := Lib.hid (RL.keepb Hvc.out ((Below.refl _ w5).alloc (Nat.le_refl _) (.cells #[.int .i64 nD, .slice aoc xsD.length capc, .int .i64 cD, .slice aorc rsD.length caprc] 35)))
    replace Hrc := Lib.hid (RL.keepb Hrc.out ((Below.refl _ w5).alloc (Nat.le_refl _) (.cells #[.int .i64 nD, .slice aoc xsD.length capc, .int .i64 cD, .slice aorc rsD.length caprc] 35)))
    replace Hl := Lib.hid (RX.keepb Hl.out ((Below.refl _ w5).alloc (Nat.le_refl _) (.cells #[.int .i64 nD, .slice aoc xsD.length capc, .int .i64 cD, .slice aorc rsD.length caprc] 35)))
    replace HW := Lib.hid (bw23 HW.out ((Below.refl _ w5).alloc (Nat.le_refl _) (.cells #[.int .i64 nD, .slice aoc xsD.length capc, .int .i64 cD, .slice aorc rsD.length caprc] 35)))
    have HBc := Lib.hid (heap_alloc_new w5 (.cells #[.int .i64 nD, .slice aoc xsD.length capc, .int .i64 cD, .slice aorc rsD.length caprc] 35))
    go_upto_region 7 with fail
    generalize w5.alloc (.cells #[.int .i64 nD, .slice aoc xsD.length capc, .int .i64 cD, .slice aorc rsD.length caprc] 35) = X5 at *
    generalize w5.heap.size = bc at *
    have qz0 : X5.cell? ⟨w.heap.size, 0, none⟩ = some (.int .i64 n) := cell_of_row _ w.heap.size 0 _ _ _ HBz.out
    have qz1 : X5.cell? ⟨w.heap.size, 1, none⟩ = some (.slice aoz xs.length capz) := cell_of_row _ w.heap.size 1 _ _ _ HBz.out
    have qz2 : X5.cell? ⟨w.heap.size, 2, none⟩ = some (.int .i64 c) := cell_of_row _ w.heap.size 2 _ _ _ HBz.out
    have qz3 : X5.cell? ⟨w.heap.size, 3, none⟩ = some (.slice aorz rs.length caprz) := cell_of_row _ w.heap.size 3 _ _ _ HBz.out
    go_wp2_with fail
    refine (ref_padd_pr n c m _ _ xs rs _ Hvz.out Hrz.out).mono ?_
    rintro e w6 ⟨h, hb⟩
    replace h := h
    clear qz0 qz1 qz2 qz3
    replace HBz := Lib.hid (hp_keep4 HBz.out hb)
    replace HBo := Lib.hid (hp_keep4 HBo.out hb)
    replace HBa := Lib.hid (hp_keep4 HBa.out hb)
    replace HBb := Lib.hid (hp_keep4 HBb.out hb)
    replace HBc := Lib.hid (hp_keep4 HBc.out hb)
    replace Hvz := Lib.hid (RL.keepb Hvz.out hb)
    replace Hrz := Lib.hid (RL.keepb Hrz.out hb)
    replace Hvo := Lib.hid (RL.keepb Hvo.out hb)
    replace Hro := Lib.hid (RL.keepb Hro.out hb)
    replace Hva := Lib.hid (RL.keepb Hva.out hb)
    replace Hra := Lib.hid (RL.keepb Hra.out hb)
    replace Hvb := Lib.hid (RL.keepb Hvb.out hb)
    replace Hrb := Lib.hid (RL.keepb Hrb.out hb)
    replace Hvc := Lib.hid (RL.keepb Hvc.out hb)
    replace Hrc := Lib.hid (RL.keepb Hrc.out hb)
    replace Hl := Lib.hid (RX.keepb Hl.out hb)
    replace HW := Lib.hid (bw23 HW.out hb)
    rw [HD.out] at h
    obtain ⟨v', rv', he, hv, hr⟩ := h
    obtain rfl : e = .returned (.tuple #[.agg #[.int .i64 nD, v', .int .i64 cD, rv'], .int .i64 xD]) := he
    have hv : RL _ _ _ xsD := hv
    have hr : RL _ _ _ rsD := hr
    have Hvd := Lib.hid hv
    have Hrd := Lib.hid hr
    obtain ⟨aod, capd, rfl, _, _⟩ := hv.open
    obtain ⟨aord, caprd, rfl, _, _⟩ := hr.open
    clear hv hr hb
    replace HBz := Lib.hid (hp_keep4 HBz.out ((Below.refl _ w6).alloc (Nat.le_refl _) (.cells #[.int .i64 nD, .slice aod xsD.length capd, .int .i64 cD, .slice aord rsD.length caprd] 35)))
    replace HBo := Lib.hid (hp_keep4 HBo.out ((Below.refl _ w6).alloc (Nat.le_refl _) (.cells #[.int .i64 nD, .slice aod xsD.length capd, .int .i64 cD, .slice aord rsD.length caprd] 35)))
    replace HBa := Lib.hid (hp_keep4 HBa.out ((Below.refl _ w6).alloc (Nat.le_refl _) (.cells #[.int .i64 nD, .slice aod xsD.length capd, .int .i64 cD, .slice aord rsD.length caprd] 35)))
    replace HBb := Lib.hid (hp_keep4 HBb.out ((Below.refl _ w6).alloc (Nat.le_refl _) (.cells #[.int .i64 nD, .slice aod xsD.length capd, .int .i64 cD, .slice aord rsD.length caprd] 35)))
    replace HBc := Lib.hid (hp_keep4 HBc.out ((Below.refl _ w6).alloc (Nat.le_refl _) (.cells #[.int .i64 nD, .slice aod xsD.length capd, .int .i64 cD, .slice aord rsD.length caprd] 35)))
    replace Hvz := Lib.hid (RL.keepb Hvz.out ((Below.refl _ w6).alloc (Nat.le_refl _) (.cells #[.int .i64 nD, .slice aod xsD.length capd, .int .i64 cD, .slice aord rsD.length caprd] 35)))
    replace Hrz := Lib.hid (RL.keepb Hrz.out ((Below.refl _ w6).alloc (Nat.le_refl _) (.cells #[.int .i64 nD, .slice aod xsD.length capd, .int .i64 cD, .slice aord rsD.length caprd] 35)))
    replace Hvo := Lib.hid (RL.keepb Hvo.out ((Below.refl _ w6).alloc (Nat.le_refl _) (.cells #[.int .i64 nD, .slice aod xsD.length capd, .int .i64 cD, .slice aord rsD.length caprd] 35)))
    replace Hro := Lib.hid (RL.keepb Hro.out ((Below.refl _ w6).alloc (Nat.le_refl _) (.cells #[.int .i64 nD, .slice aod xsD.length capd, .int .i64 cD, .slice aord rsD.length caprd] 35)))
    replace Hva := Lib.hid (RL.keepb Hva.out ((Below.refl _ w6).alloc (Nat.le_refl _) (.cells #[.int .i64 nD, .slice aod xsD.length capd, .int .i64 cD, .slice aord rsD.length caprd] 35)))
    replace Hra := Lib.hid (RL.keepb Hra.out ((Below.refl _ w6).alloc (Nat.le_refl _) (.cells #[.int .i64 nD, .slice aod xsD.length capd, .int .i64 cD, .slice aord rsD.length caprd] 35)))
    replace Hvb := Lib.hid (RL.keepb Hvb.out ((Below.refl _ w6).alloc (Nat.le_refl _) (.cells #[.int .i64 nD, .slice aod xsD.length capd, .int .i64 cD, .slice aord rsD.length caprd] 35)))
    replace Hrb := Lib.hid (RL.keepb Hrb.out ((Below.refl _ w6).alloc (Nat.le_refl _) (.cells #[.int .i64 nD, .slice aod xsD.length capd, .int .i64 cD, .slice aord rsD.length caprd] 35)))
    replace Hvc := Lib.hid (RL.keepb Hvc.out ((Below.refl _ w6).alloc (Nat.le_refl _) (.cells #[.int .i64 nD, .slice aod xsD.length capd, .int .i64 cD, .slice aord rsD.length caprd] 35)))
    replace Hrc := Lib.hid (RL.keepb Hrc.out ((Below.refl _ w6).alloc (Nat.le_refl _) (.cells #[.int .i64 nD, .slice aod xsD.length capd, .int .i64 cD, .slice aord rsD.length caprd] 35)))
    replace Hvd := Lib.hid (RL.keepb Hvd.out ((Below.refl _ w6).alloc (Nat.le_refl _) (.cells #[.int .i64 nD, .slice aod xsD.length capd, .int .i64 cD, .slice aord rsD.length caprd] 35)))
    replace Hrd := Lib.hid (RL.keepb Hrd.out ((Below.refl _ w6).alloc (Nat.le_refl _) (.cells #[.int .i64 nD, .slice aod xsD.length capd, .int .i64 cD, .slice aord rsD.length caprd] 35)))
    replace Hl := Lib.hid (RX.keepb Hl.out ((Below.refl _ w6).alloc (Nat.le_refl _) (.cells #[.int .i64 nD, .slice aod xsD.length capd, .int .i64 cD, .slice aord rsD.length caprd] 35)))
    replace HW := Lib.hid (bw23 HW.out ((Below.refl _ w6).alloc (Nat.le_refl _) (.cells #[.int .i64 nD, .slice aod xsD.length capd, .int .i64 cD, .slice aord rsD.length caprd] 35)))
    have HBd := Lib.hid (heap_alloc_new w6 (.cells #[.int .i64 nD, .slice aod xsD.length capd, .int .i64 cD, .slice aord rsD.length caprd] 35))
    go_upto_region 8 with fail
    generalize w6.alloc (.cells #[.int .i64 nD, .slice aod xsD.length capd, .int .i64 cD, .slice aord rsD.length caprd] 35) = X6 at *
    generalize w6.heap.size = bd at *
    have eA : (xA == xA) = true := by simp
    have eD : (xD == xD) = true := by simp
    have qa0 : X6.cell? ⟨ba, 0, none⟩ = some (.int .i64 nA) := cell_of_row _ ba 0 _ _ _ HBa.out
    have qa1 : X6.cell? ⟨ba, 1, none⟩ = some (.slice aoa xsA.length capa) := cell_of_row _ ba 1 _ _ _ HBa.out
    have qa2 : X6.cell? ⟨ba, 2, none⟩ = some (.int .i64 cA) := cell_of_row _ ba 2 _ _ _ HBa.out
    have qa3 : X6.cell? ⟨ba, 3, none⟩ = some (.slice aora rsA.length capra) := cell_of_row _ ba 3 _ _ _ HBa.out
    have qb0 : X6.cell? ⟨bb, 0, none⟩ = some (.int .i64 nA) := cell_of_row _ bb 0 _ _ _ HBb.out
    have qb1 : X6.cell? ⟨bb, 1, none⟩ = some (.slice aob xsA.length capb) := cell_of_row _ bb 1 _ _ _ HBb.out
    have qb2 : X6.cell? ⟨bb, 2, none⟩ = some (.int .i64 cA) := cell_of_row _ bb 2 _ _ _ HBb.out
    have qb3 : X6.cell? ⟨bb, 3, none⟩ = some (.slice aorb rsA.length caprb) := cell_of_row _ bb 3 _ _ _ HBb.out
    go_wp2_with fail
    refine (law_same23 nA cA _ _ _ _ xsA rsA _ Hva.out Hra.out Hvb.out Hrb.out).mono ?_
    rintro e w7 ⟨rfl, hb⟩
    clear qa0 qa1 qa2 qa3 qb0 qb1 qb2 qb3
    replace HBz := Lib.hid (hp_keep4 HBz.out hb)
    replace HBo := Lib.hid (hp_keep4 HBo.out hb)
    replace HBa := Lib.hid (hp_keep4 HBa.out hb)
    replace HBb := Lib.hid (hp_keep4 HBb.out hb)
    replace HBc := Lib.hid (hp_keep4 HBc.out hb)
    replace HBd := Lib.hid (hp_keep4 HBd.out hb)
    replace Hvz := Lib.hid (RL.keepb Hvz.out hb)
    replace Hrz := Lib.hid (RL.keepb Hrz.out hb)
    replace Hvo := Lib.hid (RL.keepb Hvo.out hb)
    replace Hro := Lib.hid (RL.keepb Hro.out hb)
    replace Hva := Lib.hid (RL.keepb Hva.out hb)
    replace Hra := Lib.hid (RL.keepb Hra.out hb)
    replace Hvb := Lib.hid (RL.keepb Hvb.out hb)
    replace Hrb := Lib.hid (RL.keepb Hrb.out hb)
    replace Hvc := Lib.hid (RL.keepb Hvc.out hb)
    replace Hrc := Lib.hid (RL.keepb Hrc.out hb)
    replace Hvd := Lib.hid (RL.keepb Hvd.out hb)
    replace Hrd := Lib.hid (RL.keepb Hrd.out hb)
    replace Hl := Lib.hid (RX.keepb Hl.out hb)
    replace HW := Lib.hid (bw23 HW.out hb)
    clear hb
    have qc0 : w7.cell? ⟨bc, 0, none⟩ = some (.int .i64 nD) := cell_of_row _ bc 0 _ _ _ HBc.out
    have qc1 : w7.cell? ⟨bc, 1, none⟩ = some (.slice aoc xsD.length capc) := cell_of_row _ bc 1 _ _ _ HBc.out
    have qc2 : w7.cell? ⟨bc, 2, none⟩ = some (.int .i64 cD) := cell_of_row _ bc 2 _ _ _ HBc.out
    have qc3 : w7.cell? ⟨bc, 3, none⟩ = some (.slice aorc rsD.length caprc) := cell_of_row _ bc 3 _ _ _ HBc.out
    have qd0 : w7.cell? ⟨bd, 0, none⟩ = some (.int .i64 nD) := cell_of_row _ bd 0 _ _ _ HBd.out
    have qd1 : w7.cell? ⟨bd, 1, none⟩ = some (.slice aod xsD.length capd) := cell_of_row _ bd 1 _ _ _ HBd.out
    have qd2 : w7.cell? ⟨bd, 2, none⟩ = some (.int .i64 cD) := cell_of_row _ bd 2 _ _ _ HBd.out
    have qd3 : w7.cell? ⟨bd, 3, none⟩ = some (.slice aord rsD.length caprd) := cell_of_row _ bd 3 _ _ _ HBd.out
    go_wp2_with fail
    refine (law_same23 nD cD _ _ _ _ xsD rsD _ Hvc.out Hrc.out Hvd.out Hrd.out).mono ?_
    rintro e w8 ⟨rfl, hb⟩
    clear qc0 qc1 qc2 qc3 qd0 qd1 qd2 qd3
    replace HBz := Lib.hid (hp_keep4 HBz.out hb)
    replace HBo := Lib.hid (hp_keep4 HBo.out hb)
    replace HBa := Lib.hid (hp_keep4 HBa.out hb)
    replace HBb := Lib.hid (hp_keep4 HBb.out hb)
    replace HBc := Lib.hid (hp_keep4 HBc.out hb)
    replace HBd := Lib.hid (hp_keep4 HBd.out hb)
    replace Hvz := Lib.hid (RL.keepb Hvz.out hb)
    replace Hrz := Lib.hid (RL.keepb Hrz.out hb)
    replace Hvo := Lib.hid (RL.keepb Hvo.out hb)
    replace Hro := Lib.hid (RL.keepb Hro.out hb)
    replace Hva := Lib.hid (RL.keepb Hva.out hb)
    replace Hra := Lib.hid (RL.keepb Hra.out hb)
    replace Hvb := Lib.hid (RL.keepb Hvb.out hb)
    replace Hrb := Lib.hid (RL.keepb Hrb.out hb)
    replace Hvc := Lib.hid (RL.keepb Hvc.out hb)
    replace Hrc := Lib.hid (RL.keepb Hrc.out hb)
    replace Hvd := Lib.hid (RL.keepb Hvd.out hb)
    replace Hrd := Lib.hid (RL.keepb Hrd.out hb)
    replace Hl := Lib.hid (RX.keepb Hl.out hb)
    replace HW := Lib.hid (bw23 HW.out hb)
    clear hb
    have qo0 : w8.cell? ⟨bo, 0, none⟩ = some (.int .i64 n) := cell_of_row _ bo 0 _ _ _ HBo.out
    have qo1 : w8.cell? ⟨bo, 1, none⟩ = some (.slice aoo xs.length capo) := cell_of_row _ bo 1 _ _ _ HBo.out
    have qo2 : w8.cell? ⟨bo, 2, none⟩ = some (.int .i64 c) := cell_of_row _ bo 2 _ _ _ HBo.out
    have qo3 : w8.cell? ⟨bo, 3, none⟩ = some (.slice aoro rs.length capro) := cell_of_row _ bo 3 _ _ _ HBo.out
    have qz0 : w8.cell? ⟨w.heap.size, 0, none⟩ = some (.int .i64 n) := cell_of_row _ w.heap.size 0 _ _ _ HBz.out
    have qz1 : w8.cell? ⟨w.heap.size, 1, none⟩ = some (.slice aoz xs.length capz) := cell_of_row _ w.heap.size 1 _ _ _ HBz.out
    have qz2 : w8.cell? ⟨w.heap.size, 2, none⟩ = some (.int .i64 c) := cell_of_row _ w.heap.size 2 _ _ _ HBz.out
    have qz3 : w8.cell? ⟨w.heap.size, 3, none⟩ = some (.slice aorz rs.length caprz) := cell_of_row _ w.heap.size 3 _ _ _ HBz.out
    go_wp2_with fail
    refine (law_same23 n c _ _ _ _ xs rs _ Hvo.out Hro.out Hvz.out Hrz.out).mono ?_
    rintro e w9 ⟨rfl, hb⟩
    clear qo0 qo1 qo2 qo3 qz0 qz1 qz2 qz3
    replace HBz := Lib.hid (hp_keep4 HBz.out hb)
    replace HBo := Lib.hid (hp_keep4 HBo.out hb)
    replace HBa := Lib.hid (hp_keep4 HBa.out hb)
    replace HBb := Lib.hid (hp_keep4 HBb.out hb)
    replace HBc := Lib.hid (hp_keep4 HBc.out hb)
    replace HBd := Lib.hid (hp_keep4 HBd.out hb)
    replace Hvz := Lib.hid (RL.keepb Hvz.out hb)
    replace Hrz := Lib.hid (RL.keepb Hrz.out hb)
    replace Hvo := Lib.hid (RL.keepb Hvo.out hb)
    replace Hro := Lib.hid (RL.keepb Hro.out hb)
    replace Hva := Lib.hid (RL.keepb Hva.out hb)
    replace Hra := Lib.hid (RL.keepb Hra.out hb)
    replace Hvb := Lib.hid (RL.keepb Hvb.out hb)
    replace Hrb := Lib.hid (RL.keepb Hrb.out hb)
    replace Hvc := Lib.hid (RL.keepb Hvc.out hb)
    replace Hrc := Lib.hid (RL.keepb Hrc.out hb)
    replace Hvd := Lib.hid (RL.keepb Hvd.out hb)
    replace Hrd := Lib.hid (RL.keepb Hrd.out hb)
    replace Hl := Lib.hid (RX.keepb Hl.out hb)
    replace HW := Lib.hid (bw23 HW.out hb)
    clear hb
    go_wp2_with fail
    refine (law_awake _).mono ?_
    rintro e wz ⟨rfl, hb⟩
    go_wp2_with fail
    go_ret
    exact ⟨rfl, bw23 HW.out hb⟩
end Go.Proofs.YtfphlpglgcmljaaGreat
