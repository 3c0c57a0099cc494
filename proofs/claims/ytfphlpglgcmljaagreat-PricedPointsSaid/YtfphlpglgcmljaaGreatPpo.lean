/- The law PricedPoints answers true for every input, and writes nothing that was there. -/
import Derived.Test.YtfphlpglgcmljaaGreatPai
import Derived.Test.YtfphlpglgcmljaaGreatPla
import Derived.Test.YtfphlpglgcmljaaGreatPaw
import Derived.Laws.StructEq
import Derived.Deep.RegionHeld3
namespace Go.Proofs.YtfphlpglgcmljaaGreat
open Go.RowKit
set_option linter.unusedVariables false

set_option maxRecDepth 100000 in
set_option maxHeartbeats 8000000 in
theorem law_priced_points (n c : Int) (v rv lv : Value) (xs rs : List Int) (ps : List (Int × Int)) (w : World) (hv : RL w.heap.size w v xs) (hr : RL w.heap.size w rv rs) (hp : RX cdRes w.heap.size w lv ps) (hI : ∀ x, x ∈ ps → I64 x.1) :
    Calls Tryz.prog 10 #[.agg #[.int .i64 n, v, .int .i64 c, rv], lv] w fun e w' => e = .returned (.bool true) ∧ Below w.heap.size w w' := by
  have Hv := Lib.hid hv
  have Hr := Lib.hid hr
  have Hp := Lib.hid hp
  have HI := Lib.hid hI
  obtain ⟨ao, cap, rfl, _, _⟩ := hv.open
  obtain ⟨aor, capr, rfl, _, _⟩ := hr.open
  obtain ⟨aop, capp, rfl, _, _⟩ := hp.open
  clear hv hr hp hI
  have HBz := Lib.hid (heap_alloc_new w (.cells #[.int .i64 n, .slice ao xs.length cap, .int .i64 c, .slice aor rs.length capr] 35))
  have HW := Lib.hid (bal (Below.refl w.heap.size w) (.cells #[.int .i64 n, .slice ao xs.length cap, .int .i64 c, .slice aor rs.length capr] 35))
  go_enter Tryz.func10, Tryz.ntmps10
  go_upto_region 1 with fail
  generalize w.alloc (.cells #[.int .i64 n, .slice ao xs.length cap, .int .i64 c, .slice aor rs.length capr] 35) = Xa at *
  have z0 : Xa.cell? ⟨w.heap.size, 0, none⟩ = some (.int .i64 n) := cell_of_row _ w.heap.size 0 _ _ _ HBz.out
  have z1 : Xa.cell? ⟨w.heap.size, 1, none⟩ = some (.slice ao xs.length cap) := cell_of_row _ w.heap.size 1 _ _ _ HBz.out
  have z2 : Xa.cell? ⟨w.heap.size, 2, none⟩ = some (.int .i64 c) := cell_of_row _ w.heap.size 2 _ _ _ HBz.out
  have z3 : Xa.cell? ⟨w.heap.size, 3, none⟩ = some (.slice aor rs.length capr) := cell_of_row _ w.heap.size 3 _ _ _ HBz.out
  go_wp2_with fail
  refine (law_large23 n c _ _ xs rs _ (Hv.out.keepb HW.out) (Hr.out.keepb HW.out)).mono ?_
  rintro e w1 ⟨bl, rfl, hbl, hb⟩
  clear z0 z1 z2 z3 hbl
  replace HBz := Lib.hid (hp_keep4 HBz.out hb)
  replace HW := Lib.hid (bt HW.out hb)
  clear hb
  cases bl with
  | true =>
    go_wp2_with fail
    refine (law_awake _).mono ?_
    rintro e w9 ⟨rfl, hb⟩
    go_wp2_with fail
    go_ret
    exact ⟨rfl, bt HW.out hb⟩
  | false =>
    by_cases h2 : 20 < ps.length
    · have h2' : decide ((20 : Int) < (ps.length : Int)) = true := by simp; omega
      clear h2
      go_wp2_with fail
      refine (law_awake _).mono ?_
      rintro e w9 ⟨rfl, hb⟩
      go_wp2_with fail
      go_ret
      exact ⟨rfl, bt HW.out hb⟩
    have h2' : decide ((20 : Int) < (ps.length : Int)) = false := by simp; omega
    clear h2
    have z0 : w1.cell? ⟨w.heap.size, 0, none⟩ = some (.int .i64 n) := cell_of_row _ w.heap.size 0 _ _ _ HBz.out
    have z1 : w1.cell? ⟨w.heap.size, 1, none⟩ = some (.slice ao xs.length cap) := cell_of_row _ w.heap.size 1 _ _ _ HBz.out
    have z2 : w1.cell? ⟨w.heap.size, 2, none⟩ = some (.int .i64 c) := cell_of_row _ w.heap.size 2 _ _ _ HBz.out
    have z3 : w1.cell? ⟨w.heap.size, 3, none⟩ = some (.slice aor rs.length capr) := cell_of_row _ w.heap.size 3 _ _ _ HBz.out
    obtain ⟨RA, hRA⟩ : ∃ R, R = atF n xs c rs ps := ⟨_, rfl⟩
    have HP := Lib.hid (fun X (hb : Below w.heap.size w X) => prog_pat n c _ _ _ xs rs ps X (Hv.out.keepb hb) (Hr.out.keepb hb) (RX.keepb Hp.out hb) HI.out)
    have HR := Lib.hid (fun X (hb : Below w.heap.size w X) => ref_pat n c _ _ _ xs rs ps X (Hv.out.keepb hb) (Hr.out.keepb hb) (RX.keepb Hp.out hb))
    rw [← hRA] at HP HR
    clear hRA
    obtain ⟨⟨pA, qA⟩, xA⟩ := RA
    go_wp2_with fail
    refine (HP.out _ HW.out).mono ?_
    rintro e w2 ⟨he, hb⟩
    obtain rfl : e = .returned (.tuple #[.agg #[.int .i64 pA, .int .i64 qA], .int .i64 xA]) := he
    clear z0 z1 z2 z3
    replace HBz := Lib.hid (hp_keep4 HBz.out hb)
    replace HW := Lib.hid (bt HW.out hb)
    clear hb
    have hba := (Below.refl _ w2).alloc (Nat.le_refl _) (.cells #[.int .i64 pA, .int .i64 qA] 56)
    have HBa := Lib.hid (heap_alloc_new w2 (.cells #[.int .i64 pA, .int .i64 qA] 56))
    replace HBz := Lib.hid (hp_keep4 HBz.out hba)
    replace HW := Lib.hid (bt HW.out hba)
    clear hba
    go_upto_region 4 with fail
    generalize w2.alloc (.cells #[.int .i64 pA, .int .i64 qA] 56) = X2 at *
    generalize w2.heap.size = ba at *
    have z0 : X2.cell? ⟨w.heap.size, 0, none⟩ = some (.int .i64 n) := cell_of_row _ w.heap.size 0 _ _ _ HBz.out
    have z1 : X2.cell? ⟨w.heap.size, 1, none⟩ = some (.slice ao xs.length cap) := cell_of_row _ w.heap.size 1 _ _ _ HBz.out
    have z2 : X2.cell? ⟨w.heap.size, 2, none⟩ = some (.int .i64 c) := cell_of_row _ w.heap.size 2 _ _ _ HBz.out
    have z3 : X2.cell? ⟨w.heap.size, 3, none⟩ = some (.slice aor rs.length capr) := cell_of_row _ w.heap.size 3 _ _ _ HBz.out
    go_wp2_with fail
    refine (HR.out _ HW.out).mono ?_
    rintro e w3 ⟨he, hb⟩
    obtain rfl : e = .returned (.tuple #[.agg #[.int .i64 pA, .int .i64 qA], .int .i64 xA]) := he
    clear z0 z1 z2 z3
    replace HBz := Lib.hid (hp_keep4 HBz.out hb)
    replace HBa := Lib.hid (hp_keep4 HBa.out hb)
    replace HW := Lib.hid (bt HW.out hb)
    clear hb
    have hba := (Below.refl _ w3).alloc (Nat.le_refl _) (.cells #[.int .i64 pA, .int .i64 qA] 56)
    have HBb := Lib.hid (heap_alloc_new w3 (.cells #[.int .i64 pA, .int .i64 qA] 56))
    replace HBz := Lib.hid (hp_keep4 HBz.out hba)
    replace HBa := Lib.hid (hp_keep4 HBa.out hba)
    replace HW := Lib.hid (bt HW.out hba)
    clear hba
    go_upto_region 5 with fail
    generalize w3.alloc (.cells #[.int .i64 pA, .int .i64 qA] 56) = X3 at *
    generalize w3.heap.size = bb at *
    have z0 : X3.cell? ⟨w.heap.size, 0, none⟩ = some (.int .i64 n) := cell_of_row _ w.heap.size 0 _ _ _ HBz.out
    have z1 : X3.cell? ⟨w.heap.size, 1, none⟩ = some (.slice ao xs.length cap) := cell_of_row _ w.heap.size 1 _ _ _ HBz.out
    have z2 : X3.cell? ⟨w.heap.size, 2, none⟩ = some (.int .i64 c) := cell_of_row _ w.heap.size 2 _ _ _ HBz.out
    have z3 : X3.cell? ⟨w.heap.size, 3, none⟩ = some (.slice aor rs.length capr) := cell_of_row _ w.heap.size 3 _ _ _ HBz.out
    obtain ⟨V, hV⟩ : ∃ V, V = pzE n xs c rs := ⟨_, rfl⟩
    have HC := Lib.hid (fun X (hb : Below w.heap.size w X) => prog_pcheck n c _ _ xs rs X (Hv.out.keepb hb) (Hr.out.keepb hb))
    have HD := Lib.hid (fun X (hb : Below w.heap.size w X) => ref_pcheck n c _ _ xs rs X (Hv.out.keepb hb) (Hr.out.keepb hb))
    rw [← hV] at HC HD
    clear hV
    have eV : (V == V) = true := by simp
    have ep : (pA == pA) = true := by simp
    have eq : (qA == qA) = true := by simp
    have ex : (xA == xA) = true := by simp
    have ha0 := cell_of_row _ ba 0 _ _ _ HBa.out
    have ha1 := cell_of_row _ ba 1 _ _ _ HBa.out
    have hb0 := cell_of_row _ bb 0 _ _ _ HBb.out
    have hb1 := cell_of_row _ bb 1 _ _ _ HBb.out
    have HS := Lib.hid (fun (X : World) (h1 : X.heap[w.heap.size]? = some (.cells #[.int .i64 n, .slice ao xs.length cap, .int .i64 c, .slice aor rs.length capr] 35 (0, 0))) (h2 : X.heap[ba]? = some (.cells #[.int .i64 pA, .int .i64 qA] 56 (0, 0))) (h3 : X.heap[bb]? = some (.cells #[.int .i64 pA, .int .i64 qA] 56 (0, 0))) => (⟨cell_of_row _ w.heap.size 0 _ _ _ h1, cell_of_row _ w.heap.size 1 _ _ _ h1, cell_of_row _ w.heap.size 2 _ _ _ h1, cell_of_row _ w.heap.size 3 _ _ _ h1, cell_of_row _ ba 0 _ _ _ h2, cell_of_row _ ba 1 _ _ _ h2, cell_of_row _ bb 0 _ _ _ h3, cell_of_row _ bb 1 _ _ _ h3⟩ : X.cell? ⟨w.heap.size, 0, none⟩ = some (.int .i64 n) ∧ X.cell? ⟨w.heap.size, 1, none⟩ = some (.slice ao xs.length cap) ∧ X.cell? ⟨w.heap.size, 2, none⟩ = some (.int .i64 c) ∧ X.cell? ⟨w.heap.size, 3, none⟩ = some (.slice aor rs.length capr) ∧ X.cell? ⟨ba, 0, none⟩ = some (.int .i64 pA) ∧ X.cell? ⟨ba, 1, none⟩ = some (.int .i64 qA) ∧ X.cell? ⟨bb, 0, none⟩ = some (.int .i64 pA) ∧ X.cell? ⟨bb, 1, none⟩ = some (.int .i64 qA)))
    refine wp_region_noPanic ?_
    refine wp_region_held_drew (S := (fun w' => w'.cell? ⟨w.heap.size, 0, none⟩ = some (.int .i64 n) ∧ w'.cell? ⟨w.heap.size, 1, none⟩ = some (.slice ao xs.length cap) ∧ w'.cell? ⟨w.heap.size, 2, none⟩ = some (.int .i64 c) ∧ w'.cell? ⟨w.heap.size, 3, none⟩ = some (.slice aor rs.length capr) ∧ w'.cell? ⟨ba, 0, none⟩ = some (.int .i64 pA) ∧ w'.cell? ⟨ba, 1, none⟩ = some (.int .i64 qA) ∧ w'.cell? ⟨bb, 0, none⟩ = some (.int .i64 pA) ∧ w'.cell? ⟨bb, 1, none⟩ = some (.int .i64 qA))) (by kernel_rfl) ⟨z0, z1, z2, z3, ha0, ha1, hb0, hb1⟩ (fun hHeld => ?_)
    refine wpAnyH_take (i := 0) (v := ?_) rfl (by kernel_rfl) (by kernel_rfl) (by kernel_rfl) (fun _ _ _ h => h) (Or.inl ⟨by rfl, ?_⟩) (by assumption) ?_
    rotate_left
    · intro w hSw; (try dsimp only at hSw); go_simp; (try with_reducible rfl)
    try simp only [Act.put, List.getElem_toArray, List.getElem_cons_zero, List.setIfInBounds_toArray, List.set_cons_zero, List.set_cons_succ]
    refine wpAnyH_take (i := 2) (v := ?_) rfl (by kernel_rfl) (by kernel_rfl) (by kernel_rfl) (fun _ _ _ h => h) (Or.inl ⟨by rfl, ?_⟩) (by assumption) ?_
    rotate_left
    · intro w hSw; (try dsimp only at hSw); go_simp; (try with_reducible rfl)
    try simp only [Act.put, List.getElem_toArray, List.getElem_cons_zero, List.getElem_cons_succ, List.setIfInBounds_toArray, List.set_cons_zero, List.set_cons_succ]
    replace HBz := Lib.hid (show X3.drew.heap[w.heap.size]? = _ from HBz.out)
    replace HBa := Lib.hid (show X3.drew.heap[ba]? = _ from HBa.out)
    replace HBb := Lib.hid (show X3.drew.heap[bb]? = _ from HBb.out)
    replace HW := Lib.hid HW.out.drew
    clear hHeld z0 z1 z2 z3 ha0 ha1 hb0 hb1
    generalize X3.drew = X4 at *
    refine wpAnyH_ready (rs := [1]) (by kernel_rfl) (by simp) ?_
    refine AllReadyH.cons rfl (fun K hK => ?_) AllReadyH.nil
    go_simp
    refine (HC.out _ HW.out).mono ?_
    rintro e wA ⟨rfl, hb⟩
    replace HBz := Lib.hid (hp_keep4 HBz.out hb)
    replace HBa := Lib.hid (hp_keep4 HBa.out hb)
    replace HBb := Lib.hid (hp_keep4 HBb.out hb)
    replace HW := Lib.hid (bt HW.out hb)
    clear hb
    refine hK.out _ _ (HS.out _ HBz.out HBa.out HBb.out) (fun hHeld2 => ?_)
    clear hK K
    try simp only [Act.put, List.getElem_toArray, List.getElem_cons_zero, List.getElem_cons_succ, List.setIfInBounds_toArray, List.set_cons_zero, List.set_cons_succ]
    refine wpAnyH_ready (rs := [3]) (by kernel_rfl) (by simp) ?_
    refine AllReadyH.cons rfl (fun K hK => ?_) AllReadyH.nil
    go_simp
    refine (HD.out _ HW.out).mono ?_
    rintro e wB ⟨rfl, hb⟩
    replace HBz := Lib.hid (hp_keep4 HBz.out hb)
    replace HBa := Lib.hid (hp_keep4 HBa.out hb)
    replace HBb := Lib.hid (hp_keep4 HBb.out hb)
    replace HW := Lib.hid (bt HW.out hb)
    clear hb
    refine hK.out _ _ (HS.out _ HBz.out HBa.out HBb.out) (fun hHeld2 => ?_)
    clear hK K
    try simp only [Act.put, List.getElem_toArray, List.getElem_cons_zero, List.getElem_cons_succ, List.setIfInBounds_toArray, List.set_cons_zero, List.set_cons_succ]
    refine wpAnyH_take (i := 4) (v := ?_) rfl (by kernel_rfl) (by kernel_rfl) (by kernel_rfl) (fun _ _ _ h => h) (Or.inl ⟨by rfl, ?_⟩) (by assumption) ?_
    rotate_left
    · intro w hSw; (try dsimp only at hSw); go_simp; (try with_reducible rfl)
    try simp only [Act.put, List.getElem_toArray, List.getElem_cons_zero, List.getElem_cons_succ, List.setIfInBounds_toArray, List.set_cons_zero, List.set_cons_succ]
    refine wpAnyH_take (i := 5) (v := ?_) rfl (by kernel_rfl) (by kernel_rfl) (by kernel_rfl) (fun _ _ _ h => h) (Or.inl ⟨by rfl, ?_⟩) (by assumption) ?_
    rotate_left
    · intro w hSw; (try dsimp only at hSw); go_simp; (try with_reducible rfl)
    try simp only [Act.put, List.getElem_toArray, List.getElem_cons_zero, List.getElem_cons_succ, List.setIfInBounds_toArray, List.set_cons_zero, List.set_cons_succ]
    refine wpAnyH_take (i := 6) (v := ?_) rfl (by kernel_rfl) (by kernel_rfl) (by kernel_rfl) (fun _ _ _ h => h) (Or.inl ⟨by rfl, ?_⟩) (by assumption) ?_
    rotate_left
    · intro w hSw; (try dsimp only at hSw); go_simp; (try with_reducible rfl)
    try simp only [Act.put, List.getElem_toArray, List.getElem_cons_zero, List.getElem_cons_succ, List.setIfInBounds_toArray, List.set_cons_zero, List.set_cons_succ]
    refine wpAnyH_take (i := 7) (v := ?_) rfl (by kernel_rfl) (by kernel_rfl) (by kernel_rfl) (fun _ _ _ h => h) (Or.inl ⟨by rfl, ?_⟩) (by assumption) ?_
    rotate_left
    · intro w hSw; (try dsimp only at hSw); go_simp; (try with_reducible rfl)
    try simp only [Act.put, List.getElem_toArray, List.getElem_cons_zero, List.getElem_cons_succ, List.setIfInBounds_toArray, List.set_cons_zero, List.set_cons_succ]
    refine wpAnyH_take (i := 8) (v := ?_) rfl (by kernel_rfl) (by kernel_rfl) (by kernel_rfl) (fun _ _ _ h => h) (Or.inl ⟨by rfl, ?_⟩) (by assumption) ?_
    rotate_left
    · intro w hSw; (try dsimp only at hSw); go_simp; (try with_reducible rfl)
    try simp only [Act.put, List.getElem_toArray, List.getElem_cons_zero, List.getElem_cons_succ, List.setIfInBounds_toArray, List.set_cons_zero, List.set_cons_succ]
    refine wpAnyH_take (i := 9) (v := ?_) rfl (by kernel_rfl) (by kernel_rfl) (by kernel_rfl) (fun _ _ _ h => h) (Or.inl ⟨by rfl, ?_⟩) (by assumption) ?_
    rotate_left
    · intro w hSw; (try dsimp only at hSw); go_simp; (try with_reducible rfl)
    try simp only [Act.put, List.getElem_toArray, List.getElem_cons_zero, List.getElem_cons_succ, List.setIfInBounds_toArray, List.set_cons_zero, List.set_cons_succ]
    refine wpAnyH_take (i := 10) (v := ?_) rfl (by kernel_rfl) (by kernel_rfl) (by kernel_rfl) (fun _ _ _ h => h) (Or.inl ⟨by rfl, ?_⟩) (by assumption) ?_
    rotate_left
    · intro w hSw; (try dsimp only at hSw); go_simp; (try with_reducible rfl)
    try simp only [Act.put, List.getElem_toArray, List.getElem_cons_zero, List.getElem_cons_succ, List.setIfInBounds_toArray, List.set_cons_zero, List.set_cons_succ]
    refine wpAnyH_take (i := 11) (v := ?_) rfl (by kernel_rfl) (by kernel_rfl) (by kernel_rfl) (fun _ _ _ h => h) (Or.inl ⟨by rfl, ?_⟩) (by assumption) ?_
    rotate_left
    · intro w hSw; (try dsimp only at hSw); go_simp; (try with_reducible rfl)
    try simp only [Act.put, List.getElem_toArray, List.getElem_cons_zero, List.getElem_cons_succ, List.setIfInBounds_toArray, List.set_cons_zero, List.set_cons_succ]
    refine wpAnyH_take (i := 12) (v := ?_) rfl (by kernel_rfl) (by kernel_rfl) (by kernel_rfl) (fun _ _ _ h => h) (Or.inl ⟨by rfl, ?_⟩) (by assumption) ?_
    rotate_left
    · intro w hSw; (try dsimp only at hSw); go_simp; (try with_reducible rfl)
    try simp only [Act.put, List.getElem_toArray, List.getElem_cons_zero, List.getElem_cons_succ, List.setIfInBounds_toArray, List.set_cons_zero, List.set_cons_succ]
    refine wpAnyH_take (i := 13) (v := ?_) rfl (by kernel_rfl) (by kernel_rfl) (by kernel_rfl) (fun _ _ _ h => h) (Or.inl ⟨by rfl, ?_⟩) (by assumption) ?_
    rotate_left
    · intro w hSw; (try dsimp only at hSw); go_simp; (try with_reducible rfl)
    try simp only [Act.put, List.getElem_toArray, List.getElem_cons_zero, List.getElem_cons_succ, List.setIfInBounds_toArray, List.set_cons_zero, List.set_cons_succ]
    refine wpAnyH_take (i := 14) (v := ?_) rfl (by kernel_rfl) (by kernel_rfl) (by kernel_rfl) (fun _ _ _ h => h) (Or.inl ⟨by rfl, ?_⟩) (by assumption) ?_
    rotate_left
    · intro w hSw; (try dsimp only at hSw); go_simp; (try with_reducible rfl)
    try simp only [Act.put, List.getElem_toArray, List.getElem_cons_zero, List.getElem_cons_succ, List.setIfInBounds_toArray, List.set_cons_zero, List.set_cons_succ]
    refine wpAnyH_take (i := 15) (v := ?_) rfl (by kernel_rfl) (by kernel_rfl) (by kernel_rfl) (fun _ _ _ h => h) (Or.inl ⟨by rfl, ?_⟩) (by assumption) ?_
    rotate_left
    · intro w hSw; (try dsimp only at hSw); go_simp; (try with_reducible rfl)
    try simp only [Act.put, List.getElem_toArray, List.getElem_cons_zero, List.getElem_cons_succ, List.setIfInBounds_toArray, List.set_cons_zero, List.set_cons_succ]
    refine wpAnyH_ready (rs := [16]) (by kernel_rfl) (by simp) ?_
    refine AllReadyH.cons rfl (fun K hK => ?_) AllReadyH.nil
    go_simp
    refine (law_awake _).mono ?_
    rintro e wC ⟨rfl, hb⟩
    replace HBz := Lib.hid (hp_keep4 HBz.out hb)
    replace HBa := Lib.hid (hp_keep4 HBa.out hb)
    replace HBb := Lib.hid (hp_keep4 HBb.out hb)
    replace HW := Lib.hid (bt HW.out hb)
    clear hb
    refine hK.out _ _ (HS.out _ HBz.out HBa.out HBb.out) (fun hHeld2 => ?_)
    clear hK K
    try simp only [Act.put, List.getElem_toArray, List.getElem_cons_zero, List.getElem_cons_succ, List.setIfInBounds_toArray, List.set_cons_zero, List.set_cons_succ]
    refine wpAnyH_take (i := 17) (v := ?_) rfl (by kernel_rfl) (by kernel_rfl) (by kernel_rfl) (fun _ _ _ h => h) (Or.inl ⟨by rfl, ?_⟩) (by assumption) ?_
    rotate_left
    · intro w hSw; (try dsimp only at hSw); go_simp; (try with_reducible rfl)
    try simp only [Act.put, List.getElem_toArray, List.getElem_cons_zero, List.getElem_cons_succ, List.setIfInBounds_toArray, List.set_cons_zero, List.set_cons_succ]
    refine wpAnyH_take (i := 18) (v := ?_) rfl (by kernel_rfl) (by kernel_rfl) (by kernel_rfl) (fun _ _ _ h => h) (Or.inl ⟨by rfl, ?_⟩) (by assumption) ?_
    rotate_left
    · intro w hSw; (try dsimp only at hSw); go_simp; (try with_reducible rfl)
    try simp only [Act.put, List.getElem_toArray, List.getElem_cons_zero, List.getElem_cons_succ, List.setIfInBounds_toArray, List.set_cons_zero, List.set_cons_succ]
    refine wpAnyH_done (by kernel_rfl) ?_ _
    refine NoPanic.normal ?_
    go_wp2_with fail
    go_ret
    exact ⟨rfl, HW.out⟩
end Go.Proofs.YtfphlpglgcmljaaGreat
