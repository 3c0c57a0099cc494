/- The law PricedFlats answers true for every input, and writes nothing that was there. -/
import Derived.Test.YtfphlpglgcmljaaGreatPft
import Derived.Test.YtfphlpglgcmljaaGreatRft
import Derived.Test.YtfphlpglgcmljaaGreatPaw
import Derived.Deep.RegionHeld3
namespace Go.Proofs.YtfphlpglgcmljaaGreat
open Go.RowKit
set_option linter.unusedVariables false

/-- Some truth value is returned. -/
def SomeB (e : Ending) : Prop := ∃ b, e = .returned (.bool b)
theorem someB (b : Bool) : SomeB (.returned (.bool b)) := ⟨b, rfl⟩
set_option maxRecDepth 100000 in
set_option maxHeartbeats 4000000 in
theorem law_huge (n i0 : Int) (lv ev : Value) (ls : List Fl) (es : List Fe) (w : World) (hl : LocsR w lv ls) (he : EdgsR w ev es) :
    Calls Tryz.prog 11 #[.agg #[.int .i64 n, .int .i64 i0, lv, ev]] w fun e w' => SomeB e ∧ Below w.heap.size w w' := by
  have Hl := Lib.hid hl
  have He := Lib.hid he
  obtain ⟨aol, capl, rfl, hlel, hcl⟩ := hl.1.open
  obtain ⟨aoe, cape, rfl, hlee, hce⟩ := he.1.open
  have HCl := Lib.hid hcl
  have HCe := Lib.hid hce
  have hloc := Loc.one w (.cells #[.int .i64 n, .int .i64 i0, .slice aol ls.length capl, .slice aoe es.length cape] 25) none
  clear hl he hcl hce
  go_enter Tryz.func11, Tryz.ntmps11
  by_cases h0 : 100 < (ls.length : Int)
  · skip
    go_wp2_with fail
    go_ret
    exact ⟨someB _, below_grownBy hloc.grown⟩
  by_cases h1 : 300 < (es.length : Int)
  · skip
    go_wp2_with fail
    go_ret
    exact ⟨someB _, below_grownBy hloc.grown⟩
  go_wp2_with fail
  go_loopw [3] (fun i wr => ∃ k : Nat, k ≤ ls.length ∧ i = .int .i64 k ∧ Loc w wr none [.cells #[.int .i64 n, .int .i64 i0, .slice aol ls.length capl, .slice aoe es.length cape] 25]) (fun i _ => ls.length - (intOf i).toNat)
  case atStart => exact ⟨0, Nat.zero_le _, rfl, hloc⟩
  case round =>
    clear hloc
    skip
    obtain ⟨k, hk, rfl, hloc⟩ := hrel
    have Hbel := Lib.hid (below_grownBy hloc.grown)
    by_cases hlt : k < ls.length
    · have htk : decide ((k : Int) < (ls.length : Int)) = true := by simp; omega
      obtain ⟨b, off, rfl, hb, hc⟩ := HCl.out (by omega)
      have hmem := Lib.hid (ge_mem cdLoc hlt)
      obtain ⟨E, hE⟩ : ∃ E, ge cdLoc ls k = E := ⟨_, rfl⟩
      have x0 : wr.cell? ⟨b, off + k * 3, none⟩ = some (E.v) := by
        have h := ((bcell Hbel.out).1 b (off + (k * 3 + 0)) hb).trans (hc k 0 hlt (by decide))
        rw [hE] at h
        rw [show off + k * 3 = off + (k * 3 + 0) by omega]
        exact h
      rw [hE] at hmem
      obtain ⟨aov, capv, hev, _, _⟩ := (Hl.out.2 _ hmem.out).open
      rw [hev] at x0
      clear hev
      have k0 : (k : Int) < ls.length := by omega
      have k1 : (0 : Int) ≤ (k : Int) := by omega
      clear hc hE hlt
      have z0 : wr.cell? ⟨w.heap.size, 0, none⟩ = some (.int .i64 n) := hloc.cell 0 rfl 0
      have z1 : wr.cell? ⟨w.heap.size, 1, none⟩ = some (.int .i64 i0) := hloc.cell 0 rfl 1
      have z2 : wr.cell? ⟨w.heap.size, 2, none⟩ = some (.slice (some ⟨b, off, none⟩) ls.length capl) := hloc.cell 0 rfl 2
      have z3 : wr.cell? ⟨w.heap.size, 3, none⟩ = some (.slice aoe es.length cape) := hloc.cell 0 rfl 3
      by_cases g0 : 300 < (E.cs.length : Int)
      · skip
        go_wp2_with fail
        go_ret
        exact ⟨someB _, below_grownBy hloc.grown⟩
      go_wp2_with fail
      go_roundw
      case rel => exact ⟨k + 1, by omega, by go_num, hloc⟩
      case measure => simp [intOf]; omega
    · have htk : decide ((k : Int) < (ls.length : Int)) = false := by simp; omega
      have z0 : wr.cell? ⟨w.heap.size, 0, none⟩ = some (.int .i64 n) := hloc.cell 0 rfl 0
      have z1 : wr.cell? ⟨w.heap.size, 1, none⟩ = some (.int .i64 i0) := hloc.cell 0 rfl 1
      have z2 : wr.cell? ⟨w.heap.size, 2, none⟩ = some (.slice aol ls.length capl) := hloc.cell 0 rfl 2
      have z3 : wr.cell? ⟨w.heap.size, 3, none⟩ = some (.slice aoe es.length cape) := hloc.cell 0 rfl 3
      go_wp2_with fail
      go_loopw [4] (fun i wr => ∃ k : Nat, k ≤ es.length ∧ i = .int .i64 k ∧ Loc w wr none [.cells #[.int .i64 n, .int .i64 i0, .slice aol ls.length capl, .slice aoe es.length cape] 25]) (fun i _ => es.length - (intOf i).toNat)
      case atStart => exact ⟨0, Nat.zero_le _, rfl, hloc⟩
      case round =>
        clear hloc
        clear z0 z1 z2 z3
        obtain ⟨k, hk, rfl, hloc⟩ := hrel
        have Hbel := Lib.hid (below_grownBy hloc.grown)
        by_cases hlt : k < es.length
        · have htk : decide ((k : Int) < (es.length : Int)) = true := by simp; omega
          obtain ⟨b, off, rfl, hb, hc⟩ := HCe.out (by omega)
          have hmem := Lib.hid (ge_mem cdEdg hlt)
          obtain ⟨E, hE⟩ : ∃ E, ge cdEdg es k = E := ⟨_, rfl⟩
          have x2 : wr.cell? ⟨b, off + k * 7 + 2, none⟩ = some (E.gv) := by
            have h := ((bcell Hbel.out).1 b (off + (k * 7 + 2)) hb).trans (hc k 2 hlt (by decide))
            rw [hE] at h
            rw [show off + k * 7 + 2 = off + (k * 7 + 2) by omega]
            exact h
          have x3 : wr.cell? ⟨b, off + k * 7 + 3, none⟩ = some (E.rv) := by
            have h := ((bcell Hbel.out).1 b (off + (k * 7 + 3)) hb).trans (hc k 3 hlt (by decide))
            rw [hE] at h
            rw [show off + k * 7 + 3 = off + (k * 7 + 3) by omega]
            exact h
          rw [hE] at hmem
          obtain ⟨aog, capg, hev, _, _⟩ := (He.out.2 _ hmem.out).1.open
          obtain ⟨aor, capr, hew, _, _⟩ := (He.out.2 _ hmem.out).2.open
          rw [hev] at x2
          rw [hew] at x3
          clear hev hew
          have k0 : (k : Int) < es.length := by omega
          have k1 : (0 : Int) ≤ (k : Int) := by omega
          clear hc hE hlt
          have z0 : wr.cell? ⟨w.heap.size, 0, none⟩ = some (.int .i64 n) := hloc.cell 0 rfl 0
          have z1 : wr.cell? ⟨w.heap.size, 1, none⟩ = some (.int .i64 i0) := hloc.cell 0 rfl 1
          have z2 : wr.cell? ⟨w.heap.size, 2, none⟩ = some (.slice aol ls.length capl) := hloc.cell 0 rfl 2
          have z3 : wr.cell? ⟨w.heap.size, 3, none⟩ = some (.slice (some ⟨b, off, none⟩) es.length cape) := hloc.cell 0 rfl 3
          by_cases g0 : 300 < (E.gs.length : Int)
          · skip
            go_wp2_with fail
            go_ret
            exact ⟨someB _, below_grownBy hloc.grown⟩
          by_cases g1 : 300 < (E.rs.length : Int)
          · skip
            go_wp2_with fail
            go_ret
            exact ⟨someB _, below_grownBy hloc.grown⟩
          go_wp2_with fail
          go_roundw
          case rel => exact ⟨k + 1, by omega, by go_num, hloc⟩
          case measure => simp [intOf]; omega
        · have htk : decide ((k : Int) < (es.length : Int)) = false := by simp; omega
          have z0 : wr.cell? ⟨w.heap.size, 0, none⟩ = some (.int .i64 n) := hloc.cell 0 rfl 0
          have z1 : wr.cell? ⟨w.heap.size, 1, none⟩ = some (.int .i64 i0) := hloc.cell 0 rfl 1
          have z2 : wr.cell? ⟨w.heap.size, 2, none⟩ = some (.slice aol ls.length capl) := hloc.cell 0 rfl 2
          have z3 : wr.cell? ⟨w.heap.size, 3, none⟩ = some (.slice aoe es.length cape) := hloc.cell 0 rfl 3
          go_wp2_with fail
          go_ret
          exact ⟨someB _, below_grownBy hloc.grown⟩
set_option maxRecDepth 100000 in
set_option maxHeartbeats 4000000 in
theorem law_priced_flats (n i0 : Int) (lv ev : Value) (ls : List Fl) (es : List Fe) (w : World) (hl : LocsR w lv ls) (he : EdgsR w ev es) :
    Calls Tryz.prog 3 #[.agg #[.int .i64 n, .int .i64 i0, lv, ev]] w fun e w' => e = .returned (.bool true) ∧ Below w.heap.size w w' := by
  have Hl := Lib.hid hl
  have He := Lib.hid he
  obtain ⟨aol, capl, rfl, _, _⟩ := hl.1.open
  obtain ⟨aoe, cape, rfl, _, _⟩ := he.1.open
  have hloc := Loc.one w (.cells #[.int .i64 n, .int .i64 i0, .slice aol ls.length capl, .slice aoe es.length cape] 25) none
  clear hl he
  go_enter Tryz.func3, Tryz.ntmps3
  go_wp2_with fail
  refine (law_huge n i0 _ _ ls es _ (Hl.out.keepb (below_grownBy hloc.grown)) (He.out.keepb (below_grownBy hloc.grown))).mono ?_
  rintro e w1 ⟨⟨b, rfl⟩, hb1⟩
  have hloc1 := hloc.next (grownBy_below hb1 none) (fun _ h => by cases h)
  clear hb1 hloc
  cases b with
  | true =>
    go_wp2_with fail
    refine (law_awake _).mono ?_
    rintro e w9 ⟨rfl, hb9⟩
    go_wp2_with fail
    go_ret
    exact ⟨rfl, below_grownBy (hloc1.next (grownBy_below hb9 none) (fun _ h => by cases h)).grown⟩
  | false =>
    have z0 : w1.cell? ⟨w.heap.size, 0, none⟩ = some (.int .i64 n) := hloc1.cell 0 rfl 0
    have z1 : w1.cell? ⟨w.heap.size, 1, none⟩ = some (.int .i64 i0) := hloc1.cell 0 rfl 1
    have z2 : w1.cell? ⟨w.heap.size, 2, none⟩ = some (.slice aol ls.length capl) := hloc1.cell 0 rfl 2
    have z3 : w1.cell? ⟨w.heap.size, 3, none⟩ = some (.slice aoe es.length cape) := hloc1.cell 0 rfl 3
    obtain ⟨V, hV⟩ : ∃ V, V = flatV n i0 ls es := ⟨_, rfl⟩
    have eV : (V == V) = true := by simp
    have HP := Lib.hid (fun X (hb : Below w.heap.size w X) => prog_flat n i0 _ _ ls es X (Hl.out.keepb hb) (He.out.keepb hb))
    have HR := Lib.hid (fun X (hb : Below w.heap.size w X) => ref_flat n i0 _ _ ls es X (Hl.out.keepb hb) (He.out.keepb hb))
    rw [← hV] at HP HR
    clear hV
    go_upto_region 3 with fail
    refine wp_region_noPanic ?_
    refine wp_region_held_drew (S := (fun w' => w'.cell? ⟨w.heap.size, 0, none⟩ = some (.int .i64 n) ∧ w'.cell? ⟨w.heap.size, 1, none⟩ = some (.int .i64 i0) ∧ w'.cell? ⟨w.heap.size, 2, none⟩ = some (.slice aol ls.length capl) ∧ w'.cell? ⟨w.heap.size, 3, none⟩ = some (.slice aoe es.length cape))) (by kernel_rfl) ⟨z0, z1, z2, z3⟩ (fun hHeld => ?_)
    refine wpAnyH_take (i := 0) (v := ?_) rfl (by kernel_rfl) (by kernel_rfl) (by kernel_rfl) (fun _ _ _ h => h) (Or.inl ⟨by rfl, ?_⟩) (by assumption) ?_
    rotate_left
    · intro w hSw; (try dsimp only at hSw); go_simp; (try with_reducible rfl)
    try simp only [Act.put, List.getElem_toArray, List.getElem_cons_zero, List.setIfInBounds_toArray, List.set_cons_zero, List.set_cons_succ]
    refine wpAnyH_take (i := 2) (v := ?_) rfl (by kernel_rfl) (by kernel_rfl) (by kernel_rfl) (fun _ _ _ h => h) (Or.inl ⟨by rfl, ?_⟩) (by assumption) ?_
    rotate_left
    · intro w hSw; (try dsimp only at hSw); go_simp; (try with_reducible rfl)
    try simp only [Act.put, List.getElem_toArray, List.getElem_cons_zero, List.getElem_cons_succ, List.setIfInBounds_toArray, List.set_cons_zero, List.set_cons_succ]
    have h0 := hloc1.next (grownBy_drew w1 none) (fun _ h => by cases h)
    clear z0 z1 z2 z3
    refine wpAnyH_ready (rs := [1]) (by kernel_rfl) (by simp) ?_
    refine AllReadyH.cons rfl (fun K hK => ?_) AllReadyH.nil
    go_simp
    refine (HP.out _ (below_grownBy h0.grown)).mono ?_
    rintro e wA ⟨rfl, hb⟩
    have h1 := h0.next (grownBy_below hb none) (fun _ h => by cases h)
    clear hb
    refine hK.out _ _ ⟨h1.cell 0 rfl 0, h1.cell 0 rfl 1, h1.cell 0 rfl 2, h1.cell 0 rfl 3⟩ (fun hHeld2 => ?_)
    clear hK K
    try simp only [Act.put, List.getElem_toArray, List.getElem_cons_zero, List.getElem_cons_succ, List.setIfInBounds_toArray, List.set_cons_zero, List.set_cons_succ]
    refine wpAnyH_ready (rs := [3]) (by kernel_rfl) (by simp) ?_
    refine AllReadyH.cons rfl (fun K hK => ?_) AllReadyH.nil
    go_simp
    refine (HR.out _ (below_grownBy h1.grown)).mono ?_
    rintro e wB ⟨rfl, hb⟩
    have h2 := h1.next (grownBy_below hb none) (fun _ h => by cases h)
    clear hb
    refine hK.out _ _ ⟨h2.cell 0 rfl 0, h2.cell 0 rfl 1, h2.cell 0 rfl 2, h2.cell 0 rfl 3⟩ (fun hHeld2 => ?_)
    clear hK K
    try simp only [Act.put, List.getElem_toArray, List.getElem_cons_zero, List.getElem_cons_succ, List.setIfInBounds_toArray, List.set_cons_zero, List.set_cons_succ]
    refine wpAnyH_take (i := 4) (v := ?_) rfl (by kernel_rfl) (by kernel_rfl) (by kernel_rfl) (fun _ _ _ h => h) (Or.inl ⟨by rfl, ?_⟩) (by assumption) ?_
    rotate_left
    · intro w hSw; (try dsimp only at hSw); go_simp; (try with_reducible rfl)
    try simp only [Act.put, List.getElem_toArray, List.getElem_cons_zero, List.getElem_cons_succ, List.setIfInBounds_toArray, List.set_cons_zero, List.set_cons_succ]
    refine wpAnyH_take (i := 5) (v := ?_) rfl (by kernel_rfl) (by kernel_rfl) (by kernel_rfl) (fun _ _ _ h => h) (Or.inl ⟨by rfl, ?_⟩) (by assumption) ?_
    rotate_left
    · intro w hSw; (try dsimp only at hSw); go_simp; (try with_reducible rfl)
    try simp only [Act.put, List.getElem_toArray, List.getElem_cons_zero, List.getElem_cons_succ, List.setIfInBounds_toArray, List.set_cons_zero, List.set_cons_succ]
    refine wpAnyH_ready (rs := [6]) (by kernel_rfl) (by simp) ?_
    refine AllReadyH.cons rfl (fun K hK => ?_) AllReadyH.nil
    go_simp
    refine (law_awake _).mono ?_
    rintro e wC ⟨rfl, hb⟩
    have h3 := h2.next (grownBy_below hb none) (fun _ h => by cases h)
    clear hb
    refine hK.out _ _ ⟨h3.cell 0 rfl 0, h3.cell 0 rfl 1, h3.cell 0 rfl 2, h3.cell 0 rfl 3⟩ (fun hHeld2 => ?_)
    clear hK K
    try simp only [Act.put, List.getElem_toArray, List.getElem_cons_zero, List.getElem_cons_succ, List.setIfInBounds_toArray, List.set_cons_zero, List.set_cons_succ]
    refine wpAnyH_take (i := 7) (v := ?_) rfl (by kernel_rfl) (by kernel_rfl) (by kernel_rfl) (fun _ _ _ h => h) (Or.inl ⟨by rfl, ?_⟩) (by assumption) ?_
    rotate_left
    · intro w hSw; (try dsimp only at hSw); go_simp; (try with_reducible rfl)
    try simp only [Act.put, List.getElem_toArray, List.getElem_cons_zero, List.getElem_cons_succ, List.setIfInBounds_toArray, List.set_cons_zero, List.set_cons_succ]
    refine wpAnyH_take (i := 8) (v := ?_) rfl (by kernel_rfl) (by kernel_rfl) (by kernel_rfl) (fun _ _ _ h => h) (Or.inl ⟨by rfl, ?_⟩) (by assumption) ?_
    rotate_left
    · intro w hSw; (try dsimp only at hSw); go_simp; (try with_reducible rfl)
    try simp only [Act.put, List.getElem_toArray, List.getElem_cons_zero, List.getElem_cons_succ, List.setIfInBounds_toArray, List.set_cons_zero, List.set_cons_succ]
    refine wpAnyH_done (by kernel_rfl) ?_ _
    refine NoPanic.normal ?_
    go_wp2_with fail
    go_ret
    exact ⟨rfl, below_grownBy h3.grown⟩
end Go.Proofs.YtfphlpglgcmljaaGreat
