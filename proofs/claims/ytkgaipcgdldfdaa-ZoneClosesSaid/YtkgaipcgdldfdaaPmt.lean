/- The program's Meets. -/
import Derived.Test.YtkgaipcgdldfdaaAt
import Derived.Deep.RegionHeld3
namespace Go.Proofs.Ytkgaipcgdldfdaa
open Go.RowKit
set_option linter.unusedVariables false

set_option maxRecDepth 100000 in
set_option maxHeartbeats 4000000 in
theorem pr_meets (n d l : Int) (w : World) (hn : I64 n) :
    Calls Try.prog 130 #[.agg #[.int .i64 n, .int .i64 d], .int .i64 l] w fun e w' => BEm (meetR n d l) e ∧ Below w.heap.size w w' := by
  have hloc0 := Loc.one w (.cells #[.int .i64 n, .int .i64 d] 48) none
  cases h1 : vr n d
  · have H := Lib.hid (meetR_no (n := n) (d := d) (l := l) (fun h => by rw [h1] at h; cases h.1))
    go_enter Try.func130, Try.ntmps130
    go_wp2_with fail
    refine (pr_valid n d _ hn.1 hn.2).mono ?_
    rw [h1]
    rintro e w1 ⟨rfl, hb1⟩
    have hloc1 := hloc0.next (grownBy_below hb1 none) (fun _ h => by cases h)
    clear h1
    go_wp2_with fail
    go_ret2
    exact ⟨BEm.of H.out, below_grownBy hloc1.grown⟩
  · cases h2 : vld l
    · have H := Lib.hid (meetR_no (n := n) (d := d) (l := l) (fun h => by rw [h2] at h; cases h.2))
      go_enter Try.func130, Try.ntmps130
      go_wp2_with fail
      refine (pr_valid n d _ hn.1 hn.2).mono ?_
      rw [h1]
      rintro e w1 ⟨rfl, hb1⟩
      have hloc1 := hloc0.next (grownBy_below hb1 none) (fun _ h => by cases h)
      clear h1
      go_wp2_with fail
      refine (prog_valid _ _).mono ?_
      rw [h2]
      rintro e w2 ⟨rfl, rfl⟩
      go_wp2_with fail
      go_ret2
      exact ⟨BEm.of H.out, below_grownBy hloc1.grown⟩
    · have hr := (vr_iff n d).1 h1
      have hv := (vld_iff l).1 h2
      by_cases hl : l = 1099511627776
      · have H := Lib.hid (meetR_nl ⟨h1, h2⟩ hl)
        have hl' : (l == 1099511627776) = true := by simpa using hl
        clear hl hr hv
        go_enter Try.func130, Try.ntmps130
        go_wp2_with fail
        refine (pr_valid n d _ hn.1 hn.2).mono ?_
        rw [h1]
        rintro e w1 ⟨rfl, hb1⟩
        have hloc1 := hloc0.next (grownBy_below hb1 none) (fun _ h => by cases h)
        clear h1
        go_wp2_with (go_at_call 99; refine (prog_valid _ _).mono ?_; rw [h2]; rintro e w2 ⟨rfl, rfl⟩)
        go_ret2
        exact ⟨BEm.of H.out, below_grownBy hloc1.grown⟩
      · have hl' : (l == 1099511627776) = false := by simpa using hl
        obtain ⟨m1, m2⟩ := mul_bd (a := l / 2) (b := d) (by omega) (by omega) (by omega) (by omega)
        have hw : IntKind.i64.wrap (l / 2 * d) = l / 2 * d := IntWalk.i64_in _ (by omega)
        have H := Lib.hid (show meetR n d l = (if n < l / 2 * d then true else if n = l / 2 * d then !decide (l % 2 = 0) else false, 0) by
          by_cases hp : l % 2 = 0
          · rw [meetR_strict ⟨h1, h2⟩ hl hp]
            by_cases c1 : n < l / 2 * d
            · simp [c1]
            · simp [c1, hp]
          · rw [meetR_weak ⟨h1, h2⟩ hl hp]
            by_cases c1 : n < l / 2 * d
            · simp [c1]; omega
            · by_cases c2 : n = l / 2 * d
              · rw [if_neg c1, if_pos c2]; simp [hp]; omega
              · rw [if_neg c1, if_neg c2]; simp; omega)
        clear hl hr hv m1 m2
        go_enter Try.func130, Try.ntmps130
        go_wp2_with fail
        refine (pr_valid n d _ hn.1 hn.2).mono ?_
        rw [h1]
        rintro e w1 ⟨rfl, hb1⟩
        have hloc1 := hloc0.next (grownBy_below hb1 none) (fun _ h => by cases h)
        have l0 : w1.cell? ⟨w.heap.size, 0, none⟩ = some (.int .i64 n) := hloc1.cell 0 rfl 0
        have l1 : w1.cell? ⟨w.heap.size, 1, none⟩ = some (.int .i64 d) := hloc1.cell 0 rfl 1
        clear h1 hb1
        go_upto_region 5 with (go_at_call 99; refine (prog_valid _ _).mono ?_; rw [h2]; rintro e w2 ⟨rfl, rfl⟩)
        clear h2
        go_region_held3 (fun w' => w'.cell? ⟨w.heap.size, 0, none⟩ = some (.int .i64 n) ∧ w'.cell? ⟨w.heap.size, 1, none⟩ = some (.int .i64 d))
          (first | exact ⟨by assumption, by assumption⟩ | go_keep)
          (first
            | (go_at_call 140; refine (prog_constant _ _).mono ?_; rintro e w2 ⟨rfl, rfl⟩))
        generalize l / 2 * d = m at *
        by_cases c1 : n < m
        · have d1 : decide (n < m) = true := by simpa using c1
          have H2 := Lib.hid (H.out.trans (by rw [if_pos c1]))
          clear c1
          go_wp2_with fail
          go_ret2
          exact ⟨BEm.of H2.out, below_grownBy (hloc1.next (grownBy_drew _ none) (fun _ h => by cases h)).grown⟩
        · have d1 : decide (n < m) = false := by simpa using c1
          by_cases c2 : n = m
          · have d2 : (n == m) = true := by simpa using c2
            have H2 := Lib.hid (H.out.trans (by rw [if_neg c1, if_pos c2]))
            clear c1 c2
            go_wp2_with (go_at_call 148; refine (prog_strict _ _).mono ?_; rintro e w2 ⟨rfl, rfl⟩)
            go_ret2
            exact ⟨BEm.of H2.out, below_grownBy (hloc1.next (grownBy_drew _ none) (fun _ h => by cases h)).grown⟩
          · have d2 : (n == m) = false := by simpa using c2
            have H2 := Lib.hid (H.out.trans (by rw [if_neg c1, if_neg c2]))
            clear c1 c2
            go_wp2_with fail
            go_ret2
            exact ⟨BEm.of H2.out, below_grownBy (hloc1.next (grownBy_drew _ none) (fun _ h => by cases h)).grown⟩
end Go.Proofs.Ytkgaipcgdldfdaa
