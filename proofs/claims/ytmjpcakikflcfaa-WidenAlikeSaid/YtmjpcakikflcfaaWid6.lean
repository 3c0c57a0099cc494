/- Contracts: Greatest, in the program and in the reference; Same; beyond. -/
import Derived.Test.YtmjpcakikflcfaaWid3
import Derived.Test.YtmjpcakikflcfaaWid5
namespace Go.Proofs.Ytmjpcakikflcfaa
open Go.RowKit

set_option maxHeartbeats 1000000 in
theorem prog_greatest (n : Int) (v kv : Value) (xs k : List Int) (w : World) (hv : RL w.heap.size w v xs) (hk : RL w.heap.size w kv k) :
    Calls Try.prog 11 #[.agg #[.int .i64 n, v], kv] w fun e w' => ZPost 49 w.heap.size n (widB n xs k k) e w' ∧ Below w.heap.size w w' := by
  obtain ⟨ao, cap, rfl, _⟩ := hv.open
  obtain ⟨aok, capk, rfl, _⟩ := hk.open
  have hloc0 := Loc.two w (.cells #[.int .i64 n, (.slice ao xs.length cap)] 24) (.cells #[.int .i64 0, .slice none 0 0] 24) none
  have Hv := Lib.hid (hv.keepb (below_grownBy hloc0.grown))
  have Hk := Lib.hid (hk.keepb (below_grownBy hloc0.grown))
  have hsz0 := hloc0.size
  simp only [List.length_cons, List.length_nil] at hsz0
  have Hsz := Lib.hid hsz0
  clear hv hk hsz0
  go_enter Try.func11, Try.ntmps11
  go_wp2_with fail
  refine (prog_bounds n _ _ _ xs k k _ Hv.out Hk.out Hk.out).mono ?_
  rintro e w5 ⟨⟨v5, rfl, hown5⟩, hb5⟩
  obtain ⟨ao5, cap5, rfl⟩ := owns_form hown5
  have hloc5 := hloc0.next (grownBy_below hb5 none) (fun _ h => by cases h)
  have r0 : w5.cell? ⟨w.heap.size + 1, 0, none⟩ = some (.int .i64 0) := hloc5.cell 1 rfl 0
  have r1 : w5.cell? ⟨w.heap.size + 1, 1, none⟩ = some (.slice none 0 0) := hloc5.cell 1 rfl 1
  have f0 := hloc5.free 1 rfl 0
  have f1 := hloc5.free 1 rfl 1
  have Hown5 := Lib.hid hown5
  clear hown5 hb5 hloc0
  go_wp2_with fail
  refine bodyPost_ret (v := .tuple #[.agg #[.int .i64 (zdim (widB n xs k k) n), .slice ao5 (widB n xs k k).2.length cap5], .int .i64 (widB n xs k k).1]) (by simp [results, Try.results11, go_sem, r0, r1]) rfl ⟨⟨_, rfl, ?_⟩, ?_⟩
  · exact OL.mono (base := w.heap.size + 2) (own_set2 (owns_mono Hown5.out Hsz.out) (by omega) _ _) (by omega)
  · exact ((below_grownBy hloc5.grown).setCell (by simp) _).setCell (by simp) _

set_option maxHeartbeats 1000000 in
theorem ref_greatest (n : Int) (v kv : Value) (xs k : List Int) (w : World) (hv : RL w.heap.size w v xs) (hk : RL w.heap.size w kv k) :
    Calls Try.prog 12 #[.agg #[.int .i64 n, v], kv] w fun e w' => ZPost 49 w.heap.size n (widB n xs k k) e w' ∧ Below w.heap.size w w' := by
  obtain ⟨ao, cap, rfl, _⟩ := hv.open
  obtain ⟨aok, capk, rfl, _⟩ := hk.open
  have hloc0 := Loc.two w (.cells #[.int .i64 n, (.slice ao xs.length cap)] 24) (.cells #[.int .i64 0, .slice none 0 0] 24) none
  have Hv := Lib.hid (hv.keepb (below_grownBy hloc0.grown))
  have Hk := Lib.hid (hk.keepb (below_grownBy hloc0.grown))
  have hsz0 := hloc0.size
  simp only [List.length_cons, List.length_nil] at hsz0
  have Hsz := Lib.hid hsz0
  clear hv hk hsz0
  go_enter Try.func12, Try.ntmps12
  go_wp2_with fail
  refine (ref_bounds n _ _ _ xs k k _ Hv.out Hk.out Hk.out).mono ?_
  rintro e w5 ⟨⟨v5, rfl, hown5⟩, hb5⟩
  obtain ⟨ao5, cap5, rfl⟩ := owns_form hown5
  have hloc5 := hloc0.next (grownBy_below hb5 none) (fun _ h => by cases h)
  have r0 : w5.cell? ⟨w.heap.size + 1, 0, none⟩ = some (.int .i64 0) := hloc5.cell 1 rfl 0
  have r1 : w5.cell? ⟨w.heap.size + 1, 1, none⟩ = some (.slice none 0 0) := hloc5.cell 1 rfl 1
  have f0 := hloc5.free 1 rfl 0
  have f1 := hloc5.free 1 rfl 1
  have Hown5 := Lib.hid hown5
  clear hown5 hb5 hloc0
  go_wp2_with fail
  refine bodyPost_ret (v := .tuple #[.agg #[.int .i64 (zdim (widB n xs k k) n), .slice ao5 (widB n xs k k).2.length cap5], .int .i64 (widB n xs k k).1]) (by simp [results, Try.results12, go_sem, r0, r1]) rfl ⟨⟨_, rfl, ?_⟩, ?_⟩
  · exact OL.mono (base := w.heap.size + 2) (own_set2 (owns_mono Hown5.out Hsz.out) (by omega) _ _) (by omega)
  · exact ((below_grownBy hloc5.grown).setCell (by simp) _).setCell (by simp) _

/-- Are two zones the same? -/
def sameB (n n2 : Int) (xs ys : List Int) : Bool := decide (n = n2 ∧ xs = ys)
def EqTo (xs ys : List Int) (q : Nat) : Prop := ∀ k, k < q → gi xs k = gi ys k
theorem EqTo.succ {xs ys : List Int} {q : Nat} (h : EqTo xs ys q) (h' : gi xs q = gi ys q) : EqTo xs ys (q + 1) := fun k hk => by
  by_cases e : k = q
  · subst e; exact h'
  · exact h k (by omega)
set_option maxHeartbeats 1000000 in
theorem ref_same (n n2 : Int) (v v2 : Value) (xs ys : List Int) (w : World) (hv : RL w.heap.size w v xs) (hv2 : RL w.heap.size w v2 ys) :
    Calls Try.prog 13 #[.agg #[.int .i64 n, v], .agg #[.int .i64 n2, v2]] w fun e w' => e = .returned (.bool (sameB n n2 xs ys)) ∧ Below w.heap.size w w' := by
  obtain ⟨ao, cap, rfl, hle, h0⟩ := hv.open
  obtain ⟨ao2, cap2, rfl, hle2, h02⟩ := hv2.open
  have hloc0 := Loc.two w (.cells #[.int .i64 n, (.slice ao xs.length cap)] 24) (.cells #[.int .i64 n2, (.slice ao2 ys.length cap2)] 24) none
  have Hv := Lib.hid hv
  have Hv2 := Lib.hid hv2
  clear hv hv2
  by_cases hn : n = n2
  · have hn' : (n != n2) = false := by simpa using hn
    by_cases hl : xs.length = ys.length
    · have hl' : ((xs.length : Int) != (ys.length : Int)) = false := by simp; omega
      have Hn := Lib.hid hn
      have Hl := Lib.hid hl
      clear hn hl
      go_enter Try.func13, Try.ntmps13
      go_wp2_with fail
      go_loopw [5] (fun i wr => ∃ q : Nat, q ≤ xs.length ∧ i = .int .i64 q ∧ EqTo xs ys q ∧ Loc w wr none [.cells #[.int .i64 n, (.slice ao xs.length cap)] 24, .cells #[.int .i64 n2, (.slice ao2 ys.length cap2)] 24]) (fun i _ => xs.length - (intOf i).toNat)
      case atStart => exact ⟨0, by omega, rfl, fun _ h => by omega, hloc0⟩
      case round =>
        clear hloc0
        obtain ⟨j, hj, rfl, heq, hloc⟩ := hrel
        have Heq := Lib.hid heq
        clear heq
        have c1 : wr.cell? ⟨w.heap.size, 1, none⟩ = some (.slice ao xs.length cap) := hloc.cell 0 rfl 1
        have c2 : wr.cell? ⟨w.heap.size + 1, 1, none⟩ = some (.slice ao2 ys.length cap2) := hloc.cell 1 rfl 1
        by_cases hlt : j < xs.length
        · obtain ⟨b, off, rfl, hb, hc⟩ := h0 (by omega)
          obtain ⟨b2, off2, rfl, hb2, hc2⟩ := h02 (by have := Hl.out; omega)
          have x1 : wr.cell? ⟨b, off + j, none⟩ = some (.int .i64 (gi xs j)) := ((bcell (below_grownBy hloc.grown)).1 _ _ hb).trans (hc j hlt)
          have x2 : wr.cell? ⟨b2, off2 + j, none⟩ = some (.int .i64 (gi ys j)) := ((bcell (below_grownBy hloc.grown)).1 _ _ hb2).trans (hc2 j (by have := Hl.out; omega))
          have y1 : (j : Int) < xs.length := by omega
          have y2 : (j : Int) < ys.length := by have := Hl.out; omega
          clear hc hc2 h0 h02
          by_cases he : gi xs j = gi ys j
          · have he' : (gi xs j != gi ys j) = false := by simpa using he
            have He := Lib.hid he
            clear he
            go_wp2_with fail
            go_quiet (fail)
            go_wp2_with fail
            go_roundw
            case rel => exact ⟨j + 1, by omega, by go_num, Heq.out.succ He.out, hloc.next (grownBy_below (below_drewN _ _) none) (fun _ h => by cases h)⟩
            case measure => simp [intOf]; omega
          · have he' : (gi xs j != gi ys j) = true := by simpa using he
            have hres := Lib.hid (show sameB n n2 xs ys = false by unfold sameB; simp only [decide_eq_false_iff_not]; exact fun h => he (by rw [h.2]))
            clear he
            go_wp2_with fail
            go_quiet (fail)
            go_wp2_with fail
            go_ret
            exact ⟨ret_bool hres.out.symm, (below_grownBy hloc.grown).trans ((below_drewN _ _).mono hloc.grown.size)⟩
        · have hdj : decide ((j : Int) < (xs.length : Int)) = false := by simp; omega
          have hres := Lib.hid (show sameB n n2 xs ys = true by unfold sameB; simp only [decide_eq_true_eq]; exact ⟨Hn.out, ext_gi Hl.out (fun k hk => Heq.out k (by omega))⟩)
          go_wp2_with fail
          go_ret
          exact ⟨ret_bool hres.out.symm, below_grownBy hloc.grown⟩
    · have hl' : ((xs.length : Int) != (ys.length : Int)) = true := by simp; omega
      have hres := Lib.hid (show sameB n n2 xs ys = false by unfold sameB; simp only [decide_eq_false_iff_not]; exact fun h => hl (by rw [h.2]))
      clear hn hl h0 h02
      go_enter Try.func13, Try.ntmps13
      go_wp2_with fail
      go_ret
      exact ⟨ret_bool hres.out.symm, below_grownBy hloc0.grown⟩
  · have hn' : (n != n2) = true := by simpa using hn
    have hres := Lib.hid (show sameB n n2 xs ys = false by unfold sameB; simp only [decide_eq_false_iff_not]; exact fun h => hn h.1)
    clear hn h0 h02
    go_enter Try.func13, Try.ntmps13
    go_wp2_with fail
    go_ret
    exact ⟨ret_bool hres.out.symm, below_grownBy hloc0.grown⟩
theorem sameB_refl (n : Int) (xs : List Int) : sameB n n xs xs = true := by simp [sameB]

def beyondF (lens : List Nat) (L : Nat) : Bool := lens.any (fun l => decide (50 < l)) || decide (200 < L)
def gnat (lens : List Nat) (k : Nat) : Nat := lens.getD k 0
def BTo (lens : List Nat) (q : Nat) : Prop := ∀ k, k < q → gnat lens k ≤ 50
theorem BTo.succ {lens : List Nat} {q : Nat} (h : BTo lens q) (h' : gnat lens q ≤ 50) : BTo lens (q + 1) := fun k hk => by
  by_cases e : k = q
  · subst e; exact h'
  · exact h k (by omega)
theorem gnat_of {lens : List Nat} {k : Nat} (hk : k < lens.length) : gnat lens k = lens[k] := by
  unfold gnat; rw [List.getD_eq_getElem?_getD, List.getElem?_eq_getElem hk, Option.getD_some]
set_option maxHeartbeats 1000000 in
theorem law_beyond (n : Int) (v : Value) (xs : List Int) (bl cl : Nat) (lens : List Nat) (w : World) (hv : RL w.heap.size w v xs) (hbl : bl < w.heap.size) (hlens : lens.length ≤ 1000)
    (hrows : ∀ k, k < lens.length → ∃ ao c, w.cell? ⟨bl, k, none⟩ = some (.slice ao (gnat lens k) c) ∧ gnat lens k ≤ 9223372036854775807) :
    Calls Try.prog 7 #[.agg #[.int .i64 n, v], .slice (some ⟨bl, 0, none⟩) lens.length cl] w fun e w' => e = .returned (.bool (beyondF lens xs.length)) ∧ Below w.heap.size w w' := by
  obtain ⟨ao, cap, rfl, hle, _⟩ := hv.open
  have Hrows := Lib.hid hrows
  clear hv hrows
  have hloc0 := Loc.one w (.cells #[.int .i64 n, (.slice ao xs.length cap)] 24) none
  go_enter Try.func7, Try.ntmps7
  go_wp2_with fail
  go_loopw [5] (fun i wr => ∃ q : Nat, q ≤ lens.length ∧ i = .int .i64 q ∧ BTo lens q ∧ Loc w wr none [.cells #[.int .i64 n, (.slice ao xs.length cap)] 24]) (fun i _ => lens.length - (intOf i).toNat)
  case atStart => exact ⟨0, by omega, rfl, fun _ h => by omega, hloc0⟩
  case round =>
    clear hloc0
    obtain ⟨j, hj, rfl, hb, hloc⟩ := hrel
    have Hb := Lib.hid hb
    clear hb
    have c1 : wr.cell? ⟨w.heap.size, 1, none⟩ = some (.slice ao xs.length cap) := hloc.cell 0 rfl 1
    by_cases hlt : j < lens.length
    · obtain ⟨aor, cr, hr, hr2⟩ := Hrows.out j hlt
      have x1 := ((bcell (below_grownBy hloc.grown)).1 bl j hbl).trans hr
      clear hr
      by_cases hc : 50 < gnat lens j
      · have hc' : (50 : Int) < (gnat lens j : Int) := by omega
        have hres := Lib.hid (show beyondF lens xs.length = true by
          unfold beyondF; rw [Bool.or_eq_true]; left
          rw [List.any_eq_true]
          exact ⟨gnat lens j, by rw [gnat_of hlt]; exact List.getElem_mem hlt, decide_eq_true hc⟩)
        have hd : decide ((50 : Int) < (gnat lens j : Int)) = true := decide_eq_true hc'
        have hd' : decide (50 < gnat lens j) = true := decide_eq_true hc
        go_wp2_with fail
        go_ret
        exact ⟨ret_bool hres.out.symm, below_grownBy hloc.grown⟩
      · have hc' : (gnat lens j : Int) ≤ 50 := by omega
        have hstep := Lib.hid (Hb.out.succ (by omega))
        have hd : decide ((50 : Int) < (gnat lens j : Int)) = false := decide_eq_false (by omega)
        have hd' : decide (50 < gnat lens j) = false := decide_eq_false hc
        go_wp2_with fail
        go_roundw
        case rel => exact ⟨j + 1, by omega, by go_num, hstep.out, hloc⟩
        case measure => simp [intOf]; omega
    · have hdj : decide ((j : Int) < (lens.length : Int)) = false := by simp; omega
      have hres := Lib.hid (show beyondF lens xs.length = decide ((200 : Int) < (xs.length : Int)) by
        unfold beyondF
        have : lens.any (fun l => decide (50 < l)) = false := by
          rw [List.any_eq_false]
          intro l hl
          obtain ⟨k, hk, rfl⟩ := List.getElem_of_mem hl
          have := Hb.out k (by omega)
          rw [gnat_of hk] at this
          simp; omega
        rw [this, Bool.false_or, Bool.eq_iff_iff]; simp only [decide_eq_true_eq]; omega)
      go_wp2_with fail
      go_ret
      exact ⟨ret_bool hres.out.symm, below_grownBy hloc.grown⟩
end Go.Proofs.Ytmjpcakikflcfaa
