/- Contract of the law's helper scaled. -/
import Derived.Test.YtmjpcakikflcfaaCov1
import Derived.Test.YtmjpcakikflcfaaRand
namespace Go.Proofs.Ytmjpcakikflcfaa
open Go.RowKit
set_option linter.unusedVariables false

/-- A limit of an enlarged zone. -/
def scl (c l : Int) : Int := if l = 1099511627776 then 1099511627776 else 2 * (l / 2) * c + l % 2
def sokB (l : Int) : Bool := decide (l = 1099511627776 ∨ (-1048576 ≤ l / 2 ∧ l / 2 ≤ 1048576))
structure MidS (c : Int) (xs m : List Int) (q : Nat) : Prop where
  len : m.length = xs.length
  done : ∀ k, k < q → gi m k = scl c (gi xs k)
  todo : ∀ k, q ≤ k → gi m k = gi xs k
  ok : ∀ k, k < q → sokB (gi xs k) = true
theorem MidS.skip {c : Int} {xs m : List Int} {q : Nat} (h : MidS c xs m q) (hq : q < xs.length) (hn : gi xs q = 1099511627776) : MidS c xs m (q + 1) where
  len := h.len
  done := fun k hk => by
    by_cases e : k = q
    · subst e; rw [h.todo k (Nat.le_refl _)]; unfold scl; rw [if_pos hn, hn]
    · exact h.done k (by omega)
  todo := fun k hk => h.todo k (by omega)
  ok := fun k hk => by
    by_cases e : k = q
    · subst e; unfold sokB; simp [hn]
    · exact h.ok k (by omega)
theorem MidS.set {c : Int} {xs m : List Int} {q : Nat} (h : MidS c xs m q) (hq : q < xs.length) (hn : ¬ gi xs q = 1099511627776) (h1 : -1048576 ≤ gi xs q / 2) (h2 : gi xs q / 2 ≤ 1048576) : MidS c xs (m.set q (2 * (gi xs q / 2) * c + gi xs q % 2)) (q + 1) where
  len := by rw [List.length_set]; exact h.len
  done := fun k hk => by
    rw [gi_set]
    by_cases e : q = k
    · subst e; rw [if_pos ⟨rfl, by rw [h.len]; exact hq⟩]; unfold scl; rw [if_neg hn]
    · rw [if_neg (by omega)]; exact h.done k (by omega)
  todo := fun k hk => by rw [gi_set, if_neg (by omega)]; exact h.todo k (by omega)
  ok := fun k hk => by
    by_cases e : k = q
    · subst e; unfold sokB; simp [h1, h2]
    · exact h.ok k (by omega)
theorem MidS.finish {c : Int} {xs m : List Int} {q : Nat} (h : MidS c xs m q) (hq : xs.length ≤ q) : m = xs.map (scl c) ∧ xs.all sokB = true := by
  refine ⟨ext_gi (by rw [h.len, List.length_map]) (fun k hk => ?_), all_take_of (fun k hk => h.ok k (by omega))⟩
  have hk' : k < xs.length := by rw [← h.len]; exact hk
  rw [h.done k (by omega), gi_of (xs := xs.map (scl c)) (by rw [List.length_map]; exact hk'), List.getElem_map, ← gi_of hk']
/-- What scaled returns. -/
def SC (lt : Nat) (n c : Int) (xs : List Int) (w : World) (e : Ending) (w' : World) : Prop :=
  (xs.all sokB = true ∧ ∃ v', e = .returned (.tuple #[.agg #[.int .i64 n, v'], .bool true]) ∧ OL lt w.heap.size w' v' (xs.map (scl c))) ∨
  (xs.all sokB = false ∧ e = .returned (.tuple #[.agg #[.int .i64 0, .slice none 0 0], .bool false]))
set_option maxRecDepth 100000 in
set_option maxHeartbeats 2000000 in
theorem law_scaled (n c : Int) (v : Value) (xs : List Int) (w : World) (hv : RL w.heap.size w v xs) (hx : xs.length ≤ 200) (hc1 : 1 ≤ c) (hc2 : c ≤ 500) :
    Calls Try.prog 17 #[.agg #[.int .i64 n, v], .int .i64 c] w fun e w' => SC 49 n c xs w e w' ∧ Below w.heap.size w w' := by
  obtain ⟨ao, cap, rfl, hle, h0⟩ := hv.open
  have hloc0 := Loc.two w (.cells #[.int .i64 n, .slice ao xs.length cap] 24) (.cells #[.int .i64 0, .slice none 0 0] 24) none
  have Hv := Lib.hid (hv.keepb (below_grownBy hloc0.grown))
  clear hv h0
  go_enter Try.func17, Try.ntmps17
  go_wp2_with (at_builtin; (refine wpList_append_copy rfl (.tmp 9) (.tmp 11) 22 rfl 49 Try.undLimits Try.infoLimit (w.heap.size + 1 + 1) rfl ?_ _ rfl xs ?_ (by omega) ?_; (exact heap_new3 w _ _ _); (exact (Hv.out.keepb ((Below.refl _ _).alloc (Nat.le_refl _) _))); intro ao4 c4 w4 ho4 hg4))
  have hloc4 := hloc0.anyrow (grownBy_trans (World.grownBy_alloc _ _ _) hg4) (fun _ h => by cases h; simp)
  have Ho4 := Lib.hid ho4
  clear hg4 hloc0
  go_loopw [7, 8] (fun i _ wr => ∃ q : Nat, q ≤ xs.length ∧ i = .int .i64 q ∧ ∃ m, MidS c xs m q ∧ OL 49 (w.heap.size + 1 + 1) wr (.slice ao4 xs.length c4) m ∧ Loc w wr none [.cells #[.int .i64 n, .slice ao xs.length cap] 24, .cells #[.int .i64 0, .slice none 0 0] 24]) (fun i _ _ => xs.length - (intOf i).toNat)
  case atStart => exact ⟨0, by omega, rfl, xs, ⟨rfl, fun _ h => by omega, fun _ _ => rfl, fun _ h => by omega⟩, ho4, hloc4⟩
  case round =>
    clear ho4 hloc4
    obtain ⟨q, hq, rfl, m, hm, hown, hloc⟩ := hrel
    have Hm := Lib.hid hm
    clear hm
    have r0 : wr.cell? ⟨w.heap.size + 1, 0, none⟩ = some (.int .i64 0) := hloc.cell 1 rfl 0
    have r1 : wr.cell? ⟨w.heap.size + 1, 1, none⟩ = some (.slice none 0 0) := hloc.cell 1 rfl 1
    have r2 : wr.frozen? ⟨w.heap.size + 1, 0, none⟩ = false := hloc.free 1 rfl 0
    have r3 : wr.frozen? ⟨w.heap.size + 1, 1, none⟩ = false := hloc.free 1 rfl 1
    have z0 : wr.cell? ⟨w.heap.size, 0, none⟩ = some (.int .i64 n) := hloc.cell 0 rfl 0
    by_cases hlt : q < xs.length
    · obtain ⟨g4, cap4, e4, hg4, hlt4, _, _⟩ := Ho4.out.open (by omega)
      simp only [Value.slice.injEq, true_and] at e4
      obtain ⟨rfl, rfl⟩ := e4
      obtain ⟨x4, f4⟩ := ol_cell hown (k := q) (by rw [Hm.out.len]; exact hlt)
      have y4 : (q : Int) < xs.length := by omega
      have hand := and_one_i64
      rw [Hm.out.todo q (Nat.le_refl _)] at x4
      by_cases hn : gi xs q = 1099511627776
      · have hst := Lib.hid (Hm.out.skip hlt hn)
        rw [hn] at x4
        clear hn
        go_wp2_with fail
        go_roundw
        case rel => exact ⟨q + 1, by omega, by go_num, m, hst.out, hown, hloc⟩
        case measure => simp [intOf]; omega
      · have hn' : (gi xs q == 1099511627776) = false := by simpa using hn
        by_cases hr : -1048576 ≤ gi xs q / 2 ∧ gi xs q / 2 ≤ 1048576
        · have hst := Lib.hid (Hm.out.set hlt hn hr.1 hr.2)
          have d1 : decide ((1048576 : Int) < gi xs q / 2) = false := by simp; omega
          have d2 : decide (gi xs q / 2 < (-1048576 : Int)) = false := by simp; omega
          have hsd := Lib.hid (OL.stored hown Hm.out.len.symm q (2 * (gi xs q / 2) * c + gi xs q % 2))
          obtain ⟨hr1, hr2⟩ := hr
          have m1 : -1048576000 ≤ 2 * (gi xs q / 2) * c ∧ 2 * (gi xs q / 2) * c ≤ 1048576000 := by
            have : (2 * (gi xs q / 2) * c).natAbs ≤ 2097152 * 500 := by
              rw [Int.natAbs_mul]; exact Nat.mul_le_mul (by omega) (by omega)
            omega
          obtain ⟨m2, m3⟩ := m1
          go_wp2_with fail
          go_roundw
          case rel => exact ⟨q + 1, by omega, by go_num, _, hst.out, hsd.out.1, hloc.anyrow hsd.out.2 (fun k hk => by cases hk; simp; omega)⟩
          case measure => simp [intOf]; omega
        · have hbad := Lib.hid (show xs.all sokB = false by
            cases h : xs.all sokB
            · rfl
            · rw [List.all_eq_true] at h
              have := h _ (gi_mem hlt); unfold sokB at this; simp only [decide_eq_true_eq] at this; exact absurd (this.resolve_left hn) hr)
          by_cases hr1 : (1048576 : Int) < gi xs q / 2
          · go_wp2_with fail
            refine bodyPost_ret (v := .tuple #[.agg #[.int .i64 0, .slice none 0 0], .bool false]) (by simp [results, Try.results17, go_sem, r0, r1]) rfl ⟨.inr ⟨hbad.out, rfl⟩, ?_⟩
            exact ((below_grownBy hloc.grown).setCell (by simp) _).setCell (by simp) _
          · have d1 : decide ((1048576 : Int) < gi xs q / 2) = false := by simpa using hr1
            have d2 : gi xs q / 2 < (-1048576 : Int) := by omega
            go_wp2_with fail
            refine bodyPost_ret (v := .tuple #[.agg #[.int .i64 0, .slice none 0 0], .bool false]) (by simp [results, Try.results17, go_sem, r0, r1]) rfl ⟨.inr ⟨hbad.out, rfl⟩, ?_⟩
            exact ((below_grownBy hloc.grown).setCell (by simp) _).setCell (by simp) _
    · have hd : decide ((q : Int) < (xs.length : Int)) = false := by simp; omega
      obtain ⟨hfin, hall⟩ := Hm.out.finish (by omega)
      have Hfin := Lib.hid hfin
      have Hall := Lib.hid hall
      clear hfin hall
      go_wp2_with fail
      refine bodyPost_ret (v := .tuple #[.agg #[.int .i64 n, .slice ao4 xs.length c4], .bool true]) (by simp [results, Try.results17, go_sem, r0, r1]) rfl ⟨.inl ⟨Hall.out, _, rfl, ?_⟩, ?_⟩
      · rw [← Hfin.out]; exact OL.mono (base := w.heap.size + 2) (own_set2 hown (by omega) _ _) (by omega)
      · exact ((below_grownBy hloc.grown).setCell (by simp) _).setCell (by simp) _
end Go.Proofs.Ytmjpcakikflcfaa
