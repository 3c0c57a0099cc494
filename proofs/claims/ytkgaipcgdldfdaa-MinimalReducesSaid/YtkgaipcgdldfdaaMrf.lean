/- The reference's small functions: are clocks bound, the first of a class, the next in it. -/
import Derived.Test.YtkgaipcgdldfdaaLim2
import Derived.Deep.RegionHeld3
namespace Go.Proofs.Ytkgaipcgdldfdaa
open Go.RowKit
set_option linter.unusedVariables false

theorem ref4_atN (N i j : Nat) (v : Value) (xs : List Int) (w : World) (hv : RL w.heap.size w v xs) (hN : N ≤ 10) (hi : i ≤ N) (hj : j ≤ N) (hx : xs.length = (N + 1) * (N + 1)) :
    Calls Try.prog 66 #[.agg #[.int .i64 N, v], .int .i64 i, .int .i64 j] w fun e w' => e = .returned (.int .i64 (ent N xs i j)) ∧ Below w.heap.size w w' := by
  have := ref4_at N i j v xs w hv hN (by omega) (by omega) (by omega) (by omega) hx
  rwa [Int.toNat_natCast, Int.toNat_natCast] at this
set_option maxHeartbeats 1000000 in
theorem ref_bound (N i j : Nat) (v : Value) (xs : List Int) (w : World) (hv : RL w.heap.size w v xs) (hN : N ≤ 10) (hi : i ≤ N) (hj : j ≤ N) (hx : xs.length = (N + 1) * (N + 1)) :
    Calls Try.prog 123 #[.agg #[.int .i64 N, v], .int .i64 i, .int .i64 j] w fun e w' => e = .returned (.bool (bdB N xs i j)) ∧ Below w.heap.size w w' := by
  obtain ⟨aoz, capz, rfl, hlez, _⟩ := hv.open
  have hloc0 := Loc.one w (.cells #[.int .i64 N, .slice aoz xs.length capz] 24) none
  have Hv0 := Lib.hid (hv.keepb (below_grownBy hloc0.grown))
  have Hx := Lib.hid hx
  generalize hW : w.alloc (.cells #[.int .i64 N, .slice aoz xs.length capz] 24) = ww at hloc0 Hv0
  have c0 : ww.cell? ⟨w.heap.size, 0, none⟩ = some (.int .i64 N) := hloc0.cell 0 rfl 0
  have c1 : ww.cell? ⟨w.heap.size, 1, none⟩ = some (.slice aoz xs.length capz) := hloc0.cell 0 rfl 1
  have d0 : ww.drew.cell? ⟨w.heap.size, 0, none⟩ = some (.int .i64 N) := c0
  have d1 : ww.drew.cell? ⟨w.heap.size, 1, none⟩ = some (.slice aoz xs.length capz) := c1
  clear hv hx
  go_enter Try.func123, Try.ntmps123
  go_wp2_with fail
  try rw [hW]
  go_region_held3 (fun w' => w'.cell? ⟨w.heap.size, 0, none⟩ = some (.int .i64 N) ∧ w'.cell? ⟨w.heap.size, 1, none⟩ = some (.slice aoz xs.length capz))
    (first | exact ⟨by assumption, by assumption⟩ | go_keep)
    (first
      | (go_at_call 78; refine (ref_sum _ _ _).mono ?_; rintro e w9 ⟨rfl, rfl⟩)
      | (go_at_call 66; (first
        | ((with_reducible refine (ref4_atN N i j _ xs _ Hv0.out.drew hN (by omega) (by omega) Hx.out).mono ?_); rintro e w5 ⟨rfl, hb5⟩; have k0 := keepb d0 hb5; have k1 := keepb d1 hb5)
        | ((with_reducible refine (ref4_atN N j i _ xs _ (Hv0.out.drew.keepb hb5) hN (by omega) (by omega) Hx.out).mono ?_); rintro e w6 ⟨rfl, hb6⟩; have m0 := keepb k0 hb6; have m1 := keepb k1 hb6))))
  go_wp2_with fail
  go_ret
  exact ⟨ret_bool (by unfold bdB; rw [Bool.eq_iff_iff]; simp), below_grownBy (hloc0.next (grownBy_below (bt (bt ((Below.refl ww.heap.size ww).drew) hb5) hb6) none) (fun _ h => by cases h)).grown⟩
set_option maxHeartbeats 1000000 in
theorem ref_first (N i : Nat) (v : Value) (xs : List Int) (w : World) (hv : RL w.heap.size w v xs) (hN : N ≤ 10) (hi : i ≤ N) (hx : xs.length = (N + 1) * (N + 1)) :
    Calls Try.prog 125 #[.agg #[.int .i64 N, v], .int .i64 i] w fun e w' => e = .returned (.bool (fsB N xs i)) ∧ Below w.heap.size w w' := by
  obtain ⟨aoz, capz, rfl, hlez, _⟩ := hv.open
  have hloc0 := Loc.one w (.cells #[.int .i64 N, .slice aoz xs.length capz] 24) none
  have Hv := Lib.hid hv
  have Hx := Lib.hid hx
  clear hv hx
  go_enter Try.func125, Try.ntmps125
  go_wp2_with fail
  go_loopw [5] (fun k wr => ∃ q : Nat, q ≤ i ∧ k = .int .i64 q ∧ (∀ k, k < q → bdB N xs k i = false) ∧ Loc w wr none [.cells #[.int .i64 N, .slice aoz xs.length capz] 24]) (fun k _ => i - (intOf k).toNat)
  case atStart => exact ⟨0, by omega, rfl, fun _ h => by omega, hloc0⟩
  case round =>
    clear hloc0
    obtain ⟨k, hk, rfl, hno, hloc⟩ := hrel
    have Hno := Lib.hid hno
    clear hno
    have c0 : wr.cell? ⟨w.heap.size, 0, none⟩ = some (.int .i64 N) := hloc.cell 0 rfl 0
    have c1 : wr.cell? ⟨w.heap.size, 1, none⟩ = some (.slice aoz xs.length capz) := hloc.cell 0 rfl 1
    have Hv1 := Lib.hid (Hv.out.keepb (below_grownBy hloc.grown))
    by_cases hlt : k < i
    · have htk : decide ((k : Int) < (i : Int)) = true := by simp; omega
      go_wp2_with fail
      refine (ref_bound N k i _ xs _ Hv1.out hN (by omega) (by omega) Hx.out).mono ?_
      cases hb : bdB N xs k i
      · have Hst := Lib.hid (show ∀ m, m < k + 1 → bdB N xs m i = false from fun m hm => by
          rcases Nat.lt_or_ge m k with c | c
          · exact Hno.out m c
          · rw [show m = k by omega]; exact hb)
        clear hb
        rintro e w6 ⟨rfl, hb6⟩
        have hloc6 := hloc.next (grownBy_below hb6 none) (fun _ h => by cases h)
        clear hb6 hloc c0 c1
        go_wp2_with fail
        go_roundw
        case rel => exact ⟨k + 1, by omega, by go_num, Hst.out, hloc6⟩
        case measure => simp [intOf]; omega
      · have Hres := Lib.hid (show fsB N xs i = false by rw [Bool.eq_false_iff]; intro h; have := (fs_iff i).1 h k hlt; rw [hb] at this; cases this)
        clear hb
        rintro e w6 ⟨rfl, hb6⟩
        have hloc6 := hloc.next (grownBy_below hb6 none) (fun _ h => by cases h)
        clear hb6 hloc c0 c1
        go_wp2_with fail
        go_ret
        exact ⟨ret_bool Hres.out.symm, below_grownBy hloc6.grown⟩
    · have htk : decide ((k : Int) < (i : Int)) = false := by simp; omega
      have Hres := Lib.hid (show fsB N xs i = true from (fs_iff i).2 fun m hm => Hno.out m (by omega))
      go_wp2_with fail
      go_ret
      exact ⟨ret_bool Hres.out.symm, below_grownBy hloc.grown⟩
def NxOk (N : Nat) (xs : List Int) (i j k : Nat) : Prop := k = i ∨ k = j ∨ bdB N xs k i = false ∨ ¬ ((i < j ∧ i < k ∧ k < j) ∨ (j < i ∧ (i < k ∨ k < j)))
theorem nx_iff {N : Nat} {xs : List Int} {i j : Nat} : nxB N xs i j = true ↔ ∀ k, k ≤ N → NxOk N xs i j k := by
  unfold nxB NxOk
  simp only [List.all_eq_true, List.mem_range, Bool.or_eq_true, decide_eq_true_eq, Bool.not_eq_true', Bool.or_eq_false_iff, decide_eq_false_iff_not]
  constructor
  · intro h k hk; have := h k (by omega); rcases this with ((t | t) | t) | t
    · exact .inl t
    · exact .inr (.inl t)
    · exact .inr (.inr (.inl t))
    · exact .inr (.inr (.inr (by omega)))
  · intro h k hk; have := h k (by omega); rcases this with t | t | t | t
    · exact .inl (.inl (.inl t))
    · exact .inl (.inl (.inr t))
    · exact .inl (.inr t)
    · exact .inr (by omega)
theorem nx_bad {N : Nat} {xs : List Int} {i j k : Nat} (hk : k ≤ N) (h : ¬ NxOk N xs i j k) : nxB N xs i j = false := by
  rw [Bool.eq_false_iff]; exact fun e => h (nx_iff.1 e k hk)
def NxTo (N : Nat) (xs : List Int) (i j q : Nat) : Prop := ∀ k, k < q → NxOk N xs i j k
theorem NxTo.succ {N : Nat} {xs : List Int} {i j q : Nat} (h : NxTo N xs i j q) (h' : NxOk N xs i j q) : NxTo N xs i j (q + 1) := fun k hk => by
  rcases Nat.lt_or_ge k q with c | c
  · exact h k c
  · rw [show k = q by omega]; exact h'
set_option maxRecDepth 100000 in
set_option maxHeartbeats 4000000 in
theorem ref_next (N i j : Nat) (v : Value) (xs : List Int) (w : World) (hv : RL w.heap.size w v xs) (hN : N ≤ 10) (hi : i ≤ N) (hj : j ≤ N) (hx : xs.length = (N + 1) * (N + 1)) :
    Calls Try.prog 124 #[.agg #[.int .i64 N, v], .int .i64 i, .int .i64 j] w fun e w' => e = .returned (.bool (nxB N xs i j)) ∧ Below w.heap.size w w' := by
  obtain ⟨aoz, capz, rfl, hlez, _⟩ := hv.open
  have hloc0 := Loc.one w (.cells #[.int .i64 N, .slice aoz xs.length capz] 24) none
  have Hv := Lib.hid hv
  have Hx := Lib.hid hx
  clear hv hx
  go_enter Try.func124, Try.ntmps124
  go_wp2_with fail
  go_loopw [7] (fun k wr => ∃ q : Nat, q ≤ N + 1 ∧ k = .int .i64 q ∧ NxTo N xs i j q ∧ Loc w wr none [.cells #[.int .i64 N, .slice aoz xs.length capz] 24]) (fun k _ => N + 1 - (intOf k).toNat)
  case atStart => exact ⟨0, by omega, rfl, fun _ h => by omega, hloc0⟩
  case round =>
    clear hloc0
    obtain ⟨k, hk, rfl, hto, hloc⟩ := hrel
    have Hto := Lib.hid hto
    clear hto
    have c0 : wr.cell? ⟨w.heap.size, 0, none⟩ = some (.int .i64 N) := hloc.cell 0 rfl 0
    have c1 : wr.cell? ⟨w.heap.size, 1, none⟩ = some (.slice aoz xs.length capz) := hloc.cell 0 rfl 1
    have Hv1 := Lib.hid (Hv.out.keepb (below_grownBy hloc.grown))
    by_cases hlt : k ≤ N
    rotate_left
    · have htk : decide ((k : Int) ≤ (N : Int)) = false := by simp; omega
      have Hres := Lib.hid (show nxB N xs i j = true from nx_iff.2 fun m hm => Hto.out m (by omega))
      go_wp2_with fail
      go_ret
      exact ⟨ret_bool Hres.out.symm, below_grownBy hloc.grown⟩
    have htk : decide ((k : Int) ≤ (N : Int)) = true := by simp; omega
    by_cases hki : k = i
    · have Hst := Lib.hid (Hto.out.succ (.inl hki))
      have hkb : ((k : Int) == (i : Int)) = true := by simp; omega
      clear hki
      go_wp2_with fail
      go_roundw
      case rel => exact ⟨k + 1, by omega, by go_num, Hst.out, hloc⟩
      case measure => simp [intOf]; omega
    have hkb : ((k : Int) == (i : Int)) = false := by simp; omega
    by_cases hkj : k = j
    · have Hst := Lib.hid (Hto.out.succ (.inr (.inl hkj)))
      have hkc : ((k : Int) == (j : Int)) = true := by simp; omega
      clear hkj hki
      go_wp2_with fail
      go_roundw
      case rel => exact ⟨k + 1, by omega, by go_num, Hst.out, hloc⟩
      case measure => simp [intOf]; omega
    have hkc : ((k : Int) == (j : Int)) = false := by simp; omega
    have Hkij := Lib.hid (And.intro hki hkj)
    clear hki hkj
    go_wp2_with fail
    refine (ref_bound N k i _ xs _ Hv1.out hN (by omega) (by omega) Hx.out).mono ?_
    cases hb : bdB N xs k i
    · have Hst := Lib.hid (Hto.out.succ (.inr (.inr (.inl hb))))
      clear hb
      rintro e w6 ⟨rfl, hb6⟩
      have hloc6 := hloc.next (grownBy_below hb6 none) (fun _ h => by cases h)
      clear hb6 hloc c0 c1
      go_wp2_with fail
      go_roundw
      case rel => exact ⟨k + 1, by omega, by go_num, Hst.out, hloc6⟩
      case measure => simp [intOf]; omega
    have Hb := Lib.hid hb
    clear hb
    rintro e w6 ⟨rfl, hb6⟩
    have hloc6 := hloc.next (grownBy_below hb6 none) (fun _ h => by cases h)
    clear hb6 hloc c0 c1
    by_cases q1 : i < j
    · have q4 : ¬ j < i := by omega
      by_cases q2 : i < k
      · by_cases q3 : k < j
        · have Hres := Lib.hid (nx_bad (N := N) (xs := xs) (i := i) (j := j) (k := k) hlt (fun h => by rcases h with h | h | h | h; exact Hkij.out.1 h; exact Hkij.out.2 h; (rw [Hb.out] at h; cases h); omega))
          go_wp2_with fail
          go_ret
          exact ⟨ret_bool Hres.out.symm, below_grownBy hloc6.grown⟩
        · have Hst := Lib.hid (Hto.out.succ (.inr (.inr (.inr (by omega)))))
          go_wp2_with fail
          go_roundw
          case rel => exact ⟨k + 1, by omega, by go_num, Hst.out, hloc6⟩
          case measure => simp [intOf]; omega
      · have Hst := Lib.hid (Hto.out.succ (.inr (.inr (.inr (by omega)))))
        go_wp2_with fail
        go_roundw
        case rel => exact ⟨k + 1, by omega, by go_num, Hst.out, hloc6⟩
        case measure => simp [intOf]; omega
    · by_cases q4 : j < i
      · by_cases q2 : i < k
        · have Hres := Lib.hid (nx_bad (N := N) (xs := xs) (i := i) (j := j) (k := k) hlt (fun h => by rcases h with h | h | h | h; exact Hkij.out.1 h; exact Hkij.out.2 h; (rw [Hb.out] at h; cases h); omega))
          go_wp2_with fail
          go_ret
          exact ⟨ret_bool Hres.out.symm, below_grownBy hloc6.grown⟩
        · by_cases q3 : k < j
          · have Hres := Lib.hid (nx_bad (N := N) (xs := xs) (i := i) (j := j) (k := k) hlt (fun h => by rcases h with h | h | h | h; exact Hkij.out.1 h; exact Hkij.out.2 h; (rw [Hb.out] at h; cases h); omega))
            go_wp2_with fail
            go_ret
            exact ⟨ret_bool Hres.out.symm, below_grownBy hloc6.grown⟩
          · have Hst := Lib.hid (Hto.out.succ (.inr (.inr (.inr (by omega)))))
            go_wp2_with fail
            go_roundw
            case rel => exact ⟨k + 1, by omega, by go_num, Hst.out, hloc6⟩
            case measure => simp [intOf]; omega
      · have Hst := Lib.hid (Hto.out.succ (.inr (.inr (.inr (by omega)))))
        go_wp2_with fail
        go_roundw
        case rel => exact ⟨k + 1, by omega, by go_num, Hst.out, hloc6⟩
        case measure => simp [intOf]; omega
end Go.Proofs.Ytkgaipcgdldfdaa
