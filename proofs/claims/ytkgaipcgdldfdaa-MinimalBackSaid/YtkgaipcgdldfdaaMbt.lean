/- Is a constraint between two classes kept? The program's way. -/
import Derived.Test.YtkgaipcgdldfdaaMnx
namespace Go.Proofs.Ytkgaipcgdldfdaa
open Go.RowKit
set_option linter.unusedVariables false

theorem prog_at0 (N j : Nat) (v : Value) (xs : List Int) (w : World) (hv : RL w.heap.size w v xs) (hN : N ≤ 10) (hj : j ≤ N) (hx : xs.length = (N + 1) * (N + 1)) :
    Calls Try.prog 64 #[.agg #[.int .i64 N, v], .int .i64 0, .int .i64 j] w fun e w' => e = .returned (.int .i64 (ent N xs 0 j)) ∧ Below w.heap.size w w' := prog_atN N 0 j v xs w hv hN (Nat.zero_le _) hj hx
def BtOk (N : Nat) (xs : List Int) (i j k : Nat) : Prop := ¬ (i = 0 ∧ rpF N xs k = j ∧ ent N xs 0 k = 1) ∧ ¬ (rpF N xs k = k ∧ k ≠ i ∧ k ≠ j ∧ adF (ent N xs i k) (ent N xs k j) = ent N xs i j)
theorem bt_iff {N : Nat} {xs : List Int} {i j : Nat} : btwB N xs i j = true ↔ rpF N xs i = i ∧ rpF N xs j = j ∧ ∀ k, k ≤ N → BtOk N xs i j k := by
  unfold btwB BtOk
  simp only [Bool.and_eq_true, decide_eq_true_eq, List.all_eq_true, List.mem_range, Bool.not_eq_true', Bool.and_eq_false_iff, decide_eq_false_iff_not]
  constructor
  · rintro ⟨⟨a, b⟩, c⟩
    refine ⟨a, b, fun k hk => ?_⟩
    have := c k (by omega)
    omega
  · rintro ⟨a, b, c⟩
    refine ⟨⟨a, b⟩, fun k hk => ?_⟩
    have := c k (by omega)
    omega
theorem bt_bad {N : Nat} {xs : List Int} {i j k : Nat} (hk : k ≤ N) (h : ¬ BtOk N xs i j k) : btwB N xs i j = false := by
  rw [Bool.eq_false_iff]; exact fun e => h ((bt_iff.1 e).2.2 k hk)
def BtTo (N : Nat) (xs : List Int) (i j q : Nat) : Prop := ∀ k, k < q → BtOk N xs i j k
theorem BtTo.succ {N : Nat} {xs : List Int} {i j q : Nat} (h : BtTo N xs i j q) (h' : BtOk N xs i j q) : BtTo N xs i j (q + 1) := fun k hk => by
  rcases Nat.lt_or_ge k q with c | c
  · exact h k c
  · rw [show k = q by omega]; exact h'
set_option maxRecDepth 100000 in
set_option maxHeartbeats 8000000 in
theorem prog_between (N i j : Nat) (v : Value) (xs : List Int) (w : World) (hv : RL w.heap.size w v xs) (hok : OkZ N xs) (hi : i ≤ N) (hj : j ≤ N) :
    Calls Try.prog 62 #[.agg ((clTo N xs (N + 1)).map (Value.int .i64)).toArray, .agg #[.int .i64 N, v], .int .i64 i, .int .i64 j] w fun e w' => e = .returned (.bool (btwB N xs i j)) ∧ Below w.heap.size w w' := by
  have hN : N ≤ 10 := by have := hok.hi; omega
  have Hx := Lib.hid (show xs.length = (N + 1) * (N + 1) by have := hok.len; rwa [Int.toNat_natCast] at this)
  have HV := Lib.hid (show ∀ a b, a ≤ N → b ≤ N → vld (ent N xs a b) = true from fun a b ha hb => (hok.el ha hb).val)
  obtain ⟨aoz, capz, rfl, hlez, _⟩ := hv.open
  have HG := Lib.hid (show ∀ k, k ≤ N → (((clTo N xs (N + 1)).map (Value.int .i64)).toArray)[k]? = some (.int .i64 (rpF N xs k)) from fun k hk => cl_get hN hk)
  generalize ((clTo N xs (N + 1)).map (Value.int .i64)).toArray = cs at *
  have hloc0 := Loc.two w (.cells cs 76) (.cells #[.int .i64 N, .slice aoz xs.length capz] 24) none
  have Hv := Lib.hid hv
  clear hv hok
  have c0i : ((w.alloc (.cells cs 76)).alloc (.cells #[.int .i64 N, .slice aoz xs.length capz] 24)).cell? ⟨w.heap.size, i, none⟩ = some (.int .i64 (rpF N xs i)) := (hloc0.cell 0 rfl i).trans (HG.out i hi)
  have c0j : ((w.alloc (.cells cs 76)).alloc (.cells #[.int .i64 N, .slice aoz xs.length capz] 24)).cell? ⟨w.heap.size, j, none⟩ = some (.int .i64 (rpF N xs j)) := (hloc0.cell 0 rfl j).trans (HG.out j hj)
  have c00 : ((w.alloc (.cells cs 76)).alloc (.cells #[.int .i64 N, .slice aoz xs.length capz] 24)).cell? ⟨w.heap.size + 1, 0, none⟩ = some (.int .i64 N) := hloc0.cell 1 rfl 0
  have c01 : ((w.alloc (.cells cs 76)).alloc (.cells #[.int .i64 N, .slice aoz xs.length capz] 24)).cell? ⟨w.heap.size + 1, 1, none⟩ = some (.slice aoz xs.length capz) := hloc0.cell 1 rfl 1
  have hi0 : (0 : Int) ≤ (i : Int) := by omega
  have hi11 : (i : Int) < 11 := by omega
  have hj0 : (0 : Int) ≤ (j : Int) := by omega
  have hj11 : (j : Int) < 11 := by omega
  by_cases hA : rpF N xs i = i
  rotate_left
  · have hAb : ((rpF N xs i : Int) != (i : Int)) = true := by simp; omega
    have Hres := Lib.hid (show btwB N xs i j = false by rw [Bool.eq_false_iff]; exact fun e => hA (bt_iff.1 e).1)
    clear hA
    generalize rpF N xs i = R at *
    go_enter Try.func62, Try.ntmps62
    go_wp2_with fail
    go_ret
    exact ⟨ret_bool Hres.out.symm, below_grownBy (Loc.two w _ _ none).grown⟩
  rw [hA] at c0i
  have HA := Lib.hid hA
  clear hA
  by_cases hB : rpF N xs j = j
  rotate_left
  · have hBb : ((rpF N xs j : Int) != (j : Int)) = true := by simp; omega
    have Hres := Lib.hid (show btwB N xs i j = false by rw [Bool.eq_false_iff]; exact fun e => hB (bt_iff.1 e).2.1)
    clear hB
    generalize rpF N xs j = R at *
    go_enter Try.func62, Try.ntmps62
    go_wp2_with fail
    go_ret
    exact ⟨ret_bool Hres.out.symm, below_grownBy (Loc.two w _ _ none).grown⟩
  rw [hB] at c0j
  have HB := Lib.hid hB
  clear hB
  have Hv0 := Lib.hid (Hv.out.keepb (below_grownBy hloc0.grown))
  go_enter Try.func62, Try.ntmps62
  go_wp2_with fail
  refine (prog_atN N i j _ xs _ Hv0.out hN hi hj Hx.out).mono ?_
  rintro e w1 ⟨rfl, hb1⟩
  have hloc1 := hloc0.next (grownBy_below hb1 none) (fun _ h => by cases h)
  have c10 : w1.cell? ⟨w.heap.size + 1, 0, none⟩ = some (.int .i64 N) := hloc1.cell 1 rfl 0
  clear hb1 hloc0 c0i c0j c00 c01 Hv0
  go_wp2_with fail
  go_loopw [30] (fun k wr => ∃ q : Nat, q ≤ N + 1 ∧ k = .int .i64 q ∧ BtTo N xs i j q ∧ Loc w wr none [.cells cs 76, .cells #[.int .i64 N, .slice aoz xs.length capz] 24]) (fun k _ => N + 1 - (intOf k).toNat)
  case atStart => exact ⟨0, by omega, rfl, fun _ h => by omega, hloc1⟩
  case round =>
    clear hloc1 c10
    obtain ⟨k, hk, rfl, hto, hloc⟩ := hrel
    have Hto := Lib.hid hto
    clear hto
    by_cases hlt : k < N + 1
    rotate_left
    · have htk : decide ((k : Int) < (N : Int) + 1) = false := by simp; omega
      have Hres := Lib.hid (show btwB N xs i j = true from bt_iff.2 ⟨HA.out, HB.out, fun k' h => Hto.out k' (by omega)⟩)
      go_wp2_with fail
      go_ret
      exact ⟨ret_bool Hres.out.symm, below_grownBy hloc.grown⟩
    have htk : decide ((k : Int) < (N : Int) + 1) = true := by simp; omega
    have hk0 : (0 : Int) ≤ (k : Int) := by omega
    have hk11 : (k : Int) < 11 := by omega
    have ck : wr.cell? ⟨w.heap.size, k, none⟩ = some (.int .i64 (rpF N xs k)) := (hloc.cell 0 rfl k).trans (HG.out k (by omega))
    have c0 : wr.cell? ⟨w.heap.size + 1, 0, none⟩ = some (.int .i64 N) := hloc.cell 1 rfl 0
    have c1 : wr.cell? ⟨w.heap.size + 1, 1, none⟩ = some (.slice aoz xs.length capz) := hloc.cell 1 rfl 1
    have Hv1 := Lib.hid (Hv.out.keepb (below_grownBy hloc.grown))
    by_cases h0 : i = 0
    rotate_left
    · have h0b : ((i : Int) == 0) = false := by simp; omega
      have N1a := Lib.hid (show ¬ (i = 0 ∧ rpF N xs k = j ∧ ent N xs 0 k = 1) from fun h => h0 h.1)
      by_cases hr : rpF N xs k = k
      rotate_left
      · have Hst := Lib.hid (Hto.out.succ ⟨N1a.out, fun h => hr h.1⟩)
        have hrb : ((rpF N xs k : Int) == (k : Int)) = false := by simp; omega
        clear hr
        generalize rpF N xs k = R at ck hrb
        go_wp2_with fail
        go_quiet (fail)
        go_wp2_with fail
        go_roundw
        case rel => exact ⟨k + 1, by omega, by go_num, Hst.out, hloc.next (grownBy_below (below_drewN _ _) none) (fun _ h => by cases h)⟩
        case measure => simp [intOf]; omega
      by_cases hki : k = i
      · have Hst := Lib.hid (Hto.out.succ ⟨N1a.out, fun h => h.2.1 hki⟩)
        have hrb : ((rpF N xs k : Int) == (k : Int)) = true := by simp; omega
        have hkb : ((k : Int) != (i : Int)) = false := by simp; omega
        clear hr hki
        generalize rpF N xs k = R at ck hrb
        go_wp2_with fail
        go_quiet (fail)
        go_wp2_with fail
        go_roundw
        case rel => exact ⟨k + 1, by omega, by go_num, Hst.out, hloc.next (grownBy_below (below_drewN _ _) none) (fun _ h => by cases h)⟩
        case measure => simp [intOf]; omega
      have hkb : ((k : Int) != (i : Int)) = true := by simp; omega
      by_cases hkj : k = j
      · have Hst := Lib.hid (Hto.out.succ ⟨N1a.out, fun h => h.2.2.1 hkj⟩)
        have hrb : ((rpF N xs k : Int) == (k : Int)) = true := by simp; omega
        have hkc : ((k : Int) != (j : Int)) = false := by simp; omega
        clear hr hki hkj
        generalize rpF N xs k = R at ck hrb
        go_wp2_with fail
        go_quiet (fail)
        go_wp2_with fail
        go_roundw
        case rel => exact ⟨k + 1, by omega, by go_num, Hst.out, hloc.next (grownBy_below (below_drewN _ _) none) (fun _ h => by cases h)⟩
        case measure => simp [intOf]; omega
      have hkc : ((k : Int) != (j : Int)) = true := by simp; omega
      rw [hr] at ck
      have d0 : wr.drew.cell? ⟨w.heap.size + 1, 0, none⟩ = some (.int .i64 N) := c0
      have d1 : wr.drew.cell? ⟨w.heap.size + 1, 1, none⟩ = some (.slice aoz xs.length capz) := c1
      have d2 : wr.drew.cell? ⟨w.heap.size, k, none⟩ = some (.int .i64 k) := ck
      have va := HV.out i k (by omega) (by omega)
      have vb := HV.out k j (by omega) (by omega)
      have Hvq := Hv1
      have Hr := Lib.hid hr
      have Hkij := Lib.hid (And.intro hki hkj)
      clear hr hki hkj
      by_cases had : adF (ent N xs i k) (ent N xs k j) = ent N xs i j
      · have hab : (adF (ent N xs i k) (ent N xs k j) == ent N xs i j) = true := by simpa using had
        have Hres := Lib.hid (bt_bad (N := N) (xs := xs) (i := i) (j := j) (k := k) (by omega) (fun h => h.2 ⟨Hr.out, Hkij.out.1, Hkij.out.2, had⟩))
        clear had
        go_wp2_with fail
        go_region_held3 (fun w' => w'.cell? ⟨w.heap.size + 1, 0, none⟩ = some (.int .i64 N) ∧ w'.cell? ⟨w.heap.size + 1, 1, none⟩ = some (.slice aoz xs.length capz) ∧ w'.cell? ⟨w.heap.size, k, none⟩ = some (.int .i64 k))
          (first | exact ⟨by assumption, by assumption, by assumption⟩ | go_keep)
          (first
            | (go_at_call 121; refine (prog_add _ _ _ va vb).mono ?_; rintro e w9 ⟨rfl, rfl⟩)
            | (go_at_call 64; (first
              | ((with_reducible refine (prog_atN N i k _ xs _ Hvq.out.drew hN (by omega) (by omega) Hx.out).mono ?_); rintro e w5 ⟨rfl, hb5⟩; have k0 := keepb d0 hb5; have k1 := keepb d1 hb5; have k2 := keepb d2 hb5)
              | ((with_reducible refine (prog_atN N k j _ xs _ (Hvq.out.drew.keepb hb5) hN (by omega) (by omega) Hx.out).mono ?_); rintro e w6 ⟨rfl, hb6⟩; have m0 := keepb k0 hb6; have m1 := keepb k1 hb6; have m2 := keepb k2 hb6))))
        have hb := bt (bt ((Below.refl wr.heap.size wr).drew) hb5) hb6
        have hlocz := hloc.next (grownBy_below hb none) (fun _ h => by cases h)
        clear hb hb5 hb6
        go_wp2_with fail
        go_ret
        exact ⟨ret_bool Hres.out.symm, below_grownBy hlocz.grown⟩
      · have hab : (adF (ent N xs i k) (ent N xs k j) == ent N xs i j) = false := by simpa using had
        have Hst := Lib.hid (Hto.out.succ ⟨N1a.out, fun h => had h.2.2.2⟩)
        clear had
        go_wp2_with fail
        go_region_held3 (fun w' => w'.cell? ⟨w.heap.size + 1, 0, none⟩ = some (.int .i64 N) ∧ w'.cell? ⟨w.heap.size + 1, 1, none⟩ = some (.slice aoz xs.length capz) ∧ w'.cell? ⟨w.heap.size, k, none⟩ = some (.int .i64 k))
          (first | exact ⟨by assumption, by assumption, by assumption⟩ | go_keep)
          (first
            | (go_at_call 121; refine (prog_add _ _ _ va vb).mono ?_; rintro e w9 ⟨rfl, rfl⟩)
            | (go_at_call 64; (first
              | ((with_reducible refine (prog_atN N i k _ xs _ Hvq.out.drew hN (by omega) (by omega) Hx.out).mono ?_); rintro e w5 ⟨rfl, hb5⟩; have k0 := keepb d0 hb5; have k1 := keepb d1 hb5; have k2 := keepb d2 hb5)
              | ((with_reducible refine (prog_atN N k j _ xs _ (Hvq.out.drew.keepb hb5) hN (by omega) (by omega) Hx.out).mono ?_); rintro e w6 ⟨rfl, hb6⟩; have m0 := keepb k0 hb6; have m1 := keepb k1 hb6; have m2 := keepb k2 hb6))))
        have hb := bt (bt ((Below.refl wr.heap.size wr).drew) hb5) hb6
        have hlocz := hloc.next (grownBy_below hb none) (fun _ h => by cases h)
        clear hb hb5 hb6
        go_wp2_with fail
        go_roundw
        case rel => exact ⟨k + 1, by omega, by go_num, Hst.out, hlocz⟩
        case measure => simp [intOf]; omega
    have h0b : ((i : Int) == 0) = true := by simp; omega
    have H0 := Lib.hid h0
    clear h0
    by_cases hP' : rpF N xs k = j
    rotate_left
    · have hP : ((rpF N xs k : Int) == (j : Int)) = false := by simp; omega
      have N1b := Lib.hid (show ¬ (i = 0 ∧ rpF N xs k = j ∧ ent N xs 0 k = 1) from fun h => hP' h.2.1)
      clear hP'
      by_cases hr : rpF N xs k = k
      rotate_left
      · have Hst := Lib.hid (Hto.out.succ ⟨N1b.out, fun h => hr h.1⟩)
        have hrb : ((rpF N xs k : Int) == (k : Int)) = false := by simp; omega
        clear hr
        generalize rpF N xs k = R at ck hrb hP
        go_wp2_with fail
        go_quiet (fail)
        go_wp2_with fail
        go_roundw
        case rel => exact ⟨k + 1, by omega, by go_num, Hst.out, hloc.next (grownBy_below (below_drewN _ _) none) (fun _ h => by cases h)⟩
        case measure => simp [intOf]; omega
      by_cases hki : k = i
      · have Hst := Lib.hid (Hto.out.succ ⟨N1b.out, fun h => h.2.1 hki⟩)
        have hrb : ((rpF N xs k : Int) == (k : Int)) = true := by simp; omega
        have hkb : ((k : Int) != (i : Int)) = false := by simp; omega
        clear hr hki
        generalize rpF N xs k = R at ck hrb hP
        go_wp2_with fail
        go_quiet (fail)
        go_wp2_with fail
        go_roundw
        case rel => exact ⟨k + 1, by omega, by go_num, Hst.out, hloc.next (grownBy_below (below_drewN _ _) none) (fun _ h => by cases h)⟩
        case measure => simp [intOf]; omega
      have hkb : ((k : Int) != (i : Int)) = true := by simp; omega
      by_cases hkj : k = j
      · have Hst := Lib.hid (Hto.out.succ ⟨N1b.out, fun h => h.2.2.1 hkj⟩)
        have hrb : ((rpF N xs k : Int) == (k : Int)) = true := by simp; omega
        have hkc : ((k : Int) != (j : Int)) = false := by simp; omega
        clear hr hki hkj
        generalize rpF N xs k = R at ck hrb hP
        go_wp2_with fail
        go_quiet (fail)
        go_wp2_with fail
        go_roundw
        case rel => exact ⟨k + 1, by omega, by go_num, Hst.out, hloc.next (grownBy_below (below_drewN _ _) none) (fun _ h => by cases h)⟩
        case measure => simp [intOf]; omega
      have hkc : ((k : Int) != (j : Int)) = true := by simp; omega
      rw [hr] at ck
      rw [hr] at hP
      have d0 : wr.drew.cell? ⟨w.heap.size + 1, 0, none⟩ = some (.int .i64 N) := c0
      have d1 : wr.drew.cell? ⟨w.heap.size + 1, 1, none⟩ = some (.slice aoz xs.length capz) := c1
      have d2 : wr.drew.cell? ⟨w.heap.size, k, none⟩ = some (.int .i64 k) := ck
      have va := HV.out i k (by omega) (by omega)
      have vb := HV.out k j (by omega) (by omega)
      have Hvq := Hv1
      have Hr := Lib.hid hr
      have Hkij := Lib.hid (And.intro hki hkj)
      clear hr hki hkj
      by_cases had : adF (ent N xs i k) (ent N xs k j) = ent N xs i j
      · have hab : (adF (ent N xs i k) (ent N xs k j) == ent N xs i j) = true := by simpa using had
        have Hres := Lib.hid (bt_bad (N := N) (xs := xs) (i := i) (j := j) (k := k) (by omega) (fun h => h.2 ⟨Hr.out, Hkij.out.1, Hkij.out.2, had⟩))
        clear had
        go_wp2_with fail
        go_region_held3 (fun w' => w'.cell? ⟨w.heap.size + 1, 0, none⟩ = some (.int .i64 N) ∧ w'.cell? ⟨w.heap.size + 1, 1, none⟩ = some (.slice aoz xs.length capz) ∧ w'.cell? ⟨w.heap.size, k, none⟩ = some (.int .i64 k))
          (first | exact ⟨by assumption, by assumption, by assumption⟩ | go_keep)
          (first
            | (go_at_call 121; refine (prog_add _ _ _ va vb).mono ?_; rintro e w9 ⟨rfl, rfl⟩)
            | (go_at_call 64; (first
              | ((with_reducible refine (prog_atN N i k _ xs _ Hvq.out.drew hN (by omega) (by omega) Hx.out).mono ?_); rintro e w5 ⟨rfl, hb5⟩; have k0 := keepb d0 hb5; have k1 := keepb d1 hb5; have k2 := keepb d2 hb5)
              | ((with_reducible refine (prog_atN N k j _ xs _ (Hvq.out.drew.keepb hb5) hN (by omega) (by omega) Hx.out).mono ?_); rintro e w6 ⟨rfl, hb6⟩; have m0 := keepb k0 hb6; have m1 := keepb k1 hb6; have m2 := keepb k2 hb6))))
        have hb := bt (bt ((Below.refl wr.heap.size wr).drew) hb5) hb6
        have hlocz := hloc.next (grownBy_below hb none) (fun _ h => by cases h)
        clear hb hb5 hb6
        go_wp2_with fail
        go_ret
        exact ⟨ret_bool Hres.out.symm, below_grownBy hlocz.grown⟩
      · have hab : (adF (ent N xs i k) (ent N xs k j) == ent N xs i j) = false := by simpa using had
        have Hst := Lib.hid (Hto.out.succ ⟨N1b.out, fun h => had h.2.2.2⟩)
        clear had
        go_wp2_with fail
        go_region_held3 (fun w' => w'.cell? ⟨w.heap.size + 1, 0, none⟩ = some (.int .i64 N) ∧ w'.cell? ⟨w.heap.size + 1, 1, none⟩ = some (.slice aoz xs.length capz) ∧ w'.cell? ⟨w.heap.size, k, none⟩ = some (.int .i64 k))
          (first | exact ⟨by assumption, by assumption, by assumption⟩ | go_keep)
          (first
            | (go_at_call 121; refine (prog_add _ _ _ va vb).mono ?_; rintro e w9 ⟨rfl, rfl⟩)
            | (go_at_call 64; (first
              | ((with_reducible refine (prog_atN N i k _ xs _ Hvq.out.drew hN (by omega) (by omega) Hx.out).mono ?_); rintro e w5 ⟨rfl, hb5⟩; have k0 := keepb d0 hb5; have k1 := keepb d1 hb5; have k2 := keepb d2 hb5)
              | ((with_reducible refine (prog_atN N k j _ xs _ (Hvq.out.drew.keepb hb5) hN (by omega) (by omega) Hx.out).mono ?_); rintro e w6 ⟨rfl, hb6⟩; have m0 := keepb k0 hb6; have m1 := keepb k1 hb6; have m2 := keepb k2 hb6))))
        have hb := bt (bt ((Below.refl wr.heap.size wr).drew) hb5) hb6
        have hlocz := hloc.next (grownBy_below hb none) (fun _ h => by cases h)
        clear hb hb5 hb6
        go_wp2_with fail
        go_roundw
        case rel => exact ⟨k + 1, by omega, by go_num, Hst.out, hlocz⟩
        case measure => simp [intOf]; omega
    have hP : ((rpF N xs k : Int) == (j : Int)) = true := by simp; omega
    have HP := Lib.hid hP'
    by_cases h1 : ent N xs 0 k = 1
    · have h1b : (ent N xs 0 k == 1) = true := by simpa using h1
      have Hres := Lib.hid (bt_bad (N := N) (xs := xs) (i := i) (j := j) (k := k) (by omega) (fun h => h.1 ⟨H0.out, HP.out, h1⟩))
      clear hP' h1
      generalize rpF N xs k = R at ck hP
      go_wp2_with (go_at_call 64; refine (prog_at0 N k _ xs _ Hv1.out hN (by omega) Hx.out).mono ?_; rintro e w2 ⟨rfl, hb2⟩)
      go_ret
      exact ⟨ret_bool Hres.out.symm, below_grownBy (hloc.next (grownBy_below hb2 none) (fun _ h => by cases h)).grown⟩
    have h1b : (ent N xs 0 k == 1) = false := by simpa using h1
    have N1c := Lib.hid (show ¬ (i = 0 ∧ rpF N xs k = j ∧ ent N xs 0 k = 1) from fun h => h1 h.2.2)
    clear hP' h1
    generalize hRk : rpF N xs k = R at ck hP
    go_wp2_with fail
    refine (prog_at0 N k _ xs _ Hv1.out hN (by omega) Hx.out).mono ?_
    rintro e w2 ⟨rfl, hb2⟩
    have hloc2 := hloc.next (grownBy_below hb2 none) (fun _ h => by cases h)
    subst hRk
    have ck2 : w2.cell? ⟨w.heap.size, k, none⟩ = some (.int .i64 (rpF N xs k)) := (hloc2.cell 0 rfl k).trans (HG.out k (by omega))
    have c02 : w2.cell? ⟨w.heap.size + 1, 0, none⟩ = some (.int .i64 N) := hloc2.cell 1 rfl 0
    have c12 : w2.cell? ⟨w.heap.size + 1, 1, none⟩ = some (.slice aoz xs.length capz) := hloc2.cell 1 rfl 1
    have Hv2 := Lib.hid (Hv.out.keepb (below_grownBy hloc2.grown))
    clear hb2 hloc ck c0 c1 Hv1
    by_cases hr : rpF N xs k = k
    rotate_left
    · have Hst := Lib.hid (Hto.out.succ ⟨N1c.out, fun h => hr h.1⟩)
      have hrb : ((rpF N xs k : Int) == (k : Int)) = false := by simp; omega
      clear hr
      generalize rpF N xs k = R at ck2 hrb hP
      go_wp2_with fail
      go_quiet (fail)
      go_wp2_with fail
      go_roundw
      case rel => exact ⟨k + 1, by omega, by go_num, Hst.out, hloc2.next (grownBy_below (below_drewN _ _) none) (fun _ h => by cases h)⟩
      case measure => simp [intOf]; omega
    by_cases hki : k = i
    · have Hst := Lib.hid (Hto.out.succ ⟨N1c.out, fun h => h.2.1 hki⟩)
      have hrb : ((rpF N xs k : Int) == (k : Int)) = true := by simp; omega
      have hkb : ((k : Int) != (i : Int)) = false := by simp; omega
      clear hr hki
      generalize rpF N xs k = R at ck2 hrb hP
      go_wp2_with fail
      go_quiet (fail)
      go_wp2_with fail
      go_roundw
      case rel => exact ⟨k + 1, by omega, by go_num, Hst.out, hloc2.next (grownBy_below (below_drewN _ _) none) (fun _ h => by cases h)⟩
      case measure => simp [intOf]; omega
    have hkb : ((k : Int) != (i : Int)) = true := by simp; omega
    by_cases hkj : k = j
    · have Hst := Lib.hid (Hto.out.succ ⟨N1c.out, fun h => h.2.2.1 hkj⟩)
      have hrb : ((rpF N xs k : Int) == (k : Int)) = true := by simp; omega
      have hkc : ((k : Int) != (j : Int)) = false := by simp; omega
      clear hr hki hkj
      generalize rpF N xs k = R at ck2 hrb hP
      go_wp2_with fail
      go_quiet (fail)
      go_wp2_with fail
      go_roundw
      case rel => exact ⟨k + 1, by omega, by go_num, Hst.out, hloc2.next (grownBy_below (below_drewN _ _) none) (fun _ h => by cases h)⟩
      case measure => simp [intOf]; omega
    have hkc : ((k : Int) != (j : Int)) = true := by simp; omega
    rw [hr] at ck2
    rw [hr] at hP
    have d0 : w2.drew.cell? ⟨w.heap.size + 1, 0, none⟩ = some (.int .i64 N) := c02
    have d1 : w2.drew.cell? ⟨w.heap.size + 1, 1, none⟩ = some (.slice aoz xs.length capz) := c12
    have d2 : w2.drew.cell? ⟨w.heap.size, k, none⟩ = some (.int .i64 k) := ck2
    have va := HV.out i k (by omega) (by omega)
    have vb := HV.out k j (by omega) (by omega)
    have Hvq := Hv2
    have Hr := Lib.hid hr
    have Hkij := Lib.hid (And.intro hki hkj)
    clear hr hki hkj
    by_cases had : adF (ent N xs i k) (ent N xs k j) = ent N xs i j
    · have hab : (adF (ent N xs i k) (ent N xs k j) == ent N xs i j) = true := by simpa using had
      have Hres := Lib.hid (bt_bad (N := N) (xs := xs) (i := i) (j := j) (k := k) (by omega) (fun h => h.2 ⟨Hr.out, Hkij.out.1, Hkij.out.2, had⟩))
      clear had
      go_wp2_with fail
      go_region_held3 (fun w' => w'.cell? ⟨w.heap.size + 1, 0, none⟩ = some (.int .i64 N) ∧ w'.cell? ⟨w.heap.size + 1, 1, none⟩ = some (.slice aoz xs.length capz) ∧ w'.cell? ⟨w.heap.size, k, none⟩ = some (.int .i64 k))
        (first | exact ⟨by assumption, by assumption, by assumption⟩ | go_keep)
        (first
          | (go_at_call 121; refine (prog_add _ _ _ va vb).mono ?_; rintro e w9 ⟨rfl, rfl⟩)
          | (go_at_call 64; (first
            | ((with_reducible refine (prog_atN N i k _ xs _ Hvq.out.drew hN (by omega) (by omega) Hx.out).mono ?_); rintro e w5 ⟨rfl, hb5⟩; have k0 := keepb d0 hb5; have k1 := keepb d1 hb5; have k2 := keepb d2 hb5)
            | ((with_reducible refine (prog_atN N k j _ xs _ (Hvq.out.drew.keepb hb5) hN (by omega) (by omega) Hx.out).mono ?_); rintro e w6 ⟨rfl, hb6⟩; have m0 := keepb k0 hb6; have m1 := keepb k1 hb6; have m2 := keepb k2 hb6))))
      have hb := bt (bt ((Below.refl w2.heap.size w2).drew) hb5) hb6
      have hlocz := hloc2.next (grownBy_below hb none) (fun _ h => by cases h)
      clear hb hb5 hb6
      go_wp2_with fail
      go_ret
      exact ⟨ret_bool Hres.out.symm, below_grownBy hlocz.grown⟩
    · have hab : (adF (ent N xs i k) (ent N xs k j) == ent N xs i j) = false := by simpa using had
      have Hst := Lib.hid (Hto.out.succ ⟨N1c.out, fun h => had h.2.2.2⟩)
      clear had
      go_wp2_with fail
      go_region_held3 (fun w' => w'.cell? ⟨w.heap.size + 1, 0, none⟩ = some (.int .i64 N) ∧ w'.cell? ⟨w.heap.size + 1, 1, none⟩ = some (.slice aoz xs.length capz) ∧ w'.cell? ⟨w.heap.size, k, none⟩ = some (.int .i64 k))
        (first | exact ⟨by assumption, by assumption, by assumption⟩ | go_keep)
        (first
          | (go_at_call 121; refine (prog_add _ _ _ va vb).mono ?_; rintro e w9 ⟨rfl, rfl⟩)
          | (go_at_call 64; (first
            | ((with_reducible refine (prog_atN N i k _ xs _ Hvq.out.drew hN (by omega) (by omega) Hx.out).mono ?_); rintro e w5 ⟨rfl, hb5⟩; have k0 := keepb d0 hb5; have k1 := keepb d1 hb5; have k2 := keepb d2 hb5)
            | ((with_reducible refine (prog_atN N k j _ xs _ (Hvq.out.drew.keepb hb5) hN (by omega) (by omega) Hx.out).mono ?_); rintro e w6 ⟨rfl, hb6⟩; have m0 := keepb k0 hb6; have m1 := keepb k1 hb6; have m2 := keepb k2 hb6))))
      have hb := bt (bt ((Below.refl w2.heap.size w2).drew) hb5) hb6
      have hlocz := hloc2.next (grownBy_below hb none) (fun _ h => by cases h)
      clear hb hb5 hb6
      go_wp2_with fail
      go_roundw
      case rel => exact ⟨k + 1, by omega, by go_num, Hst.out, hlocz⟩
      case measure => simp [intOf]; omega
end Go.Proofs.Ytkgaipcgdldfdaa
