/- Part of the proof of priced_covers_proved: Zref. -/
import Derived.Deep.RegionHeld3
import Derived.Test.YtfphlpglgcmljaaGreatXvRat
namespace Go.Proofs.YtfphlpglgcmljaaGreat
open Go.RowKit
set_option maxHeartbeats 400000 in
theorem ref_at (N : Nat) (vi vj : Int) (v : Value) (xs : List Int) (w : World) (hv : RL w.heap.size w v xs) (hN : N ≤ 10) (i0 : 0 ≤ vi) (i1 : vi ≤ N) (j0 : 0 ≤ vj) (j1 : vj ≤ N) (hx : xs.length = (N + 1) * (N + 1)) :
  Calls Tryz.prog 89 #[.agg #[.int .i64 N, v], .int .i64 vi, .int .i64 vj] w fun e w' => e = .returned (.int .i64 (gi xs (vi.toNat * (N + 1) + vj.toNat))) ∧ Below w.heap.size w w' := by
 obtain ⟨i, rfl⟩ := Int.eq_ofNat_of_zero_le i0
 obtain ⟨j, rfl⟩ := Int.eq_ofNat_of_zero_le j0
 have hi : i ≤ N := by omega
 have hj : j ≤ N := by omega
 rw [Int.toNat_natCast, Int.toNat_natCast]
 have hlt := idx_lt N i j hi hj
 rw [← hx] at hlt
 obtain ⟨ao, cap, rfl, hle, h0⟩ := hv.open
 obtain ⟨b, off, rfl, hb, hc⟩ := h0 (by omega)
 have hc' := hc _ hlt
 have h1 := idx_bd N i hN hi
 have hn := idx_nat N i j
 have hll : (i : Int) * ((N : Int) + 1) + (j : Int) < xs.length := by
  have e : ((i * (N + 1) + j : Nat) : Int) = (i : Int) * ((N : Int) + 1) + j := by push_cast; rfl
  omega
 have Hx := Lib.hid hx
 clear hx hc h0
 go_enter Tryz.func89, Tryz.ntmps89
 go_wp2
 go_ret
 exact ⟨rfl, (Below.refl _ _).alloc (Nat.le_refl _) _⟩
end Go.Proofs.YtfphlpglgcmljaaGreat
namespace Go.Proofs.YtfphlpglgcmljaaGreat
open Go.RowKit
theorem ref_dimension (n : Int) (w : World) :
  Calls Tryz.prog 158 #[.int .i64 n] w fun e w' => e = .returned (.bool (decide (0 ≤ n ∧ n ≤ 10))) ∧ w = w' := by
 go_enter Tryz.func158, Tryz.ntmps158
 go_wp2
 all_goals go_ret
 all_goals exact ⟨ret_bool (by simp <;> omega), rfl⟩
set_option maxHeartbeats 1000000 in
theorem ref_check_dim (n : Int) (v : Value) (xs : List Int) (w : World) (hv : RL w.heap.size w v xs) (hn : n < 0 ∨ 10 < n) :
  Calls Tryz.prog 106 #[.agg #[.int .i64 n, v]] w fun e w' => e = .returned (.int .i64 2) ∧ Below w.heap.size w w' := by
 obtain ⟨ao, cap, rfl, hle, h0⟩ := hv.open
 clear h0 hv
 have hd : decide (0 ≤ n ∧ n ≤ 10) = false := by simp; omega
 go_enter Tryz.func106, Tryz.ntmps106
 go_wp2_with (go_at_call 158; refine (ref_dimension _ _).mono ?_; rintro e w1 ⟨rfl, rfl⟩)
 go_ret
 exact ⟨rfl, (Below.refl _ _).alloc (Nat.le_refl _) _⟩
set_option maxHeartbeats 1000000 in
theorem ref_check_in (N : Nat) (v : Value) (xs : List Int) (w : World) (hv : RL w.heap.size w v xs) (hN : N ≤ 10) :
    Calls Tryz.prog 106 #[.agg #[.int .i64 N, v]] w fun e w' => e = .returned (.int .i64 (okErr N xs)) ∧ Below w.heap.size w w' := by
  have hsq := sq_bd N hN
  have hd : decide (0 ≤ (N : Int) ∧ (N : Int) ≤ 10) = true := by simp; omega
  by_cases hx : xs.length = (N + 1) * (N + 1)
  · have Hx := Lib.hid hx
    obtain ⟨ao, cap, rfl, hle, h0⟩ := hv.open
    have hll : ((xs.length : Int) != ((N : Int) + 1) * ((N : Int) + 1)) = false := by rw [← sq_nat, hx]; simp
    clear hx h0
    go_enter Tryz.func106, Tryz.ntmps106
    go_wp2_with (go_at_call 158; refine (ref_dimension _ _).mono ?_; rintro e w1 ⟨rfl, rfl⟩)
    go_loopw [3, 4, 5] (fun i _ _ wr => ∃ q : Nat, q ≤ N + 1 ∧ i = .int .i64 q ∧ ElTo N xs q ∧ Loc w wr none [.cells #[.int .i64 N, .slice ao xs.length cap] 32]) (fun i _ _ _ => N + 1 - (intOf i).toNat)
    case atStart => exact ⟨0, by omega, rfl, fun _ _ h => absurd h (by omega), Loc.one _ _ _⟩
    case round =>
      obtain ⟨i, hi, rfl, hel, hloc⟩ := hrel
      have Hel := Lib.hid hel
      clear hel
      have c0 : wr.cell? ⟨w.heap.size, 0, none⟩ = some (.int .i64 N) := hloc.cell 0 rfl 0
      have c1 : wr.cell? ⟨w.heap.size, 1, none⟩ = some (.slice ao xs.length cap) := hloc.cell 0 rfl 1
      have hrl := (hv.keep (below_grownBy hloc.grown)).mono hloc.grown.size
      by_cases hlt : i ≤ N
      · go_wp2_with fail
        go_loopw [4, 5] (fun j _ wr => ∃ q : Nat, q ≤ N + 1 ∧ j = .int .i64 q ∧ ElRow N xs i q ∧ Loc w wr none [.cells #[.int .i64 N, .slice ao xs.length cap] 32]) (fun j _ _ => N + 1 - (intOf j).toNat)
        case atStart => exact ⟨0, by omega, rfl, fun _ h => absurd h (by omega), hloc⟩
        case round =>
          clear hloc c0 c1 hrl
          obtain ⟨j, hj, rfl, hrow, hloc⟩ := hrel
          have Hrow := Lib.hid hrow
          clear hrow
          have c0 : wr.cell? ⟨w.heap.size, 0, none⟩ = some (.int .i64 N) := hloc.cell 0 rfl 0
          have c1 : wr.cell? ⟨w.heap.size, 1, none⟩ = some (.slice ao xs.length cap) := hloc.cell 0 rfl 1
          have hrl := (hv.keep (below_grownBy hloc.grown)).mono hloc.grown.size
          by_cases hlt2 : j ≤ N
          · by_cases hE : El N xs i j
            · have e1 := hE.val
              have e2 : ((i : Int) == (j : Int)) = false ∨ (((i : Int) == (j : Int)) = true ∧ (gi xs (i * (N + 1) + j) != 1) = false) := by
                by_cases e : i = j
                · right; exact ⟨by simp; omega, by simpa using hE.diag e⟩
                · left; simp; omega
              have e3 : ((i : Int) == 0) = false ∨ (((i : Int) == 0) = true ∧ decide (1 < gi xs (i * (N + 1) + j)) = false) := by
                by_cases e : i = 0
                · right; exact ⟨by simpa using e, by have := hE.row e; simp; omega⟩
                · left; simpa using e
              have HE := Lib.hid hE
              clear hE
              rcases e2 with e2 | ⟨e2, e2'⟩ <;> rcases e3 with e3 | ⟨e3, e3'⟩
              all_goals
                go_wp2_with (first | (go_at_call 89; refine (ref_at N _ _ _ xs _ (by assumption) hN (by omega) (by omega) (by omega) (by omega) Hx.out).mono ?_; rintro e w1 ⟨rfl, hb1⟩; have hloc1 := hloc.next (grownBy_below hb1 _) (fun _ h => by cases h)) | (go_at_call 125; refine (ref_valid _ _).mono ?_; rintro e w2 ⟨rfl, rfl⟩))
                go_roundw
                case rel => exact ⟨j + 1, by omega, by go_num, Hrow.out.succ HE.out, hloc1⟩
                case measure => simp [intOf]; omega
            · have hbad := Lib.hid (show ¬ OkZ N xs from fun h => hE (h.el hlt hlt2))
              have hcase : vld (gi xs (i * (N + 1) + j)) = false ∨ (vld (gi xs (i * (N + 1) + j)) = true ∧ ((i : Int) == (j : Int)) = true ∧ (gi xs (i * (N + 1) + j) != 1) = true) ∨
                  (vld (gi xs (i * (N + 1) + j)) = true ∧ ((i : Int) == (j : Int)) = false ∧ ((i : Int) == 0) = true ∧ decide (1 < gi xs (i * (N + 1) + j)) = true) ∨
                  (vld (gi xs (i * (N + 1) + j)) = true ∧ ((i : Int) == (j : Int)) = true ∧ (gi xs (i * (N + 1) + j) != 1) = false ∧ ((i : Int) == 0) = true ∧ decide (1 < gi xs (i * (N + 1) + j)) = true) := by
                by_cases a1 : vld (gi xs (i * (N + 1) + j)) = true
                · right
                  by_cases a2 : i = j
                  · by_cases a3 : gi xs (i * (N + 1) + j) = 1
                    · exact absurd ⟨a1, fun _ => a3, fun _ => by omega⟩ hE
                    · left; exact ⟨a1, by simp; omega, by simpa using a3⟩
                  · right
                    by_cases a4 : i = 0 ∧ 1 < gi xs (i * (N + 1) + j)
                    · left; exact ⟨a1, by simp; omega, by simp; omega, by simp; exact a4.2⟩
                    · exact absurd ⟨a1, fun e => absurd e a2, fun e => by have := fun h => a4 ⟨e, h⟩; omega⟩ hE
                · left; simpa using a1
              clear hE
              rcases hcase with e1 | ⟨e1, e2, e3⟩ | ⟨e1, e2, e3, e4⟩ | ⟨e1, e2, e3, e4, e5⟩
              all_goals
                go_wp2_with (first | (go_at_call 89; refine (ref_at N _ _ _ xs _ (by assumption) hN (by omega) (by omega) (by omega) (by omega) Hx.out).mono ?_; rintro e w1 ⟨rfl, hb1⟩; have hloc1 := hloc.next (grownBy_below hb1 _) (fun _ h => by cases h)) | (go_at_call 125; refine (ref_valid _ _).mono ?_; rintro e w2 ⟨rfl, rfl⟩))
                go_ret
                exact ⟨ret_int (okErr_no hbad.out).symm, below_grownBy hloc1.grown⟩
          · have hdj : decide ((j : Int) ≤ (N : Int)) = false := by simp; omega
            have HQj := Lib.hid (show j = N + 1 by omega)
            go_wp2_with fail
            go_roundw
            case rel => exact ⟨i + 1, by omega, by go_num, Hel.out.succ (by rw [← HQj.out]; exact Hrow.out), hloc⟩
            case measure => simp [intOf]; omega
      · have hdi : decide ((i : Int) ≤ (N : Int)) = false := by simp; omega
        have HQi := Lib.hid (show i = N + 1 by omega)
        go_wp2_with fail
        have HE := Lib.hid (show ElTo N xs (N + 1) by rw [← HQi.out]; exact Hel.out)
        clear hdi c0 c1 hrl hlt hi Hel
        go_loopw [6, 7, 8] (fun i _ _ wr => ∃ q : Nat, q ≤ N + 1 ∧ i = .int .i64 q ∧ Tr1 N xs q ∧ Loc w wr none [.cells #[.int .i64 N, .slice ao xs.length cap] 32]) (fun i _ _ _ => N + 1 - (intOf i).toNat)
        case atStart => exact ⟨0, by omega, rfl, fun _ _ _ h => absurd h (by omega), hloc⟩
        case round =>
          clear hloc
          obtain ⟨a, ha, rfl, h1, hloc⟩ := hrel
          have H1 := Lib.hid h1
          clear h1
          have c0 : wr.cell? ⟨w.heap.size, 0, none⟩ = some (.int .i64 N) := hloc.cell 0 rfl 0
          have c1 : wr.cell? ⟨w.heap.size, 1, none⟩ = some (.slice ao xs.length cap) := hloc.cell 0 rfl 1
          have hrl := (hv.keep (below_grownBy hloc.grown)).mono hloc.grown.size
          by_cases hlt : a ≤ N
          · go_wp2_with fail
            go_loopw [7, 8] (fun j _ wr => ∃ q : Nat, q ≤ N + 1 ∧ j = .int .i64 q ∧ Tr2 N xs a q ∧ Loc w wr none [.cells #[.int .i64 N, .slice ao xs.length cap] 32]) (fun j _ _ => N + 1 - (intOf j).toNat)
            case atStart => exact ⟨0, by omega, rfl, fun _ _ h => absurd h (by omega), hloc⟩
            case round =>
              clear hloc c0 c1 hrl
              obtain ⟨j, hj, rfl, h2, hloc⟩ := hrel
              have H2 := Lib.hid h2
              clear h2
              have c0 : wr.cell? ⟨w.heap.size, 0, none⟩ = some (.int .i64 N) := hloc.cell 0 rfl 0
              have c1 : wr.cell? ⟨w.heap.size, 1, none⟩ = some (.slice ao xs.length cap) := hloc.cell 0 rfl 1
              have hrl := (hv.keep (below_grownBy hloc.grown)).mono hloc.grown.size
              by_cases hlt2 : j ≤ N
              · go_wp2_with fail
                go_loopw [8] (fun k wr => ∃ q : Nat, q ≤ N + 1 ∧ k = .int .i64 q ∧ Tr3 N xs a j q ∧ Loc w wr none [.cells #[.int .i64 N, .slice ao xs.length cap] 32]) (fun k _ => N + 1 - (intOf k).toNat)
                case atStart => exact ⟨0, by omega, rfl, fun _ h => absurd h (by omega), hloc⟩
                case round =>
                  clear hloc c0 c1 hrl
                  obtain ⟨k, hk, rfl, h3, hloc⟩ := hrel
                  have H3 := Lib.hid h3
                  clear h3
                  have c0 : wr.cell? ⟨w.heap.size, 0, none⟩ = some (.int .i64 N) := hloc.cell 0 rfl 0
                  have c1 : wr.cell? ⟨w.heap.size, 1, none⟩ = some (.slice ao xs.length cap) := hloc.cell 0 rfl 1
                  have hrl := (hv.keep (below_grownBy hloc.grown)).mono hloc.grown.size
                  by_cases hlt3 : k ≤ N
                  · go_wp2_with fail
                    have d0 : wr.drew.cell? ⟨w.heap.size, 0, none⟩ = some (.int .i64 N) := c0
                    have d1 : wr.drew.cell? ⟨w.heap.size, 1, none⟩ = some (.slice ao xs.length cap) := c1
                    have hrl' := hrl.drew
                    have b0 : Below wr.heap.size wr wr.drew := (Below.refl _ _).drew
                    go_region_held3 (fun w' => w'.cell? ⟨w.heap.size, 0, none⟩ = some (.int .i64 N) ∧ w'.cell? ⟨w.heap.size, 1, none⟩ = some (.slice ao xs.length cap))
                    (first | exact ⟨by assumption, by assumption⟩ | go_keep)
                    (first
                      | (go_at_call 159; refine (ref_sum _ _ _).mono ?_; rintro e w9 ⟨rfl, rfl⟩)
                      | (go_at_call 89; refine (ref_at N _ _ _ xs _ (by assumption) hN (by omega) (by omega) (by omega) (by omega) Hx.out).mono ?_; rintro e w1 ⟨rfl, hb1⟩; have k0 := keepb (b := w.heap.size) (o := 0) (by assumption) hb1; have k1 := keepb (b := w.heap.size) (o := 1) (by assumption) hb1; have o1 := RL.keepb (by assumption) hb1; have b1 := bt (a := wr) (by assumption) hb1))
                    have hloc1 := hloc.next (grownBy_below b1 _) (fun _ h => by cases h)
                    by_cases hT : Tr N xs a j k
                    · have ht : gi xs (a * (N + 1) + j) ≤ lsum (gi xs (a * (N + 1) + k)) (gi xs (k * (N + 1) + j)) := hT
                      have HT := Lib.hid hT
                      clear hT
                      go_wp2_with fail
                      go_roundw
                      case rel => exact ⟨k + 1, by omega, by go_num, H3.out.succ HT.out, hloc1⟩
                      case measure => simp [intOf]; omega
                    · have ht : lsum (gi xs (a * (N + 1) + k)) (gi xs (k * (N + 1) + j)) < gi xs (a * (N + 1) + j) := by unfold Tr at hT; omega
                      have HT := Lib.hid hT
                      clear hT
                      go_wp2_with fail
                      go_ret
                      exact ⟨ret_int (okErr_no (fun h => HT.out (El.gt h hlt hlt2 hlt3))).symm, below_grownBy hloc1.grown⟩
                  · have hdk : decide ((k : Int) ≤ (N : Int)) = false := by simp; omega
                    have HQk := Lib.hid (show k = N + 1 by omega)
                    go_wp2_with fail
                    go_roundw
                    case rel => exact ⟨j + 1, by omega, by go_num, H2.out.succ (by rw [← HQk.out]; exact H3.out), hloc⟩
                    case measure => simp [intOf]; omega
              · have hdj : decide ((j : Int) ≤ (N : Int)) = false := by simp; omega
                have HQj := Lib.hid (show j = N + 1 by omega)
                go_wp2_with fail
                go_roundw
                case rel => exact ⟨a + 1, by omega, by go_num, H1.out.succ (by rw [← HQj.out]; exact H2.out), hloc⟩
                case measure => simp [intOf]; omega
          · have hda : decide ((a : Int) ≤ (N : Int)) = false := by simp; omega
            have HQa := Lib.hid (show a = N + 1 by omega)
            go_wp2_with fail
            go_ret
            exact ⟨ret_int (okErr_yes (OkZ.mk' hN Hx.out HE.out (by rw [← HQa.out]; exact H1.out))).symm, below_grownBy hloc.grown⟩
  · have hll : ((xs.length : Int) != ((N : Int) + 1) * ((N : Int) + 1)) = true := bne_iff_ne.2 (fun h => hx (by rw [← sq_nat] at h; exact Int.ofNat_inj.1 h))
    have hbad := Lib.hid (show ¬ OkZ N xs from fun h => hx (by have := h.len; rwa [Int.toNat_natCast] at this))
    obtain ⟨ao, cap, rfl, hle, h0⟩ := hv.open
    clear hx h0 hv
    go_enter Tryz.func106, Tryz.ntmps106
    go_wp2_with (go_at_call 158; refine (ref_dimension _ _).mono ?_; rintro e w1 ⟨rfl, rfl⟩)
    go_ret
    exact ⟨ret_int (okErr_no hbad.out).symm, (Below.refl _ _).alloc (Nat.le_refl _) _⟩
theorem ref_check (n : Int) (v : Value) (xs : List Int) (w : World) (hv : RL w.heap.size w v xs) :
  Calls Tryz.prog 106 #[.agg #[.int .i64 n, v]] w fun e w' => e = .returned (.int .i64 (okErr n xs)) ∧ Below w.heap.size w w' := by
 by_cases hn : n < 0 ∨ 10 < n
 ·rw [okErr_no (fun h => by have := h.lo; have := h.hi; omega)]
  exact ref_check_dim n v xs w hv hn
 ·obtain ⟨N, rfl⟩ := Int.eq_ofNat_of_zero_le (show 0 ≤ n by omega)
  exact ref_check_in N v xs w hv (by omega)
end Go.Proofs.YtfphlpglgcmljaaGreat
