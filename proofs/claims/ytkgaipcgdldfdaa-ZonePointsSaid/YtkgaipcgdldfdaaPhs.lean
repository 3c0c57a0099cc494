/- The program's Has. -/
import Derived.Test.YtkgaipcgdldfdaaPha
namespace Go.Proofs.Ytkgaipcgdldfdaa
open Go.RowKit
set_option linter.unusedVariables false

theorem suTo_iff {N : Nat} {xs : List Int} {ps : List (Int × Int)} (hlen : ps.length = N) (hA : AllP ps ps.length) : SuTo N xs ((0, 1) :: ps) 0 (N + 1) ↔ AllM N xs ps (N + 1) := by
  have e : ∀ i j, i ≤ N → j ≤ N → pm N xs ((0, 1) :: ps) i j = mt N xs ps i j := fun i j hi hj => by
    unfold pm mt
    rw [df_dif (ck_all hA (by omega)) (ck_all hA (by omega))]
  constructor
  · intro h i j hi hj
    rw [← e i j (by omega) hj]
    exact h i (Nat.zero_le _) hi j (Nat.zero_le _) (by omega)
  · intro h i _ hi j _ hj
    rw [e i j (by omega) (by omega)]
    exact h i j hi (by omega)
set_option maxHeartbeats 2000000 in
theorem prog_has (n : Int) (v pv : Value) (xs : List Int) (ps : List (Int × Int)) (w : World) (hv : RL w.heap.size w v xs) (hp : RQ w.heap.size w pv ps) (hI : ∀ k, k < ps.length → I64 (gq ps k).1) :
    Calls Try.prog 32 #[.agg #[.int .i64 n, v], pv] w fun e w' => BE (hasF n xs ps) e ∧ Below w.heap.size w w' := by
  obtain ⟨aoz, capz, rfl, hlez, _⟩ := hv.open
  obtain ⟨ao, cap, rfl, hle, h0⟩ := hp.open
  have hloc0 := Loc.one w (.cells #[.int .i64 n, .slice aoz xs.length capz] 24) none
  have Hv0 := Lib.hid (hv.keepb (below_grownBy hloc0.grown))
  have Hp0 := Lib.hid (hp.keepb (below_grownBy hloc0.grown))
  have HI := Lib.hid hI
  clear hv hp h0 hI
  by_cases hr : readyF n xs ps = 0
  · obtain ⟨hfit, hall, hD⟩ := readyF_inv hr
    obtain ⟨hok, hlen⟩ := hfit
    have Hr := Lib.hid hr
    have Hn := Lib.hid hlen
    have HS := Lib.hid (suTo_iff (xs := xs) rfl hall)
    have HB := Lib.hid (q_i64 rfl HI.out)
    have HN := Lib.hid (show ps.length ≤ 10 by have := hok.hi; omega)
    have Hx := Lib.hid (show xs.length = (ps.length + 1) * (ps.length + 1) by have := hok.len; rw [← hlen, Int.toNat_natCast] at this; exact this)
    clear hr hok hlen hall hD
    go_enter Try.func32, Try.ntmps32
    go_wp2_with fail
    refine (prog_at n _ _ xs ps _ Hv0.out Hp0.out HI.out).mono ?_
    rw [Hr.out]
    rintro e w1 ⟨⟨v1, rfl, ho1⟩, hb1⟩
    have hloc1 := hloc0.next (grownBy_below hb1 none) (fun _ h => by cases h)
    have c0 : w1.cell? ⟨w.heap.size, 0, none⟩ = some (.int .i64 n) := hloc1.cell 0 rfl 0
    have c1 : w1.cell? ⟨w.heap.size, 1, none⟩ = some (.slice aoz xs.length capz) := hloc1.cell 0 rfl 1
    have HQ := Lib.hid (OQ.rq (ho1 rfl))
    have Hv1 := Lib.hid (Hv0.out.keepb hb1)
    have Hloc1 := Lib.hid hloc1
    clear ho1 hb1 hloc1 hloc0
    go_wp2_with fail
    have key := prog_suits ps.length 0 (.slice aoz xs.length capz) v1 xs ((0, 1) :: ps) w1 Hv1.out HQ.out Hx.out HN.out (by simp) HB.out (by omega)
    rw [Hn.out] at key
    refine key.mono ?_
    rintro e w2 ⟨⟨b, rfl, hb⟩, hb2⟩
    have Hb := Lib.hid hb
    clear hb key
    go_wp2_with fail
    go_ret2
    refine ⟨BE.of ?_, below_grownBy (Hloc1.out.next (grownBy_below hb2 none) (fun _ h => by cases h)).grown⟩
    have h1 := Hb.out
    rw [HS.out] at h1
    cases b with
    | true => exact hasF_in Hr.out (h1.1 rfl)
    | false => exact hasF_out Hr.out (fun h => by have := h1.2 h; cases this)
  · have hres := Lib.hid (hasF_no rfl hr)
    have Hne := Lib.hid hr
    have hne : (readyF n xs ps != 0) = true := by simpa using hr
    clear hr
    have HA := Lib.hid (prog_at n (.slice aoz xs.length capz) (.slice ao ps.length cap) xs ps)
    generalize readyF n xs ps = R at *
    go_enter Try.func32, Try.ntmps32
    go_wp2_with fail
    refine (HA.out _ Hv0.out Hp0.out HI.out).mono ?_
    rintro e w1 ⟨⟨v1, rfl, ho1⟩, hb1⟩
    have hloc1 := hloc0.next (grownBy_below hb1 none) (fun _ h => by cases h)
    clear ho1
    go_wp2_with fail
    go_ret2
    exact ⟨BE.of hres.out, below_grownBy hloc1.grown⟩
end Go.Proofs.Ytkgaipcgdldfdaa
