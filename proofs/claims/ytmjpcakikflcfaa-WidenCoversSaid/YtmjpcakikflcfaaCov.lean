/- The law WidenCovers answers true for every input, and writes nothing that was there. -/
import Derived.Test.YtmjpcakikflcfaaCovP2
import Derived.Test.YtmjpcakikflcfaaHas
import Derived.Test.YtmjpcakikflcfaaWid8
import Derived.Test.YtmjpcakikflcfaaFrame
import Derived.Test.YtmjpcakikflcfaaBox
import Derived.Deep.DeepCutAuto
namespace Go.Proofs.Ytmjpcakikflcfaa
open Go.RowKit
set_option linter.unusedVariables false

theorem beyond_no2 {lens : List Nat} {L : Nat} (h : beyondF lens L = false) : L ≤ 200 ∧ ∀ l ∈ lens, l ≤ 50 := by
  unfold beyondF at h
  rw [Bool.or_eq_false_iff, List.any_eq_false] at h
  exact ⟨by have := h.2; simp at this; omega, fun l hl => by have := h.1 l hl; simp at this; omega⟩
/-- The zone's box and the box of the constants, and what they hold. -/
structure CovW (w wr : World) (n : Int) (xs k0 k1 : List Int) (ps : List (Int × Int)) (ao : Option Addr) (cap : Nat) (a0 : Option Addr) (c0 : Nat) (a1 : Option Addr) (c1 : Nat) (ap : Option Addr) (cp : Nat) : Prop where
  loc : Loc w wr none [.cells #[.int .i64 n, .slice ao xs.length cap] 24, .cells #[.slice a0 k0.length c0, .slice a1 k1.length c1] 36]
  z : RL wr.heap.size wr (.slice ao xs.length cap) xs
  k0 : RL wr.heap.size wr (.slice a0 k0.length c0) k0
  k1 : RL wr.heap.size wr (.slice a1 k1.length c1) k1
  p : RQ wr.heap.size wr (.slice ap ps.length cp) ps
theorem CovW.keep {w wr w' : World} {n : Int} {xs k0 k1 : List Int} {ps : List (Int × Int)} {ao a0 a1 ap : Option Addr} {cap c0 c1 cp : Nat} (h : CovW w wr n xs k0 k1 ps ao cap a0 c0 a1 c1 ap cp) (hb : Below wr.heap.size wr w') : CovW w w' n xs k0 k1 ps ao cap a0 c0 a1 c1 ap cp :=
  ⟨h.loc.next (grownBy_below hb none) (fun _ e => by cases e), h.z.keepb hb, h.k0.keepb hb, h.k1.keepb hb, h.p.keepb hb⟩
theorem CovW.cells {w wr : World} {n : Int} {xs k0 k1 : List Int} {ps : List (Int × Int)} {ao a0 a1 ap : Option Addr} {cap c0 c1 cp : Nat} (h : CovW w wr n xs k0 k1 ps ao cap a0 c0 a1 c1 ap cp) :
    wr.cell? ⟨w.heap.size, 0, none⟩ = some (.int .i64 n) ∧ wr.cell? ⟨w.heap.size, 1, none⟩ = some (.slice ao xs.length cap) ∧ wr.cell? ⟨w.heap.size + 1, 0, none⟩ = some (.slice a0 k0.length c0) ∧ wr.cell? ⟨w.heap.size + 1, 1, none⟩ = some (.slice a1 k1.length c1) :=
  ⟨h.loc.cell 0 rfl 0, h.loc.cell 0 rfl 1, h.loc.cell 1 rfl 0, h.loc.cell 1 rfl 1⟩
theorem law_scaled_yes (n c : Int) (v : Value) (xs : List Int) (w : World) (hv : RL w.heap.size w v xs) (hx : xs.length ≤ 200) (hc1 : 1 ≤ c) (hc2 : c ≤ 500) (hs : xs.all sokB = true) :
    Calls Try.prog 17 #[.agg #[.int .i64 n, v], .int .i64 c] w fun e w' => (∃ v', e = .returned (.tuple #[.agg #[.int .i64 n, v'], .bool true]) ∧ OL 49 w.heap.size w' v' (xs.map (scl c))) ∧ Below w.heap.size w w' := by
  refine (law_scaled n c v xs w hv hx hc1 hc2).mono fun e w' ⟨h, hb⟩ => ⟨?_, hb⟩
  rcases h with ⟨_, h⟩ | ⟨h, _⟩
  · exact h
  · rw [hs] at h; cases h
theorem law_scaled_no (n c : Int) (v : Value) (xs : List Int) (w : World) (hv : RL w.heap.size w v xs) (hx : xs.length ≤ 200) (hc1 : 1 ≤ c) (hc2 : c ≤ 500) (hs : xs.all sokB = false) :
    Calls Try.prog 17 #[.agg #[.int .i64 n, v], .int .i64 c] w fun e w' => e = .returned (.tuple #[.agg #[.int .i64 0, .slice none 0 0], .bool false]) ∧ Below w.heap.size w w' := by
  refine (law_scaled n c v xs w hv hx hc1 hc2).mono fun e w' ⟨h, hb⟩ => ⟨?_, hb⟩
  rcases h with ⟨h, _⟩ | ⟨_, h⟩
  · rw [hs] at h; cases h
  · exact h
theorem prog_bounds_is (n : Int) (v lv hgv : Value) (xs low high A : List Int) (w : World) (hv : RL w.heap.size w v xs) (hl : RL w.heap.size w lv low) (hh : RL w.heap.size w hgv high) (h : widB n xs low high = (0, A)) :
    Calls Try.prog 9 #[.agg #[.int .i64 n, v], lv, hgv] w fun e w' => (∃ v', e = .returned (.tuple #[.agg #[.int .i64 n, v'], .int .i64 0]) ∧ OL 49 w.heap.size w' v' A) ∧ Below w.heap.size w w' := by
  refine (prog_bounds n v lv hgv xs low high w hv hl hh).mono fun e w' ⟨h1, hb⟩ => ⟨?_, hb⟩
  obtain ⟨v', e1, e2⟩ := h1
  rw [h] at e1 e2
  exact ⟨v', by rw [e1]; simp [zdim], e2⟩
theorem prog_bounds_not (n : Int) (v lv hgv : Value) (xs low high : List Int) (w : World) (hv : RL w.heap.size w v xs) (hl : RL w.heap.size w lv low) (hh : RL w.heap.size w hgv high) (h : widB n xs low high = (2, [])) :
    Calls Try.prog 9 #[.agg #[.int .i64 n, v], lv, hgv] w fun e w' => (∃ v', e = .returned (.tuple #[.agg #[.int .i64 0, v'], .int .i64 2]) ∧ OL 49 w.heap.size w' v' []) ∧ Below w.heap.size w w' := by
  refine (prog_bounds n v lv hgv xs low high w hv hl hh).mono fun e w' ⟨h1, hb⟩ => ⟨?_, hb⟩
  obtain ⟨v', e1, e2⟩ := h1
  rw [h] at e1 e2
  exact ⟨v', by rw [e1]; simp [zdim], e2⟩

set_option maxRecDepth 100000 in
set_option maxHeartbeats 8000000 in
theorem law_widen_covers (n : Int) (v v0 v1 pv : Value) (xs k0 k1 : List Int) (ps : List (Int × Int)) (w : World) (hv : RL w.heap.size w v xs) (h0 : RL w.heap.size w v0 k0) (h1 : RL w.heap.size w v1 k1) (hp : RQ w.heap.size w pv ps) :
    Calls Try.prog 5 #[.agg #[.int .i64 n, v], .agg #[v0, v1], pv] w fun e w' => e = .returned (.bool true) ∧ Below w.heap.size w w' := by
  obtain ⟨ao, cap, rfl, hle, _⟩ := hv.open
  obtain ⟨a0, c0, rfl, hle0, _⟩ := h0.open
  obtain ⟨a1, c1, rfl, hle1, _⟩ := h1.open
  obtain ⟨ap, cp, rfl, hlep, _⟩ := hp.open
  have hw0 : CovW w ((w.alloc (.cells #[.int .i64 n, .slice ao xs.length cap] 24)).alloc (.cells #[.slice a0 k0.length c0, .slice a1 k1.length c1] 36)) n xs k0 k1 ps ao cap a0 c0 a1 c1 ap cp := by
    have hl := Loc.two w (.cells #[.int .i64 n, .slice ao xs.length cap] 24) (.cells #[.slice a0 k0.length c0, .slice a1 k1.length c1] 36) none
    have hb := below_grownBy hl.grown
    exact ⟨hl, hv.keepb hb, h0.keepb hb, h1.keepb hb, hp.keepb hb⟩
  have hw1 := hw0.keep ((Below.refl _ _).alloc (Nat.le_refl _) (.cells #[.slice a0 k0.length c0, .slice a1 k1.length c1] 25))
  have HW1 := Lib.hid hw1
  have hsz0 : ((w.alloc (.cells #[.int .i64 n, .slice ao xs.length cap] 24)).alloc (.cells #[.slice a0 k0.length c0, .slice a1 k1.length c1] 36)).heap.size = w.heap.size + 1 + 1 := by simp
  have hlists := Lib.hid (show ∀ k, k < [k0.length, k1.length].length → ∃ ax cx, (((w.alloc (.cells #[.int .i64 n, .slice ao xs.length cap] 24)).alloc (.cells #[.slice a0 k0.length c0, .slice a1 k1.length c1] 36)).alloc (.cells #[.slice a0 k0.length c0, .slice a1 k1.length c1] 25)).cell? ⟨w.heap.size + 1 + 1, k, none⟩ = some (.slice ax (gnat [k0.length, k1.length] k) cx) ∧ gnat [k0.length, k1.length] k ≤ 9223372036854775807 from fun k hk => by
    have hr := fun o => cell_of_row _ (w.heap.size + 1 + 1) o #[.slice a0 k0.length c0, .slice a1 k1.length c1] 25 (0, 0) (heap_new3 w (.cells #[.int .i64 n, .slice ao xs.length cap] 24) (.cells #[.slice a0 k0.length c0, .slice a1 k1.length c1] 36) (.cells #[.slice a0 k0.length c0, .slice a1 k1.length c1] 25))
    match k, hk with
    | 0, _ => exact ⟨a0, c0, hr 0, hle0⟩
    | 1, _ => exact ⟨a1, c1, hr 1, hle1⟩)
  clear hv h0 h1 hp hw0 hw1 hsz0
  go_enter Try.func5, Try.ntmps5
  go_wp2_with fail
  cases hb : beyondF [k0.length, k1.length] xs.length
  · obtain ⟨hx200, _⟩ := beyond_no2 hb
    refine (law_beyond n _ xs (w.heap.size + 1 + 1) 2 [k0.length, k1.length] _ HW1.out.z (by simp) (by simp) hlists.out).mono ?_
    rw [hb]
    rintro e w1 ⟨rfl, hb1⟩
    have hw2 := HW1.out.keep hb1
    have HW2 := Lib.hid hw2
    have Hb1 := Lib.hid (below_grownBy hw2.loc.grown)
    obtain ⟨z0, z1, q0, q1⟩ := hw2.cells
    clear hw2 hb1 HW1 hlists hb
    by_cases hn4 : n ≤ 4
    · have hn4' : decide (4 < n) = false := by simp; omega
      by_cases hp4 : ps.length ≤ 4
      · have hp4' : decide ((4 : Int) < (ps.length : Int)) = false := by simp; omega
        have hp4n : decide (4 < ps.length) = false := by simp; omega
        by_cases hok : OkZ n xs ∧ cstF n k0 = true ∧ cstF n k1 = true
        · obtain ⟨N, rfl⟩ : ∃ N : Nat, n = N := ⟨n.toNat, by have := hok.1.lo; omega⟩
          obtain ⟨A, hA1, hA2, hA3, _, hA5, _⟩ := widB_ok hok
          have HA := Lib.hid hA1
          have HA2 := Lib.hid hA2
          have HA5 := Lib.hid hA5
          have HAl := Lib.hid hA3
          have hl0 := cst_len hok.2.1
          have hl1 := cst_len hok.2.2
          have Hok := Lib.hid hok
          have Hl0 := Lib.hid (show k0.length = N by omega)
          have Hl1 := Lib.hid (show k1.length = N by omega)
          have e0 : ((k0.length : Int) != (N : Int)) = false := by simp; omega
          have e1 : ((k1.length : Int) != (N : Int)) = false := by simp; omega
          have e0n : (k0.length != N) = false := by simp; omega
          have e1n : (k1.length != N) = false := by simp; omega
          clear hok hA1 hA2 hA3 hA5 hl0 hl1
          go_upto_region 4 with (go_at_call 9; (refine (prog_bounds_is N _ _ _ xs k0 k1 A _ HW2.out.z HW2.out.k0 HW2.out.k1 HA.out).mono ?_); rintro e w2 ⟨⟨v2, rfl, ho2⟩, hb2⟩; (obtain ⟨ao2, c2, rfl⟩ := owns_form ho2))
          have b3 := bal hb2 (.cells #[.int .i64 N, .slice ao2 A.length c2] 24)
          have Hza := Lib.hid (show BoxZ w2.heap.size N A _ from BoxZ.atAlloc (n := (N : Int)) (OL.rl ho2) 24)
          have hw3 := HW2.out.keep b3
          have HW3 := Lib.hid hw3
          have Hb3 := Lib.hid (bt Hb1.out b3)
          clear hb2 ho2 b3 z0 z1 q0 q1 hw3
          generalize hW3 : w2.alloc (.cells #[.int .i64 N, .slice ao2 A.length c2] 24) = w3 at *
          have Hlen := Lib.hid (show xs.length = (N + 1) * (N + 1) by have := Hok.out.1.len; rwa [Int.toNat_natCast] at this)
          have HWA := Lib.hid (show OkZ N A ∧ ∀ e, hasF N A ps = (true, e) → ps.length = N → ∀ c : Int, 1 ≤ c → c ≤ 500 → xs.all sokB = true → Com ps ps.length c.toNat → Cov N c xs k0 k1 A ps from
            ⟨HA2.out, fun e he hpn c hc1 hc2 hs hcom => ⟨Hok.out.1, HA2.out, hpn, hc1, hc2, hs, ⟨e, he⟩, hcom, HA5.out, fun i hi => cst_gi Hok.out.2.1 (by have := Hl0.out; omega), fun i hi => cst_gi Hok.out.2.2 (by have := Hl1.out; omega)⟩⟩)
          go_wp2_with fail
          refine (law_common _ ps _ HW3.out.p).mono ?_
          rintro e w4 ⟨⟨c, rfl, hc⟩, hb4⟩
          have hw4 := HW3.out.keep hb4
          have HW4 := Lib.hid hw4
          have Hza4 := Lib.hid (Hza.out.keep hb4)
          have Hb4 := Lib.hid (bt Hb3.out hb4)
          obtain ⟨z0, z1, q0, q1⟩ := hw4.cells
          clear hb4 hw4 HW3 Hza Hb3
          by_cases hc0 : c = 0
          · subst hc0
            go_wp2_with (go_at_call 8; refine (law_shown _).mono ?_; rintro e wS ⟨rfl, hbS⟩)
            go_ret
            exact ⟨rfl, bt Hb4.out hbS⟩
          · obtain ⟨hc1, hc2, hcom⟩ := hc.resolve_left hc0
            have Hcom := Lib.hid hcom
            have hcb : ((c : Int) == 0) = false := by simp; omega
            clear hc hcom
            by_cases hpn : ps.length = N
            · have Hpn := Lib.hid hpn
              have e2 : ((ps.length : Int) != (N : Int)) = false := by simp; omega
              have e2n : (ps.length != N) = false := by simp; omega
              clear hpn
              obtain ⟨aoa, ca, a0', a1', hva⟩ := Hza4.out.ex
              have Hva := Lib.hid hva
              clear hva
              go_upto_region 7 with fail
              go_wp2_with fail
              refine (ref_has N _ _ A ps _ Hva.out HW4.out.p).mono ?_
              generalize hH : hasF N A ps = H
              obtain ⟨hb', hf'⟩ := H
              have HH := Lib.hid hH
              clear hH
              rintro e w5 ⟨he, hb5⟩
              obtain rfl : e = .returned (.tuple #[.bool hb', .int .i64 hf']) := he
              have hw5 := HW4.out.keep hb5
              have HW5 := Lib.hid hw5
              have Hb5 := Lib.hid (bt Hb4.out hb5)
              clear z0 z1 q0 q1 a0' a1'
              obtain ⟨z0, z1, q0, q1⟩ := hw5.cells
              clear hb5 hw5 HW4 Hb4 Hza4 Hva
              cases hs : xs.all sokB
              · have Hs := Lib.hid hs
                clear hs
                go_upto_region 9 with (go_at_call 17; refine (law_scaled_no N c _ xs _ HW5.out.z hx200 (by omega) (by omega) Hs.out).mono ?_; rintro e w6 ⟨rfl, hb6⟩)
                have Hb6 := Lib.hid (bt Hb5.out (bal hb6 (.cells #[.int .i64 0, .slice none 0 0] 24)))
                clear hb6 z0 z1 q0 q1
                by_cases hf0 : hf' = 0
                · subst hf0
                  go_wp2_with (go_at_call 8; refine (law_shown _).mono ?_; rintro e wS ⟨rfl, hbS⟩)
                  go_ret
                  exact ⟨rfl, bt Hb6.out hbS⟩
                · have hf1 : (hf' != 0) = true := by simpa using hf0
                  go_wp2_with (go_at_call 8; refine (law_shown _).mono ?_; rintro e wS ⟨rfl, hbS⟩)
                  go_ret
                  exact ⟨rfl, bt Hb6.out hbS⟩
              · have Hs := Lib.hid hs
                clear hs
                go_upto_region 9 with (go_at_call 17; refine (law_scaled_yes N c _ xs _ HW5.out.z hx200 (by omega) (by omega) Hs.out).mono ?_; rintro e w6 ⟨⟨v6, rfl, ho6⟩, hb6⟩; (obtain ⟨ao6, c6, rfl⟩ := owns_form ho6))
                have b7 := bal hb6 (.cells #[.int .i64 N, .slice ao6 xs.length c6] 24)
                have hz6 := BoxZ.atAlloc (n := (N : Int)) (OL.rl ho6) 24
                rw [List.length_map] at hz6
                have Hzs := Lib.hid hz6
                clear hz6
                have hw7 := HW5.out.keep b7
                have HW7 := Lib.hid hw7
                have Hb7 := Lib.hid (bt Hb5.out b7)
                clear hb6 ho6 b7 z0 z1 q0 q1 HW5 Hb5
                generalize hW7 : w6.alloc (.cells #[.int .i64 N, .slice ao6 xs.length c6] 24) = w7 at *
                obtain ⟨z0, z1, q0, q1⟩ := hw7.cells
                clear hw7
                by_cases hf0 : hf' = 0
                · subst hf0
                  cases hb'
                  · go_wp2_with (go_at_call 8; refine (law_shown _).mono ?_; rintro e wS ⟨rfl, hbS⟩)
                    go_ret
                    exact ⟨rfl, bt Hb7.out hbS⟩
                  · obtain ⟨nn, hn1, hn2⟩ := (HWA.out.2 _ HH.out Hpn.out c (by omega) (by omega) Hs.out (by rw [Int.toNat_natCast]; exact Hcom.out)).yes
                    have HY := Lib.hid hn2
                    have h3N := Lib.hid (show ∀ q, q ≤ N → 3 ^ q ≤ 81 from fun q hq => Nat.le_trans (Nat.pow_le_pow_right (by omega) (show q ≤ 4 by omega)) (by omega))
                    clear hn2
                    go_wp2_with fail
                    go_loopw [14, 15] (fun cs i wr => ∃ q : Nat, q ≤ N ∧ i = .int .i64 q ∧ cs = .int .i64 ((3 ^ q : Nat) : Int) ∧ wr = w7) (fun _ i _ => N - (intOf i).toNat)
                    case atStart => exact ⟨0, by omega, rfl, by simp, rfl⟩
                    case round =>
                      obtain ⟨q, hq, rfl, rfl, rfl⟩ := hrel
                      have hpb := h3N.out q hq
                      by_cases hlt : q < N
                      · have hp1 := h3N.out (q + 1) (by omega)
                        have hps := Lib.hid (show ((3 ^ (q + 1) : Nat) : Int) = 3 * ((3 ^ q : Nat) : Int) by rw [Nat.pow_succ]; omega)
                        rw [Nat.pow_succ] at hp1
                        generalize hT : 3 ^ q = T at *
                        clear hT
                        go_wp2_with fail
                        go_roundw
                        case rel => exact ⟨q + 1, by omega, by go_num, by rw [hps.out], by first | rfl | trivial⟩
                        case measure => simp [intOf]; omega
                      · have hqN : q = N := by omega
                        have HqN := Lib.hid hqN
                        have hd : decide ((q : Int) < (N : Int)) = false := by simp; omega
                        have hnT : nn < 3 ^ q := by rw [hqN]; exact hn1
                        generalize hT : 3 ^ q = T at *
                        clear hT hqN
                        go_wp2_with fail
                        clear z0 z1 q0 q1
                        obtain ⟨wo, rfl⟩ : ∃ wo : World, wo = wr := ⟨_, rfl⟩
                        go_loopw [16] (fun i wr2 => ∃ r : Nat, r ≤ T ∧ i = .int .i64 r ∧ (∀ s, s < r → covB c N (xs.map (scl c)) k0 k1 ps s = false) ∧ Below wo.heap.size wo wr2) (fun i _ => T - (intOf i).toNat)
                        case atStart => exact ⟨0, by omega, rfl, fun _ h => by omega, Below.refl _ _⟩
                        case round =>
                          obtain ⟨r, hr, rfl, hno, hbl⟩ := hrel
                          have Hno := Lib.hid hno
                          by_cases hrT : r < T
                          · have hw8 := HW7.out.keep hbl
                            have HW8 := Lib.hid hw8
                            obtain ⟨z0, z1, q0, q1⟩ := hw8.cells
                            obtain ⟨aos, cs', s0, s1, hvs⟩ := (Hzs.out.keep hbl).ex
                            rw [List.length_map] at hvs s1
                            have Hvs := Lib.hid hvs
                            have Hbl := Lib.hid (bt Hb7.out hbl)
                            have Hbl0 := Lib.hid hbl
                            have hrT' : (r : Int) < (T : Int) := by omega
                            clear hno hw8 hvs hbl
                            cases hcv : covB c N (xs.map (scl c)) k0 k1 ps r
                            · have hst := Lib.hid (show ∀ s, s < r + 1 → covB c N (xs.map (scl c)) k0 k1 ps s = false from fun s hs => by
                                by_cases e : s = r
                                · subst e; exact hcv
                                · exact Hno.out s (by omega))
                              have Hcv := Lib.hid hcv
                              clear hcv
                              go_wp2_with fail
                              refine (law_covered N _ _ _ _ c r (xs.map (scl c)) k0 k1 ps _ Hvs.out HW8.out.k0 HW8.out.k1 HW8.out.p (by have := Hpn.out; omega) (by rw [Hl0.out, Hpn.out]) (by rw [Hl1.out, Hpn.out]) (by omega) (by omega) (by rw [Int.toNat_natCast]; exact Hcom.out) (fun i hi => cst_gi Hok.out.2.1 (by have := Hl0.out; have := Hpn.out; omega)) (fun i hi => cst_gi Hok.out.2.2 (by have := Hl1.out; have := Hpn.out; omega)) (by omega)).mono ?_
                              rw [Hcv.out]
                              rintro e w9 ⟨rfl, hb9⟩
                              go_wp2_with fail
                              go_roundw
                              case rel => exact ⟨r + 1, by omega, by go_num, hst.out, bt Hbl0.out hb9⟩
                              case measure => simp [intOf]; omega
                            · have Hcv := Lib.hid hcv
                              clear hcv
                              go_wp2_with fail
                              refine (law_covered N _ _ _ _ c r (xs.map (scl c)) k0 k1 ps _ Hvs.out HW8.out.k0 HW8.out.k1 HW8.out.p (by have := Hpn.out; omega) (by rw [Hl0.out, Hpn.out]) (by rw [Hl1.out, Hpn.out]) (by omega) (by omega) (by rw [Int.toNat_natCast]; exact Hcom.out) (fun i hi => cst_gi Hok.out.2.1 (by have := Hl0.out; have := Hpn.out; omega)) (fun i hi => cst_gi Hok.out.2.2 (by have := Hl1.out; have := Hpn.out; omega)) (by omega)).mono ?_
                              rw [Hcv.out]
                              rintro e w9 ⟨rfl, hb9⟩
                              have H9 := Lib.hid (bt Hbl.out hb9)
                              clear hb9 z0 z1 q0 q1 s0 s1
                              go_wp2_with (go_at_call 8; refine (law_shown _).mono ?_; rintro e wS ⟨rfl, hbS⟩)
                              go_ret
                              exact ⟨rfl, bt H9.out hbS⟩
                          · exfalso
                            have := Hno.out nn (by omega)
                            rw [HY.out] at this
                            cases this
                · have hf1 : (hf' != 0) = true := by simpa using hf0
                  go_wp2_with (go_at_call 8; refine (law_shown _).mono ?_; rintro e wS ⟨rfl, hbS⟩)
                  go_ret
                  exact ⟨rfl, bt Hb7.out hbS⟩
            · have e2 : ((ps.length : Int) != (N : Int)) = true := by simp; omega
              have e2n : (ps.length != N) = true := by simp; omega
              go_wp2_with (go_at_call 8; refine (law_shown _).mono ?_; rintro e wS ⟨rfl, hbS⟩)
              go_ret
              exact ⟨rfl, bt Hb4.out hbS⟩
        · have HW := Lib.hid (widB_no hok)
          clear hok
          go_upto_region 4 with (go_at_call 9; (refine (prog_bounds_not n _ _ _ xs k0 k1 _ HW2.out.z HW2.out.k0 HW2.out.k1 HW.out).mono ?_); rintro e w2 ⟨⟨v2, rfl, ho2⟩, hb2⟩; (obtain ⟨ao2, c2, rfl⟩ := owns_form ho2))
          have b3 := bal hb2 (.cells #[.int .i64 0, .slice ao2 ([] : List Int).length c2] 24)
          have HW3 := Lib.hid (HW2.out.keep b3)
          have Hb3 := Lib.hid (bt Hb1.out b3)
          clear hb2 ho2 b3 z0 z1 q0 q1
          generalize hW3 : w2.alloc (.cells #[.int .i64 0, .slice ao2 ([] : List Int).length c2] 24) = w3 at *
          go_wp2_with fail
          refine (law_common _ ps _ HW3.out.p).mono ?_
          rintro e w4 ⟨⟨c, rfl, hc⟩, hb4⟩
          have Hb4 := Lib.hid (bt Hb3.out hb4)
          clear hb4 hc
          go_wp2_with (go_at_call 8; refine (law_shown _).mono ?_; rintro e wS ⟨rfl, hbS⟩)
          go_ret
          exact ⟨rfl, bt Hb4.out hbS⟩
      · have hp4' : decide ((4 : Int) < (ps.length : Int)) = true := by simp; omega
        have hp4n : decide (4 < ps.length) = true := by simp; omega
        go_wp2_with (go_at_call 8; refine (law_shown _).mono ?_; rintro e wS ⟨rfl, hbS⟩)
        go_ret
        exact ⟨rfl, bt Hb1.out hbS⟩
    · have hn4' : decide (4 < n) = true := by simp; omega
      go_wp2_with (go_at_call 8; refine (law_shown _).mono ?_; rintro e wS ⟨rfl, hbS⟩)
      go_ret
      exact ⟨rfl, bt Hb1.out hbS⟩
  · refine (law_beyond n _ xs (w.heap.size + 1 + 1) 2 [k0.length, k1.length] _ HW1.out.z (by simp) (by simp) hlists.out).mono ?_
    rw [hb]
    rintro e w1 ⟨rfl, hb1⟩
    have Hb1 := Lib.hid (below_grownBy (HW1.out.keep hb1).loc.grown)
    clear hb1 HW1 hlists hb
    go_wp2_with (go_at_call 8; refine (law_shown _).mono ?_; rintro e wS ⟨rfl, hbS⟩)
    go_ret
    exact ⟨rfl, bt Hb1.out hbS⟩
end Go.Proofs.Ytmjpcakikflcfaa
