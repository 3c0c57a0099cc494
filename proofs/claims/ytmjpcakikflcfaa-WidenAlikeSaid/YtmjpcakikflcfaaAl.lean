/- The law WidenAlike answers true for every input, and writes nothing that was there. -/
import Derived.Test.YtmjpcakikflcfaaAlP2
import Derived.Test.YtmjpcakikflcfaaHas
import Derived.Test.YtmjpcakikflcfaaWid8
import Derived.Test.YtmjpcakikflcfaaFrame
import Derived.Test.YtmjpcakikflcfaaBox
import Derived.Deep.DeepCutAuto
namespace Go.Proofs.Ytmjpcakikflcfaa
open Go.RowKit
set_option linter.unusedVariables false

theorem beyond_no3 {lens : List Nat} {L : Nat} (h : beyondF lens L = false) : L ≤ 200 ∧ ∀ l ∈ lens, l ≤ 50 := by
  unfold beyondF at h
  rw [Bool.or_eq_false_iff, List.any_eq_false] at h
  exact ⟨by have := h.2; simp at this; omega, fun l hl => by have := h.1 l hl; simp at this; omega⟩
theorem prog_greatest_is (n : Int) (v kv : Value) (xs k A : List Int) (w : World) (hv : RL w.heap.size w v xs) (hk : RL w.heap.size w kv k) (h : widB n xs k k = (0, A)) :
    Calls Try.prog 11 #[.agg #[.int .i64 n, v], kv] w fun e w' => (∃ v', e = .returned (.tuple #[.agg #[.int .i64 n, v'], .int .i64 0]) ∧ OL 49 w.heap.size w' v' A) ∧ Below w.heap.size w w' := by
  refine (prog_greatest n v kv xs k w hv hk).mono fun e w' ⟨h1, hb⟩ => ⟨?_, hb⟩
  obtain ⟨v', e1, e2⟩ := h1
  rw [h] at e1 e2
  exact ⟨v', by rw [e1]; simp [zdim], e2⟩
theorem prog_greatest_not (n : Int) (v kv : Value) (xs k : List Int) (w : World) (hv : RL w.heap.size w v xs) (hk : RL w.heap.size w kv k) (h : widB n xs k k = (2, [])) :
    Calls Try.prog 11 #[.agg #[.int .i64 n, v], kv] w fun e w' => (∃ v', e = .returned (.tuple #[.agg #[.int .i64 0, v'], .int .i64 2]) ∧ OL 49 w.heap.size w' v' []) ∧ Below w.heap.size w w' := by
  refine (prog_greatest n v kv xs k w hv hk).mono fun e w' ⟨h1, hb⟩ => ⟨?_, hb⟩
  obtain ⟨v', e1, e2⟩ := h1
  rw [h] at e1 e2
  exact ⟨v', by rw [e1]; simp [zdim], e2⟩

theorem OK3.keepb {t base : Nat} {w w' : World} {v : Value} {cs : List K3} (h : OK3 t base w v cs) (hb : Below w.heap.size w w') : OK3 t base w' v cs := World.ownsRow.kept h (row := none) (grownBy_below hb none) (by cases v.ownBlock <;> simp)
theorem OK3.alloc {t base : Nat} {w : World} {v : Value} {cs : List K3} (h : OK3 t base w v cs) (o : Obj) : OK3 t base (w.alloc o) v cs := World.ownsRow.alloc h o
set_option maxRecDepth 100000 in
set_option maxHeartbeats 16000000 in
theorem law_widen_alike (n : Int) (v kv pv : Value) (xs kk : List Int) (ps : List (Int × Int)) (w : World) (hv : RL w.heap.size w v xs) (hk : RL w.heap.size w kv kk) (hp : RQ w.heap.size w pv ps) :
    Calls Try.prog 6 #[.agg #[.int .i64 n, v], kv, pv] w fun e w' => e = .returned (.bool true) ∧ Below w.heap.size w w' := by
  obtain ⟨ao, cap, rfl, hle, _⟩ := hv.open
  obtain ⟨ak, ckp, rfl, hlek, _⟩ := hk.open
  obtain ⟨ap, cp, rfl, hlep, _⟩ := hp.open
  have hloc0 := (Loc.one w (.cells #[.int .i64 n, .slice ao xs.length cap] 24) none)
  have hlocB := hloc0.next (World.grownBy_alloc _ (.cells #[.slice ak kk.length ckp] 25) none) (fun _ h => by cases h)
  have Hv := Lib.hid hv
  have Hk := Lib.hid hk
  have Hp := Lib.hid hp
  have Hv0 := Lib.hid (hv.keepb (below_grownBy hlocB.grown))
  have hlists := Lib.hid (show ∀ k, k < [kk.length].length → ∃ ax cx, ((w.alloc (.cells #[.int .i64 n, .slice ao xs.length cap] 24)).alloc (.cells #[.slice ak kk.length ckp] 25)).cell? ⟨w.heap.size + 1, k, none⟩ = some (.slice ax (gnat [kk.length] k) cx) ∧ gnat [kk.length] k ≤ 9223372036854775807 from fun k hk => by
    have hr := fun o => cell_of_row _ (w.heap.size + 1) o #[.slice ak kk.length ckp] 25 (0, 0) (heap_new2 w (.cells #[.int .i64 n, .slice ao xs.length cap] 24) (.cells #[.slice ak kk.length ckp] 25))
    match k, hk with
    | 0, _ => exact ⟨ak, ckp, hr 0, hlek⟩)
  clear hv hk hp hloc0
  go_enter Try.func6, Try.ntmps6
  go_wp2_with fail
  cases hb : beyondF [kk.length] xs.length
  · obtain ⟨hx200, _⟩ := beyond_no3 hb
    refine (law_beyond n _ xs (w.heap.size + 1) 1 [kk.length] _ Hv0.out (by simp) (by simp) hlists.out).mono ?_
    rw [hb]
    rintro e w1 ⟨rfl, hb1⟩
    have hloc1 := hlocB.next (grownBy_below hb1 none) (fun _ h => by cases h)
    have z0 : w1.cell? ⟨w.heap.size, 0, none⟩ = some (.int .i64 n) := hloc1.cell 0 rfl 0
    have z1 : w1.cell? ⟨w.heap.size, 1, none⟩ = some (.slice ao xs.length cap) := hloc1.cell 0 rfl 1
    have Hb1 := Lib.hid (below_grownBy hloc1.grown)
    have Hv1 := Lib.hid (Hv.out.keepb Hb1.out)
    have Hk1 := Lib.hid (Hk.out.keepb Hb1.out)
    clear hb1 hlocB Hv0 hlists hb
    by_cases hp4 : ps.length ≤ 10
    · have hp4' : decide ((10 : Int) < (ps.length : Int)) = false := by simp; omega
      have hp4n : decide (10 < ps.length) = false := by simp; omega
      by_cases hok : OkZ n xs ∧ cstF n kk = true ∧ cstF n kk = true
      · obtain ⟨N, rfl⟩ : ∃ N : Nat, n = N := ⟨n.toNat, by have := hok.1.lo; omega⟩
        obtain ⟨A, hA1, hA2, hA3, hA4, hA5, hA6⟩ := widB_ok hok
        have HA := Lib.hid hA1
        have Hok := Lib.hid hok
        have hl0 := cst_len hok.2.1
        have Hl0 := Lib.hid (show kk.length = N by omega)
        have e0 : ((kk.length : Int) != (N : Int)) = false := by simp; omega
        have e0n : (kk.length != N) = false := by simp; omega
        have hN10 : N ≤ 10 := by have := hok.1.hi; omega
        clear hok hA1 hA2 hA3 hA4 hA5 hA6 hl0
        go_upto_region 4 with (go_at_call 11; (refine (prog_greatest_is N _ _ xs kk A _ Hv1.out Hk1.out HA.out).mono ?_); rintro e w2 ⟨⟨v2, rfl, ho2⟩, hb2⟩; (obtain ⟨ao2, c2, rfl⟩ := owns_form ho2))
        have b3 := bal hb2 (.cells #[.int .i64 N, .slice ao2 A.length c2] 24)
        have Hza := Lib.hid (show BoxZ w2.heap.size N A _ from BoxZ.atAlloc (n := (N : Int)) (OL.rl ho2) 24)
        have hloc3 := hloc1.next (grownBy_below b3 none) (fun _ h => by cases h)
        clear hb2 ho2 b3 z0 z1 hloc1 Hb1 Hv1 Hk1
        generalize hW3 : w2.alloc (.cells #[.int .i64 N, .slice ao2 A.length c2] 24) = w3 at *
        have z0 : w3.cell? ⟨w.heap.size, 0, none⟩ = some (.int .i64 N) := hloc3.cell 0 rfl 0
        have Hb3 := Lib.hid (below_grownBy hloc3.grown)
        by_cases hpn : ps.length = N
        · have Hpn := Lib.hid hpn
          have e2 : ((ps.length : Int) != (N : Int)) = false := by simp; omega
          have e2n : (ps.length != N) = false := by simp; omega
          obtain ⟨aoa, ca, a0', a1', hva⟩ := Hza.out.ex
          have Hva := Lib.hid hva
          have Hp3 := Lib.hid (Hp.out.keepb Hb3.out)
          clear hpn hva
          go_wp2_with fail
          refine (ref_has N _ _ A ps _ Hva.out Hp3.out).mono ?_
          generalize hH : hasF N A ps = H
          obtain ⟨hb', hf'⟩ := H
          have HH := Lib.hid hH
          rintro e w5 ⟨he, hb5⟩
          obtain rfl : e = .returned (.tuple #[.bool hb', .int .i64 hf']) := he
          have hloc5 := hloc3.next (grownBy_below hb5 none) (fun _ h => by cases h)
          have Hb5 := Lib.hid (below_grownBy hloc5.grown)
          clear hH z0 a0' a1' hloc3 hb5
          by_cases hf0 : hf' = 0
          · subst hf0
            cases hb'
            · go_wp2_with (go_at_call 8; refine (law_shown _).mono ?_; rintro e wS ⟨rfl, hbS⟩)
              go_ret
              exact ⟨rfl, bt Hb5.out hbS⟩
            · obtain ⟨c, Y, H1, H2, H3, H4, H5⟩ := alike_plain Hok.out HA.out Hpn.out HH.out
              have HAl := Lib.hid H1
              have HY2 := Lib.hid H2
              have HY3 := Lib.hid H3
              have HY4 := Lib.hid H4
              have HY5 := Lib.hid H5
              clear H1 H2 H3 H4 H5 Hza Hva Hp3
              go_wp2_with fail
              go_loopw [11, 12, 13, 14, 15, 16, 17, 18] (fun l i _ _ _ _ _ _ wr => ∃ (q : Nat) (cs : List K3), q ≤ N ∧ i = .int .i64 q ∧ OK3 51 (w.heap.size + 1) wr l cs ∧ cs.length ≤ 22 * q ∧ HoldsC c N Y cs ∧ Loc w wr none [.cells #[.int .i64 N, .slice ao xs.length cap] 24]) (fun _ i _ _ _ _ _ _ _ => N - (intOf i).toNat)
              case atStart => exact ⟨0, [], by omega, rfl, ⟨rfl, .inl ⟨rfl, rfl⟩⟩, by simp, fun x hx => by simp at hx, hloc5⟩
              case round =>
                clear hloc5
                obtain ⟨q, cs, hq, rfl, hown, hcl, hho, hloc⟩ := hrel
                have Hown := Lib.hid hown
                have Hho := Lib.hid hho
                have hszw : w.heap.size + 1 ≤ wr.heap.size := hloc.size
                clear hown hho
                by_cases hlt : q < N
                · have hbl := below_grownBy hloc.grown
                  obtain ⟨ap', cp', ep, _, hcp⟩ := Hp.out.open
                  simp only [Value.slice.injEq, true_and] at ep
                  obtain ⟨rfl, rfl⟩ := ep
                  obtain ⟨bp, op, rfl, hbp, hcp⟩ := hcp (by have := Hpn.out; omega)
                  obtain ⟨ak', ck', ek, _, hck⟩ := Hk.out.open
                  simp only [Value.slice.injEq, true_and] at ek
                  obtain ⟨rfl, rfl⟩ := ek
                  obtain ⟨bk, ok, rfl, hbk, hck⟩ := hck (by have := Hl0.out; omega)
                  have Hcp := Lib.hid hcp
                  have Hck := Lib.hid hck
                  have x1 := ((bcell hbl).1 _ _ hbp).trans (hcp q (by have := Hpn.out; omega)).1
                  have x2 := ((bcell hbl).1 _ _ hbp).trans (hcp q (by have := Hpn.out; omega)).2
                  have x3 := ((bcell hbl).1 _ _ hbk).trans (hck q (by have := Hl0.out; omega))
                  obtain ⟨eq, hclk⟩ := HAl.out.clk hlt
                  have i1 : (q : Int) < ps.length := by have := Hpn.out; omega
                  have i2 : (q : Int) < kk.length := by have := Hl0.out; omega
                  clear hcp hck hbl
                  have hgq : gq ps q = gq ps q := rfl
                  generalize hG : gq ps q = P at x1 x2 hclk
                  have HG := Lib.hid hG
                  obtain ⟨nn, dd⟩ := P
                  simp only at hclk x1 x2
                  have Hclk := Lib.hid hclk
                  have hvr := Lib.hid hclk.v
                  have hn0 := hclk.n0
                  have hd1 := hclk.d1
                  have hk0 := hclk.k0
                  have hk1 := hclk.k1
                  obtain ⟨p1, p2, p3, p4, _⟩ := (vr_iff nn dd).1 hclk.v
                  have m0 : 0 ≤ nn / dd := Int.ediv_nonneg hn0 (by omega)
                  have m1 : nn / dd ≤ nn := Int.ediv_le_self _ hn0
                  clear hclk hG hgq
                  generalize hkq : gi kk q = kq at x3 hk0 hk1
                  generalize hfl : nn / dd = m at m0 m1
                  have Hkq := Lib.hid hkq
                  have Hfl := Lib.hid hfl
                  clear hkq hfl
                  go_wp2_with fail
                  refine (r1_floor nn dd _ hvr.out hn0).mono ?_
                  rw [Hfl.out]
                  rintro e w6 ⟨rfl, hb6⟩
                  have y1 := keepb x1 hb6
                  have y2 := keepb x2 hb6
                  have y3 := keepb x3 hb6
                  have hloc6 := hloc.next (grownBy_below hb6 none) (fun _ h => by cases h)
                  have hs6 : wr.heap.size ≤ w6.heap.size := hb6.size
                  have Hown6 := Lib.hid (show OK3 51 (w.heap.size + 1) w6 u11 cs from Hown.out.keepb hb6)
                  clear x1 x2 x3 hb6 hloc Hown
                  by_cases hab : abv nn dd kq
                  · have Hab := Lib.hid hab
                    by_cases hkm : kq < m
                    · have t1 : kq < m := hkm
                      clear hab
                      by_cases hk : 0 ≤ kq
                      · have Hadd := Lib.hid (above_clk hlt Hclk.out (HY4.out (q + 1) hlt) (by rw [Hkq.out]; exact Hab.out) (by rw [Hkq.out]; exact hk))
                        rw [Hkq.out] at Hadd
                        go_wp2_with (at_builtin; (refine wpList_append_k rfl (.tmp 112) (.tmp 121) 44 rfl 51 Try.undKs Try.infoK (w.heap.size + 1) u11 rfl cs ?_ ?_ (.slice (some ⟨w6.heap.size, 0, none⟩) 1 1) rfl [(0, (q : Int) + 1, -2 * kq)] (w6.heap.size + 1) ?_ ?_ ?_; (exact Hown6.out.alloc _); (simp; omega); (exact rs_lit3 (w := w6) rfl rfl (by simp)); (simp; omega); intro v' w' ho' hg'))
                        go_roundw
                        case rel => exact ⟨q + 1, cs ++ [(0, (q : Int) + 1, -2 * kq)], by omega, by go_num, ho', by simp; omega, Hho.out.append Hadd.out, hloc6.anyrow (grownBy_trans (World.grownBy_alloc _ _ _) hg') (fun g e => by have := Hown6.out.lt g e; simp; omega)⟩
                        case measure => simp [intOf]; omega
                      · have hk' : decide (0 ≤ kq) = false := by simpa using hk
                        go_wp2_with fail
                        go_roundw
                        case rel => exact ⟨q + 1, cs, by omega, by go_num, Hown6.out, by omega, Hho.out, hloc6⟩
                        case measure => simp [intOf]; omega
                    · have t1 : decide (kq < m) = false := by simpa using hkm
                      have hdd : dd ≠ 1 ∧ m = kq := by
                        rcases hab with h | h
                        · rw [Hfl.out] at h; exact absurd h hkm
                        · rw [Hfl.out] at h; exact ⟨h.2, h.1⟩
                      have t2 : (m == kq) = true := by simp; exact hdd.2
                      have t3 : (dd == 1) = false := by simp; exact hdd.1
                      have hk : 0 ≤ kq := by rw [← hdd.2]; exact m0
                      clear hdd hab
                      have Hadd := Lib.hid (above_clk hlt Hclk.out (HY4.out (q + 1) hlt) (by rw [Hkq.out]; exact Hab.out) (by rw [Hkq.out]; exact hk))
                      rw [Hkq.out] at Hadd
                      go_wp2_with (at_builtin; (refine wpList_append_k rfl (.tmp 112) (.tmp 121) 44 rfl 51 Try.undKs Try.infoK (w.heap.size + 1) u11 rfl cs ?_ ?_ (.slice (some ⟨w6.heap.size, 0, none⟩) 1 1) rfl [(0, (q : Int) + 1, -2 * kq)] (w6.heap.size + 1) ?_ ?_ ?_; (exact Hown6.out.alloc _); (simp; omega); (exact rs_lit3 (w := w6) rfl rfl (by simp)); (simp; omega); intro v' w' ho' hg'))
                      go_roundw
                      case rel => exact ⟨q + 1, cs ++ [(0, (q : Int) + 1, -2 * kq)], by omega, by go_num, ho', by simp; omega, Hho.out.append Hadd.out, hloc6.anyrow (grownBy_trans (World.grownBy_alloc _ _ _) hg') (fun g e => by have := Hown6.out.lt g e; simp; omega)⟩
                      case measure => simp [intOf]; omega
                  · have Hab := Lib.hid hab
                    have t1 : decide (kq < m) = false := by
                      simp only [decide_eq_false_iff_not]; intro h; exact hab (.inl (by rw [Hfl.out]; exact h))
                    by_cases hd : dd = 1
                    · have t3 : (dd == 1) = true := by simpa using hd
                      have Hadd := Lib.hid (Hho.out.append (whole_clk hlt Hclk.out (HY3.out (q + 1) hlt) (HY4.out (q + 1) hlt) (by rw [Hkq.out]; exact Hab.out) hd))
                      rw [Hfl.out] at Hadd
                      have mb : m ≤ 1048576 := by have := (kept_clk hlt Hclk.out (HY3.out (q + 1) hlt) (HY4.out (q + 1) hlt) (by rw [Hkq.out]; exact Hab.out)).2.1; rw [Hfl.out] at this; exact this
                      clear hab hd
                      by_cases hmk : m = kq
                      · have t2 : (m == kq) = true := by simpa using hmk
                        clear hmk
                        go_wp2_with (at_builtin; (refine wpList_append_k rfl (.tmp 124) (.tmp 137) 44 rfl 51 Try.undKs Try.infoK (w.heap.size + 1) u11 rfl cs ?_ ?_ (.slice (some ⟨w6.heap.size, 0, none⟩) 2 2) rfl [((q : Int) + 1, 0, 2 * m + 1), (0, (q : Int) + 1, -2 * m + 1)] (w6.heap.size + 1) ?_ ?_ ?_; (exact Hown6.out.alloc _); (simp; omega); (exact rs_lit3 (w := w6) rfl rfl (by simp)); (simp; omega); intro v' w' ho' hg'))
                        have hlocA := hloc6.anyrow (grownBy_trans (World.grownBy_alloc _ _ _) hg') (fun g e => by have := Hown6.out.lt g e; simp; omega)
                        clear hg' y1 y2 y3 hloc6 Hown6
                        go_wp2_with fail
                        go_loopw [11, 16, 17, 18] (fun l j _ _ wr => ∃ (r : Nat) (cs2 : List K3), r ≤ q ∧ j = .int .i64 r ∧ OK3 51 (w.heap.size + 1) wr l cs2 ∧ cs2.length ≤ 22 * q + 2 + 2 * r ∧ HoldsC c N Y cs2 ∧ Loc w wr none [.cells #[.int .i64 N, .slice ao xs.length cap] 24]) (fun _ j _ _ _ => q - (intOf j).toNat)
                        case atStart => exact ⟨0, _, by omega, rfl, ho', by simp; omega, Hadd.out, hlocA⟩
                        case round =>
                          clear ho' hlocA
                          obtain ⟨r, cs2, hr, rfl, hown2, hcl2, hho2, hloc⟩ := hrel
                          have Hown := Lib.hid hown2
                          have Hho2 := Lib.hid hho2
                          clear hown2 hho2
                          have hszw2 : w.heap.size + 1 ≤ wr.heap.size := hloc.size
                          by_cases hrq : r < q
                          · have hrN : r < N := by omega
                            have hbl := below_grownBy hloc.grown
                            obtain ⟨eq', hclk'⟩ := HAl.out.clk hrN
                            have v1 := ((bcell hbl).1 _ _ hbp).trans (Hcp.out q (by have := Hpn.out; omega)).1
                            have v2 := ((bcell hbl).1 _ _ hbp).trans (Hcp.out q (by have := Hpn.out; omega)).2
                            have v3 := ((bcell hbl).1 _ _ hbp).trans (Hcp.out r (by have := Hpn.out; omega)).1
                            have v4 := ((bcell hbl).1 _ _ hbp).trans (Hcp.out r (by have := Hpn.out; omega)).2
                            have v5 := ((bcell hbl).1 _ _ hbk).trans (Hck.out r (by have := Hl0.out; omega))
                            rw [HG.out] at v1 v2
                            have HO := Lib.hid (show OrdW bp op bk ok q r nn dd (gq ps r).1 (gq ps r).2 (gi kk r) wr from ⟨v1, v2, v3, v4, v5⟩)
                            have Hclk' := Lib.hid hclk'
                            have hn1 := hclk'.n0
                            have hvr' := Lib.hid hclk'.v
                            clear v1 v2 v3 v4 v5 hclk' hbl
                            go_wp2_with fail
                            refine (law_order _ _ ps.length cp kk.length ckp bp op bk ok q r nn dd (gq ps r).1 (gq ps r).2 (gi kk r) _ rfl rfl (by have := Hpn.out; omega) (by have := Hpn.out; omega) (by have := Hl0.out; omega) (by omega) (by have := Hl0.out; omega) HO.out hvr.out hn0 hvr'.out hn1).mono ?_
                            rintro e w8 ⟨⟨mv, bb, rfl, hob⟩, hb8⟩
                            have hloc8 := hloc.next (grownBy_below hb8 none) (fun _ h => by cases h)
                            have Hown8 := Lib.hid (Hown.out.keepb hb8)
                            have hs8 : wr.heap.size ≤ w8.heap.size := hb8.size
                            clear hb8 hloc
                            cases bb
                            · go_wp2_with fail
                              go_roundw
                              case rel => exact ⟨r + 1, cs2, by omega, by go_num, Hown8.out, by omega, Hho2.out, hloc8⟩
                              case measure => simp [intOf]; omega
                            · obtain ⟨l2, hrk, hl2, hord⟩ := hob rfl
                              have Hrk := Lib.hid hrk
                              have Hl2 := Lib.hid hl2
                              have Hadd2 := Lib.hid (ord_clk HY2.out hlt hrN Hclk.out Hclk'.out HY3.out HY4.out (by rw [Hkq.out]; exact Hab.out) hord)
                              clear hob hrk hl2 hord
                              go_wp2_with (at_builtin; (refine wpList_append_k rfl (.tmp 167) (.tmp 168) 44 rfl 51 Try.undKs Try.infoK (w.heap.size + 1) u11 rfl cs2 ?_ ?_ mv rfl l2 w8.heap.size ?_ ?_ ?_; (exact Hown8.out); omega; (exact Hrk.out); (have := Hl2.out; omega); intro v'' w'' ho'' hg''))
                              go_roundw
                              case rel => exact ⟨r + 1, cs2 ++ l2, by omega, by go_num, ho'', by rw [List.length_append, Hl2.out]; omega, Hho2.out.append Hadd2.out, hloc8.anyrow hg'' (fun g e => by have := Hown8.out.lt g e; simp; omega)⟩
                              case measure => simp [intOf]; omega
                          · have hdr : decide ((r : Int) < (q : Int)) = false := by simp; omega
                            have hrq' : r = q := by omega
                            have Hrq := Lib.hid hrq'
                            clear hrq'
                            go_wp2_with fail
                            go_roundw
                            case rel => exact ⟨q + 1, cs2, by omega, by go_num, Hown.out, by have := Hrq.out; omega, Hho2.out, hloc⟩
                            case measure => simp [intOf]; omega
                      · have t2 : (m == kq) = false := by simpa using hmk
                        clear hmk
                        go_wp2_with (at_builtin; (refine wpList_append_k rfl (.tmp 124) (.tmp 137) 44 rfl 51 Try.undKs Try.infoK (w.heap.size + 1) u11 rfl cs ?_ ?_ (.slice (some ⟨w6.heap.size, 0, none⟩) 2 2) rfl [((q : Int) + 1, 0, 2 * m + 1), (0, (q : Int) + 1, -2 * m + 1)] (w6.heap.size + 1) ?_ ?_ ?_; (exact Hown6.out.alloc _); (simp; omega); (exact rs_lit3 (w := w6) rfl rfl (by simp)); (simp; omega); intro v' w' ho' hg'))
                        have hlocA := hloc6.anyrow (grownBy_trans (World.grownBy_alloc _ _ _) hg') (fun g e => by have := Hown6.out.lt g e; simp; omega)
                        clear hg' y1 y2 y3 hloc6 Hown6
                        go_wp2_with fail
                        go_loopw [11, 16, 17, 18] (fun l j _ _ wr => ∃ (r : Nat) (cs2 : List K3), r ≤ q ∧ j = .int .i64 r ∧ OK3 51 (w.heap.size + 1) wr l cs2 ∧ cs2.length ≤ 22 * q + 2 + 2 * r ∧ HoldsC c N Y cs2 ∧ Loc w wr none [.cells #[.int .i64 N, .slice ao xs.length cap] 24]) (fun _ j _ _ _ => q - (intOf j).toNat)
                        case atStart => exact ⟨0, _, by omega, rfl, ho', by simp; omega, Hadd.out, hlocA⟩
                        case round =>
                          clear ho' hlocA
                          obtain ⟨r, cs2, hr, rfl, hown2, hcl2, hho2, hloc⟩ := hrel
                          have Hown := Lib.hid hown2
                          have Hho2 := Lib.hid hho2
                          clear hown2 hho2
                          have hszw2 : w.heap.size + 1 ≤ wr.heap.size := hloc.size
                          by_cases hrq : r < q
                          · have hrN : r < N := by omega
                            have hbl := below_grownBy hloc.grown
                            obtain ⟨eq', hclk'⟩ := HAl.out.clk hrN
                            have v1 := ((bcell hbl).1 _ _ hbp).trans (Hcp.out q (by have := Hpn.out; omega)).1
                            have v2 := ((bcell hbl).1 _ _ hbp).trans (Hcp.out q (by have := Hpn.out; omega)).2
                            have v3 := ((bcell hbl).1 _ _ hbp).trans (Hcp.out r (by have := Hpn.out; omega)).1
                            have v4 := ((bcell hbl).1 _ _ hbp).trans (Hcp.out r (by have := Hpn.out; omega)).2
                            have v5 := ((bcell hbl).1 _ _ hbk).trans (Hck.out r (by have := Hl0.out; omega))
                            rw [HG.out] at v1 v2
                            have HO := Lib.hid (show OrdW bp op bk ok q r nn dd (gq ps r).1 (gq ps r).2 (gi kk r) wr from ⟨v1, v2, v3, v4, v5⟩)
                            have Hclk' := Lib.hid hclk'
                            have hn1 := hclk'.n0
                            have hvr' := Lib.hid hclk'.v
                            clear v1 v2 v3 v4 v5 hclk' hbl
                            go_wp2_with fail
                            refine (law_order _ _ ps.length cp kk.length ckp bp op bk ok q r nn dd (gq ps r).1 (gq ps r).2 (gi kk r) _ rfl rfl (by have := Hpn.out; omega) (by have := Hpn.out; omega) (by have := Hl0.out; omega) (by omega) (by have := Hl0.out; omega) HO.out hvr.out hn0 hvr'.out hn1).mono ?_
                            rintro e w8 ⟨⟨mv, bb, rfl, hob⟩, hb8⟩
                            have hloc8 := hloc.next (grownBy_below hb8 none) (fun _ h => by cases h)
                            have Hown8 := Lib.hid (Hown.out.keepb hb8)
                            have hs8 : wr.heap.size ≤ w8.heap.size := hb8.size
                            clear hb8 hloc
                            cases bb
                            · go_wp2_with fail
                              go_roundw
                              case rel => exact ⟨r + 1, cs2, by omega, by go_num, Hown8.out, by omega, Hho2.out, hloc8⟩
                              case measure => simp [intOf]; omega
                            · obtain ⟨l2, hrk, hl2, hord⟩ := hob rfl
                              have Hrk := Lib.hid hrk
                              have Hl2 := Lib.hid hl2
                              have Hadd2 := Lib.hid (ord_clk HY2.out hlt hrN Hclk.out Hclk'.out HY3.out HY4.out (by rw [Hkq.out]; exact Hab.out) hord)
                              clear hob hrk hl2 hord
                              go_wp2_with (at_builtin; (refine wpList_append_k rfl (.tmp 167) (.tmp 168) 44 rfl 51 Try.undKs Try.infoK (w.heap.size + 1) u11 rfl cs2 ?_ ?_ mv rfl l2 w8.heap.size ?_ ?_ ?_; (exact Hown8.out); omega; (exact Hrk.out); (have := Hl2.out; omega); intro v'' w'' ho'' hg''))
                              go_roundw
                              case rel => exact ⟨r + 1, cs2 ++ l2, by omega, by go_num, ho'', by rw [List.length_append, Hl2.out]; omega, Hho2.out.append Hadd2.out, hloc8.anyrow hg'' (fun g e => by have := Hown8.out.lt g e; simp; omega)⟩
                              case measure => simp [intOf]; omega
                          · have hdr : decide ((r : Int) < (q : Int)) = false := by simp; omega
                            have hrq' : r = q := by omega
                            have Hrq := Lib.hid hrq'
                            clear hrq'
                            go_wp2_with fail
                            go_roundw
                            case rel => exact ⟨q + 1, cs2, by omega, by go_num, Hown.out, by have := Hrq.out; omega, Hho2.out, hloc⟩
                            case measure => simp [intOf]; omega
                    · have t3 : (dd == 1) = false := by simpa using hd
                      have Hadd := Lib.hid (Hho.out.append (frac_clk hlt Hclk.out (HY3.out (q + 1) hlt) (HY4.out (q + 1) hlt) (by rw [Hkq.out]; exact Hab.out) hd))
                      rw [Hfl.out] at Hadd
                      have mb : m ≤ 1048576 := by have := (kept_clk hlt Hclk.out (HY3.out (q + 1) hlt) (HY4.out (q + 1) hlt) (by rw [Hkq.out]; exact Hab.out)).2.1; rw [Hfl.out] at this; exact this
                      have t2 : (m == kq) = false := by
                        simp; intro h; exact hab (.inr ⟨by rw [Hfl.out]; exact h, hd⟩)
                      clear hab hd
                      go_wp2_with (at_builtin; (refine wpList_append_k rfl (.tmp 139) (.tmp 151) 44 rfl 51 Try.undKs Try.infoK (w.heap.size + 1) u11 rfl cs ?_ ?_ (.slice (some ⟨w6.heap.size, 0, none⟩) 2 2) rfl [((q : Int) + 1, 0, 2 * m + 2), (0, (q : Int) + 1, -2 * m)] (w6.heap.size + 1) ?_ ?_ ?_; (exact Hown6.out.alloc _); (simp; omega); (exact rs_lit3 (w := w6) rfl rfl (by simp)); (simp; omega); intro v' w' ho' hg'))
                      have hlocA := hloc6.anyrow (grownBy_trans (World.grownBy_alloc _ _ _) hg') (fun g e => by have := Hown6.out.lt g e; simp; omega)
                      clear hg' y1 y2 y3 hloc6 Hown6
                      go_wp2_with fail
                      go_loopw [11, 16, 17, 18] (fun l j _ _ wr => ∃ (r : Nat) (cs2 : List K3), r ≤ q ∧ j = .int .i64 r ∧ OK3 51 (w.heap.size + 1) wr l cs2 ∧ cs2.length ≤ 22 * q + 2 + 2 * r ∧ HoldsC c N Y cs2 ∧ Loc w wr none [.cells #[.int .i64 N, .slice ao xs.length cap] 24]) (fun _ j _ _ _ => q - (intOf j).toNat)
                      case atStart => exact ⟨0, _, by omega, rfl, ho', by simp; omega, Hadd.out, hlocA⟩
                      case round =>
                        clear ho' hlocA
                        obtain ⟨r, cs2, hr, rfl, hown2, hcl2, hho2, hloc⟩ := hrel
                        have Hown := Lib.hid hown2
                        have Hho2 := Lib.hid hho2
                        clear hown2 hho2
                        have hszw2 : w.heap.size + 1 ≤ wr.heap.size := hloc.size
                        by_cases hrq : r < q
                        · have hrN : r < N := by omega
                          have hbl := below_grownBy hloc.grown
                          obtain ⟨eq', hclk'⟩ := HAl.out.clk hrN
                          have v1 := ((bcell hbl).1 _ _ hbp).trans (Hcp.out q (by have := Hpn.out; omega)).1
                          have v2 := ((bcell hbl).1 _ _ hbp).trans (Hcp.out q (by have := Hpn.out; omega)).2
                          have v3 := ((bcell hbl).1 _ _ hbp).trans (Hcp.out r (by have := Hpn.out; omega)).1
                          have v4 := ((bcell hbl).1 _ _ hbp).trans (Hcp.out r (by have := Hpn.out; omega)).2
                          have v5 := ((bcell hbl).1 _ _ hbk).trans (Hck.out r (by have := Hl0.out; omega))
                          rw [HG.out] at v1 v2
                          have HO := Lib.hid (show OrdW bp op bk ok q r nn dd (gq ps r).1 (gq ps r).2 (gi kk r) wr from ⟨v1, v2, v3, v4, v5⟩)
                          have Hclk' := Lib.hid hclk'
                          have hn1 := hclk'.n0
                          have hvr' := Lib.hid hclk'.v
                          clear v1 v2 v3 v4 v5 hclk' hbl
                          go_wp2_with fail
                          refine (law_order _ _ ps.length cp kk.length ckp bp op bk ok q r nn dd (gq ps r).1 (gq ps r).2 (gi kk r) _ rfl rfl (by have := Hpn.out; omega) (by have := Hpn.out; omega) (by have := Hl0.out; omega) (by omega) (by have := Hl0.out; omega) HO.out hvr.out hn0 hvr'.out hn1).mono ?_
                          rintro e w8 ⟨⟨mv, bb, rfl, hob⟩, hb8⟩
                          have hloc8 := hloc.next (grownBy_below hb8 none) (fun _ h => by cases h)
                          have Hown8 := Lib.hid (Hown.out.keepb hb8)
                          have hs8 : wr.heap.size ≤ w8.heap.size := hb8.size
                          clear hb8 hloc
                          cases bb
                          · go_wp2_with fail
                            go_roundw
                            case rel => exact ⟨r + 1, cs2, by omega, by go_num, Hown8.out, by omega, Hho2.out, hloc8⟩
                            case measure => simp [intOf]; omega
                          · obtain ⟨l2, hrk, hl2, hord⟩ := hob rfl
                            have Hrk := Lib.hid hrk
                            have Hl2 := Lib.hid hl2
                            have Hadd2 := Lib.hid (ord_clk HY2.out hlt hrN Hclk.out Hclk'.out HY3.out HY4.out (by rw [Hkq.out]; exact Hab.out) hord)
                            clear hob hrk hl2 hord
                            go_wp2_with (at_builtin; (refine wpList_append_k rfl (.tmp 167) (.tmp 168) 44 rfl 51 Try.undKs Try.infoK (w.heap.size + 1) u11 rfl cs2 ?_ ?_ mv rfl l2 w8.heap.size ?_ ?_ ?_; (exact Hown8.out); omega; (exact Hrk.out); (have := Hl2.out; omega); intro v'' w'' ho'' hg''))
                            go_roundw
                            case rel => exact ⟨r + 1, cs2 ++ l2, by omega, by go_num, ho'', by rw [List.length_append, Hl2.out]; omega, Hho2.out.append Hadd2.out, hloc8.anyrow hg'' (fun g e => by have := Hown8.out.lt g e; simp; omega)⟩
                            case measure => simp [intOf]; omega
                        · have hdr : decide ((r : Int) < (q : Int)) = false := by simp; omega
                          have hrq' : r = q := by omega
                          have Hrq := Lib.hid hrq'
                          clear hrq'
                          go_wp2_with fail
                          go_roundw
                          case rel => exact ⟨q + 1, cs2, by omega, by go_num, Hown.out, by have := Hrq.out; omega, Hho2.out, hloc⟩
                          case measure => simp [intOf]; omega
                · have hd : decide ((q : Int) < (ps.length : Int)) = false := by have := Hpn.out; simp; omega
                  have hdn : decide (q < ps.length) = false := by have := Hpn.out; simp; omega
                  have hlt' : ¬ q < ps.length := by have := Hpn.out; omega
                  have Hv7 := Lib.hid (Hv.out.keepb (below_grownBy hloc.grown))
                  have z0 : wr.cell? ⟨w.heap.size, 0, none⟩ = some (.int .i64 N) := hloc.cell 0 rfl 0
                  have z1 : wr.cell? ⟨w.heap.size, 1, none⟩ = some (.slice ao xs.length cap) := hloc.cell 0 rfl 1
                  have Hres := Lib.hid (HY5.out cs Hho.out)
                  go_wp2_with fail
                  refine (ref_and N _ _ xs cs _ Hv7.out Hown.out.rk).mono ?_
                  generalize hR : andF (N : Int) xs cs = R
                  obtain ⟨r, rs⟩ := R
                  have HR := Lib.hid hR
                  rintro e w7 ⟨⟨v7, rfl, ho7⟩, hb7⟩
                  obtain ⟨ao7, c7, rfl⟩ := owns_form ho7
                  have Hb7 := Lib.hid (bal (bt (below_grownBy hloc.grown) hb7) (.cells #[.int .i64 (zdim (r, rs) N), .slice ao7 (r, rs).2.length c7] 24))
                  have hr := Hres.out
                  rw [HR.out] at hr
                  simp only at hr
                  clear hR ho7 hb7 z0 z1
                  rcases hr with rfl | rfl
                  · go_wp2_with (go_at_call 8; refine (law_shown _).mono ?_; rintro e wS ⟨rfl, hbS⟩)
                    go_ret
                    exact ⟨rfl, bt Hb7.out hbS⟩
                  · go_wp2_with (go_at_call 8; refine (law_shown _).mono ?_; rintro e wS ⟨rfl, hbS⟩)
                    go_ret
                    exact ⟨rfl, bt Hb7.out hbS⟩
          · have hf1 : (hf' != 0) = true := by simpa using hf0
            go_wp2_with (go_at_call 8; refine (law_shown _).mono ?_; rintro e wS ⟨rfl, hbS⟩)
            go_ret
            exact ⟨rfl, bt Hb5.out hbS⟩
        · have e2 : ((ps.length : Int) != (N : Int)) = true := by simp; omega
          have e2n : (ps.length != N) = true := by simp; omega
          go_wp2_with (go_at_call 8; refine (law_shown _).mono ?_; rintro e wS ⟨rfl, hbS⟩)
          go_ret
          exact ⟨rfl, bt Hb3.out hbS⟩
      · have HW := Lib.hid (widB_no hok)
        clear hok
        go_upto_region 4 with (go_at_call 11; (refine (prog_greatest_not n _ _ xs kk _ Hv1.out Hk1.out HW.out).mono ?_); rintro e w2 ⟨⟨v2, rfl, ho2⟩, hb2⟩; (obtain ⟨ao2, c2, rfl⟩ := owns_form ho2))
        have Hb3 := Lib.hid (bt Hb1.out (bal hb2 (.cells #[.int .i64 0, .slice ao2 ([] : List Int).length c2] 24)))
        clear hb2 ho2 z0 z1
        go_wp2_with (go_at_call 8; refine (law_shown _).mono ?_; rintro e wS ⟨rfl, hbS⟩)
        go_ret
        exact ⟨rfl, bt Hb3.out hbS⟩
    · have hp4' : decide ((10 : Int) < (ps.length : Int)) = true := by simp; omega
      have hp4n : decide (10 < ps.length) = true := by simp; omega
      go_wp2_with (go_at_call 8; refine (law_shown _).mono ?_; rintro e wS ⟨rfl, hbS⟩)
      go_ret
      exact ⟨rfl, bt Hb1.out hbS⟩
  · refine (law_beyond n _ xs (w.heap.size + 1) 1 [kk.length] _ Hv0.out (by simp) (by simp) hlists.out).mono ?_
    rw [hb]
    rintro e w1 ⟨rfl, hb1⟩
    have Hb1 := Lib.hid (below_grownBy (hlocB.next (grownBy_below hb1 none) (fun _ h => by cases h)).grown)
    clear hb1 hlocB Hv0 hlists hb
    go_wp2_with (go_at_call 8; refine (law_shown _).mono ?_; rintro e wS ⟨rfl, hbS⟩)
    go_ret
    exact ⟨rfl, bt Hb1.out hbS⟩
end Go.Proofs.Ytmjpcakikflcfaa
