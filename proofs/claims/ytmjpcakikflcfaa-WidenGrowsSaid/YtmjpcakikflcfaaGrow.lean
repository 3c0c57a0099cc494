/- The law WidenGrows answers true for every input, and writes nothing that was there. -/
import Derived.Test.YtmjpcakikflcfaaWid8
import Derived.Test.YtmjpcakikflcfaaFrame
import Derived.Test.YtmjpcakikflcfaaBox
import Derived.Test.YtmjpcakikflcfaaGrowP
import Derived.Deep.DeepCutAuto
namespace Go.Proofs.Ytmjpcakikflcfaa
open Go.RowKit
set_option linter.unusedVariables false

theorem beyond_no' {lens : List Nat} {L : Nat} (h : beyondF lens L = false) : L ≤ 200 ∧ ∀ l ∈ lens, l ≤ 50 := by
  unfold beyondF at h
  rw [Bool.or_eq_false_iff, List.any_eq_false] at h
  exact ⟨by have := h.2; simp at this; omega, fun l hl => by have := h.1 l hl; simp at this; omega⟩

theorem below_copy {w w' : World} {o : Obj} (h : (w.alloc o).grownBy w' (some w.heap.size)) : Below w.heap.size w w' :=
  ((Below.refl _ w).alloc (Nat.le_refl _) o).grown h (by simp) (fun k hk => by cases hk; exact Nat.le_refl _)
set_option maxRecDepth 100000 in
set_option maxHeartbeats 4000000 in
theorem law_widen_grows (n : Int) (v kv lv : Value) (xs k less : List Int) (w : World) (hv : RL w.heap.size w v xs) (hk : RL w.heap.size w kv k) (hl : RL w.heap.size w lv less) :
    Calls Try.prog 4 #[.agg #[.int .i64 n, v], kv, lv] w fun e w' => e = .returned (.bool true) ∧ Below w.heap.size w w' := by
  obtain ⟨ao, cap, rfl, hle, _⟩ := hv.open
  obtain ⟨aok, capk, rfl, hlek, _⟩ := hk.open
  obtain ⟨aol, capl, rfl, hlel, _⟩ := hl.open
  have hloc0 := Loc.two w (.cells #[.int .i64 n, .slice ao xs.length cap] 24) (.cells #[.slice aok k.length capk, .slice aol less.length capl] 25) none
  have hg0 := below_grownBy hloc0.grown
  have Hv := Lib.hid (hv.keepb hg0)
  have Hk := Lib.hid (hk.keepb hg0)
  have Hl := Lib.hid (hl.keepb hg0)
  clear hv hl hk hg0
  cases hb : beyondF [k.length, less.length] xs.length
  · obtain ⟨hx200, h50⟩ := beyond_no' hb
    have hk50 : k.length ≤ 50 := h50 _ (by simp)
    have hl50 : less.length ≤ 50 := h50 _ (by simp)
    clear h50
    by_cases hok : OkZ n xs ∧ cstF n k = true ∧ cstF n k = true
    · obtain ⟨N, rfl⟩ : ∃ N : Nat, n = N := ⟨n.toNat, by have := hok.1.lo; omega⟩
      obtain ⟨A, hA, hAl, hT, hLe, hB⟩ := grow_plain hok
      have Hok := Lib.hid hok
      have HA := Lib.hid hA
      have HT := Lib.hid hT
      have HLe := Lib.hid hLe
      have HB := Lib.hid hB
      have HAl := Lib.hid hAl
      clear hok hA hT hLe hB hAl
      go_enter Try.func4, Try.ntmps4
      go_wp2_with fail
      refine (law_beyond N _ xs (w.heap.size + 1) 2 [k.length, less.length] _ Hv.out (by simp) (by simp) (fun q hq => by
        match q, hq with
        | 0, _ => exact ⟨aok, capk, hloc0.cell 1 rfl 0, hlek⟩
        | 1, _ => exact ⟨aol, capl, hloc0.cell 1 rfl 1, hlel⟩)).mono ?_
      rw [hb]
      rintro e w1 ⟨rfl, hb1⟩
      have hloc1 := hloc0.next (grownBy_below hb1 none) (fun _ h => by cases h)
      have Hv1 := Lib.hid (Hv.out.keepb hb1)
      have Hk1 := Lib.hid (Hk.out.keepb hb1)
      have Hl1 := Lib.hid (Hl.out.keepb hb1)
      have HzB := Lib.hid (show BoxZ w.heap.size N xs w1 from ⟨_, _, hloc1.cell 0 rfl 0, hloc1.cell 0 rfl 1, Hv1.out⟩)
      have Hb1 := Lib.hid (below_grownBy hloc1.grown)
      have z0 : w1.cell? ⟨w.heap.size, 0, none⟩ = some (.int .i64 N) := hloc1.cell 0 rfl 0
      have z1 : w1.cell? ⟨w.heap.size, 1, none⟩ = some (.slice ao xs.length cap) := hloc1.cell 0 rfl 1
      clear hb1 hloc0 hloc1 hb
      go_upto_region 6 with (go_at_call 11; (refine (prog_greatest N _ _ xs k _ Hv1.out Hk1.out).mono ?_); rw [HA.out]; rintro e w2 ⟨⟨v2, rfl, ho2⟩, hb2⟩; (obtain ⟨ao2, c2, rfl⟩ := owns_form ho2))
      have b3 := bal hb2 (.cells #[.int .i64 (zdim (0, A) N), .slice ao2 A.length c2] 24)
      have Hza := Lib.hid (BoxZ.atAlloc (n := zdim (0, A) N) (OL.rl ho2) 24)
      have Hzz := Lib.hid (HzB.out.keep b3)
      have Hk3 := Lib.hid (Hk1.out.keepb b3)
      have Hl3 := Lib.hid (Hl1.out.keepb b3)
      have Hb3 := Lib.hid (bt Hb1.out b3)
      clear hb2 ho2 b3 z0 z1
      generalize hW3 : w2.alloc (.cells #[.int .i64 (zdim (0, A) N), .slice ao2 A.length c2] 24) = w3 at *
      go_upto_region 8 with (at_builtin; (first
        | (refine wpList_append_copy rfl (.tmp 44) (.tmp 45) 25 rfl 2 Try.undInts Try.infoInt64 w3.heap.size rfl ?_ _ rfl k ?_ (by omega) ?_; (exact heap_alloc_new w3 _); (exact (Hk3.out.keepb ((Below.refl _ _).alloc (Nat.le_refl _) _))); intro ao4 c4 w4 ho4 hg4; (have b4 := below_copy hg4))
        | (refine wpList_append_copy rfl (.tmp 47) (.tmp 48) 25 rfl 2 Try.undInts Try.infoInt64 w4.heap.size rfl ?_ _ rfl k ?_ (by omega) ?_; (exact heap_alloc_new w4 _); (exact ((Hk3.out.keepb b4).keepb ((Below.refl _ _).alloc (Nat.le_refl _) _))); intro ao5 c5 w5 ho5 hg5; (have b5 := below_copy hg5))))
      have Ho4 := Lib.hid ho4
      have Ho5 := Lib.hid ho5
      have ho4' := OL.keepb ho4 b5
      have hb35 := bt b4 b5
      have hs4 : w3.heap.size ≤ w4.heap.size := b4.size
      clear hg4 hg5 b4 b5 ho4
      go_wp2_with fail
      go_loopw [11, 12] (fun i _ wr => ∃ q : Nat, q ≤ less.length ∧ q ≤ k.length ∧ i = .int .i64 q ∧ ∃ l h, Gr k l ∧ Gr k h ∧ OL 2 w3.heap.size wr (.slice ao4 k.length c4) l ∧ OL 2 w4.heap.size wr (.slice ao5 k.length c5) h ∧ Below w3.heap.size w3 wr) (fun i _ _ => less.length - (intOf i).toNat)
      case atStart => exact ⟨0, by omega, by omega, rfl, k, k, Gr.start Hok.out.2.1, Gr.start Hok.out.2.1, ho4', ho5, hb35⟩
      case round =>
        clear ho4' ho5 hb35
        obtain ⟨q, hq1, hq2, rfl, l, h, hgl, hgh, hown4, hown5, hb35⟩ := hrel
        have Hgl := Lib.hid hgl
        have Hgh := Lib.hid hgh
        clear hgl hgh
        by_cases hlt : q < less.length ∧ q < k.length
        · obtain ⟨hlt1, hlt2⟩ := hlt
          have hrl := Hl3.out.keepb hb35
          obtain ⟨g4, cap4, e4, hg4, hlt4, _, _⟩ := Ho4.out.open (by omega)
          simp only [Value.slice.injEq, true_and] at e4
          obtain ⟨rfl, rfl⟩ := e4
          obtain ⟨g5, cap5, e5, hg5, hlt5, _, _⟩ := Ho5.out.open (by omega)
          simp only [Value.slice.injEq, true_and] at e5
          obtain ⟨rfl, rfl⟩ := e5
          obtain ⟨x4, f4⟩ := ol_cell hown4 (k := q) (by rw [Hgl.out.len]; exact hlt2)
          obtain ⟨x5, f5⟩ := ol_cell hown5 (k := q) (by rw [Hgh.out.len]; exact hlt2)
          have hne : ¬ g4 = g5 := by omega
          have hne' : ¬ g5 = g4 := by omega
          obtain ⟨aol', capl', e6, _, h6⟩ := hrl.open
          simp only [Value.slice.injEq, true_and] at e6
          obtain ⟨rfl, rfl⟩ := e6
          obtain ⟨bl, ofl, rfl, _, hcl⟩ := h6 (by omega)
          have x6 := hcl q hlt1
          clear hcl h6 hrl
          have l1 := Hgl.out.lo q hlt2
          have l2 := Hgl.out.le q hlt2
          have l3 := Hgh.out.lo q hlt2
          have l4 := Hgh.out.le q hlt2
          have l5 := (cst_gi Hok.out.2.1 hlt2).2
          obtain ⟨r1, r2⟩ := tmod8 (gi less q)
          generalize hr : (gi less q).tmod 8 = r at r1 r2
          have hmx := imax_fold
          by_cases hr0 : r < 0
          · obtain ⟨s, rfl⟩ : ∃ s, r = -s := ⟨-r, by omega⟩
            have s1 : 0 < s := by omega
            have s2 : s ≤ 7 := by omega
            clear hr0 r1 r2
            have Hs4 := Lib.hid (Hgl.out.step hlt2 (c := s / 2) (by omega))
            have Hs5 := Lib.hid (Hgh.out.step hlt2 (c := s % 3) (by omega))
            go_wp2_with fail
            go_roundw
            case rel => exact ⟨q + 1, by omega, by omega, by go_num, _, _, Hs4.out, Hs5.out, ownsRow_other (OL.stored hown4 Hgl.out.len.symm q _).1 (by intro e; exact hne (Option.some.inj e)), (OL.stored (ownsRow_other hown5 (by intro e; exact hne' (Option.some.inj e))) Hgh.out.len.symm q _).1, (hb35.setCell (by simp; omega) _).setCell (by simp; omega) _⟩
            case measure => simp [intOf]; omega
          · have Hs4 := Lib.hid (Hgl.out.step hlt2 (c := r / 2) (by omega))
            have Hs5 := Lib.hid (Hgh.out.step hlt2 (c := r % 3) (by omega))
            go_wp2_with fail
            go_roundw
            case rel => exact ⟨q + 1, by omega, by omega, by go_num, _, _, Hs4.out, Hs5.out, ownsRow_other (OL.stored hown4 Hgl.out.len.symm q _).1 (by intro e; exact hne (Option.some.inj e)), (OL.stored (ownsRow_other hown5 (by intro e; exact hne' (Option.some.inj e))) Hgh.out.len.symm q _).1, (hb35.setCell (by simp; omega) _).setCell (by simp; omega) _⟩
            case measure => simp [intOf]; omega
        · obtain ⟨B, hBB, hTB, hLB⟩ := HB.out l h Hgl.out Hgh.out
          have HBB := Lib.hid hBB
          have HTB := Lib.hid hTB
          have HLB := Lib.hid hLB
          have Hzz5 := Lib.hid (Hzz.out.keep hb35)
          have Hza5 := Lib.hid (Hza.out.keep hb35)
          have H35 := Lib.hid (bt Hb3.out hb35)
          have Hl5 := Lib.hid (OL.rl hown4)
          have Hh5 := Lib.hid (OL.rl hown5)
          have Hll := Lib.hid Hgl.out.len
          have Hlh := Lib.hid Hgh.out.len
          obtain ⟨aoz, cz, z0, z1, hvz⟩ := Hzz5.out.ex
          have Hvz := Lib.hid hvz
          clear hBB hTB hLB hvz hown4 hown5 hb35
          by_cases hd : q < less.length
          · have hd2 : decide ((q : Int) < (k.length : Int)) = false := by simp; omega
            go_wp2_with fail
            refine (prog_bounds N _ _ _ xs l h _ Hvz.out Hl5.out Hh5.out).mono ?_
            rw [HBB.out]
            rintro e w6 ⟨⟨v6, rfl, ho6⟩, hb6⟩
            obtain ⟨ao6, c6, rfl⟩ := owns_form ho6
            have b7 := bal hb6 (.cells #[.int .i64 (zdim (0, B) N), .slice ao6 B.length c6] 24)
            have Hzb7 := Lib.hid (BoxZ.atAlloc (n := zdim (0, B) N) (OL.rl ho6) 24)
            have hza7 := Hza5.out.keep b7
            have hzz7 := Hzz5.out.keep b7
            have H7 := Lib.hid (bt H35.out b7)
            clear hb6 ho6 b7 z0 z1
            obtain ⟨aoa, ca, a0, a1, hva⟩ := hza7.ex
            obtain ⟨aoz', cz', z0, z1, hvz⟩ := hzz7.ex
            have Hva := Lib.hid hva
            have Hvz7 := Lib.hid hvz
            have Hza7 := Lib.hid hza7
            clear hva hvz hza7 hzz7
            go_upto_region 17 with fail
            generalize hW7 : w6.alloc (.cells #[.int .i64 (zdim (0, B) N), .slice ao6 B.length c6] 24) = w7 at *
            go_wp2_with fail
            refine (ref_includes N N _ _ A xs _ Hva.out Hvz7.out).mono ?_
            rw [incF_yes HT.out HLe.out]
            rintro e w8 ⟨rfl, hb8⟩
            have hzb8 := Hzb7.out.keep hb8
            have hza8 := Hza7.out.keep hb8
            have H8 := Lib.hid (bt H7.out hb8)
            clear hb8 a0 a1 z0 z1
            obtain ⟨aob, cb, b0, b1, hvb⟩ := hzb8.ex
            obtain ⟨aoa', ca', a0, a1, hva⟩ := hza8.ex
            have Hvb := Lib.hid hvb
            have Hva8 := Lib.hid hva
            clear hvb hva hzb8 hza8
            go_wp2_with fail
            refine (ref_includes N N _ _ B A _ Hvb.out Hva8.out).mono ?_
            rw [incF_yes HTB.out HLB.out]
            rintro e w9 ⟨rfl, hb9⟩
            have H9 := Lib.hid (bt H8.out hb9)
            clear hb9 a0 a1 b0 b1
            go_wp2_with (go_at_call 8; refine (law_shown _).mono ?_; rintro e w10 ⟨rfl, hb10⟩)
            go_ret
            exact ⟨rfl, bt H9.out hb10⟩
          · have hd2 : decide ((q : Int) < (less.length : Int)) = false := by simp; omega
            go_wp2_with fail
            refine (prog_bounds N _ _ _ xs l h _ Hvz.out Hl5.out Hh5.out).mono ?_
            rw [HBB.out]
            rintro e w6 ⟨⟨v6, rfl, ho6⟩, hb6⟩
            obtain ⟨ao6, c6, rfl⟩ := owns_form ho6
            have b7 := bal hb6 (.cells #[.int .i64 (zdim (0, B) N), .slice ao6 B.length c6] 24)
            have Hzb7 := Lib.hid (BoxZ.atAlloc (n := zdim (0, B) N) (OL.rl ho6) 24)
            have hza7 := Hza5.out.keep b7
            have hzz7 := Hzz5.out.keep b7
            have H7 := Lib.hid (bt H35.out b7)
            clear hb6 ho6 b7 z0 z1
            obtain ⟨aoa, ca, a0, a1, hva⟩ := hza7.ex
            obtain ⟨aoz', cz', z0, z1, hvz⟩ := hzz7.ex
            have Hva := Lib.hid hva
            have Hvz7 := Lib.hid hvz
            have Hza7 := Lib.hid hza7
            clear hva hvz hza7 hzz7
            go_upto_region 17 with fail
            generalize hW7 : w6.alloc (.cells #[.int .i64 (zdim (0, B) N), .slice ao6 B.length c6] 24) = w7 at *
            go_wp2_with fail
            refine (ref_includes N N _ _ A xs _ Hva.out Hvz7.out).mono ?_
            rw [incF_yes HT.out HLe.out]
            rintro e w8 ⟨rfl, hb8⟩
            have hzb8 := Hzb7.out.keep hb8
            have hza8 := Hza7.out.keep hb8
            have H8 := Lib.hid (bt H7.out hb8)
            clear hb8 a0 a1 z0 z1
            obtain ⟨aob, cb, b0, b1, hvb⟩ := hzb8.ex
            obtain ⟨aoa', ca', a0, a1, hva⟩ := hza8.ex
            have Hvb := Lib.hid hvb
            have Hva8 := Lib.hid hva
            clear hvb hva hzb8 hza8
            go_wp2_with fail
            refine (ref_includes N N _ _ B A _ Hvb.out Hva8.out).mono ?_
            rw [incF_yes HTB.out HLB.out]
            rintro e w9 ⟨rfl, hb9⟩
            have H9 := Lib.hid (bt H8.out hb9)
            clear hb9 a0 a1 b0 b1
            go_wp2_with (go_at_call 8; refine (law_shown _).mono ?_; rintro e w10 ⟨rfl, hb10⟩)
            go_ret
            exact ⟨rfl, bt H9.out hb10⟩
    · have HW := Lib.hid (widB_no hok)
      clear hok
      go_enter Try.func4, Try.ntmps4
      go_wp2_with fail
      refine (law_beyond n _ xs (w.heap.size + 1) 2 [k.length, less.length] _ Hv.out (by simp) (by simp) (fun q hq => by
        match q, hq with
        | 0, _ => exact ⟨aok, capk, hloc0.cell 1 rfl 0, hlek⟩
        | 1, _ => exact ⟨aol, capl, hloc0.cell 1 rfl 1, hlel⟩)).mono ?_
      rw [hb]
      rintro e w1 ⟨rfl, hb1⟩
      have hloc1 := hloc0.next (grownBy_below hb1 none) (fun _ h => by cases h)
      have Hv1 := Lib.hid (Hv.out.keepb hb1)
      have Hk1 := Lib.hid (Hk.out.keepb hb1)
      have Hb1 := Lib.hid (below_grownBy hloc1.grown)
      have z0 : w1.cell? ⟨w.heap.size, 0, none⟩ = some (.int .i64 n) := hloc1.cell 0 rfl 0
      have z1 : w1.cell? ⟨w.heap.size, 1, none⟩ = some (.slice ao xs.length cap) := hloc1.cell 0 rfl 1
      clear hb1 hloc0 hloc1 hb
      go_upto_region 4 with (go_at_call 11; (refine (prog_greatest n _ _ xs k _ Hv1.out Hk1.out).mono ?_); rw [HW.out]; rintro e w2 ⟨⟨v2, rfl, ho2⟩, hb2⟩; (obtain ⟨ao2, c2, rfl⟩ := owns_form ho2))
      have Hb3 := Lib.hid (bt Hb1.out (bal hb2 (.cells #[.int .i64 (zdim (2, []) n), .slice ao2 ([] : List Int).length c2] 24)))
      have Hza := Lib.hid (BoxZ.atAlloc (n := zdim (2, []) n) (OL.rl ho2) 24)
      clear hb2 ho2 z0 z1
      go_wp2_with (go_at_call 8; refine (law_shown _).mono ?_; rintro e w10 ⟨rfl, hb10⟩)
      go_ret
      exact ⟨rfl, bt Hb3.out hb10⟩
  · go_enter Try.func4, Try.ntmps4
    go_wp2_with fail
    refine (law_beyond n _ xs (w.heap.size + 1) 2 [k.length, less.length] _ Hv.out (by simp) (by simp) (fun q hq => by
      match q, hq with
      | 0, _ => exact ⟨aok, capk, hloc0.cell 1 rfl 0, hlek⟩
      | 1, _ => exact ⟨aol, capl, hloc0.cell 1 rfl 1, hlel⟩)).mono ?_
    rw [hb]
    rintro e w1 ⟨rfl, hb1⟩
    have hg := Lib.hid (bt (below_grownBy hloc0.grown) hb1)
    clear hb1 hloc0 hb
    go_wp2_with (go_at_call 8; refine (law_shown _).mono ?_; rintro e w2 ⟨rfl, hb2⟩)
    go_ret
    exact ⟨rfl, bt hg.out hb2⟩
end Go.Proofs.Ytmjpcakikflcfaa
