/- The law MinimalBack answers true for every input, and writes nothing that was there. -/
import Derived.Test.YtkgaipcgdldfdaaBackS
import Derived.Test.YtkgaipcgdldfdaaMrd
import Derived.Test.YtkgaipcgdldfdaaMsh
import Derived.Test.YtkgaipcgdldfdaaInc
import Derived.Test.YtkgaipcgdldfdaaFrame
import Derived.Test.YtkgaipcgdldfdaaFrame2
import Derived.Test.YtkgaipcgdldfdaaBox
import Derived.Deep.DeepCutAuto
import Derived.Deep.RegionHeld3
namespace Go.Proofs.Ytkgaipcgdldfdaa
open Go.RowKit
set_option linter.unusedVariables false

theorem rk_nil2 (B : Nat) (w : World) : RK B w (.slice none 0 0) [] := .inl ⟨rfl, rfl, rfl⟩
theorem rem_spec {k : Int} {M : Nat} (hM : 0 < M) : ∃ r : Nat, r < M ∧ ((k.tmod M) + M).tmod M = (r : Int) ∧ -(M : Int) < k.tmod M ∧ k.tmod M < M := by
  have h1 : -(M : Int) < k.tmod M := by
    have := Int.lt_tmod_of_pos k (show (0 : Int) < M by omega)
    omega
  have h2 : k.tmod M < M := Int.tmod_lt_of_pos k (by omega)
  have h3 : 0 ≤ ((k.tmod M) + M).tmod M := Int.tmod_nonneg _ (by omega)
  have h4 : ((k.tmod M) + M).tmod M < M := Int.tmod_lt_of_pos _ (by omega)
  exact ⟨(((k.tmod M) + M).tmod M).toNat, by omega, by omega, h1, h2⟩

theorem slice_from (W : World) (b off M c r : Nat) (h : r + 1 ≤ M) (hc : M ≤ c) :
    (Instr.slice 26 (.slice (some ⟨b, off, none⟩) M c) (some (.int .i64 ((r : Int) + 1))) none none).run Try.prog W = .ok (.slice (if c = r + 1 then some ⟨b, off, none⟩ else some ⟨b, off + (r + 1) * 3, none⟩) (M - (r + 1)) (c - (r + 1))) W := by
  have hu : Try.prog.underlying 26 = some (.slice (Try.prog.elem 26)) := by kernel_rfl
  have he : Try.prog.elem 26 = 62 := by kernel_rfl
  obtain ⟨i0, hi, hz0, hz1, hz2⟩ := info_parts Try.infoK
  rw [run_slice_l W 26 (some ⟨b, off, none⟩) M c hu .i64 ((r : Int) + 1) (by omega) (by omega), he]
  have hsz : (sizeOf 62).run Try.prog W = .ok 3 W := by simp [sizeOf, typeInfo, hi, hz1]
  rw [hsz, Result.andThen_ok]
  have e : ((r : Int) + 1).toNat = r + 1 := by omega
  rw [e]
  unfold sliced
  by_cases c1 : c = r + 1
  · subst c1; simp
  · have ha : (⟨b, off, none⟩ : Addr).add ((r + 1) * 3) = ⟨b, off + (r + 1) * 3, none⟩ := add_at _
    simp [c1, ha]

theorem rs_take {B : Nat} {w : World} {b off c r : Nat} {L : List (Int × Int × Int)} (h : RK B w (.slice (some ⟨b, off, none⟩) L.length c) L) (hr : r ≤ L.length) : RS B w (.slice (some ⟨b, off, none⟩) r c) r ((L.take r).flatMap cells3) := by
  rcases h with ⟨e, _⟩ | ⟨b', off', sp, cp, e, h1, h2, h3, h4⟩
  · cases e
  · simp only [Value.slice.injEq, Option.some.injEq, Addr.mk.injEq, true_and] at e
    obtain ⟨⟨rfl, rfl, rfl⟩, rfl⟩ := e
    refine .inr ⟨b, off, none, c, rfl, by omega, h2, fun h0 => by subst h0; rfl, fun hp => ?_⟩
    obtain ⟨_, q, rr⟩ := h4 (by omega)
    refine ⟨rfl, q, fun k hk => ?_⟩
    have e1 : L.flatMap cells3 = (L.take r).flatMap cells3 ++ (L.drop r).flatMap cells3 := by rw [← List.flatMap_append, List.take_append_drop]
    rw [rr k (by rw [e1, List.length_append]; omega), e1, List.getElem?_append_left hk]
theorem rs_drop {B : Nat} {w : World} {b off c s : Nat} {L : List (Int × Int × Int)} (h : RK B w (.slice (some ⟨b, off, none⟩) L.length c) L) (hs : s ≤ L.length) : RS B w (.slice (if c = s then some ⟨b, off, none⟩ else some ⟨b, off + s * 3, none⟩) (L.length - s) (c - s)) (L.length - s) ((L.drop s).flatMap cells3) := by
  rcases h with ⟨e, _⟩ | ⟨b', off', sp, cp, e, h1, h2, h3, h4⟩
  · cases e
  · simp only [Value.slice.injEq, Option.some.injEq, Addr.mk.injEq, true_and] at e
    obtain ⟨⟨rfl, rfl, rfl⟩, rfl⟩ := e
    by_cases c1 : c = s
    · rw [if_pos c1]
      refine .inr ⟨b, off, none, _, rfl, by omega, by omega, fun h0 => by rw [List.drop_eq_nil_of_le (by omega)]; rfl, fun hp => by omega⟩
    · rw [if_neg c1]
      refine .inr ⟨b, off + s * 3, none, _, rfl, by omega, by omega, fun h0 => by rw [List.drop_eq_nil_of_le (by omega)]; rfl, fun hp => ?_⟩
      obtain ⟨_, q, rr⟩ := h4 (by omega)
      refine ⟨rfl, q, fun k hk => ?_⟩
      have e1 : L.flatMap cells3 = (L.take s).flatMap cells3 ++ (L.drop s).flatMap cells3 := by rw [← List.flatMap_append, List.take_append_drop]
      have e2 : ((L.take s).flatMap cells3).length = s * 3 := by rw [flat3_len, List.length_take, Nat.min_eq_left hs]
      rw [Nat.add_assoc, rr (s * 3 + k) (by rw [e1, List.length_append, e2]; omega), e1, List.getElem?_append_right (by omega), e2, Nat.add_sub_cancel_left]

set_option maxRecDepth 100000 in
set_option maxHeartbeats 4000000 in
theorem law_min_back (n k : Int) (v : Value) (xs : List Int) (w : World) (hv : RL w.heap.size w v xs) (hk : (Lit.int .i64 k).wf = true) :
    Calls Try.prog 5 #[.agg #[.int .i64 n, v], .int .i64 k] w fun e w' => e = .returned (.bool true) ∧ Below w.heap.size w w' := by
  obtain ⟨ao, cap, rfl, hle, _⟩ := hv.open
  have hloc0 := Loc.one w (.cells #[.int .i64 n, .slice ao xs.length cap] 24) none
  have Hv := Lib.hid (hv.keepb (below_grownBy hloc0.grown))
  have Hb0 := Lib.hid (below_grownBy hloc0.grown)
  clear hv
  by_cases hb : 200 < xs.length
  · have htb : decide ((200 : Int) < (xs.length : Int)) = true := by simp; omega
    go_enter Try.func5, Try.ntmps5
    go_wp2_with fail
    refine (law_shown04 _).mono ?_
    rintro e w1 ⟨rfl, hb1⟩
    go_wp2_with fail
    go_ret
    exact ⟨rfl, bt Hb0.out hb1⟩
  have htb : decide ((200 : Int) < (xs.length : Int)) = false := by simp; omega
  have HzB := Lib.hid (show BoxZ w.heap.size n xs (w.alloc (.cells #[.int .i64 n, .slice ao xs.length cap] 24)) from ⟨_, _, hloc0.cell 0 rfl 0, hloc0.cell 0 rfl 1, Hv.out⟩)
  clear hloc0
  go_enter Try.func5, Try.ntmps5
  go_wp2_with fail
  generalize w.alloc (.cells #[.int .i64 n, .slice ao xs.length cap] 24) = w1 at *
  by_cases hok : OkZ n xs
  rotate_left
  · refine (prog_reduce_bad n _ xs _ Hv.out hok).mono ?_
    rintro e w2 ⟨rfl, hb2⟩
    have Hb2 := Lib.hid (bt Hb0.out hb2)
    go_wp2_with fail
    refine (law_shown04 _).mono ?_
    rintro e w3 ⟨rfl, hb3⟩
    go_wp2_with fail
    go_ret
    exact ⟨rfl, bt Hb2.out hb3⟩
  obtain ⟨N, rfl⟩ := Int.eq_ofNat_of_zero_le hok.lo
  have hN : N ≤ 10 := by have := hok.hi; omega
  have HA := Lib.hid (build_all hok)
  have HL := Lib.hid (fun k cs hk hcs => build_less (k := k) (cs := cs) hok hk hcs)
  have Hok := Lib.hid hok
  have hM : (redTo N xs (kpB N xs) (N + 1)).length ≤ 121 := by
    have := redTo_len N xs (kpB N xs) (N + 1)
    have : (N + 1) * (N + 1) ≤ 11 * 11 := Nat.mul_le_mul (by omega) (by omega)
    omega
  refine (prog_reduce N _ xs _ Hv.out hok).mono ?_
  rw [red_eq hok (N + 1) (Nat.le_refl _)]
  generalize redTo N xs (kpB N xs) (N + 1) = L at HA HL hM
  clear hok
  rintro e w2 ⟨⟨v2, rfl, ho2⟩, hb2⟩
  obtain ⟨ao2, c2, rfl⟩ := owns_form ho2
  obtain ⟨aoz, cz, z0, z1, rz⟩ := (HzB.out.keep hb2).ex
  have Hz2 := Lib.hid (HzB.out.keep hb2)
  have Hl2 := Lib.hid (OK3.rk ho2)
  have Hb2 := Lib.hid (bt Hb0.out hb2)
  clear ho2 hb2 rz HzB Hv Hb0
  go_wp2_with fail
  refine (prog_build N _ L _ Hl2.out).mono ?_
  rw [HA.out]
  have hzd : zdim (0, xs) N = N := rfl
  rintro e w3 ⟨⟨v3, rfl, ho3⟩, hb3⟩
  rw [hzd]
  obtain ⟨ao3, c3, rfl⟩ := owns_form ho3
  have b3 := bal hb3 (.cells #[.int .i64 N, .slice ao3 xs.length c3] 24)
  obtain ⟨aoy, cy, y0, y1, ry⟩ := (BoxZ.atAlloc (n := (N : Int)) (OL.rl ho3) 24).ex
  obtain ⟨aoz, cz, z0, z1, rz⟩ := (Hz2.out.keep b3).ex
  have Hz3 := Lib.hid (Hz2.out.keep b3)
  have Hry := Lib.hid ry
  have Hrz := Lib.hid rz
  have Hl3 := Lib.hid (Hl2.out.keepb b3)
  have Hb3 := Lib.hid (bt Hb2.out b3)
  clear ho3 hb3 b3 ry rz Hz2 Hl2 Hb2 hzd
  go_wp2_with fail
  generalize w3.alloc (.cells #[.int .i64 N, .slice ao3 xs.length c3] 24) = W3 at *
  refine (ref_same N N _ _ xs xs _ Hry.out Hrz.out).mono ?_
  rw [sameB_refl]
  rintro e w4 ⟨rfl, hb4⟩
  have Hz4 := Lib.hid (Hz3.out.keep hb4)
  have Hl4 := Lib.hid (Hl3.out.keepb hb4)
  have Hb4 := Lib.hid (bt Hb3.out hb4)
  clear y0 y1 z0 z1 hb4 Hry Hrz Hz3 Hl3 Hb3
  by_cases h0 : L.length = 0
  · have ht0 : ((L.length : Int) == 0) = true := by rw [beq_iff_eq]; omega
    go_wp2_with fail
    refine (law_shown04 _).mono ?_
    rintro e w5 ⟨rfl, hb5⟩
    go_wp2_with fail
    go_ret
    exact ⟨rfl, bt Hb4.out hb5⟩
  have ht0 : ((L.length : Int) == 0) = false := by rw [beq_eq_false_iff_ne]; omega
  obtain ⟨r, hr, hrem, hm1, hm2⟩ := rem_spec (k := k) (show 0 < L.length by omega)
  have hadd : IntKind.i64.wrap (k.tmod (L.length : Int) + (L.length : Int)) = k.tmod (L.length : Int) + (L.length : Int) := IntWalk.i64_in _ (by omega)
  go_wp2_with fail
  obtain ⟨i0, hi, hz0, hz1, hz2⟩ := info_parts Try.infoK
  have Hi := Lib.hid hi
  have Hz0 := Lib.hid hz0
  have Hz1 := Lib.hid hz1
  have Hz2 := Lib.hid hz2
  clear hi hz0 hz1 hz2
  obtain ⟨b, off, eao, hbb, hc2, hc3⟩ : ∃ b off, ao2 = some ⟨b, off, none⟩ ∧ b < w4.heap.size ∧ L.length ≤ c2 ∧ c2 ≤ maxLen := by
    rcases Hl4.out with ⟨_, e, _⟩ | ⟨b, off, sp, cp, e, g1, g2, g3, g4⟩
    · exact absurd e h0
    · simp only [Value.slice.injEq, true_and] at e
      obtain ⟨rfl, rfl⟩ := e
      obtain ⟨rfl, q, _⟩ := g4 (by omega)
      exact ⟨b, off, rfl, q, g1, g2⟩
  subst eao
  unfold maxLen at hc3
  have j0 : (0 : Int) ≤ (r : Int) + 1 := by omega
  have hwr : IntKind.i64.wrap ((r : Int) + 1) = (r : Int) + 1 := IntWalk.i64_in _ (by omega)
  have j1 : (0 : Int) ≤ (r : Int) := by omega
  have j2 : (r : Int) ≤ (L.length : Int) := by omega
  have j3 : (r : Int) < (L.length : Int) := by omega
  have j4 : (r : Int) + 1 ≤ (L.length : Int) := by omega
  have j5 : (L.length : Int) ≤ (c2 : Int) := by omega
  have j6 : (r : Int) ≤ (c2 : Int) := by omega
  have hsl : ∀ W : World, (Instr.slice 26 (.slice (some ⟨b, off, none⟩) L.length c2) (some (.int .i64 ((r : Int) + 1))) none none).run Try.prog W = .ok (.slice (if c2 = r + 1 then some ⟨b, off, none⟩ else some ⟨b, off + (r + 1) * 3, none⟩) (L.length - (r + 1)) (c2 - (r + 1))) W := fun W => slice_from W b off L.length c2 r (by omega) hc2
  have hsa : ∀ W : World, (Instr.sliceAt 26 (.slice (some ⟨b, off, none⟩) L.length c2) (some (.int .i64 ((r : Int) + 1))) none none).run Try.prog W = .ok (.slice (if c2 = r + 1 then some ⟨b, off, none⟩ else some ⟨b, off + (r + 1) * 3, none⟩) (L.length - (r + 1)) (c2 - (r + 1))) W := fun W => (run_sliceAt_slice W _ _ _ _ _ (by kernel_rfl)).trans (hsl W)
  generalize hP : (if c2 = r + 1 then some (⟨b, off, none⟩ : Addr) else some ⟨b, off + (r + 1) * 3, none⟩) = P9 at hsa hsl
  have B5 : Below w4.heap.size w4 (w4.drew.alloc (.cells #[] 62)) := ((Below.refl _ _).drew).alloc (Nat.le_refl _) _
  have Ho : Hid ((w4.drew.alloc (.cells #[] 62)).ownsRow w4.heap.size 62 3 (.slice (some ⟨w4.heap.size, 0, none⟩) 0 0) 0 []) := Lib.hid (owns_empty (heap_alloc_new w4.drew _) (Nat.le_refl _))
  have Ht := Lib.hid (RS.keep (rs_take (r := r) Hl4.out (by omega)) B5)
  have Hd := Lib.hid (show RS w4.heap.size (w4.drew.alloc (.cells #[] 62)) (.slice P9 (L.length - (r + 1)) (c2 - (r + 1))) (L.length - (r + 1)) ((L.drop (r + 1)).flatMap cells3) by rw [← hP]; exact RS.keep (rs_drop (s := r + 1) Hl4.out (by omega)) B5)
  clear hP hsl
  have Hsz := Lib.hid (show w4.heap.size ≤ (w4.drew.alloc (.cells #[] 62)).heap.size from B5.size)
  have HlT := Lib.hid (show ((L.take r).flatMap cells3).length = r * 3 by rw [flat3_len, List.length_take, Nat.min_eq_left (by omega)])
  have HlD := Lib.hid (show ((L.drop (r + 1)).flatMap cells3).length = (L.length - (r + 1)) * 3 by rw [flat3_len, List.length_drop])
  have H1T := Lib.hid (ints_one3 (L.take r))
  have H1D := Lib.hid (ints_one3 (L.drop (r + 1)))
  obtain ⟨XT, hXT⟩ : ∃ X, X = (L.take r).flatMap cells3 := ⟨_, rfl⟩
  obtain ⟨XD, hXD⟩ : ∃ X, X = (L.drop (r + 1)).flatMap cells3 := ⟨_, rfl⟩
  rw [← hXT] at Ht HlT H1T
  rw [← hXD] at Hd HlD H1D
  have HXT := Lib.hid hXT
  have HXD := Lib.hid hXD
  have HB5 := Lib.hid B5
  clear hXT hXD B5
  go_region_held3 (fun _ => True) (trivial) (first
    | (refine step_append_rs (v := .slice (some ⟨w4.heap.size, 0, none⟩) 0 0) (n := 0) (xs := []) (xv := .slice (some ⟨b, off, none⟩) r c2) (m := r) (news := XT) ?_ (.tmp 65) (.tmp 68) 26 ?_ w4.heap.size 62 i0 (.agg #[.int .i64 0, .int .i64 0, .int .i64 0]) 3 24 Try.undKs Hi.out Hz0.out Hz1.out Hz2.out ?_ ?_ ?_ ?_ w4.heap.size ?_ ?_ ?_ ?_ ?_ ?_ ?_ ?_; rfl; rfl; rfl; decide; rfl; exact Ho.out; rfl; exact Ht.out; exact HlT.out; exact H1T.out; (unfold maxLen; omega); omega; exact Hsz.out; intro v5 w5 ho5 hg5; have b5 := (Below.refl w4.heap.size _).grown hg5 Hsz.out (fun k hk => by cases hk; exact Nat.le_refl _))
    | (refine step_append_rs (v := v5) (n := 0 + r) (xs := [] ++ XT) (xv := .slice P9 (L.length - (r + 1)) (c2 - (r + 1))) (m := L.length - (r + 1)) (news := XD) ?_ (.tmp 69) (.tmp 73) 26 ?_ w4.heap.size 62 i0 (.agg #[.int .i64 0, .int .i64 0, .int .i64 0]) 3 24 Try.undKs Hi.out Hz0.out Hz1.out Hz2.out ?_ ?_ ?_ ?_ w4.heap.size ?_ ?_ ?_ ?_ ?_ ?_ ?_ ?_; rfl; rfl; rfl; decide; rfl; exact ho5; rfl; exact RS.keep Hd.out b5; exact HlD.out; exact H1D.out; (unfold maxLen; omega); omega; exact Nat.le_trans Hsz.out b5.size; intro v6 w6 ho6 hg6))
  have hk6 := Lib.hid (show RK w6.heap.size w6 v6 (L.take r ++ L.drop (r + 1)) from OK3.rk (t := 62) (base := w4.heap.size) (by
    unfold OK3
    have e1 : (L.take r ++ L.drop (r + 1)).length = 0 + r + (L.length - (r + 1)) := by rw [List.length_append, List.length_take, List.length_drop, Nat.min_eq_left (by omega)]; omega
    have e2 : (L.take r ++ L.drop (r + 1)).flatMap cells3 = [] ++ XT ++ XD := by rw [List.flatMap_append, HXT.out, HXD.out, List.nil_append]
    rw [e1, e2]; exact ho6))
  have Hb46 := Lib.hid (show Below w4.heap.size w4 w6 from HB5.out.trans (b5.grown hg6 (Nat.le_trans Hsz.out b5.size) (fun k hk => (World.ownsRow.lt ho5 k hk).1)))
  obtain ⟨aoz, cz, z0, z1, rz⟩ := (Hz4.out.keep Hb46.out).ex
  have Hz6 := Lib.hid (Hz4.out.keep Hb46.out)
  have Hb6 := Lib.hid (bt Hb4.out Hb46.out)
  have HLs := Lib.hid (HL.out r _ hr rfl)
  clear ho5 ho6 hg5 hg6 b5 rz hsa
  generalize L.take r ++ L.drop (r + 1) = Ls at HLs hk6
  go_wp2_with fail
  refine (prog_build N _ Ls _ hk6.out).mono ?_
  rcases HLs.out with e7 | ⟨A, e0, hA, hle2, hne⟩
  · rw [e7]
    have hzd : zdim (7, []) N = 0 := rfl
    rintro e w7 ⟨⟨v7, rfl, ho7⟩, hb7⟩
    rw [hzd]
    obtain ⟨ao7, c7, rfl⟩ := owns_form ho7
    have Hb7 := Lib.hid (bt Hb6.out (bal hb7 (.cells #[.int .i64 0, .slice ao7 0 c7] 24)))
    clear ho7 hb7 z0 z1
    go_wp2_with fail
    refine (law_shown04 _).mono ?_
    rintro e w8 ⟨rfl, hb8⟩
    go_wp2_with fail
    go_ret
    exact ⟨rfl, bt Hb7.out hb8⟩
  · rw [e0]
    have hzd : zdim (0, A) N = N := rfl
    have hinc := Lib.hid (incF_yes (n := (N : Int)) (n2 := (N : Int)) ⟨hA, Hok.out, rfl⟩ hle2)
    have hsm : sameB N N A xs = false := by unfold sameB; simp [hne]
    clear hA hle2 hne
    rintro e w7 ⟨⟨v7, rfl, ho7⟩, hb7⟩
    rw [hzd]
    obtain ⟨ao7, c7, rfl⟩ := owns_form ho7
    have b7 := bal hb7 (.cells #[.int .i64 N, .slice ao7 A.length c7] 24)
    have Hx7 := Lib.hid (BoxZ.atAlloc (n := (N : Int)) (OL.rl ho7) 24)
    have Hz7 := Lib.hid (Hz6.out.keep b7)
    have Hb7 := Lib.hid (bt Hb6.out b7)
    obtain ⟨aox, cx, x0, x1, rx⟩ := Hx7.out.ex
    obtain ⟨aoz, cz, z0, z1, rz⟩ := Hz7.out.ex
    have Hrx := Lib.hid rx
    have Hrz := Lib.hid rz
    clear ho7 hb7 b7 rx rz
    go_wp2_with fail
    generalize w7.alloc (.cells #[.int .i64 N, .slice ao7 A.length c7] 24) = W7 at *
    refine (ref_includes N N _ _ A xs _ Hrx.out Hrz.out).mono ?_
    rw [hinc.out]
    rintro e w8 ⟨rfl, hb8⟩
    obtain ⟨aox, cx, x0, x1, rx⟩ := (Hx7.out.keep hb8).ex
    obtain ⟨aoz, cz, z0, z1, rz⟩ := (Hz7.out.keep hb8).ex
    have Hrx := Lib.hid rx
    have Hrz := Lib.hid rz
    have Hb8 := Lib.hid (bt Hb7.out hb8)
    clear hb8 rx rz Hx7 Hz7 Hb7
    go_wp2_with fail
    refine (ref_same N N _ _ A xs _ Hrx.out Hrz.out).mono ?_
    rw [hsm]
    rintro e w9 ⟨rfl, hb9⟩
    have Hb9 := Lib.hid (bt Hb8.out hb9)
    clear hb9 Hb8
    go_wp2_with fail
    refine (law_shown04 _).mono ?_
    rintro e w10 ⟨rfl, hb10⟩
    go_wp2_with fail
    go_ret
    exact ⟨rfl, bt Hb9.out hb10⟩
end Go.Proofs.Ytkgaipcgdldfdaa
