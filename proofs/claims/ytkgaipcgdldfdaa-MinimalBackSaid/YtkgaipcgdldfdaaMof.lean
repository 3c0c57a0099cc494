/- The classes of a zone's clocks: what minimal.of returns. -/
import Derived.Test.YtkgaipcgdldfdaaLim2
import Derived.Deep.RegionHeld3
namespace Go.Proofs.Ytkgaipcgdldfdaa
open Go.RowKit
set_option linter.unusedVariables false

theorem prog_atN (N i j : Nat) (v : Value) (xs : List Int) (w : World) (hv : RL w.heap.size w v xs) (hN : N ≤ 10) (hi : i ≤ N) (hj : j ≤ N) (hx : xs.length = (N + 1) * (N + 1)) :
    Calls Try.prog 64 #[.agg #[.int .i64 N, v], .int .i64 i, .int .i64 j] w fun e w' => e = .returned (.int .i64 (ent N xs i j)) ∧ Below w.heap.size w w' := by
  have := prog_at N i j v xs w hv hN (by omega) (by omega) (by omega) (by omega) hx
  rwa [Int.toNat_natCast, Int.toNat_natCast] at this
/-- The classes of the first q clocks. -/
def clTo (N : Nat) (xs : List Int) (q : Nat) : List Int := (List.range 11).map fun k => if k < q then (rpF N xs k : Int) else 0
theorem clTo_len (N : Nat) (xs : List Int) (q : Nat) : (clTo N xs q).length = 11 := by simp [clTo]
theorem clTo_gi {N : Nat} {xs : List Int} {q k : Nat} (h : k < q) (hk : k < 11) : gi (clTo N xs q) k = rpF N xs k := by simp [clTo, gi, hk, h]
theorem clTo_set (N : Nat) (xs : List Int) (q : Nat) : (clTo N xs q).set q (rpF N xs q) = clTo N xs (q + 1) := by
  apply List.ext_getElem?
  intro k
  rw [List.getElem?_set]
  simp only [clTo, List.getElem?_map, List.length_map, List.length_range]
  by_cases e : q = k
  · subst e
    by_cases h : q < 11
    · rw [if_pos rfl, if_pos h, List.getElem?_range h]; simp
    · rw [if_pos rfl, if_neg h, List.getElem?_eq_none (by simp; omega)]; rfl
  · rw [if_neg e]
    by_cases h : k < 11
    · rw [List.getElem?_range h]
      simp only [Option.map_some, Option.some.injEq]
      by_cases h1 : k < q
      · rw [if_pos h1, if_pos (by omega)]
      · rw [if_neg h1, if_neg (by omega)]
    · rw [List.getElem?_eq_none (by simp; omega)]; rfl
/-- None of the first q clocks leads the class of i. -/
def NoTo (N : Nat) (xs : List Int) (i q : Nat) : Prop := ∀ k, k < q → ¬ (rpF N xs k = k ∧ adF (ent N xs i k) (ent N xs k i) = 1)
theorem NoTo.succ {N : Nat} {xs : List Int} {i q : Nat} (h : NoTo N xs i q) (h' : ¬ (rpF N xs q = q ∧ adF (ent N xs i q) (ent N xs q i) = 1)) : NoTo N xs i (q + 1) := fun k hk => by
  rcases Nat.lt_or_ge k q with c | c
  · exact h k c
  · rw [show k = q by omega]; exact h'
theorem rp_none {N : Nat} {xs : List Int} {i : Nat} (h : NoTo N xs i i) : rpF N xs i = i := by
  rw [rpF]
  have : ((List.range i).attach.find? fun k => decide (rpF N xs k.1 = k.1) && decide (adF (ent N xs i k.1) (ent N xs k.1 i) = 1)) = none := by
    rw [List.find?_eq_none]
    rintro ⟨k, hk⟩ _
    have := h k (List.mem_range.1 hk)
    simpa using this
  rw [this]; rfl
theorem rp_some {N : Nat} {xs : List Int} {i q : Nat} (h : NoTo N xs i q) (hq : q < i) (h1 : rpF N xs q = q) (h2 : adF (ent N xs i q) (ent N xs q i) = 1) : rpF N xs i = q := by
  rw [rpF]
  cases hf : (List.range i).attach.find? fun k => decide (rpF N xs k.1 = k.1) && decide (adF (ent N xs i k.1) (ent N xs k.1 i) = 1) with
  | none =>
    rw [List.find?_eq_none] at hf
    have := hf ⟨q, List.mem_range.2 hq⟩ (List.mem_attach _ _)
    simp [h1, h2] at this
  | some r =>
    obtain ⟨r, hr⟩ := r
    show r = q
    have hs := List.find?_some hf
    simp only [Bool.and_eq_true, decide_eq_true_eq] at hs
    rcases Nat.lt_trichotomy r q with c | c | c
    · exact absurd hs (h r c)
    · exact c
    · exfalso
      obtain ⟨_, us, bs, e, hno⟩ := List.find?_eq_some_iff_append.1 hf
      have hm : (⟨q, List.mem_range.2 hq⟩ : { x // x ∈ List.range i }) ∈ us ++ ⟨r, hr⟩ :: bs := by rw [← e]; exact List.mem_attach _ _
      have hsort : ((List.range i).attach.map (·.1)).Pairwise (· < ·) := by rw [List.attach_map_subtype_val]; exact List.pairwise_lt_range
      rw [e, List.map_append, List.pairwise_append] at hsort
      rcases List.mem_append.1 hm with m | m
      · have := hno _ m
        simp [h1, h2] at this
      · rcases List.mem_cons.1 m with m | m
        · have := congrArg Subtype.val m; simp at this; omega
        · have h3 := hsort.2.1
          rw [List.map_cons, List.pairwise_cons] at h3
          have := h3.1 q (List.mem_map.2 ⟨_, m, rfl⟩)
          have : r < q := this
          omega
theorem ol_zero {e base g : Nat} {w : World} (hg : w.heap[g]? = some (.cells #[.int .i64 0, .int .i64 0, .int .i64 0, .int .i64 0, .int .i64 0, .int .i64 0, .int .i64 0, .int .i64 0, .int .i64 0, .int .i64 0, .int .i64 0] e (0, 0))) (hb : base ≤ g) (N : Nat) (xs : List Int) :
    OL e base w (.slice (some ⟨g, 0, none⟩) 11 11) (clTo N xs 0) :=
  ⟨rfl, .inr ⟨g, 11, _, rfl, hb, hg, Nat.le_refl _, by unfold maxLen; omega, rfl, by simp [clTo, List.range, List.range.loop]⟩⟩
theorem grownBy_setRow (w : World) (g : Nat) (cs : Array Value) : w.grownBy (w.setRow g cs) (some g) := ⟨rfl, rfl, rfl, by simp, fun i hi hne => setRow_other w g i cs (by simpa using hne)⟩
theorem ol_row {e base g : Nat} {w : World} {xs : List Int} (h : OL e base w (.slice (some ⟨g, 0, none⟩) 11 11) xs) (hx : xs.length = 11) : w.heap[g]? = some (.cells (xs.map (Value.int .i64)).toArray e (0, 0)) := by
  rcases h.2 with ⟨h1, _⟩ | ⟨g', cap, cur, hv, hb, hg, hnc, hcm, hcs, ht⟩
  · cases h1
  · simp only [Value.slice.injEq, Option.some.injEq, Addr.mk.injEq, and_true] at hv
    obtain ⟨rfl, hv⟩ := hv
    rw [hg, ← ht]
    have : List.take (xs.length * 1) cur.toList = cur.toList := List.take_of_length_le (by rw [Array.length_toList]; omega)
    rw [this]
set_option maxRecDepth 100000 in
set_option maxHeartbeats 4000000 in
theorem prog_of_cl (N : Nat) (v : Value) (xs : List Int) (w : World) (hv : RL w.heap.size w v xs) (hok : OkZ N xs) :
    Calls Try.prog 61 #[.agg #[.int .i64 N, v]] w fun e w' => e = .returned (.agg ((clTo N xs (N + 1)).map (Value.int .i64)).toArray) ∧ Below w.heap.size w w' := by
  obtain ⟨aoz, capz, rfl, hlez, _⟩ := hv.open
  have hN : N ≤ 10 := by have := hok.hi; omega
  have Hx := Lib.hid (show xs.length = (N + 1) * (N + 1) by have := hok.len; rwa [Int.toNat_natCast] at this)
  have HV := Lib.hid (show ∀ a b, a ≤ N → b ≤ N → vld (ent N xs a b) = true from fun a b ha hb => (hok.el ha hb).val)
  have hloc0 := Loc.two w (.cells #[.int .i64 N, .slice aoz xs.length capz] 24) (.cells #[.int .i64 0, .int .i64 0, .int .i64 0, .int .i64 0, .int .i64 0, .int .i64 0, .int .i64 0, .int .i64 0, .int .i64 0, .int .i64 0, .int .i64 0] 76) none
  have hown0 := ol_zero (heap_alloc_new ((w.alloc (.cells #[.int .i64 N, .slice aoz xs.length capz] 24)).alloc (.cells #[.int .i64 0, .int .i64 0, .int .i64 0, .int .i64 0, .int .i64 0, .int .i64 0, .int .i64 0, .int .i64 0, .int .i64 0, .int .i64 0, .int .i64 0] 76)) (.cells #[.int .i64 0, .int .i64 0, .int .i64 0, .int .i64 0, .int .i64 0, .int .i64 0, .int .i64 0, .int .i64 0, .int .i64 0, .int .i64 0, .int .i64 0] 76)) (show w.heap.size ≤ _ by simp; omega) N xs
  have hs0 : ((w.alloc (.cells #[.int .i64 N, .slice aoz xs.length capz] 24)).alloc (.cells #[.int .i64 0, .int .i64 0, .int .i64 0, .int .i64 0, .int .i64 0, .int .i64 0, .int .i64 0, .int .i64 0, .int .i64 0, .int .i64 0, .int .i64 0] 76)).heap.size = w.heap.size + 1 + 1 := by simp
  rw [hs0] at hown0
  have hloc1 := hloc0.next (World.grownBy_alloc _ (.cells #[.int .i64 0, .int .i64 0, .int .i64 0, .int .i64 0, .int .i64 0, .int .i64 0, .int .i64 0, .int .i64 0, .int .i64 0, .int .i64 0, .int .i64 0] 76) none) (fun g h => by cases h)
  have Hv := Lib.hid hv
  clear hv hok hloc0 hs0
  go_enter Try.func61, Try.ntmps61
  go_wp2_with fail
  go_loopw [9] (fun i wr => ∃ q : Nat, q ≤ N + 1 ∧ i = .int .i64 q ∧ OL 76 w.heap.size wr (.slice (some ⟨w.heap.size + 1 + 1, 0, none⟩) 11 11) (clTo N xs q) ∧
      Loc w wr none [.cells #[.int .i64 N, .slice aoz xs.length capz] 24, .cells #[.int .i64 0, .int .i64 0, .int .i64 0, .int .i64 0, .int .i64 0, .int .i64 0, .int .i64 0, .int .i64 0, .int .i64 0, .int .i64 0, .int .i64 0] 76]) (fun i _ => N + 1 - (intOf i).toNat)
  case atStart => exact ⟨0, by omega, rfl, hown0, hloc1⟩
  case round =>
    clear hloc1 hown0
    obtain ⟨i, hi, rfl, hown, hloc⟩ := hrel
    have c0 : wr.cell? ⟨w.heap.size, 0, none⟩ = some (.int .i64 N) := hloc.cell 0 rfl 0
    have hlen := Lib.hid (clTo_len N xs i)
    by_cases hlt : i < N + 1
    · have hti : decide ((i : Int) < (N : Int) + 1) = true := by simp; omega
      obtain ⟨ci1, ci2⟩ := ol_cell hown (k := i) (by rw [clTo_len]; omega)
      have hst := hown.stored (clTo_len N xs i).symm i (i : Int)
      have hlocS := hloc.anyrow hst.2 (fun g h => by cases h; exact Nat.le_refl _)
      have HownS := Lib.hid hst.1
      clear hst
      go_wp2_with fail
      go_loopw [16] (fun j wr => ∃ q : Nat, q ≤ i ∧ j = .int .i64 q ∧ OL 76 w.heap.size wr (.slice (some ⟨w.heap.size + 1 + 1, 0, none⟩) 11 11) ((clTo N xs i).set i (i : Int)) ∧ NoTo N xs i q ∧
          Loc w wr none [.cells #[.int .i64 N, .slice aoz xs.length capz] 24, .cells #[.int .i64 0, .int .i64 0, .int .i64 0, .int .i64 0, .int .i64 0, .int .i64 0, .int .i64 0, .int .i64 0, .int .i64 0, .int .i64 0, .int .i64 0] 76]) (fun j _ => i - (intOf j).toNat)
      case atStart => exact ⟨0, by omega, rfl, HownS.out, fun _ h => by omega, hlocS⟩
      case round =>
        clear hloc c0 ci1 ci2 hlocS HownS hown
        obtain ⟨k, hk, rfl, hown, hno, hloc⟩ := hrel
        have Hno := Lib.hid hno
        clear hno
        have c0 : wr.cell? ⟨w.heap.size, 0, none⟩ = some (.int .i64 N) := hloc.cell 0 rfl 0
        have c1 : wr.cell? ⟨w.heap.size, 1, none⟩ = some (.slice aoz xs.length capz) := hloc.cell 0 rfl 1
        by_cases hlt2 : k < i
        · have htk : decide ((k : Int) < (i : Int)) = true := by simp; omega
          have ck1 := (ol_cell hown (k := k) (by rw [List.length_set, clTo_len]; omega)).1
          rw [gi_set_ne (show i ≠ k by omega), clTo_gi hlt2 (by omega)] at ck1
          by_cases hr : rpF N xs k = k
          · rw [hr] at ck1
            have Hr := Lib.hid hr
            clear hr
            have Hv1 := Lib.hid (Hv.out.keepb (below_grownBy hloc.grown))
            have d0 : wr.drew.cell? ⟨w.heap.size, 0, none⟩ = some (.int .i64 N) := c0
            have d1 : wr.drew.cell? ⟨w.heap.size, 1, none⟩ = some (.slice aoz xs.length capz) := c1
            have d2 : wr.drew.cell? ⟨w.heap.size + 1 + 1, k, none⟩ = some (.int .i64 k) := ck1
            have va := HV.out i k (by omega) (by omega)
            have hk0 : (0 : Int) ≤ (k : Int) := by omega
            have hk11 : (k : Int) < 11 := by omega
            have vb := HV.out k i (by omega) (by omega)
            by_cases had : adF (ent N xs i k) (ent N xs k i) = 1
            · have hab : (adF (ent N xs i k) (ent N xs k i) == 1) = true := by simpa using had
              have Hset := Lib.hid (show ((clTo N xs i).set i (i : Int)).set i (k : Int) = clTo N xs (i + 1) by rw [List.set_set, ← rp_some Hno.out hlt2 Hr.out had]; exact clTo_set N xs i)
              clear had
              go_wp2_with fail
              go_region_held3 (fun w' => w'.cell? ⟨w.heap.size, 0, none⟩ = some (.int .i64 N) ∧ w'.cell? ⟨w.heap.size, 1, none⟩ = some (.slice aoz xs.length capz) ∧ w'.cell? ⟨w.heap.size + 1 + 1, k, none⟩ = some (.int .i64 k))
                (first | exact ⟨by assumption, by assumption, by assumption⟩ | go_keep)
                (first
                  | (go_at_call 121; refine (prog_add _ _ _ va vb).mono ?_; rintro e w9 ⟨rfl, rfl⟩)
                  | (go_at_call 64; (first
                    | ((with_reducible refine (prog_atN N i k _ xs _ Hv1.out.drew hN (by omega) (by omega) Hx.out).mono ?_); rintro e w1 ⟨rfl, hb1⟩; have k0 := keepb d0 hb1; have k1 := keepb d1 hb1; have k2 := keepb d2 hb1)
                    | ((with_reducible refine (prog_atN N k i _ xs _ (Hv1.out.drew.keepb hb1) hN (by omega) (by omega) Hx.out).mono ?_); rintro e w2 ⟨rfl, hb2⟩; have m0 := keepb k0 hb2; have m1 := keepb k1 hb2; have m2 := keepb k2 hb2))))
              have hb := bt (bt ((Below.refl wr.heap.size wr).drew) hb1) hb2
              have hown2 := hown.keepb hb
              have hloc2 := hloc.next (grownBy_below hb none) (fun _ h => by cases h)
              obtain ⟨ci1, ci2⟩ := ol_cell hown2 (k := i) (by rw [List.length_set, clTo_len]; omega)
              have hst := hown2.stored (by rw [List.length_set, clTo_len]) i (k : Int)
              have hloc3 := hloc2.anyrow hst.2 (fun g h => by cases h; exact Nat.le_refl _)
              have Hown3 := Lib.hid (show OL 76 w.heap.size _ (.slice (some ⟨w.heap.size + 1 + 1, 0, none⟩) 11 11) _ from Hset.out ▸ hst.1)
              clear hst hb hb1 hb2 hown hloc
              go_wp2_with fail
              go_roundw
              case rel => exact ⟨i + 1, by omega, by go_num, Hown3.out, hloc3⟩
              case measure => simp [intOf]; omega
            · have hab : (adF (ent N xs i k) (ent N xs k i) == 1) = false := by simpa using had
              have Hno2 := Lib.hid (Hno.out.succ (fun h => had h.2))
              clear had
              go_wp2_with fail
              go_region_held3 (fun w' => w'.cell? ⟨w.heap.size, 0, none⟩ = some (.int .i64 N) ∧ w'.cell? ⟨w.heap.size, 1, none⟩ = some (.slice aoz xs.length capz) ∧ w'.cell? ⟨w.heap.size + 1 + 1, k, none⟩ = some (.int .i64 k))
                (first | exact ⟨by assumption, by assumption, by assumption⟩ | go_keep)
                (first
                  | (go_at_call 121; refine (prog_add _ _ _ va vb).mono ?_; rintro e w9 ⟨rfl, rfl⟩)
                  | (go_at_call 64; (first
                    | ((with_reducible refine (prog_atN N i k _ xs _ Hv1.out.drew hN (by omega) (by omega) Hx.out).mono ?_); rintro e w1 ⟨rfl, hb1⟩; have k0 := keepb d0 hb1; have k1 := keepb d1 hb1; have k2 := keepb d2 hb1)
                    | ((with_reducible refine (prog_atN N k i _ xs _ (Hv1.out.drew.keepb hb1) hN (by omega) (by omega) Hx.out).mono ?_); rintro e w2 ⟨rfl, hb2⟩; have m0 := keepb k0 hb2; have m1 := keepb k1 hb2; have m2 := keepb k2 hb2))))
              have hb := bt (bt ((Below.refl wr.heap.size wr).drew) hb1) hb2
              have hown2 := hown.keepb hb
              have hloc2 := hloc.next (grownBy_below hb none) (fun _ h => by cases h)
              clear hb hb1 hb2 hown hloc
              go_wp2_with fail
              go_roundw
              case rel => exact ⟨k + 1, by omega, by go_num, hown2, Hno2.out, hloc2⟩
              case measure => simp [intOf]; omega
          · have hrb : ((rpF N xs k : Int) == (k : Int)) = false := by simp; omega
            have Hno2 := Lib.hid (Hno.out.succ (fun h => hr h.1))
            clear hr
            generalize hR : rpF N xs k = R at ck1 hrb
            clear hR
            go_wp2_with fail
            go_quiet (fail)
            go_wp2_with fail
            go_roundw
            case rel => exact ⟨k + 1, by omega, by go_num, hown.keepb (below_drewN _ _), Hno2.out, hloc.next (grownBy_below (below_drewN _ _) none) (fun _ h => by cases h)⟩
            case measure => simp [intOf]; omega
        · have htk : decide ((k : Int) < (i : Int)) = false := by simp; omega
          have Hset := Lib.hid (show (clTo N xs i).set i (i : Int) = clTo N xs (i + 1) by
            have := rp_none (show NoTo N xs i i from (show k = i by omega) ▸ Hno.out)
            have h := clTo_set N xs i
            rw [this] at h; exact h)
          rw [Hset.out] at hown
          clear c0 c1
          go_wp2_with fail
          go_roundw
          case rel => exact ⟨i + 1, by omega, by go_num, hown, hloc⟩
          case measure => simp [intOf]; omega
    · have hti : decide ((i : Int) < (N : Int) + 1) = false := by simp; omega
      obtain rfl : i = N + 1 := by omega
      have hrow := ol_row hown (clTo_len N xs _)
      have hrow1 : wr.heap[w.heap.size + 1]? = some (.cells #[.int .i64 0, .int .i64 0, .int .i64 0, .int .i64 0, .int .i64 0, .int .i64 0, .int .i64 0, .int .i64 0, .int .i64 0, .int .i64 0, .int .i64 0] 76) := hloc.objs 1 (by simp)
      have hall : ((clTo N xs (N + 1)).map (Value.int .i64)).toArray.all (·.oneCell') = true := by simp; intros; rfl
      have hsz : ((clTo N xs (N + 1)).map (Value.int .i64)).toArray.size = 11 := by simp [clTo_len]
      generalize hCS : ((clTo N xs (N + 1)).map (Value.int .i64)).toArray = cs at *
      have HCS := Lib.hid hCS
      clear hown hCS
      go_wp2_with (first
        | (refine wpList_load_row rfl 76 _ rfl (w.heap.size + 1 + 1) rfl 76 cs (0, 0) _ hrow Try.underlying76 rfl (by rw [hsz]; kernel_rfl) ?_)
        | (refine wpList_store_row rfl 76 _ _ rfl (w.heap.size + 1) cs rfl rfl 76 _ hrow1 (by rw [hsz]; kernel_rfl) (by rw [hsz]; rfl) hall ?_))
      refine bodyPost_ret (v := .agg cs) ?_ rfl ⟨?_, ?_⟩
      · exact results_cell_row Try.results61 _ _ (w.heap.size + 1) 76 cs (0, 0) _ rfl (setRow_heap wr (w.heap.size + 1) _ cs _ _ hrow1) Try.underlying76 rfl (by rw [hsz]; kernel_rfl)
      · rw [HCS.out]
      · exact hloc.below0 (grownBy_setRow wr (w.heap.size + 1) cs) (fun g h => by cases h; exact Nat.le_succ _)
end Go.Proofs.Ytkgaipcgdldfdaa
