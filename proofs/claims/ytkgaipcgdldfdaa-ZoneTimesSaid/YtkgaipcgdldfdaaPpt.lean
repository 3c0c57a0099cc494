/- The program's Point of whatever zone. -/
import Derived.Test.YtkgaipcgdldfdaaRpt
namespace Go.Proofs.Ytkgaipcgdldfdaa
open Go.RowKit
set_option linter.unusedVariables false

theorem rawS_i64 {s : Sp} (h : I64 s.ln) : I64 (rawS s).1.1 := by
  unfold rawS
  split
  · split
    · exact addR_i64 _ _ _ _
    · unfold midR; split
      · exact ⟨by decide, by decide⟩
      · exact mkR_i64 _ _
  · exact h
theorem pkS_i64 {s : Sp} (h : I64 s.ln) : I64 (pkS s).1.1 := by
  unfold pkS
  split
  · exact ⟨by decide, by decide⟩
  · exact rawS_i64 h
theorem gq_cons_i64 {p : List (Int × Int)} (h : ∀ k, I64 (gq p k).1) : ∀ k, I64 (gq ((0, 1) :: p) k).1 := fun k => by
  cases k with
  | zero => exact (show I64 0 from ⟨by decide, by decide⟩)
  | succ k => exact h k
theorem gq_snoc_i64 {p : List (Int × Int)} {r : Int × Int} (h : ∀ k, I64 (gq p k).1) (hr : I64 r.1) : ∀ k, I64 (gq (p ++ [r]) k).1 := fun k => by
  have e : gq (p ++ [r]) k = gq p k ∨ gq (p ++ [r]) k = r := by
    unfold gq
    rw [List.getD_eq_getElem?_getD, List.getD_eq_getElem?_getD, List.getElem?_append]
    split
    · exact .inl rfl
    · rename_i hk
      rcases Nat.lt_or_ge p.length k with hlt | hge
      · left; rw [List.getElem?_eq_none (by simp; omega), List.getElem?_eq_none (by omega)]
      · have : k = p.length := by omega
        subst this; right; simp
  rcases e with e | e <;> rw [e]
  · exact h k
  · exact hr
theorem gq_nil_i64 : ∀ k, I64 (gq [] k).1 := fun k => by
  have e : gq [] k = (0, 1) ∨ gq [] k = (0, 0) := by unfold gq; simp
  rcases e with e | e <;> rw [e] <;> exact ⟨by decide, by decide⟩
theorem rq_empty (B : Nat) (w : World) (a : Addr) (c : Nat) (h : c ≤ maxLen) : RQ B w (.slice (some a) 0 c) [] := by
  obtain ⟨b, off, sp⟩ := a
  exact .inr ⟨b, off, sp, c, rfl, Nat.zero_le _, h, fun _ => rfl, fun h => absurd h (Nat.lt_irrefl _)⟩
def Yv (X : Nat) (yn yd ye : Int) (w : World) : Prop := ye = 0 → w.heap[X]? = some (.cells #[.int .i64 yn, .int .i64 yd] 48 (0, 0))
set_option maxRecDepth 100000 in
set_option maxHeartbeats 8000000 in
theorem prog_point_any (n : Int) (v : Value) (xs : List Int) (w : World) (hv : RL w.heap.size w v xs) :
    Calls Try.prog 36 #[.agg #[.int .i64 n, v]] w fun e w' => QE (pointF n xs) e w' ∧ Below w.heap.size w w' := by
  by_cases hok : OkZ n xs
  rotate_left
  · obtain ⟨aoz, capz, rfl, hlez, _⟩ := hv.open
    have hloc0 := Loc.one w (.cells #[.int .i64 n, .slice aoz xs.length capz] 24) none
    have Hv0 := Lib.hid (hv.keepb (below_grownBy hloc0.grown))
    clear hv
    have he := okErr_no hok
    have HR := Lib.hid (pointF_no hok)
    clear hok
    go_enter Try.func36, Try.ntmps36
    go_wp2_with fail
    refine (prog_check n _ xs _ Hv0.out).mono ?_
    rw [he]
    rintro e w1 ⟨rfl, hb1⟩
    go_wp2_with fail
    go_ret2
    exact ⟨QE.err HR.out _, below_grownBy (hloc0.next (grownBy_below hb1 none) (fun _ h => by cases h)).grown⟩
  have he := okErr_yes hok
  obtain ⟨N, rfl⟩ := Int.eq_ofNat_of_zero_le hok.lo
  have hN : N ≤ 10 := by have := hok.hi; omega
  have Hx := Lib.hid (show xs.length = (N + 1) * (N + 1) by have := hok.len; rwa [Int.toNat_natCast] at this)
  obtain ⟨aoz, capz, rfl, hlez, h0z⟩ := hv.open
  obtain ⟨bz, oz, rfl, hbz, hcz⟩ := h0z (by rw [Hx.out]; exact Nat.mul_pos (by omega) (by omega))
  have Hcz := Lib.hid hcz
  have hloc0 := Loc.one w (.cells #[.int .i64 N, .slice (some ⟨bz, oz, none⟩) xs.length capz] 24) none
  have Hv0 := Lib.hid (hv.keepb (below_grownBy hloc0.grown))
  have HOK := Lib.hid hok
  clear hv hok h0z hcz
  go_enter Try.func36, Try.ntmps36
  go_wp2_with fail
  refine (prog_check N _ xs _ Hv0.out).mono ?_
  rw [he]
  rintro e w1 ⟨rfl, hb1⟩
  have hloc1 := hloc0.next (grownBy_below hb1 none) (fun _ h => by cases h)
  have c0 : w1.cell? ⟨w.heap.size, 0, none⟩ = some (.int .i64 N) := hloc1.cell 0 rfl 0
  have hs1 : w.heap.size + 1 ≤ w1.heap.size := hloc1.size
  have hloc2 := hloc1.next (World.grownBy_alloc w1 (.cells #[.int .i64 0, .int .i64 1] 48) none) (fun _ h => by cases h)
  have hown : OQ 48 (w.heap.size + 1) (w1.alloc (.cells #[.int .i64 0, .int .i64 1] 48)) (.slice (some ⟨w1.heap.size, 0, none⟩) 1 1) ((0, 1) :: []) :=
    World.ownsRow_lit w1 #[.int .i64 0, .int .i64 1] 1 hs1 (by unfold maxLen; omega) rfl
  have c20 : (w1.alloc (.cells #[.int .i64 0, .int .i64 1] 48)).cell? ⟨w.heap.size, 0, none⟩ = some (.int .i64 N) := hloc2.cell 0 rfl 0
  clear hb1 hloc0 he hloc1 c0 hs1
  go_wp2_with fail
  go_loopw [4, 6] (fun o i wr => ∃ (i' : Nat) (p : List (Int × Int)), 1 ≤ i' ∧ i' ≤ N + 1 ∧ i = .int .i64 i' ∧ ptsF N xs (i' - 1) = some p ∧ p.length + 1 = i' ∧ (∀ k, I64 (gq p k).1) ∧ OQ 48 (w.heap.size + 1) wr o ((0, 1) :: p) ∧ Loc w wr none [.cells #[.int .i64 N, .slice (some ⟨bz, oz, none⟩) xs.length capz] 24]) (fun _ i _ => N + 1 - (intOf i).toNat)
  case atStart => exact ⟨1, [], Nat.le_refl _, by omega, rfl, rfl, rfl, gq_nil_i64, hown, hloc2⟩
  case round =>
    clear hown hloc2 c20
    obtain ⟨i, p, hi1, hi2, rfl, hp, hpl, hpI, hown, hloc⟩ := hrel
    have htl : ((0, 1) :: p).length = i := by rw [List.length_cons]; exact hpl
    obtain ⟨g, cap, rfl, hgb, hgs, hgc⟩ : ∃ g cap, u4 = .slice (some ⟨g, 0, none⟩) i cap ∧ w.heap.size + 1 ≤ g ∧ g < wr.heap.size ∧ i ≤ cap ∧ cap ≤ maxLen := by
      rcases hown.2 with ⟨_, e⟩ | ⟨g, cap, cur, e, hb, hg, hnc, hcm, _⟩
      · omega
      · exact ⟨g, cap, by rw [e, htl], hb, (Array.getElem?_eq_some_iff.1 hg).1, by omega, hcm⟩
    have Hown := Lib.hid hown
    have Hp := Lib.hid hp
    have HpL := Lib.hid (show p.length + 1 = i from hpl)
    have HI := Lib.hid (gq_cons_i64 hpI)
    have HI0 := Lib.hid hpI
    clear hown hp hpl htl hpI
    by_cases hlt : i < N + 1
    rotate_left
    · have hti : decide ((i : Int) < (N : Int) + 1) = false := by simp; omega
      obtain rfl : i = N + 1 := by omega
      have HR := Lib.hid (pointF_ok HOK.out (show ptsF N xs N = some p from Hp.out))
      have hm := hgc.2
      unfold maxLen at hm
      have hi3 : (1 : Int) ≤ ((N + 1 : Nat) : Int) := by omega
      by_cases hc1 : cap = 1
      · subst hc1
        obtain rfl : N = 0 := by omega
        obtain rfl : p = [] := List.eq_nil_of_length_eq_zero (by have := HpL.out; omega)
        go_wp2_with fail
        go_ret2
        exact ⟨QE.ok HR.out (rq_empty _ _ _ _ (by unfold maxLen; omega)), below_grownBy hloc.grown⟩
      · go_wp2_with fail
        go_ret2
        refine ⟨QE.ok HR.out ?_, below_grownBy hloc.grown⟩
        exact rq_drop1 (show OQ 48 (w.heap.size + 1) wr (.slice (some ⟨g, 0, none⟩) (N + 1) cap) ((0, 1) :: p) from Hown.out) (by rw [List.length_cons]; exact HpL.out)
    have hti : decide ((i : Int) < (N : Int) + 1) = true := by simp; omega
    go_wp2_with (go_at_call 86; refine (prog_span _).mono ?_; rintro e wa ⟨rfl, rfl⟩)
    have hS0 := heap_alloc_new wr (.cells sp0.cs 101)
    have hloc3 := hloc.next (World.grownBy_alloc wr (.cells sp0.cs 101) none) (fun _ h => by cases h)
    have hown3 : OQ 48 (w.heap.size + 1) (wr.alloc (.cells sp0.cs 101)) _ ((0, 1) :: p) := World.ownsRow.alloc Hown.out _
    have hgsb : g ≠ wr.heap.size := by omega
    have hwsb : w.heap.size + 1 ≤ wr.heap.size := hloc.size
    generalize hSB : wr.heap.size = sb at *
    generalize wr.alloc (.cells sp0.cs 101) = wr1 at *
    clear Hown hloc
    go_loopw [28] (fun k wr2 => ∃ j : Nat, j ≤ i ∧ k = .int .i64 j ∧ wr2.heap[sb]? = some (.cells (spanTo N xs ((0, 1) :: p) i j).cs 101 (0, 0)) ∧ OQ 48 (w.heap.size + 1) wr2 (.slice (some ⟨g, 0, none⟩) i cap) ((0, 1) :: p) ∧ Loc w wr2 none [.cells #[.int .i64 N, .slice (some ⟨bz, oz, none⟩) xs.length capz] 24]) (fun k _ => i - (intOf k).toNat)
    case atStart => exact ⟨0, by omega, rfl, hS0, hown3, hloc3⟩
    case round =>
      clear hS0 hown3 hloc3
      obtain ⟨j, hj, rfl, hS, hown, hloc⟩ := hrel
      have Hown := Lib.hid hown
      have z0 : wr.cell? ⟨w.heap.size, 0, none⟩ = some (.int .i64 N) := hloc.cell 0 rfl 0
      have z1 : wr.cell? ⟨w.heap.size, 1, none⟩ = some (.slice (some ⟨bz, oz, none⟩) xs.length capz) := hloc.cell 0 rfl 1
      have hsz2 : sb < wr.heap.size := (Array.getElem?_eq_some_iff.1 hS).1
      by_cases hjl : j < i
      · have htj : decide ((j : Int) < (i : Int)) = true := by simp; omega
        have hj0 : (0 : Int) ≤ (j : Int) := by omega
        have hj1 : (j : Int) < (i : Int) := by omega
        have hq2 := OQ.at hown (j := j) (by rw [List.length_cons, HpL.out]; exact hjl)
        obtain ⟨q0, q1⟩ := hq2
        have HS2 := Lib.hid (show spanTo N xs ((0, 1) :: p) i (j + 1) = cutF (cutF (spanTo N xs ((0, 1) :: p) i j) (gq ((0, 1) :: p) j).1 (gq ((0, 1) :: p) j).2 (ent N xs i j) false) (gq ((0, 1) :: p) j).1 (gq ((0, 1) :: p) j).2 (ent N xs j i) true from rfl)
        obtain ⟨I1, I2⟩ := spanTo_i64 N xs ((0, 1) :: p) i j
        obtain ⟨I3, I4⟩ := cutF_i64 (gq ((0, 1) :: p) j).1 (gq ((0, 1) :: p) j).2 (ent N xs i j) false (spanTo_i64 N xs ((0, 1) :: p) i j)
        have I5 := HI.out j
        generalize hqj : gq ((0, 1) :: p) j = P at *
        obtain ⟨pn, pd⟩ := P
        simp only at q0 q1 HS2 I3 I4 I5
        have HqJ := Lib.hid hqj
        clear hqj hown
        have m1 := ((bcell (below_grownBy hloc.grown)).1 _ _ hbz).trans (Hcz.out (i * (N + 1) + j) (by rw [Hx.out]; exact idx_lt N i j (by omega) (by omega)))
        have m2 := ((bcell (below_grownBy hloc.grown)).1 _ _ hbz).trans (Hcz.out (j * (N + 1) + i) (by rw [Hx.out]; exact idx_lt N j i (by omega) (by omega)))
        have hwsb2 : w.heap.size ≠ sb := by omega
        have hbz2 : bz ≠ sb := by omega
        have h1 := idx_bd N i hN (by omega)
        have hn1 := idx_nat N i j
        have h2 := idx_bd N j hN (by omega)
        have hn2 := idx_nat N j i
        have hL1 : (i : Int) * ((N : Int) + 1) + (j : Int) < xs.length := by
          have e : ((i * (N + 1) + j : Nat) : Int) = (i : Int) * ((N : Int) + 1) + j := by push_cast; rfl
          have := idx_lt N i j (by omega) (by omega); rw [← Hx.out] at this; omega
        have hL2 : (j : Int) * ((N : Int) + 1) + (i : Int) < xs.length := by
          have e : ((j * (N + 1) + i : Nat) : Int) = (j : Int) * ((N : Int) + 1) + i := by push_cast; rfl
          have := idx_lt N j i (by omega) (by omega); rw [← Hx.out] at this; omega
        have hi0 : (0 : Int) ≤ (i : Int) := by omega
        have hz1 : (0 : Int) ≤ (i : Int) * ((N : Int) + 1) + (j : Int) := by omega
        have hz2 : (0 : Int) ≤ (j : Int) * ((N : Int) + 1) + (i : Int) := by omega
        have hw1 : IntKind.i64.wrap ((i : Int) * ((N : Int) + 1)) = (i : Int) * ((N : Int) + 1) := IntWalk.i64_in _ (by omega)
        have hw2 : IntKind.i64.wrap ((i : Int) * ((N : Int) + 1) + (j : Int)) = (i : Int) * ((N : Int) + 1) + (j : Int) := IntWalk.i64_in _ (by omega)
        have hw3 : IntKind.i64.wrap ((j : Int) * ((N : Int) + 1)) = (j : Int) * ((N : Int) + 1) := IntWalk.i64_in _ (by omega)
        have hw4 : IntKind.i64.wrap ((j : Int) * ((N : Int) + 1) + (i : Int)) = (j : Int) * ((N : Int) + 1) + (i : Int) := IntWalk.i64_in _ (by omega)
        go_upto_region 12 with fail
        have hxb := heap_alloc_new wr (.cells #[.int .i64 pn, .int .i64 pd] 48)
        have bA : Below wr.heap.size wr (wr.alloc (.cells #[.int .i64 pn, .int .i64 pd] 48)) := (Below.refl _ _).alloc (Nat.le_refl _) _
        have x0 := cell_of_row _ wr.heap.size 0 _ _ _ hxb
        have x1 := cell_of_row _ wr.heap.size 1 _ _ _ hxb
        have z0' := keepb z0 bA
        have z1' := keepb z1 bA
        have m1' := keepb m1 bA
        have m2' := keepb m2 bA
        have hS' := (bA.block sb hsz2).trans hS
        have hxsb : wr.heap.size ≠ sb := by omega
        have hGA : wr.grownBy (wr.alloc (.cells #[.int .i64 pn, .int .i64 pd] 48)) (some sb) := grownBy_below bA _
        clear z0 z1 m1 m2 hS q0 q1 hxb bA
        generalize hV : wr.alloc (.cells #[.int .i64 pn, .int .i64 pd] 48) = V at *
        clear hV
        go_wp2_with fail
        go_region_held3 (fun w' => w'.cell? ⟨w.heap.size, 0, none⟩ = some (.int .i64 N) ∧ w'.cell? ⟨w.heap.size, 1, none⟩ = some (.slice (some ⟨bz, oz, none⟩) xs.length capz) ∧ w'.cell? ⟨wr.heap.size, 0, none⟩ = some (.int .i64 pn) ∧ w'.cell? ⟨wr.heap.size, 1, none⟩ = some (.int .i64 pd) ∧ w'.cell? ⟨bz, oz + (i * (N + 1) + j), none⟩ = some (.int .i64 (gi xs (i * (N + 1) + j))))
          (first | exact ⟨by assumption, by assumption, by assumption, by assumption, by assumption⟩ | go_keep)
          (first
            | (go_at_call 88; refine (prog_cut sb _ pn pd _ false _ I5 I1 I2 (show V.drew.heap[sb]? = _ from hS')).mono ?_; rintro e w5 ⟨rfl, hS5, hg5⟩; have p0 := keepg (show V.drew.cell? _ = _ from z0') hg5 hwsb2; have p1 := keepg (show V.drew.cell? _ = _ from z1') hg5 hwsb2; have p2 := keepg (show V.drew.cell? _ = _ from x0) hg5 hxsb; have p3 := keepg (show V.drew.cell? _ = _ from x1) hg5 hxsb; have p4 := keepg (show V.drew.cell? _ = _ from m1') hg5 hbz2))
        have p5 := keepg (show V.drew.cell? _ = _ from m2') hg5 hbz2
        have hG5 : wr.grownBy w5 (some sb) := grownBy_trans hGA (grownBy_trans (grownBy_drew _ _) hg5)
        clear z0' z1' x0 x1 m1' m2' hS' hGA hg5 p4
        go_wp2_with fail
        go_region_held3 (fun w' => w'.cell? ⟨w.heap.size, 0, none⟩ = some (.int .i64 N) ∧ w'.cell? ⟨w.heap.size, 1, none⟩ = some (.slice (some ⟨bz, oz, none⟩) xs.length capz) ∧ w'.cell? ⟨wr.heap.size, 0, none⟩ = some (.int .i64 pn) ∧ w'.cell? ⟨wr.heap.size, 1, none⟩ = some (.int .i64 pd) ∧ w'.cell? ⟨bz, oz + (j * (N + 1) + i), none⟩ = some (.int .i64 (gi xs (j * (N + 1) + i))))
          (first | exact ⟨by assumption, by assumption, by assumption, by assumption, by assumption⟩ | go_keep)
          (first
            | (go_at_call 88; refine (prog_cut sb _ pn pd _ true _ I5 I3 I4 (show w5.drew.heap[sb]? = _ from hS5)).mono ?_; rintro e w6 ⟨rfl, hS6, hg6⟩; have r0 := keepg (show w5.drew.cell? _ = _ from p0) hg6 hwsb2; have r1 := keepg (show w5.drew.cell? _ = _ from p1) hg6 hwsb2; have r2 := keepg (show w5.drew.cell? _ = _ from p2) hg6 hxsb; have r3 := keepg (show w5.drew.cell? _ = _ from p3) hg6 hxsb; have r4 := keepg (show w5.drew.cell? _ = _ from p5) hg6 hbz2))
        have hG6 : wr.grownBy w6 (some sb) := grownBy_trans hG5 (grownBy_trans (grownBy_drew _ _) hg6)
        go_wp2_with fail
        go_roundw
        case rel => exact ⟨j + 1, by omega, by go_num, by rw [HS2.out]; exact hS6, World.ownsRow.kept Hown.out hG6 (.inr (by intro e; exact hgsb (Option.some.inj e))), hloc.anyrow hG6 (fun g' e => by cases e; show w.heap.size + 1 ≤ sb; omega)⟩
        case measure => simp [intOf]; omega
      · have htj : decide ((j : Int) < (i : Int)) = false := by simp; omega
        obtain rfl : j = i := by omega
        obtain ⟨m, rfl⟩ : ∃ m, j = m + 1 := ⟨j - 1, by omega⟩
        have hmN : m < N := by omega
        have Hp2 := Lib.hid (show ptsF N xs m = some p from Hp.out)
        have HPB := Lib.hid (fun h => pointF_bad HOK.out hmN Hp2.out h)
        have HPO := Lib.hid (fun h => ptsF_succ Hp2.out h)
        have hL0 := spanTo_ln0 N xs ((0, 1) :: p) (m + 1) (m + 1)
        obtain ⟨hI1, hI2⟩ := spanTo_i64 N xs ((0, 1) :: p) (m + 1) (m + 1)
        have HPI := Lib.hid (pkS_i64 hI1)
        clear Hp
        generalize spanTo N xs ((0, 1) :: p) (m + 1) (m + 1) = S at *
        obtain ⟨R, hR⟩ : ∃ R, R = rawS S := ⟨_, rfl⟩
        have HR := Lib.hid hR
        have Hpk := Lib.hid (show pkS S = if S.wd = true then ((0, 0), 7) else R by rw [hR]; rfl)
        clear hR
        obtain ⟨ln, ld, hn, hd, lo, ho, nh, wd⟩ := S
        simp only at hL0 Hpk hI1 hI2
        have s0 : wr.cell? ⟨sb, 0, none⟩ = some (.int .i64 ln) := cell_of_row _ sb 0 _ _ _ hS
        have s1 : wr.cell? ⟨sb, 1, none⟩ = some (.int .i64 ld) := cell_of_row _ sb 1 _ _ _ hS
        have bA : Below wr.heap.size wr (wr.alloc (.cells #[.int .i64 ln, .int .i64 ld] 48)) := (Below.refl _ _).alloc (Nat.le_refl _) _
        have hx := heap_alloc_new wr (.cells #[.int .i64 ln, .int .i64 ld] 48)
        have hS' := (bA.block sb hsz2).trans hS
        have hownA : OQ 48 (w.heap.size + 1) (wr.alloc (.cells #[.int .i64 ln, .int .i64 ld] 48)) (.slice (some ⟨g, 0, none⟩) (m + 1) cap) ((0, 1) :: p) := World.ownsRow.alloc Hown.out _
        have hlocA := hloc.next (World.grownBy_alloc wr (.cells #[.int .i64 ln, .int .i64 ld] 48) none) (fun _ h => by cases h)
        have hXs : wr.heap.size < (wr.alloc (.cells #[.int .i64 ln, .int .i64 ld] 48)).heap.size := by simp
        have hsX : sb ≠ wr.heap.size := by omega
        have hwX : w.heap.size + 1 ≤ wr.heap.size := hloc.size
        have hgX : g ≠ wr.heap.size := by
          have := World.ownsRow.lt Hown.out g rfl
          omega
        go_upto_block 4 with fail
        clear s0 s1 bA hS hloc Hown z0 z1 hsz2
        generalize hW : wr.alloc (.cells #[.int .i64 ln, .int .i64 ld] 48) = W at *
        generalize wr.heap.size = X at *
        clear hW
        obtain ⟨⟨xn, xd⟩, xe⟩ := R
        have x0 := cell_of_row _ X 0 _ _ _ hx
        have x1 := cell_of_row _ X 1 _ _ _ hx
        have hsbW : sb < W.heap.size := (Array.getElem?_eq_some_iff.1 hS').1
        have s7 : W.cell? ⟨sb, 7, none⟩ = some (.bool wd) := cell_of_row _ sb 7 _ _ _ hS'
        obtain ⟨Y, hY⟩ : ∃ Y : (Int × Int) × Int, Y = if wd = true then ((0, 0), 7) else ((xn, xd), xe) := ⟨_, rfl⟩
        have HY := Lib.hid hY
        clear hY
        rw [← HY.out] at Hpk
        obtain ⟨⟨yn, yd⟩, ye⟩ := Y
        go_cut [11] (fun s11 wx => s11 = .int .i64 ye ∧ Yv X yn yd ye wx ∧ OQ 48 (w.heap.size + 1) wx (.slice (some ⟨g, 0, none⟩) (m + 1) cap) ((0, 1) :: p) ∧ Loc w wx none [.cells #[.int .i64 N, .slice (some ⟨bz, oz, none⟩) xs.length capz] 24])
        case first =>
          cases wd with
          | true =>
            obtain ⟨⟨rfl, rfl⟩, rfl⟩ : (yn = 0 ∧ yd = 0) ∧ ye = 7 := by have := HY.out; simp at this; exact this
            go_wp2_with fail
            go_meet
            exact ⟨rfl, fun h => absurd h (by decide), hownA, hlocA⟩
          | false =>
            obtain ⟨⟨rfl, rfl⟩, rfl⟩ : (yn = xn ∧ yd = xd) ∧ ye = xe := by have := HY.out; simp at this; exact this
            cases lo with
            | false =>
              obtain ⟨⟨rfl, rfl⟩, rfl⟩ : (yn = ln ∧ yd = ld) ∧ ye = 0 := by have := HR.out; simp [rawS] at this; exact this
              have s4 : W.cell? ⟨sb, 4, none⟩ = some (.bool false) := cell_of_row _ sb 4 _ _ _ hS'
              go_wp2_with fail
              go_meet
              exact ⟨rfl, fun _ => hx, hownA, hlocA⟩
            | true =>
              have s4 : W.cell? ⟨sb, 4, none⟩ = some (.bool true) := cell_of_row _ sb 4 _ _ _ hS'
              cases nh with
              | true =>
                have s6 : W.cell? ⟨sb, 6, none⟩ = some (.bool true) := cell_of_row _ sb 6 _ _ _ hS'
                have HA := Lib.hid (show addR ln ld 1 1 = ((yn, yd), ye) from HR.out.symm)
                go_wp2_with fail
                refine (pr_add ln ld 1 1 _ hI1 ⟨by decide, by decide⟩).mono ?_
                rw [HA.out]
                rintro e w8 ⟨he8, hb8⟩
                obtain rfl : e = .returned (.tuple #[.agg #[.int .i64 yn, .int .i64 yd], .int .i64 ye]) := he8
                have hx8 := (hb8.block X hXs).trans hx
                have hG8 := grown_set (i := 1) (v := .int .i64 yd) (grown_set (i := 0) (v := .int .i64 yn) (grownBy_below hb8 (some X)))
                have f0 := frozen_of_row _ X 0 _ _ hx8
                have f1 := frozen_of_row _ X 1 _ _ hx8
                have y0 := cell_of_row _ X 0 _ _ _ hx8
                have y1 := cell_of_row _ X 1 _ _ _ hx8
                clear x0 x1 s4 s6 s7
                go_wp2_with fail
                go_meet
                have k0 := heap_setCell_same _ X 0 _ _ (.int .i64 yn) hx8
                have k1 := heap_setCell_same _ X 1 _ _ (.int .i64 yd) k0
                exact ⟨rfl, fun _ => k1, World.ownsRow.kept hownA hG8 (.inr (fun e => hgX (Option.some.inj e))), hlocA.anyrow hG8 (fun g e => by cases e; exact hwX)⟩
              | false =>
                have s6 : W.cell? ⟨sb, 6, none⟩ = some (.bool false) := cell_of_row _ sb 6 _ _ _ hS'
                have s2 : W.cell? ⟨sb, 2, none⟩ = some (.int .i64 hn) := cell_of_row _ sb 2 _ _ _ hS'
                have s3 : W.cell? ⟨sb, 3, none⟩ = some (.int .i64 hd) := cell_of_row _ sb 3 _ _ _ hS'
                have HA := Lib.hid (show midR ln ld hn hd = ((yn, yd), ye) from HR.out.symm)
                have HM := Lib.hid (fun W => pr_middle ln ld hn hd W hL0 hI1 hI2)
                rw [HA.out] at HM
                go_upto_region 21 with fail
                refine wp_region_noPanic ?_
                refine wp_region_U (S := (fun w' => w'.cell? ⟨X, 0, none⟩ = some (.int .i64 ln) ∧ w'.cell? ⟨X, 1, none⟩ = some (.int .i64 ld) ∧ w'.cell? ⟨sb, 2, none⟩ = some (.int .i64 hn) ∧ w'.cell? ⟨sb, 3, none⟩ = some (.int .i64 hd))) (k := 10) (by kernel_rfl) ⟨x0, x1, s2, s3⟩ (fun hHeld => ?_)
                refine wpAnyU_take (i := 0) (v := ?_) rfl (by kernel_rfl) (by kernel_rfl) (by kernel_rfl) (by kernel_rfl) (by kernel_rfl) (by kernel_rfl) (fun _ _ _ h => h) (Or.inl ⟨by rfl, ?_⟩) (by assumption) ?_
                rotate_left
                · intro w hSw; (try dsimp only at hSw); go_simp; (try with_reducible rfl)
                try simp only [Act.put, List.getElem_toArray, List.getElem_cons_zero, List.setIfInBounds_toArray, List.set_cons_zero, List.set_cons_succ]
                refine wpAnyU_take (i := 1) (v := ?_) rfl (by kernel_rfl) (by kernel_rfl) (by kernel_rfl) (by kernel_rfl) (by kernel_rfl) (by kernel_rfl) (fun _ _ _ h => h) (Or.inl ⟨by rfl, ?_⟩) (by assumption) ?_
                rotate_left
                · intro w hSw; (try dsimp only at hSw); go_simp; (try with_reducible rfl)
                try simp only [Act.put, List.getElem_toArray, List.getElem_cons_zero, List.getElem_cons_succ, List.setIfInBounds_toArray, List.set_cons_zero, List.set_cons_succ]
                refine wpAnyU_take (i := 2) (v := ?_) rfl (by kernel_rfl) (by kernel_rfl) (by kernel_rfl) (by kernel_rfl) (by kernel_rfl) (by kernel_rfl) (fun _ _ _ h => h) (Or.inl ⟨by rfl, ?_⟩) (by assumption) ?_
                rotate_left
                · intro w hSw; (try dsimp only at hSw); go_simp; (try with_reducible rfl)
                try simp only [Act.put, List.getElem_toArray, List.getElem_cons_zero, List.getElem_cons_succ, List.setIfInBounds_toArray, List.set_cons_zero, List.set_cons_succ]
                refine wpAnyU_take (i := 3) (v := ?_) rfl (by kernel_rfl) (by kernel_rfl) (by kernel_rfl) (by kernel_rfl) (by kernel_rfl) (by kernel_rfl) (fun _ _ _ h => h) (Or.inl ⟨by rfl, ?_⟩) (by assumption) ?_
                rotate_left
                · intro w hSw; (try dsimp only at hSw); go_simp; (try with_reducible rfl)
                try simp only [Act.put, List.getElem_toArray, List.getElem_cons_zero, List.getElem_cons_succ, List.setIfInBounds_toArray, List.set_cons_zero, List.set_cons_succ]
                refine wpAnyU_take (i := 4) (v := ?_) rfl (by kernel_rfl) (by kernel_rfl) (by kernel_rfl) (by kernel_rfl) (by kernel_rfl) (by kernel_rfl) (fun _ _ _ h => h) (Or.inl ⟨by rfl, ?_⟩) (by assumption) ?_
                rotate_left
                · intro w hSw; (try dsimp only at hSw); go_simp; (try with_reducible rfl)
                try simp only [Act.put, List.getElem_toArray, List.getElem_cons_zero, List.getElem_cons_succ, List.setIfInBounds_toArray, List.set_cons_zero, List.set_cons_succ]
                refine wpAnyU_take (i := 5) (v := ?_) rfl (by kernel_rfl) (by kernel_rfl) (by kernel_rfl) (by kernel_rfl) (by kernel_rfl) (by kernel_rfl) (fun _ _ _ h => h) (Or.inl ⟨by rfl, ?_⟩) (by assumption) ?_
                rotate_left
                · intro w hSw; (try dsimp only at hSw); go_simp; (try with_reducible rfl)
                try simp only [Act.put, List.getElem_toArray, List.getElem_cons_zero, List.getElem_cons_succ, List.setIfInBounds_toArray, List.set_cons_zero, List.set_cons_succ]
                refine wpAnyU_ready (rs := [6]) (by kernel_rfl) (by simp) ?_
                refine AllReadyU.cons rfl (fun K hK => ?_) AllReadyU.nil
                go_simp
                refine (HM.out _).mono ?_
                rintro e w8 ⟨he8, hb8⟩
                obtain rfl : e = .returned (.tuple #[.agg #[.int .i64 yn, .int .i64 yd], .int .i64 ye]) := he8
                have q0 := keepb (show W.drew.cell? ⟨X, 0, none⟩ = _ from x0) hb8
                have q1 := keepb (show W.drew.cell? ⟨X, 1, none⟩ = _ from x1) hb8
                have q2 := keepb (show W.drew.cell? ⟨sb, 2, none⟩ = _ from s2) hb8
                have q3 := keepb (show W.drew.cell? ⟨sb, 3, none⟩ = _ from s3) hb8
                have hx8 := (hb8.block X (show X < W.heap.size from hXs)).trans (show W.drew.heap[X]? = _ from hx)
                have hG8 := grown_set (i := 1) (v := .int .i64 yd) (grown_set (i := 0) (v := .int .i64 yn) (grownBy_trans (grownBy_drew W (some X)) (grownBy_below hb8 (some X))))
                have f0 := frozen_of_row _ X 0 _ _ hx8
                have f1 := frozen_of_row _ X 1 _ _ hx8
                refine hK.out _ _ ⟨q0, q1, q2, q3⟩ (fun hHeld2 => ?_)
                clear hK K
                try simp only [Act.put, List.getElem_toArray, List.getElem_cons_zero, List.getElem_cons_succ, List.setIfInBounds_toArray, List.set_cons_zero, List.set_cons_succ]
                refine wpAnyU_take (i := 7) (v := ?_) rfl (by kernel_rfl) (by kernel_rfl) (by kernel_rfl) (by kernel_rfl) (by kernel_rfl) (by kernel_rfl) (fun _ _ _ h => h) (Or.inl ⟨by rfl, ?_⟩) (by assumption) ?_
                rotate_left
                · intro w hSw; (try dsimp only at hSw); go_simp; (try with_reducible rfl)
                try simp only [Act.put, List.getElem_toArray, List.getElem_cons_zero, List.getElem_cons_succ, List.setIfInBounds_toArray, List.set_cons_zero, List.set_cons_succ]
                refine wpAnyU_take (i := 8) (v := ?_) rfl (by kernel_rfl) (by kernel_rfl) (by kernel_rfl) (by kernel_rfl) (by kernel_rfl) (by kernel_rfl) (fun _ _ _ h => h) (Or.inl ⟨by rfl, ?_⟩) (by assumption) ?_
                rotate_left
                · intro w hSw; (try dsimp only at hSw); go_simp; (try with_reducible rfl)
                try simp only [Act.put, List.getElem_toArray, List.getElem_cons_zero, List.getElem_cons_succ, List.setIfInBounds_toArray, List.set_cons_zero, List.set_cons_succ]
                refine wpAnyU_takeW (i := 9) (v := ?_) rfl (by kernel_rfl) (by kernel_rfl) (by kernel_rfl) (by kernel_rfl) (fun _ _ _ h => h) (Or.inl ⟨by rfl, ?_⟩) (Or.inr (by assumption)) ?_
                rotate_left
                · intro w _; go_simp; (try with_reducible rfl)
                try simp only [Act.put, List.getElem_toArray, List.getElem_cons_zero, List.getElem_cons_succ, List.setIfInBounds_toArray, List.set_cons_zero, List.set_cons_succ]
                refine wpAnyU_ready (rs := [10]) (by kernel_rfl) (by simp) ?_
                refine AllReadyU.past rfl (by kernel_rfl) (fun K hK => ?_) AllReadyU.nil
                go_simp
                refine hK.out _ _ ?_
                clear hK K
                try simp only [Act.put, List.getElem_toArray, List.getElem_cons_zero, List.getElem_cons_succ, List.setIfInBounds_toArray, List.set_cons_zero, List.set_cons_succ]
                refine wpAnyU_takeW (i := 11) (v := ?_) rfl (by kernel_rfl) (by kernel_rfl) (by kernel_rfl) (by kernel_rfl) (fun _ _ _ h => h) (Or.inl ⟨by rfl, ?_⟩) (Or.inl (by kernel_rfl)) ?_
                rotate_left
                · intro w _; go_simp; (try with_reducible rfl)
                try simp only [Act.put, List.getElem_toArray, List.getElem_cons_zero, List.getElem_cons_succ, List.setIfInBounds_toArray, List.set_cons_zero, List.set_cons_succ]
                refine wpAnyU_done (by kernel_rfl) ?_ _
                refine NoPanic.normal ?_
                go_wp2_with fail
                go_meet
                have k0 := heap_setCell_same _ X 0 _ _ (.int .i64 yn) hx8
                have k1 := heap_setCell_same _ X 1 _ _ (.int .i64 yd) k0
                exact ⟨rfl, fun _ => k1, World.ownsRow.kept hownA hG8 (.inr (fun e => hgX (Option.some.inj e))), hlocA.anyrow hG8 (fun g e => by cases e; exact hwX)⟩
        case rest =>
          obtain ⟨rfl, hx, hown, hloc⟩ := hcut
          clear hownA hlocA x0 x1 hXs hsbW HR hS' s7
          by_cases he : ye = 0
          rotate_left
          · have heb : (ye != 0) = true := by simpa using he
            have HE := Lib.hid (HPB.out (by rw [Hpk.out]; exact he))
            clear he
            go_wp2_with fail
            go_ret2
            exact ⟨QE.err HE.out _, below_grownBy hloc.grown⟩
          subst he
          have HE := Lib.hid (HPO.out (by rw [Hpk.out]))
          rw [Hpk.out] at HE HPI
          simp only at HE HPI
          have hx := hx rfl
          have x0 := cell_of_row _ X 0 _ _ _ hx
          have x1 := cell_of_row _ X 1 _ _ _ hx
          have hownB := Lib.hid (World.ownsRow.alloc hown (.cells #[.int .i64 yn, .int .i64 yd] 48))
          have hrl := Lib.hid (rs_one2 wc yn yd 48)
          have hlocB := hloc.next (World.grownBy_alloc wc (.cells #[.int .i64 yn, .int .i64 yd] 48) none) (fun _ h => by cases h)
          have hWs : w.heap.size + 1 ≤ wc.heap.size := hloc.size
          obtain ⟨i0, hi0, hz0, hz1, hz2⟩ := info_parts Try.infoQ
          have Hi := Lib.hid hi0
          have Hz0 := Lib.hid hz0
          have Hz1 := Lib.hid hz1
          have Hz2 := Lib.hid hz2
          have HpL3 := Lib.hid (show ((0, 1) :: p).length = m + 1 by rw [List.length_cons]; exact HpL.out)
          rw [HpL3.out] at hownB
          clear hi0 hz0 hz1 hz2
          go_wp2_with (at_builtin; (refine wpList_append_rs rfl (.tmp 105) (.tmp 107) 90 rfl (w.heap.size + 1) 48 i0 (.agg #[.int .i64 0, .int .i64 0]) 2 16 Try.undPt Hi.out Hz0.out Hz1.out Hz2.out rfl (by decide) (.slice (some ⟨g, 0, none⟩) (m + 1) cap) (m + 1) (((0, 1) :: p).flatMap cells2) rfl hownB.out (wc.heap.size + 1) (.slice (some ⟨wc.heap.size, 0, none⟩) 1 1) rfl 1 [.int .i64 yn, .int .i64 yd] hrl.out rfl ?_ ?_ ?_ ?_ ?_; (intro u hu; simp only [List.mem_cons, List.not_mem_nil, or_false] at hu; rcases hu with rfl | rfl <;> rfl); (unfold maxLen; omega); omega; (simp; omega); intro v' w' ho' hg'))
          go_roundw
          case rel => exact ⟨m + 2, p ++ [(yn, yd)], by omega, by omega, by go_num, HE.out, by rw [List.length_append]; show p.length + 1 + 1 = m + 2; rw [HpL.out], gq_snoc_i64 HI0.out HPI.out, by rw [← List.cons_append]; unfold OQ; rw [List.length_append, HpL3.out, List.flatMap_append]; exact ho', hlocB.anyrow hg' (fun g' e => by cases e; exact hgb)⟩
          case measure => simp [intOf]; omega
end Go.Proofs.Ytkgaipcgdldfdaa
