/- Middle of both sides. -/
import Derived.Test.YtkgaipcgdldfdaaMid
import Derived.Deep.DeepCutAuto
import Derived.BigQuiet
namespace Go.Proofs.Ytkgaipcgdldfdaa
open Go.RowKit
set_option linter.unusedVariables false

theorem cm_eq (a b c d : Int) : cmR a b c d = cmpR a b c d := by
  unfold cmR cmpR
  by_cases h : vr a b = true ∧ vr c d = true
  · rw [if_pos h, if_pos h]
    have e1 : (a * d - c * b < 0) = (a * d < c * b) := propext (by omega)
    have e2 : (0 < a * d - c * b) = (c * b < a * d) := propext (by omega)
    simp only [e1, e2]
  · rw [if_neg h, if_neg h]
/-- What Middle returns. -/
def midR (a b c d : Int) : (Int × Int) × Int := if (cmpR a b c d).2 ≠ 0 ∨ 0 ≤ (cmpR a b c d).1 then ((0, 0), 2) else mkR (midF (b + d).toNat a b c d).1 (midF (b + d).toNat a b c d).2
theorem midR_no {a b c d : Int} (h : (cmpR a b c d).2 ≠ 0 ∨ 0 ≤ (cmpR a b c d).1) : midR a b c d = ((0, 0), 2) := by unfold midR; rw [if_pos h]
theorem midR_yes {a b c d : Int} (h : ¬ ((cmpR a b c d).2 ≠ 0 ∨ 0 ≤ (cmpR a b c d).1)) : midR a b c d = mkR (midF (b + d).toNat a b c d).1 (midF (b + d).toNat a b c d).2 := by unfold midR; rw [if_neg h]
theorem midE_of {a b c d : Int} (ha : 0 ≤ a) (h : ¬ ((cmpR a b c d).2 ≠ 0 ∨ 0 ≤ (cmpR a b c d).1)) : MidE a b c d := by
  by_cases hv : vr a b = true ∧ vr c d = true
  · rw [cmpR_yes hv] at h
    obtain ⟨p1, p2, p3, p4, _⟩ := (vr_iff a b).1 hv.1
    obtain ⟨q1, q2, q3, q4, _⟩ := (vr_iff c d).1 hv.2
    have hlt : a * d < c * b := by
      by_cases c1 : a * d < c * b
      · exact c1
      · exfalso; apply h; right; simp only; rw [if_neg c1]; split <;> omega
    exact ⟨ha, p1, by omega, hlt, p4, p2, q4, q2⟩
  · rw [cmpR_no hv] at h; exact absurd (.inl (by simp)) h

theorem midL_yes {f : Nat} {n d m e : Int} (h : e = 0 ∨ (n / d + 1) * e < m) : midL (f + 1) n d m e = [n / d + 1] := by unfold midL; rw [if_pos h]
theorem midL_no {f : Nat} {n d m e : Int} (h : ¬ (e = 0 ∨ (n / d + 1) * e < m)) : midL (f + 1) n d m e = n / d :: midL f e (m - n / d * e) d (n - n / d * d) := by
  conv => lhs; unfold midL
  rw [if_neg h]
theorem Try.infoI64 : (Try.prog.info? 2).map (fun i => (i.zero, i.size, i.bytes)) = some (some (.int .i64 0), 1, 8) := by kernel_rfl
theorem Try.undI64s : Try.prog.underlying 121 = some (.slice 2) := by kernel_rfl
theorem pr_floor0 (n d : Int) (w : World) (h1 : 0 ≤ n) (h2 : n ≤ 9223372036854775807) (h3 : 1 ≤ d) (h4 : d ≤ 9223372036854775807) :
    Calls Try.prog 137 #[.int .i64 n, .int .i64 d] w fun e w' => e = .returned (.int .i64 (n / d)) ∧ w = w' := by
  have q1 : 0 ≤ n / d := Int.ediv_nonneg h1 (by omega)
  have q2 : n / d ≤ n := Int.ediv_le_self _ h1
  have t1 : n.tdiv d = n / d := Int.tdiv_eq_ediv_of_nonneg h1
  have hm := Int.emod_add_mul_ediv n d
  have hm1 := Int.emod_nonneg n (show d ≠ 0 by omega)
  rw [Int.mul_comm] at hm
  have q3 : n / d * d ≤ n := by omega
  have q4 : 0 ≤ n / d * d := Int.mul_nonneg q1 (by omega)
  have d0 : ¬ d = 0 := by omega
  clear hm hm1
  generalize hQ : n / d = q at *
  generalize hM : q * d = m at *
  have hw : IntKind.i64.wrap m = m := by rw [IntKind.wrap_i64]; omega
  have d1 : decide (n < m) = false := by simp; omega
  go_enter Try.func137, Try.ntmps137
  go_wp2_with fail
  go_ret
  exact ⟨rfl, rfl⟩
set_option maxRecDepth 100000 in
set_option maxHeartbeats 2000000 in
theorem r1_middle (a b c d : Int) (w : World) (ha : 0 ≤ a) :
    Calls Try.prog 98 #[.agg #[.int .i64 a, .int .i64 b], .agg #[.int .i64 c, .int .i64 d]] w fun e w' => RE (midR a b c d) e ∧ Below w.heap.size w w' := by
  have hloc0 := Loc.three w (.cells #[.int .i64 a, .int .i64 b] 48) (.cells #[.int .i64 c, .int .i64 d] 48) (.cells #[.int .i64 0, .int .i64 0] 48) none
  have HN := Lib.hid (fun h => midR_no (a := a) (b := b) (c := c) (d := d) h)
  have HY := Lib.hid (fun h => midR_yes (a := a) (b := b) (c := c) (d := d) h)
  have HE := Lib.hid (fun h => midE_of (a := a) (b := b) (c := c) (d := d) ha h)
  have HC := Lib.hid (fun w => r1_cmp a b c d w)
  generalize cmpR a b c d = C at *
  obtain ⟨k, x⟩ := C
  have err : ∀ h : (x ≠ 0 ∨ 0 ≤ k), True := fun _ => trivial
  by_cases hx : x = 0
  rotate_left
  · have e1 : (x != 0) = true := by simpa using hx
    have H := Lib.hid (HN.out (.inl hx))
    go_enter Try.func98, Try.ntmps98
    go_wp2_with fail
    refine (HC.out _).mono ?_
    rintro e w1 ⟨he, hb1⟩
    obtain rfl : e = .returned (.tuple #[.int .i64 k, .int .i64 x]) := he
    have hloc1 := hloc0.next (grownBy_below hb1 none) (fun _ h => by cases h)
    have r0 : w1.cell? ⟨w.heap.size + 1 + 1, 0, none⟩ = some (.int .i64 0) := hloc1.cell 2 rfl 0
    have r1 : w1.cell? ⟨w.heap.size + 1 + 1, 1, none⟩ = some (.int .i64 0) := hloc1.cell 2 rfl 1
    have r2 : w1.frozen? ⟨w.heap.size + 1 + 1, 0, none⟩ = false := hloc1.free 2 rfl 0
    have r3 : w1.frozen? ⟨w.heap.size + 1 + 1, 1, none⟩ = false := hloc1.free 2 rfl 1
    have Hb := Lib.hid (below_grownBy hloc1.grown)
    clear hb1 hloc0 hloc1
    go_wp2_with fail
    refine bodyPost_ret (v := .tuple #[.agg #[.int .i64 0, .int .i64 0], .int .i64 2]) (by simp [results, Try.results98, go_sem, r0, r1]) rfl ⟨RE.of H.out, ?_⟩
    exact (Hb.out.setCell (by simp; omega) _).setCell (by simp; omega) _
  by_cases hk : 0 ≤ k
  · subst hx
    have e2 : decide (0 ≤ k) = true := by simpa using hk
    have H := Lib.hid (HN.out (.inr hk))
    go_enter Try.func98, Try.ntmps98
    go_wp2_with fail
    refine (HC.out _).mono ?_
    rintro e w1 ⟨he, hb1⟩
    obtain rfl : e = .returned (.tuple #[.int .i64 k, .int .i64 0]) := he
    have hloc1 := hloc0.next (grownBy_below hb1 none) (fun _ h => by cases h)
    have r0 : w1.cell? ⟨w.heap.size + 1 + 1, 0, none⟩ = some (.int .i64 0) := hloc1.cell 2 rfl 0
    have r1 : w1.cell? ⟨w.heap.size + 1 + 1, 1, none⟩ = some (.int .i64 0) := hloc1.cell 2 rfl 1
    have r2 : w1.frozen? ⟨w.heap.size + 1 + 1, 0, none⟩ = false := hloc1.free 2 rfl 0
    have r3 : w1.frozen? ⟨w.heap.size + 1 + 1, 1, none⟩ = false := hloc1.free 2 rfl 1
    have Hb := Lib.hid (below_grownBy hloc1.grown)
    clear hb1 hloc0 hloc1
    go_wp2_with fail
    refine bodyPost_ret (v := .tuple #[.agg #[.int .i64 0, .int .i64 0], .int .i64 2]) (by simp [results, Try.results98, go_sem, r0, r1]) rfl ⟨RE.of H.out, ?_⟩
    exact (Hb.out.setCell (by simp; omega) _).setCell (by simp; omega) _
  subst hx
  have e2 : decide (0 ≤ k) = false := by simpa using hk
  have hE := HE.out (fun h => by rcases h with h | h; exact h rfl; exact hk h)
  have HR := Lib.hid (HY.out (fun h => by rcases h with h | h; exact h rfl; exact hk h))
  obtain ⟨F, hF⟩ : ∃ F, F = (b + d).toNat := ⟨_, rfl⟩
  have hdF : b + d ≤ (F : Int) := by have := hE.d0; have := hE.e0; omega
  rw [← hF] at HR
  have HFb := Lib.hid (show F ≤ 4294967294 by have := hE.bd; have := hE.be; omega)
  clear hF hk HN HY HE err
  have HB := Lib.hid (mid_bd _ _ _ _ _ hE hdF)
  have b1 := hE.n0
  have b2 := hE.d0
  have b3 := hE.e0
  have b4 := hE.bn
  have b5 := hE.bd
  have b6 := hE.bm
  have b7 := hE.be
  have HS := Lib.hid (fun w => ref_simplest F a b c d w hE hdF)
  generalize midF F a b c d = M at *
  obtain ⟨P, Q⟩ := M
  obtain ⟨g1, g2, g3, g4⟩ := HB.out
  simp only at g1 g2 g3 g4 HR
  go_enter Try.func98, Try.ntmps98
  go_wp2_with fail
  refine (HC.out _).mono ?_
  rintro e w1 ⟨he, hb1⟩
  obtain rfl : e = .returned (.tuple #[.int .i64 k, .int .i64 0]) := he
  have hloc1 := hloc0.next (grownBy_below hb1 none) (fun _ h => by cases h)
  have l0 : w1.cell? ⟨w.heap.size, 0, none⟩ = some (.int .i64 a) := hloc1.cell 0 rfl 0
  have l1 : w1.cell? ⟨w.heap.size, 1, none⟩ = some (.int .i64 b) := hloc1.cell 0 rfl 1
  have l2 : w1.cell? ⟨w.heap.size + 1, 0, none⟩ = some (.int .i64 c) := hloc1.cell 1 rfl 0
  have l3 : w1.cell? ⟨w.heap.size + 1, 1, none⟩ = some (.int .i64 d) := hloc1.cell 1 rfl 1
  clear hb1 hloc0
  go_wp2_with fail
  refine (HS.out _).mono ?_
  rintro e w2 ⟨he, hb2⟩
  obtain rfl : e = .returned (.tuple #[.int .i64 P, .int .i64 Q]) := he
  have hloc2 := hloc1.next (grownBy_below hb2 none) (fun _ h => by cases h)
  clear hb2 hloc1 l0 l1 l2 l3
  go_wp2_with fail
  refine (r1_make _ _ _ (by omega) (by omega) (by omega) (by omega)).mono ?_
  generalize hR : mkR P Q = R at *
  obtain ⟨⟨p, q⟩, x⟩ := R
  rintro e w3 ⟨he, hb3⟩
  obtain rfl : e = .returned (.tuple #[.agg #[.int .i64 p, .int .i64 q], .int .i64 x]) := he
  have hloc3 := hloc2.next (grownBy_below hb3 none) (fun _ h => by cases h)
  have r0 : w3.cell? ⟨w.heap.size + 1 + 1, 0, none⟩ = some (.int .i64 0) := hloc3.cell 2 rfl 0
  have r1 : w3.cell? ⟨w.heap.size + 1 + 1, 1, none⟩ = some (.int .i64 0) := hloc3.cell 2 rfl 1
  have r2 : w3.frozen? ⟨w.heap.size + 1 + 1, 0, none⟩ = false := hloc3.free 2 rfl 0
  have r3 : w3.frozen? ⟨w.heap.size + 1 + 1, 1, none⟩ = false := hloc3.free 2 rfl 1
  have Hb := Lib.hid (below_grownBy hloc3.grown)
  clear hb3 hloc2 hloc3 hR
  go_wp2_with fail
  refine bodyPost_ret (v := .tuple #[.agg #[.int .i64 p, .int .i64 q], .int .i64 x]) (by simp [results, Try.results98, go_sem, r0, r1]) rfl ⟨RE.of HR.out, ?_⟩
  exact (Hb.out.setCell (by simp; omega) _).setCell (by simp; omega) _
set_option maxRecDepth 100000 in
set_option maxHeartbeats 2000000 in
theorem pr_middle (a b c d : Int) (w : World) (ha : 0 ≤ a) (hA : I64 a) (hc : I64 c) :
    Calls Try.prog 96 #[.agg #[.int .i64 a, .int .i64 b], .agg #[.int .i64 c, .int .i64 d]] w fun e w' => RE (midR a b c d) e ∧ Below w.heap.size w w' := by
  have hloc0 := Loc.three w (.cells #[.int .i64 a, .int .i64 b] 48) (.cells #[.int .i64 c, .int .i64 d] 48) (.cells #[.int .i64 0, .int .i64 0] 48) none
  have HN := Lib.hid (fun h => midR_no (a := a) (b := b) (c := c) (d := d) h)
  have HY := Lib.hid (fun h => midR_yes (a := a) (b := b) (c := c) (d := d) h)
  have HE := Lib.hid (fun h => midE_of (a := a) (b := b) (c := c) (d := d) ha h)
  have HC := Lib.hid (fun w => pr_cmp a b c d w hA hc)
  rw [cm_eq] at HC
  generalize cmpR a b c d = C at *
  obtain ⟨k, x⟩ := C
  have err : ∀ h : (x ≠ 0 ∨ 0 ≤ k), True := fun _ => trivial
  by_cases hx : x = 0
  rotate_left
  · have e1 : (x != 0) = true := by simpa using hx
    have H := Lib.hid (HN.out (.inl hx))
    go_enter Try.func96, Try.ntmps96
    go_wp2_with fail
    refine (HC.out _).mono ?_
    rintro e w1 ⟨he, hb1⟩
    obtain rfl : e = .returned (.tuple #[.int .i64 k, .int .i64 x]) := he
    have hloc1 := hloc0.next (grownBy_below hb1 none) (fun _ h => by cases h)
    have r0 : w1.cell? ⟨w.heap.size + 1 + 1, 0, none⟩ = some (.int .i64 0) := hloc1.cell 2 rfl 0
    have r1 : w1.cell? ⟨w.heap.size + 1 + 1, 1, none⟩ = some (.int .i64 0) := hloc1.cell 2 rfl 1
    have r2 : w1.frozen? ⟨w.heap.size + 1 + 1, 0, none⟩ = false := hloc1.free 2 rfl 0
    have r3 : w1.frozen? ⟨w.heap.size + 1 + 1, 1, none⟩ = false := hloc1.free 2 rfl 1
    have Hb := Lib.hid (below_grownBy hloc1.grown)
    clear hb1 hloc0 hloc1
    go_wp2_with fail
    refine bodyPost_ret (v := .tuple #[.agg #[.int .i64 0, .int .i64 0], .int .i64 2]) (by simp [results, Try.results96, go_sem, r0, r1]) rfl ⟨RE.of H.out, ?_⟩
    exact (Hb.out.setCell (by simp; omega) _).setCell (by simp; omega) _
  by_cases hk : 0 ≤ k
  · subst hx
    have e2 : decide (0 ≤ k) = true := by simpa using hk
    have H := Lib.hid (HN.out (.inr hk))
    go_enter Try.func96, Try.ntmps96
    go_wp2_with fail
    refine (HC.out _).mono ?_
    rintro e w1 ⟨he, hb1⟩
    obtain rfl : e = .returned (.tuple #[.int .i64 k, .int .i64 0]) := he
    have hloc1 := hloc0.next (grownBy_below hb1 none) (fun _ h => by cases h)
    have r0 : w1.cell? ⟨w.heap.size + 1 + 1, 0, none⟩ = some (.int .i64 0) := hloc1.cell 2 rfl 0
    have r1 : w1.cell? ⟨w.heap.size + 1 + 1, 1, none⟩ = some (.int .i64 0) := hloc1.cell 2 rfl 1
    have r2 : w1.frozen? ⟨w.heap.size + 1 + 1, 0, none⟩ = false := hloc1.free 2 rfl 0
    have r3 : w1.frozen? ⟨w.heap.size + 1 + 1, 1, none⟩ = false := hloc1.free 2 rfl 1
    have Hb := Lib.hid (below_grownBy hloc1.grown)
    clear hb1 hloc0 hloc1
    go_wp2_with fail
    refine bodyPost_ret (v := .tuple #[.agg #[.int .i64 0, .int .i64 0], .int .i64 2]) (by simp [results, Try.results96, go_sem, r0, r1]) rfl ⟨RE.of H.out, ?_⟩
    exact (Hb.out.setCell (by simp; omega) _).setCell (by simp; omega) _
  subst hx
  have e2 : decide (0 ≤ k) = false := by simpa using hk
  have hE := HE.out (fun h => by rcases h with h | h; exact h rfl; exact hk h)
  have HR := Lib.hid (HY.out (fun h => by rcases h with h | h; exact h rfl; exact hk h))
  obtain ⟨F, hF⟩ : ∃ F, F = (b + d).toNat := ⟨_, rfl⟩
  have hdF : b + d ≤ (F : Int) := by have := hE.d0; have := hE.e0; omega
  rw [← hF] at HR
  have HFb := Lib.hid (show F ≤ 4294967294 by have := hE.bd; have := hE.be; omega)
  clear hF hk HN HY HE err
  have HB := Lib.hid (mid_bd _ _ _ _ _ hE hdF)
  have b1 := hE.n0
  have b2 := hE.d0
  have b3 := hE.e0
  have b4 := hE.bn
  have b5 := hE.bd
  have b6 := hE.bm
  have b7 := hE.be
  obtain ⟨L, hL⟩ : ∃ L, L = midL F a b c d := ⟨_, rfl⟩
  have hBR := midF_L _ _ _ _ _ hE hdF
  have HLb := Lib.hid (midL_bd _ _ _ _ _ hE hdF)
  have HLa := Lib.hid (midL_at _ _ _ _ _ hE hdF)
  have hLl := midL_len F a b c d
  rw [← hL] at hBR HLb HLa hLl
  have HLl := Lib.hid (show L.length ≤ 4294967294 from Nat.le_trans hLl HFb.out)
  rw [hBR] at HR
  obtain ⟨B, hBd⟩ : ∃ B : Nat → Int × Int, B = fun j => midB (L.drop j) (1, 0) := ⟨_, rfl⟩
  have HB0 := Lib.hid (show B L.length = (1, 0) by rw [hBd]; simp only; rw [List.drop_length]; rfl)
  have HBs := Lib.hid (show ∀ j, j < L.length → B j = (gi L j * (B (j + 1)).1 + (B (j + 1)).2, (B (j + 1)).1) from fun j hj => by rw [hBd]; exact midB_step L j hj)
  have HBb := Lib.hid (show ∀ j, In31 (B j).1 ∧ In31 (B j).2 from fun j => by rw [hBd]; exact HLb.out j)
  have HR := Lib.hid (show midR a b c d = mkR (B 0).1 (B 0).2 by rw [hBd]; exact HR.out)
  clear hBR HB hLl hBd HLb
  have HLe := Lib.hid hL.symm
  have HEE := Lib.hid hE
  have HdF := Lib.hid hdF
  obtain ⟨i0, hi, hz0, hz1, hz2⟩ := info_parts Try.infoI64
  have Hi := Lib.hid hi
  have Hz0 := Lib.hid hz0
  have Hz1 := Lib.hid hz1
  have Hz2 := Lib.hid hz2
  clear hi hz0 hz1 hz2 hE hdF hL
  go_enter Try.func96, Try.ntmps96
  go_wp2_with fail
  refine (HC.out _).mono ?_
  rintro e w1 ⟨he, hb1⟩
  obtain rfl : e = .returned (.tuple #[.int .i64 k, .int .i64 0]) := he
  have hloc1 := hloc0.next (grownBy_below hb1 none) (fun _ h => by cases h)
  have l0 : w1.cell? ⟨w.heap.size, 0, none⟩ = some (.int .i64 a) := hloc1.cell 0 rfl 0
  have l1 : w1.cell? ⟨w.heap.size, 1, none⟩ = some (.int .i64 b) := hloc1.cell 0 rfl 1
  have l2 : w1.cell? ⟨w.heap.size + 1, 0, none⟩ = some (.int .i64 c) := hloc1.cell 1 rfl 0
  have l3 : w1.cell? ⟨w.heap.size + 1, 1, none⟩ = some (.int .i64 d) := hloc1.cell 1 rfl 1
  clear hb1 hloc0
  have Hloc1 := Lib.hid hloc1
  clear hloc1 b1 b2 b3 b4 b5 b6 b7
  go_upto_region 5 with fail
  go_quiet (fail)
  have Hloc2 := Lib.hid (Hloc1.out.next (grownBy_below (below_drewN w1 nq) none) (fun _ h => by cases h))
  generalize w1.drewN nq = W1 at *
  clear l0 l1 l2 l3 Hloc1
  go_wp2_with fail
  go_loopw [8, 9, 10, 11, 12] (fun o n' d' m' e' wr => ∃ (n D m E : Int) (f : Nat) (ks : List Int), n' = .int .i64 n ∧ d' = .int .i64 D ∧ m' = .int .i64 m ∧ e' = .int .i64 E ∧ MidE n D m E ∧ D + E ≤ f ∧ L = ks ++ midL f n D m E ∧ OL 2 (w.heap.size + 3) wr o ks ∧ Loc w wr none [.cells #[.int .i64 a, .int .i64 b] 48, .cells #[.int .i64 c, .int .i64 d] 48, .cells #[.int .i64 0, .int .i64 0] 48]) (fun _ _ d' _ e' _ => (intOf d' + intOf e').toNat)
  case atStart => exact ⟨a, b, c, d, F, [], rfl, rfl, rfl, rfl, HEE.out, HdF.out, HLe.out.symm, OL.nil _ _ _, Hloc2.out⟩
  case round =>
    clear Hloc2
    obtain ⟨n, D, m, E, f, ks, rfl, rfl, rfl, rfl, hE, hf, hL, hown, hloc⟩ := hrel
    obtain ⟨⟨x1, x2⟩, ⟨x3, x4⟩, ⟨x5, x6⟩⟩ := hE.bds
    obtain ⟨k0, k1, k2, k3⟩ := hE.k
    have b1 := hE.n0
    have b2 := hE.d0
    have b3 := hE.e0
    have b4 := hE.bn
    have b5 := hE.bd
    have b6 := hE.bm
    have b7 := hE.be
    have b8 := hE.m0
    obtain ⟨f, rfl⟩ : ∃ f', f = f' + 1 := ⟨f - 1, by omega⟩
    have HNX := Lib.hid (fun hn => (hE.next hn))
    have HFl := Lib.hid (fun (w : World) => pr_floor0 n D w (by omega) (by omega) (by omega) (by omega))
    have HEo := Lib.hid hE
    have Hf := Lib.hid hf
    have w1' : IntKind.i64.wrap ((n / D + 1) * E) = (n / D + 1) * E := by rw [IntKind.wrap_i64]; omega
    have w2' : IntKind.i64.wrap (n / D * E) = n / D * E := by rw [IntKind.wrap_i64]; omega
    have w3' : IntKind.i64.wrap (n / D * D) = n / D * D := by rw [IntKind.wrap_i64]; omega
    have Hown := Lib.hid hown
    have Hloc := Lib.hid hloc
    have Hkl := Lib.hid (show ks.length ≤ 4294967294 by have := HLl.out; rw [hL, List.length_append] at this; omega)
    have Hws := Lib.hid (show w.heap.size + 3 ≤ wr.heap.size from hloc.size)
    clear hE hf hown hloc
    by_cases hc : E = 0 ∨ (n / D + 1) * E < m
    · have HLk := Lib.hid (show L = ks ++ [n / D + 1] by rw [hL, midL_yes hc])
      clear hL HNX HEo Hf
      have hcc : (E == 0) = true ∨ ((E == 0) = false ∧ decide ((n / D + 1) * E < m) = true) := by
        by_cases he : E = 0
        · left; simpa using he
        · right; exact ⟨by simpa using he, by rcases hc with h | h; exact absurd h he; simpa using h⟩
      have Hcc := Lib.hid hcc
      clear hc hcc
      generalize hQ : n / D = k at *
      generalize hX : (k + 1) * E = X at *
      go_upto_region 7 with (go_at_call 137; refine (HFl.out _).mono ?_; rintro r w5 ⟨rfl, rfl⟩)
      go_cut [50] (fun s50 wx => s50 = .bool true ∧ wx = wr)
      case first =>
        rcases Hcc.out with h | ⟨h, h'⟩
        · go_wp2_with fail
          go_meet
          exact ⟨rfl, rfl⟩
        · go_wp2_with fail
          go_meet
          exact ⟨rfl, rfl⟩
      case rest =>
        obtain ⟨rfl, hwc⟩ := hcut
        subst hwc
        clear x1 x2 x3 x4 x5 x6 w1' w2' w3'
        have hkb : 0 ≤ k + 1 ∧ k + 1 ≤ 9223372036854775807 := by omega
        go_wp2_with (at_builtin; (refine wpList_append_rs rfl (.tmp 51) (.tmp 54) 121 rfl (w.heap.size + 3) 2 i0 (.int .i64 0) 1 8 Try.undI64s Hi.out Hz0.out Hz1.out Hz2.out rfl (by decide) u8 ks.length (ks.map (Value.int .i64)) rfl ?_ (wc.heap.size + 1) (.slice (some ⟨wc.heap.size, 0, none⟩) 1 1) rfl 1 [.int .i64 (k + 1)] ?_ rfl ?_ ?_ ?_ ?_ ?_; (exact World.ownsRow.alloc Hown.out _); (exact rl_lit (xs := [k + 1]) rfl rfl (by simp)); (exact ints_oneCell' [k + 1]); (have := Hkl.out; unfold maxLen; omega); (have := Hkl.out; omega); (simp; have := Hws.out; omega); intro v' w' ho' hg'; (have hoL : OL 2 (w.heap.size + 3) w' v' L := by (rw [HLk.out]; unfold OL; rw [List.length_append, List.map_append]; exact ho')); obtain ⟨g, cap, rfl, _, _, hLle, hgc⟩ := hoL.open (by rw [HLk.out]; simp)))
        have Hlo2 := Lib.hid ((Hloc.out.next (World.grownBy_alloc wc (.cells #[.int .i64 (k + 1)] 2) none) (fun _ h => by cases h)).anyrow hg' (fun g e => (World.ownsRow.lt Hown.out g e).1))
        clear ho' hg'
        have Hg := Lib.hid hgc
        clear hoL hgc HLk k0 k1 k2 k3 b1 b2 b3 b4 b5 b6 b7 b8 hkb Hown Hloc Hkl Hws HFl Hcc
        go_loopw [14, 15, 16] (fun p' q' i wx => ∃ (I : Int) (j : Nat), j ≤ L.length ∧ I = (j : Int) - 1 ∧ p' = .int .i64 (B j).1 ∧ q' = .int .i64 (B j).2 ∧ i = .int .i64 I ∧ w' = wx) (fun _ _ i _ => (intOf i + 1).toNat)
        case atStart => exact ⟨_, L.length, Nat.le_refl _, rfl, by rw [HB0.out], by rw [HB0.out], rfl, rfl⟩
        case round =>
          obtain ⟨I, j, hj, hI, rfl, rfl, rfl, hwx⟩ := hrel
          subst hwx
          cases j with
          | zero =>
            obtain rfl : I = -1 := hI
            obtain ⟨⟨m1, m2⟩, m3, m4⟩ := HBb.out 0
            have hloc2 := Hlo2.out
            generalize B 0 = M at *
            obtain ⟨P, Q⟩ := M
            simp only at m1 m2 m3 m4 HR
            clear hLle
            go_wp2_with fail

            refine (pr_make _ _ _ (by omega) (by omega) (by omega) (by omega)).mono ?_
            generalize hR : mkR P Q = R at *
            obtain ⟨⟨p, q⟩, x⟩ := R
            rintro e w3 ⟨he, hb3⟩
            obtain rfl : e = .returned (.tuple #[.agg #[.int .i64 p, .int .i64 q], .int .i64 x]) := he
            have hloc3 := hloc2.next (grownBy_below hb3 none) (fun _ h => by cases h)
            have r0 : w3.cell? ⟨w.heap.size + 1 + 1, 0, none⟩ = some (.int .i64 0) := hloc3.cell 2 rfl 0
            have r1 : w3.cell? ⟨w.heap.size + 1 + 1, 1, none⟩ = some (.int .i64 0) := hloc3.cell 2 rfl 1
            have r2 : w3.frozen? ⟨w.heap.size + 1 + 1, 0, none⟩ = false := hloc3.free 2 rfl 0
            have r3 : w3.frozen? ⟨w.heap.size + 1 + 1, 1, none⟩ = false := hloc3.free 2 rfl 1
            have Hb := Lib.hid (below_grownBy hloc3.grown)
            clear hb3 hloc2 hloc3 hR
            go_wp2_with fail
            refine bodyPost_ret (v := .tuple #[.agg #[.int .i64 p, .int .i64 q], .int .i64 x]) (by simp [results, Try.results96, go_sem, r0, r1]) rfl ⟨RE.of HR.out, ?_⟩
            exact (Hb.out.setCell (by simp; omega) _).setCell (by simp; omega) _
          | succ j =>
            obtain rfl : I = (j : Int) := by rw [hI]; push_cast; omega
            obtain ⟨⟨m1, m2⟩, m3, m4⟩ := HBb.out (j + 1)
            obtain ⟨⟨m5, m6⟩, m7, m8⟩ := HBb.out j
            have hs := HBs.out j (by omega)
            rw [hs] at m5 m6
            have hx := HLa.out j (by omega)
            obtain ⟨hx, _⟩ := hx
            have hcell := (Hg.out j (by omega)).1
            have hj1 : (j : Int) < (L.length : Int) := by omega
            have hj0 : (0 : Int) ≤ (j : Int) := by omega
            have Hs := Lib.hid hs
            generalize gi L j = x at *
            generalize B (j + 1) = M at *
            obtain ⟨P, Q⟩ := M
            simp only at m1 m2 m3 m4 m5 m6
            have hm0 : 0 ≤ x * P := Int.mul_nonneg hx m1
            have hww : IntKind.i64.wrap (x * P) = x * P := by rw [IntKind.wrap_i64]; omega
            generalize hX2 : x * P = Y at *
            clear hs hI m7 m8
            go_wp2_with fail
            go_roundw
            case rel => exact ⟨_, j, by omega, rfl, by rw [Hs.out], by rw [Hs.out], by first | rfl | trivial, by first | rfl | trivial⟩
            case measure => simp [intOf] <;> omega
    · have HN2 := Lib.hid (HNX.out hc)
      have HLk := Lib.hid (show L = ks ++ [n / D] ++ midL f E (m - n / D * E) D (n - n / D * D) by rw [hL, midL_no hc, List.append_assoc]; rfl)
      have hcE : (E == 0) = false := by simpa using fun h => hc (.inl h)
      have hcL : decide ((n / D + 1) * E < m) = false := by simpa using fun h => hc (.inr h)
      have Hkl2 := Lib.hid (show ks.length + 1 ≤ 4294967294 by have := HLl.out; rw [HLk.out] at this; simp at this; omega)
      clear hL HNX HEo hc
      generalize hQ : n / D = k at *
      generalize hX : (k + 1) * E = X at *
      generalize hY : k * E = Y at *
      generalize hZ : k * D = Z at *
      go_wp2_with (first
        | (go_at_call 137; refine (HFl.out _).mono ?_; rintro r w5 ⟨rfl, rfl⟩)
        | (at_builtin; (refine wpList_append_rs rfl (.tmp 56) (.tmp 58) 121 rfl (w.heap.size + 3) 2 i0 (.int .i64 0) 1 8 Try.undI64s Hi.out Hz0.out Hz1.out Hz2.out rfl (by decide) u8 ks.length (ks.map (Value.int .i64)) rfl ?_ (wr.heap.size + 1) (.slice (some ⟨wr.heap.size, 0, none⟩) 1 1) rfl 1 [.int .i64 k] ?_ rfl ?_ ?_ ?_ ?_ ?_; (exact World.ownsRow.alloc Hown.out _); (exact rl_lit (xs := [k]) rfl rfl (by simp)); (exact ints_oneCell' [k]); (have := Hkl.out; unfold maxLen; omega); (have := Hkl.out; omega); (simp; have := Hws.out; omega); intro v' w' ho' hg')))
      have hoL : OL 2 (w.heap.size + 3) w' v' (ks ++ [k]) := by unfold OL; rw [List.length_append, List.map_append]; exact ho'
      have hlo2 := (Hloc.out.next (World.grownBy_alloc wr (.cells #[.int .i64 k] 2) none) (fun _ h => by cases h)).anyrow hg' (fun g e => (World.ownsRow.lt Hown.out g e).1)
      go_roundw
      case rel => exact ⟨E, m - Y, D, n - Z, f, ks ++ [k], rfl, rfl, rfl, rfl, HN2.out.1, (by have := HN2.out.2.1; have := Hf.out; omega), HLk.out, hoL, hlo2⟩
      case measure => have := HN2.out.2.1; simp [intOf]; have := HN2.out.1.d0; have := HN2.out.1.e0; omega
end Go.Proofs.Ytkgaipcgdldfdaa
