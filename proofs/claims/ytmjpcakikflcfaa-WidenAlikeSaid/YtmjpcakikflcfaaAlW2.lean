/- Contract of the law's helper order. -/
import Derived.Test.YtmjpcakikflcfaaAlW1
import Derived.Test.YtmjpcakikflcfaaCov3
import Derived.Test.YtmjpcakikflcfaaBox
import Derived.Deep.DeepCutAuto
namespace Go.Proofs.Ytmjpcakikflcfaa
open Go.RowKit
set_option linter.unusedVariables false

/-- The cells that order reads. -/
structure OrdW (bp op bk ok i j : Nat) (ni di nj dj kj : Int) (w : World) : Prop where
  a0 : w.cell? ⟨bp, op + i * 2, none⟩ = some (.int .i64 ni)
  a1 : w.cell? ⟨bp, op + i * 2 + 1, none⟩ = some (.int .i64 di)
  b0 : w.cell? ⟨bp, op + j * 2, none⟩ = some (.int .i64 nj)
  b1 : w.cell? ⟨bp, op + j * 2 + 1, none⟩ = some (.int .i64 dj)
  k : w.cell? ⟨bk, ok + j, none⟩ = some (.int .i64 kj)
theorem OrdW.keep {bp op bk ok i j : Nat} {ni di nj dj kj : Int} {w w' : World} (h : OrdW bp op bk ok i j ni di nj dj kj w) (hb : Below w.heap.size w w') : OrdW bp op bk ok i j ni di nj dj kj w' :=
  ⟨keepb h.a0 hb, keepb h.a1 hb, keepb h.b0 hb, keepb h.b1 hb, keepb h.k hb⟩
theorem OrdW.all {bp op bk ok i j : Nat} {ni di nj dj kj : Int} {w : World} (h : OrdW bp op bk ok i j ni di nj dj kj w) :
    w.cell? ⟨bp, op + i * 2, none⟩ = some (.int .i64 ni) ∧ w.cell? ⟨bp, op + i * 2 + 1, none⟩ = some (.int .i64 di) ∧ w.cell? ⟨bp, op + j * 2, none⟩ = some (.int .i64 nj) ∧ w.cell? ⟨bp, op + j * 2 + 1, none⟩ = some (.int .i64 dj) ∧ w.cell? ⟨bk, ok + j, none⟩ = some (.int .i64 kj) :=
  ⟨h.a0, h.a1, h.b0, h.b1, h.k⟩
/-- Is the value n / d above k? -/
def abv (n d k : Int) : Prop := k < n / d ∨ (n / d = k ∧ d ≠ 1)
/-- The constraints of the fractional parts of two clocks. -/
def OrdK (i j : Nat) (ni di nj dj kj : Int) (l : List K3) : Prop :=
  ¬ abv nj dj kj ∧ (
  ((ni - ni / di * di) * dj = (nj - nj / dj * dj) * di ∧ l = [((i : Int) + 1, (j : Int) + 1, 2 * (ni / di - nj / dj) + 1), ((j : Int) + 1, (i : Int) + 1, -2 * (ni / di - nj / dj) + 1)]) ∨
  ((ni - ni / di * di) * dj < (nj - nj / dj * dj) * di ∧ l = [((i : Int) + 1, (j : Int) + 1, 2 * (ni / di - nj / dj)), ((j : Int) + 1, (i : Int) + 1, -2 * (ni / di - nj / dj) + 2)]) ∨
  ((nj - nj / dj * dj) * di < (ni - ni / di * di) * dj ∧ l = [((i : Int) + 1, (j : Int) + 1, 2 * (ni / di - nj / dj) + 2), ((j : Int) + 1, (i : Int) + 1, -2 * (ni / di - nj / dj))]))
/-- What order returns. -/
def OrdP (i j : Nat) (ni di nj dj kj : Int) (e : Ending) (w' : World) : Prop :=
  ∃ (m : Value) (b : Bool), e = .returned (.tuple #[m, .bool b]) ∧ (b = true → ∃ l, RK w'.heap.size w' m l ∧ l.length = 2 ∧ OrdK i j ni di nj dj kj l)
theorem OrdP.no {i j : Nat} {ni di nj dj kj : Int} (w' : World) : OrdP i j ni di nj dj kj (.returned (.tuple #[.slice none 0 0, .bool false])) w' := ⟨_, _, rfl, fun h => by cases h⟩
/-- The sign of the difference of two fractional parts. -/
theorem frac_sign {ni di nj dj a b xn xd yn yd : Int} (hdi : 0 < di) (hdj : 0 < dj) (hxd : 0 < xd) (hyd : 0 < yd) (hx : xn * di = (ni - a * di) * xd) (hy : yn * dj = (nj - b * dj) * yd) :
    (xn * yd < yn * xd ↔ (ni - a * di) * dj < (nj - b * dj) * di) ∧ (yn * xd < xn * yd ↔ (nj - b * dj) * di < (ni - a * di) * dj) := by
  have e1 : (xn * yd) * (di * dj) = ((ni - a * di) * dj) * (xd * yd) := by
    have : (xn * yd) * (di * dj) = (xn * di) * (yd * dj) := by ac_rfl
    rw [this, hx]; ac_rfl
  have e2 : (yn * xd) * (di * dj) = ((nj - b * dj) * di) * (xd * yd) := by
    have : (yn * xd) * (di * dj) = (yn * dj) * (xd * di) := by ac_rfl
    rw [this, hy]; ac_rfl
  have p1 : 0 < di * dj := Int.mul_pos hdi hdj
  have p2 : 0 < xd * yd := Int.mul_pos hxd hyd
  generalize xn * yd = A at *
  generalize yn * xd = B at *
  generalize (ni - a * di) * dj = C at *
  generalize (nj - b * dj) * di = D at *
  generalize di * dj = P at *
  generalize xd * yd = Q at *
  constructor
  · constructor
    · intro h
      have := Int.mul_lt_mul_of_pos_right h p1
      rw [e1, e2] at this
      exact Int.lt_of_mul_lt_mul_right this (by omega)
    · intro h
      have := Int.mul_lt_mul_of_pos_right h p2
      rw [← e1, ← e2] at this
      exact Int.lt_of_mul_lt_mul_right this (by omega)
  · constructor
    · intro h
      have := Int.mul_lt_mul_of_pos_right h p1
      rw [e1, e2] at this
      exact Int.lt_of_mul_lt_mul_right this (by omega)
    · intro h
      have := Int.mul_lt_mul_of_pos_right h p2
      rw [← e1, ← e2] at this
      exact Int.lt_of_mul_lt_mul_right this (by omega)
/-- Taking off a whole number. -/
theorem sub_whole {n d a p q : Int} (hv : vr n d = true) (ha0 : 0 ≤ a) (ha : a ≤ 2147483647) (h : subR n d a 1 = ((p, q), 0)) : p * d = (n - a * d) * q ∧ 0 < q ∧ vr p q = true := by
  unfold subR at h
  have hw : wrap64 (-a) = -a := by unfold wrap64; omega
  rw [hw] at h
  have hd := (vr_iff n d).1 hv
  by_cases h2 : vr n d = true ∧ vr (-a) 1 = true
  · rw [addR_yes h2] at h
    obtain ⟨m1, m2, m3⟩ := mkR_val (by omega) h rfl
    refine ⟨?_, by omega, m3⟩
    rw [Int.mul_one, Int.mul_one, Int.neg_mul] at m1
    rw [m1]; rfl
  · rw [addR_no h2] at h; simp at h
theorem rk_two (w : World) (I J L I' J' L' : Int) (e : Nat) : RK (w.alloc (.cells #[.int .i64 I, .int .i64 J, .int .i64 L, .int .i64 I', .int .i64 J', .int .i64 L'] e)).heap.size (w.alloc (.cells #[.int .i64 I, .int .i64 J, .int .i64 L, .int .i64 I', .int .i64 J', .int .i64 L'] e)) (.slice (some ⟨w.heap.size, 0, none⟩) 2 2) [(I, J, L), (I', J', L')] := by
  have h := rs_lit3 (w := w) (e := e) (cs := [(I, J, L), (I', J', L')]) (arr := #[.int .i64 I, .int .i64 J, .int .i64 L, .int .i64 I', .int .i64 J', .int .i64 L']) (m := 2) rfl rfl (by simp)
  exact RS.mono h (by simp)
set_option maxRecDepth 100000 in
set_option maxHeartbeats 4000000 in
theorem law_order (ap ak : Option Addr) (lp cp lk ck' bp op bk ok i j : Nat) (ni di nj dj kj : Int) (w : World) (hap : ap = some ⟨bp, op, none⟩) (hak : ak = some ⟨bk, ok, none⟩) (hip : i < lp) (hjp : j < lp) (hjk : j < lk) (hlp : lp ≤ 1000) (hlk : lk ≤ 1000)
    (hw : OrdW bp op bk ok i j ni di nj dj kj w) (hvi : vr ni di = true) (hni : 0 ≤ ni) (hvj : vr nj dj = true) (hnj : 0 ≤ nj) :
    Calls Try.prog 20 #[.slice ap lp cp, .slice ak lk ck', .int .i64 (i : Int), .int .i64 (j : Int)] w fun e w' => OrdP i j ni di nj dj kj e w' ∧ Below w.heap.size w w' := by
  subst hap hak
  have i1 : (i : Int) < lp := by omega
  have i2 : (j : Int) < lp := by omega
  have i3 : (j : Int) < lk := by omega
  obtain ⟨p1, p2, p3, p4, _⟩ := (vr_iff ni di).1 hvi
  obtain ⟨q1, q2, q3, q4, _⟩ := (vr_iff nj dj).1 hvj
  have a0 : 0 ≤ ni / di := Int.ediv_nonneg hni (by omega)
  have a1 : ni / di ≤ ni := Int.ediv_le_self _ hni
  have b0 : 0 ≤ nj / dj := Int.ediv_nonneg hnj (by omega)
  have b1 : nj / dj ≤ nj := Int.ediv_le_self _ hnj
  have HW0 := Lib.hid hw
  have Hvi := Lib.hid hvi
  have Hvj := Lib.hid hvj
  have Hord := Lib.hid (show ∀ l, OrdK i j ni di nj dj kj l ↔ OrdK i j ni di nj dj kj l from fun _ => Iff.rfl)
  obtain ⟨z0, z1, z2, z3, z4⟩ := hw.all
  clear hw hvi hvj
  go_enter Try.func20, Try.ntmps20
  go_wp2_with fail
  refine (r1_floor ni di _ Hvi.out hni).mono ?_
  rintro e w1 ⟨rfl, hb1⟩
  have HW1 := Lib.hid (HW0.out.keep hb1)
  have Hb1 := Lib.hid hb1
  clear z0 z1 z2 z3 z4 hb1 HW0
  obtain ⟨z0, z1, z2, z3, z4⟩ := HW1.out.all
  go_wp2_with fail
  refine (r1_floor nj dj _ Hvj.out hnj).mono ?_
  rintro e w2 ⟨rfl, hb2⟩
  have HW2 := Lib.hid (HW1.out.keep hb2)
  have Hb2 := Lib.hid (bt Hb1.out hb2)
  clear z0 z1 z2 z3 z4 hb2 HW1 Hb1
  obtain ⟨z0, z1, z2, z3, z4⟩ := HW2.out.all
  generalize hA : ni / di = a at *
  generalize hB : nj / dj = b at *
  have HA := Lib.hid hA
  have HB := Lib.hid hB
  clear hA hB
  by_cases hab : kj < b ∨ (b = kj ∧ dj ≠ 1)
  · by_cases c1 : kj < b
    · go_wp2_with fail
      go_ret2
      exact ⟨OrdP.no _, Hb2.out⟩
    · have d1 : decide (kj < b) = false := by simpa using c1
      have d2 : (b == kj) = true := by simp; omega
      have d3 : (dj != 1) = true := by simp; omega
      go_wp2_with fail
      go_ret2
      exact ⟨OrdP.no _, Hb2.out⟩
  · have d1 : decide (kj < b) = false := by simp; omega
    have hno := Lib.hid (show ¬ abv nj dj kj by unfold abv; rw [HB.out]; exact hab)
    generalize hX : subR ni di a 1 = X
    obtain ⟨⟨xn, xd⟩, xe⟩ := X
    have HX := Lib.hid hX
    generalize hY : subR nj dj b 1 = Y
    obtain ⟨⟨yn, yd⟩, ye⟩ := Y
    have HY := Lib.hid hY
    clear hX hY
    have Hsx := Lib.hid (fun h : xe = 0 => sub_whole (p := xn) (q := xd) Hvi.out a0 (by omega) (by rw [HX.out, h]))
    have Hsy := Lib.hid (fun h : ye = 0 => sub_whole (p := yn) (q := yd) Hvj.out b0 (by omega) (by rw [HY.out, h]))
    cases e1 : (b == kj)
    all_goals (try (have e2 : (dj != 1) = false := by (simp at e1 ⊢; exact Classical.not_not.1 fun h => hab (.inr ⟨e1, h⟩))))
    all_goals
      clear hab
      go_wp2_with fail
      refine (r1_sub ni di a 1 _).mono ?_
      rintro e w3 ⟨he, hb3⟩
      obtain rfl : e = .returned (.tuple #[.agg #[.int .i64 xn, .int .i64 xd], .int .i64 xe]) := he.trans (by rw [HX.out])
      have hb4 := bal hb3 (.cells #[.int .i64 xn, .int .i64 xd] 48)
      have HW4 := Lib.hid (HW2.out.keep hb4)
      have Hb4 := Lib.hid (bt Hb2.out hb4)
      have r0 : (w3.alloc (.cells #[.int .i64 xn, .int .i64 xd] 48)).cell? ⟨w3.heap.size, 0, none⟩ = some (.int .i64 xn) := by go_simp
      have r1 : (w3.alloc (.cells #[.int .i64 xn, .int .i64 xd] 48)).cell? ⟨w3.heap.size, 1, none⟩ = some (.int .i64 xd) := by go_simp
      clear z0 z1 z2 z3 z4 he hb3 hb4
      obtain ⟨z0, z1, z2, z3, z4⟩ := HW4.out.all
      go_upto_region 6 with fail
      generalize hW4 : w3.alloc (.cells #[.int .i64 xn, .int .i64 xd] 48) = w4 at *
      go_wp2_with fail
      refine (r1_sub nj dj b 1 _).mono ?_
      rintro e w5 ⟨he, hb5⟩
      obtain rfl : e = .returned (.tuple #[.agg #[.int .i64 yn, .int .i64 yd], .int .i64 ye]) := he.trans (by rw [HY.out])
      have hb6 := bal hb5 (.cells #[.int .i64 yn, .int .i64 yd] 48)
      have Hb6 := Lib.hid (bt Hb4.out hb6)
      have s0 := keepb r0 hb6
      have s1 := keepb r1 hb6
      clear z0 z1 z2 z3 z4 he hb5 hb6 r0 r1
      go_upto_region 7 with fail
      go_wp2_with fail
      refine (r1_cmp xn xd yn yd _).mono ?_
      generalize hC : cmpR xn xd yn yd = C
      obtain ⟨cs, ce⟩ := C
      have HC := Lib.hid hC
      rintro e w7 ⟨he, hb7⟩
      obtain rfl : e = .returned (.tuple #[.int .i64 cs, .int .i64 ce]) := he
      have Hb7 := Lib.hid (bt Hb6.out hb7)
      clear hC hb7 s0 s1
      by_cases x0 : xe = 0
      · subst x0
        by_cases y0 : ye = 0
        · subst y0
          obtain ⟨f1, f2, f3⟩ := Hsx.out rfl
          obtain ⟨g1, g2, g3⟩ := Hsy.out rfl
          have hcy := HC.out.symm.trans (cmpR_yes ⟨f3, g3⟩)
          obtain ⟨s1, s2⟩ := frac_sign (show 0 < di by omega) (show 0 < dj by omega) f2 g2 f1 g1
          simp only [Prod.mk.injEq] at hcy
          obtain ⟨hcs, rfl⟩ := hcy
          have Hcs := Lib.hid hcs
          have S1 := Lib.hid s1
          have S2 := Lib.hid s2
          have e10 : decide (cs < 0) = decide (cs < 0) := rfl
          clear f1 f2 f3 g1 g2 g3 hcs s1 s2
          by_cases t1 : xn * yd < yn * xd
          · have hc1 : cs = -1 := by rw [Hcs.out, if_pos t1]
            have Hl := Lib.hid (S1.out.1 t1)
            subst hc1
            clear t1
            go_wp2_with fail
            go_ret2
            exact ⟨⟨_, _, rfl, fun _ => ⟨[((i : Int) + 1, (j : Int) + 1, 2 * (a - b)), ((j : Int) + 1, (i : Int) + 1, -2 * (a - b) + 2)], rk_two w7 _ _ _ _ _ _ _, rfl, hno.out, .inr (.inl ⟨by rw [HA.out, HB.out]; exact Hl.out, by rw [HA.out, HB.out]⟩)⟩⟩, bal Hb7.out _⟩
          · by_cases t2 : yn * xd < xn * yd
            · have hc1 : cs = 1 := by rw [Hcs.out, if_neg t1, if_pos t2]
              have Hl := Lib.hid (S2.out.1 t2)
              subst hc1
              clear t1 t2
              go_wp2_with fail
              go_ret2
              exact ⟨⟨_, _, rfl, fun _ => ⟨[((i : Int) + 1, (j : Int) + 1, 2 * (a - b) + 2), ((j : Int) + 1, (i : Int) + 1, -2 * (a - b))], rk_two w7 _ _ _ _ _ _ _, rfl, hno.out, .inr (.inr ⟨by rw [HA.out, HB.out]; exact Hl.out, by rw [HA.out, HB.out]⟩)⟩⟩, bal Hb7.out _⟩
            · have hc1 : cs = 0 := by rw [Hcs.out, if_neg t1, if_neg t2]
              have Hl := Lib.hid (show (ni - a * di) * dj = (nj - b * dj) * di by
                have n1 : ¬ (ni - a * di) * dj < (nj - b * dj) * di := fun h => t1 (S1.out.2 h)
                have n2 : ¬ (nj - b * dj) * di < (ni - a * di) * dj := fun h => t2 (S2.out.2 h)
                omega)
              subst hc1
              clear t1 t2
              go_wp2_with fail
              go_ret2
              exact ⟨⟨_, _, rfl, fun _ => ⟨[((i : Int) + 1, (j : Int) + 1, 2 * (a - b) + 1), ((j : Int) + 1, (i : Int) + 1, -2 * (a - b) + 1)], rk_two w7 _ _ _ _ _ _ _, rfl, hno.out, .inl ⟨by rw [HA.out, HB.out]; exact Hl.out, by rw [HA.out, HB.out]⟩⟩⟩, bal Hb7.out _⟩
        · have y1 : (ye != 0) = true := by simpa using y0
          clear y0
          go_wp2_with fail
          go_ret2
          exact ⟨OrdP.no _, Hb7.out⟩
      · have x1 : (xe != 0) = true := by simpa using x0
        clear x0
        go_wp2_with fail
        go_ret2
        exact ⟨OrdP.no _, Hb7.out⟩
end Go.Proofs.Ytmjpcakikflcfaa
