/- Point as a function on lists; the reference's Point. -/
import Derived.Test.YtkgaipcgdldfdaaChs
import Derived.Test.YtkgaipcgdldfdaaPha
import Derived.Test.YtkgaipcgdldfdaaHeldU
import Derived.Test.YtkgaipcgdldfdaaHas
import Derived.Deep.DeepCutAuto
import Derived.Deep.CutBlock
import Derived.BigQuiet
namespace Go.Proofs.Ytkgaipcgdldfdaa
open Go.RowKit
set_option linter.unusedVariables false

/-- The point that a span gives, with the error (before a number out of range is looked at). -/
def rawS (s : Sp) : (Int × Int) × Int := if s.lo = true then (if s.nh = true then addR s.ln s.ld 1 1 else midR s.ln s.ld s.hn s.hd) else ((s.ln, s.ld), 0)
def pkS (s : Sp) : (Int × Int) × Int := if s.wd = true then ((0, 0), 7) else rawS s
/-- The first values of Point. -/
def ptsF (N : Nat) (xs : List Int) : Nat → Option (List (Int × Int))
  | 0 => some []
  | i + 1 => match ptsF N xs i with
    | none => none
    | some p => if (pkS (spanTo N xs ((0, 1) :: p) (i + 1) (i + 1))).2 = 0 then some (p ++ [(pkS (spanTo N xs ((0, 1) :: p) (i + 1) (i + 1))).1]) else none
noncomputable def pointF (n : Int) (xs : List Int) : List (Int × Int) × Int :=
  if okErr n xs = 0 then (match ptsF n.toNat xs n.toNat with | some p => (p, 0) | none => ([], 7)) else ([], 2)
theorem ptsF_none {N : Nat} {xs : List Int} {i : Nat} (h : ptsF N xs i = none) : ∀ k, ptsF N xs (i + k) = none := by
  intro k
  induction k with
  | zero => exact h
  | succ k ih => show ptsF N xs (i + k + 1) = none; unfold ptsF; rw [ih]
theorem ptsF_succ {N : Nat} {xs : List Int} {i : Nat} {p : List (Int × Int)} (h : ptsF N xs i = some p) (h2 : (pkS (spanTo N xs ((0, 1) :: p) (i + 1) (i + 1))).2 = 0) : ptsF N xs (i + 1) = some (p ++ [(pkS (spanTo N xs ((0, 1) :: p) (i + 1) (i + 1))).1]) := by
  conv => lhs; unfold ptsF
  rw [h]; simp only; rw [if_pos h2]
theorem ptsF_bad {N : Nat} {xs : List Int} {i : Nat} {p : List (Int × Int)} (h : ptsF N xs i = some p) (h2 : ¬ (pkS (spanTo N xs ((0, 1) :: p) (i + 1) (i + 1))).2 = 0) : ptsF N xs (i + 1) = none := by
  conv => lhs; unfold ptsF
  rw [h]; simp only; rw [if_neg h2]
theorem pointF_bad {N : Nat} {xs : List Int} {i : Nat} {p : List (Int × Int)} (hok : OkZ N xs) (hi : i < N) (h : ptsF N xs i = some p) (h2 : ¬ (pkS (spanTo N xs ((0, 1) :: p) (i + 1) (i + 1))).2 = 0) : pointF N xs = ([], 7) := by
  unfold pointF
  rw [if_pos (okErr_yes hok), Int.toNat_natCast]
  have := ptsF_none (ptsF_bad h h2) (N - (i + 1))
  rw [show i + 1 + (N - (i + 1)) = N by omega] at this
  rw [this]
theorem pointF_ok {N : Nat} {xs : List Int} {p : List (Int × Int)} (hok : OkZ N xs) (h : ptsF N xs N = some p) : pointF N xs = (p, 0) := by
  unfold pointF
  rw [if_pos (okErr_yes hok), Int.toNat_natCast, h]
theorem pointF_no {n : Int} {xs : List Int} (h : ¬ OkZ n xs) : pointF n xs = ([], 2) := by
  unfold pointF
  rw [if_neg (by rw [okErr_no h]; omega)]
theorem cutF_ln0 {s : Sp} (xn xd l : Int) (ab : Bool) (h : 0 ≤ s.ln) : 0 ≤ (cutF s xn xd l ab).ln := by
  by_cases h1 : spE l = 0
  · by_cases h2 : (cutY xn xd l ab).2 = 0
    · cases ab
      · rw [cutF_below h1 h2]; unfold mostF; split
        · exact h
        · split
          · exact h
          · split <;> exact h
      · rw [cutF_above h1 h2]; unfold leastF; split
        · rename_i hk
          simp only
          unfold cmpR at hk
          split at hk
          · rename_i hv
            have hd1 := (vr_iff _ _).1 hv.1
            have hd2 := (vr_iff _ _).1 hv.2
            generalize (cutY xn xd l true).1.1 = yn at *
            generalize (cutY xn xd l true).1.2 = yd at *
            simp only at hk
            split at hk
            · omega
            · split at hk
              · rename_i h3
                rcases (show yn < 0 ∨ 0 ≤ yn by omega) with h4 | h4
                · have h5 : yn * s.ld ≤ 0 := Int.mul_nonpos_of_nonpos_of_nonneg (by omega) (by omega)
                  have h6 : 0 ≤ s.ln * yd := Int.mul_nonneg h (by omega)
                  omega
                · exact h4
              · omega
          · simp at hk
        · split <;> exact h
    · rw [cutF_bad h1 h2]; exact h
  · rw [cutF_none h1]; exact h
theorem spanTo_ln0 (N : Nat) (xs : List Int) (q : List (Int × Int)) (i : Nat) : ∀ j, 0 ≤ (spanTo N xs q i j).ln := by
  intro j
  induction j with
  | zero => exact Int.le_refl 0
  | succ j ih => exact cutF_ln0 _ _ _ _ (cutF_ln0 _ _ _ _ ih)
theorem spanTo_i64 (N : Nat) (xs : List Int) (q : List (Int × Int)) (i : Nat) : ∀ j, I64 (spanTo N xs q i j).ln ∧ I64 (spanTo N xs q i j).hn := by
  intro j
  induction j with
  | zero => show I64 sp0.ln ∧ I64 sp0.hn; exact ⟨⟨by decide, by decide⟩, ⟨by decide, by decide⟩⟩
  | succ j ih => exact cutF_i64 _ _ _ _ (cutF_i64 _ _ _ _ ih)
/-- What Point returns: a list of ratios that can be read, and the error. -/
def QE (r : List (Int × Int) × Int) (e : Ending) (w' : World) : Prop := ∃ v', e = .returned (.tuple #[v', .int .i64 r.2]) ∧ RQ w'.heap.size w' v' r.1
theorem QE.err {r : List (Int × Int) × Int} {x : Int} (h : r = ([], x)) (w' : World) : QE r (.returned (.tuple #[.slice none 0 0, .int .i64 x])) w' := by
  subst h; exact ⟨_, rfl, .inl ⟨rfl, rfl, rfl⟩⟩
theorem QE.ok {r : List (Int × Int) × Int} {v : Value} {ps : List (Int × Int)} {w' : World} (h : r = (ps, 0)) (ho : RQ w'.heap.size w' v ps) : QE r (.returned (.tuple #[v, .int .i64 0])) w' := by
  subst h; exact ⟨_, rfl, ho⟩
theorem own_ne {base e size : Nat} {w : World} {v : Value} {n : Nat} {xs : List Value} (h : w.ownsRow base e size v n xs) {b : Nat} (hb : w.heap.size ≤ b) : v.ownBlock ≠ some b := fun e => by
  have := (World.ownsRow.lt h b e).2
  omega
set_option maxRecDepth 100000 in
set_option maxHeartbeats 8000000 in
theorem ref_point (n : Int) (v : Value) (xs : List Int) (w : World) (hv : RL w.heap.size w v xs) :
    Calls Try.prog 37 #[.agg #[.int .i64 n, v]] w fun e w' => QE (pointF n xs) e w' ∧ Below w.heap.size w w' := by
  obtain ⟨aoz, capz, rfl, hlez, _⟩ := hv.open
  have hloc0 := Loc.one w (.cells #[.int .i64 n, .slice aoz xs.length capz] 24) none
  have Hv0 := Lib.hid (hv.keepb (below_grownBy hloc0.grown))
  clear hv
  by_cases hok : OkZ n xs
  rotate_left
  · have he := okErr_no hok
    have HR := Lib.hid (pointF_no hok)
    clear hok
    go_enter Try.func37, Try.ntmps37
    go_wp2_with fail
    refine (ref_check n _ xs _ Hv0.out).mono ?_
    rw [he]
    rintro e w1 ⟨rfl, hb1⟩
    go_wp2_with fail
    go_ret2
    exact ⟨QE.err HR.out _, below_grownBy (hloc0.next (grownBy_below hb1 none) (fun _ h => by cases h)).grown⟩
  have he := okErr_yes hok
  obtain ⟨N, rfl⟩ := Int.eq_ofNat_of_zero_le hok.lo
  have hN : N ≤ 10 := by have := hok.hi; omega
  have Hx := Lib.hid (show xs.length = (N + 1) * (N + 1) by have := hok.len; rwa [Int.toNat_natCast] at this)
  have HOK := Lib.hid hok
  clear hok
  go_enter Try.func37, Try.ntmps37
  go_wp2_with fail
  refine (ref_check N _ xs _ Hv0.out).mono ?_
  rw [he]
  rintro e w1 ⟨rfl, hb1⟩
  have hloc1 := hloc0.next (grownBy_below hb1 none) (fun _ h => by cases h)
  have H11 := Lib.hid (show w.heap.size + 1 ≤ w1.heap.size from hloc1.size)
  have Hv1 := Lib.hid (Hv0.out.keepb hb1)
  clear hb1 hloc0 he Hv0
  go_wp2_with fail
  go_loopw [4, 5] (fun o i wr => ∃ (i' : Nat) (p : List (Int × Int)), i' ≤ N ∧ i = .int .i64 ((i' : Int) + 1) ∧ ptsF N xs i' = some p ∧ p.length = i' ∧ OQ 48 w1.heap.size wr o p ∧ Loc w wr none [.cells #[.int .i64 N, .slice aoz xs.length capz] 24] ∧ Below w1.heap.size w1 wr) (fun _ i _ => N + 1 - (intOf i).toNat)
  case atStart => exact ⟨0, [], Nat.zero_le _, rfl, rfl, rfl, World.ownsRow_nil _ _ _ _, hloc1, Below.refl _ _⟩
  case round =>
    clear hloc1
    obtain ⟨i, p, hi, rfl, hp, hpl, hown, hloc, hbel⟩ := hrel
    have Hown := Lib.hid hown
    have Hp := Lib.hid hp
    have HpL := Lib.hid hpl
    have Hbel := Lib.hid hbel
    clear hown hp hpl hbel
    have z0 : wr.cell? ⟨w.heap.size, 0, none⟩ = some (.int .i64 N) := hloc.cell 0 rfl 0
    have z1 : wr.cell? ⟨w.heap.size, 1, none⟩ = some (.slice aoz xs.length capz) := hloc.cell 0 rfl 1
    by_cases hlt : i < N
    rotate_left
    · have hti : decide ((i : Int) + 1 ≤ (N : Int)) = false := by simp; omega
      have hiN : i = N := by omega
      have HR := Lib.hid (pointF_ok HOK.out (hiN ▸ Hp.out))
      clear hiN
      go_wp2_with fail
      go_ret2
      exact ⟨QE.ok HR.out (OQ.rq Hown.out), below_grownBy hloc.grown⟩
    have hti : decide ((i : Int) + 1 ≤ (N : Int)) = true := by simp; omega
    go_wp2_with (go_at_call 90; refine (ref_start _).mono ?_; rintro e wa ⟨rfl, rfl⟩)
    have hS0 := heap_alloc_new wr (.cells sp0.cs 108)
    have hloc3 := hloc.next (World.grownBy_alloc wr (.cells sp0.cs 108) none) (fun _ h => by cases h)
    have hown3 : OQ 48 w1.heap.size (wr.alloc (.cells sp0.cs 108)) _ p := World.ownsRow.alloc Hown.out _
    have Hne := Lib.hid (own_ne Hown.out (Nat.le_refl _))
    have Hbe3 := Lib.hid (bal Hbel.out (.cells sp0.cs 108))
    have hwsb : w.heap.size ≠ wr.heap.size := by have := hloc.size; simp at this; omega
    have hsbw : w.heap.size + 1 ≤ wr.heap.size := hloc.size
    have h1sb : w1.heap.size ≤ wr.heap.size := Hbel.out.size
    generalize hSB : wr.heap.size = sb at *
    generalize wr.alloc (.cells sp0.cs 108) = wr1 at *
    clear Hown hloc Hbel z0 z1
    go_loopw [7] (fun k wr2 => ∃ j : Nat, j ≤ i + 1 ∧ k = .int .i64 j ∧ wr2.heap[sb]? = some (.cells (spanTo N xs ((0, 1) :: p) (i + 1) j).cs 108 (0, 0)) ∧ OQ 48 w1.heap.size wr2 u4 p ∧ Loc w wr2 none [.cells #[.int .i64 N, .slice aoz xs.length capz] 24] ∧ Below w1.heap.size w1 wr2) (fun k _ => i + 1 - (intOf k).toNat)
    case atStart => exact ⟨0, by omega, rfl, hS0, hown3, hloc3, Hbe3.out⟩
    case round =>
      clear hS0 hown3 hloc3 Hbe3
      obtain ⟨j, hj, rfl, hSwr, hown, hloc, hbel⟩ := hrel
      have Hown := Lib.hid hown
      have Hbel := Lib.hid hbel
      have z0wr : wr.cell? ⟨w.heap.size, 0, none⟩ = some (.int .i64 N) := hloc.cell 0 rfl 0
      have z1wr : wr.cell? ⟨w.heap.size, 1, none⟩ = some (.slice aoz xs.length capz) := hloc.cell 0 rfl 1
      have hsbwr : sb < wr.heap.size := (Array.getElem?_eq_some_iff.1 hSwr).1
      by_cases hjl : j < i + 1
      · have htj : decide ((j : Int) < (i : Int) + 1) = true := by simp; omega
        have HPwr := Lib.hid (OQ.rq hown)
        have HZwr := Lib.hid (Hv1.out.keepb hbel)
        have HS2 := Lib.hid (show spanTo N xs ((0, 1) :: p) (i + 1) (j + 1) = cutF (cutF (spanTo N xs ((0, 1) :: p) (i + 1) j) (ck p j).1 (ck p j).2 (ent N xs (i + 1) j) false) (ck p j).1 (ck p j).2 (ent N xs j (i + 1)) true by rw [← gq_ck]; rfl)
        have belowIdx := Lib.hid (show gi xs (((i : Int) + 1).toNat * (N + 1) + (j : Int).toNat) = ent N xs (i + 1) j by unfold ent; rw [show ((i : Int) + 1).toNat = i + 1 by omega, Int.toNat_natCast])
        have aboveIdx := Lib.hid (show gi xs ((j : Int).toNat * (N + 1) + ((i : Int) + 1).toNat) = ent N xs j (i + 1) by unfold ent; rw [show ((i : Int) + 1).toNat = i + 1 by omega, Int.toNat_natCast])
        generalize hS : spanTo N xs ((0, 1) :: p) (i + 1) j = S at *
        generalize hqj : ck p j = P at *
        obtain ⟨pn, pd⟩ := P
        have HqJ := Lib.hid hqj
        simp only at HS2
        clear hqj hown hbel hS
        go_upto_region 11 with fail
        go_region_held3 (fun w' => w'.cell? ⟨w.heap.size, 0, none⟩ = some (.int .i64 N) ∧ w'.cell? ⟨w.heap.size, 1, none⟩ = some (.slice aoz xs.length capz))
          (first | exact ⟨by assumption, by assumption⟩ | go_keep)
          (first
            | (go_at_call 84; refine (ref_clock _ p j _ (show RQ wr.drew.heap.size wr.drew _ p from HPwr.out) (by have := HpL.out; omega)).mono ?_; rw [HqJ.out]; rintro e wabelow ⟨rfl, hbabelow⟩; have a0below := keepb (show wr.drew.cell? _ = _ from z0wr) hbabelow; have a1below := keepb (show wr.drew.cell? _ = _ from z1wr) hbabelow)
            | (go_at_call 77; refine (ref_at N _ _ _ xs wabelow (RL.keepb HZwr.out.drew hbabelow) hN (by omega) (by omega) (by omega) (by omega) Hx.out).mono ?_; rw [belowIdx.out]; rintro e wbbelow ⟨rfl, hbbbelow⟩; have b0below := keepb a0below hbbbelow; have b1below := keepb a1below hbbbelow)
            | (go_at_call 92; refine (ref_below sb _ pn pd _ wbbelow ((hbbbelow.block sb (Nat.lt_of_lt_of_le (show sb < wr.heap.size from hsbwr) hbabelow.size)).trans ((hbabelow.block sb (show sb < wr.heap.size from hsbwr)).trans (show wr.drew.heap[sb]? = _ from hSwr)))).mono ?_; rintro e wcbelow ⟨rfl, hSbelow, hgbelow⟩; have c0below := keepg b0below hgbelow hwsb; have c1below := keepg b1below hgbelow hwsb))
        have hGbelow : wr.grownBy wcbelow (some sb) := grownBy_trans (grownBy_drew _ _) (grownBy_trans (grownBy_below (bt hbabelow hbbbelow) _) hgbelow)
        clear z0wr z1wr hSwr hbabelow hbbbelow hgbelow a0below a1below b0below b1below
        have hsbwcbelow : sb < wcbelow.heap.size := (Array.getElem?_eq_some_iff.1 hSbelow).1
        have hlocc := hloc.anyrow hGbelow (fun g' e => by cases e; exact hsbw)
        have hownc : OQ 48 w1.heap.size wcbelow u4 p := World.ownsRow.kept Hown.out hGbelow (.inr Hne.out)
        have Hbelc := Lib.hid (Hbel.out.grown hGbelow Hbel.out.size (fun g' e => by cases e; exact h1sb))
        have HPwcbelow := Lib.hid (OQ.rq hownc)
        have HZwcbelow := Lib.hid (Hv1.out.keepb Hbelc.out)
        have z0wcbelow := c0below
        have z1wcbelow := c1below
        have hSwcbelow := hSbelow
        clear c0below c1below hSbelow hGbelow hloc Hown Hbel
        go_upto_region 12 with fail
        go_region_held3 (fun w' => w'.cell? ⟨w.heap.size, 0, none⟩ = some (.int .i64 N) ∧ w'.cell? ⟨w.heap.size, 1, none⟩ = some (.slice aoz xs.length capz))
          (first | exact ⟨by assumption, by assumption⟩ | go_keep)
          (first
            | (go_at_call 84; refine (ref_clock _ p j _ (show RQ wcbelow.drew.heap.size wcbelow.drew _ p from HPwcbelow.out) (by have := HpL.out; omega)).mono ?_; rw [HqJ.out]; rintro e waabove ⟨rfl, hbaabove⟩; have a0above := keepb (show wcbelow.drew.cell? _ = _ from z0wcbelow) hbaabove; have a1above := keepb (show wcbelow.drew.cell? _ = _ from z1wcbelow) hbaabove)
            | (go_at_call 77; refine (ref_at N _ _ _ xs waabove (RL.keepb HZwcbelow.out.drew hbaabove) hN (by omega) (by omega) (by omega) (by omega) Hx.out).mono ?_; rw [aboveIdx.out]; rintro e wbabove ⟨rfl, hbbabove⟩; have b0above := keepb a0above hbbabove; have b1above := keepb a1above hbbabove)
            | (go_at_call 93; refine (ref_above sb _ pn pd _ wbabove ((hbbabove.block sb (Nat.lt_of_lt_of_le (show sb < wcbelow.heap.size from hsbwcbelow) hbaabove.size)).trans ((hbaabove.block sb (show sb < wcbelow.heap.size from hsbwcbelow)).trans (show wcbelow.drew.heap[sb]? = _ from hSwcbelow)))).mono ?_; rintro e wcabove ⟨rfl, hSabove, hgabove⟩; have c0above := keepg b0above hgabove hwsb; have c1above := keepg b1above hgabove hwsb))
        have hGabove : wcbelow.grownBy wcabove (some sb) := grownBy_trans (grownBy_drew _ _) (grownBy_trans (grownBy_below (bt hbaabove hbbabove) _) hgabove)
        have hsbd : sb < wcabove.heap.size := (Array.getElem?_eq_some_iff.1 hSabove).1
        have hlocd := hlocc.anyrow hGabove (fun g' e => by cases e; exact hsbw)
        have hownd : OQ 48 w1.heap.size wcabove u4 p := World.ownsRow.kept hownc hGabove (.inr Hne.out)
        have hbeld := Hbelc.out.grown hGabove Hbelc.out.size (fun g' e => by cases e; exact h1sb)
        go_wp2_with fail
        go_roundw
        case rel => exact ⟨j + 1, by omega, by go_num, by rw [HS2.out]; exact hSabove, hownd, hlocd, hbeld⟩
        case measure => simp [intOf]; omega
      · have htj : decide ((j : Int) < (i : Int) + 1) = false := by simp; omega

        have hj2 : j = i + 1 := by omega
        subst hj2
        have hL0 := spanTo_ln0 N xs ((0, 1) :: p) (i + 1) (i + 1)
        have HPB := Lib.hid (fun h => pointF_bad HOK.out hlt Hp.out h)
        have HPO := Lib.hid (fun h => ptsF_succ Hp.out h)
        have HpL2 := Lib.hid (show p.length = i from HpL.out)
        generalize spanTo N xs ((0, 1) :: p) (i + 1) (i + 1) = S at *
        obtain ⟨R, hR⟩ : ∃ R, R = rawS S := ⟨_, rfl⟩
        have HR := Lib.hid hR
        have Hpk := Lib.hid (show pkS S = if S.wd = true then ((0, 0), 7) else R by rw [hR]; rfl)
        clear hR hj hjl hbel
        obtain ⟨ln, ld, hn, hd, lo, ho, nh, wd⟩ := S
        simp only at hL0 Hpk
        have s0 : wr.cell? ⟨sb, 0, none⟩ = some (.int .i64 ln) := cell_of_row _ sb 0 _ _ _ hSwr
        have s1 : wr.cell? ⟨sb, 1, none⟩ = some (.int .i64 ld) := cell_of_row _ sb 1 _ _ _ hSwr
        have HneX := Lib.hid (own_ne hown (Nat.le_refl _))
        have hbA : Below wr.heap.size wr (wr.alloc (.cells #[.int .i64 ln, .int .i64 ld] 48)) := (Below.refl _ _).alloc (Nat.le_refl _) _
        have hx := heap_alloc_new wr (.cells #[.int .i64 ln, .int .i64 ld] 48)
        have hS := (hbA.block sb hsbwr).trans hSwr
        have hlocA := hloc.next (grownBy_below hbA none) (fun _ h => by cases h)
        have hownA : OQ 48 w1.heap.size (wr.alloc (.cells #[.int .i64 ln, .int .i64 ld] 48)) u4 p := World.ownsRow.alloc Hown.out _
        have hbelA := bal Hbel.out (.cells #[.int .i64 ln, .int .i64 ld] 48)
        have hXs : wr.heap.size < (wr.alloc (.cells #[.int .i64 ln, .int .i64 ld] 48)).heap.size := by simp
        have hsX : sb ≠ wr.heap.size := by omega
        have hwX : w.heap.size + 1 ≤ wr.heap.size := hloc.size
        have h1X : w1.heap.size ≤ wr.heap.size := Hbel.out.size
        go_upto_region 14 with fail
        clear hbA hSwr hloc hown Hown Hbel s0 s1 z0wr z1wr
        generalize hW : wr.alloc (.cells #[.int .i64 ln, .int .i64 ld] 48) = W at *
        generalize wr.heap.size = X at *
        clear hW hsbwr
        obtain ⟨⟨xn, xd⟩, xe⟩ := R
        have x0 := cell_of_row _ X 0 _ _ _ hx
        have x1 := cell_of_row _ X 1 _ _ _ hx
        have hsbW : sb < W.heap.size := (Array.getElem?_eq_some_iff.1 hS).1
        obtain ⟨sel, hsel⟩ : ∃ b, b = (lo && nh) := ⟨_, rfl⟩
        have Hsel := Lib.hid hsel
        clear hsel
        go_cut [59] (fun s59 wx => s59 = .bool sel ∧ wx = W)
        case first =>
          have s4 : W.cell? ⟨sb, 4, none⟩ = some (.bool lo) := cell_of_row _ sb 4 _ _ _ hS
          have s6 : W.cell? ⟨sb, 6, none⟩ = some (.bool nh) := cell_of_row _ sb 6 _ _ _ hS
          cases lo
          · go_wp2_with fail
            go_meet
            exact ⟨by rw [Hsel.out]; rfl, rfl⟩
          · go_wp2_with fail
            go_meet
            exact ⟨by rw [Hsel.out]; rfl, rfl⟩
        obtain ⟨rfl, hw9⟩ := hcut
        replace hw9 := hw9.symm
        subst hw9
        go_upto_if 59 with fail
        go_cut [9] (fun s9 wx => s9 = .int .i64 xe ∧ wx.heap[X]? = some (.cells #[.int .i64 xn, .int .i64 xd] 48 (0, 0)) ∧ wx.heap[sb]? = some (.cells (Sp.cs ⟨ln, ld, hn, hd, lo, ho, nh, wd⟩) 108 (0, 0)) ∧ OQ 48 w1.heap.size wx u4 p ∧ Loc w wx none [.cells #[.int .i64 N, .slice aoz xs.length capz] 24] ∧ Below w1.heap.size w1 wx)
        case first =>
          cases lo with
          | false =>
            obtain rfl : sel = false := Hsel.out
            obtain ⟨⟨rfl, rfl⟩, rfl⟩ : (xn = ln ∧ xd = ld) ∧ xe = 0 := by have := HR.out; simp [rawS] at this; exact this
            have s4 : W.cell? ⟨sb, 4, none⟩ = some (.bool false) := cell_of_row _ sb 4 _ _ _ hS
            go_wp2_with fail
            go_meet
            exact ⟨rfl, hx, hS, hownA, hlocA, hbelA⟩
          | true =>
            have s4 : W.cell? ⟨sb, 4, none⟩ = some (.bool true) := cell_of_row _ sb 4 _ _ _ hS
            cases nh with
            | true =>
              obtain rfl : sel = true := Hsel.out
              have s6 : W.cell? ⟨sb, 6, none⟩ = some (.bool true) := cell_of_row _ sb 6 _ _ _ hS
              have HA := Lib.hid (show addR ln ld 1 1 = ((xn, xd), xe) from HR.out.symm)
              go_wp2_with fail
              refine (r1_add ln ld 1 1 _).mono ?_
              rw [HA.out]
              rintro e w8 ⟨he8, hb8⟩
              obtain rfl : e = .returned (.tuple #[.agg #[.int .i64 xn, .int .i64 xd], .int .i64 xe]) := he8
              have hx8 := (hb8.block X hXs).trans hx
              have hG8 := grown_set (i := 1) (v := .int .i64 xd) (grown_set (i := 0) (v := .int .i64 xn) (grownBy_below hb8 (some X)))
              have f0 := frozen_of_row _ X 0 _ _ hx8
              have f1 := frozen_of_row _ X 1 _ _ hx8
              have y0 := cell_of_row _ X 0 _ _ _ hx8
              have y1 := cell_of_row _ X 1 _ _ _ hx8
              clear x0 x1 s4 s6
              go_wp2_with fail
              go_meet
              have k0 := heap_setCell_same _ X 0 _ _ (.int .i64 xn) hx8
              have k1 := heap_setCell_same _ X 1 _ _ (.int .i64 xd) k0
              exact ⟨rfl, k1, (hG8.block sb hsbW (by intro e; exact hsX (Option.some.inj e))).trans hS, World.ownsRow.kept hownA hG8 (.inr HneX.out), hlocA.anyrow hG8 (fun g e => by cases e; exact hwX), hbelA.grown hG8 hbelA.size (fun g e => by cases e; exact h1X)⟩
            | false =>
              obtain rfl : sel = false := Hsel.out
              have s6 : W.cell? ⟨sb, 6, none⟩ = some (.bool false) := cell_of_row _ sb 6 _ _ _ hS
              have s2 : W.cell? ⟨sb, 2, none⟩ = some (.int .i64 hn) := cell_of_row _ sb 2 _ _ _ hS
              have s3 : W.cell? ⟨sb, 3, none⟩ = some (.int .i64 hd) := cell_of_row _ sb 3 _ _ _ hS
              have HA := Lib.hid (show midR ln ld hn hd = ((xn, xd), xe) from HR.out.symm)
              have HM := Lib.hid (fun W => r1_middle ln ld hn hd W hL0)
              rw [HA.out] at HM
              go_upto_region 17 with fail
              refine wp_region_noPanic ?_
              refine wp_region_U (S := (fun w' => w'.cell? ⟨X, 0, none⟩ = some (.int .i64 ln) ∧ w'.cell? ⟨X, 1, none⟩ = some (.int .i64 ld) ∧ w'.cell? ⟨sb, 2, none⟩ = some (.int .i64 hn) ∧ w'.cell? ⟨sb, 3, none⟩ = some (.int .i64 hd))) (k := 10) (by kernel_rfl) ⟨x0, x1, s2, s3⟩ (fun hHeld => ?_)
              refine wpAnyU_take (i := 0) (v := ?_) rfl (by kernel_rfl) (by kernel_rfl) (by kernel_rfl) (by kernel_rfl) (by kernel_rfl) (by kernel_rfl) (fun _ _ _ h => h) (Or.inl ⟨by rfl, ?_⟩) (by assumption) ?_
              rotate_left
              · intro w hSw; (try dsimp only at hSw); go_simp; (try with_reducible rfl)
              try simp only [Act.put, List.getElem_toArray, List.getElem_cons_zero, List.setIfInBounds_toArray, List.set_cons_zero, List.set_cons_succ]
              refine wpAnyU_take (i := 1) (v := ?_) rfl (by kernel_rfl) (by kernel_rfl) (by kernel_rfl) (by kernel_rfl) (by kernel_rfl) (by kernel_rfl) (fun _ _ _ h => h) (Or.inl ⟨by rfl, ?_⟩) (by assumption) ?_
              rotate_left
              · intro w hSw; (try dsimp only at hSw); go_simp; (try with_reducible rfl)
              try simp only [Act.put, List.getElem_toArray, List.getElem_cons_zero, List.getElem_cons_succ, List.setIfInBounds_toArray, List.set_cons_zero, List.set_cons_succ]
              refine wpAnyU_take (i := 2) (v := ?_) rfl (by kernel_rfl) (by kernel_rfl) (by kernel_rfl) (by kernel_rfl) (by kernel_rfl) (by kernel_rfl) (fun _ _ _ h => h) (Or.inl ⟨by rfl, ?_⟩) (by assumption) ?_
              rotate_left
              · intro w hSw; (try dsimp only at hSw); go_simp; (try with_reducible rfl)
              try simp only [Act.put, List.getElem_toArray, List.getElem_cons_zero, List.getElem_cons_succ, List.setIfInBounds_toArray, List.set_cons_zero, List.set_cons_succ]
              refine wpAnyU_take (i := 3) (v := ?_) rfl (by kernel_rfl) (by kernel_rfl) (by kernel_rfl) (by kernel_rfl) (by kernel_rfl) (by kernel_rfl) (fun _ _ _ h => h) (Or.inl ⟨by rfl, ?_⟩) (by assumption) ?_
              rotate_left
              · intro w hSw; (try dsimp only at hSw); go_simp; (try with_reducible rfl)
              try simp only [Act.put, List.getElem_toArray, List.getElem_cons_zero, List.getElem_cons_succ, List.setIfInBounds_toArray, List.set_cons_zero, List.set_cons_succ]
              refine wpAnyU_take (i := 4) (v := ?_) rfl (by kernel_rfl) (by kernel_rfl) (by kernel_rfl) (by kernel_rfl) (by kernel_rfl) (by kernel_rfl) (fun _ _ _ h => h) (Or.inl ⟨by rfl, ?_⟩) (by assumption) ?_
              rotate_left
              · intro w hSw; (try dsimp only at hSw); go_simp; (try with_reducible rfl)
              try simp only [Act.put, List.getElem_toArray, List.getElem_cons_zero, List.getElem_cons_succ, List.setIfInBounds_toArray, List.set_cons_zero, List.set_cons_succ]
              refine wpAnyU_take (i := 5) (v := ?_) rfl (by kernel_rfl) (by kernel_rfl) (by kernel_rfl) (by kernel_rfl) (by kernel_rfl) (by kernel_rfl) (fun _ _ _ h => h) (Or.inl ⟨by rfl, ?_⟩) (by assumption) ?_
              rotate_left
              · intro w hSw; (try dsimp only at hSw); go_simp; (try with_reducible rfl)
              try simp only [Act.put, List.getElem_toArray, List.getElem_cons_zero, List.getElem_cons_succ, List.setIfInBounds_toArray, List.set_cons_zero, List.set_cons_succ]
              refine wpAnyU_ready (rs := [6]) (by kernel_rfl) (by simp) ?_
              refine AllReadyU.cons rfl (fun K hK => ?_) AllReadyU.nil
              go_simp
              refine (HM.out _).mono ?_
              rintro e w8 ⟨he8, hb8⟩
              obtain rfl : e = .returned (.tuple #[.agg #[.int .i64 xn, .int .i64 xd], .int .i64 xe]) := he8
              have q0 := keepb (show W.drew.cell? ⟨X, 0, none⟩ = _ from x0) hb8
              have q1 := keepb (show W.drew.cell? ⟨X, 1, none⟩ = _ from x1) hb8
              have q2 := keepb (show W.drew.cell? ⟨sb, 2, none⟩ = _ from s2) hb8
              have q3 := keepb (show W.drew.cell? ⟨sb, 3, none⟩ = _ from s3) hb8
              have hx8 := (hb8.block X (show X < W.heap.size from hXs)).trans (show W.drew.heap[X]? = _ from hx)
              have hG8 := grown_set (i := 1) (v := .int .i64 xd) (grown_set (i := 0) (v := .int .i64 xn) (grownBy_trans (grownBy_drew W (some X)) (grownBy_below hb8 (some X))))
              have f0 := frozen_of_row _ X 0 _ _ hx8
              have f1 := frozen_of_row _ X 1 _ _ hx8
              refine hK.out _ _ ⟨q0, q1, q2, q3⟩ (fun hHeld2 => ?_)
              clear hK K
              try simp only [Act.put, List.getElem_toArray, List.getElem_cons_zero, List.getElem_cons_succ, List.setIfInBounds_toArray, List.set_cons_zero, List.set_cons_succ]
              refine wpAnyU_take (i := 7) (v := ?_) rfl (by kernel_rfl) (by kernel_rfl) (by kernel_rfl) (by kernel_rfl) (by kernel_rfl) (by kernel_rfl) (fun _ _ _ h => h) (Or.inl ⟨by rfl, ?_⟩) (by assumption) ?_
              rotate_left
              · intro w hSw; (try dsimp only at hSw); go_simp; (try with_reducible rfl)
              try simp only [Act.put, List.getElem_toArray, List.getElem_cons_zero, List.getElem_cons_succ, List.setIfInBounds_toArray, List.set_cons_zero, List.set_cons_succ]
              refine wpAnyU_take (i := 8) (v := ?_) rfl (by kernel_rfl) (by kernel_rfl) (by kernel_rfl) (by kernel_rfl) (by kernel_rfl) (by kernel_rfl) (fun _ _ _ h => h) (Or.inl ⟨by rfl, ?_⟩) (by assumption) ?_
              rotate_left
              · intro w hSw; (try dsimp only at hSw); go_simp; (try with_reducible rfl)
              try simp only [Act.put, List.getElem_toArray, List.getElem_cons_zero, List.getElem_cons_succ, List.setIfInBounds_toArray, List.set_cons_zero, List.set_cons_succ]
              refine wpAnyU_takeW (i := 9) (v := ?_) rfl (by kernel_rfl) (by kernel_rfl) (by kernel_rfl) (by kernel_rfl) (fun _ _ _ h => h) (Or.inl ⟨by rfl, ?_⟩) (Or.inr (by assumption)) ?_
              rotate_left
              · intro w _; go_simp; (try with_reducible rfl)
              try simp only [Act.put, List.getElem_toArray, List.getElem_cons_zero, List.getElem_cons_succ, List.setIfInBounds_toArray, List.set_cons_zero, List.set_cons_succ]
              refine wpAnyU_ready (rs := [10]) (by kernel_rfl) (by simp) ?_
              refine AllReadyU.past rfl (by kernel_rfl) (fun K hK => ?_) AllReadyU.nil
              go_simp
              refine hK.out _ _ ?_
              clear hK K
              try simp only [Act.put, List.getElem_toArray, List.getElem_cons_zero, List.getElem_cons_succ, List.setIfInBounds_toArray, List.set_cons_zero, List.set_cons_succ]
              refine wpAnyU_takeW (i := 11) (v := ?_) rfl (by kernel_rfl) (by kernel_rfl) (by kernel_rfl) (by kernel_rfl) (fun _ _ _ h => h) (Or.inl ⟨by rfl, ?_⟩) (Or.inl (by kernel_rfl)) ?_
              rotate_left
              · intro w _; go_simp; (try with_reducible rfl)
              try simp only [Act.put, List.getElem_toArray, List.getElem_cons_zero, List.getElem_cons_succ, List.setIfInBounds_toArray, List.set_cons_zero, List.set_cons_succ]
              refine wpAnyU_done (by kernel_rfl) ?_ _
              refine NoPanic.normal ?_
              go_wp2_with fail
              go_meet
              have k0 := heap_setCell_same _ X 0 _ _ (.int .i64 xn) hx8
              have k1 := heap_setCell_same _ X 1 _ _ (.int .i64 xd) k0
              exact ⟨rfl, k1, (hG8.block sb hsbW (by intro e; exact hsX (Option.some.inj e))).trans hS, World.ownsRow.kept hownA hG8 (.inr HneX.out), hlocA.anyrow hG8 (fun g e => by cases e; exact hwX), hbelA.grown hG8 hbelA.size (fun g e => by cases e; exact h1X)⟩
        case rest =>
          obtain ⟨rfl, hx, hS, hown, hloc, hbel⟩ := hcut
          clear hownA hlocA hbelA x0 x1 hXs hsbW HR
          have s7 : wc.cell? ⟨sb, 7, none⟩ = some (.bool wd) := cell_of_row _ sb 7 _ _ _ hS
          cases wd with
          | true =>
            have HE := Lib.hid (HPB.out (by rw [Hpk.out]; simp))
            go_wp2_with fail
            go_ret2
            exact ⟨QE.err HE.out _, below_grownBy hloc.grown⟩
          | false =>
            by_cases he : xe = 0
            rotate_left
            · have heb : (xe != 0) = true := by simpa using he
              have HE := Lib.hid (HPB.out (by rw [Hpk.out]; simpa using he))
              clear he
              go_wp2_with fail
              go_ret2
              exact ⟨QE.err HE.out _, below_grownBy hloc.grown⟩
            subst he
            have HE := Lib.hid (HPO.out (by rw [Hpk.out]; simp))
            rw [Hpk.out] at HE
            simp only [Bool.false_eq_true, if_false] at HE
            have x0 := cell_of_row _ X 0 _ _ _ hx
            have x1 := cell_of_row _ X 1 _ _ _ hx
            have hownB := Lib.hid (World.ownsRow.alloc hown (.cells #[.int .i64 xn, .int .i64 xd] 48))
            have hrl := Lib.hid (rs_one2 wc xn xd 48)
            have hlocB := hloc.next (World.grownBy_alloc wc (.cells #[.int .i64 xn, .int .i64 xd] 48) none) (fun _ h => by cases h)
            have hWs : w.heap.size + 1 ≤ wc.heap.size := hloc.size
            have hWs1 : w1.heap.size ≤ wc.heap.size := hbel.size
            have hbelB := bal hbel (.cells #[.int .i64 xn, .int .i64 xd] 48)
            obtain ⟨i0, hi0, hz0, hz1, hz2⟩ := info_parts Try.infoQ
            have Hi := Lib.hid hi0
            have Hz0 := Lib.hid hz0
            have Hz1 := Lib.hid hz1
            have Hz2 := Lib.hid hz2
            clear hi0 hz0 hz1 hz2
            go_wp2_with (at_builtin; (refine wpList_append_rs rfl (.tmp 89) (.tmp 91) 45 rfl w1.heap.size 48 i0 (.agg #[.int .i64 0, .int .i64 0]) 2 16 Try.undRatios Hi.out Hz0.out Hz1.out Hz2.out rfl (by decide) u4 p.length (p.flatMap cells2) rfl hownB.out (wc.heap.size + 1) (.slice (some ⟨wc.heap.size, 0, none⟩) 1 1) rfl 1 [.int .i64 xn, .int .i64 xd] hrl.out rfl ?_ ?_ ?_ ?_ ?_; (intro u hu; simp only [List.mem_cons, List.not_mem_nil, or_false] at hu; rcases hu with rfl | rfl <;> rfl); (have := HpL2.out; unfold maxLen; omega); (have := HpL2.out; omega); (simp; omega); intro v' w' ho' hg'))
            have hbelC := hbelB.grown hg' hbelB.size (fun g e => (World.ownsRow.lt hownB.out g e).1)
            go_roundw
            case rel => exact ⟨i + 1, p ++ [(xn, xd)], by omega, by go_num, HE.out, by rw [List.length_append, HpL2.out]; rfl, by unfold OQ; rw [List.length_append, List.flatMap_append]; exact ho', hlocB.anyrow hg' (fun g e => Nat.le_trans H11.out (World.ownsRow.lt hownB.out g e).1), hbelC⟩
            case measure => simp [intOf]; omega
end Go.Proofs.Ytkgaipcgdldfdaa
