/- The law's later: a point after a delay. The law ZoneTimes answers true for every input, and writes nothing that was there. -/
import Derived.Test.YtkgaipcgdldfdaaTmp
import Derived.Test.YtkgaipcgdldfdaaPha
import Derived.Test.YtkgaipcgdldfdaaSyp
import Derived.Test.YtkgaipcgdldfdaaPpt
import Derived.Test.YtkgaipcgdldfdaaPic
import Derived.Test.YtkgaipcgdldfdaaLaw3
namespace Go.Proofs.Ytkgaipcgdldfdaa
open Go.RowKit
set_option linter.unusedVariables false

theorem Loc.three3 (w : World) (a b c : Obj) (row : Option Nat) : Loc w (((w.alloc a).alloc b).alloc c) row [a, b, c] := Loc.three w a b c row
theorem addTo_i64 (ps : List (Int × Int)) (d : Int × Int) (n : Nat) : ∀ k, k < (addTo ps d n).length → I64 (gq (addTo ps d n) k).1 := fun k hk => by
  rw [addTo_len] at hk
  rw [addTo_at ps d n k hk]
  exact addR_i64 _ _ _ _
/-- What later leans on. -/
def LtA (N : Nat) (xs : List Int) (ps : List (Int × Int)) (dn dd : Int) (s : Sp) (g : Int) : Prop :=
  (g = 0 ∨ g = 4) ∧ (vr dn dd = true → 0 ≤ dn → (∀ k, k < ps.length → (addR (gq ps k).1 (gq ps k).2 dn dd).2 = 0) →
    ((hasF N xs (addTo ps (dn, dd) ps.length)).2 = 0 ∨ (hasF N xs (addTo ps (dn, dd) ps.length)).2 = 7) ∧
    ((hasF N xs (addTo ps (dn, dd) ps.length)).2 = 0 → g = 4 → (hasF N xs (addTo ps (dn, dd) ps.length)).1 = false) ∧
    (g = 0 → SpV s) ∧
    ((hasF N xs (addTo ps (dn, dd) ps.length)).2 = 0 → g = 0 → (hasF N xs (addTo ps (dn, dd) ps.length)).1 = insB s (dn, dd)))
theorem vr_cmp {a b c d : Int} (h1 : vr a b = true) (h2 : vr c d = true) : (cmpR a b c d).2 = 0 := (cmp_rv h1 h2).1
set_option maxRecDepth 100000 in
set_option maxHeartbeats 8000000 in
theorem law_later (N : Nat) (v pv : Value) (xs : List Int) (ps : List (Int × Int)) (dn dd : Int) (s : Sp) (g : Int) (w : World) (hv : RL w.heap.size w v xs) (hp : RQ w.heap.size w pv ps) (hL : LtA N xs ps dn dd s g) (h50 : ps.length ≤ 50) :
    Calls Try.prog 56 #[.agg #[.int .i64 N, v], pv, .agg #[.int .i64 dn, .int .i64 dd], s.delays, .int .i64 g] w fun e w' => e = .returned (.bool true) ∧ Below w.heap.size w w' := by
  obtain ⟨aoz, capz, rfl, hlez, _⟩ := hv.open
  obtain ⟨aop, capp, rfl, hlep, h0p⟩ := hp.open
  obtain ⟨ln, ld, hn, hd, lo, ho, nh, wd⟩ := s
  have hloc := Loc.three w (.cells #[.int .i64 N, .slice aoz xs.length capz] 24) (.cells #[.int .i64 dn, .int .i64 dd] 48) (.cells #[.int .i64 ln, .int .i64 ld, .int .i64 hn, .int .i64 hd, .bool lo, .bool ho, .bool nh] 50) none
  have Hv := Lib.hid hv
  have Hp := Lib.hid hp
  have H0p := Lib.hid h0p
  have HL := Lib.hid hL
  clear hv hp h0p hL
  show Calls Try.prog 56 #[.agg #[.int .i64 N, .slice aoz xs.length capz], .slice aop ps.length capp, .agg #[.int .i64 dn, .int .i64 dd], .agg #[.int .i64 ln, .int .i64 ld, .int .i64 hn, .int .i64 hd, .bool lo, .bool ho, .bool nh], .int .i64 g] w _
  cases hvr : vr dn dd with
  | false =>
    go_enter Try.func56, Try.ntmps56
    go_wp2_with fail
    refine (r1_valid_no _ _ _ hvr).mono ?_
    rintro e w1 ⟨rfl, hb1⟩
    clear hvr
    go_wp2_with fail
    go_ret
    exact ⟨rfl, below_grownBy (hloc.next (grownBy_below hb1 none) (fun _ h => by cases h)).grown⟩
  | true =>
    have HVR := Lib.hid hvr
    by_cases hneg : dn < 0
    · have ht : decide (dn < 0) = true := by simpa using hneg
      go_enter Try.func56, Try.ntmps56
      go_wp2_with fail
      refine (r1_valid_yes _ _ _ hvr).mono ?_
      rintro e w1 ⟨rfl, hb1⟩
      have hloc1 := hloc.next (grownBy_below hb1 none) (fun _ h => by cases h)
      have e0 : w1.cell? ⟨w.heap.size + 1, 0, none⟩ = some (.int .i64 dn) := hloc1.cell 1 rfl 0
      clear hvr hb1 hneg
      go_wp2_with fail
      go_ret
      exact ⟨rfl, below_grownBy hloc1.grown⟩
    have ht : decide (dn < 0) = false := by simpa using hneg
    have HDN := Lib.hid (show 0 ≤ dn by omega)
    clear hneg
    go_enter Try.func56, Try.ntmps56
    go_wp2_with fail
    refine (r1_valid_yes _ _ _ hvr).mono ?_
    rintro e w1 ⟨rfl, hb1⟩
    have hloc1 := hloc.next (grownBy_below hb1 none) (fun _ h => by cases h)
    have e0 : w1.cell? ⟨w.heap.size + 1, 0, none⟩ = some (.int .i64 dn) := hloc1.cell 1 rfl 0
    clear hvr hb1 hloc
    go_wp2_with fail
    clear ht e0
    go_loopw [11, 12] (fun o i wr => ∃ q : Nat, q ≤ ps.length ∧ i = .int .i64 q ∧ (∀ k, k < q → (addR (gq ps k).1 (gq ps k).2 dn dd).2 = 0) ∧ OQ 48 (w.heap.size + 3) wr o (addTo ps (dn, dd) q) ∧ Loc w wr none [.cells #[.int .i64 N, .slice aoz xs.length capz] 24, .cells #[.int .i64 dn, .int .i64 dd] 48, .cells #[.int .i64 ln, .int .i64 ld, .int .i64 hn, .int .i64 hd, .bool lo, .bool ho, .bool nh] 50]) (fun _ i _ => ps.length - (intOf i).toNat)
    case atStart => exact ⟨0, Nat.zero_le _, rfl, fun k hk => by omega, World.ownsRow_nil _ _ _ _, hloc1⟩
    case round =>
      clear hloc1
      obtain ⟨i, hi, rfl, hadd, hown, hloc⟩ := hrel
      have Hadd := Lib.hid hadd
      have Hown := Lib.hid hown
      clear hadd hown
      have d0 : wr.cell? ⟨w.heap.size + 1, 0, none⟩ = some (.int .i64 dn) := hloc.cell 1 rfl 0
      have d1 : wr.cell? ⟨w.heap.size + 1, 1, none⟩ = some (.int .i64 dd) := hloc.cell 1 rfl 1
      by_cases hlt : i < ps.length
      · have hti : decide ((i : Int) < (ps.length : Int)) = true := by simp; omega
        obtain ⟨bp, op, rfl, hbp, hcp⟩ := H0p.out (by omega)
        obtain ⟨p0', p1'⟩ := hcp i hlt
        have p0 := ((bcell (below_grownBy hloc.grown)).1 _ _ hbp).trans p0'
        have p1 := ((bcell (below_grownBy hloc.grown)).1 _ _ hbp).trans p1'
        have hi0 : (i : Int) < ps.length := by omega
        have hi1 : (0 : Int) ≤ (i : Int) := by omega
        have HSC := Lib.hid (show addTo ps (dn, dd) (i + 1) = addTo ps (dn, dd) i ++ [(addR (gq ps i).1 (gq ps i).2 dn dd).1] from rfl)
        have HA2 := Lib.hid (fun (h : (addR (gq ps i).1 (gq ps i).2 dn dd).2 = 0) => (fun k (hk : k < i + 1) => (by
          rcases Nat.lt_or_ge k i with c | c
          · exact Hadd.out k c
          · rw [show k = i by omega]; exact h : (addR (gq ps k).1 (gq ps k).2 dn dd).2 = 0)))
        clear hcp p0' p1' hlt
        generalize gq ps i = E at *
        obtain ⟨pn, pd⟩ := E
        simp only at p0 p1 HSC HA2
        generalize hR : addR pn pd dn dd = R at HSC HA2
        obtain ⟨⟨xn, xd⟩, xe⟩ := R
        have HR := Lib.hid hR
        have n1 : ¬ bp = wr.heap.size := by have := hloc.size; simp at this; omega
        have n2 : ¬ w.heap.size + 1 = wr.heap.size := by have := hloc.size; simp at this; omega
        have n4 : ¬ wr.heap.size = bp := by omega
        have n5 : ¬ wr.heap.size = w.heap.size + 1 := by omega
        have n3 : w.heap.size + 3 ≤ wr.heap.size := hloc.size
        have bA : Below wr.heap.size wr (wr.alloc (.cells #[.int .i64 0, .int .i64 0] 48)) := (Below.refl _ _).alloc (Nat.le_refl _) _
        clear hR
        go_upto_region 7 with fail
        go_region_held3 (fun w' => w'.cell? ⟨bp, op + i * 2, none⟩ = some (.int .i64 pn) ∧ w'.cell? ⟨bp, op + i * 2 + 1, none⟩ = some (.int .i64 pd) ∧ w'.cell? ⟨w.heap.size + 1, 0, none⟩ = some (.int .i64 dn) ∧ w'.cell? ⟨w.heap.size + 1, 1, none⟩ = some (.int .i64 dd))
          (first | exact ⟨by assumption, by assumption, by assumption, by assumption⟩ | go_keep)
          (first
            | (go_at_call 97; refine (r1_add pn pd dn dd _).mono ?_; rw [HR.out]; rintro e w8 ⟨rfl, hb8⟩; have q0 := keepb (show wr.drew.cell? _ = _ from p0) hb8; have q1 := keepb (show wr.drew.cell? _ = _ from p1) hb8; have q2 := keepb (show wr.drew.cell? _ = _ from d0) hb8; have q3 := keepb (show wr.drew.cell? _ = _ from d1) hb8)
            | (go_at_call 97; refine (r1_add pn pd dn dd _).mono ?_; rw [HR.out]; rintro e w8 ⟨rfl, hb8⟩; have q0 := keepb (show (wr.alloc (.cells #[.int .i64 0, .int .i64 0] 48)).drew.cell? _ = _ from keepb p0 bA.drew) hb8; have q1 := keepb (show (wr.alloc (.cells #[.int .i64 0, .int .i64 0] 48)).drew.cell? _ = _ from keepb p1 bA.drew) hb8; have q2 := keepb (show (wr.alloc (.cells #[.int .i64 0, .int .i64 0] 48)).drew.cell? _ = _ from keepb d0 bA.drew) hb8; have q3 := keepb (show (wr.alloc (.cells #[.int .i64 0, .int .i64 0] 48)).drew.cell? _ = _ from keepb d1 bA.drew) hb8; have hk := (hb8.block wr.heap.size (by simp)).trans (show (wr.alloc (.cells #[.int .i64 0, .int .i64 0] 48)).drew.heap[wr.heap.size]? = _ from heap_alloc_new wr _); have s0 := cell_of_row _ wr.heap.size 0 _ _ _ hk; have s1 := cell_of_row _ wr.heap.size 1 _ _ _ hk; have f0 := frozen_of_row _ wr.heap.size 0 _ _ hk; have f1 := frozen_of_row _ wr.heap.size 1 _ _ hk))
        · have hbW : Below wr.heap.size wr (w8.alloc (.cells #[.int .i64 xn, .int .i64 xd] 48)) := (((Below.refl wr.heap.size wr).drew).trans hb8).alloc hb8.size _
          have hdW := heap_alloc_new w8 (.cells #[.int .i64 xn, .int .i64 xd] 48)
          generalize hBB : w8.heap.size = B at *
          generalize hWW : w8.alloc (.cells #[.int .i64 xn, .int .i64 xd] 48) = W at *
          clear hWW hBB
          clear p0 p1 q0 q1 q2 q3 hb8 bA n1 n2 n4 n5 d0 d1
          have hlocW := hloc.next (grownBy_below hbW none) (fun _ h => by cases h)
          have c0 := cell_of_row _ B 0 _ _ _ hdW
          have c1 := cell_of_row _ B 1 _ _ _ hdW
          have hown : OQ 48 (w.heap.size + 3) W _ (addTo ps (dn, dd) i) := World.ownsRow.kept Hown.out (grownBy_below hbW none) (by cases hh : u11.ownBlock with | none => exact .inl rfl | some b => exact .inr (by simp))
          have HbW := Lib.hid hbW
          clear hbW hloc
          by_cases hxe : xe = 0
          · subst hxe
            have HA3 := Lib.hid (HA2.out rfl)
            have hownB := Lib.hid (World.ownsRow.alloc hown (.cells #[.int .i64 xn, .int .i64 xd] 48))
            have hrl := Lib.hid (rs_one2 W xn xd 48)
            have hlocB := hlocW.next (World.grownBy_alloc W (.cells #[.int .i64 xn, .int .i64 xd] 48) none) (fun _ h => by cases h)
            have hWs : w.heap.size + 3 ≤ W.heap.size := hlocW.size
            obtain ⟨i0, hi0', hz0, hz1, hz2⟩ := info_parts Try.infoQ
            have Hi := Lib.hid hi0'
            have Hz0 := Lib.hid hz0
            have Hz1 := Lib.hid hz1
            have Hz2 := Lib.hid hz2
            have HpL := Lib.hid (addTo_len ps (dn, dd) i)
            rw [HpL.out] at hownB
            clear hi0' hz0 hz1 hz2
            go_wp2_with (at_builtin; (refine wpList_append_rs rfl (.tmp 47) (.tmp 49) 45 rfl (w.heap.size + 3) 48 i0 (.agg #[.int .i64 0, .int .i64 0]) 2 16 Try.undRatios Hi.out Hz0.out Hz1.out Hz2.out rfl (by decide) u11 i ((addTo ps (dn, dd) i).flatMap cells2) rfl hownB.out (W.heap.size + 1) (.slice (some ⟨W.heap.size, 0, none⟩) 1 1) rfl 1 [.int .i64 xn, .int .i64 xd] hrl.out rfl ?_ ?_ ?_ ?_ ?_; (intro u hu; simp only [List.mem_cons, List.not_mem_nil, or_false] at hu; rcases hu with rfl | rfl <;> rfl); (unfold maxLen; omega); omega; (simp; omega); intro v' w' ho' hg'))
            go_roundw
            case rel => exact ⟨i + 1, by omega, by go_num, HA3.out, by rw [HSC.out]; unfold OQ; rw [List.length_append, HpL.out, List.flatMap_append]; exact ho', hlocB.anyrow hg' (fun g e => (World.ownsRow.lt hownB.out g e).1)⟩
            case measure => simp [intOf]; omega
          · have heb : (xe != 0) = true := by simpa using hxe
            clear hxe
            go_wp2_with fail
            go_ret
            exact ⟨rfl, below_grownBy hlocW.grown⟩
        · have hbW : Below wr.heap.size wr ((w8.setCell ⟨wr.heap.size, 0, none⟩ (.int .i64 xn)).setCell ⟨wr.heap.size, 1, none⟩ (.int .i64 xd)) := ((bA.drew.trans (hb8.mono (by simp))).setCell (Nat.le_refl _) _).setCell (Nat.le_refl _) _
          have hdW : ((w8.setCell ⟨wr.heap.size, 0, none⟩ (.int .i64 xn)).setCell ⟨wr.heap.size, 1, none⟩ (.int .i64 xd)).heap[wr.heap.size]? = some (.cells #[.int .i64 xn, .int .i64 xd] 48 (0, 0)) := heap_setCell_same _ _ 1 _ _ _ (heap_setCell_same _ _ 0 _ _ _ hk)
          generalize hWW : (w8.setCell ⟨wr.heap.size, 0, none⟩ (.int .i64 xn)).setCell ⟨wr.heap.size, 1, none⟩ (.int .i64 xd) = W at *
          generalize hBB : (wr.heap.size : Nat) = B at hdW ⊢
          clear hWW hk s0 s1 f0 f1
          clear p0 p1 q0 q1 q2 q3 hb8 bA n1 n2 n4 n5 d0 d1
          have hlocW := hloc.next (grownBy_below hbW none) (fun _ h => by cases h)
          have c0 := cell_of_row _ B 0 _ _ _ hdW
          have c1 := cell_of_row _ B 1 _ _ _ hdW
          have hown : OQ 48 (w.heap.size + 3) W _ (addTo ps (dn, dd) i) := World.ownsRow.kept Hown.out (grownBy_below hbW none) (by cases hh : u11.ownBlock with | none => exact .inl rfl | some b => exact .inr (by simp))
          have HbW := Lib.hid hbW
          clear hbW hloc
          by_cases hxe : xe = 0
          · subst hxe
            have HA3 := Lib.hid (HA2.out rfl)
            have hownB := Lib.hid (World.ownsRow.alloc hown (.cells #[.int .i64 xn, .int .i64 xd] 48))
            have hrl := Lib.hid (rs_one2 W xn xd 48)
            have hlocB := hlocW.next (World.grownBy_alloc W (.cells #[.int .i64 xn, .int .i64 xd] 48) none) (fun _ h => by cases h)
            have hWs : w.heap.size + 3 ≤ W.heap.size := hlocW.size
            obtain ⟨i0, hi0', hz0, hz1, hz2⟩ := info_parts Try.infoQ
            have Hi := Lib.hid hi0'
            have Hz0 := Lib.hid hz0
            have Hz1 := Lib.hid hz1
            have Hz2 := Lib.hid hz2
            have HpL := Lib.hid (addTo_len ps (dn, dd) i)
            rw [HpL.out] at hownB
            clear hi0' hz0 hz1 hz2
            go_wp2_with (at_builtin; (refine wpList_append_rs rfl (.tmp 47) (.tmp 49) 45 rfl (w.heap.size + 3) 48 i0 (.agg #[.int .i64 0, .int .i64 0]) 2 16 Try.undRatios Hi.out Hz0.out Hz1.out Hz2.out rfl (by decide) u11 i ((addTo ps (dn, dd) i).flatMap cells2) rfl hownB.out (W.heap.size + 1) (.slice (some ⟨W.heap.size, 0, none⟩) 1 1) rfl 1 [.int .i64 xn, .int .i64 xd] hrl.out rfl ?_ ?_ ?_ ?_ ?_; (intro u hu; simp only [List.mem_cons, List.not_mem_nil, or_false] at hu; rcases hu with rfl | rfl <;> rfl); (unfold maxLen; omega); omega; (simp; omega); intro v' w' ho' hg'))
            go_roundw
            case rel => exact ⟨i + 1, by omega, by go_num, HA3.out, by rw [HSC.out]; unfold OQ; rw [List.length_append, HpL.out, List.flatMap_append]; exact ho', hlocB.anyrow hg' (fun g e => (World.ownsRow.lt hownB.out g e).1)⟩
            case measure => simp [intOf]; omega
          · have heb : (xe != 0) = true := by simpa using hxe
            clear hxe
            go_wp2_with fail
            go_ret
            exact ⟨rfl, below_grownBy hlocW.grown⟩
      · have hti : decide ((i : Int) < (ps.length : Int)) = false := by simp; omega
        obtain rfl : i = ps.length := by omega
        obtain ⟨hg, hfacts⟩ := HL.out
        obtain ⟨b1, b2, b3, b4⟩ := hfacts HVR.out HDN.out Hadd.out
        have z0 : wr.cell? ⟨w.heap.size, 0, none⟩ = some (.int .i64 N) := hloc.cell 0 rfl 0
        have z1 : wr.cell? ⟨w.heap.size, 1, none⟩ = some (.slice aoz xs.length capz) := hloc.cell 0 rfl 1
        have HH := Lib.hid (fun w hv pv hp => prog_has N (.slice aoz xs.length capz) pv xs (addTo ps (dn, dd) ps.length) w hv hp (addTo_i64 ps (dn, dd) ps.length))
        have Hq := Lib.hid (OQ.rq Hown.out)
        have Hg := Lib.hid hg
        generalize hasF N xs (addTo ps (dn, dd) ps.length) = A at *
        obtain ⟨a, ae⟩ := A
        simp only at b1 b2 b4
        have B1 := Lib.hid b1
        have B2 := Lib.hid b2
        have B3 := Lib.hid b3
        have B4 := Lib.hid b4
        clear hg hfacts b1 b2 b3 b4
        go_wp2_with fail
        refine (HH.out wr (Hv.out.keepb (below_grownBy hloc.grown)) _ Hq.out).mono ?_
        rintro e w2 ⟨he, hb2⟩
        obtain rfl : e = .returned (.tuple #[.bool a, .int .i64 ae]) := he
        have hloc2 := hloc.next (grownBy_below hb2 none) (fun _ h => by cases h)
        clear hloc hb2 z0 z1 d0 d1
        have hb6 := below_grownBy hloc2.grown
        by_cases hae : ae = 0
        rotate_left
        · obtain rfl : ae = 7 := B1.out.resolve_left hae
          clear hae
          go_wp2_with fail
          go_ret
          exact ⟨rfl, hb6⟩
        subst hae
        by_cases hg0 : g = 0
        rotate_left
        · obtain rfl : g = 4 := Hg.out.resolve_left hg0
          obtain rfl : a = false := B2.out rfl rfl
          clear hg0
          go_wp2_with fail
          go_ret
          exact ⟨rfl, hb6⟩
        subst hg0
        have sv := B3.out rfl
        have HB := Lib.hid (show a = insB ⟨ln, ld, hn, hd, lo, ho, nh, wd⟩ (dn, dd) from B4.out rfl rfl)
        have c1 := vr_cmp (show vr ln ld = true from sv.lv) HVR.out
        have HC2 := Lib.hid (fun h => vr_cmp HVR.out (sv.hv h))
        have v1 := cmpR_val ln ld dn dd
        have v2 := cmpR_val dn dd hn hd
        have HI := Lib.hid (show insB ⟨ln, ld, hn, hd, lo, ho, nh, wd⟩ (dn, dd) = ((decide ((cmpR ln ld dn dd).1 < 0) || (decide ((cmpR ln ld dn dd).1 = 0) && !lo)) && (nh || (decide ((cmpR dn dd hn hd).1 < 0) || (decide ((cmpR dn dd hn hd).1 = 0) && !ho)))) from rfl)
        clear sv
        have s0 : w2.cell? ⟨w.heap.size + 1 + 1, 0, none⟩ = some (.int .i64 ln) := hloc2.cell 2 rfl 0
        have s1 : w2.cell? ⟨w.heap.size + 1 + 1, 1, none⟩ = some (.int .i64 ld) := hloc2.cell 2 rfl 1
        have d0 : w2.cell? ⟨w.heap.size + 1, 0, none⟩ = some (.int .i64 dn) := hloc2.cell 1 rfl 0
        have d1 : w2.cell? ⟨w.heap.size + 1, 1, none⟩ = some (.int .i64 dd) := hloc2.cell 1 rfl 1
        have HK1 := Lib.hid (fun W => r1_cmp ln ld dn dd W)
        generalize cmpR ln ld dn dd = C at *
        obtain ⟨c, ce⟩ := C
        simp only at c1 v1
        subst c1
        go_wp2_with fail
        refine (HK1.out _).mono ?_
        rintro e w3 ⟨he, hb3⟩
        obtain rfl : e = .returned (.tuple #[.int .i64 c, .int .i64 0]) := he
        have hloc3 := hloc2.next (grownBy_below hb3 none) (fun _ h => by cases h)
        clear hb3 hloc2 s0 s1 d0 d1 hb6
        have hb6 := below_grownBy hloc3.grown
        have s2 : w3.cell? ⟨w.heap.size + 1 + 1, 2, none⟩ = some (.int .i64 hn) := hloc3.cell 2 rfl 2
        have s3 : w3.cell? ⟨w.heap.size + 1 + 1, 3, none⟩ = some (.int .i64 hd) := hloc3.cell 2 rfl 3
        have s4 : w3.cell? ⟨w.heap.size + 1 + 1, 4, none⟩ = some (.bool lo) := hloc3.cell 2 rfl 4
        have s6 : w3.cell? ⟨w.heap.size + 1 + 1, 6, none⟩ = some (.bool nh) := hloc3.cell 2 rfl 6
        have d0 : w3.cell? ⟨w.heap.size + 1, 0, none⟩ = some (.int .i64 dn) := hloc3.cell 1 rfl 0
        have d1 : w3.cell? ⟨w.heap.size + 1, 1, none⟩ = some (.int .i64 dd) := hloc3.cell 1 rfl 1
        obtain ⟨L, hLw⟩ : ∃ L, L = (decide (c < 0) || (decide (c = 0) && !lo)) := ⟨_, rfl⟩
        have HLw := Lib.hid hLw
        clear hLw
        go_upto_region 19 with fail
        go_cut [19] (fun s19 wx => s19 = .bool L ∧ wx = w3)
        case first =>
          rcases v1 with h | h | h
          · subst h
            go_wp2_with fail
            go_meet
            exact ⟨by rw [HLw.out]; rfl, rfl⟩
          · subst h
            cases lo with
            | true =>
              go_wp2_with fail
              go_meet
              exact ⟨by rw [HLw.out]; rfl, rfl⟩
            | false =>
              go_wp2_with fail
              go_meet
              exact ⟨by rw [HLw.out]; rfl, rfl⟩
          · subst h
            go_wp2_with fail
            go_meet
            exact ⟨by rw [HLw.out]; rfl, rfl⟩
        case rest =>
          obtain ⟨rfl, hw9⟩ := hcut
          replace hw9 := hw9.symm
          subst hw9
          clear v1
          cases nh with
          | true =>
            obtain rfl : a = L := by rw [HB.out, HI.out, HLw.out]; simp
            have e1 : (a == a) = true := by simp
            go_wp2_with fail
            go_ret
            exact ⟨rfl, hb6⟩
          | false =>
            have c2 := HC2.out rfl
            have HK2 := Lib.hid (fun W => r1_cmp dn dd hn hd W)
            generalize cmpR dn dd hn hd = C2 at *
            obtain ⟨k, ke⟩ := C2
            simp only at c2 v2
            subst c2
            have V2 := Lib.hid v2
            clear v2
            go_wp2_with fail
            refine (HK2.out _).mono ?_
            rintro e w4 ⟨he, hb4⟩
            obtain rfl : e = .returned (.tuple #[.int .i64 k, .int .i64 0]) := he
            have hloc4 := hloc3.next (grownBy_below hb4 none) (fun _ h => by cases h)
            clear hb4 hloc3 s2 s3 s4 s6 d0 d1 hb6
            have hb6 := below_grownBy hloc4.grown
            have s5 : w4.cell? ⟨w.heap.size + 1 + 1, 5, none⟩ = some (.bool ho) := hloc4.cell 2 rfl 5
            have HAL := Lib.hid (show a = (L && (false || (decide (k < 0) || (decide (k = 0) && !ho)))) by rw [HB.out, HI.out, HLw.out])
            cases L with
            | false =>
              obtain rfl : a = false := by rw [HAL.out]; rfl
              go_wp2_with fail
              go_ret
              exact ⟨rfl, hb6⟩
            | true =>
              rcases V2.out with h | h | h
              · subst h
                obtain rfl : a = true := by rw [HAL.out]; rfl
                go_wp2_with fail
                go_ret
                exact ⟨rfl, hb6⟩
              · subst h
                cases ho with
                | true =>
                  obtain rfl : a = false := by rw [HAL.out]; rfl
                  go_wp2_with fail
                  go_ret
                  exact ⟨rfl, hb6⟩
                | false =>
                  obtain rfl : a = true := by rw [HAL.out]; rfl
                  go_wp2_with fail
                  go_ret
                  exact ⟨rfl, hb6⟩
              · subst h
                obtain rfl : a = false := by rw [HAL.out]; rfl
                go_wp2_with fail
                go_ret
                exact ⟨rfl, hb6⟩
end Go.Proofs.Ytkgaipcgdldfdaa
namespace Go.Proofs.Ytkgaipcgdldfdaa
open Go.RowKit
set_option linter.unusedVariables false

theorem zpost_ok {lt base : Nat} {N : Int} {U : List Int} {e : Ending} {w' : World} (h : ZPost lt base N (0, U) e w') : ∃ ao cap, e = .returned (.tuple #[.agg #[.int .i64 N, .slice ao U.length cap], .int .i64 0]) ∧ RL w'.heap.size w' (.slice ao U.length cap) U := by
  obtain ⟨v', he, ho⟩ := h
  obtain ⟨ao, c, rfl⟩ := owns_form ho
  exact ⟨ao, c, he, OL.rl ho⟩
theorem zpost_bad {lt base : Nat} {N : Int} {e : Ending} {w' : World} (h : ZPost lt base N (2, []) e w') : ∃ ao cap, e = .returned (.tuple #[.agg #[.int .i64 0, .slice ao 0 cap], .int .i64 2]) := by
  obtain ⟨v', he, ho⟩ := h
  obtain ⟨ao, c, rfl⟩ := owns_form ho
  exact ⟨ao, c, he⟩
theorem point_i64 {n : Int} {xs : List Int} {q : List (Int × Int)} (h : pointF n xs = (q, 0)) : ∀ k, k < q.length → I64 (gq q k).1 := by
  by_cases hok : OkZ n xs
  rotate_left
  · rw [pointF_no hok] at h; simp at h
  obtain ⟨N, rfl⟩ := Int.eq_ofNat_of_zero_le hok.lo
  unfold pointF at h
  rw [if_pos (okErr_yes hok), Int.toNat_natCast] at h
  cases hp : ptsF N xs N with
  | none => rw [hp] at h; simp at h
  | some p =>
    rw [hp] at h
    obtain rfl : p = q := (Prod.mk.inj h).1
    obtain ⟨hl, hk, _⟩ := pts_in hok N (Nat.le_refl _) p hp
    intro k hkk
    have := (okP_vr (hk (k + 1) (by omega))).1
    unfold ck at this
    rw [if_neg (by omega), Nat.add_sub_cancel] at this
    have := vr_bd this
    unfold I64
    omega
set_option maxRecDepth 100000 in
set_option maxHeartbeats 8000000 in
theorem law_times_bad (n : Int) (v pv : Value) (xs : List Int) (ps : List (Int × Int)) (dn dd : Int) (w : World) (hv : RL w.heap.size w v xs) (hp : RQ w.heap.size w pv ps) (hno : ¬ OkZ n xs) (h200 : ¬ 200 < xs.length) (h50 : ¬ 50 < ps.length) :
    Calls Try.prog 10 #[.agg #[.int .i64 n, v], pv, .agg #[.int .i64 dn, .int .i64 dd]] w fun e w' => e = .returned (.bool true) ∧ Below w.heap.size w w' := by
  obtain ⟨aoz, capz, rfl, hlez, _⟩ := hv.open
  obtain ⟨aop, capp, rfl, hlep, _⟩ := hp.open
  have hloc := Loc.two w (.cells #[.int .i64 n, .slice aoz xs.length capz] 24) (.cells #[.int .i64 dn, .int .i64 dd] 48) none
  have Hv := Lib.hid hv
  clear hv hp
  have htb : decide ((200 : Int) < (xs.length : Int)) = false := by simp; omega
  have htp : decide ((50 : Int) < (ps.length : Int)) = false := by simp; omega
  have HU := Lib.hid (fun zv w hz => prog_up n zv xs w hz)
  have HD := Lib.hid (fun zv w hz => prog_down n zv xs w hz)
  have eU : upF n xs = (2, []) := chgF_no (fun h => hno h.1)
  have eD : downF n xs = (2, []) := chgF_no (fun h => hno h.1)
  have eC := Lib.hid (okErr_no hno)
  rw [eU] at HU
  rw [eD] at HD
  clear eU eD h200 h50 hno
  go_enter Try.func10, Try.ntmps10
  go_wp2_with fail
  clear htb htp
  refine (HU.out _ _ (Hv.out.keepb (below_grownBy hloc.grown))).mono ?_
  rintro e w1 ⟨hz1, hb1⟩
  obtain ⟨ao1, c1, rfl⟩ := zpost_bad hz1
  have hloc1 := hloc.next (grownBy_below (bal hb1 (.cells #[.int .i64 0, .slice ao1 0 c1] 24)) none) (fun _ h => by cases h)
  have z0 : (w1.alloc (.cells #[.int .i64 0, .slice ao1 0 c1] 24)).cell? ⟨w.heap.size, 0, none⟩ = some (.int .i64 n) := hloc1.cell 0 rfl 0
  have z1 : (w1.alloc (.cells #[.int .i64 0, .slice ao1 0 c1] 24)).cell? ⟨w.heap.size, 1, none⟩ = some (.slice aoz xs.length capz) := hloc1.cell 0 rfl 1
  clear hz1 hb1 hloc
  go_wp2_with fail
  generalize w1.alloc (.cells #[.int .i64 0, .slice ao1 0 c1] 24) = W1 at *
  refine (HD.out _ W1 (Hv.out.keepb (below_grownBy hloc1.grown))).mono ?_
  rintro e w2 ⟨hz2, hb2⟩
  obtain ⟨ao2, c2, rfl⟩ := zpost_bad hz2
  have hloc2 := hloc1.next (grownBy_below (bal hb2 (.cells #[.int .i64 0, .slice ao2 0 c2] 24)) none) (fun _ h => by cases h)
  clear z0 z1
  have z0 : (w2.alloc (.cells #[.int .i64 0, .slice ao2 0 c2] 24)).cell? ⟨w.heap.size, 0, none⟩ = some (.int .i64 n) := hloc2.cell 0 rfl 0
  have z1 : (w2.alloc (.cells #[.int .i64 0, .slice ao2 0 c2] 24)).cell? ⟨w.heap.size, 1, none⟩ = some (.slice aoz xs.length capz) := hloc2.cell 0 rfl 1
  clear hz2 hb2 hloc1
  go_wp2_with fail
  generalize w2.alloc (.cells #[.int .i64 0, .slice ao2 0 c2] 24) = W2 at *
  refine (prog_check n _ xs W2 (Hv.out.keepb (below_grownBy hloc2.grown))).mono ?_
  rw [eC.out]
  rintro e w3 ⟨rfl, hb3⟩
  have hloc3 := hloc2.next (grownBy_below hb3 none) (fun _ h => by cases h)
  clear z0 z1 hloc2
  go_wp2_with fail
  refine (law_shown03 _).mono ?_
  rintro e w4 ⟨rfl, hb4⟩
  go_wp2_with fail
  go_ret
  exact ⟨rfl, below_grownBy (hloc3.next (grownBy_below hb4 none) (fun _ h => by cases h)).grown⟩
set_option maxRecDepth 100000 in
set_option maxHeartbeats 8000000 in
theorem law_times_ok (N : Nat) (v pv : Value) (xs : List Int) (ps : List (Int × Int)) (dn dd : Int) (w : World) (hv : RL w.heap.size w v xs) (hp : RQ w.heap.size w pv ps) (hok : OkZ N xs) (h200 : ¬ 200 < xs.length) (h50 : ¬ 50 < ps.length) (hI : ∀ k, k < ps.length → I64 (gq ps k).1) :
    Calls Try.prog 10 #[.agg #[.int .i64 N, v], pv, .agg #[.int .i64 dn, .int .i64 dd]] w fun e w' => e = .returned (.bool true) ∧ Below w.heap.size w w' := by
  obtain ⟨aoz, capz, rfl, hlez, _⟩ := hv.open
  obtain ⟨aop, capp, rfl, hlep, _⟩ := hp.open
  have hloc := Loc.two w (.cells #[.int .i64 N, .slice aoz xs.length capz] 24) (.cells #[.int .i64 dn, .int .i64 dd] 48) none
  have Hv := Lib.hid (hv.keepb (below_grownBy hloc.grown))
  have Hp := Lib.hid (hp.keepb (below_grownBy hloc.grown))
  have Hz := Lib.hid (show ((w.alloc (.cells #[.int .i64 N, .slice aoz xs.length capz] 24)).alloc (.cells #[.int .i64 dn, .int .i64 dd] 48)).heap[w.heap.size]? = some (.cells #[.int .i64 N, .slice aoz xs.length capz] 24) from hloc.objs 0 (by simp))
  have Hd := Lib.hid (heap_new2 w (.cells #[.int .i64 N, .slice aoz xs.length capz] 24) (.cells #[.int .i64 dn, .int .i64 dd] 48))
  have HB := Lib.hid (below_grownBy hloc.grown)
  have H50 := Lib.hid (show ps.length ≤ 50 by omega)
  clear hv hp hloc
  have htb : decide ((200 : Int) < (xs.length : Int)) = false := by simp; omega
  have htp : decide ((50 : Int) < (ps.length : Int)) = false := by simp; omega
  have HU := Lib.hid (fun zv w hz => prog_up N zv xs w hz)
  have HD := Lib.hid (fun zv w hz => prog_down N zv xs w hz)
  have HUU := Lib.hid (fun zv w hz => prog_up N zv (upTo N xs N) w hz)
  have HDD := Lib.hid (fun zv w hz => prog_down N zv (dwn N xs) w hz)
  have HIU := Lib.hid (fun v v2 w hv hv2 => prog_includes N N v v2 (upTo N xs N) xs w hv hv2)
  have HID := Lib.hid (fun v v2 w hv hv2 => prog_includes N N v v2 (dwn N xs) xs w hv hv2)
  have HSU := Lib.hid (fun v v2 w hv hv2 => prog_same N N v v2 (upTo N xs N) (upTo N xs N) w hv hv2)
  have HSD := Lib.hid (fun v v2 w hv hv2 => prog_same N N v v2 (dwn N xs) (dwn N xs) w hv hv2)
  have HPt := Lib.hid (fun v w hv => prog_point_any N v xs w hv)
  have HSt := Lib.hid (fun v w hv pv hp => prog_stay_any N v pv xs ps w hv hp hI)
  have HHd := Lib.hid (fun v w hv pv hp => prog_has N v pv (dwn N xs) ps w hv hp hI)
  have HHq := Lib.hid (fun (q : List (Int × Int)) (h : pointF N xs = (q, 0)) v w hv pv hp => prog_has N v pv xs q w hv hp (point_i64 h))
  have HPh := Lib.hid (fun (q : List (Int × Int)) (h : pointF N xs = (q, 0)) => point_has h)
  have HPa := Lib.hid (fun hh hg => times_past (ps := ps) hok hh hg)
  have HLt := Lib.hid (fun hr hg hd hd0 hadd => times_later (ps := ps) (d := (dn, dd)) hok hr hg hd hd0 hadd)
  rw [up_val hok] at HU
  rw [down_val hok] at HD
  rw [up_up hok] at HUU
  rw [down_down hok] at HDD
  rw [up_inc hok] at HIU
  rw [down_inc hok] at HID
  have sU : sameB (N : Int) (N : Int) (upTo N xs N) (upTo N xs N) = true := by unfold sameB; simp
  have sD : sameB (N : Int) (N : Int) (dwn N xs) (dwn N xs) = true := by unfold sameB; simp
  rw [sU] at HSU
  rw [sD] at HSD
  generalize upTo N xs N = U at HU HUU HIU HSU
  generalize hDw : dwn N xs = V at HD HDD HID HSD HHd HPa
  clear sU sD h200 h50 hok hDw
  go_enter Try.func10, Try.ntmps10
  go_wp2_with fail
  clear htb htp
  generalize (w.alloc (.cells #[.int .i64 N, .slice aoz xs.length capz] 24)).alloc (.cells #[.int .i64 dn, .int .i64 dd] 48) = W0 at *
  refine (HU.out _ W0 Hv.out).mono ?_
  rintro e w1 ⟨hz1, hb1⟩
  obtain ⟨ao1, c1, rfl, hl1⟩ := zpost_ok hz1
  have hbA := bal hb1 (.cells #[.int .i64 N, .slice ao1 U.length c1] 24)
  have hbN := b1_alloc w1 (.cells #[.int .i64 N, .slice ao1 U.length c1] 24)
  replace Hv := Lib.hid (RL.keepb Hv.out hbA)
  replace Hp := Lib.hid (RQ.keepb Hp.out hbA)
  replace Hz := Lib.hid (hp_keep Hz.out hbA)
  replace Hd := Lib.hid (hp_keep Hd.out hbA)
  replace HB := Lib.hid (bt HB.out hbA)
  have Hub := Lib.hid (heap_alloc_new w1 (.cells #[.int .i64 N, .slice ao1 U.length c1] 24))
  have Hu := Lib.hid (RL.keepb hl1 hbN)
  clear hz1 hb1 hl1 hbA hbN
  have z0 : (w1.alloc (.cells #[.int .i64 N, .slice ao1 U.length c1] 24)).cell? ⟨w.heap.size, 0, none⟩ = some (.int .i64 N) := cell_of_row _ w.heap.size 0 _ _ _ Hz.out
  have z1 : (w1.alloc (.cells #[.int .i64 N, .slice ao1 U.length c1] 24)).cell? ⟨w.heap.size, 1, none⟩ = some (.slice aoz xs.length capz) := cell_of_row _ w.heap.size 1 _ _ _ Hz.out
  go_wp2_with fail
  generalize w1.alloc (.cells #[.int .i64 N, .slice ao1 U.length c1] 24) = W1 at *
  generalize w1.heap.size = b7 at *
  clear z0 z1
  refine (HD.out _ W1 Hv.out).mono ?_
  rintro e w2 ⟨hz2, hb2⟩
  obtain ⟨ao2, c2, rfl, hl2⟩ := zpost_ok hz2
  have hbA := bal hb2 (.cells #[.int .i64 N, .slice ao2 V.length c2] 24)
  have hbN := b1_alloc w2 (.cells #[.int .i64 N, .slice ao2 V.length c2] 24)
  replace Hv := Lib.hid (RL.keepb Hv.out hbA)
  replace Hp := Lib.hid (RQ.keepb Hp.out hbA)
  replace Hz := Lib.hid (hp_keep Hz.out hbA)
  replace Hd := Lib.hid (hp_keep Hd.out hbA)
  replace HB := Lib.hid (bt HB.out hbA)
  replace Hub := Lib.hid (hp_keep Hub.out hbA)
  replace Hu := Lib.hid (RL.keepb Hu.out hbA)
  have Hwb := Lib.hid (heap_alloc_new w2 (.cells #[.int .i64 N, .slice ao2 V.length c2] 24))
  have Hw := Lib.hid (RL.keepb hl2 hbN)
  clear hz2 hb2 hl2 hbA hbN
  have u0 : (w2.alloc (.cells #[.int .i64 N, .slice ao2 V.length c2] 24)).cell? ⟨b7, 0, none⟩ = some (.int .i64 N) := cell_of_row _ b7 0 _ _ _ Hub.out
  have u1 : (w2.alloc (.cells #[.int .i64 N, .slice ao2 V.length c2] 24)).cell? ⟨b7, 1, none⟩ = some (.slice ao1 U.length c1) := cell_of_row _ b7 1 _ _ _ Hub.out
  go_wp2_with fail
  generalize w2.alloc (.cells #[.int .i64 N, .slice ao2 V.length c2] 24) = W2 at *
  generalize w2.heap.size = b9 at *
  clear u0 u1
  refine (HUU.out _ W2 Hu.out).mono ?_
  rintro e w3 ⟨hz3, hb3⟩
  obtain ⟨ao3, c3, rfl, hl3⟩ := zpost_ok hz3
  have hbA := bal hb3 (.cells #[.int .i64 N, .slice ao3 U.length c3] 24)
  have hbN := b1_alloc w3 (.cells #[.int .i64 N, .slice ao3 U.length c3] 24)
  replace Hv := Lib.hid (RL.keepb Hv.out hbA)
  replace Hp := Lib.hid (RQ.keepb Hp.out hbA)
  replace Hz := Lib.hid (hp_keep Hz.out hbA)
  replace Hd := Lib.hid (hp_keep Hd.out hbA)
  replace HB := Lib.hid (bt HB.out hbA)
  replace Hub := Lib.hid (hp_keep Hub.out hbA)
  replace Hu := Lib.hid (RL.keepb Hu.out hbA)
  replace Hwb := Lib.hid (hp_keep Hwb.out hbA)
  replace Hw := Lib.hid (RL.keepb Hw.out hbA)
  have Hub2 := Lib.hid (heap_alloc_new w3 (.cells #[.int .i64 N, .slice ao3 U.length c3] 24))
  have Hu2 := Lib.hid (RL.keepb hl3 hbN)
  clear hz3 hb3 hl3 hbA hbN
  have v0 : (w3.alloc (.cells #[.int .i64 N, .slice ao3 U.length c3] 24)).cell? ⟨b9, 0, none⟩ = some (.int .i64 N) := cell_of_row _ b9 0 _ _ _ Hwb.out
  have v1 : (w3.alloc (.cells #[.int .i64 N, .slice ao3 U.length c3] 24)).cell? ⟨b9, 1, none⟩ = some (.slice ao2 V.length c2) := cell_of_row _ b9 1 _ _ _ Hwb.out
  go_wp2_with fail
  generalize w3.alloc (.cells #[.int .i64 N, .slice ao3 U.length c3] 24) = W3 at *
  generalize w3.heap.size = b11 at *
  clear v0 v1
  refine (HDD.out _ W3 Hw.out).mono ?_
  rintro e w4 ⟨hz4, hb4⟩
  obtain ⟨ao4, c4, rfl, hl4⟩ := zpost_ok hz4
  have hbA := bal hb4 (.cells #[.int .i64 N, .slice ao4 V.length c4] 24)
  have hbN := b1_alloc w4 (.cells #[.int .i64 N, .slice ao4 V.length c4] 24)
  replace Hv := Lib.hid (RL.keepb Hv.out hbA)
  replace Hp := Lib.hid (RQ.keepb Hp.out hbA)
  replace Hz := Lib.hid (hp_keep Hz.out hbA)
  replace Hd := Lib.hid (hp_keep Hd.out hbA)
  replace HB := Lib.hid (bt HB.out hbA)
  replace Hub := Lib.hid (hp_keep Hub.out hbA)
  replace Hu := Lib.hid (RL.keepb Hu.out hbA)
  replace Hwb := Lib.hid (hp_keep Hwb.out hbA)
  replace Hw := Lib.hid (RL.keepb Hw.out hbA)
  replace Hub2 := Lib.hid (hp_keep Hub2.out hbA)
  replace Hu2 := Lib.hid (RL.keepb Hu2.out hbA)
  have Hwb2 := Lib.hid (heap_alloc_new w4 (.cells #[.int .i64 N, .slice ao4 V.length c4] 24))
  have Hw2 := Lib.hid (RL.keepb hl4 hbN)
  clear hz4 hb4 hl4 hbA hbN
  have u0 : (w4.alloc (.cells #[.int .i64 N, .slice ao4 V.length c4] 24)).cell? ⟨b7, 0, none⟩ = some (.int .i64 N) := cell_of_row _ b7 0 _ _ _ Hub.out
  have u1 : (w4.alloc (.cells #[.int .i64 N, .slice ao4 V.length c4] 24)).cell? ⟨b7, 1, none⟩ = some (.slice ao1 U.length c1) := cell_of_row _ b7 1 _ _ _ Hub.out
  have z0 : (w4.alloc (.cells #[.int .i64 N, .slice ao4 V.length c4] 24)).cell? ⟨w.heap.size, 0, none⟩ = some (.int .i64 N) := cell_of_row _ w.heap.size 0 _ _ _ Hz.out
  have z1 : (w4.alloc (.cells #[.int .i64 N, .slice ao4 V.length c4] 24)).cell? ⟨w.heap.size, 1, none⟩ = some (.slice aoz xs.length capz) := cell_of_row _ w.heap.size 1 _ _ _ Hz.out
  go_wp2_with fail
  generalize w4.alloc (.cells #[.int .i64 N, .slice ao4 V.length c4] 24) = W4 at *
  generalize w4.heap.size = b13 at *
  clear u0 u1
  clear z0 z1
  refine (HIU.out _ _ W4 Hu.out Hv.out).mono ?_
  rintro e w5 ⟨he, hb5⟩
  obtain rfl : e = .returned (.tuple #[.bool true, .int .i64 0]) := he
  replace Hv := Lib.hid (RL.keepb Hv.out hb5)
  replace Hp := Lib.hid (RQ.keepb Hp.out hb5)
  replace Hz := Lib.hid (hp_keep Hz.out hb5)
  replace Hd := Lib.hid (hp_keep Hd.out hb5)
  replace HB := Lib.hid (bt HB.out hb5)
  replace Hub := Lib.hid (hp_keep Hub.out hb5)
  replace Hu := Lib.hid (RL.keepb Hu.out hb5)
  replace Hwb := Lib.hid (hp_keep Hwb.out hb5)
  replace Hw := Lib.hid (RL.keepb Hw.out hb5)
  replace Hub2 := Lib.hid (hp_keep Hub2.out hb5)
  replace Hu2 := Lib.hid (RL.keepb Hu2.out hb5)
  replace Hwb2 := Lib.hid (hp_keep Hwb2.out hb5)
  replace Hw2 := Lib.hid (RL.keepb Hw2.out hb5)
  clear hb5
  have v0 : w5.cell? ⟨b9, 0, none⟩ = some (.int .i64 N) := cell_of_row _ b9 0 _ _ _ Hwb.out
  have v1 : w5.cell? ⟨b9, 1, none⟩ = some (.slice ao2 V.length c2) := cell_of_row _ b9 1 _ _ _ Hwb.out
  have z0 : w5.cell? ⟨w.heap.size, 0, none⟩ = some (.int .i64 N) := cell_of_row _ w.heap.size 0 _ _ _ Hz.out
  have z1 : w5.cell? ⟨w.heap.size, 1, none⟩ = some (.slice aoz xs.length capz) := cell_of_row _ w.heap.size 1 _ _ _ Hz.out
  go_wp2_with fail
  clear v0 v1
  clear z0 z1
  refine (HID.out _ _ w5 Hw.out Hv.out).mono ?_
  rintro e w6 ⟨he, hb6⟩
  obtain rfl : e = .returned (.tuple #[.bool true, .int .i64 0]) := he
  replace Hv := Lib.hid (RL.keepb Hv.out hb6)
  replace Hp := Lib.hid (RQ.keepb Hp.out hb6)
  replace Hz := Lib.hid (hp_keep Hz.out hb6)
  replace Hd := Lib.hid (hp_keep Hd.out hb6)
  replace HB := Lib.hid (bt HB.out hb6)
  replace Hub := Lib.hid (hp_keep Hub.out hb6)
  replace Hu := Lib.hid (RL.keepb Hu.out hb6)
  replace Hwb := Lib.hid (hp_keep Hwb.out hb6)
  replace Hw := Lib.hid (RL.keepb Hw.out hb6)
  replace Hub2 := Lib.hid (hp_keep Hub2.out hb6)
  replace Hu2 := Lib.hid (RL.keepb Hu2.out hb6)
  replace Hwb2 := Lib.hid (hp_keep Hwb2.out hb6)
  replace Hw2 := Lib.hid (RL.keepb Hw2.out hb6)
  clear hb6
  have u0 : w6.cell? ⟨b7, 0, none⟩ = some (.int .i64 N) := cell_of_row _ b7 0 _ _ _ Hub.out
  have u1 : w6.cell? ⟨b7, 1, none⟩ = some (.slice ao1 U.length c1) := cell_of_row _ b7 1 _ _ _ Hub.out
  have x0 : w6.cell? ⟨b11, 0, none⟩ = some (.int .i64 N) := cell_of_row _ b11 0 _ _ _ Hub2.out
  have x1 : w6.cell? ⟨b11, 1, none⟩ = some (.slice ao3 U.length c3) := cell_of_row _ b11 1 _ _ _ Hub2.out
  go_wp2_with fail
  clear u0 u1
  clear x0 x1
  refine (HSU.out _ _ w6 Hu.out Hu2.out).mono ?_
  rintro e w7 ⟨he, hb7⟩
  obtain rfl : e = .returned (.bool true) := he
  replace Hv := Lib.hid (RL.keepb Hv.out hb7)
  replace Hp := Lib.hid (RQ.keepb Hp.out hb7)
  replace Hz := Lib.hid (hp_keep Hz.out hb7)
  replace Hd := Lib.hid (hp_keep Hd.out hb7)
  replace HB := Lib.hid (bt HB.out hb7)
  replace Hub := Lib.hid (hp_keep Hub.out hb7)
  replace Hu := Lib.hid (RL.keepb Hu.out hb7)
  replace Hwb := Lib.hid (hp_keep Hwb.out hb7)
  replace Hw := Lib.hid (RL.keepb Hw.out hb7)
  replace Hub2 := Lib.hid (hp_keep Hub2.out hb7)
  replace Hu2 := Lib.hid (RL.keepb Hu2.out hb7)
  replace Hwb2 := Lib.hid (hp_keep Hwb2.out hb7)
  replace Hw2 := Lib.hid (RL.keepb Hw2.out hb7)
  clear hb7
  have v0 : w7.cell? ⟨b9, 0, none⟩ = some (.int .i64 N) := cell_of_row _ b9 0 _ _ _ Hwb.out
  have v1 : w7.cell? ⟨b9, 1, none⟩ = some (.slice ao2 V.length c2) := cell_of_row _ b9 1 _ _ _ Hwb.out
  have y0 : w7.cell? ⟨b13, 0, none⟩ = some (.int .i64 N) := cell_of_row _ b13 0 _ _ _ Hwb2.out
  have y1 : w7.cell? ⟨b13, 1, none⟩ = some (.slice ao4 V.length c4) := cell_of_row _ b13 1 _ _ _ Hwb2.out
  go_wp2_with fail
  clear v0 v1
  clear y0 y1
  refine (HSD.out _ _ w7 Hw.out Hw2.out).mono ?_
  rintro e w8 ⟨he, hb8⟩
  obtain rfl : e = .returned (.bool true) := he
  replace Hv := Lib.hid (RL.keepb Hv.out hb8)
  replace Hp := Lib.hid (RQ.keepb Hp.out hb8)
  replace Hz := Lib.hid (hp_keep Hz.out hb8)
  replace Hd := Lib.hid (hp_keep Hd.out hb8)
  replace HB := Lib.hid (bt HB.out hb8)
  replace Hub := Lib.hid (hp_keep Hub.out hb8)
  replace Hu := Lib.hid (RL.keepb Hu.out hb8)
  replace Hwb := Lib.hid (hp_keep Hwb.out hb8)
  replace Hw := Lib.hid (RL.keepb Hw.out hb8)
  replace Hub2 := Lib.hid (hp_keep Hub2.out hb8)
  replace Hu2 := Lib.hid (RL.keepb Hu2.out hb8)
  replace Hwb2 := Lib.hid (hp_keep Hwb2.out hb8)
  replace Hw2 := Lib.hid (RL.keepb Hw2.out hb8)
  clear hb8
  clear Hu Hu2 Hw2 Hub Hub2 Hwb2 HU HD HUU HDD HIU HID HSU HSD
  have z0 : w8.cell? ⟨w.heap.size, 0, none⟩ = some (.int .i64 N) := cell_of_row _ w.heap.size 0 _ _ _ Hz.out
  have z1 : w8.cell? ⟨w.heap.size, 1, none⟩ = some (.slice aoz xs.length capz) := cell_of_row _ w.heap.size 1 _ _ _ Hz.out
  go_wp2_with fail
  clear z0 z1
  obtain ⟨R, hR⟩ : ∃ R, R = pointF N xs := ⟨_, rfl⟩
  rw [← hR] at HPt HHq HPh
  clear hR
  obtain ⟨qs, qx⟩ := R
  refine (HPt.out _ w8 Hv.out).mono ?_
  rintro e w9 ⟨⟨v9, he, hq9⟩, hb9⟩
  obtain rfl : e = .returned (.tuple #[v9, .int .i64 qx]) := he
  replace Hv := Lib.hid (RL.keepb Hv.out hb9)
  replace Hp := Lib.hid (RQ.keepb Hp.out hb9)
  replace Hz := Lib.hid (hp_keep Hz.out hb9)
  replace Hd := Lib.hid (hp_keep Hd.out hb9)
  replace HB := Lib.hid (bt HB.out hb9)
  replace Hwb := Lib.hid (hp_keep Hwb.out hb9)
  replace Hw := Lib.hid (RL.keepb Hw.out hb9)
  have Hq := Lib.hid hq9
  clear hb9 hq9
  go_upto_if 124 with fail
  go_cut [6] (fun s6 wx => Below w9.heap.size w9 wx)
  case first =>
    by_cases hx : qx = 0
    · subst hx
      have Hh := Lib.hid (HPh.out qs rfl)
      have HHr := Lib.hid (HHq.out qs rfl)
      generalize hasF N xs qs = A at *
      obtain ⟨a, ae⟩ := A
      have z0 : w9.cell? ⟨w.heap.size, 0, none⟩ = some (.int .i64 N) := cell_of_row _ w.heap.size 0 _ _ _ Hz.out
      have z1 : w9.cell? ⟨w.heap.size, 1, none⟩ = some (.slice aoz xs.length capz) := cell_of_row _ w.heap.size 1 _ _ _ Hz.out
      go_wp2_with fail
      refine (HHr.out _ w9 Hv.out _ Hq.out).mono ?_
      rintro e w10 ⟨he, hb10⟩
      obtain rfl : e = .returned (.tuple #[.bool a, .int .i64 ae]) := he
      clear z0 z1
      rcases Hh.out with h | h
      · obtain rfl : ae = 7 := h
        go_wp2_with fail
        go_meet
        exact hb10
      · obtain ⟨rfl, rfl⟩ : a = true ∧ ae = 0 := ⟨(Prod.mk.inj h).1, (Prod.mk.inj h).2⟩
        clear h
        go_wp2_with fail
        go_meet
        exact hb10
    · have hxb : (qx == 0) = false := by simpa using hx
      clear hx
      go_wp2_with fail
      go_meet
      exact Below.refl _ _
  case rest =>
    rename_i hbC
    clear Hq HHq HPh HPt
    have hbC := hcut
    clear hcut
    replace Hv := Lib.hid (RL.keepb Hv.out hbC)
    replace Hp := Lib.hid (RQ.keepb Hp.out hbC)
    replace Hz := Lib.hid (hp_keep Hz.out hbC)
    replace Hd := Lib.hid (hp_keep Hd.out hbC)
    replace HB := Lib.hid (bt HB.out hbC)
    replace Hwb := Lib.hid (hp_keep Hwb.out hbC)
    replace Hw := Lib.hid (RL.keepb Hw.out hbC)
    clear hbC
    have z0 : wc.cell? ⟨w.heap.size, 0, none⟩ = some (.int .i64 N) := cell_of_row _ w.heap.size 0 _ _ _ Hz.out
    have z1 : wc.cell? ⟨w.heap.size, 1, none⟩ = some (.slice aoz xs.length capz) := cell_of_row _ w.heap.size 1 _ _ _ Hz.out
    generalize stayF N xs ps = S at HSt HPa HLt
    obtain ⟨⟨ln, ld, hn, hd, lo, ho, nh, wd⟩, g⟩ := S
    go_wp2_with fail
    clear z0 z1
    refine (HSt.out _ wc Hv.out _ Hp.out).mono ?_
    rintro e w11 ⟨he, hb11⟩
    obtain rfl : e = .returned (.tuple #[.agg #[.int .i64 ln, .int .i64 ld, .int .i64 hn, .int .i64 hd, .bool lo, .bool ho, .bool nh], .int .i64 g]) := he
    have hbA := bal hb11 (.cells #[.int .i64 ln, .int .i64 ld, .int .i64 hn, .int .i64 hd, .bool lo, .bool ho, .bool nh] 50)
    replace Hv := Lib.hid (RL.keepb Hv.out hbA)
    replace Hp := Lib.hid (RQ.keepb Hp.out hbA)
    replace Hz := Lib.hid (hp_keep Hz.out hbA)
    replace Hd := Lib.hid (hp_keep Hd.out hbA)
    replace HB := Lib.hid (bt HB.out hbA)
    replace Hwb := Lib.hid (hp_keep Hwb.out hbA)
    replace Hw := Lib.hid (RL.keepb Hw.out hbA)
    have Hs := Lib.hid (heap_alloc_new w11 (.cells #[.int .i64 ln, .int .i64 ld, .int .i64 hn, .int .i64 hd, .bool lo, .bool ho, .bool nh] 50))
    clear hb11 hbA
    have v0 : (w11.alloc (.cells #[.int .i64 ln, .int .i64 ld, .int .i64 hn, .int .i64 hd, .bool lo, .bool ho, .bool nh] 50)).cell? ⟨b9, 0, none⟩ = some (.int .i64 N) := cell_of_row _ b9 0 _ _ _ Hwb.out
    have v1 : (w11.alloc (.cells #[.int .i64 ln, .int .i64 ld, .int .i64 hn, .int .i64 hd, .bool lo, .bool ho, .bool nh] 50)).cell? ⟨b9, 1, none⟩ = some (.slice ao2 V.length c2) := cell_of_row _ b9 1 _ _ _ Hwb.out
    go_wp2_with fail
    generalize w11.alloc (.cells #[.int .i64 ln, .int .i64 ld, .int .i64 hn, .int .i64 hd, .bool lo, .bool ho, .bool nh] 50) = W11 at *
    generalize w11.heap.size = b22 at *
    clear v0 v1
    generalize hasF N V ps = P at HHd HPa
    obtain ⟨b, be⟩ := P
    refine (HHd.out _ W11 Hw.out _ Hp.out).mono ?_
    rintro e w12 ⟨he, hb12⟩
    obtain rfl : e = .returned (.tuple #[.bool b, .int .i64 be]) := he
    replace Hv := Lib.hid (RL.keepb Hv.out hb12)
    replace Hp := Lib.hid (RQ.keepb Hp.out hb12)
    replace Hz := Lib.hid (hp_keep Hz.out hb12)
    replace Hd := Lib.hid (hp_keep Hd.out hb12)
    replace HB := Lib.hid (bt HB.out hb12)
    replace Hwb := Lib.hid (hp_keep Hwb.out hb12)
    replace Hw := Lib.hid (RL.keepb Hw.out hb12)
    replace Hs := Lib.hid (hp_keep Hs.out hb12)
    clear hb12
    by_cases hbe : be = 0
    rotate_left
    · have hbb : (be != 0) = true := by simpa using hbe
      clear hbe
      go_wp2_with fail
      refine (law_shown03 _).mono ?_
      rintro e w13 ⟨rfl, hb13⟩
      go_wp2_with fail
      go_ret
      exact ⟨rfl, bt HB.out hb13⟩
    subst hbe
    by_cases hg : g = 0 ∨ g = 4
    rotate_left
    · have hg0 : (g != 0) = true := by simp; omega
      have hg4 : (g != 4) = true := by simp; omega
      clear hg
      go_wp2_with fail
      refine (law_shown03 _).mono ?_
      rintro e w13 ⟨rfl, hb13⟩
      go_wp2_with fail
      go_ret
      exact ⟨rfl, bt HB.out hb13⟩
    obtain ⟨hr, hpa⟩ := HPa.out rfl hg
    have HL := Lib.hid (show LtA N xs ps dn dd ⟨ln, ld, hn, hd, lo, ho, nh, wd⟩ g from ⟨hg, fun h1 h2 h3 => HLt.out hr hg h1 h2 h3⟩)
    clear hr HLt HPa
    have z0 : w12.cell? ⟨w.heap.size, 0, none⟩ = some (.int .i64 N) := cell_of_row _ w.heap.size 0 _ _ _ Hz.out
    have z1 : w12.cell? ⟨w.heap.size, 1, none⟩ = some (.slice aoz xs.length capz) := cell_of_row _ w.heap.size 1 _ _ _ Hz.out
    have d0 : w12.cell? ⟨(w.heap.size + 1), 0, none⟩ = some (.int .i64 dn) := cell_of_row _ (w.heap.size + 1) 0 _ _ _ Hd.out
    have d1 : w12.cell? ⟨(w.heap.size + 1), 1, none⟩ = some (.int .i64 dd) := cell_of_row _ (w.heap.size + 1) 1 _ _ _ Hd.out
    have s0 : w12.cell? ⟨b22, 0, none⟩ = some (.int .i64 ln) := cell_of_row _ b22 0 _ _ _ Hs.out
    have s1 : w12.cell? ⟨b22, 1, none⟩ = some (.int .i64 ld) := cell_of_row _ b22 1 _ _ _ Hs.out
    have s2 : w12.cell? ⟨b22, 2, none⟩ = some (.int .i64 hn) := cell_of_row _ b22 2 _ _ _ Hs.out
    have s3 : w12.cell? ⟨b22, 3, none⟩ = some (.int .i64 hd) := cell_of_row _ b22 3 _ _ _ Hs.out
    have s4 : w12.cell? ⟨b22, 4, none⟩ = some (.bool lo) := cell_of_row _ b22 4 _ _ _ Hs.out
    have s5 : w12.cell? ⟨b22, 5, none⟩ = some (.bool ho) := cell_of_row _ b22 5 _ _ _ Hs.out
    have s6 : w12.cell? ⟨b22, 6, none⟩ = some (.bool nh) := cell_of_row _ b22 6 _ _ _ Hs.out
    rcases hg with rfl | rfl
    · obtain rfl : b = true := hpa.2 rfl
      clear hpa
      go_wp2_with fail
      refine (law_later N _ _ xs ps dn dd ⟨ln, ld, hn, hd, lo, ho, nh, wd⟩ 0 w12 Hv.out Hp.out HL.out H50.out).mono ?_
      rintro e w13 ⟨rfl, hb13⟩
      replace HB := Lib.hid (bt HB.out hb13)
      clear hb13 z0 z1 d0 d1 s0 s1 s2 s3 s4 s5 s6
      go_wp2_with fail
      refine (law_shown03 _).mono ?_
      rintro e w14 ⟨rfl, hb14⟩
      go_wp2_with fail
      go_ret
      exact ⟨rfl, bt HB.out hb14⟩
    · obtain rfl : b = false := by rcases Bool.eq_false_or_eq_true b with h | h; exact absurd (hpa.1 h) (by decide); exact h
      clear hpa
      go_wp2_with fail
      refine (law_later N _ _ xs ps dn dd ⟨ln, ld, hn, hd, lo, ho, nh, wd⟩ 4 w12 Hv.out Hp.out HL.out H50.out).mono ?_
      rintro e w13 ⟨rfl, hb13⟩
      replace HB := Lib.hid (bt HB.out hb13)
      clear hb13 z0 z1 d0 d1 s0 s1 s2 s3 s4 s5 s6
      go_wp2_with fail
      refine (law_shown03 _).mono ?_
      rintro e w14 ⟨rfl, hb14⟩
      go_wp2_with fail
      go_ret
      exact ⟨rfl, bt HB.out hb14⟩
set_option maxRecDepth 100000 in
set_option maxHeartbeats 2000000 in
theorem law_zone_times (n : Int) (v pv : Value) (xs : List Int) (ps : List (Int × Int)) (dn dd : Int) (w : World) (hv : RL w.heap.size w v xs) (hp : RQ w.heap.size w pv ps) (hI : ∀ k, k < ps.length → I64 (gq ps k).1) :
    Calls Try.prog 10 #[.agg #[.int .i64 n, v], pv, .agg #[.int .i64 dn, .int .i64 dd]] w fun e w' => e = .returned (.bool true) ∧ Below w.heap.size w w' := by
  by_cases hhtb : 200 < xs.length
  · obtain ⟨ao, cap, rfl, hle, _⟩ := hv.open
    obtain ⟨aop, capp, rfl, hlep, _⟩ := hp.open
    have hloc := Loc.two w (.cells #[.int .i64 n, .slice ao xs.length cap] 24) (.cells #[.int .i64 dn, .int .i64 dd] 48) none
    have htb : decide ((200 : Int) < (xs.length : Int)) = true := by simp; omega
    clear hI hv hp
    go_enter Try.func10, Try.ntmps10
    go_wp2_with fail
    refine (law_shown03 _).mono ?_
    rintro e w1 ⟨rfl, hb1⟩
    go_wp2_with fail
    go_ret
    exact ⟨rfl, below_grownBy (hloc.next (grownBy_below hb1 none) (fun _ h => by cases h)).grown⟩
  by_cases hhtp : 50 < ps.length
  · obtain ⟨ao, cap, rfl, hle, _⟩ := hv.open
    obtain ⟨aop, capp, rfl, hlep, _⟩ := hp.open
    have hloc := Loc.two w (.cells #[.int .i64 n, .slice ao xs.length cap] 24) (.cells #[.int .i64 dn, .int .i64 dd] 48) none
    have htb : decide ((200 : Int) < (xs.length : Int)) = false := by simp; omega
    have htp : decide ((50 : Int) < (ps.length : Int)) = true := by simp; omega
    clear hI hv hp
    go_enter Try.func10, Try.ntmps10
    go_wp2_with fail
    refine (law_shown03 _).mono ?_
    rintro e w1 ⟨rfl, hb1⟩
    go_wp2_with fail
    go_ret
    exact ⟨rfl, below_grownBy (hloc.next (grownBy_below hb1 none) (fun _ h => by cases h)).grown⟩
  by_cases hok : OkZ n xs
  · obtain ⟨N, rfl⟩ := Int.eq_ofNat_of_zero_le hok.lo
    exact law_times_ok N v pv xs ps dn dd w hv hp hok hhtb hhtp hI
  · exact law_times_bad n v pv xs ps dn dd w hv hp hok hhtb hhtp
end Go.Proofs.Ytkgaipcgdldfdaa
