/- The law WidenBounds answers true for every input, and writes nothing that was there. -/
import Derived.Test.YtmjpcakikflcfaaWid8
import Derived.Test.YtmjpcakikflcfaaFrame
import Derived.Test.YtmjpcakikflcfaaBox
import Derived.Deep.DeepCutAuto
namespace Go.Proofs.Ytmjpcakikflcfaa
open Go.RowKit

theorem beyond_no {lens : List Nat} {L : Nat} (h : beyondF lens L = false) : L ≤ 200 ∧ ∀ l ∈ lens, l ≤ 50 := by
  unfold beyondF at h
  rw [Bool.or_eq_false_iff, List.any_eq_false] at h
  exact ⟨by have := h.2; simp at this; omega, fun l hl => by have := h.1 l hl; simp at this; omega⟩

set_option maxRecDepth 100000 in
set_option maxHeartbeats 4000000 in
theorem law_widen_bounds (n : Int) (v lv hgv : Value) (xs low high : List Int) (w : World) (hv : RL w.heap.size w v xs) (hl : RL w.heap.size w lv low) (hh : RL w.heap.size w hgv high) :
    Calls Try.prog 3 #[.agg #[.int .i64 n, v], lv, hgv] w fun e w' => e = .returned (.bool true) ∧ Below w.heap.size w w' := by
  obtain ⟨ao, cap, rfl, hle, _⟩ := hv.open
  obtain ⟨aol, capl, rfl, hlel, _⟩ := hl.open
  obtain ⟨aoh, caph, rfl, hleh, _⟩ := hh.open
  have hloc0 := Loc.two w (.cells #[.int .i64 n, .slice ao xs.length cap] 24) (.cells #[.slice aol low.length capl, .slice aoh high.length caph] 25) none
  have hg0 := below_grownBy hloc0.grown
  have Hv := Lib.hid (hv.keepb hg0)
  have Hl := Lib.hid (hl.keepb hg0)
  have Hh := Lib.hid (hh.keepb hg0)
  clear hv hl hh hg0
  obtain ⟨i0, hi, hz0, hz1, hz2⟩ := info_parts Try.infoLimit
  have Hi := Lib.hid hi
  have Hz0 := Lib.hid hz0
  have Hz1 := Lib.hid hz1
  have Hz2 := Lib.hid hz2
  clear hi hz0 hz1 hz2
  obtain ⟨j0, hj, hj0, hj1, hj2⟩ := info_parts Try.infoInt64
  have Hj := Lib.hid hj
  have Hj0 := Lib.hid hj0
  have Hj1 := Lib.hid hj1
  have Hj2 := Lib.hid hj2
  clear hj hj0 hj1 hj2
  cases hb : beyondF [low.length, high.length] xs.length
  · obtain ⟨hx200, h50⟩ := beyond_no hb
    have hl50 : low.length ≤ 50 := h50 _ (by simp)
    have hh50 : high.length ≤ 50 := h50 _ (by simp)
    clear h50
    go_enter Try.func3, Try.ntmps3
    go_wp2_with fail
    refine (law_beyond n _ xs (w.heap.size + 1) 2 [low.length, high.length] _ Hv.out (by simp) (by simp) (fun k hk => by
      match k, hk with
      | 0, _ => exact ⟨aol, capl, hloc0.cell 1 rfl 0, hlel⟩
      | 1, _ => exact ⟨aoh, caph, hloc0.cell 1 rfl 1, hleh⟩)).mono ?_
    rw [hb]
    rintro e w1 ⟨rfl, hb1⟩
    have hloc1 := hloc0.next (grownBy_below hb1 none) (fun _ h => by cases h)
    have Hv1 := Lib.hid (Hv.out.keepb hb1)
    have Hl1 := Lib.hid (Hl.out.keepb hb1)
    have Hh1 := Lib.hid (Hh.out.keepb hb1)
    have HzB := Lib.hid (show BoxZ w.heap.size n xs w1 from ⟨_, _, hloc1.cell 0 rfl 0, hloc1.cell 0 rfl 1, Hv1.out⟩)
    have Hb1 := Lib.hid (below_grownBy hloc1.grown)
    have HzLt : w.heap.size < w1.heap.size := HzB.out.lt
    have z0 : w1.cell? ⟨w.heap.size, 0, none⟩ = some (.int .i64 n) := hloc1.cell 0 rfl 0
    have z1 : w1.cell? ⟨w.heap.size, 1, none⟩ = some (.slice ao xs.length cap) := hloc1.cell 0 rfl 1
    clear hb1 hloc0 hloc1 hb
    go_upto_region 3 with fail
    go_cut [7] (fun s7 wx => ∃ g : Nat, s7 = .pointer (some ⟨g, 0, none⟩) ∧ BoxZ g n xs wx ∧ Below w1.heap.size w1 wx)
    case first =>
      have Hm := Lib.hid (show xs.length ≤ maxLen by unfold maxLen; omega)
      have Hby := Lib.hid (show xs.length * 8 ≤ 140737488355328 by omega)
      have Hlm := Lib.hid (show (xs.map (Value.int .i64)).length = xs.length * 1 by simp)
      go_region_held3 (fun w' => w'.cell? ⟨w.heap.size, 0, none⟩ = some (.int .i64 n) ∧ w'.cell? ⟨w.heap.size, 1, none⟩ = some (.slice ao xs.length cap))
        (first | exact ⟨by assumption, by assumption⟩ | go_keep | (constructor <;> (repeat' (first | assumption | (refine (World.cell?_setCell_far _ _ _ _ (by dsimp only; simp; omega)).trans ?_)))))
        ((go_loud (refine step_append_fresh (B := w1.heap.size) (m := xs.length) (news := xs.map (Value.int .i64)) (xv := .slice ao xs.length cap) ?_ (.tmp 24) (.tmp 26) 22 ?_ 49 i0 (.int .i64 0) 1 8 Try.undLimits Hi.out Hz0.out Hz1.out Hz2.out ?_ ?_ ?_ ?_ ?_ ?_ ?_ ?_ ?_ ?_); (go_loud (all_goals (first | rfl | decide | exact Hlm.out | exact Hm.out | exact Hby.out | (refine RS.keep Hv1.out ?_; (repeat' (first | exact Below.refl _ _ | refine Below.drew ?_ | refine Below.alloc ?_ ?_ _ | (simp; done) | (simp; omega))); done) | skip))); (go_loud (intro v' wA hrA hbA hfA; (obtain ⟨⟨aoA, cA, rfl⟩, hfA⟩ := hfA); (obtain ⟨kc, kf⟩ := bcell hbA); (have szA := hbA.size); (have kz0 := keepb (b := w.heap.size) (o := 0) (v := .int .i64 n) (by first | assumption | (go_simp; done) | go_keep) hbA); (have kz1 := keepb (b := w.heap.size) (o := 1) (v := .slice ao xs.length cap) (by first | assumption | (go_simp; done) | go_keep) hbA)))))
      all_goals (go_wp2_with fail; go_meet; refine ⟨_, rfl, ?_, ?_⟩; (first | exact BoxZ.atAlloc hrA _ | exact BoxZ.stored (u0 := .int .i64 0) (u1 := .slice none 0 0) hbA (by go_simp) (by go_simp) hrA hfA); (repeat' (first | exact Below.refl _ _ | refine Below.setCell ?_ ?_ _ | refine Below.alloc ?_ ?_ _ | refine Below.drew ?_ | refine bt ?_ hbA | (simp; done) | (simp at szA ⊢; omega))))
    case rest =>
      obtain ⟨g, rfl, hz7, hbc⟩ := hcut
      have HgLt : g < wc.heap.size := hz7.lt
      obtain ⟨aog, cg, z0, z1, hvg⟩ := hz7.ex
      have Hz7 := Lib.hid hz7
      have Hvg := Lib.hid hvg
      have Hbc := Lib.hid hbc
      have Hlc := Lib.hid (Hl1.out.keepb hbc)
      have Hhc := Lib.hid (Hh1.out.keepb hbc)
      clear hz7 hvg hbc
      have HLm := Lib.hid (show (low.map (Value.int .i64)).length = low.length * 1 by simp)
      have HLx := Lib.hid (show low.length ≤ maxLen by unfold maxLen; omega)
      have HLy := Lib.hid (show low.length * 8 ≤ 140737488355328 by omega)
      have HGm := Lib.hid (show (high.map (Value.int .i64)).length = high.length * 1 by simp)
      have HGx := Lib.hid (show high.length ≤ maxLen by unfold maxLen; omega)
      have HGy := Lib.hid (show high.length * 8 ≤ 140737488355328 by omega)
      go_wp2_with fail
      go_cut [8, 9] (fun s8 s9 wx => s9 = .int .i64 (widB n xs low high).1 ∧ ∃ ga : Nat, s8 = .pointer (some ⟨ga, 0, none⟩) ∧ BoxZ ga (zdim (widB n xs low high) n) (widB n xs low high).2 wx ∧ BoxZ g n xs wx ∧ Below wc.heap.size wc wx)
      case first =>
        go_region_held3 (fun w' => w'.cell? ⟨g, 0, none⟩ = some (.int .i64 n) ∧ w'.cell? ⟨g, 1, none⟩ = some (.slice aog xs.length cg))
          ((exact ⟨keepb z0 (by (repeat' (first | exact Below.refl _ _ | assumption | refine Below.drew ?_ | refine bal ?_ _ | refine bt ?_ hbA | refine bt ?_ hbB | refine bt ?_ hbR | refine Below.setCell ?_ ?_ _)); all_goals (first | exact Nat.le_refl _ | exact Nat.le_succ _ | exact bwA.size | exact Nat.le_succ_of_le bwA.size | exact bwB.size | exact Nat.le_succ_of_le (Nat.le_succ _) | omega | (simp; done) | (simp; omega) | (simp at *; omega))), keepb z1 (by (repeat' (first | exact Below.refl _ _ | assumption | refine Below.drew ?_ | refine bal ?_ _ | refine bt ?_ hbA | refine bt ?_ hbB | refine bt ?_ hbR | refine Below.setCell ?_ ?_ _)); all_goals (first | exact Nat.le_refl _ | exact Nat.le_succ _ | exact bwA.size | exact Nat.le_succ_of_le bwA.size | exact bwB.size | exact Nat.le_succ_of_le (Nat.le_succ _) | omega | (simp; done) | (simp; omega) | (simp at *; omega)))⟩))
          (first
            | ((refine step_append_fresh (B := wc.heap.size) (m := low.length) (news := low.map (Value.int .i64)) (xv := .slice aol low.length capl) ?_ (.tmp 31) (.tmp 32) 25 ?_ 2 j0 (.int .i64 0) 1 8 Try.undInts Hj.out Hj0.out Hj1.out Hj2.out rfl Nat.one_pos ?_ ?_ ?_ ?_ HLm.out HLx.out HLy.out ?_); rfl; rfl; rotate_left; rfl; rfl; (refine RS.keep Hlc.out ?_; (repeat' (first | exact Below.refl _ _ | assumption | refine Below.drew ?_ | refine bal ?_ _ | refine bt ?_ hbA | refine bt ?_ hbB | refine bt ?_ hbR | refine Below.setCell ?_ ?_ _))); (intro vA wA hrA hbA hfA; (obtain ⟨⟨aoA, cA, rfl⟩, hfA⟩ := hfA); (obtain ⟨kcA, kfA⟩ := bcell hbA); (first | ((refine zbox_k (K := wc.heap.size) ?_ ?_ ?_ ?_ hbA ?_); (focus (first | assumption | (go_simp; done))); (focus (first | assumption | (go_simp; done))); (focus (first | assumption | (go_simp; done))); (focus (first | assumption | (go_simp; done))); rintro ⟨q0A, q1A, q2A, q3A⟩) | ((refine zbox_k (K := (wc.heap.size + 1)) ?_ ?_ ?_ ?_ hbA ?_); (focus (first | assumption | (go_simp; done))); (focus (first | assumption | (go_simp; done))); (focus (first | assumption | (go_simp; done))); (focus (first | assumption | (go_simp; done))); rintro ⟨q0A, q1A, q2A, q3A⟩) | ((refine zbox_k (K := (wc.heap.size + 1 + 1)) ?_ ?_ ?_ ?_ hbA ?_); (focus (first | assumption | (go_simp; done))); (focus (first | assumption | (go_simp; done))); (focus (first | assumption | (go_simp; done))); (focus (first | assumption | (go_simp; done))); rintro ⟨q0A, q1A, q2A, q3A⟩) | skip); (have szA := hbA.size); (have bwA : Below wc.heap.size wc wA := (by (repeat' (first | exact Below.refl _ _ | assumption | refine Below.drew ?_ | refine bal ?_ _ | refine bt ?_ hbA | refine bt ?_ hbB | refine bt ?_ hbR | refine Below.setCell ?_ ?_ _))))))
            | ((refine step_append_fresh (B := wc.heap.size) (m := high.length) (news := high.map (Value.int .i64)) (xv := .slice aoh high.length caph) ?_ (.tmp 34) (.tmp 35) 25 ?_ 2 j0 (.int .i64 0) 1 8 Try.undInts Hj.out Hj0.out Hj1.out Hj2.out rfl Nat.one_pos ?_ ?_ ?_ ?_ HGm.out HGx.out HGy.out ?_); rfl; rfl; rotate_left; rfl; rfl; (refine RS.keep Hhc.out ?_; (repeat' (first | exact Below.refl _ _ | assumption | refine Below.drew ?_ | refine bal ?_ _ | refine bt ?_ hbA | refine bt ?_ hbB | refine bt ?_ hbR | refine Below.setCell ?_ ?_ _))); (intro vB wB hrB hbB hfB; (obtain ⟨⟨aoB, cB, rfl⟩, hfB⟩ := hfB); (obtain ⟨kcB, kfB⟩ := bcell hbB); (first | ((refine zbox_k q0A q1A q2A q3A (bt (a := wA) ?_ hbB) ?_); (focus (repeat' (first | exact Below.refl _ _ | assumption | refine Below.drew ?_ | refine bal ?_ _ | refine bt ?_ hbA | refine bt ?_ hbB | refine bt ?_ hbR | refine Below.setCell ?_ ?_ _))); rintro ⟨q0B, q1B, q2B, q3B⟩) | ((refine zbox_k (K := wc.heap.size) ?_ ?_ ?_ ?_ hbB ?_); (focus (first | assumption | (go_simp; done))); (focus (first | assumption | (go_simp; done))); (focus (first | assumption | (go_simp; done))); (focus (first | assumption | (go_simp; done))); rintro ⟨q0B, q1B, q2B, q3B⟩) | ((refine zbox_k (K := (wc.heap.size + 1)) ?_ ?_ ?_ ?_ hbB ?_); (focus (first | assumption | (go_simp; done))); (focus (first | assumption | (go_simp; done))); (focus (first | assumption | (go_simp; done))); (focus (first | assumption | (go_simp; done))); rintro ⟨q0B, q1B, q2B, q3B⟩) | ((refine zbox_k (K := (wc.heap.size + 1 + 1)) ?_ ?_ ?_ ?_ hbB ?_); (focus (first | assumption | (go_simp; done))); (focus (first | assumption | (go_simp; done))); (focus (first | assumption | (go_simp; done))); (focus (first | assumption | (go_simp; done))); rintro ⟨q0B, q1B, q2B, q3B⟩) | ((refine zbox_k (K := wA.heap.size) ?_ ?_ ?_ ?_ hbB ?_); (focus (first | assumption | (go_simp; done))); (focus (first | assumption | (go_simp; done))); (focus (first | assumption | (go_simp; done))); (focus (first | assumption | (go_simp; done))); rintro ⟨q0B, q1B, q2B, q3B⟩) | ((refine zbox_k (K := (wA.heap.size + 1)) ?_ ?_ ?_ ?_ hbB ?_); (focus (first | assumption | (go_simp; done))); (focus (first | assumption | (go_simp; done))); (focus (first | assumption | (go_simp; done))); (focus (first | assumption | (go_simp; done))); rintro ⟨q0B, q1B, q2B, q3B⟩) | skip); (have szB := hbB.size); (have bwB : Below wc.heap.size wc wB := (by (repeat' (first | exact Below.refl _ _ | assumption | refine Below.drew ?_ | refine bal ?_ _ | refine bt ?_ hbA | refine bt ?_ hbB | refine bt ?_ hbR | refine Below.setCell ?_ ?_ _))))))
            | (go_at_call 9; (refine (prog_bounds n _ _ _ xs low high _ (Hvg.out.keepb (by (repeat' (first | exact Below.refl _ _ | assumption | refine Below.drew ?_ | refine bal ?_ _ | refine bt ?_ hbA | refine bt ?_ hbB | refine bt ?_ hbR | refine Below.setCell ?_ ?_ _)))) (RL.keepb hrA (by (repeat' (first | exact Below.refl _ _ | assumption | refine Below.drew ?_ | refine bal ?_ _ | refine bt ?_ hbA | refine bt ?_ hbB | refine bt ?_ hbR | refine Below.setCell ?_ ?_ _)))) (RL.keepb hrB (by (repeat' (first | exact Below.refl _ _ | assumption | refine Below.drew ?_ | refine bal ?_ _ | refine bt ?_ hbA | refine bt ?_ hbB | refine bt ?_ hbR | refine Below.setCell ?_ ?_ _))))).mono ?_); rintro e wR ⟨⟨vR, rfl, hoR⟩, hbR⟩; (obtain ⟨aoR, cR, rfl⟩ := owns_form hoR); (obtain ⟨kcR, kfR⟩ := bcell hbR); (first | ((refine zbox_k q0B q1B q2B q3B (bt (a := wB) ?_ hbR) ?_); (focus (repeat' (first | exact Below.refl _ _ | assumption | refine Below.drew ?_ | refine bal ?_ _ | refine bt ?_ hbA | refine bt ?_ hbB | refine bt ?_ hbR | refine Below.setCell ?_ ?_ _))); rintro ⟨q0R, q1R, q2R, q3R⟩) | ((refine zbox_k q0A q1A q2A q3A (bt (a := wA) ?_ hbR) ?_); (focus (repeat' (first | exact Below.refl _ _ | assumption | refine Below.drew ?_ | refine bal ?_ _ | refine bt ?_ hbA | refine bt ?_ hbB | refine bt ?_ hbR | refine Below.setCell ?_ ?_ _))); rintro ⟨q0R, q1R, q2R, q3R⟩) | ((refine zbox_k (K := wc.heap.size) ?_ ?_ ?_ ?_ hbR ?_); (focus (first | assumption | (go_simp; done))); (focus (first | assumption | (go_simp; done))); (focus (first | assumption | (go_simp; done))); (focus (first | assumption | (go_simp; done))); rintro ⟨q0R, q1R, q2R, q3R⟩) | ((refine zbox_k (K := (wc.heap.size + 1)) ?_ ?_ ?_ ?_ hbR ?_); (focus (first | assumption | (go_simp; done))); (focus (first | assumption | (go_simp; done))); (focus (first | assumption | (go_simp; done))); (focus (first | assumption | (go_simp; done))); rintro ⟨q0R, q1R, q2R, q3R⟩) | ((refine zbox_k (K := (wc.heap.size + 1 + 1)) ?_ ?_ ?_ ?_ hbR ?_); (focus (first | assumption | (go_simp; done))); (focus (first | assumption | (go_simp; done))); (focus (first | assumption | (go_simp; done))); (focus (first | assumption | (go_simp; done))); rintro ⟨q0R, q1R, q2R, q3R⟩) | ((refine zbox_k (K := wA.heap.size) ?_ ?_ ?_ ?_ hbR ?_); (focus (first | assumption | (go_simp; done))); (focus (first | assumption | (go_simp; done))); (focus (first | assumption | (go_simp; done))); (focus (first | assumption | (go_simp; done))); rintro ⟨q0R, q1R, q2R, q3R⟩) | ((refine zbox_k (K := (wA.heap.size + 1)) ?_ ?_ ?_ ?_ hbR ?_); (focus (first | assumption | (go_simp; done))); (focus (first | assumption | (go_simp; done))); (focus (first | assumption | (go_simp; done))); (focus (first | assumption | (go_simp; done))); rintro ⟨q0R, q1R, q2R, q3R⟩) | ((refine zbox_k (K := wB.heap.size) ?_ ?_ ?_ ?_ hbR ?_); (focus (first | assumption | (go_simp; done))); (focus (first | assumption | (go_simp; done))); (focus (first | assumption | (go_simp; done))); (focus (first | assumption | (go_simp; done))); rintro ⟨q0R, q1R, q2R, q3R⟩) | skip); (have szR := hbR.size); (have bwR : Below wc.heap.size wc wR := (by (repeat' (first | exact Below.refl _ _ | assumption | refine Below.drew ?_ | refine bal ?_ _ | refine bt ?_ hbA | refine bt ?_ hbB | refine bt ?_ hbR | refine Below.setCell ?_ ?_ _))))))
        all_goals (go_wp2_with fail; go_meet; (refine ⟨rfl, _, rfl, ?_, Hz7.out.keep ?_, ?_⟩); (focus (first | exact BoxZ.atAlloc (OL.rl hoR) _ | exact BoxZ.storedO (u0 := .int .i64 0) (u1 := .slice none 0 0) hbR (by first | assumption | (go_simp; done)) (by first | assumption | (go_simp; done)) hoR)); ((repeat' (first | exact Below.refl _ _ | assumption | refine Below.drew ?_ | refine bal ?_ _ | refine bt ?_ hbA | refine bt ?_ hbB | refine bt ?_ hbR | refine Below.setCell ?_ ?_ _))); (all_goals (first | exact Nat.le_refl _ | exact Nat.le_succ _ | exact bwA.size | exact Nat.le_succ_of_le bwA.size | exact bwB.size | exact Nat.le_succ_of_le (Nat.le_succ _) | omega | (simp; done) | (simp; omega) | (simp at *; omega))))
      case rest =>
        obtain ⟨rfl, ga, rfl, hza, hzg, hbd⟩ := hcut
        have hzz := (HzB.out.keep Hbc.out).keep hbd
        obtain ⟨aoz, cz, y0, y1, hvz⟩ := hzz.ex
        have Hzz := Lib.hid hzz
        have Hvz := Lib.hid hvz
        have Hld := Lib.hid (Hlc.out.keepb hbd)
        have Hhd := Lib.hid (Hhc.out.keepb hbd)
        have Hbd := Lib.hid hbd
        have Hza := Lib.hid hza
        have Hzg := Lib.hid hzg
        clear hzz hvz hbd hza hzg z0 z1
        go_wp2_with (go_at_call 10; (refine (ref_bounds n _ _ _ xs low high _ Hvz.out Hld.out Hhd.out).mono ?_); rintro e w5 ⟨⟨v5, rfl, ho5⟩, hb5⟩; (obtain ⟨ao5, c5, rfl⟩ := owns_form ho5))
        have b6 := bal hb5 (.cells #[.int .i64 (zdim (widB n xs low high) n), .slice ao5 (widB n xs low high).2.length c5] 24)
        have Hzb6 := Lib.hid (BoxZ.atAlloc (n := zdim (widB n xs low high) n) (OL.rl ho5) 24)
        have Hza6 := Lib.hid (Hza.out.keep b6)
        have Hzg6 := Lib.hid (Hzg.out.keep b6)
        have Hzz6 := Lib.hid (Hzz.out.keep b6)
        have Hl6 := Lib.hid (Hld.out.keepb b6)
        have hvg6 := Hzg6.out
        obtain ⟨aog, cg, z0, z1, hvg⟩ := hvg6.ex
        have Hvg := Lib.hid hvg
        have H6 := Lib.hid (bt Hbd.out b6)
        have H6' := Lib.hid b6
        clear hb5 ho5 b6 hvg6 hvg y0 y1
        generalize hW6 : w5.alloc (.cells #[.int .i64 (zdim (widB n xs low high) n), .slice ao5 (widB n xs low high).2.length c5] 24) = w6 at *
        go_cut [12, 13] (fun s12 s13 wx => s13 = .int .i64 (widB n xs low low).1 ∧ ∃ gc : Nat, s12 = .pointer (some ⟨gc, 0, none⟩) ∧ BoxZ gc (zdim (widB n xs low low) n) (widB n xs low low).2 wx ∧ Below w6.heap.size w6 wx)
        case first =>
          go_region_held3 (fun w' => w'.cell? ⟨g, 0, none⟩ = some (.int .i64 n) ∧ w'.cell? ⟨g, 1, none⟩ = some (.slice aog xs.length cg))
            ((exact ⟨keepb z0 (by (repeat' (first | exact Below.refl _ _ | assumption | refine Below.drew ?_ | refine bal ?_ _ | refine bt ?_ hbA | refine bt ?_ hbB | refine bt ?_ hbR | refine Below.setCell ?_ ?_ _)); all_goals (first | exact Nat.le_refl _ | exact Nat.le_succ _ | exact bwA.size | exact Nat.le_succ_of_le bwA.size | exact bwB.size | exact Nat.le_succ_of_le (Nat.le_succ _) | omega | (simp; done) | (simp; omega) | (simp at *; omega))), keepb z1 (by (repeat' (first | exact Below.refl _ _ | assumption | refine Below.drew ?_ | refine bal ?_ _ | refine bt ?_ hbA | refine bt ?_ hbB | refine bt ?_ hbR | refine Below.setCell ?_ ?_ _)); all_goals (first | exact Nat.le_refl _ | exact Nat.le_succ _ | exact bwA.size | exact Nat.le_succ_of_le bwA.size | exact bwB.size | exact Nat.le_succ_of_le (Nat.le_succ _) | omega | (simp; done) | (simp; omega) | (simp at *; omega)))⟩))
            (first
              | ((refine step_append_fresh (B := w6.heap.size) (m := low.length) (news := low.map (Value.int .i64)) (xv := .slice aol low.length capl) ?_ (.tmp 49) (.tmp 50) 25 ?_ 2 j0 (.int .i64 0) 1 8 Try.undInts Hj.out Hj0.out Hj1.out Hj2.out rfl Nat.one_pos ?_ ?_ ?_ ?_ HLm.out HLx.out HLy.out ?_); rfl; rfl; rotate_left; rfl; rfl; (refine RS.keep Hl6.out ?_; (repeat' (first | exact Below.refl _ _ | assumption | refine Below.drew ?_ | refine bal ?_ _ | refine bt ?_ hbA | refine bt ?_ hbB | refine bt ?_ hbR | refine Below.setCell ?_ ?_ _))); (intro vA wA hrA hbA hfA; (obtain ⟨⟨aoA, cA, rfl⟩, hfA⟩ := hfA); (obtain ⟨kcA, kfA⟩ := bcell hbA); (first | ((refine zbox_k (K := w6.heap.size) ?_ ?_ ?_ ?_ hbA ?_); (focus (first | assumption | (go_simp; done))); (focus (first | assumption | (go_simp; done))); (focus (first | assumption | (go_simp; done))); (focus (first | assumption | (go_simp; done))); rintro ⟨q0A, q1A, q2A, q3A⟩) | ((refine zbox_k (K := (w6.heap.size + 1)) ?_ ?_ ?_ ?_ hbA ?_); (focus (first | assumption | (go_simp; done))); (focus (first | assumption | (go_simp; done))); (focus (first | assumption | (go_simp; done))); (focus (first | assumption | (go_simp; done))); rintro ⟨q0A, q1A, q2A, q3A⟩) | ((refine zbox_k (K := (w6.heap.size + 1 + 1)) ?_ ?_ ?_ ?_ hbA ?_); (focus (first | assumption | (go_simp; done))); (focus (first | assumption | (go_simp; done))); (focus (first | assumption | (go_simp; done))); (focus (first | assumption | (go_simp; done))); rintro ⟨q0A, q1A, q2A, q3A⟩) | skip); (have szA := hbA.size); (have bwA : Below w6.heap.size w6 wA := (by (repeat' (first | exact Below.refl _ _ | assumption | refine Below.drew ?_ | refine bal ?_ _ | refine bt ?_ hbA | refine bt ?_ hbB | refine bt ?_ hbR | refine Below.setCell ?_ ?_ _))))))
              | (go_at_call 11; (refine (prog_greatest n _ _ xs low _ (Hvg.out.keepb (by (repeat' (first | exact Below.refl _ _ | assumption | refine Below.drew ?_ | refine bal ?_ _ | refine bt ?_ hbA | refine bt ?_ hbB | refine bt ?_ hbR | refine Below.setCell ?_ ?_ _)))) (RL.keepb hrA (by (repeat' (first | exact Below.refl _ _ | assumption | refine Below.drew ?_ | refine bal ?_ _ | refine bt ?_ hbA | refine bt ?_ hbB | refine bt ?_ hbR | refine Below.setCell ?_ ?_ _))))).mono ?_); rintro e wR ⟨⟨vR, rfl, hoR⟩, hbR⟩; (obtain ⟨aoR, cR, rfl⟩ := owns_form hoR); (obtain ⟨kcR, kfR⟩ := bcell hbR); (first | ((refine zbox_k q0B q1B q2B q3B (bt (a := wB) ?_ hbR) ?_); (focus (repeat' (first | exact Below.refl _ _ | assumption | refine Below.drew ?_ | refine bal ?_ _ | refine bt ?_ hbA | refine bt ?_ hbB | refine bt ?_ hbR | refine Below.setCell ?_ ?_ _))); rintro ⟨q0R, q1R, q2R, q3R⟩) | ((refine zbox_k q0A q1A q2A q3A (bt (a := wA) ?_ hbR) ?_); (focus (repeat' (first | exact Below.refl _ _ | assumption | refine Below.drew ?_ | refine bal ?_ _ | refine bt ?_ hbA | refine bt ?_ hbB | refine bt ?_ hbR | refine Below.setCell ?_ ?_ _))); rintro ⟨q0R, q1R, q2R, q3R⟩) | ((refine zbox_k (K := w6.heap.size) ?_ ?_ ?_ ?_ hbR ?_); (focus (first | assumption | (go_simp; done))); (focus (first | assumption | (go_simp; done))); (focus (first | assumption | (go_simp; done))); (focus (first | assumption | (go_simp; done))); rintro ⟨q0R, q1R, q2R, q3R⟩) | ((refine zbox_k (K := (w6.heap.size + 1)) ?_ ?_ ?_ ?_ hbR ?_); (focus (first | assumption | (go_simp; done))); (focus (first | assumption | (go_simp; done))); (focus (first | assumption | (go_simp; done))); (focus (first | assumption | (go_simp; done))); rintro ⟨q0R, q1R, q2R, q3R⟩) | ((refine zbox_k (K := (w6.heap.size + 1 + 1)) ?_ ?_ ?_ ?_ hbR ?_); (focus (first | assumption | (go_simp; done))); (focus (first | assumption | (go_simp; done))); (focus (first | assumption | (go_simp; done))); (focus (first | assumption | (go_simp; done))); rintro ⟨q0R, q1R, q2R, q3R⟩) | ((refine zbox_k (K := wA.heap.size) ?_ ?_ ?_ ?_ hbR ?_); (focus (first | assumption | (go_simp; done))); (focus (first | assumption | (go_simp; done))); (focus (first | assumption | (go_simp; done))); (focus (first | assumption | (go_simp; done))); rintro ⟨q0R, q1R, q2R, q3R⟩) | ((refine zbox_k (K := (wA.heap.size + 1)) ?_ ?_ ?_ ?_ hbR ?_); (focus (first | assumption | (go_simp; done))); (focus (first | assumption | (go_simp; done))); (focus (first | assumption | (go_simp; done))); (focus (first | assumption | (go_simp; done))); rintro ⟨q0R, q1R, q2R, q3R⟩) | skip); (have szR := hbR.size); (have bwR : Below w6.heap.size w6 wR := (by (repeat' (first | exact Below.refl _ _ | assumption | refine Below.drew ?_ | refine bal ?_ _ | refine bt ?_ hbA | refine bt ?_ hbB | refine bt ?_ hbR | refine Below.setCell ?_ ?_ _))))))
          all_goals (go_wp2_with fail; go_meet; (refine ⟨rfl, _, rfl, ?_, ?_⟩); (focus (first | exact BoxZ.atAlloc (OL.rl hoR) _ | exact BoxZ.storedO (u0 := .int .i64 0) (u1 := .slice none 0 0) hbR (by first | assumption | (go_simp; done)) (by first | assumption | (go_simp; done)) hoR)); ((repeat' (first | exact Below.refl _ _ | assumption | refine Below.drew ?_ | refine bal ?_ _ | refine bt ?_ hbA | refine bt ?_ hbB | refine bt ?_ hbR | refine Below.setCell ?_ ?_ _))); (all_goals (first | exact Nat.le_refl _ | exact Nat.le_succ _ | exact bwA.size | exact Nat.le_succ_of_le bwA.size | exact bwB.size | exact Nat.le_succ_of_le (Nat.le_succ _) | omega | (simp; done) | (simp; omega) | (simp at *; omega))))
        case rest =>
          obtain ⟨rfl, gc, rfl, hzc, hbe⟩ := hcut
          have hze := Hzz6.out.keep hbe
          obtain ⟨aoz, cz, y0, y1, hvz⟩ := hze.ex
          have Hvz := Lib.hid hvz
          have Hle := Lib.hid (Hl6.out.keepb hbe)
          have Hza7 := Lib.hid (Hza6.out.keep hbe)
          have Hzb7 := Lib.hid (Hzb6.out.keep hbe)
          have Hzg7 := Lib.hid (Hzg6.out.keep hbe)
          have Hzz7 := Lib.hid hze
          have Hzc7 := Lib.hid hzc
          have Hbe := Lib.hid hbe
          clear hzc hze hvz hbe z0 z1
          go_upto_region 8 with (go_at_call 12; (refine (ref_greatest n _ _ xs low _ Hvz.out Hle.out).mono ?_); rintro e w7 ⟨⟨v7, rfl, ho7⟩, hb7⟩; (obtain ⟨ao7, c7, rfl⟩ := owns_form ho7))
          have b8 := bal hb7 (.cells #[.int .i64 (zdim (widB n xs low low) n), .slice ao7 (widB n xs low low).2.length c7] 24)
          have hzd8 := BoxZ.atAlloc (n := zdim (widB n xs low low) n) (OL.rl ho7) 24
          have hza8 := Hza7.out.keep b8
          have hzb8 := Hzb7.out.keep b8
          have hzc8 := Hzc7.out.keep b8
          have hzg8 := Hzg7.out.keep b8
          have hzz8 := Hzz7.out.keep b8
          have H8 := Lib.hid (bt Hbe.out b8)
          clear hb7 ho7 b8 y0 y1
          generalize hW8 : w7.alloc (.cells #[.int .i64 (zdim (widB n xs low low) n), .slice ao7 (widB n xs low low).2.length c7] 24) = w8 at *
          obtain ⟨aoa, ca, a0, a1, ha⟩ := hza8.ex
          obtain ⟨aob, cb, b0, b1, hb⟩ := hzb8.ex
          have HA := Lib.hid ha
          have HB := Lib.hid hb
          have HC8 := Lib.hid hzc8
          have HD8 := Lib.hid hzd8
          have HG8 := Lib.hid hzg8
          have HZ8 := Lib.hid hzz8
          clear ha hb hza8 hzb8 hzc8 hzd8 hzg8 hzz8
          go_wp2_with fail
          refine (ref_same _ _ _ _ _ _ _ HA.out HB.out).mono ?_
          rintro e w9 ⟨rfl, hb9⟩
          rw [sameB_refl]
          have hzc9 := HC8.out.keep hb9
          have hzd9 := HD8.out.keep hb9
          have HG9 := Lib.hid (HG8.out.keep hb9)
          have HZ9 := Lib.hid (HZ8.out.keep hb9)
          have H9 := Lib.hid (bt H8.out hb9)
          obtain ⟨aoc, cc, c0, c1, hc⟩ := hzc9.ex
          obtain ⟨aod, cd, d0, d1, hd⟩ := hzd9.ex
          have HC := Lib.hid hc
          have HD := Lib.hid hd
          clear hb9 hzc9 hzd9 hc hd a0 a1 b0 b1
          go_wp2_with fail
          refine (ref_same _ _ _ _ _ _ _ HC.out HD.out).mono ?_
          rintro e w10 ⟨rfl, hb10⟩
          rw [sameB_refl]
          have hzg10 := HG9.out.keep hb10
          have hzz10 := HZ9.out.keep hb10
          have H10 := Lib.hid (bt H9.out hb10)
          obtain ⟨aog2, cg2, g0, g1, hg⟩ := hzg10.ex
          obtain ⟨aoz2, cz2, y0, y1, hy⟩ := hzz10.ex
          have HG := Lib.hid hg
          have HY := Lib.hid hy
          clear hb10 hzg10 hzz10 hg hy c0 c1 d0 d1
          go_wp2_with fail
          refine (ref_same _ _ _ _ _ _ _ HG.out HY.out).mono ?_
          rintro e w11 ⟨rfl, hb11⟩
          rw [sameB_refl]
          have H11 := Lib.hid (bt H10.out hb11)
          clear hb11 g0 g1 y0 y1
          go_wp2_with (go_at_call 8; refine (law_shown _).mono ?_; rintro e w12 ⟨rfl, hb12⟩)
          go_ret
          exact ⟨rfl, bt (bt (bt Hb1.out Hbc.out) H6.out) (bt H11.out hb12)⟩
  · go_enter Try.func3, Try.ntmps3
    go_wp2_with fail
    refine (law_beyond n _ xs (w.heap.size + 1) 2 [low.length, high.length] _ Hv.out (by simp) (by simp) (fun k hk => by
      match k, hk with
      | 0, _ => exact ⟨aol, capl, hloc0.cell 1 rfl 0, hlel⟩
      | 1, _ => exact ⟨aoh, caph, hloc0.cell 1 rfl 1, hleh⟩)).mono ?_
    rw [hb]
    rintro e w1 ⟨rfl, hb1⟩
    have hg := Lib.hid (bt (below_grownBy hloc0.grown) hb1)
    clear hb1 hloc0 hb
    go_wp2_with (go_at_call 8; refine (law_shown _).mono ?_; rintro e w2 ⟨rfl, hb2⟩)
    go_ret
    exact ⟨rfl, bt hg.out hb2⟩
end Go.Proofs.Ytmjpcakikflcfaa
