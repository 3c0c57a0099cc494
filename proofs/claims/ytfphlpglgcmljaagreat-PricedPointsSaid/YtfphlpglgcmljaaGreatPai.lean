/- The program's At. -/
import Derived.Test.YtfphlpglgcmljaaGreatRap
namespace Go.Proofs.YtfphlpglgcmljaaGreat
open Go.RowKit
set_option linter.unusedVariables false

theorem grown_below {w W F : World} {row : Option Nat} (h : w.grownBy W row) (k : Below w.heap.size W F) : w.grownBy F row :=
  ⟨k.os.trans h.os, k.tape.trans h.tape, k.output.trans h.output, Nat.le_trans h.size k.size, fun i hi hne => (k.block i hi).trans (h.block i hi hne)⟩
theorem gset23 (w : World) (b i : Nat) (v : Value) : w.grownBy (w.setCell ⟨b, i, none⟩ v) (some b) :=
  ⟨rfl, rfl, rfl, by simp [World.setCell], fun j _ hne => Below.heap_setCell _ _ _ j (fun e => hne (by rw [e]))⟩
theorem hp_gr {w w' : World} {b g : Nat} {o : Obj} (h : w.heap[b]? = some o) (hg : w.grownBy w' (some g)) (hn : b ≠ g) : w'.heap[b]? = some o := (hg.block b (hp_lt3 h) (by simpa using hn)).trans h
theorem bw_gr {w X X' : World} {g : Nat} (h : Below w.heap.size w X) (hg : X.grownBy X' (some g)) (hn : w.heap.size ≤ g) : Below w.heap.size w X' :=
  h.grown hg h.size (fun k hk => by cases hk; exact hn)
set_option maxHeartbeats 2000000 in
theorem then_of (a b f : Int) (eb : Nat) (w : World) (he : w.heap[eb]? = some (.cells #[.int .i64 0] 28 (0, 0))) :
    Calls Tryz.prog 101 #[.agg #[.int .i64 a, .int .i64 b], .int .i64 f, .pointer (some ⟨eb, 0, none⟩)] w fun r w' => r = .returned (.agg #[.int .i64 a, .int .i64 b]) ∧ w'.heap[eb]? = some (.cells #[.int .i64 f] 28 (0, 0)) ∧ w.grownBy w' (some eb) := by
  have hlt := hp_lt3 he
  have hloc := Loc.two w (.cells #[.int .i64 a, .int .i64 b] 56) (.cells #[.int .i64 0, .int .i64 0] 56) none
  go_enter Tryz.func101, Tryz.ntmps101
  go_upto_region 1 with fail
  have h0 := hp_keep4 he (below_grownBy hloc.grown)
  have hg : w.grownBy ((w.alloc (.cells #[.int .i64 a, .int .i64 b] 56)).alloc (.cells #[.int .i64 0, .int .i64 0] 56)) (some eb) := grownBy_trans (World.grownBy_alloc _ _ _) (World.grownBy_alloc _ _ _)
  have HX := Lib.hid (show ((w.alloc (.cells #[.int .i64 a, .int .i64 b] 56)).alloc (.cells #[.int .i64 0, .int .i64 0] 56)).heap[w.heap.size]? = some (.cells #[.int .i64 a, .int .i64 b] 56 (0, 0)) from hloc.objs 0 (by simp))
  have HY := Lib.hid (show ((w.alloc (.cells #[.int .i64 a, .int .i64 b] 56)).alloc (.cells #[.int .i64 0, .int .i64 0] 56)).heap[w.heap.size + 1]? = some (.cells #[.int .i64 0, .int .i64 0] 56 (0, 0)) from hloc.objs 1 (by simp))
  have HG := Lib.hid hg
  have H0 := Lib.hid h0
  clear hloc he hg h0
  generalize (w.alloc (.cells #[.int .i64 a, .int .i64 b] 56)).alloc (.cells #[.int .i64 0, .int .i64 0] 56) = X at *
  have c0 := cell_of_row _ eb 0 _ _ _ H0.out
  have c1 := frozen_of_row _ eb 0 _ _ H0.out
  have HE := Lib.hid (heap_setCell_same X eb 0 _ _ (.int .i64 f) H0.out)
  have HX1 := Lib.hid ((Below.heap_setCell X ⟨eb, 0, none⟩ (.int .i64 f) w.heap.size (show w.heap.size ≠ eb by omega)).trans HX.out)
  have HY1 := Lib.hid ((Below.heap_setCell X ⟨eb, 0, none⟩ (.int .i64 f) (w.heap.size + 1) (show w.heap.size + 1 ≠ eb by omega)).trans HY.out)
  have HG1 := Lib.hid (grownBy_trans HG.out (gset23 X eb 0 (.int .i64 f)))
  go_upto_region 3 with fail
  clear c0 c1 H0 HX HY HG
  generalize X.setCell ⟨eb, 0, none⟩ (.int .i64 f) = X1 at *
  have d0 := cell_of_row _ w.heap.size 0 _ _ _ HX1.out
  have d1 := cell_of_row _ w.heap.size 1 _ _ _ HX1.out
  have t0 := cell_of_row _ (w.heap.size + 1) 0 _ _ _ HY1.out
  have t1 := cell_of_row _ (w.heap.size + 1) 1 _ _ _ HY1.out
  have f0 := frozen_of_row _ (w.heap.size + 1) 0 _ _ HY1.out
  have f1 := frozen_of_row _ (w.heap.size + 1) 1 _ _ HY1.out
  go_wp2_with fail
  refine bodyPost_ret (v := .agg #[.int .i64 a, .int .i64 b]) (by simp [results, Tryz.results101, go_sem, t0, t1]) rfl ⟨rfl, (st2_ne _ _ (by omega)).trans HE.out, grown_below HG1.out (((Below.refl _ _).setCell (by show w.heap.size ≤ w.heap.size + 1; omega) _).setCell (by show w.heap.size ≤ w.heap.size + 1; omega) _)⟩
theorem ents_valid : Enters Tryz.prog 99 := enters_of Tryz.func99 (by kernel_rfl) rfl
set_option maxRecDepth 100000 in
set_option maxHeartbeats 16000000 in
theorem prog_pat (n c : Int) (v rv lv : Value) (xs rs : List Int) (ps : List (Int × Int)) (w : World) (hv : RL w.heap.size w v xs) (hr : RL w.heap.size w rv rs) (hp : RX cdRes w.heap.size w lv ps) (hI : ∀ x, x ∈ ps → I64 x.1) :
    Calls Tryz.prog 35 #[.agg #[.int .i64 n, v, .int .i64 c, rv], lv] w fun e w' => RE (atF n xs c rs ps) e ∧ Below w.heap.size w w' := by
  have Hv := Lib.hid hv
  have Hr := Lib.hid hr
  have Hp := Lib.hid hp
  have HI := Lib.hid hI
  obtain ⟨ao, cap, rfl, hle, _⟩ := hv.open
  obtain ⟨aor, capr, rfl, hler, hcr⟩ := (RL.re hr).open
  obtain ⟨aop, capp, rfl, hlep, hcp⟩ := hp.open
  have Hcr := Lib.hid hcr
  have Hcp := Lib.hid hcp
  clear hv hr hp hcr hcp hI
  have hloc := Loc.two w (.cells #[.int .i64 n, .slice ao xs.length cap, .int .i64 c, .slice aor rs.length capr] 35) (.cells #[.int .i64 0, .int .i64 0] 56) none
  go_enter Tryz.func35, Tryz.ntmps35
  go_upto_region 1 with fail
  have HW := Lib.hid (below_grownBy hloc.grown)
  have HBz := Lib.hid (show ((w.alloc (.cells #[.int .i64 n, .slice ao xs.length cap, .int .i64 c, .slice aor rs.length capr] 35)).alloc (.cells #[.int .i64 0, .int .i64 0] 56)).heap[w.heap.size]? = some (.cells #[.int .i64 n, .slice ao xs.length cap, .int .i64 c, .slice aor rs.length capr] 35 (0, 0)) from hloc.objs 0 (by simp))
  have HBr := Lib.hid (show ((w.alloc (.cells #[.int .i64 n, .slice ao xs.length cap, .int .i64 c, .slice aor rs.length capr] 35)).alloc (.cells #[.int .i64 0, .int .i64 0] 56)).heap[w.heap.size + 1]? = some (.cells #[.int .i64 0, .int .i64 0] 56 (0, 0)) from hloc.objs 1 (by simp))
  generalize (w.alloc (.cells #[.int .i64 n, .slice ao xs.length cap, .int .i64 c, .slice aor rs.length capr] 35)).alloc (.cells #[.int .i64 0, .int .i64 0] 56) = X0 at *
  clear hloc
  have z0 : X0.cell? ⟨w.heap.size, 0, none⟩ = some (.int .i64 n) := cell_of_row _ (w.heap.size) 0 _ _ _ HBz.out
  have zf0 : X0.frozen? ⟨w.heap.size, 0, none⟩ = false := frozen_of_row _ (w.heap.size) 0 _ _ HBz.out
  have z1 : X0.cell? ⟨w.heap.size, 1, none⟩ = some (.slice ao xs.length cap) := cell_of_row _ (w.heap.size) 1 _ _ _ HBz.out
  have zf1 : X0.frozen? ⟨w.heap.size, 1, none⟩ = false := frozen_of_row _ (w.heap.size) 1 _ _ HBz.out
  have z2 : X0.cell? ⟨w.heap.size, 2, none⟩ = some (.int .i64 c) := cell_of_row _ (w.heap.size) 2 _ _ _ HBz.out
  have zf2 : X0.frozen? ⟨w.heap.size, 2, none⟩ = false := frozen_of_row _ (w.heap.size) 2 _ _ HBz.out
  have z3 : X0.cell? ⟨w.heap.size, 3, none⟩ = some (.slice aor rs.length capr) := cell_of_row _ (w.heap.size) 3 _ _ _ HBz.out
  have zf3 : X0.frozen? ⟨w.heap.size, 3, none⟩ = false := frozen_of_row _ (w.heap.size) 3 _ _ HBz.out
  go_wp2_with fail
  refine (prog_pcheck n c _ _ xs rs _ (Hv.out.keepb HW.out) (Hr.out.keepb HW.out)).mono ?_
  rintro e w1 ⟨rfl, hb⟩
  clear z0 zf0 z1 zf1 z2 zf2 z3 zf3
  replace HBz := Lib.hid (hp_keep4 HBz.out hb)
  replace HBr := Lib.hid (hp_keep4 HBr.out hb)
  replace HW := Lib.hid (bt HW.out hb)
  clear hb
  cases hpz : pzB n xs c rs with
  | false =>
    rw [pzE_no hpz]
    have HF := Lib.hid (show atF n xs c rs ps = ((0, 0), 2) from atF_bad (fun h => by rw [hpz] at h; exact absurd h.1 (by simp)))
    have t0 : w1.cell? ⟨w.heap.size + 1, 0, none⟩ = some (.int .i64 0) := cell_of_row _ (w.heap.size + 1) 0 _ _ _ HBr.out
    have tf0 : w1.frozen? ⟨w.heap.size + 1, 0, none⟩ = false := frozen_of_row _ (w.heap.size + 1) 0 _ _ HBr.out
    have t1 : w1.cell? ⟨w.heap.size + 1, 1, none⟩ = some (.int .i64 0) := cell_of_row _ (w.heap.size + 1) 1 _ _ _ HBr.out
    have tf1 : w1.frozen? ⟨w.heap.size + 1, 1, none⟩ = false := frozen_of_row _ (w.heap.size + 1) 1 _ _ HBr.out
    go_wp2_with fail
    refine bodyPost_ret (v := .tuple #[.agg #[.int .i64 0, .int .i64 0], .int .i64 2]) (by simp [results, Tryz.results35, go_sem, t0, t1]) rfl ⟨RE.of HF.out, ?_⟩
    exact ((HW.out).setCell (by show w.heap.size ≤ w.heap.size + 1; omega) _).setCell (by show w.heap.size ≤ w.heap.size + 1; omega) _
  | true =>
    rw [pzE_yes hpz]
    have z0 : w1.cell? ⟨w.heap.size, 0, none⟩ = some (.int .i64 n) := cell_of_row _ (w.heap.size) 0 _ _ _ HBz.out
    have zf0 : w1.frozen? ⟨w.heap.size, 0, none⟩ = false := frozen_of_row _ (w.heap.size) 0 _ _ HBz.out
    have z1 : w1.cell? ⟨w.heap.size, 1, none⟩ = some (.slice ao xs.length cap) := cell_of_row _ (w.heap.size) 1 _ _ _ HBz.out
    have zf1 : w1.frozen? ⟨w.heap.size, 1, none⟩ = false := frozen_of_row _ (w.heap.size) 1 _ _ HBz.out
    have z2 : w1.cell? ⟨w.heap.size, 2, none⟩ = some (.int .i64 c) := cell_of_row _ (w.heap.size) 2 _ _ _ HBz.out
    have zf2 : w1.frozen? ⟨w.heap.size, 2, none⟩ = false := frozen_of_row _ (w.heap.size) 2 _ _ HBz.out
    have z3 : w1.cell? ⟨w.heap.size, 3, none⟩ = some (.slice aor rs.length capr) := cell_of_row _ (w.heap.size) 3 _ _ _ HBz.out
    have zf3 : w1.frozen? ⟨w.heap.size, 3, none⟩ = false := frozen_of_row _ (w.heap.size) 3 _ _ HBz.out
    by_cases hlen : (ps.length : Int) = n
    rotate_left
    · have hlb : ((ps.length : Int) != n) = true := by simpa using hlen
      have HF := Lib.hid (show atF n xs c rs ps = ((0, 0), 2) from atF_bad (fun h => hlen h.2.1))
      have t0 : w1.cell? ⟨w.heap.size + 1, 0, none⟩ = some (.int .i64 0) := cell_of_row _ (w.heap.size + 1) 0 _ _ _ HBr.out
      have tf0 : w1.frozen? ⟨w.heap.size + 1, 0, none⟩ = false := frozen_of_row _ (w.heap.size + 1) 0 _ _ HBr.out
      have t1 : w1.cell? ⟨w.heap.size + 1, 1, none⟩ = some (.int .i64 0) := cell_of_row _ (w.heap.size + 1) 1 _ _ _ HBr.out
      have tf1 : w1.frozen? ⟨w.heap.size + 1, 1, none⟩ = false := frozen_of_row _ (w.heap.size + 1) 1 _ _ HBr.out
      go_wp2_with fail
      refine bodyPost_ret (v := .tuple #[.agg #[.int .i64 0, .int .i64 0], .int .i64 2]) (by simp [results, Tryz.results35, go_sem, t0, t1]) rfl ⟨RE.of HF.out, ?_⟩
      exact ((HW.out).setCell (by show w.heap.size ≤ w.heap.size + 1; omega) _).setCell (by show w.heap.size ≤ w.heap.size + 1; omega) _
    have hlb : ((ps.length : Int) != n) = false := by simpa using hlen
    go_wp2_with fail
    refine (holds_Rat _ _ ps (fun x => vr x.1 x.2) _ (RX.keepb Hp.out HW.out) ⟨99, #[], rfl, ents_valid, fun x hx w' hw => pr_valid x.1 x.2 w' (HI.out x hx).1 (HI.out x hx).2⟩).mono ?_
    rintro e w2 ⟨rfl, hb⟩
    clear z0 zf0 z1 zf1 z2 zf2 z3 zf3
    replace HBz := Lib.hid (hp_keep4 HBz.out hb)
    replace HBr := Lib.hid (hp_keep4 HBr.out hb)
    replace HW := Lib.hid (bt HW.out hb)
    clear hb
    cases hal : ps.all (fun x => vr x.1 x.2) with
    | false =>
      have HF := Lib.hid (show atF n xs c rs ps = ((0, 0), 2) from atF_bad (fun h => by rw [hal] at h; exact absurd h.2.2 (by simp)))
      have t0 : w2.cell? ⟨w.heap.size + 1, 0, none⟩ = some (.int .i64 0) := cell_of_row _ (w.heap.size + 1) 0 _ _ _ HBr.out
      have tf0 : w2.frozen? ⟨w.heap.size + 1, 0, none⟩ = false := frozen_of_row _ (w.heap.size + 1) 0 _ _ HBr.out
      have t1 : w2.cell? ⟨w.heap.size + 1, 1, none⟩ = some (.int .i64 0) := cell_of_row _ (w.heap.size + 1) 1 _ _ _ HBr.out
      have tf1 : w2.frozen? ⟨w.heap.size + 1, 1, none⟩ = false := frozen_of_row _ (w.heap.size + 1) 1 _ _ HBr.out
      go_wp2_with fail
      refine bodyPost_ret (v := .tuple #[.agg #[.int .i64 0, .int .i64 0], .int .i64 2]) (by simp [results, Tryz.results35, go_sem, t0, t1]) rfl ⟨RE.of HF.out, ?_⟩
      exact ((HW.out).setCell (by show w.heap.size ≤ w.heap.size + 1; omega) _).setCell (by show w.heap.size ≤ w.heap.size + 1; omega) _
    | true =>
      obtain ⟨N, rfl, hok, hlr, hc⟩ := pzB_nat hpz
      have Hrng := Lib.hid (pzB_inv hpz).2.2
      have Hok := Lib.hid hok
      have Hc := Lib.hid (show I64 c from hc)
      have HN := Lib.hid (show ps.length = N by omega)
      have Hlr := Lib.hid hlr
      have HALL := Lib.hid (show pzB N xs c rs = true ∧ (ps.length : Int) = N ∧ ps.all (fun x => vr x.1 x.2) = true from ⟨hpz, hlen, hal⟩)
      have HV := Lib.hid (fun (k : Nat) (hk : k < ps.length) => (by have := List.all_eq_true.1 HALL.out.2.2 (ge cdRes ps k) (ge_mem cdRes hk); exact this : vr (ge cdRes ps k).1 (ge cdRes ps k).2 = true))
      clear hok hlr hc hpz hlen hal
      have z0 : w2.cell? ⟨w.heap.size, 0, none⟩ = some (.int .i64 N) := cell_of_row _ (w.heap.size) 0 _ _ _ HBz.out
      have zf0 : w2.frozen? ⟨w.heap.size, 0, none⟩ = false := frozen_of_row _ (w.heap.size) 0 _ _ HBz.out
      have z1 : w2.cell? ⟨w.heap.size, 1, none⟩ = some (.slice ao xs.length cap) := cell_of_row _ (w.heap.size) 1 _ _ _ HBz.out
      have zf1 : w2.frozen? ⟨w.heap.size, 1, none⟩ = false := frozen_of_row _ (w.heap.size) 1 _ _ HBz.out
      have z2 : w2.cell? ⟨w.heap.size, 2, none⟩ = some (.int .i64 c) := cell_of_row _ (w.heap.size) 2 _ _ _ HBz.out
      have zf2 : w2.frozen? ⟨w.heap.size, 2, none⟩ = false := frozen_of_row _ (w.heap.size) 2 _ _ HBz.out
      have z3 : w2.cell? ⟨w.heap.size, 3, none⟩ = some (.slice aor rs.length capr) := cell_of_row _ (w.heap.size) 3 _ _ _ HBz.out
      have zf3 : w2.frozen? ⟨w.heap.size, 3, none⟩ = false := frozen_of_row _ (w.heap.size) 3 _ _ HBz.out
      go_wp2_with fail
      refine (pr_of c w2 Hc.out).mono ?_
      rintro e w3 ⟨h, hb⟩
      obtain ⟨p0, q0, x0, h0, rfl⟩ := re_open h
      clear z0 zf0 z1 zf1 z2 zf2 z3 zf3
      replace HBz := Lib.hid (hp_keep4 HBz.out hb)
      replace HBr := Lib.hid (hp_keep4 HBr.out hb)
      replace HW := Lib.hid (bt HW.out hb)
      clear hb
      have hB3 : w.heap.size + 1 < w3.heap.size := hp_lt3 HBr.out
      clear h hlb
      have hl2 := Loc.two w3 (.cells #[.int .i64 p0, .int .i64 q0] 56) (.cells #[.int .i64 x0] 28) none
      have hqs : ((w3.alloc (.cells #[.int .i64 p0, .int .i64 q0] 56)).alloc (.cells #[.int .i64 x0] 28)).heap[w3.heap.size]? = some (.cells #[.int .i64 p0, .int .i64 q0] 56 (0, 0)) := hl2.objs 0 (by simp)
      have hqe : ((w3.alloc (.cells #[.int .i64 p0, .int .i64 q0] 56)).alloc (.cells #[.int .i64 x0] 28)).heap[w3.heap.size + 1]? = some (.cells #[.int .i64 x0] 28 (0, 0)) := hl2.objs 1 (by simp)
      have hb4 := below_grownBy hl2.grown
      have hqz := hp_keep4 HBz.out hb4
      have hqr := hp_keep4 HBr.out hb4
      have hqw := bt HW.out hb4
      clear HBz HBr HW hb4 hl2
      go_upto_region 5 with fail
      generalize (w3.alloc (.cells #[.int .i64 p0, .int .i64 q0] 56)).alloc (.cells #[.int .i64 x0] 28) = X3 at *
      generalize w3.heap.size = B at *
      have HBz := Lib.hid hqz
      have HBr := Lib.hid hqr
      have HBs := Lib.hid hqs
      have HBe := Lib.hid hqe
      have HW := Lib.hid hqw
      clear hqz hqr hqs hqe hqw
      go_wp2_with fail
      go_loopw [39] (fun i wr => ∃ (k : Nat) (p q x : Int), k ≤ ps.length ∧ i = .int .i64 k ∧ atTo N xs c rs ps k = ((p, q), x) ∧ wr.heap[w.heap.size]? = some (.cells #[.int .i64 N, .slice ao xs.length cap, .int .i64 c, .slice aor rs.length capr] 35 (0, 0)) ∧ wr.heap[w.heap.size + 1]? = some (.cells #[.int .i64 0, .int .i64 0] 56 (0, 0)) ∧ wr.heap[B]? = some (.cells #[.int .i64 p, .int .i64 q] 56 (0, 0)) ∧ wr.heap[B + 1]? = some (.cells #[.int .i64 x] 28 (0, 0)) ∧ Below w.heap.size w wr) (fun i _ => ps.length - (intOf i).toNat)
      case atStart => exact ⟨0, p0, q0, x0, Nat.zero_le _, rfl, h0, HBz.out, HBr.out, HBs.out, HBe.out, HW.out⟩
      case round =>
        clear HBz HBr HBs HBe HW h0
        obtain ⟨k, p, q, x, hk, rfl, hto, hz, hr, hs, he, hw⟩ := hrel
        have HTO := Lib.hid hto
        have HBz := Lib.hid hz
        have HBr := Lib.hid hr
        have HBs := Lib.hid hs
        have HBe := Lib.hid he
        have HW := Lib.hid hw
        clear hz hr hs he hw hto
        have e0 : wr.cell? ⟨B + 1, 0, none⟩ = some (.int .i64 x) := cell_of_row _ (B + 1) 0 _ _ _ HBe.out
        have ef0 : wr.frozen? ⟨B + 1, 0, none⟩ = false := frozen_of_row _ (B + 1) 0 _ _ HBe.out
        by_cases hlt : k < ps.length
        rotate_left
        · have htk : decide ((k : Int) < (ps.length : Int)) = false := by simp; omega
          by_cases hx : x = 0
          · subst hx
            have s0 : wr.cell? ⟨B, 0, none⟩ = some (.int .i64 p) := cell_of_row _ (B) 0 _ _ _ HBs.out
            have sf0 : wr.frozen? ⟨B, 0, none⟩ = false := frozen_of_row _ (B) 0 _ _ HBs.out
            have s1 : wr.cell? ⟨B, 1, none⟩ = some (.int .i64 q) := cell_of_row _ (B) 1 _ _ _ HBs.out
            have sf1 : wr.frozen? ⟨B, 1, none⟩ = false := frozen_of_row _ (B) 1 _ _ HBs.out
            have HF := Lib.hid (show atF (N : Int) xs c rs ps = ((p, q), 0) from atF_ok HALL.out (by rw [Int.toNat_natCast, show ps.length = k by omega]; exact HTO.out))
            have t0 : wr.cell? ⟨w.heap.size + 1, 0, none⟩ = some (.int .i64 0) := cell_of_row _ (w.heap.size + 1) 0 _ _ _ HBr.out
            have tf0 : wr.frozen? ⟨w.heap.size + 1, 0, none⟩ = false := frozen_of_row _ (w.heap.size + 1) 0 _ _ HBr.out
            have t1 : wr.cell? ⟨w.heap.size + 1, 1, none⟩ = some (.int .i64 0) := cell_of_row _ (w.heap.size + 1) 1 _ _ _ HBr.out
            have tf1 : wr.frozen? ⟨w.heap.size + 1, 1, none⟩ = false := frozen_of_row _ (w.heap.size + 1) 1 _ _ HBr.out
            go_wp2_with fail
            refine bodyPost_ret (v := .tuple #[.agg #[.int .i64 p, .int .i64 q], .int .i64 0]) (by simp [results, Tryz.results35, go_sem, t0, t1]) rfl ⟨RE.of HF.out, ?_⟩
            exact ((HW.out).setCell (by show w.heap.size ≤ w.heap.size + 1; omega) _).setCell (by show w.heap.size ≤ w.heap.size + 1; omega) _
          · have hxb : (x != 0) = true := by simpa using hx
            have HF := Lib.hid (show atF (N : Int) xs c rs ps = ((0, 0), x) from atF_err HALL.out hk (by rw [Int.toNat_natCast]; exact HTO.out) hx)
            go_upto_region 20 with fail
            refine wp_region_noPanic ?_
            refine wp_region_held_drew (S := (fun w' => w'.cell? ⟨B + 1, 0, none⟩ = some (.int .i64 x))) (by kernel_rfl) e0 (fun hHeld => ?_)
            refine wpAnyH_take (i := 0) (v := ?_) rfl (by kernel_rfl) (by kernel_rfl) (by kernel_rfl) (fun _ _ _ h => h) (Or.inl ⟨by rfl, ?_⟩) (by assumption) ?_
            rotate_left
            · intro w hSw; (try dsimp only at hSw); go_simp; (try with_reducible rfl)
            try simp only [Act.put, List.getElem_toArray, List.getElem_cons_zero, List.setIfInBounds_toArray, List.set_cons_zero, List.set_cons_succ]
            refine wpAnyH_take (i := 1) (v := ?_) rfl (by kernel_rfl) (by kernel_rfl) (by kernel_rfl) (fun _ _ _ h => h) (Or.inl ⟨by rfl, ?_⟩) (by assumption) ?_
            rotate_left
            · intro w hSw; (try dsimp only at hSw); go_simp; (try with_reducible rfl)
            try simp only [Act.put, List.getElem_toArray, List.getElem_cons_zero, List.getElem_cons_succ, List.setIfInBounds_toArray, List.set_cons_zero, List.set_cons_succ]
            clear e0 ef0 hHeld
            replace HBr := Lib.hid (show wr.drew.heap[w.heap.size + 1]? = _ from HBr.out)
            replace HBe := Lib.hid (show wr.drew.heap[B + 1]? = _ from HBe.out)
            replace HW := Lib.hid HW.out.drew
            generalize wr.drew = XZ at *
            have t0 : XZ.cell? ⟨w.heap.size + 1, 0, none⟩ = some (.int .i64 0) := cell_of_row _ (w.heap.size + 1) 0 _ _ _ HBr.out
            have tf0 : XZ.frozen? ⟨w.heap.size + 1, 0, none⟩ = false := frozen_of_row _ (w.heap.size + 1) 0 _ _ HBr.out
            have t1 : XZ.cell? ⟨w.heap.size + 1, 1, none⟩ = some (.int .i64 0) := cell_of_row _ (w.heap.size + 1) 1 _ _ _ HBr.out
            have tf1 : XZ.frozen? ⟨w.heap.size + 1, 1, none⟩ = false := frozen_of_row _ (w.heap.size + 1) 1 _ _ HBr.out
            have hqe := (st2_ne (w := XZ) (b := w.heap.size + 1) (c := B + 1) (.int .i64 0) (.int .i64 0) (by omega)).trans HBe.out
            refine wpAnyH_ready (rs := [2]) (by kernel_rfl) (by simp) ?_
            refine AllReadyH.cons rfl (fun K hK => ?_) AllReadyH.nil
            go_simp
            refine hK.out _ _ (cell_of_row _ (B + 1) 0 _ _ _ hqe) (fun hHeld2 => ?_)
            clear hK K
            try simp only [Act.put, List.getElem_toArray, List.getElem_cons_zero, List.getElem_cons_succ, List.setIfInBounds_toArray, List.set_cons_zero, List.set_cons_succ]
            refine wpAnyH_take (i := 3) (v := ?_) rfl (by kernel_rfl) (by kernel_rfl) (by kernel_rfl) (fun _ _ _ h => h) (Or.inl ⟨by rfl, ?_⟩) (by assumption) ?_
            rotate_left
            · intro w hSw; (try dsimp only at hSw); go_simp; (try with_reducible rfl)
            try simp only [Act.put, List.getElem_toArray, List.getElem_cons_zero, List.getElem_cons_succ, List.setIfInBounds_toArray, List.set_cons_zero, List.set_cons_succ]
            refine wpAnyH_done (by kernel_rfl) ?_ _
            refine NoPanic.normal ?_
            go_wp2_with fail
            refine bodyPost_ret (v := .tuple #[.agg #[.int .i64 0, .int .i64 0], .int .i64 x]) (by simp [results, Tryz.results35, go_sem, t0, t1]) rfl ⟨RE.of HF.out, ?_⟩
            exact ((HW.out).setCell (by show w.heap.size ≤ w.heap.size + 1; omega) _).setCell (by show w.heap.size ≤ w.heap.size + 1; omega) _
        have htk : decide ((k : Int) < (ps.length : Int)) = true := by simp; omega
        obtain ⟨b, off, rfl, hb, hcc⟩ := Hcp.out (by omega)
        obtain ⟨E, hE⟩ : ∃ E, ge cdRes ps k = E := ⟨_, rfl⟩
        have HX0 := Lib.hid (fun (X : World) (h : Below w.heap.size w X) => (by
          refine ⟨?_, ?_⟩
          · have h2 := ((bcell h).1 b (off + (k * 2 + 0)) hb).trans (hcc k 0 hlt (by decide))
            rw [hE] at h2
            rw [show off + k * 2 = off + (k * 2 + 0) by omega]
            exact h2
          · have h2 := ((bcell h).1 b (off + (k * 2 + 1)) hb).trans (hcc k 1 hlt (by decide))
            rw [hE] at h2
            rw [show off + k * 2 + 1 = off + (k * 2 + 1) by omega]
            exact h2 : X.cell? ⟨b, off + k * 2, none⟩ = some (.int .i64 E.1) ∧ X.cell? ⟨b, off + k * 2 + 1, none⟩ = some (.int .i64 E.2)))
        have HVE := Lib.hid (HV.out k hlt)
        rw [hE] at HVE
        have k0 : (k : Int) < ps.length := by omega
        have k1 : (0 : Int) ≤ (k : Int) := by omega
        obtain ⟨x0', x1'⟩ := HX0.out wr HW.out
        by_cases hx : x = 0
        rotate_left
        · have hxb : (x != 0) = true := by simpa using hx
          have hbx := HW.out
          clear hbx
          have hba := (Below.refl _ wr).alloc (Nat.le_refl _) (.cells #[.int .i64 E.1, .int .i64 E.2] 56)
          have hqz := hp_keep4 HBz.out hba
          have hqr := hp_keep4 HBr.out hba
          have hqs := hp_keep4 HBs.out hba
          have hqe := hp_keep4 HBe.out hba
          have hqx := heap_alloc_new wr (.cells #[.int .i64 E.1, .int .i64 E.2] 56)
          have hqw := bt HW.out hba
          have hBY : B + 1 < wr.heap.size := hp_lt3 HBe.out
          clear HBz HBr HBs HBe HW hba e0 ef0
          go_upto_region 8 with fail
          generalize wr.alloc (.cells #[.int .i64 E.1, .int .i64 E.2] 56) = X4 at *
          generalize wr.heap.size = Y at *
          have HBz := Lib.hid hqz
          have HBr := Lib.hid hqr
          have HBs := Lib.hid hqs
          have HBe := Lib.hid hqe
          have HBx := Lib.hid hqx
          have HW := Lib.hid hqw
          clear hqz hqr hqs hqe hqx hqw x0' x1'
          have e0 : X4.cell? ⟨B + 1, 0, none⟩ = some (.int .i64 x) := cell_of_row _ (B + 1) 0 _ _ _ HBe.out
          have ef0 : X4.frozen? ⟨B + 1, 0, none⟩ = false := frozen_of_row _ (B + 1) 0 _ _ HBe.out
          have HF := Lib.hid (show atF (N : Int) xs c rs ps = ((0, 0), x) from atF_err HALL.out hk (by rw [Int.toNat_natCast]; exact HTO.out) hx)
          go_upto_region 20 with fail
          refine wp_region_noPanic ?_
          refine wp_region_held_drew (S := (fun w' => w'.cell? ⟨B + 1, 0, none⟩ = some (.int .i64 x))) (by kernel_rfl) e0 (fun hHeld => ?_)
          refine wpAnyH_take (i := 0) (v := ?_) rfl (by kernel_rfl) (by kernel_rfl) (by kernel_rfl) (fun _ _ _ h => h) (Or.inl ⟨by rfl, ?_⟩) (by assumption) ?_
          rotate_left
          · intro w hSw; (try dsimp only at hSw); go_simp; (try with_reducible rfl)
          try simp only [Act.put, List.getElem_toArray, List.getElem_cons_zero, List.setIfInBounds_toArray, List.set_cons_zero, List.set_cons_succ]
          refine wpAnyH_take (i := 1) (v := ?_) rfl (by kernel_rfl) (by kernel_rfl) (by kernel_rfl) (fun _ _ _ h => h) (Or.inl ⟨by rfl, ?_⟩) (by assumption) ?_
          rotate_left
          · intro w hSw; (try dsimp only at hSw); go_simp; (try with_reducible rfl)
          try simp only [Act.put, List.getElem_toArray, List.getElem_cons_zero, List.getElem_cons_succ, List.setIfInBounds_toArray, List.set_cons_zero, List.set_cons_succ]
          clear e0 ef0 hHeld
          replace HBr := Lib.hid (show X4.drew.heap[w.heap.size + 1]? = _ from HBr.out)
          replace HBe := Lib.hid (show X4.drew.heap[B + 1]? = _ from HBe.out)
          replace HW := Lib.hid HW.out.drew
          generalize X4.drew = XZ at *
          have t0 : XZ.cell? ⟨w.heap.size + 1, 0, none⟩ = some (.int .i64 0) := cell_of_row _ (w.heap.size + 1) 0 _ _ _ HBr.out
          have tf0 : XZ.frozen? ⟨w.heap.size + 1, 0, none⟩ = false := frozen_of_row _ (w.heap.size + 1) 0 _ _ HBr.out
          have t1 : XZ.cell? ⟨w.heap.size + 1, 1, none⟩ = some (.int .i64 0) := cell_of_row _ (w.heap.size + 1) 1 _ _ _ HBr.out
          have tf1 : XZ.frozen? ⟨w.heap.size + 1, 1, none⟩ = false := frozen_of_row _ (w.heap.size + 1) 1 _ _ HBr.out
          have hqe := (st2_ne (w := XZ) (b := w.heap.size + 1) (c := B + 1) (.int .i64 0) (.int .i64 0) (by omega)).trans HBe.out
          refine wpAnyH_ready (rs := [2]) (by kernel_rfl) (by simp) ?_
          refine AllReadyH.cons rfl (fun K hK => ?_) AllReadyH.nil
          go_simp
          refine hK.out _ _ (cell_of_row _ (B + 1) 0 _ _ _ hqe) (fun hHeld2 => ?_)
          clear hK K
          try simp only [Act.put, List.getElem_toArray, List.getElem_cons_zero, List.getElem_cons_succ, List.setIfInBounds_toArray, List.set_cons_zero, List.set_cons_succ]
          refine wpAnyH_take (i := 3) (v := ?_) rfl (by kernel_rfl) (by kernel_rfl) (by kernel_rfl) (fun _ _ _ h => h) (Or.inl ⟨by rfl, ?_⟩) (by assumption) ?_
          rotate_left
          · intro w hSw; (try dsimp only at hSw); go_simp; (try with_reducible rfl)
          try simp only [Act.put, List.getElem_toArray, List.getElem_cons_zero, List.getElem_cons_succ, List.setIfInBounds_toArray, List.set_cons_zero, List.set_cons_succ]
          refine wpAnyH_done (by kernel_rfl) ?_ _
          refine NoPanic.normal ?_
          go_wp2_with fail
          refine bodyPost_ret (v := .tuple #[.agg #[.int .i64 0, .int .i64 0], .int .i64 x]) (by simp [results, Tryz.results35, go_sem, t0, t1]) rfl ⟨RE.of HF.out, ?_⟩
          exact ((HW.out).setCell (by show w.heap.size ≤ w.heap.size + 1; omega) _).setCell (by show w.heap.size ≤ w.heap.size + 1; omega) _
        subst hx
        obtain ⟨br, offr, rfl, hbr, hccr⟩ := Hcr.out (by have := HN.out; have := Hlr.out; omega)
        have HR0 := Lib.hid (fun (X : World) (h : Below w.heap.size w X) => (by
          have h2 := ((bcell h).1 br (offr + (k * 1 + 0)) hbr).trans (hccr k 0 (by have := HN.out; have := Hlr.out; omega) (by decide))
          rw [show offr + k = offr + (k * 1 + 0) by omega]
          rw [h2]
          rfl : X.cell? ⟨br, offr + k, none⟩ = some (.int .i64 (gi rs k))))
        have HNX := Lib.hid (atTo_next HTO.out)
        rw [hE] at HNX
        have HVS := Lib.hid (atTo_vr HTO.out)
        have k2 : (k : Int) < rs.length := by have := HN.out; have := Hlr.out; omega
        have hkN : k + 1 ≤ N := by have := HN.out; omega
        have Hlow := Lib.hid (low_i64 Hok.out hkN)
        have Hrat := Lib.hid (rate_i64 Hrng.out (k := k) (by omega))
        have HEI := Lib.hid (vr_i64 HVE.out)
        clear hcc hccr hE
        have hba := (Below.refl _ wr).alloc (Nat.le_refl _) (.cells #[.int .i64 E.1, .int .i64 E.2] 56)
        have hqz := hp_keep4 HBz.out hba
        have hqr := hp_keep4 HBr.out hba
        have hqs := hp_keep4 HBs.out hba
        have hqe := hp_keep4 HBe.out hba
        have hqx := heap_alloc_new wr (.cells #[.int .i64 E.1, .int .i64 E.2] 56)
        have hqw := bt HW.out hba
        have hBY : B + 1 < wr.heap.size := hp_lt3 HBe.out
        clear HBz HBr HBs HBe HW hba e0 ef0
        go_upto_region 8 with fail
        generalize wr.alloc (.cells #[.int .i64 E.1, .int .i64 E.2] 56) = X4 at *
        generalize wr.heap.size = Y at *
        have HBz := Lib.hid hqz
        have HBr := Lib.hid hqr
        have HBs := Lib.hid hqs
        have HBe := Lib.hid hqe
        have HBx := Lib.hid hqx
        have HW := Lib.hid hqw
        clear hqz hqr hqs hqe hqx hqw x0' x1'
        have z0 : X4.cell? ⟨w.heap.size, 0, none⟩ = some (.int .i64 N) := cell_of_row _ (w.heap.size) 0 _ _ _ HBz.out
        have zf0 : X4.frozen? ⟨w.heap.size, 0, none⟩ = false := frozen_of_row _ (w.heap.size) 0 _ _ HBz.out
        have z1 : X4.cell? ⟨w.heap.size, 1, none⟩ = some (.slice ao xs.length cap) := cell_of_row _ (w.heap.size) 1 _ _ _ HBz.out
        have zf1 : X4.frozen? ⟨w.heap.size, 1, none⟩ = false := frozen_of_row _ (w.heap.size) 1 _ _ HBz.out
        have z2 : X4.cell? ⟨w.heap.size, 2, none⟩ = some (.int .i64 c) := cell_of_row _ (w.heap.size) 2 _ _ _ HBz.out
        have zf2 : X4.frozen? ⟨w.heap.size, 2, none⟩ = false := frozen_of_row _ (w.heap.size) 2 _ _ HBz.out
        have z3 : X4.cell? ⟨w.heap.size, 3, none⟩ = some (.slice (some ⟨br, offr, none⟩) rs.length capr) := cell_of_row _ (w.heap.size) 3 _ _ _ HBz.out
        have zf3 : X4.frozen? ⟨w.heap.size, 3, none⟩ = false := frozen_of_row _ (w.heap.size) 3 _ _ HBz.out
        have e0 : X4.cell? ⟨B + 1, 0, none⟩ = some (.int .i64 0) := cell_of_row _ (B + 1) 0 _ _ _ HBe.out
        have ef0 : X4.frozen? ⟨B + 1, 0, none⟩ = false := frozen_of_row _ (B + 1) 0 _ _ HBe.out
        go_wp2_with fail
        refine (prog_low N _ ((k : Int) + 1) xs _ (Hv.out.keepb HW.out) Hok.out (by omega) (by omega)).mono ?_
        rintro e w5 ⟨rfl, hb5⟩
        rw [show ((k : Int) + 1).toNat = k + 1 by omega]
        clear z0 zf0 z1 zf1 z2 zf2 z3 zf3
        clear e0 ef0
        replace HBz := Lib.hid (hp_keep4 HBz.out hb5)
        replace HBr := Lib.hid (hp_keep4 HBr.out hb5)
        replace HBs := Lib.hid (hp_keep4 HBs.out hb5)
        replace HBe := Lib.hid (hp_keep4 HBe.out hb5)
        replace HBx := Lib.hid (hp_keep4 HBx.out hb5)
        replace HW := Lib.hid (bt HW.out hb5)
        clear hb5
        go_wp2_with fail
        refine (pr_of (lowF N xs (k + 1)) _ Hlow.out).mono ?_
        rintro e w6 ⟨h, hbb⟩
        obtain ⟨fp, fq, ef, hef, rfl⟩ := re_open h
        clear h
        replace HBz := Lib.hid (hp_keep4 HBz.out hbb)
        replace HBr := Lib.hid (hp_keep4 HBr.out hbb)
        replace HBs := Lib.hid (hp_keep4 HBs.out hbb)
        replace HBe := Lib.hid (hp_keep4 HBe.out hbb)
        replace HBx := Lib.hid (hp_keep4 HBx.out hbb)
        replace HW := Lib.hid (bt HW.out hbb)
        clear hbb
        go_wp2_with fail
        refine (then_of fp fq ef (B + 1) w6 HBe.out).mono ?_
        rintro e w7 ⟨rfl, hqe, hgr⟩
        replace HBz := Lib.hid (hp_gr HBz.out hgr (by omega))
        replace HBr := Lib.hid (hp_gr HBr.out hgr (by omega))
        replace HBs := Lib.hid (hp_gr HBs.out hgr (by omega))
        replace HBx := Lib.hid (hp_gr HBx.out hgr (by omega))
        replace HBe := Lib.hid hqe
        replace HW := Lib.hid (bw_gr HW.out hgr (by omega))
        clear hqe hgr
        have hba := (Below.refl _ w7).alloc (Nat.le_refl _) (.cells #[.int .i64 fp, .int .i64 fq] 56)
        have hqf := heap_alloc_new w7 (.cells #[.int .i64 fp, .int .i64 fq] 56)
        have hY10 : Y < w7.heap.size := hp_lt3 HBx.out
        have hqz := hp_keep4 HBz.out hba
        have hqr := hp_keep4 HBr.out hba
        have hqs := hp_keep4 HBs.out hba
        have hqe := hp_keep4 HBe.out hba
        have hqx := hp_keep4 HBx.out hba
        have hqw := bt HW.out hba
        clear hba HW HBz HBr HBs HBe HBx
        go_upto_region 10 with fail
        generalize w7.alloc (.cells #[.int .i64 fp, .int .i64 fq] 56) = X7 at *
        generalize w7.heap.size = Y1 at *
        have HBz := Lib.hid hqz
        have HBr := Lib.hid hqr
        have HBs := Lib.hid hqs
        have HBe := Lib.hid hqe
        have HBx := Lib.hid hqx
        have HBf := Lib.hid hqf
        have HW := Lib.hid hqw
        clear hqw hqz hqr hqs hqe hqx hqf
        have e0 : X7.cell? ⟨B + 1, 0, none⟩ = some (.int .i64 ef) := cell_of_row _ (B + 1) 0 _ _ _ HBe.out
        have ef0 : X7.frozen? ⟨B + 1, 0, none⟩ = false := frozen_of_row _ (B + 1) 0 _ _ HBe.out
        by_cases hx : ef = 0
        rotate_left
        · have hxc : (ef == 0) = false := by simpa using hx
          have HQ := Lib.hid (show atTo N xs c rs ps (k + 1) = ((p, q), ef) from HNX.out.trans (at1_f (f := (fp, fq)) hef hx))
          go_wp2_with fail
          go_roundw
          case rel => exact ⟨k + 1, p, q, ef, by omega, by go_num, HQ.out, HBz.out, HBr.out, HBs.out, HBe.out, HW.out⟩
          case measure => simp [intOf]; omega
        subst hx
        have HVF := Lib.hid (ofR_vr (p := (fp, fq)) hef)
        have x0 : X7.cell? ⟨Y, 0, none⟩ = some (.int .i64 E.1) := cell_of_row _ (Y) 0 _ _ _ HBx.out
        have xf0 : X7.frozen? ⟨Y, 0, none⟩ = false := frozen_of_row _ (Y) 0 _ _ HBx.out
        have x1 : X7.cell? ⟨Y, 1, none⟩ = some (.int .i64 E.2) := cell_of_row _ (Y) 1 _ _ _ HBx.out
        have xf1 : X7.frozen? ⟨Y, 1, none⟩ = false := frozen_of_row _ (Y) 1 _ _ HBx.out
        have f0 : X7.cell? ⟨Y1, 0, none⟩ = some (.int .i64 fp) := cell_of_row _ (Y1) 0 _ _ _ HBf.out
        have ff0 : X7.frozen? ⟨Y1, 0, none⟩ = false := frozen_of_row _ (Y1) 0 _ _ HBf.out
        have f1 : X7.cell? ⟨Y1, 1, none⟩ = some (.int .i64 fq) := cell_of_row _ (Y1) 1 _ _ _ HBf.out
        have ff1 : X7.frozen? ⟨Y1, 1, none⟩ = false := frozen_of_row _ (Y1) 1 _ _ HBf.out
        go_wp2_with fail
        refine (pr_sub E.1 E.2 fp fq _ HEI.out (vr_i64 HVF.out)).mono ?_
        rintro e w8 ⟨h, hbb⟩
        obtain ⟨mp, mq, em, hem, rfl⟩ := re_open h
        clear h
        replace HBz := Lib.hid (hp_keep4 HBz.out hbb)
        replace HBr := Lib.hid (hp_keep4 HBr.out hbb)
        replace HBs := Lib.hid (hp_keep4 HBs.out hbb)
        replace HBe := Lib.hid (hp_keep4 HBe.out hbb)
        replace HBx := Lib.hid (hp_keep4 HBx.out hbb)
        replace HBf := Lib.hid (hp_keep4 HBf.out hbb)
        replace HW := Lib.hid (bt HW.out hbb)
        clear hbb
        clear x0 xf0 x1 xf1
        clear f0 ff0 f1 ff1
        clear e0 ef0
        go_wp2_with fail
        refine (then_of mp mq em (B + 1) w8 HBe.out).mono ?_
        rintro e w9 ⟨rfl, hqe, hgr⟩
        replace HBz := Lib.hid (hp_gr HBz.out hgr (by omega))
        replace HBr := Lib.hid (hp_gr HBr.out hgr (by omega))
        replace HBs := Lib.hid (hp_gr HBs.out hgr (by omega))
        replace HBx := Lib.hid (hp_gr HBx.out hgr (by omega))
        replace HBf := Lib.hid (hp_gr HBf.out hgr (by omega))
        replace HBe := Lib.hid hqe
        replace HW := Lib.hid (bw_gr HW.out hgr (by omega))
        clear hqe hgr
        have x0 : w9.cell? ⟨Y, 0, none⟩ = some (.int .i64 E.1) := cell_of_row _ (Y) 0 _ _ _ HBx.out
        have xf0 : w9.frozen? ⟨Y, 0, none⟩ = false := frozen_of_row _ (Y) 0 _ _ HBx.out
        have x1 : w9.cell? ⟨Y, 1, none⟩ = some (.int .i64 E.2) := cell_of_row _ (Y) 1 _ _ _ HBx.out
        have xf1 : w9.frozen? ⟨Y, 1, none⟩ = false := frozen_of_row _ (Y) 1 _ _ HBx.out
        go_upto_region 12 with fail
        have hqz := (st2_ne (w := w9) (b := Y) (c := w.heap.size) (.int .i64 mp) (.int .i64 mq) (by omega)).trans HBz.out
        have hqr := (st2_ne (w := w9) (b := Y) (c := w.heap.size + 1) (.int .i64 mp) (.int .i64 mq) (by omega)).trans HBr.out
        have hqs := (st2_ne (w := w9) (b := Y) (c := B) (.int .i64 mp) (.int .i64 mq) (by omega)).trans HBs.out
        have hqe := (st2_ne (w := w9) (b := Y) (c := B + 1) (.int .i64 mp) (.int .i64 mq) (by omega)).trans HBe.out
        have hqx := st2_at (.int .i64 mp) (.int .i64 mq) HBx.out
        have hqf := (st2_ne (w := w9) (b := Y) (c := Y1) (.int .i64 mp) (.int .i64 mq) (by omega)).trans HBf.out
        have hqw := (HW.out.setCell (p := ⟨Y, 0, none⟩) (by show w.heap.size ≤ Y; omega) (.int .i64 mp)).setCell (p := ⟨Y, 1, none⟩) (by show w.heap.size ≤ Y; omega) (.int .i64 mq)
        clear HW HBz HBr HBs HBe HBx HBf
        generalize hgen : (w9.setCell ⟨Y, 0, none⟩ (.int .i64 mp)).setCell ⟨Y, 1, none⟩ (.int .i64 mq) = X9 at *
        clear hgen
        have HBz := Lib.hid hqz
        have HBr := Lib.hid hqr
        have HBs := Lib.hid hqs
        have HBe := Lib.hid hqe
        have HBx := Lib.hid hqx
        have HBf := Lib.hid hqf
        have HW := Lib.hid hqw
        clear hqw hqz hqr hqs hqe hqx hqf
        try clear x0 x1 xf0 xf1
        have e0 : X9.cell? ⟨B + 1, 0, none⟩ = some (.int .i64 em) := cell_of_row _ (B + 1) 0 _ _ _ HBe.out
        have ef0 : X9.frozen? ⟨B + 1, 0, none⟩ = false := frozen_of_row _ (B + 1) 0 _ _ HBe.out
        by_cases hx : em = 0
        rotate_left
        · have hxc : (em == 0) = false := by simpa using hx
          have HQ := Lib.hid (show atTo N xs c rs ps (k + 1) = ((p, q), em) from HNX.out.trans (at1_m (f := (fp, fq)) (m := (mp, mq)) hef hem hx))
          go_wp2_with fail
          go_roundw
          case rel => exact ⟨k + 1, p, q, em, by omega, by go_num, HQ.out, HBz.out, HBr.out, HBs.out, HBe.out, HW.out⟩
          case measure => simp [intOf]; omega
        subst hx
        have HVM := Lib.hid (sbR_vr (p := (mp, mq)) hem)
        have g0 := HR0.out X9 HW.out
        have z0 : X9.cell? ⟨w.heap.size, 0, none⟩ = some (.int .i64 N) := cell_of_row _ (w.heap.size) 0 _ _ _ HBz.out
        have zf0 : X9.frozen? ⟨w.heap.size, 0, none⟩ = false := frozen_of_row _ (w.heap.size) 0 _ _ HBz.out
        have z1 : X9.cell? ⟨w.heap.size, 1, none⟩ = some (.slice ao xs.length cap) := cell_of_row _ (w.heap.size) 1 _ _ _ HBz.out
        have zf1 : X9.frozen? ⟨w.heap.size, 1, none⟩ = false := frozen_of_row _ (w.heap.size) 1 _ _ HBz.out
        have z2 : X9.cell? ⟨w.heap.size, 2, none⟩ = some (.int .i64 c) := cell_of_row _ (w.heap.size) 2 _ _ _ HBz.out
        have zf2 : X9.frozen? ⟨w.heap.size, 2, none⟩ = false := frozen_of_row _ (w.heap.size) 2 _ _ HBz.out
        have z3 : X9.cell? ⟨w.heap.size, 3, none⟩ = some (.slice (some ⟨br, offr, none⟩) rs.length capr) := cell_of_row _ (w.heap.size) 3 _ _ _ HBz.out
        have zf3 : X9.frozen? ⟨w.heap.size, 3, none⟩ = false := frozen_of_row _ (w.heap.size) 3 _ _ HBz.out
        go_wp2_with fail
        refine (pr_of (gi rs k) _ Hrat.out).mono ?_
        rintro e wA ⟨h, hbb⟩
        obtain ⟨qp, qq, eq, heq, rfl⟩ := re_open h
        clear h
        replace HBz := Lib.hid (hp_keep4 HBz.out hbb)
        replace HBr := Lib.hid (hp_keep4 HBr.out hbb)
        replace HBs := Lib.hid (hp_keep4 HBs.out hbb)
        replace HBe := Lib.hid (hp_keep4 HBe.out hbb)
        replace HBx := Lib.hid (hp_keep4 HBx.out hbb)
        replace HBf := Lib.hid (hp_keep4 HBf.out hbb)
        replace HW := Lib.hid (bt HW.out hbb)
        clear hbb
        clear g0
        clear z0 zf0 z1 zf1 z2 zf2 z3 zf3
        clear e0 ef0
        go_wp2_with fail
        refine (then_of qp qq eq (B + 1) wA HBe.out).mono ?_
        rintro e wB ⟨rfl, hqe, hgr⟩
        replace HBz := Lib.hid (hp_gr HBz.out hgr (by omega))
        replace HBr := Lib.hid (hp_gr HBr.out hgr (by omega))
        replace HBs := Lib.hid (hp_gr HBs.out hgr (by omega))
        replace HBx := Lib.hid (hp_gr HBx.out hgr (by omega))
        replace HBf := Lib.hid (hp_gr HBf.out hgr (by omega))
        replace HBe := Lib.hid hqe
        replace HW := Lib.hid (bw_gr HW.out hgr (by omega))
        clear hqe hgr
        have hba := (Below.refl _ wB).alloc (Nat.le_refl _) (.cells #[.int .i64 qp, .int .i64 qq] 56)
        have hqq := heap_alloc_new wB (.cells #[.int .i64 qp, .int .i64 qq] 56)
        have hY20 : Y < wB.heap.size := hp_lt3 HBx.out
        have hY21 : Y1 < wB.heap.size := hp_lt3 HBf.out
        have hqz := hp_keep4 HBz.out hba
        have hqr := hp_keep4 HBr.out hba
        have hqs := hp_keep4 HBs.out hba
        have hqe := hp_keep4 HBe.out hba
        have hqx := hp_keep4 HBx.out hba
        have hqf := hp_keep4 HBf.out hba
        have hqw := bt HW.out hba
        clear hba HW HBz HBr HBs HBe HBx HBf
        go_upto_region 14 with fail
        generalize wB.alloc (.cells #[.int .i64 qp, .int .i64 qq] 56) = XB at *
        generalize wB.heap.size = Y2 at *
        have HBz := Lib.hid hqz
        have HBr := Lib.hid hqr
        have HBs := Lib.hid hqs
        have HBe := Lib.hid hqe
        have HBx := Lib.hid hqx
        have HBf := Lib.hid hqf
        have HBq := Lib.hid hqq
        have HW := Lib.hid hqw
        clear hqw hqz hqr hqs hqe hqx hqf hqq
        have e0 : XB.cell? ⟨B + 1, 0, none⟩ = some (.int .i64 eq) := cell_of_row _ (B + 1) 0 _ _ _ HBe.out
        have ef0 : XB.frozen? ⟨B + 1, 0, none⟩ = false := frozen_of_row _ (B + 1) 0 _ _ HBe.out
        by_cases hx : eq = 0
        rotate_left
        · have hxc : (eq == 0) = false := by simpa using hx
          have HQ := Lib.hid (show atTo N xs c rs ps (k + 1) = ((p, q), eq) from HNX.out.trans (at1_q (f := (fp, fq)) (m := (mp, mq)) (q := (qp, qq)) hef hem heq hx))
          go_wp2_with fail
          go_roundw
          case rel => exact ⟨k + 1, p, q, eq, by omega, by go_num, HQ.out, HBz.out, HBr.out, HBs.out, HBe.out, HW.out⟩
          case measure => simp [intOf]; omega
        subst hx
        have HVQ := Lib.hid (ofR_vr (p := (qp, qq)) heq)
        have x0 : XB.cell? ⟨Y, 0, none⟩ = some (.int .i64 mp) := cell_of_row _ (Y) 0 _ _ _ HBx.out
        have xf0 : XB.frozen? ⟨Y, 0, none⟩ = false := frozen_of_row _ (Y) 0 _ _ HBx.out
        have x1 : XB.cell? ⟨Y, 1, none⟩ = some (.int .i64 mq) := cell_of_row _ (Y) 1 _ _ _ HBx.out
        have xf1 : XB.frozen? ⟨Y, 1, none⟩ = false := frozen_of_row _ (Y) 1 _ _ HBx.out
        have q0 : XB.cell? ⟨Y2, 0, none⟩ = some (.int .i64 qp) := cell_of_row _ (Y2) 0 _ _ _ HBq.out
        have qf0 : XB.frozen? ⟨Y2, 0, none⟩ = false := frozen_of_row _ (Y2) 0 _ _ HBq.out
        have q1 : XB.cell? ⟨Y2, 1, none⟩ = some (.int .i64 qq) := cell_of_row _ (Y2) 1 _ _ _ HBq.out
        have qf1 : XB.frozen? ⟨Y2, 1, none⟩ = false := frozen_of_row _ (Y2) 1 _ _ HBq.out
        go_wp2_with fail
        refine (pr_mul qp qq mp mq _ (vr_i64 HVQ.out) (vr_i64 HVM.out)).mono ?_
        rintro e wC ⟨h, hbb⟩
        obtain ⟨yp, yq, ey, hey, rfl⟩ := re_open h
        clear h
        replace HBz := Lib.hid (hp_keep4 HBz.out hbb)
        replace HBr := Lib.hid (hp_keep4 HBr.out hbb)
        replace HBs := Lib.hid (hp_keep4 HBs.out hbb)
        replace HBe := Lib.hid (hp_keep4 HBe.out hbb)
        replace HBx := Lib.hid (hp_keep4 HBx.out hbb)
        replace HBf := Lib.hid (hp_keep4 HBf.out hbb)
        replace HBq := Lib.hid (hp_keep4 HBq.out hbb)
        replace HW := Lib.hid (bt HW.out hbb)
        clear hbb
        clear x0 xf0 x1 xf1
        clear q0 qf0 q1 qf1
        clear e0 ef0
        go_wp2_with fail
        refine (then_of yp yq ey (B + 1) wC HBe.out).mono ?_
        rintro e wD ⟨rfl, hqe, hgr⟩
        replace HBz := Lib.hid (hp_gr HBz.out hgr (by omega))
        replace HBr := Lib.hid (hp_gr HBr.out hgr (by omega))
        replace HBs := Lib.hid (hp_gr HBs.out hgr (by omega))
        replace HBx := Lib.hid (hp_gr HBx.out hgr (by omega))
        replace HBf := Lib.hid (hp_gr HBf.out hgr (by omega))
        replace HBq := Lib.hid (hp_gr HBq.out hgr (by omega))
        replace HBe := Lib.hid hqe
        replace HW := Lib.hid (bw_gr HW.out hgr (by omega))
        clear hqe hgr
        have x0 : wD.cell? ⟨Y, 0, none⟩ = some (.int .i64 mp) := cell_of_row _ (Y) 0 _ _ _ HBx.out
        have xf0 : wD.frozen? ⟨Y, 0, none⟩ = false := frozen_of_row _ (Y) 0 _ _ HBx.out
        have x1 : wD.cell? ⟨Y, 1, none⟩ = some (.int .i64 mq) := cell_of_row _ (Y) 1 _ _ _ HBx.out
        have xf1 : wD.frozen? ⟨Y, 1, none⟩ = false := frozen_of_row _ (Y) 1 _ _ HBx.out
        go_upto_region 16 with fail
        have hqz := (st2_ne (w := wD) (b := Y) (c := w.heap.size) (.int .i64 yp) (.int .i64 yq) (by omega)).trans HBz.out
        have hqr := (st2_ne (w := wD) (b := Y) (c := w.heap.size + 1) (.int .i64 yp) (.int .i64 yq) (by omega)).trans HBr.out
        have hqs := (st2_ne (w := wD) (b := Y) (c := B) (.int .i64 yp) (.int .i64 yq) (by omega)).trans HBs.out
        have hqe := (st2_ne (w := wD) (b := Y) (c := B + 1) (.int .i64 yp) (.int .i64 yq) (by omega)).trans HBe.out
        have hqx := st2_at (.int .i64 yp) (.int .i64 yq) HBx.out
        have hqf := (st2_ne (w := wD) (b := Y) (c := Y1) (.int .i64 yp) (.int .i64 yq) (by omega)).trans HBf.out
        have hqq := (st2_ne (w := wD) (b := Y) (c := Y2) (.int .i64 yp) (.int .i64 yq) (by omega)).trans HBq.out
        have hqw := (HW.out.setCell (p := ⟨Y, 0, none⟩) (by show w.heap.size ≤ Y; omega) (.int .i64 yp)).setCell (p := ⟨Y, 1, none⟩) (by show w.heap.size ≤ Y; omega) (.int .i64 yq)
        clear HW HBz HBr HBs HBe HBx HBf HBq
        generalize hgen : (wD.setCell ⟨Y, 0, none⟩ (.int .i64 yp)).setCell ⟨Y, 1, none⟩ (.int .i64 yq) = XD at *
        clear hgen
        have HBz := Lib.hid hqz
        have HBr := Lib.hid hqr
        have HBs := Lib.hid hqs
        have HBe := Lib.hid hqe
        have HBx := Lib.hid hqx
        have HBf := Lib.hid hqf
        have HBq := Lib.hid hqq
        have HW := Lib.hid hqw
        clear hqw hqz hqr hqs hqe hqx hqf hqq
        try clear x0 x1 xf0 xf1
        have e0 : XD.cell? ⟨B + 1, 0, none⟩ = some (.int .i64 ey) := cell_of_row _ (B + 1) 0 _ _ _ HBe.out
        have ef0 : XD.frozen? ⟨B + 1, 0, none⟩ = false := frozen_of_row _ (B + 1) 0 _ _ HBe.out
        by_cases hx : ey = 0
        rotate_left
        · have hxc : (ey == 0) = false := by simpa using hx
          have HQ := Lib.hid (show atTo N xs c rs ps (k + 1) = ((p, q), ey) from HNX.out.trans (at1_y (f := (fp, fq)) (m := (mp, mq)) (q := (qp, qq)) (y := (yp, yq)) hef hem heq hey hx))
          go_wp2_with fail
          go_roundw
          case rel => exact ⟨k + 1, p, q, ey, by omega, by go_num, HQ.out, HBz.out, HBr.out, HBs.out, HBe.out, HW.out⟩
          case measure => simp [intOf]; omega
        subst hx
        have HVY := Lib.hid (mulR_vr (p := (yp, yq)) hey)
        have s0 : XD.cell? ⟨B, 0, none⟩ = some (.int .i64 p) := cell_of_row _ (B) 0 _ _ _ HBs.out
        have sf0 : XD.frozen? ⟨B, 0, none⟩ = false := frozen_of_row _ (B) 0 _ _ HBs.out
        have s1 : XD.cell? ⟨B, 1, none⟩ = some (.int .i64 q) := cell_of_row _ (B) 1 _ _ _ HBs.out
        have sf1 : XD.frozen? ⟨B, 1, none⟩ = false := frozen_of_row _ (B) 1 _ _ HBs.out
        have x0 : XD.cell? ⟨Y, 0, none⟩ = some (.int .i64 yp) := cell_of_row _ (Y) 0 _ _ _ HBx.out
        have xf0 : XD.frozen? ⟨Y, 0, none⟩ = false := frozen_of_row _ (Y) 0 _ _ HBx.out
        have x1 : XD.cell? ⟨Y, 1, none⟩ = some (.int .i64 yq) := cell_of_row _ (Y) 1 _ _ _ HBx.out
        have xf1 : XD.frozen? ⟨Y, 1, none⟩ = false := frozen_of_row _ (Y) 1 _ _ HBx.out
        go_wp2_with fail
        refine (pr_add p q yp yq _ (vr_i64 HVS.out) (vr_i64 HVY.out)).mono ?_
        rintro e wE ⟨h, hbb⟩
        obtain ⟨np, nq, en, hen, rfl⟩ := re_open h
        clear h
        replace HBz := Lib.hid (hp_keep4 HBz.out hbb)
        replace HBr := Lib.hid (hp_keep4 HBr.out hbb)
        replace HBs := Lib.hid (hp_keep4 HBs.out hbb)
        replace HBe := Lib.hid (hp_keep4 HBe.out hbb)
        replace HBx := Lib.hid (hp_keep4 HBx.out hbb)
        replace HBf := Lib.hid (hp_keep4 HBf.out hbb)
        replace HBq := Lib.hid (hp_keep4 HBq.out hbb)
        replace HW := Lib.hid (bt HW.out hbb)
        clear hbb
        clear s0 sf0 s1 sf1
        clear x0 xf0 x1 xf1
        clear e0 ef0
        go_wp2_with fail
        refine (then_of np nq en (B + 1) wE HBe.out).mono ?_
        rintro e wF ⟨rfl, hqe, hgr⟩
        replace HBz := Lib.hid (hp_gr HBz.out hgr (by omega))
        replace HBr := Lib.hid (hp_gr HBr.out hgr (by omega))
        replace HBs := Lib.hid (hp_gr HBs.out hgr (by omega))
        replace HBx := Lib.hid (hp_gr HBx.out hgr (by omega))
        replace HBf := Lib.hid (hp_gr HBf.out hgr (by omega))
        replace HBq := Lib.hid (hp_gr HBq.out hgr (by omega))
        replace HBe := Lib.hid hqe
        replace HW := Lib.hid (bw_gr HW.out hgr (by omega))
        clear hqe hgr
        have s0 : wF.cell? ⟨B, 0, none⟩ = some (.int .i64 p) := cell_of_row _ (B) 0 _ _ _ HBs.out
        have sf0 : wF.frozen? ⟨B, 0, none⟩ = false := frozen_of_row _ (B) 0 _ _ HBs.out
        have s1 : wF.cell? ⟨B, 1, none⟩ = some (.int .i64 q) := cell_of_row _ (B) 1 _ _ _ HBs.out
        have sf1 : wF.frozen? ⟨B, 1, none⟩ = false := frozen_of_row _ (B) 1 _ _ HBs.out
        go_upto_region 18 with fail
        have hqz := (st2_ne (w := wF) (b := B) (c := w.heap.size) (.int .i64 np) (.int .i64 nq) (by omega)).trans HBz.out
        have hqr := (st2_ne (w := wF) (b := B) (c := w.heap.size + 1) (.int .i64 np) (.int .i64 nq) (by omega)).trans HBr.out
        have hqs := st2_at (.int .i64 np) (.int .i64 nq) HBs.out
        have hqe := (st2_ne (w := wF) (b := B) (c := B + 1) (.int .i64 np) (.int .i64 nq) (by omega)).trans HBe.out
        have hqx := (st2_ne (w := wF) (b := B) (c := Y) (.int .i64 np) (.int .i64 nq) (by omega)).trans HBx.out
        have hqf := (st2_ne (w := wF) (b := B) (c := Y1) (.int .i64 np) (.int .i64 nq) (by omega)).trans HBf.out
        have hqq := (st2_ne (w := wF) (b := B) (c := Y2) (.int .i64 np) (.int .i64 nq) (by omega)).trans HBq.out
        have hqw := (HW.out.setCell (p := ⟨B, 0, none⟩) (by show w.heap.size ≤ B; omega) (.int .i64 np)).setCell (p := ⟨B, 1, none⟩) (by show w.heap.size ≤ B; omega) (.int .i64 nq)
        clear HW HBz HBr HBs HBe HBx HBf HBq
        generalize hgen : (wF.setCell ⟨B, 0, none⟩ (.int .i64 np)).setCell ⟨B, 1, none⟩ (.int .i64 nq) = XF at *
        clear hgen
        have HBz := Lib.hid hqz
        have HBr := Lib.hid hqr
        have HBs := Lib.hid hqs
        have HBe := Lib.hid hqe
        have HBx := Lib.hid hqx
        have HBf := Lib.hid hqf
        have HBq := Lib.hid hqq
        have HW := Lib.hid hqw
        clear hqw hqz hqr hqs hqe hqx hqf hqq
        try clear s0 s1 sf0 sf1
        have HQ := Lib.hid (show atTo N xs c rs ps (k + 1) = ((np, nq), en) from HNX.out.trans ((at1_ok (f := (fp, fq)) (m := (mp, mq)) (q := (qp, qq)) (y := (yp, yq)) hef hem heq hey).trans hen))
        go_wp2_with fail
        go_roundw
        case rel => exact ⟨k + 1, np, nq, en, by omega, by go_num, HQ.out, HBz.out, HBr.out, HBs.out, HBe.out, HW.out⟩
        case measure => simp [intOf]; omega
end Go.Proofs.YtfphlpglgcmljaaGreat
