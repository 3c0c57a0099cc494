/- Part of the proof of priced_clears_proved: Prs. -/
import Derived.Test.YtfphlpglgcmljaaGreatXcPrd
import Derived.Test.YtfphlpglgcmljaaGreatXcWcu
import Derived.Test.YtfphlpglgcmljaaGreatXcRst2
namespace Go.Proofs.YtfphlpglgcmljaaGreat
open Go.RowKit
set_option linter.unusedVariables false
theorem ents_rst1 : Enters Tryz.prog 74 := enters_of Tryz.func74 (by kernel_rfl) rfl
theorem rx_lit {w : World} {x y : Int} {e : Nat} : RX cdRes (w.heap.size + 1) (w.alloc (.cells #[.int .i64 x, .int .i64 y] e)) (.slice (some ⟨w.heap.size, 0, none⟩) 1 1) [(x, y)] :=
 rs_litz (cs := [.int .i64 x, .int .i64 y]) rfl
theorem rssB_one (n x y : Int) : rssB n [(x, y)] = rsB n (x, y) := by unfold rssB; simp
theorem own_litz {base : Nat} {w : World} {x : Pz} (hb : base ≤ w.heap.size) {arr : Array Value} (h : arr.toList = cdPz.cells x) : OE cdPz 35 base (w.alloc (.cells arr 35)) (.slice (some ⟨w.heap.size, 0, none⟩) 1 1) [x] := by
 have h2 : arr.size = 4 := by rw [← Array.length_toList, h]; rfl
 refine ⟨rfl, .inr ⟨w.heap.size, 1, arr, rfl, hb, heap_alloc_new w _, Nat.le_refl _, by unfold maxLen; omega, by rw [h2]; rfl, ?_⟩⟩
 show arr.toList.take (1 * 4) = [x].flatMap cdPz.cells
 rw [h]
 rfl
def isT (N : Nat) (xs : List Int) (x : Nat) (s : Int) (M k : Nat) : List Bool := (List.range M).map fun i => if i < k then isF N xs x s i else false
def atT (N : Nat) (xs : List Int) (x : Nat) (s : Int) (M k : Nat) : List Int := (List.range M).map fun i => if i < k then atF N xs x s i else 0
theorem isT_all (N : Nat) (xs : List Int) (x : Nat) (s : Int) (M : Nat) : isT N xs x s M M = isLz N xs x s M := by
 unfold isT isLz
 refine List.map_congr_left fun i hi => ?_
 rw [if_pos (List.mem_range.1 hi)]
theorem atT_all (N : Nat) (xs : List Int) (x : Nat) (s : Int) (M : Nat) : atT N xs x s M M = atLz N xs x s M := by
 unfold atT atLz
 refine List.map_congr_left fun i hi => ?_
 rw [if_pos (List.mem_range.1 hi)]
theorem isT_len (N : Nat) (xs : List Int) (x : Nat) (s : Int) (M k : Nat) : (isT N xs x s M k).length = M := by simp [isT]
theorem atT_len (N : Nat) (xs : List Int) (x : Nat) (s : Int) (M k : Nat) : (atT N xs x s M k).length = M := by simp [atT]
theorem isT_set (N : Nat) (xs : List Int) (x : Nat) (s : Int) {M k : Nat} (hk : k < M) : (isT N xs x s M k).set k (isF N xs x s k) = isT N xs x s M (k + 1) := by
 refine List.ext_getElem (by simp [isT]) fun i h1 h2 => ?_
 simp only [isT, List.length_set, List.length_map, List.length_range] at h1
 rw [List.getElem_set]
 simp only [isT, List.getElem_map, List.getElem_range]
 by_cases e : k = i
 ·subst e; rw [if_pos rfl, if_pos (by omega)]
 ·rw [if_neg e]
  by_cases c : i < k
  ·rw [if_pos c, if_pos (by omega)]
  ·rw [if_neg c, if_neg (by omega)]
theorem atT_set (N : Nat) (xs : List Int) (x : Nat) (s : Int) {M k : Nat} (hk : k < M) : (atT N xs x s M k).set k (atF N xs x s k) = atT N xs x s M (k + 1) := by
 refine List.ext_getElem (by simp [atT]) fun i h1 h2 => ?_
 simp only [atT, List.length_set, List.length_map, List.length_range] at h1
 rw [List.getElem_set]
 simp only [atT, List.getElem_map, List.getElem_range]
 by_cases e : k = i
 ·subst e; rw [if_pos rfl, if_pos (by omega)]
 ·rw [if_neg e]
  by_cases c : i < k
  ·rw [if_pos c, if_pos (by omega)]
  ·rw [if_neg c, if_neg (by omega)]
theorem isT_zero (N : Nat) (xs : List Int) (x : Nat) (s : Int) (M : Nat) : isT N xs x s M 0 = List.replicate M false := by
 refine List.ext_getElem (by simp [isT]) fun i h1 h2 => ?_
 simp [isT]
theorem atT_zero (N : Nat) (xs : List Int) (x : Nat) (s : Int) (M : Nat) : atT N xs x s M 0 = List.replicate M 0 := by
 refine List.ext_getElem (by simp [atT]) fun i h1 h2 => ?_
 simp [atT]
theorem row_set {w : World} {b k t : Nat} {l : List Value} {v : Value} (h : w.heap[b]? = some (.cells l.toArray t (0, 0))) : (w.setCell ⟨b, k, none⟩ v).heap[b]? = some (.cells (l.set k v).toArray t (0, 0)) := by
 rw [heap_setCell_same _ b k _ _ _ h, List.setIfInBounds_toArray]
theorem row_fro {w : World} {b k t : Nat} {l : List Value} (h : w.heap[b]? = some (.cells l.toArray t (0, 0))) : w.frozen? ⟨b, k, none⟩ = false := frozen_of_row _ b k _ _ h
theorem anyF_isL {N : Nat} {xs : List Int} {x : Nat} {s : Int} {M : Nat} (hM : M = N + 1) : (isLz N xs x s M).any id = anyF N xs x s := by
 subst hM; unfold isLz anyF; rw [List.any_map]; rfl
theorem wpAnyH_abs {P : Program} {md : Region.Mode} {ops : Array Oper} {Q : Exit → Act → World → Prop} {S : World → Prop} {fuel : Nat} {listed : Array Bool} {a : Act} {w : World}
  (h : ∀ (F : Nat → Array Bool → Act → World → Prop) (a' : Act), F = wpAnyH P md ops Q S → a' = a → F fuel listed a' w) : wpAnyH P md ops Q S fuel listed a w := h _ _ rfl rfl
theorem st1k_ne {w : World} {b i c : Nat} (x : Value) (h : c ≠ b) : (w.setCell ⟨b, i, none⟩ x).heap[c]? = w.heap[c]? := Below.heap_setCell _ _ _ _ h
theorem hp_ne {w : World} {b c t t' : Nat} {x y : Array Value} {f f' : Nat × Nat} (h1 : w.heap[b]? = some (.cells x t f)) (h2 : w.heap[c]? = some (.cells y t' f')) (hne : t ≠ t') : b ≠ c := fun e => by
 subst e
 rw [h1] at h2
 injection h2 with h2
 injection h2 with _ h2
 exact hne h2
theorem Tryz.undBs : Tryz.prog.underlying 109 = some (.slice 4) := by kernel_rfl
theorem Tryz.infBs : (Tryz.prog.info? 4).map (fun i => (i.zero, i.size, i.bytes)) = some (some (.bool false), 1, 1) := by kernel_rfl
theorem step_make {P : Program} {ops : Array Oper} {o : Oper} {a : Act} {w : World} {K : Act → World → Prop} {Q : Exit → Act → World → Prop} {E : Prop}
  (hg : o.guard = none) (l c : Operand) (t : TypeId) (hop : o.op = Op.makeSlice t l c) (e : TypeId) (z : Value) (bytes : Nat) (ht : P.underlying t = some (.slice e)) (hi : (P.info? e).map (fun i => (i.zero, i.size, i.bytes)) = some (some z, 1, bytes)) (hz : z.cells = #[z]) (hb : bytes ≤ 8)
  (n : Nat) (L C : Int) (hl : a.eval l = .int .i64 L) (hc : a.eval c = .int .i64 C) (hL : L = (n : Int)) (hC : C = (n : Int)) (hn : n ≤ 1000)
  (h : K (a.put o.dst (.slice (some ⟨w.heap.size, 0, none⟩) n n)) (w.alloc (.cells (List.replicate n z).toArray e))) :
  if Region.wanted o (yielded ops a.tmps) = true then Oper.wp P o a w K Q else E := by
 obtain ⟨i0, hi0, hz0, hz1, hz2⟩ := info_parts hi
 subst hL hC
 have hbn : i0.bytes * n ≤ 281474976710656 := by
  have : i0.bytes * n ≤ 8 * 1000 := Nat.mul_le_mul (by omega) hn
  omega
 have hbi : (i0.bytes : Int) * (n : Int) ≤ 281474976710656 := by
  have h2 : ((i0.bytes * n : Nat) : Int) ≤ 281474976710656 := by omega
  rwa [Int.natCast_mul] at h2
 have hrun := run_make (P := P) w t e i0 z ht hi0 hz0 .i64 .i64 (n : Int) (n : Int) (by omega) (Int.le_refl _) hbi (by omega)
 rw [Int.toNat_natCast, hz1, Nat.mul_one, hz] at hrun
 have hcell : madeCells #[z] n = (List.replicate n z).toArray := by rw [← toList_madeCells_one z n]
 rw [hcell] at hrun
 have hw : Region.wanted o (yielded ops a.tmps) = true := by simp [Region.wanted, hg]
 rw [if_pos hw]
 unfold Oper.wp
 simp [execOp, hop, hl, hc, hrun, Result.andThen]
 exact h
theorem mk_rst1 (N M x ib tb sb ab xb zb IA TA B : Nat) (c s : Int) (v rv zv : Value) (xs rs ws : List Int) (w W : World) (hM : M = N + 1)
  (hi : W.heap[ib]? = some (.cells #[.slice (some ⟨IA, 0, none⟩) M M] 109 (0, 0))) (ht : W.heap[tb]? = some (.cells #[.slice (some ⟨TA, 0, none⟩) M M] 33 (0, 0)))
  (hia : W.heap[IA]? = some (.cells ((isLz N xs x s M).map Value.bool).toArray 4 (0, 0))) (hta : W.heap[TA]? = some (.cells ((atLz N xs x s M).map (Value.int .i64)).toArray 2 (0, 0)))
  (hs : W.heap[sb]? = some (.cells #[.int .i64 s] 2 (0, 0))) (ha : W.heap[ab]? = some (.cells #[.int .i64 N, zv] 32 (0, 0))) (hx : W.heap[xb]? = some (.cells #[.int .i64 x] 3 (0, 0))) (hz : W.heap[zb]? = some (.cells #[.int .i64 N, v, .int .i64 c, rv] 35 (0, 0)))
  (hW : Below w.heap.size w W) (hv : RL w.heap.size w v xs) (hr : RL w.heap.size w rv rs) (hzv : OL 63 B W zv ws) (hok : OkZ N xs) (hlr : rs.length = N) (hx1 : 1 ≤ x) (hxN : x ≤ N) :
  MkP (.func (.func 74) #[] #[.pointer (some ⟨ib, 0, none⟩), .pointer (some ⟨tb, 0, none⟩), .pointer (some ⟨sb, 0, none⟩), .pointer (some ⟨ab, 0, none⟩), .pointer (some ⟨xb, 0, none⟩), .pointer (some ⟨zb, 0, none⟩)]) W none 0 N (rG N xs c rs ws x s) :=
 ⟨_, _, rfl, ents_rst1, fun k _ hk Y hg => by
  have hr' : ∀ g, (none : Option Nat) = some g → W.heap.size ≤ g := fun g e => by cases e
  have hb := bw_gr0 hW hg hr' hW.size
  have kp : ∀ {b : Nat} {o : Obj}, W.heap[b]? = some o → Y.heap[b]? = some o := fun h => hp_gr0 h hg hr' (hp_lt3 h)
  exact prog_rst1 N M x k ib tb sb ab xb zb IA TA c s v rv zv xs rs ws Y hM (kp hi) (kp ht) (kp hia) (kp hta) (kp hs) (kp ha) (kp hx) (kp hz) (hv.keepb hb) (hr.keepb hb) (OL.rl (OL.kept hzv hg (by cases hh : zv.ownBlock with | none => exact .inl rfl | some g => exact .inr (by simp)))) hok hlr hx1 hxN hk⟩
set_option maxRecDepth 100000 in
set_option maxHeartbeats 16000000 in
theorem prog_preset (n c x tv : Int) (v rv : Value) (xs rs : List Int) (w : World) (hv : RL w.heap.size w v xs) (hr : RL w.heap.size w rv rs) :
  Calls Tryz.prog 21 #[.agg #[.int .i64 n, v, .int .i64 c, rv], .agg #[.int .i64 x, .int .i64 tv]] w fun e w' => GaP w.heap.size (presetF n xs c rs x tv) e w' ∧ Below w.heap.size w w' := by
 have Hv := Lib.hid hv
 have Hr := Lib.hid hr
 obtain ⟨ao, cap, rfl, hle, _⟩ := hv.open
 obtain ⟨aor, capr, rfl, hler, hcr⟩ := (RL.re hr).open
 have Hcr := Lib.hid hcr
 clear hv hr hcr
 have hloc := Loc.two w (.cells #[.int .i64 n, .slice ao xs.length cap, .int .i64 c, .slice aor rs.length capr] 35) (.cells #[.int .i64 x, .int .i64 tv] 48) none
 have hbw := below_grownBy hloc.grown
 have hqz : ((w.alloc (.cells #[.int .i64 n, .slice ao xs.length cap, .int .i64 c, .slice aor rs.length capr] 35)).alloc (.cells #[.int .i64 x, .int .i64 tv] 48)).heap[w.heap.size]? = some (.cells #[.int .i64 n, .slice ao xs.length cap, .int .i64 c, .slice aor rs.length capr] 35 (0, 0)) := hloc.objs 0 (by simp)
 have hqq : ((w.alloc (.cells #[.int .i64 n, .slice ao xs.length cap, .int .i64 c, .slice aor rs.length capr] 35)).alloc (.cells #[.int .i64 x, .int .i64 tv] 48)).heap[w.heap.size + 1]? = some (.cells #[.int .i64 x, .int .i64 tv] 48 (0, 0)) := hloc.objs 1 (by simp)
 clear hloc
 go_enter Tryz.func21, Tryz.ntmps21
 go_upto_region 1 with fail
 generalize ((w.alloc (.cells #[.int .i64 n, .slice ao xs.length cap, .int .i64 c, .slice aor rs.length capr] 35)).alloc (.cells #[.int .i64 x, .int .i64 tv] 48)) = X1 at *
 have HW := Lib.hid hbw
 have HBz := Lib.hid hqz
 have HBq := Lib.hid hqq
 clear hbw hqz hqq
 have z0 : X1.cell? ⟨w.heap.size, 0, none⟩ = some (.int .i64 n) := cell_of_row _ (w.heap.size) 0 _ _ _ HBz.out
 have z1 : X1.cell? ⟨w.heap.size, 1, none⟩ = some (.slice ao xs.length cap) := cell_of_row _ (w.heap.size) 1 _ _ _ HBz.out
 have z2 : X1.cell? ⟨w.heap.size, 2, none⟩ = some (.int .i64 c) := cell_of_row _ (w.heap.size) 2 _ _ _ HBz.out
 have z3 : X1.cell? ⟨w.heap.size, 3, none⟩ = some (.slice aor rs.length capr) := cell_of_row _ (w.heap.size) 3 _ _ _ HBz.out
 go_wp2_with fail
 refine (prog_pcheck n c _ _ xs rs _ (Hv.out.keepb HW.out) (Hr.out.keepb HW.out)).mono ?_
 rintro e w1 ⟨rfl, hb⟩
 clear z0 z1 z2 z3
 replace HBz := Lib.hid (hp_keep4 HBz.out hb)
 replace HBq := Lib.hid (hp_keep4 HBq.out hb)
 replace HW := Lib.hid (bt HW.out hb)
 clear hb
 cases hpz : pzB n xs c rs with
 | false =>
  rw [pzE_no hpz]
  have HF := Lib.hid (preset_bad (fun h => by rw [hpz] at h; exact absurd h.1 (by simp)) : presetF n xs c rs x tv = ([], 2))
  go_wp2_with fail
  exact bodyPost_ret (v := .tuple #[.slice none 0 0, .int .i64 2]) (by simp [results, Tryz.results21, go_sem]) rfl ⟨GaP.err HF.out _, HW.out⟩
 | true =>
  rw [pzE_yes hpz]
  obtain ⟨N, rfl, hok, hlr, hc⟩ := pzB_nat hpz
  have hN : N ≤ 10 := by have := hok.hi; omega
  have Hok := Lib.hid hok
  have Hc := Lib.hid hc
  have Hlr := Lib.hid hlr
  have HPZ := Lib.hid (show pzB N xs c rs = true from hpz)
  clear hok hlr hc hpz
  have z0 : w1.cell? ⟨w.heap.size, 0, none⟩ = some (.int .i64 N) := cell_of_row _ (w.heap.size) 0 _ _ _ HBz.out
  have z1 : w1.cell? ⟨w.heap.size, 1, none⟩ = some (.slice ao xs.length cap) := cell_of_row _ (w.heap.size) 1 _ _ _ HBz.out
  have z2 : w1.cell? ⟨w.heap.size, 2, none⟩ = some (.int .i64 c) := cell_of_row _ (w.heap.size) 2 _ _ _ HBz.out
  have z3 : w1.cell? ⟨w.heap.size, 3, none⟩ = some (.slice aor rs.length capr) := cell_of_row _ (w.heap.size) 3 _ _ _ HBz.out
  have q0 : w1.cell? ⟨w.heap.size + 1, 0, none⟩ = some (.int .i64 x) := cell_of_row _ (w.heap.size + 1) 0 _ _ _ HBq.out
  have q1 : w1.cell? ⟨w.heap.size + 1, 1, none⟩ = some (.int .i64 tv) := cell_of_row _ (w.heap.size + 1) 1 _ _ _ HBq.out
  have hba := (Below.refl _ w1).alloc (Nat.le_refl _) (.cells #[.int .i64 x, .int .i64 tv] 48)
  have HRX := Lib.hid (show RX cdRes (w1.alloc (.cells #[.int .i64 x, .int .i64 tv] 48)).heap.size (w1.alloc (.cells #[.int .i64 x, .int .i64 tv] 48)) (.slice (some ⟨w1.heap.size, 0, none⟩) 1 1) [(x, tv)] from by rw [World.size_alloc]; exact rx_lit)
  go_wp2_with fail
  refine (prog_resets N _ [(x, tv)] _ HRX.out).mono ?_
  rw [rssB_one]
  rintro e w2 ⟨rfl, hb⟩
  replace hb := bt hba hb
  clear hba HRX
  clear z0 z1 z2 z3
  clear q0 q1
  replace HBz := Lib.hid (hp_keep4 HBz.out hb)
  replace HBq := Lib.hid (hp_keep4 HBq.out hb)
  replace HW := Lib.hid (bt HW.out hb)
  clear hb
  cases hrs : rsB N (x, tv) with
  | false =>
   have HF := Lib.hid (preset_bad (fun h => by rw [hrs] at h; exact absurd h.2 (by simp)) : presetF N xs c rs x tv = ([], 2))
   go_wp2_with fail
   exact bodyPost_ret (v := .tuple #[.slice none 0 0, .int .i64 2]) (by simp [results, Tryz.results21, go_sem]) rfl ⟨GaP.err HF.out _, HW.out⟩
  | true =>
   obtain ⟨hx1, hx2, ht1, ht2⟩ : 1 ≤ x ∧ x ≤ N ∧ 0 ≤ tv ∧ tv ≤ 1048576 := by
    unfold rsB btw at hrs
    simp only [Bool.and_eq_true, decide_eq_true_eq] at hrs
    exact ⟨hrs.1.1, hrs.1.2, hrs.2.1, hrs.2.2⟩
   obtain ⟨u, rfl⟩ := Int.eq_ofNat_of_zero_le (show 0 ≤ x by omega)
   have hu1 : 1 ≤ u := by omega
   have hu2 : u ≤ N := by omega
   have HPRE := Lib.hid (show pzB N xs c rs = true ∧ rsB N ((u : Int), tv) = true from ⟨HPZ.out, hrs⟩)
   have HRV := Lib.hid (reset_val Hok.out hu1 hu2 ht1 ht2)
   have HWS := Lib.hid (rsE_ok Hok.out hu1 hu2 ht1 ht2)
   generalize mkZ N (rsE N xs u tv) = ws at *
   clear hrs hx1 hx2 ht1 ht2
   have q0 : w2.cell? ⟨w.heap.size + 1, 0, none⟩ = some (.int .i64 (u : Int)) := cell_of_row _ (w.heap.size + 1) 0 _ _ _ HBq.out
   have q1 : w2.cell? ⟨w.heap.size + 1, 1, none⟩ = some (.int .i64 tv) := cell_of_row _ (w.heap.size + 1) 1 _ _ _ HBq.out
   have hba := (Below.refl _ w2).alloc (Nat.le_refl _) (.cells #[.int .i64 (u : Int)] 3)
   have hqn := heap_alloc_new w2 (.cells #[.int .i64 (u : Int)] 3)
   have hqW := HW.out.size
   have hlz : w.heap.size < w2.heap.size := hp_lt3 HBz.out
   have hqz := hp_keep4 HBz.out hba
   have hlq : w.heap.size + 1 < w2.heap.size := hp_lt3 HBq.out
   have hqq := hp_keep4 HBq.out hba
   have hqw := bt HW.out hba
   clear hba HW HBz HBq
   go_upto_region 4 with fail
   generalize hgen : w2.alloc (.cells #[.int .i64 (u : Int)] 3) = X2 at *
   clear hgen
   generalize hgen : w2.heap.size = XB at *
   clear hgen
   have HBx := Lib.hid hqn
   have HBz := Lib.hid hqz
   have HBq := Lib.hid hqq
   have HW := Lib.hid hqw
   clear hqn hqw hqz hqq
   clear q0 q1
   have z0 : X2.cell? ⟨w.heap.size, 0, none⟩ = some (.int .i64 N) := cell_of_row _ (w.heap.size) 0 _ _ _ HBz.out
   have z1 : X2.cell? ⟨w.heap.size, 1, none⟩ = some (.slice ao xs.length cap) := cell_of_row _ (w.heap.size) 1 _ _ _ HBz.out
   have z2 : X2.cell? ⟨w.heap.size, 2, none⟩ = some (.int .i64 c) := cell_of_row _ (w.heap.size) 2 _ _ _ HBz.out
   have z3 : X2.cell? ⟨w.heap.size, 3, none⟩ = some (.slice aor rs.length capr) := cell_of_row _ (w.heap.size) 3 _ _ _ HBz.out
   have q0 : X2.cell? ⟨w.heap.size + 1, 0, none⟩ = some (.int .i64 (u : Int)) := cell_of_row _ (w.heap.size + 1) 0 _ _ _ HBq.out
   have q1 : X2.cell? ⟨w.heap.size + 1, 1, none⟩ = some (.int .i64 tv) := cell_of_row _ (w.heap.size + 1) 1 _ _ _ HBq.out
   have x0 : X2.cell? ⟨XB, 0, none⟩ = some (.int .i64 (u : Int)) := cell_of_row _ (XB) 0 _ _ _ HBx.out
   go_wp2_with fail
   refine (prog_reset N u tv _ xs _ (Hv.out.keepb HW.out)).mono ?_
   rw [HRV.out]
   rintro e w3 ⟨⟨va, he, hoa⟩, hb⟩
   obtain rfl : e = .returned (.tuple #[.agg #[.int .i64 N, va], .int .i64 0]) := he
   have hoa : OL _ _ _ _ ws := hoa
   obtain ⟨aoa, capa, rfl⟩ := owns_form hoa
   have HA := Lib.hid (OL.mono hoa (Nat.zero_le _))
   clear hoa
   clear z0 z1 z2 z3
   clear q0 q1
   clear x0
   replace HBz := Lib.hid (hp_keep4 HBz.out hb)
   replace HBq := Lib.hid (hp_keep4 HBq.out hb)
   replace HBx := Lib.hid (hp_keep4 HBx.out hb)
   replace HW := Lib.hid (bt HW.out hb)
   clear hb
   have hba := (Below.refl _ w3).alloc (Nat.le_refl _) (.cells #[.int .i64 N, .slice aoa ws.length capa] 32)
   have hqn := heap_alloc_new w3 (.cells #[.int .i64 N, .slice aoa ws.length capa] 32)
   have hqW := HW.out.size
   have hlz : w.heap.size < w3.heap.size := hp_lt3 HBz.out
   have hqz := hp_keep4 HBz.out hba
   have hlq : w.heap.size + 1 < w3.heap.size := hp_lt3 HBq.out
   have hqq := hp_keep4 HBq.out hba
   have hlx : XB < w3.heap.size := hp_lt3 HBx.out
   have hqx := hp_keep4 HBx.out hba
   have hqHA := OL.keepb HA.out hba
   have hqw := bt HW.out hba
   clear hba HW HBz HBq HBx HA
   go_upto_region 5 with fail
   generalize hgen : w3.alloc (.cells #[.int .i64 N, .slice aoa ws.length capa] 32) = X3 at *
   clear hgen
   generalize hgen : w3.heap.size = A at *
   clear hgen
   have HBa := Lib.hid hqn
   have HBz := Lib.hid hqz
   have HBq := Lib.hid hqq
   have HBx := Lib.hid hqx
   have HA := Lib.hid hqHA
   have HW := Lib.hid hqw
   clear hqn hqw hqz hqq hqx hqHA
   obtain ⟨y, hy⟩ : ∃ y, u = y + 1 := ⟨u - 1, by omega⟩
   have hxy : (u : Int) - 1 = (y : Int) := by omega
   have hyx : u - 1 = y := by omega
   have y0 : (y : Int) < (rs.length : Int) := by have := Hlr.out; omega
   have y1 : (0 : Int) ≤ (y : Int) := by omega
   obtain ⟨br, offr, rfl, hbr, hccr⟩ := Hcr.out (by have := Hlr.out; omega)
   obtain ⟨s, hs⟩ : ∃ s, gi rs y = s := ⟨_, rfl⟩
   have HSL := Lib.hid (show gi rs (u - 1) = s by rw [hyx]; exact hs)
   have e0 : X3.cell? ⟨br, offr + y, none⟩ = some (.int .i64 s) := by
    have h2 := ((bcell HW.out).1 br (offr + (y * 1 + 0)) hbr).trans (hccr y 0 (by omega) (by decide))
    rw [show offr + y = offr + (y * 1 + 0) by omega]
    rw [h2, ← hs]
    rfl
   clear hccr hs hy
   have z0 : X3.cell? ⟨w.heap.size, 0, none⟩ = some (.int .i64 N) := cell_of_row _ (w.heap.size) 0 _ _ _ HBz.out
   have z1 : X3.cell? ⟨w.heap.size, 1, none⟩ = some (.slice ao xs.length cap) := cell_of_row _ (w.heap.size) 1 _ _ _ HBz.out
   have z2 : X3.cell? ⟨w.heap.size, 2, none⟩ = some (.int .i64 c) := cell_of_row _ (w.heap.size) 2 _ _ _ HBz.out
   have z3 : X3.cell? ⟨w.heap.size, 3, none⟩ = some (.slice (some ⟨br, offr, none⟩) rs.length capr) := cell_of_row _ (w.heap.size) 3 _ _ _ HBz.out
   have x0 : X3.cell? ⟨XB, 0, none⟩ = some (.int .i64 (u : Int)) := cell_of_row _ (XB) 0 _ _ _ HBx.out
   have hba := (Below.refl _ X3).alloc (Nat.le_refl _) (.cells #[.int .i64 s] 2)
   have hqn := heap_alloc_new X3 (.cells #[.int .i64 s] 2)
   have hqW := HW.out.size
   have hlz : w.heap.size < X3.heap.size := hp_lt3 HBz.out
   have hqz := hp_keep4 HBz.out hba
   have hlq : w.heap.size + 1 < X3.heap.size := hp_lt3 HBq.out
   have hqq := hp_keep4 HBq.out hba
   have hlx : XB < X3.heap.size := hp_lt3 HBx.out
   have hqx := hp_keep4 HBx.out hba
   have hla : A < X3.heap.size := hp_lt3 HBa.out
   have hqa := hp_keep4 HBa.out hba
   have hqHA := OL.keepb HA.out hba
   have hqw := bt HW.out hba
   clear hba HW HBz HBq HBx HBa HA
   go_upto_region 8 with fail
   generalize hgen : X3.alloc (.cells #[.int .i64 s] 2) = X4 at *
   clear hgen
   generalize hgen : X3.heap.size = SB at *
   clear hgen
   have HBs := Lib.hid hqn
   have HBz := Lib.hid hqz
   have HBq := Lib.hid hqq
   have HBx := Lib.hid hqx
   have HBa := Lib.hid hqa
   have HA := Lib.hid hqHA
   have HW := Lib.hid hqw
   clear hqn hqw hqz hqq hqx hqa hqHA
   clear z0 z1 z2 z3 x0 e0
   have s0 : X4.cell? ⟨SB, 0, none⟩ = some (.int .i64 s) := cell_of_row _ (SB) 0 _ _ _ HBs.out
   by_cases hs0 : s = 0
   ·have hsb : (s == 0) = true := by simpa using hs0
    subst hs0
    have z0 : X4.cell? ⟨w.heap.size, 0, none⟩ = some (.int .i64 N) := cell_of_row _ (w.heap.size) 0 _ _ _ HBz.out
    have z1 : X4.cell? ⟨w.heap.size, 1, none⟩ = some (.slice ao xs.length cap) := cell_of_row _ (w.heap.size) 1 _ _ _ HBz.out
    have z2 : X4.cell? ⟨w.heap.size, 2, none⟩ = some (.int .i64 c) := cell_of_row _ (w.heap.size) 2 _ _ _ HBz.out
    have z3 : X4.cell? ⟨w.heap.size, 3, none⟩ = some (.slice (some ⟨br, offr, none⟩) rs.length capr) := cell_of_row _ (w.heap.size) 3 _ _ _ HBz.out
    have a0 : X4.cell? ⟨A, 0, none⟩ = some (.int .i64 N) := cell_of_row _ (A) 0 _ _ _ HBa.out
    have a1 : X4.cell? ⟨A, 1, none⟩ = some (.slice aoa ws.length capa) := cell_of_row _ (A) 1 _ _ _ HBa.out
    go_wp2_with fail
    refine (prog_on N 0 c 0 0 _ _ _ xs rs ws _ (Hv.out.keepb HW.out) (Hr.out.keepb HW.out) (OL.rl HA.out) Hok.out HWS.out Hlr.out (Nat.zero_le _) Hc.out (fun _ => ⟨rfl, rfl⟩)).mono ?_
    rintro e w6 ⟨⟨rv', he, hrv⟩, hb⟩
    clear z0 z1 z2 z3
    clear a0 a1
    clear s0
    replace HBz := Lib.hid (hp_keep4 HBz.out hb)
    replace HBq := Lib.hid (hp_keep4 HBq.out hb)
    replace HBx := Lib.hid (hp_keep4 HBx.out hb)
    replace HBa := Lib.hid (hp_keep4 HBa.out hb)
    replace HBs := Lib.hid (hp_keep4 HBs.out hb)
    replace HA := Lib.hid (OL.keepb HA.out hb)
    replace HW := Lib.hid (bt HW.out hb)
    clear hb
    rcases onF_two N xs c rs ws 0 0 0 with ⟨C, R, hQ⟩ | hQ
    rotate_left
    ·rw [hQ] at he hrv
     obtain rfl : e = .returned (.tuple #[.agg #[.int .i64 0, .slice none 0 0, .int .i64 0, rv'], .int .i64 7]) := he
     obtain ⟨ao9, cap9, rfl⟩ := owns_form hrv
     have HF := Lib.hid (preset_err HPRE.out HSL.out HRV.out hQ (by decide))
     clear hrv hQ
     have hba := (Below.refl _ w6).alloc (Nat.le_refl _) (.cells #[.int .i64 0, .slice none 0 0, .int .i64 0, .slice ao9 (pv0.rs).length cap9] 35)
     have hqn := heap_alloc_new w6 (.cells #[.int .i64 0, .slice none 0 0, .int .i64 0, .slice ao9 (pv0.rs).length cap9] 35)
     have hqW := HW.out.size
     have hlz : w.heap.size < w6.heap.size := hp_lt3 HBz.out
     have hqz := hp_keep4 HBz.out hba
     have hlq : w.heap.size + 1 < w6.heap.size := hp_lt3 HBq.out
     have hqq := hp_keep4 HBq.out hba
     have hlx : XB < w6.heap.size := hp_lt3 HBx.out
     have hqx := hp_keep4 HBx.out hba
     have hla : A < w6.heap.size := hp_lt3 HBa.out
     have hqa := hp_keep4 HBa.out hba
     have hls : SB < w6.heap.size := hp_lt3 HBs.out
     have hqs := hp_keep4 HBs.out hba
     have hqHA := OL.keepb HA.out hba
     have hqw := bt HW.out hba
     clear hba HW HBz HBq HBx HBa HBs HA
     go_upto_region 10 with fail
     generalize hgen : w6.alloc (.cells #[.int .i64 0, .slice none 0 0, .int .i64 0, .slice ao9 (pv0.rs).length cap9] 35) = X8 at *
     clear hgen
     generalize hgen : w6.heap.size = Y8 at *
     clear hgen
     have HBo := Lib.hid hqn
     have HBz := Lib.hid hqz
     have HBq := Lib.hid hqq
     have HBx := Lib.hid hqx
     have HBa := Lib.hid hqa
     have HBs := Lib.hid hqs
     have HA := Lib.hid hqHA
     have HW := Lib.hid hqw
     clear hqn hqw hqz hqq hqx hqa hqs hqHA
     have HF2 := Lib.hid (show GaP w.heap.size (presetF N xs c rs u tv) (.returned (.tuple #[.slice none 0 0, .int .i64 7])) X8 from GaP.err HF.out X8)
     go_wp2_with fail
     exact bodyPost_ret (v := .tuple #[.slice none 0 0, .int .i64 7]) (by simp [results, Tryz.results21, go_sem]) rfl ⟨HF2.out, HW.out⟩
    rw [hQ] at he hrv
    obtain rfl : e = .returned (.tuple #[.agg #[.int .i64 N, .slice aoa ws.length capa, .int .i64 C, rv'], .int .i64 0]) := he
    have hrv : OL _ _ _ rv' R := hrv
    obtain ⟨ao9, cap9, rfl⟩ := owns_form hrv
    have HF := Lib.hid (preset_one HPRE.out HSL.out HRV.out hQ)
    have HR := Lib.hid (OL.mono hrv (Nat.zero_le _))
    clear hrv hQ
    have hba := (Below.refl _ w6).alloc (Nat.le_refl _) (.cells #[.int .i64 N, .slice aoa ws.length capa, .int .i64 C, .slice ao9 R.length cap9] 35)
    have hqn := heap_alloc_new w6 (.cells #[.int .i64 N, .slice aoa ws.length capa, .int .i64 C, .slice ao9 R.length cap9] 35)
    have hqW := HW.out.size
    have hlz : w.heap.size < w6.heap.size := hp_lt3 HBz.out
    have hqz := hp_keep4 HBz.out hba
    have hlq : w.heap.size + 1 < w6.heap.size := hp_lt3 HBq.out
    have hqq := hp_keep4 HBq.out hba
    have hlx : XB < w6.heap.size := hp_lt3 HBx.out
    have hqx := hp_keep4 HBx.out hba
    have hla : A < w6.heap.size := hp_lt3 HBa.out
    have hqa := hp_keep4 HBa.out hba
    have hls : SB < w6.heap.size := hp_lt3 HBs.out
    have hqs := hp_keep4 HBs.out hba
    have hqHA := OL.keepb HA.out hba
    have hqHR := OL.keepb HR.out hba
    have hqw := bt HW.out hba
    clear hba HW HBz HBq HBx HBa HBs HA HR
    go_upto_region 12 with fail
    generalize hgen : w6.alloc (.cells #[.int .i64 N, .slice aoa ws.length capa, .int .i64 C, .slice ao9 R.length cap9] 35) = X8 at *
    clear hgen
    generalize hgen : w6.heap.size = Y8 at *
    clear hgen
    have HBo := Lib.hid hqn
    have HBz := Lib.hid hqz
    have HBq := Lib.hid hqq
    have HBx := Lib.hid hqx
    have HBa := Lib.hid hqa
    have HBs := Lib.hid hqs
    have HA := Lib.hid hqHA
    have HR := Lib.hid hqHR
    have HW := Lib.hid hqw
    clear hqn hqw hqz hqq hqx hqa hqs hqHA hqHR
    have o0 : X8.cell? ⟨Y8, 0, none⟩ = some (.int .i64 N) := cell_of_row _ (Y8) 0 _ _ _ HBo.out
    have o1 : X8.cell? ⟨Y8, 1, none⟩ = some (.slice aoa ws.length capa) := cell_of_row _ (Y8) 1 _ _ _ HBo.out
    have o2 : X8.cell? ⟨Y8, 2, none⟩ = some (.int .i64 C) := cell_of_row _ (Y8) 2 _ _ _ HBo.out
    have o3 : X8.cell? ⟨Y8, 3, none⟩ = some (.slice ao9 R.length cap9) := cell_of_row _ (Y8) 3 _ _ _ HBo.out
    have hba := (Below.refl _ X8).alloc (Nat.le_refl _) (.cells #[.int .i64 N, .slice aoa ws.length capa, .int .i64 C, .slice ao9 R.length cap9] 35)
    have HE := Lib.hid (show GaP w.heap.size (presetF N xs c rs u tv) (.returned (.tuple #[.slice (some ⟨X8.heap.size, 0, none⟩) 1 1, .int .i64 0])) (X8.alloc (.cells #[.int .i64 N, .slice aoa ws.length capa, .int .i64 C, .slice ao9 R.length cap9] 35)) ∧ Below w.heap.size w (X8.alloc (.cells #[.int .i64 N, .slice aoa ws.length capa, .int .i64 C, .slice ao9 R.length cap9] 35)) from
     ⟨GaP.ok HF.out (own_litz (x := ⟨N, .slice aoa ws.length capa, ws, C, .slice ao9 R.length cap9, R⟩) HW.out.size rfl) (LZ.snoc (x := ⟨N, .slice aoa ws.length capa, ws, C, .slice ao9 R.length cap9, R⟩) (LZ.nil _) (OL.keepb HA.out hba) (OL.keepb HR.out hba)) rfl, bt HW.out hba⟩)
    go_wp2_with fail
    exact bodyPost_ret (v := .tuple #[.slice (some ⟨X8.heap.size, 0, none⟩) 1 1, .int .i64 0]) (by simp [results, Tryz.results21, go_sem]) rfl HE.out
   have hsb : (s == 0) = false := by simpa using hs0
   have HS0 := Lib.hid hs0
   clear hs0
   obtain ⟨M, hM⟩ : ∃ M, M = N + 1 := ⟨_, rfl⟩
   have hNM : (N : Int) + 1 = (M : Int) := by omega
   have hM11 : M ≤ 11 := by omega
   have HMN := Lib.hid hM
   have hMw : IntKind.i64.wrap (M : Int) = (M : Int) := wrap_self (by omega)
   have hMw2 : wrap64 (M : Int) = (M : Int) := (wrap_w64 _).trans hMw
   clear hM
   have z0 : X4.cell? ⟨w.heap.size, 0, none⟩ = some (.int .i64 N) := cell_of_row _ (w.heap.size) 0 _ _ _ HBz.out
   have z1 : X4.cell? ⟨w.heap.size, 1, none⟩ = some (.slice ao xs.length cap) := cell_of_row _ (w.heap.size) 1 _ _ _ HBz.out
   have z2 : X4.cell? ⟨w.heap.size, 2, none⟩ = some (.int .i64 c) := cell_of_row _ (w.heap.size) 2 _ _ _ HBz.out
   have z3 : X4.cell? ⟨w.heap.size, 3, none⟩ = some (.slice (some ⟨br, offr, none⟩) rs.length capr) := cell_of_row _ (w.heap.size) 3 _ _ _ HBz.out
   go_upto_region 13 with fail
   go_cut [12, 13] (fun s12 s13 wx => ∃ tb ib TA IA, s12 = .pointer (some ⟨tb, 0, none⟩) ∧ s13 = .pointer (some ⟨ib, 0, none⟩) ∧ wx.heap[tb]? = some (.cells #[.slice (some ⟨TA, 0, none⟩) M M] 33 (0, 0)) ∧ wx.heap[ib]? = some (.cells #[.slice (some ⟨IA, 0, none⟩) M M] 109 (0, 0)) ∧ wx.heap[TA]? = some (.cells (List.replicate M (.int .i64 0)).toArray 2 (0, 0)) ∧ wx.heap[IA]? = some (.cells (List.replicate M (.bool false)).toArray 4 (0, 0)) ∧ X4.heap.size ≤ tb ∧ X4.heap.size ≤ ib ∧ X4.heap.size ≤ TA ∧ X4.heap.size ≤ IA ∧ Below X4.heap.size X4 wx)
   case first =>
    have HS := Lib.hid (fun (X : World) (hX : Below X4.heap.size X4 X) => (cell_of_row _ w.heap.size 0 _ _ _ (hp_keep4 HBz.out hX) : X.cell? ⟨w.heap.size, 0, none⟩ = some (.int .i64 N)))
    refine wp_region_noPanic ?_
    refine wp_region_held_drew (S := (fun w' => w'.cell? ⟨w.heap.size, 0, none⟩ = some (.int .i64 N))) (by kernel_rfl) z0 (fun hHeld => ?_)
    refine wpAnyH_take (i := 0) (v := ?_) rfl (by kernel_rfl) (by kernel_rfl) (by kernel_rfl) (fun _ _ _ h => h) (Or.inl ⟨by rfl, ?_⟩) (by assumption) ?_
    rotate_left
    ·intro w hSw; (try dsimp only at hSw); go_simp; (try with_reducible rfl)
    try simp only [Act.put, List.getElem_toArray, List.getElem_cons_zero, List.setIfInBounds_toArray, List.set_cons_zero, List.set_cons_succ]
    refine wpAnyH_take (i := 1) (v := ?_) rfl (by kernel_rfl) (by kernel_rfl) (by kernel_rfl) (fun _ _ _ h => h) (Or.inl ⟨by rfl, ?_⟩) (by assumption) ?_
    rotate_left
    ·intro w hSw; (try dsimp only at hSw); go_simp; (try with_reducible rfl)
    try simp only [Act.put, List.getElem_toArray, List.getElem_cons_zero, List.getElem_cons_succ, List.setIfInBounds_toArray, List.set_cons_zero, List.set_cons_succ]
    refine wpAnyH_take (i := 2) (v := ?_) rfl (by kernel_rfl) (by kernel_rfl) (by kernel_rfl) (fun _ _ _ h => h) (Or.inl ⟨by rfl, ?_⟩) (by assumption) ?_
    rotate_left
    ·intro w hSw; (try dsimp only at hSw); go_simp; (try with_reducible rfl)
    try simp only [Act.put, List.getElem_toArray, List.getElem_cons_zero, List.getElem_cons_succ, List.setIfInBounds_toArray, List.set_cons_zero, List.set_cons_succ]
    refine wpAnyH_take (i := 3) (v := ?_) rfl (by kernel_rfl) (by kernel_rfl) (by kernel_rfl) (fun _ _ _ h => h) (Or.inl ⟨by rfl, ?_⟩) (by assumption) ?_
    rotate_left
    ·intro w hSw; (try dsimp only at hSw); go_simp; (try with_reducible rfl)
    try simp only [Act.put, List.getElem_toArray, List.getElem_cons_zero, List.getElem_cons_succ, List.setIfInBounds_toArray, List.set_cons_zero, List.set_cons_succ]
    refine wpAnyH_take (i := 5) (v := ?_) rfl (by kernel_rfl) (by kernel_rfl) (by kernel_rfl) (fun _ _ _ h => h) (Or.inl ⟨by rfl, ?_⟩) (by assumption) ?_
    rotate_left
    ·intro w hSw; (try dsimp only at hSw); go_simp; (try with_reducible rfl)
    try simp only [Act.put, List.getElem_toArray, List.getElem_cons_zero, List.getElem_cons_succ, List.setIfInBounds_toArray, List.set_cons_zero, List.set_cons_succ]
    refine wpAnyH_take (i := 6) (v := ?_) rfl (by kernel_rfl) (by kernel_rfl) (by kernel_rfl) (fun _ _ _ h => h) (Or.inl ⟨by rfl, ?_⟩) (by assumption) ?_
    rotate_left
    ·intro w hSw; (try dsimp only at hSw); go_simp; (try with_reducible rfl)
    try simp only [Act.put, List.getElem_toArray, List.getElem_cons_zero, List.getElem_cons_succ, List.setIfInBounds_toArray, List.set_cons_zero, List.set_cons_succ]
    refine wpAnyH_take (i := 7) (v := ?_) rfl (by kernel_rfl) (by kernel_rfl) (by kernel_rfl) (fun _ _ _ h => h) (Or.inl ⟨by rfl, ?_⟩) (by assumption) ?_
    rotate_left
    ·intro w hSw; (try dsimp only at hSw); go_simp; (try with_reducible rfl)
    try simp only [Act.put, List.getElem_toArray, List.getElem_cons_zero, List.getElem_cons_succ, List.setIfInBounds_toArray, List.set_cons_zero, List.set_cons_succ]
    refine wpAnyH_take (i := 8) (v := ?_) rfl (by kernel_rfl) (by kernel_rfl) (by kernel_rfl) (fun _ _ _ h => h) (Or.inl ⟨by rfl, ?_⟩) (by assumption) ?_
    rotate_left
    ·intro w hSw; (try dsimp only at hSw); go_simp; (try with_reducible rfl)
    try simp only [Act.put, List.getElem_toArray, List.getElem_cons_zero, List.getElem_cons_succ, List.setIfInBounds_toArray, List.set_cons_zero, List.set_cons_succ]
    have H0 := Lib.hid (show Below X4.heap.size X4 X4.drew from (Below.refl _ _).drew)
    clear hHeld z0 z1 z2 z3 s0
    generalize X4.drew = L0 at *
    refine wpAnyH_abs (fun F a' hF ha => ?_)
    have nd_4_9_10_11_12_13 : ∀ (TA IA tb ib : Nat) (X : World), X.heap[TA]? = some (.cells (List.replicate M (.int .i64 0)).toArray 2 (0, 0)) → X.heap[IA]? = some (.cells (List.replicate M (.bool false)).toArray 4 (0, 0)) → X.heap[tb]? = some (.cells #[.slice (some ⟨TA, 0, none⟩) M M] 33 (0, 0)) → X.heap[ib]? = some (.cells #[.slice (some ⟨IA, 0, none⟩) M M] 109 (0, 0)) → X4.heap.size ≤ TA → X4.heap.size ≤ IA → X4.heap.size ≤ tb → X4.heap.size ≤ ib → Below X4.heap.size X4 X → F 0 #[true, true, true, true, true, true, true, true, true, true, true, true, true, true] ((((a'.put (some 64) (.slice (some ⟨TA, 0, none⟩) M M)).put (some 69) (.slice (some ⟨IA, 0, none⟩) M M)).put (some 12) (.pointer (some ⟨tb, 0, none⟩))).put (some 13) (.pointer (some ⟨ib, 0, none⟩))) X := by
     intro TA IA tb ib X rTA rIA rtb rib gTA gIA gtb gib hh
     rw [hF, ha]
     try simp only [Act.put, List.setIfInBounds_toArray, List.set_cons_zero, List.set_cons_succ]
     have HTA := Lib.hid rTA
     have GTA := Lib.hid gTA
     have HIA := Lib.hid rIA
     have GIA := Lib.hid gIA
     have Htb := Lib.hid rtb
     have Gtb := Lib.hid gtb
     have Hib := Lib.hid rib
     have Gib := Lib.hid gib
     have HH := Lib.hid hh
     clear hh rTA gTA rIA gIA rtb gtb rib gib
     refine wpAnyH_done (by kernel_rfl) ?_ _
     refine NoPanic.normal ?_
     go_wp2_with fail
     go_meet
     exact ⟨tb, ib, TA, IA, rfl, rfl, Htb.out, Hib.out, HTA.out, HIA.out, Gtb.out, Gib.out, GTA.out, GIA.out, HH.out⟩
    have nd_4_9_10_11_12 : ∀ (TA IA tb ib : Nat) (X : World), X.heap[TA]? = some (.cells (List.replicate M (.int .i64 0)).toArray 2 (0, 0)) → X.heap[IA]? = some (.cells (List.replicate M (.bool false)).toArray 4 (0, 0)) → X.heap[tb]? = some (.cells #[.slice (some ⟨TA, 0, none⟩) M M] 33 (0, 0)) → X.heap[ib]? = some (.cells #[.slice none 0 0] 109 (0, 0)) → X4.heap.size ≤ TA → X4.heap.size ≤ IA → X4.heap.size ≤ tb → X4.heap.size ≤ ib → Below X4.heap.size X4 X → F 1 #[true, true, true, true, true, true, true, true, true, true, true, true, true, false] ((((a'.put (some 64) (.slice (some ⟨TA, 0, none⟩) M M)).put (some 69) (.slice (some ⟨IA, 0, none⟩) M M)).put (some 12) (.pointer (some ⟨tb, 0, none⟩))).put (some 13) (.pointer (some ⟨ib, 0, none⟩))) X := by
     intro TA IA tb ib X rTA rIA rtb rib gTA gIA gtb gib hh
     rw [hF, ha]
     try simp only [Act.put, List.setIfInBounds_toArray, List.set_cons_zero, List.set_cons_succ]
     have HTA := Lib.hid rTA
     have GTA := Lib.hid gTA
     have HIA := Lib.hid rIA
     have GIA := Lib.hid gIA
     have Htb := Lib.hid rtb
     have Gtb := Lib.hid gtb
     have Hib := Lib.hid rib
     have Gib := Lib.hid gib
     have HH := Lib.hid hh
     clear hh rTA gTA rIA gIA rtb gtb rib gib
     refine wpAnyH_ready (rs := [13]) (by kernel_rfl) (by simp) ?_
     refine AllReadyH.cons rfl (fun K hK => ?_) (AllReadyH.nil)
     ·skip
      have t0 := cell_of_row _ ib 0 _ _ _ Hib.out
      have f0 := frozen_of_row _ ib 0 _ _ Hib.out
      have hrib := st1_at (.slice (some ⟨IA, 0, none⟩) M M) Hib.out
      have hh2 := HH.out.setCell (p := ⟨ib, 0, none⟩) Gib.out (.slice (some ⟨IA, 0, none⟩) M M)
      have hrTA := (st1_ne (w := X) (b := ib) (c := TA) (.slice (some ⟨IA, 0, none⟩) M M) (hp_ne HTA.out Hib.out (by decide))).trans HTA.out
      have hrIA := (st1_ne (w := X) (b := ib) (c := IA) (.slice (some ⟨IA, 0, none⟩) M M) (hp_ne HIA.out Hib.out (by decide))).trans HIA.out
      have hrtb := (st1_ne (w := X) (b := ib) (c := tb) (.slice (some ⟨IA, 0, none⟩) M M) (hp_ne Htb.out Hib.out (by decide))).trans Htb.out
      go_simp
      refine hK.out _ _ (HS.out _ hh2) (fun hHeld2 => ?_)
      clear hK K hHeld2
      have qq := nd_4_9_10_11_12_13 TA IA tb ib _ hrTA hrIA hrtb hrib GTA.out GIA.out Gtb.out Gib.out hh2
      rw [hF, ha] at qq
      try simp only [Act.put, List.setIfInBounds_toArray, List.set_cons_zero, List.set_cons_succ] at qq
      exact qq
    have nd_4_9_10_11 : ∀ (TA IA tb ib : Nat) (X : World), X.heap[TA]? = some (.cells (List.replicate M (.int .i64 0)).toArray 2 (0, 0)) → X.heap[IA]? = some (.cells (List.replicate M (.bool false)).toArray 4 (0, 0)) → X.heap[tb]? = some (.cells #[.slice none 0 0] 33 (0, 0)) → X.heap[ib]? = some (.cells #[.slice none 0 0] 109 (0, 0)) → X4.heap.size ≤ TA → X4.heap.size ≤ IA → X4.heap.size ≤ tb → X4.heap.size ≤ ib → Below X4.heap.size X4 X → F 2 #[true, true, true, true, true, true, true, true, true, true, true, true, false, false] ((((a'.put (some 64) (.slice (some ⟨TA, 0, none⟩) M M)).put (some 69) (.slice (some ⟨IA, 0, none⟩) M M)).put (some 12) (.pointer (some ⟨tb, 0, none⟩))).put (some 13) (.pointer (some ⟨ib, 0, none⟩))) X := by
     intro TA IA tb ib X rTA rIA rtb rib gTA gIA gtb gib hh
     rw [hF, ha]
     try simp only [Act.put, List.setIfInBounds_toArray, List.set_cons_zero, List.set_cons_succ]
     have HTA := Lib.hid rTA
     have GTA := Lib.hid gTA
     have HIA := Lib.hid rIA
     have GIA := Lib.hid gIA
     have Htb := Lib.hid rtb
     have Gtb := Lib.hid gtb
     have Hib := Lib.hid rib
     have Gib := Lib.hid gib
     have HH := Lib.hid hh
     clear hh rTA gTA rIA gIA rtb gtb rib gib
     refine wpAnyH_ready (rs := [12]) (by kernel_rfl) (by simp) ?_
     refine AllReadyH.cons rfl (fun K hK => ?_) (AllReadyH.nil)
     ·skip
      have t0 := cell_of_row _ tb 0 _ _ _ Htb.out
      have f0 := frozen_of_row _ tb 0 _ _ Htb.out
      have hrtb := st1_at (.slice (some ⟨TA, 0, none⟩) M M) Htb.out
      have hh2 := HH.out.setCell (p := ⟨tb, 0, none⟩) Gtb.out (.slice (some ⟨TA, 0, none⟩) M M)
      have hrTA := (st1_ne (w := X) (b := tb) (c := TA) (.slice (some ⟨TA, 0, none⟩) M M) (hp_ne HTA.out Htb.out (by decide))).trans HTA.out
      have hrIA := (st1_ne (w := X) (b := tb) (c := IA) (.slice (some ⟨TA, 0, none⟩) M M) (hp_ne HIA.out Htb.out (by decide))).trans HIA.out
      have hrib := (st1_ne (w := X) (b := tb) (c := ib) (.slice (some ⟨TA, 0, none⟩) M M) (hp_ne Hib.out Htb.out (by decide))).trans Hib.out
      go_simp
      refine hK.out _ _ (HS.out _ hh2) (fun hHeld2 => ?_)
      clear hK K hHeld2
      have qq := nd_4_9_10_11_12 TA IA tb ib _ hrTA hrIA hrtb hrib GTA.out GIA.out Gtb.out Gib.out hh2
      rw [hF, ha] at qq
      try simp only [Act.put, List.setIfInBounds_toArray, List.set_cons_zero, List.set_cons_succ] at qq
      exact qq
    have nd_4_10_11_12 : ∀ (TA tb ib : Nat) (X : World), X.heap[TA]? = some (.cells (List.replicate M (.int .i64 0)).toArray 2 (0, 0)) → X.heap[tb]? = some (.cells #[.slice (some ⟨TA, 0, none⟩) M M] 33 (0, 0)) → X.heap[ib]? = some (.cells #[.slice none 0 0] 109 (0, 0)) → X4.heap.size ≤ TA → X4.heap.size ≤ tb → X4.heap.size ≤ ib → Below X4.heap.size X4 X → F 2 #[true, true, true, true, true, true, true, true, true, false, true, true, true, false] (((a'.put (some 64) (.slice (some ⟨TA, 0, none⟩) M M)).put (some 12) (.pointer (some ⟨tb, 0, none⟩))).put (some 13) (.pointer (some ⟨ib, 0, none⟩))) X := by
     intro TA tb ib X rTA rtb rib gTA gtb gib hh
     rw [hF, ha]
     try simp only [Act.put, List.setIfInBounds_toArray, List.set_cons_zero, List.set_cons_succ]
     have HTA := Lib.hid rTA
     have GTA := Lib.hid gTA
     have Htb := Lib.hid rtb
     have Gtb := Lib.hid gtb
     have Hib := Lib.hid rib
     have Gib := Lib.hid gib
     have HH := Lib.hid hh
     clear hh rTA gTA rtb gtb rib gib
     refine wpAnyH_ready (rs := [9]) (by kernel_rfl) (by simp) ?_
     refine AllReadyH.cons rfl (fun K hK => ?_) (AllReadyH.nil)
     ·skip
      have hba := (Below.refl _ X).alloc (Nat.le_refl _) (.cells (List.replicate M (.bool false)).toArray 4)
      have hh2 := bt HH.out hba
      have hrIA := heap_alloc_new X (.cells (List.replicate M (.bool false)).toArray 4)
      have GIA := Lib.hid HH.out.size
      have hrTA := hp_keep4 HTA.out hba
      have hrtb := hp_keep4 Htb.out hba
      have hrib := hp_keep4 Hib.out hba
      refine step_make rfl (.tmp 68) (.tmp 68) 109 rfl 4 (.bool false) 1 Tryz.undBs Tryz.infBs rfl (by decide) M _ _ rfl rfl rfl rfl (Nat.le_trans hM11 (by decide)) ?_
      refine hK.out _ _ (HS.out _ hh2) (fun hHeld2 => ?_)
      clear hK K hba hHeld2
      generalize hgen : X.heap.size = IA at *
      clear hgen
      try simp only [Act.put, List.setIfInBounds_toArray, List.set_cons_zero, List.set_cons_succ]
      have qq := nd_4_9_10_11_12 TA IA tb ib _ hrTA hrIA hrtb hrib GTA.out GIA.out Gtb.out Gib.out hh2
      rw [hF, ha] at qq
      try simp only [Act.put, List.setIfInBounds_toArray, List.set_cons_zero, List.set_cons_succ] at qq
      exact qq
    have nd_4_9_10 : ∀ (TA IA tb : Nat) (X : World), X.heap[TA]? = some (.cells (List.replicate M (.int .i64 0)).toArray 2 (0, 0)) → X.heap[IA]? = some (.cells (List.replicate M (.bool false)).toArray 4 (0, 0)) → X.heap[tb]? = some (.cells #[.slice none 0 0] 33 (0, 0)) → X4.heap.size ≤ TA → X4.heap.size ≤ IA → X4.heap.size ≤ tb → Below X4.heap.size X4 X → F 3 #[true, true, true, true, true, true, true, true, true, true, true, false, false, false] (((a'.put (some 64) (.slice (some ⟨TA, 0, none⟩) M M)).put (some 69) (.slice (some ⟨IA, 0, none⟩) M M)).put (some 12) (.pointer (some ⟨tb, 0, none⟩))) X := by
     intro TA IA tb X rTA rIA rtb gTA gIA gtb hh
     rw [hF, ha]
     try simp only [Act.put, List.setIfInBounds_toArray, List.set_cons_zero, List.set_cons_succ]
     have HTA := Lib.hid rTA
     have GTA := Lib.hid gTA
     have HIA := Lib.hid rIA
     have GIA := Lib.hid gIA
     have Htb := Lib.hid rtb
     have Gtb := Lib.hid gtb
     have HH := Lib.hid hh
     clear hh rTA gTA rIA gIA rtb gtb
     refine wpAnyH_ready (rs := [11]) (by kernel_rfl) (by simp) ?_
     refine AllReadyH.cons rfl (fun K hK => ?_) (AllReadyH.nil)
     ·skip
      have hba := (Below.refl _ X).alloc (Nat.le_refl _) (.cells #[.slice none 0 0] 109)
      have hh2 := bt HH.out hba
      have hrib := heap_alloc_new X (.cells #[.slice none 0 0] 109)
      have Gib := Lib.hid HH.out.size
      have hrTA := hp_keep4 HTA.out hba
      have hrIA := hp_keep4 HIA.out hba
      have hrtb := hp_keep4 Htb.out hba
      go_simp
      refine hK.out _ _ (HS.out _ hh2) (fun hHeld2 => ?_)
      clear hK K hba hHeld2
      generalize hgen : X.heap.size = ib at *
      clear hgen
      try simp only [List.setIfInBounds_toArray, List.set_cons_zero, List.set_cons_succ]
      have qq := nd_4_9_10_11 TA IA tb ib _ hrTA hrIA hrtb hrib GTA.out GIA.out Gtb.out Gib.out hh2
      rw [hF, ha] at qq
      try simp only [Act.put, List.setIfInBounds_toArray, List.set_cons_zero, List.set_cons_succ] at qq
      exact qq
    have nd_4_9_11 : ∀ (TA IA ib : Nat) (X : World), X.heap[TA]? = some (.cells (List.replicate M (.int .i64 0)).toArray 2 (0, 0)) → X.heap[IA]? = some (.cells (List.replicate M (.bool false)).toArray 4 (0, 0)) → X.heap[ib]? = some (.cells #[.slice none 0 0] 109 (0, 0)) → X4.heap.size ≤ TA → X4.heap.size ≤ IA → X4.heap.size ≤ ib → Below X4.heap.size X4 X → F 3 #[true, true, true, true, true, true, true, true, true, true, false, true, false, false] (((a'.put (some 64) (.slice (some ⟨TA, 0, none⟩) M M)).put (some 69) (.slice (some ⟨IA, 0, none⟩) M M)).put (some 13) (.pointer (some ⟨ib, 0, none⟩))) X := by
     intro TA IA ib X rTA rIA rib gTA gIA gib hh
     rw [hF, ha]
     try simp only [Act.put, List.setIfInBounds_toArray, List.set_cons_zero, List.set_cons_succ]
     have HTA := Lib.hid rTA
     have GTA := Lib.hid gTA
     have HIA := Lib.hid rIA
     have GIA := Lib.hid gIA
     have Hib := Lib.hid rib
     have Gib := Lib.hid gib
     have HH := Lib.hid hh
     clear hh rTA gTA rIA gIA rib gib
     refine wpAnyH_ready (rs := [10]) (by kernel_rfl) (by simp) ?_
     refine AllReadyH.cons rfl (fun K hK => ?_) (AllReadyH.nil)
     ·skip
      have hba := (Below.refl _ X).alloc (Nat.le_refl _) (.cells #[.slice none 0 0] 33)
      have hh2 := bt HH.out hba
      have hrtb := heap_alloc_new X (.cells #[.slice none 0 0] 33)
      have Gtb := Lib.hid HH.out.size
      have hrTA := hp_keep4 HTA.out hba
      have hrIA := hp_keep4 HIA.out hba
      have hrib := hp_keep4 Hib.out hba
      go_simp
      refine hK.out _ _ (HS.out _ hh2) (fun hHeld2 => ?_)
      clear hK K hba hHeld2
      generalize hgen : X.heap.size = tb at *
      clear hgen
      try simp only [List.setIfInBounds_toArray, List.set_cons_zero, List.set_cons_succ]
      have qq := nd_4_9_10_11 TA IA tb ib _ hrTA hrIA hrtb hrib GTA.out GIA.out Gtb.out Gib.out hh2
      rw [hF, ha] at qq
      try simp only [Act.put, List.setIfInBounds_toArray, List.set_cons_zero, List.set_cons_succ] at qq
      exact qq
    have nd_4_10_11 : ∀ (TA tb ib : Nat) (X : World), X.heap[TA]? = some (.cells (List.replicate M (.int .i64 0)).toArray 2 (0, 0)) → X.heap[tb]? = some (.cells #[.slice none 0 0] 33 (0, 0)) → X.heap[ib]? = some (.cells #[.slice none 0 0] 109 (0, 0)) → X4.heap.size ≤ TA → X4.heap.size ≤ tb → X4.heap.size ≤ ib → Below X4.heap.size X4 X → F 3 #[true, true, true, true, true, true, true, true, true, false, true, true, false, false] (((a'.put (some 64) (.slice (some ⟨TA, 0, none⟩) M M)).put (some 12) (.pointer (some ⟨tb, 0, none⟩))).put (some 13) (.pointer (some ⟨ib, 0, none⟩))) X := by
     intro TA tb ib X rTA rtb rib gTA gtb gib hh
     rw [hF, ha]
     try simp only [Act.put, List.setIfInBounds_toArray, List.set_cons_zero, List.set_cons_succ]
     have HTA := Lib.hid rTA
     have GTA := Lib.hid gTA
     have Htb := Lib.hid rtb
     have Gtb := Lib.hid gtb
     have Hib := Lib.hid rib
     have Gib := Lib.hid gib
     have HH := Lib.hid hh
     clear hh rTA gTA rtb gtb rib gib
     refine wpAnyH_ready (rs := [9, 12]) (by kernel_rfl) (by simp) ?_
     refine AllReadyH.cons rfl (fun K hK => ?_) (AllReadyH.cons rfl (fun K hK => ?_) (AllReadyH.nil))
     ·skip
      have hba := (Below.refl _ X).alloc (Nat.le_refl _) (.cells (List.replicate M (.bool false)).toArray 4)
      have hh2 := bt HH.out hba
      have hrIA := heap_alloc_new X (.cells (List.replicate M (.bool false)).toArray 4)
      have GIA := Lib.hid HH.out.size
      have hrTA := hp_keep4 HTA.out hba
      have hrtb := hp_keep4 Htb.out hba
      have hrib := hp_keep4 Hib.out hba
      refine step_make rfl (.tmp 68) (.tmp 68) 109 rfl 4 (.bool false) 1 Tryz.undBs Tryz.infBs rfl (by decide) M _ _ rfl rfl rfl rfl (Nat.le_trans hM11 (by decide)) ?_
      refine hK.out _ _ (HS.out _ hh2) (fun hHeld2 => ?_)
      clear hK K hba hHeld2
      generalize hgen : X.heap.size = IA at *
      clear hgen
      try simp only [Act.put, List.setIfInBounds_toArray, List.set_cons_zero, List.set_cons_succ]
      have qq := nd_4_9_10_11 TA IA tb ib _ hrTA hrIA hrtb hrib GTA.out GIA.out Gtb.out Gib.out hh2
      rw [hF, ha] at qq
      try simp only [Act.put, List.setIfInBounds_toArray, List.set_cons_zero, List.set_cons_succ] at qq
      exact qq
     ·skip
      have t0 := cell_of_row _ tb 0 _ _ _ Htb.out
      have f0 := frozen_of_row _ tb 0 _ _ Htb.out
      have hrtb := st1_at (.slice (some ⟨TA, 0, none⟩) M M) Htb.out
      have hh2 := HH.out.setCell (p := ⟨tb, 0, none⟩) Gtb.out (.slice (some ⟨TA, 0, none⟩) M M)
      have hrTA := (st1_ne (w := X) (b := tb) (c := TA) (.slice (some ⟨TA, 0, none⟩) M M) (hp_ne HTA.out Htb.out (by decide))).trans HTA.out
      have hrib := (st1_ne (w := X) (b := tb) (c := ib) (.slice (some ⟨TA, 0, none⟩) M M) (hp_ne Hib.out Htb.out (by decide))).trans Hib.out
      go_simp
      refine hK.out _ _ (HS.out _ hh2) (fun hHeld2 => ?_)
      clear hK K hHeld2
      have qq := nd_4_10_11_12 TA tb ib _ hrTA hrtb hrib GTA.out Gtb.out Gib.out hh2
      rw [hF, ha] at qq
      try simp only [Act.put, List.setIfInBounds_toArray, List.set_cons_zero, List.set_cons_succ] at qq
      exact qq
    have nd_9_10_11 : ∀ (IA tb ib : Nat) (X : World), X.heap[IA]? = some (.cells (List.replicate M (.bool false)).toArray 4 (0, 0)) → X.heap[tb]? = some (.cells #[.slice none 0 0] 33 (0, 0)) → X.heap[ib]? = some (.cells #[.slice none 0 0] 109 (0, 0)) → X4.heap.size ≤ IA → X4.heap.size ≤ tb → X4.heap.size ≤ ib → Below X4.heap.size X4 X → F 3 #[true, true, true, true, false, true, true, true, true, true, true, true, false, false] (((a'.put (some 69) (.slice (some ⟨IA, 0, none⟩) M M)).put (some 12) (.pointer (some ⟨tb, 0, none⟩))).put (some 13) (.pointer (some ⟨ib, 0, none⟩))) X := by
     intro IA tb ib X rIA rtb rib gIA gtb gib hh
     rw [hF, ha]
     try simp only [Act.put, List.setIfInBounds_toArray, List.set_cons_zero, List.set_cons_succ]
     have HIA := Lib.hid rIA
     have GIA := Lib.hid gIA
     have Htb := Lib.hid rtb
     have Gtb := Lib.hid gtb
     have Hib := Lib.hid rib
     have Gib := Lib.hid gib
     have HH := Lib.hid hh
     clear hh rIA gIA rtb gtb rib gib
     refine wpAnyH_ready (rs := [4]) (by kernel_rfl) (by simp) ?_
     refine AllReadyH.cons rfl (fun K hK => ?_) (AllReadyH.nil)
     ·skip
      have hba := (Below.refl _ X).alloc (Nat.le_refl _) (.cells (List.replicate M (.int .i64 0)).toArray 2)
      have hh2 := bt HH.out hba
      have hrTA := heap_alloc_new X (.cells (List.replicate M (.int .i64 0)).toArray 2)
      have GTA := Lib.hid HH.out.size
      have hrIA := hp_keep4 HIA.out hba
      have hrtb := hp_keep4 Htb.out hba
      have hrib := hp_keep4 Hib.out hba
      refine step_make rfl (.tmp 63) (.tmp 63) 33 rfl 2 (.int .i64 0) 8 Tryz.undL64 Tryz.infL64 rfl (by decide) M _ _ rfl rfl rfl rfl (Nat.le_trans hM11 (by decide)) ?_
      refine hK.out _ _ (HS.out _ hh2) (fun hHeld2 => ?_)
      clear hK K hba hHeld2
      generalize hgen : X.heap.size = TA at *
      clear hgen
      try simp only [Act.put, List.setIfInBounds_toArray, List.set_cons_zero, List.set_cons_succ]
      have qq := nd_4_9_10_11 TA IA tb ib _ hrTA hrIA hrtb hrib GTA.out GIA.out Gtb.out Gib.out hh2
      rw [hF, ha] at qq
      try simp only [Act.put, List.setIfInBounds_toArray, List.set_cons_zero, List.set_cons_succ] at qq
      exact qq
    have nd_4_9 : ∀ (TA IA : Nat) (X : World), X.heap[TA]? = some (.cells (List.replicate M (.int .i64 0)).toArray 2 (0, 0)) → X.heap[IA]? = some (.cells (List.replicate M (.bool false)).toArray 4 (0, 0)) → X4.heap.size ≤ TA → X4.heap.size ≤ IA → Below X4.heap.size X4 X → F 4 #[true, true, true, true, true, true, true, true, true, true, false, false, false, false] ((a'.put (some 64) (.slice (some ⟨TA, 0, none⟩) M M)).put (some 69) (.slice (some ⟨IA, 0, none⟩) M M)) X := by
     intro TA IA X rTA rIA gTA gIA hh
     rw [hF, ha]
     try simp only [Act.put, List.setIfInBounds_toArray, List.set_cons_zero, List.set_cons_succ]
     have HTA := Lib.hid rTA
     have GTA := Lib.hid gTA
     have HIA := Lib.hid rIA
     have GIA := Lib.hid gIA
     have HH := Lib.hid hh
     clear hh rTA gTA rIA gIA
     refine wpAnyH_ready (rs := [10, 11]) (by kernel_rfl) (by simp) ?_
     refine AllReadyH.cons rfl (fun K hK => ?_) (AllReadyH.cons rfl (fun K hK => ?_) (AllReadyH.nil))
     ·skip
      have hba := (Below.refl _ X).alloc (Nat.le_refl _) (.cells #[.slice none 0 0] 33)
      have hh2 := bt HH.out hba
      have hrtb := heap_alloc_new X (.cells #[.slice none 0 0] 33)
      have Gtb := Lib.hid HH.out.size
      have hrTA := hp_keep4 HTA.out hba
      have hrIA := hp_keep4 HIA.out hba
      go_simp
      refine hK.out _ _ (HS.out _ hh2) (fun hHeld2 => ?_)
      clear hK K hba hHeld2
      generalize hgen : X.heap.size = tb at *
      clear hgen
      try simp only [List.setIfInBounds_toArray, List.set_cons_zero, List.set_cons_succ]
      have qq := nd_4_9_10 TA IA tb _ hrTA hrIA hrtb GTA.out GIA.out Gtb.out hh2
      rw [hF, ha] at qq
      try simp only [Act.put, List.setIfInBounds_toArray, List.set_cons_zero, List.set_cons_succ] at qq
      exact qq
     ·skip
      have hba := (Below.refl _ X).alloc (Nat.le_refl _) (.cells #[.slice none 0 0] 109)
      have hh2 := bt HH.out hba
      have hrib := heap_alloc_new X (.cells #[.slice none 0 0] 109)
      have Gib := Lib.hid HH.out.size
      have hrTA := hp_keep4 HTA.out hba
      have hrIA := hp_keep4 HIA.out hba
      go_simp
      refine hK.out _ _ (HS.out _ hh2) (fun hHeld2 => ?_)
      clear hK K hba hHeld2
      generalize hgen : X.heap.size = ib at *
      clear hgen
      try simp only [List.setIfInBounds_toArray, List.set_cons_zero, List.set_cons_succ]
      have qq := nd_4_9_11 TA IA ib _ hrTA hrIA hrib GTA.out GIA.out Gib.out hh2
      rw [hF, ha] at qq
      try simp only [Act.put, List.setIfInBounds_toArray, List.set_cons_zero, List.set_cons_succ] at qq
      exact qq
    have nd_4_10 : ∀ (TA tb : Nat) (X : World), X.heap[TA]? = some (.cells (List.replicate M (.int .i64 0)).toArray 2 (0, 0)) → X.heap[tb]? = some (.cells #[.slice none 0 0] 33 (0, 0)) → X4.heap.size ≤ TA → X4.heap.size ≤ tb → Below X4.heap.size X4 X → F 4 #[true, true, true, true, true, true, true, true, true, false, true, false, false, false] ((a'.put (some 64) (.slice (some ⟨TA, 0, none⟩) M M)).put (some 12) (.pointer (some ⟨tb, 0, none⟩))) X := by
     intro TA tb X rTA rtb gTA gtb hh
     rw [hF, ha]
     try simp only [Act.put, List.setIfInBounds_toArray, List.set_cons_zero, List.set_cons_succ]
     have HTA := Lib.hid rTA
     have GTA := Lib.hid gTA
     have Htb := Lib.hid rtb
     have Gtb := Lib.hid gtb
     have HH := Lib.hid hh
     clear hh rTA gTA rtb gtb
     refine wpAnyH_ready (rs := [9, 11]) (by kernel_rfl) (by simp) ?_
     refine AllReadyH.cons rfl (fun K hK => ?_) (AllReadyH.cons rfl (fun K hK => ?_) (AllReadyH.nil))
     ·skip
      have hba := (Below.refl _ X).alloc (Nat.le_refl _) (.cells (List.replicate M (.bool false)).toArray 4)
      have hh2 := bt HH.out hba
      have hrIA := heap_alloc_new X (.cells (List.replicate M (.bool false)).toArray 4)
      have GIA := Lib.hid HH.out.size
      have hrTA := hp_keep4 HTA.out hba
      have hrtb := hp_keep4 Htb.out hba
      refine step_make rfl (.tmp 68) (.tmp 68) 109 rfl 4 (.bool false) 1 Tryz.undBs Tryz.infBs rfl (by decide) M _ _ rfl rfl rfl rfl (Nat.le_trans hM11 (by decide)) ?_
      refine hK.out _ _ (HS.out _ hh2) (fun hHeld2 => ?_)
      clear hK K hba hHeld2
      generalize hgen : X.heap.size = IA at *
      clear hgen
      try simp only [Act.put, List.setIfInBounds_toArray, List.set_cons_zero, List.set_cons_succ]
      have qq := nd_4_9_10 TA IA tb _ hrTA hrIA hrtb GTA.out GIA.out Gtb.out hh2
      rw [hF, ha] at qq
      try simp only [Act.put, List.setIfInBounds_toArray, List.set_cons_zero, List.set_cons_succ] at qq
      exact qq
     ·skip
      have hba := (Below.refl _ X).alloc (Nat.le_refl _) (.cells #[.slice none 0 0] 109)
      have hh2 := bt HH.out hba
      have hrib := heap_alloc_new X (.cells #[.slice none 0 0] 109)
      have Gib := Lib.hid HH.out.size
      have hrTA := hp_keep4 HTA.out hba
      have hrtb := hp_keep4 Htb.out hba
      go_simp
      refine hK.out _ _ (HS.out _ hh2) (fun hHeld2 => ?_)
      clear hK K hba hHeld2
      generalize hgen : X.heap.size = ib at *
      clear hgen
      try simp only [List.setIfInBounds_toArray, List.set_cons_zero, List.set_cons_succ]
      have qq := nd_4_10_11 TA tb ib _ hrTA hrtb hrib GTA.out Gtb.out Gib.out hh2
      rw [hF, ha] at qq
      try simp only [Act.put, List.setIfInBounds_toArray, List.set_cons_zero, List.set_cons_succ] at qq
      exact qq
    have nd_4_11 : ∀ (TA ib : Nat) (X : World), X.heap[TA]? = some (.cells (List.replicate M (.int .i64 0)).toArray 2 (0, 0)) → X.heap[ib]? = some (.cells #[.slice none 0 0] 109 (0, 0)) → X4.heap.size ≤ TA → X4.heap.size ≤ ib → Below X4.heap.size X4 X → F 4 #[true, true, true, true, true, true, true, true, true, false, false, true, false, false] ((a'.put (some 64) (.slice (some ⟨TA, 0, none⟩) M M)).put (some 13) (.pointer (some ⟨ib, 0, none⟩))) X := by
     intro TA ib X rTA rib gTA gib hh
     rw [hF, ha]
     try simp only [Act.put, List.setIfInBounds_toArray, List.set_cons_zero, List.set_cons_succ]
     have HTA := Lib.hid rTA
     have GTA := Lib.hid gTA
     have Hib := Lib.hid rib
     have Gib := Lib.hid gib
     have HH := Lib.hid hh
     clear hh rTA gTA rib gib
     refine wpAnyH_ready (rs := [9, 10]) (by kernel_rfl) (by simp) ?_
     refine AllReadyH.cons rfl (fun K hK => ?_) (AllReadyH.cons rfl (fun K hK => ?_) (AllReadyH.nil))
     ·skip
      have hba := (Below.refl _ X).alloc (Nat.le_refl _) (.cells (List.replicate M (.bool false)).toArray 4)
      have hh2 := bt HH.out hba
      have hrIA := heap_alloc_new X (.cells (List.replicate M (.bool false)).toArray 4)
      have GIA := Lib.hid HH.out.size
      have hrTA := hp_keep4 HTA.out hba
      have hrib := hp_keep4 Hib.out hba
      refine step_make rfl (.tmp 68) (.tmp 68) 109 rfl 4 (.bool false) 1 Tryz.undBs Tryz.infBs rfl (by decide) M _ _ rfl rfl rfl rfl (Nat.le_trans hM11 (by decide)) ?_
      refine hK.out _ _ (HS.out _ hh2) (fun hHeld2 => ?_)
      clear hK K hba hHeld2
      generalize hgen : X.heap.size = IA at *
      clear hgen
      try simp only [Act.put, List.setIfInBounds_toArray, List.set_cons_zero, List.set_cons_succ]
      have qq := nd_4_9_11 TA IA ib _ hrTA hrIA hrib GTA.out GIA.out Gib.out hh2
      rw [hF, ha] at qq
      try simp only [Act.put, List.setIfInBounds_toArray, List.set_cons_zero, List.set_cons_succ] at qq
      exact qq
     ·skip
      have hba := (Below.refl _ X).alloc (Nat.le_refl _) (.cells #[.slice none 0 0] 33)
      have hh2 := bt HH.out hba
      have hrtb := heap_alloc_new X (.cells #[.slice none 0 0] 33)
      have Gtb := Lib.hid HH.out.size
      have hrTA := hp_keep4 HTA.out hba
      have hrib := hp_keep4 Hib.out hba
      go_simp
      refine hK.out _ _ (HS.out _ hh2) (fun hHeld2 => ?_)
      clear hK K hba hHeld2
      generalize hgen : X.heap.size = tb at *
      clear hgen
      try simp only [List.setIfInBounds_toArray, List.set_cons_zero, List.set_cons_succ]
      have qq := nd_4_10_11 TA tb ib _ hrTA hrtb hrib GTA.out Gtb.out Gib.out hh2
      rw [hF, ha] at qq
      try simp only [Act.put, List.setIfInBounds_toArray, List.set_cons_zero, List.set_cons_succ] at qq
      exact qq
    have nd_9_10 : ∀ (IA tb : Nat) (X : World), X.heap[IA]? = some (.cells (List.replicate M (.bool false)).toArray 4 (0, 0)) → X.heap[tb]? = some (.cells #[.slice none 0 0] 33 (0, 0)) → X4.heap.size ≤ IA → X4.heap.size ≤ tb → Below X4.heap.size X4 X → F 4 #[true, true, true, true, false, true, true, true, true, true, true, false, false, false] ((a'.put (some 69) (.slice (some ⟨IA, 0, none⟩) M M)).put (some 12) (.pointer (some ⟨tb, 0, none⟩))) X := by
     intro IA tb X rIA rtb gIA gtb hh
     rw [hF, ha]
     try simp only [Act.put, List.setIfInBounds_toArray, List.set_cons_zero, List.set_cons_succ]
     have HIA := Lib.hid rIA
     have GIA := Lib.hid gIA
     have Htb := Lib.hid rtb
     have Gtb := Lib.hid gtb
     have HH := Lib.hid hh
     clear hh rIA gIA rtb gtb
     refine wpAnyH_ready (rs := [4, 11]) (by kernel_rfl) (by simp) ?_
     refine AllReadyH.cons rfl (fun K hK => ?_) (AllReadyH.cons rfl (fun K hK => ?_) (AllReadyH.nil))
     ·skip
      have hba := (Below.refl _ X).alloc (Nat.le_refl _) (.cells (List.replicate M (.int .i64 0)).toArray 2)
      have hh2 := bt HH.out hba
      have hrTA := heap_alloc_new X (.cells (List.replicate M (.int .i64 0)).toArray 2)
      have GTA := Lib.hid HH.out.size
      have hrIA := hp_keep4 HIA.out hba
      have hrtb := hp_keep4 Htb.out hba
      refine step_make rfl (.tmp 63) (.tmp 63) 33 rfl 2 (.int .i64 0) 8 Tryz.undL64 Tryz.infL64 rfl (by decide) M _ _ rfl rfl rfl rfl (Nat.le_trans hM11 (by decide)) ?_
      refine hK.out _ _ (HS.out _ hh2) (fun hHeld2 => ?_)
      clear hK K hba hHeld2
      generalize hgen : X.heap.size = TA at *
      clear hgen
      try simp only [Act.put, List.setIfInBounds_toArray, List.set_cons_zero, List.set_cons_succ]
      have qq := nd_4_9_10 TA IA tb _ hrTA hrIA hrtb GTA.out GIA.out Gtb.out hh2
      rw [hF, ha] at qq
      try simp only [Act.put, List.setIfInBounds_toArray, List.set_cons_zero, List.set_cons_succ] at qq
      exact qq
     ·skip
      have hba := (Below.refl _ X).alloc (Nat.le_refl _) (.cells #[.slice none 0 0] 109)
      have hh2 := bt HH.out hba
      have hrib := heap_alloc_new X (.cells #[.slice none 0 0] 109)
      have Gib := Lib.hid HH.out.size
      have hrIA := hp_keep4 HIA.out hba
      have hrtb := hp_keep4 Htb.out hba
      go_simp
      refine hK.out _ _ (HS.out _ hh2) (fun hHeld2 => ?_)
      clear hK K hba hHeld2
      generalize hgen : X.heap.size = ib at *
      clear hgen
      try simp only [List.setIfInBounds_toArray, List.set_cons_zero, List.set_cons_succ]
      have qq := nd_9_10_11 IA tb ib _ hrIA hrtb hrib GIA.out Gtb.out Gib.out hh2
      rw [hF, ha] at qq
      try simp only [Act.put, List.setIfInBounds_toArray, List.set_cons_zero, List.set_cons_succ] at qq
      exact qq
    have nd_9_11 : ∀ (IA ib : Nat) (X : World), X.heap[IA]? = some (.cells (List.replicate M (.bool false)).toArray 4 (0, 0)) → X.heap[ib]? = some (.cells #[.slice none 0 0] 109 (0, 0)) → X4.heap.size ≤ IA → X4.heap.size ≤ ib → Below X4.heap.size X4 X → F 4 #[true, true, true, true, false, true, true, true, true, true, false, true, false, false] ((a'.put (some 69) (.slice (some ⟨IA, 0, none⟩) M M)).put (some 13) (.pointer (some ⟨ib, 0, none⟩))) X := by
     intro IA ib X rIA rib gIA gib hh
     rw [hF, ha]
     try simp only [Act.put, List.setIfInBounds_toArray, List.set_cons_zero, List.set_cons_succ]
     have HIA := Lib.hid rIA
     have GIA := Lib.hid gIA
     have Hib := Lib.hid rib
     have Gib := Lib.hid gib
     have HH := Lib.hid hh
     clear hh rIA gIA rib gib
     refine wpAnyH_ready (rs := [4, 10]) (by kernel_rfl) (by simp) ?_
     refine AllReadyH.cons rfl (fun K hK => ?_) (AllReadyH.cons rfl (fun K hK => ?_) (AllReadyH.nil))
     ·skip
      have hba := (Below.refl _ X).alloc (Nat.le_refl _) (.cells (List.replicate M (.int .i64 0)).toArray 2)
      have hh2 := bt HH.out hba
      have hrTA := heap_alloc_new X (.cells (List.replicate M (.int .i64 0)).toArray 2)
      have GTA := Lib.hid HH.out.size
      have hrIA := hp_keep4 HIA.out hba
      have hrib := hp_keep4 Hib.out hba
      refine step_make rfl (.tmp 63) (.tmp 63) 33 rfl 2 (.int .i64 0) 8 Tryz.undL64 Tryz.infL64 rfl (by decide) M _ _ rfl rfl rfl rfl (Nat.le_trans hM11 (by decide)) ?_
      refine hK.out _ _ (HS.out _ hh2) (fun hHeld2 => ?_)
      clear hK K hba hHeld2
      generalize hgen : X.heap.size = TA at *
      clear hgen
      try simp only [Act.put, List.setIfInBounds_toArray, List.set_cons_zero, List.set_cons_succ]
      have qq := nd_4_9_11 TA IA ib _ hrTA hrIA hrib GTA.out GIA.out Gib.out hh2
      rw [hF, ha] at qq
      try simp only [Act.put, List.setIfInBounds_toArray, List.set_cons_zero, List.set_cons_succ] at qq
      exact qq
     ·skip
      have hba := (Below.refl _ X).alloc (Nat.le_refl _) (.cells #[.slice none 0 0] 33)
      have hh2 := bt HH.out hba
      have hrtb := heap_alloc_new X (.cells #[.slice none 0 0] 33)
      have Gtb := Lib.hid HH.out.size
      have hrIA := hp_keep4 HIA.out hba
      have hrib := hp_keep4 Hib.out hba
      go_simp
      refine hK.out _ _ (HS.out _ hh2) (fun hHeld2 => ?_)
      clear hK K hba hHeld2
      generalize hgen : X.heap.size = tb at *
      clear hgen
      try simp only [List.setIfInBounds_toArray, List.set_cons_zero, List.set_cons_succ]
      have qq := nd_9_10_11 IA tb ib _ hrIA hrtb hrib GIA.out Gtb.out Gib.out hh2
      rw [hF, ha] at qq
      try simp only [Act.put, List.setIfInBounds_toArray, List.set_cons_zero, List.set_cons_succ] at qq
      exact qq
    have nd_10_11 : ∀ (tb ib : Nat) (X : World), X.heap[tb]? = some (.cells #[.slice none 0 0] 33 (0, 0)) → X.heap[ib]? = some (.cells #[.slice none 0 0] 109 (0, 0)) → X4.heap.size ≤ tb → X4.heap.size ≤ ib → Below X4.heap.size X4 X → F 4 #[true, true, true, true, false, true, true, true, true, false, true, true, false, false] ((a'.put (some 12) (.pointer (some ⟨tb, 0, none⟩))).put (some 13) (.pointer (some ⟨ib, 0, none⟩))) X := by
     intro tb ib X rtb rib gtb gib hh
     rw [hF, ha]
     try simp only [Act.put, List.setIfInBounds_toArray, List.set_cons_zero, List.set_cons_succ]
     have Htb := Lib.hid rtb
     have Gtb := Lib.hid gtb
     have Hib := Lib.hid rib
     have Gib := Lib.hid gib
     have HH := Lib.hid hh
     clear hh rtb gtb rib gib
     refine wpAnyH_ready (rs := [4, 9]) (by kernel_rfl) (by simp) ?_
     refine AllReadyH.cons rfl (fun K hK => ?_) (AllReadyH.cons rfl (fun K hK => ?_) (AllReadyH.nil))
     ·skip
      have hba := (Below.refl _ X).alloc (Nat.le_refl _) (.cells (List.replicate M (.int .i64 0)).toArray 2)
      have hh2 := bt HH.out hba
      have hrTA := heap_alloc_new X (.cells (List.replicate M (.int .i64 0)).toArray 2)
      have GTA := Lib.hid HH.out.size
      have hrtb := hp_keep4 Htb.out hba
      have hrib := hp_keep4 Hib.out hba
      refine step_make rfl (.tmp 63) (.tmp 63) 33 rfl 2 (.int .i64 0) 8 Tryz.undL64 Tryz.infL64 rfl (by decide) M _ _ rfl rfl rfl rfl (Nat.le_trans hM11 (by decide)) ?_
      refine hK.out _ _ (HS.out _ hh2) (fun hHeld2 => ?_)
      clear hK K hba hHeld2
      generalize hgen : X.heap.size = TA at *
      clear hgen
      try simp only [Act.put, List.setIfInBounds_toArray, List.set_cons_zero, List.set_cons_succ]
      have qq := nd_4_10_11 TA tb ib _ hrTA hrtb hrib GTA.out Gtb.out Gib.out hh2
      rw [hF, ha] at qq
      try simp only [Act.put, List.setIfInBounds_toArray, List.set_cons_zero, List.set_cons_succ] at qq
      exact qq
     ·skip
      have hba := (Below.refl _ X).alloc (Nat.le_refl _) (.cells (List.replicate M (.bool false)).toArray 4)
      have hh2 := bt HH.out hba
      have hrIA := heap_alloc_new X (.cells (List.replicate M (.bool false)).toArray 4)
      have GIA := Lib.hid HH.out.size
      have hrtb := hp_keep4 Htb.out hba
      have hrib := hp_keep4 Hib.out hba
      refine step_make rfl (.tmp 68) (.tmp 68) 109 rfl 4 (.bool false) 1 Tryz.undBs Tryz.infBs rfl (by decide) M _ _ rfl rfl rfl rfl (Nat.le_trans hM11 (by decide)) ?_
      refine hK.out _ _ (HS.out _ hh2) (fun hHeld2 => ?_)
      clear hK K hba hHeld2
      generalize hgen : X.heap.size = IA at *
      clear hgen
      try simp only [Act.put, List.setIfInBounds_toArray, List.set_cons_zero, List.set_cons_succ]
      have qq := nd_9_10_11 IA tb ib _ hrIA hrtb hrib GIA.out Gtb.out Gib.out hh2
      rw [hF, ha] at qq
      try simp only [Act.put, List.setIfInBounds_toArray, List.set_cons_zero, List.set_cons_succ] at qq
      exact qq
    have nd_4 : ∀ (TA : Nat) (X : World), X.heap[TA]? = some (.cells (List.replicate M (.int .i64 0)).toArray 2 (0, 0)) → X4.heap.size ≤ TA → Below X4.heap.size X4 X → F 5 #[true, true, true, true, true, true, true, true, true, false, false, false, false, false] (a'.put (some 64) (.slice (some ⟨TA, 0, none⟩) M M)) X := by
     intro TA X rTA gTA hh
     rw [hF, ha]
     try simp only [Act.put, List.setIfInBounds_toArray, List.set_cons_zero, List.set_cons_succ]
     have HTA := Lib.hid rTA
     have GTA := Lib.hid gTA
     have HH := Lib.hid hh
     clear hh rTA gTA
     refine wpAnyH_ready (rs := [9, 10, 11]) (by kernel_rfl) (by simp) ?_
     refine AllReadyH.cons rfl (fun K hK => ?_) (AllReadyH.cons rfl (fun K hK => ?_) (AllReadyH.cons rfl (fun K hK => ?_) (AllReadyH.nil)))
     ·skip
      have hba := (Below.refl _ X).alloc (Nat.le_refl _) (.cells (List.replicate M (.bool false)).toArray 4)
      have hh2 := bt HH.out hba
      have hrIA := heap_alloc_new X (.cells (List.replicate M (.bool false)).toArray 4)
      have GIA := Lib.hid HH.out.size
      have hrTA := hp_keep4 HTA.out hba
      refine step_make rfl (.tmp 68) (.tmp 68) 109 rfl 4 (.bool false) 1 Tryz.undBs Tryz.infBs rfl (by decide) M _ _ rfl rfl rfl rfl (Nat.le_trans hM11 (by decide)) ?_
      refine hK.out _ _ (HS.out _ hh2) (fun hHeld2 => ?_)
      clear hK K hba hHeld2
      generalize hgen : X.heap.size = IA at *
      clear hgen
      try simp only [Act.put, List.setIfInBounds_toArray, List.set_cons_zero, List.set_cons_succ]
      have qq := nd_4_9 TA IA _ hrTA hrIA GTA.out GIA.out hh2
      rw [hF, ha] at qq
      try simp only [Act.put, List.setIfInBounds_toArray, List.set_cons_zero, List.set_cons_succ] at qq
      exact qq
     ·skip
      have hba := (Below.refl _ X).alloc (Nat.le_refl _) (.cells #[.slice none 0 0] 33)
      have hh2 := bt HH.out hba
      have hrtb := heap_alloc_new X (.cells #[.slice none 0 0] 33)
      have Gtb := Lib.hid HH.out.size
      have hrTA := hp_keep4 HTA.out hba
      go_simp
      refine hK.out _ _ (HS.out _ hh2) (fun hHeld2 => ?_)
      clear hK K hba hHeld2
      generalize hgen : X.heap.size = tb at *
      clear hgen
      try simp only [List.setIfInBounds_toArray, List.set_cons_zero, List.set_cons_succ]
      have qq := nd_4_10 TA tb _ hrTA hrtb GTA.out Gtb.out hh2
      rw [hF, ha] at qq
      try simp only [Act.put, List.setIfInBounds_toArray, List.set_cons_zero, List.set_cons_succ] at qq
      exact qq
     ·skip
      have hba := (Below.refl _ X).alloc (Nat.le_refl _) (.cells #[.slice none 0 0] 109)
      have hh2 := bt HH.out hba
      have hrib := heap_alloc_new X (.cells #[.slice none 0 0] 109)
      have Gib := Lib.hid HH.out.size
      have hrTA := hp_keep4 HTA.out hba
      go_simp
      refine hK.out _ _ (HS.out _ hh2) (fun hHeld2 => ?_)
      clear hK K hba hHeld2
      generalize hgen : X.heap.size = ib at *
      clear hgen
      try simp only [List.setIfInBounds_toArray, List.set_cons_zero, List.set_cons_succ]
      have qq := nd_4_11 TA ib _ hrTA hrib GTA.out Gib.out hh2
      rw [hF, ha] at qq
      try simp only [Act.put, List.setIfInBounds_toArray, List.set_cons_zero, List.set_cons_succ] at qq
      exact qq
    have nd_9 : ∀ (IA : Nat) (X : World), X.heap[IA]? = some (.cells (List.replicate M (.bool false)).toArray 4 (0, 0)) → X4.heap.size ≤ IA → Below X4.heap.size X4 X → F 5 #[true, true, true, true, false, true, true, true, true, true, false, false, false, false] (a'.put (some 69) (.slice (some ⟨IA, 0, none⟩) M M)) X := by
     intro IA X rIA gIA hh
     rw [hF, ha]
     try simp only [Act.put, List.setIfInBounds_toArray, List.set_cons_zero, List.set_cons_succ]
     have HIA := Lib.hid rIA
     have GIA := Lib.hid gIA
     have HH := Lib.hid hh
     clear hh rIA gIA
     refine wpAnyH_ready (rs := [4, 10, 11]) (by kernel_rfl) (by simp) ?_
     refine AllReadyH.cons rfl (fun K hK => ?_) (AllReadyH.cons rfl (fun K hK => ?_) (AllReadyH.cons rfl (fun K hK => ?_) (AllReadyH.nil)))
     ·skip
      have hba := (Below.refl _ X).alloc (Nat.le_refl _) (.cells (List.replicate M (.int .i64 0)).toArray 2)
      have hh2 := bt HH.out hba
      have hrTA := heap_alloc_new X (.cells (List.replicate M (.int .i64 0)).toArray 2)
      have GTA := Lib.hid HH.out.size
      have hrIA := hp_keep4 HIA.out hba
      refine step_make rfl (.tmp 63) (.tmp 63) 33 rfl 2 (.int .i64 0) 8 Tryz.undL64 Tryz.infL64 rfl (by decide) M _ _ rfl rfl rfl rfl (Nat.le_trans hM11 (by decide)) ?_
      refine hK.out _ _ (HS.out _ hh2) (fun hHeld2 => ?_)
      clear hK K hba hHeld2
      generalize hgen : X.heap.size = TA at *
      clear hgen
      try simp only [Act.put, List.setIfInBounds_toArray, List.set_cons_zero, List.set_cons_succ]
      have qq := nd_4_9 TA IA _ hrTA hrIA GTA.out GIA.out hh2
      rw [hF, ha] at qq
      try simp only [Act.put, List.setIfInBounds_toArray, List.set_cons_zero, List.set_cons_succ] at qq
      exact qq
     ·skip
      have hba := (Below.refl _ X).alloc (Nat.le_refl _) (.cells #[.slice none 0 0] 33)
      have hh2 := bt HH.out hba
      have hrtb := heap_alloc_new X (.cells #[.slice none 0 0] 33)
      have Gtb := Lib.hid HH.out.size
      have hrIA := hp_keep4 HIA.out hba
      go_simp
      refine hK.out _ _ (HS.out _ hh2) (fun hHeld2 => ?_)
      clear hK K hba hHeld2
      generalize hgen : X.heap.size = tb at *
      clear hgen
      try simp only [List.setIfInBounds_toArray, List.set_cons_zero, List.set_cons_succ]
      have qq := nd_9_10 IA tb _ hrIA hrtb GIA.out Gtb.out hh2
      rw [hF, ha] at qq
      try simp only [Act.put, List.setIfInBounds_toArray, List.set_cons_zero, List.set_cons_succ] at qq
      exact qq
     ·skip
      have hba := (Below.refl _ X).alloc (Nat.le_refl _) (.cells #[.slice none 0 0] 109)
      have hh2 := bt HH.out hba
      have hrib := heap_alloc_new X (.cells #[.slice none 0 0] 109)
      have Gib := Lib.hid HH.out.size
      have hrIA := hp_keep4 HIA.out hba
      go_simp
      refine hK.out _ _ (HS.out _ hh2) (fun hHeld2 => ?_)
      clear hK K hba hHeld2
      generalize hgen : X.heap.size = ib at *
      clear hgen
      try simp only [List.setIfInBounds_toArray, List.set_cons_zero, List.set_cons_succ]
      have qq := nd_9_11 IA ib _ hrIA hrib GIA.out Gib.out hh2
      rw [hF, ha] at qq
      try simp only [Act.put, List.setIfInBounds_toArray, List.set_cons_zero, List.set_cons_succ] at qq
      exact qq
    have nd_10 : ∀ (tb : Nat) (X : World), X.heap[tb]? = some (.cells #[.slice none 0 0] 33 (0, 0)) → X4.heap.size ≤ tb → Below X4.heap.size X4 X → F 5 #[true, true, true, true, false, true, true, true, true, false, true, false, false, false] (a'.put (some 12) (.pointer (some ⟨tb, 0, none⟩))) X := by
     intro tb X rtb gtb hh
     rw [hF, ha]
     try simp only [Act.put, List.setIfInBounds_toArray, List.set_cons_zero, List.set_cons_succ]
     have Htb := Lib.hid rtb
     have Gtb := Lib.hid gtb
     have HH := Lib.hid hh
     clear hh rtb gtb
     refine wpAnyH_ready (rs := [4, 9, 11]) (by kernel_rfl) (by simp) ?_
     refine AllReadyH.cons rfl (fun K hK => ?_) (AllReadyH.cons rfl (fun K hK => ?_) (AllReadyH.cons rfl (fun K hK => ?_) (AllReadyH.nil)))
     ·skip
      have hba := (Below.refl _ X).alloc (Nat.le_refl _) (.cells (List.replicate M (.int .i64 0)).toArray 2)
      have hh2 := bt HH.out hba
      have hrTA := heap_alloc_new X (.cells (List.replicate M (.int .i64 0)).toArray 2)
      have GTA := Lib.hid HH.out.size
      have hrtb := hp_keep4 Htb.out hba
      refine step_make rfl (.tmp 63) (.tmp 63) 33 rfl 2 (.int .i64 0) 8 Tryz.undL64 Tryz.infL64 rfl (by decide) M _ _ rfl rfl rfl rfl (Nat.le_trans hM11 (by decide)) ?_
      refine hK.out _ _ (HS.out _ hh2) (fun hHeld2 => ?_)
      clear hK K hba hHeld2
      generalize hgen : X.heap.size = TA at *
      clear hgen
      try simp only [Act.put, List.setIfInBounds_toArray, List.set_cons_zero, List.set_cons_succ]
      have qq := nd_4_10 TA tb _ hrTA hrtb GTA.out Gtb.out hh2
      rw [hF, ha] at qq
      try simp only [Act.put, List.setIfInBounds_toArray, List.set_cons_zero, List.set_cons_succ] at qq
      exact qq
     ·skip
      have hba := (Below.refl _ X).alloc (Nat.le_refl _) (.cells (List.replicate M (.bool false)).toArray 4)
      have hh2 := bt HH.out hba
      have hrIA := heap_alloc_new X (.cells (List.replicate M (.bool false)).toArray 4)
      have GIA := Lib.hid HH.out.size
      have hrtb := hp_keep4 Htb.out hba
      refine step_make rfl (.tmp 68) (.tmp 68) 109 rfl 4 (.bool false) 1 Tryz.undBs Tryz.infBs rfl (by decide) M _ _ rfl rfl rfl rfl (Nat.le_trans hM11 (by decide)) ?_
      refine hK.out _ _ (HS.out _ hh2) (fun hHeld2 => ?_)
      clear hK K hba hHeld2
      generalize hgen : X.heap.size = IA at *
      clear hgen
      try simp only [Act.put, List.setIfInBounds_toArray, List.set_cons_zero, List.set_cons_succ]
      have qq := nd_9_10 IA tb _ hrIA hrtb GIA.out Gtb.out hh2
      rw [hF, ha] at qq
      try simp only [Act.put, List.setIfInBounds_toArray, List.set_cons_zero, List.set_cons_succ] at qq
      exact qq
     ·skip
      have hba := (Below.refl _ X).alloc (Nat.le_refl _) (.cells #[.slice none 0 0] 109)
      have hh2 := bt HH.out hba
      have hrib := heap_alloc_new X (.cells #[.slice none 0 0] 109)
      have Gib := Lib.hid HH.out.size
      have hrtb := hp_keep4 Htb.out hba
      go_simp
      refine hK.out _ _ (HS.out _ hh2) (fun hHeld2 => ?_)
      clear hK K hba hHeld2
      generalize hgen : X.heap.size = ib at *
      clear hgen
      try simp only [List.setIfInBounds_toArray, List.set_cons_zero, List.set_cons_succ]
      have qq := nd_10_11 tb ib _ hrtb hrib Gtb.out Gib.out hh2
      rw [hF, ha] at qq
      try simp only [Act.put, List.setIfInBounds_toArray, List.set_cons_zero, List.set_cons_succ] at qq
      exact qq
    have nd_11 : ∀ (ib : Nat) (X : World), X.heap[ib]? = some (.cells #[.slice none 0 0] 109 (0, 0)) → X4.heap.size ≤ ib → Below X4.heap.size X4 X → F 5 #[true, true, true, true, false, true, true, true, true, false, false, true, false, false] (a'.put (some 13) (.pointer (some ⟨ib, 0, none⟩))) X := by
     intro ib X rib gib hh
     rw [hF, ha]
     try simp only [Act.put, List.setIfInBounds_toArray, List.set_cons_zero, List.set_cons_succ]
     have Hib := Lib.hid rib
     have Gib := Lib.hid gib
     have HH := Lib.hid hh
     clear hh rib gib
     refine wpAnyH_ready (rs := [4, 9, 10]) (by kernel_rfl) (by simp) ?_
     refine AllReadyH.cons rfl (fun K hK => ?_) (AllReadyH.cons rfl (fun K hK => ?_) (AllReadyH.cons rfl (fun K hK => ?_) (AllReadyH.nil)))
     ·skip
      have hba := (Below.refl _ X).alloc (Nat.le_refl _) (.cells (List.replicate M (.int .i64 0)).toArray 2)
      have hh2 := bt HH.out hba
      have hrTA := heap_alloc_new X (.cells (List.replicate M (.int .i64 0)).toArray 2)
      have GTA := Lib.hid HH.out.size
      have hrib := hp_keep4 Hib.out hba
      refine step_make rfl (.tmp 63) (.tmp 63) 33 rfl 2 (.int .i64 0) 8 Tryz.undL64 Tryz.infL64 rfl (by decide) M _ _ rfl rfl rfl rfl (Nat.le_trans hM11 (by decide)) ?_
      refine hK.out _ _ (HS.out _ hh2) (fun hHeld2 => ?_)
      clear hK K hba hHeld2
      generalize hgen : X.heap.size = TA at *
      clear hgen
      try simp only [Act.put, List.setIfInBounds_toArray, List.set_cons_zero, List.set_cons_succ]
      have qq := nd_4_11 TA ib _ hrTA hrib GTA.out Gib.out hh2
      rw [hF, ha] at qq
      try simp only [Act.put, List.setIfInBounds_toArray, List.set_cons_zero, List.set_cons_succ] at qq
      exact qq
     ·skip
      have hba := (Below.refl _ X).alloc (Nat.le_refl _) (.cells (List.replicate M (.bool false)).toArray 4)
      have hh2 := bt HH.out hba
      have hrIA := heap_alloc_new X (.cells (List.replicate M (.bool false)).toArray 4)
      have GIA := Lib.hid HH.out.size
      have hrib := hp_keep4 Hib.out hba
      refine step_make rfl (.tmp 68) (.tmp 68) 109 rfl 4 (.bool false) 1 Tryz.undBs Tryz.infBs rfl (by decide) M _ _ rfl rfl rfl rfl (Nat.le_trans hM11 (by decide)) ?_
      refine hK.out _ _ (HS.out _ hh2) (fun hHeld2 => ?_)
      clear hK K hba hHeld2
      generalize hgen : X.heap.size = IA at *
      clear hgen
      try simp only [Act.put, List.setIfInBounds_toArray, List.set_cons_zero, List.set_cons_succ]
      have qq := nd_9_11 IA ib _ hrIA hrib GIA.out Gib.out hh2
      rw [hF, ha] at qq
      try simp only [Act.put, List.setIfInBounds_toArray, List.set_cons_zero, List.set_cons_succ] at qq
      exact qq
     ·skip
      have hba := (Below.refl _ X).alloc (Nat.le_refl _) (.cells #[.slice none 0 0] 33)
      have hh2 := bt HH.out hba
      have hrtb := heap_alloc_new X (.cells #[.slice none 0 0] 33)
      have Gtb := Lib.hid HH.out.size
      have hrib := hp_keep4 Hib.out hba
      go_simp
      refine hK.out _ _ (HS.out _ hh2) (fun hHeld2 => ?_)
      clear hK K hba hHeld2
      generalize hgen : X.heap.size = tb at *
      clear hgen
      try simp only [List.setIfInBounds_toArray, List.set_cons_zero, List.set_cons_succ]
      have qq := nd_10_11 tb ib _ hrtb hrib Gtb.out Gib.out hh2
      rw [hF, ha] at qq
      try simp only [Act.put, List.setIfInBounds_toArray, List.set_cons_zero, List.set_cons_succ] at qq
      exact qq
    have nd_0 : ∀ (X : World), Below X4.heap.size X4 X → F 6 #[true, true, true, true, false, true, true, true, true, false, false, false, false, false] a' X := by
     intro  X   hh
     rw [hF, ha]
     try simp only [Act.put, List.setIfInBounds_toArray, List.set_cons_zero, List.set_cons_succ]
     have HH := Lib.hid hh
     clear hh
     refine wpAnyH_ready (rs := [4, 9, 10, 11]) (by kernel_rfl) (by simp) ?_
     refine AllReadyH.cons rfl (fun K hK => ?_) (AllReadyH.cons rfl (fun K hK => ?_) (AllReadyH.cons rfl (fun K hK => ?_) (AllReadyH.cons rfl (fun K hK => ?_) (AllReadyH.nil))))
     ·skip
      have hba := (Below.refl _ X).alloc (Nat.le_refl _) (.cells (List.replicate M (.int .i64 0)).toArray 2)
      have hh2 := bt HH.out hba
      have hrTA := heap_alloc_new X (.cells (List.replicate M (.int .i64 0)).toArray 2)
      have GTA := Lib.hid HH.out.size
      refine step_make rfl (.tmp 63) (.tmp 63) 33 rfl 2 (.int .i64 0) 8 Tryz.undL64 Tryz.infL64 rfl (by decide) M _ _ rfl rfl rfl rfl (Nat.le_trans hM11 (by decide)) ?_
      refine hK.out _ _ (HS.out _ hh2) (fun hHeld2 => ?_)
      clear hK K hba hHeld2
      generalize hgen : X.heap.size = TA at *
      clear hgen
      try simp only [Act.put, List.setIfInBounds_toArray, List.set_cons_zero, List.set_cons_succ]
      have qq := nd_4 TA _ hrTA GTA.out hh2
      rw [hF, ha] at qq
      try simp only [Act.put, List.setIfInBounds_toArray, List.set_cons_zero, List.set_cons_succ] at qq
      exact qq
     ·skip
      have hba := (Below.refl _ X).alloc (Nat.le_refl _) (.cells (List.replicate M (.bool false)).toArray 4)
      have hh2 := bt HH.out hba
      have hrIA := heap_alloc_new X (.cells (List.replicate M (.bool false)).toArray 4)
      have GIA := Lib.hid HH.out.size
      refine step_make rfl (.tmp 68) (.tmp 68) 109 rfl 4 (.bool false) 1 Tryz.undBs Tryz.infBs rfl (by decide) M _ _ rfl rfl rfl rfl (Nat.le_trans hM11 (by decide)) ?_
      refine hK.out _ _ (HS.out _ hh2) (fun hHeld2 => ?_)
      clear hK K hba hHeld2
      generalize hgen : X.heap.size = IA at *
      clear hgen
      try simp only [Act.put, List.setIfInBounds_toArray, List.set_cons_zero, List.set_cons_succ]
      have qq := nd_9 IA _ hrIA GIA.out hh2
      rw [hF, ha] at qq
      try simp only [Act.put, List.setIfInBounds_toArray, List.set_cons_zero, List.set_cons_succ] at qq
      exact qq
     ·skip
      have hba := (Below.refl _ X).alloc (Nat.le_refl _) (.cells #[.slice none 0 0] 33)
      have hh2 := bt HH.out hba
      have hrtb := heap_alloc_new X (.cells #[.slice none 0 0] 33)
      have Gtb := Lib.hid HH.out.size
      go_simp
      refine hK.out _ _ (HS.out _ hh2) (fun hHeld2 => ?_)
      clear hK K hba hHeld2
      generalize hgen : X.heap.size = tb at *
      clear hgen
      try simp only [List.setIfInBounds_toArray, List.set_cons_zero, List.set_cons_succ]
      have qq := nd_10 tb _ hrtb Gtb.out hh2
      rw [hF, ha] at qq
      try simp only [Act.put, List.setIfInBounds_toArray, List.set_cons_zero, List.set_cons_succ] at qq
      exact qq
     ·skip
      have hba := (Below.refl _ X).alloc (Nat.le_refl _) (.cells #[.slice none 0 0] 109)
      have hh2 := bt HH.out hba
      have hrib := heap_alloc_new X (.cells #[.slice none 0 0] 109)
      have Gib := Lib.hid HH.out.size
      go_simp
      refine hK.out _ _ (HS.out _ hh2) (fun hHeld2 => ?_)
      clear hK K hba hHeld2
      generalize hgen : X.heap.size = ib at *
      clear hgen
      try simp only [List.setIfInBounds_toArray, List.set_cons_zero, List.set_cons_succ]
      have qq := nd_11 ib _ hrib Gib.out hh2
      rw [hF, ha] at qq
      try simp only [Act.put, List.setIfInBounds_toArray, List.set_cons_zero, List.set_cons_succ] at qq
      exact qq
    exact nd_0 _ H0.out
   case rest =>
    obtain ⟨X5, hV5⟩ : ∃ V, V = wc := ⟨_, rfl⟩
    subst hV5
    obtain ⟨tb, ib, TA, IA, rfl, rfl, htb, hib, hta, hia, gtb, gib, gta, gia, hb⟩ := hcut
    try clear s0 z0 z1 z2 z3
    clear hMw hMw2
    have haz := hp_lt3 HBz.out
    have haq := hp_lt3 HBq.out
    have hax := hp_lt3 HBx.out
    have haa := hp_lt3 HBa.out
    have has := hp_lt3 HBs.out
    replace HBz := Lib.hid (hp_keep4 HBz.out hb)
    replace HBq := Lib.hid (hp_keep4 HBq.out hb)
    replace HBx := Lib.hid (hp_keep4 HBx.out hb)
    replace HBa := Lib.hid (hp_keep4 HBa.out hb)
    replace HBs := Lib.hid (hp_keep4 HBs.out hb)
    replace HA := Lib.hid (OL.keepb HA.out hb)
    replace HW := Lib.hid (bt HW.out hb)
    clear hb
    have HBt := Lib.hid htb
    have HBi := Lib.hid hib
    have HBT := Lib.hid (show X5.heap[TA]? = some (.cells ((atT N xs u s M 0).map (Value.int .i64)).toArray 2 (0, 0)) by rw [atT_zero, List.map_replicate]; exact hta)
    have HBI := Lib.hid (show X5.heap[IA]? = some (.cells ((isT N xs u s M 0).map Value.bool).toArray 4 (0, 0)) by rw [isT_zero, List.map_replicate]; exact hia)
    clear htb hib hta hia
    have t0 : X5.cell? ⟨tb, 0, none⟩ = some (.slice (some ⟨TA, 0, none⟩) M M) := cell_of_row _ (tb) 0 _ _ _ HBt.out
    go_wp2_with fail
    go_loopw [72] (fun i wr => ∃ k : Nat, k ≤ M ∧ i = .int .i64 k ∧ wr.heap[w.heap.size]? = some (.cells #[.int .i64 N, .slice ao xs.length cap, .int .i64 c, .slice (some ⟨br, offr, none⟩) rs.length capr] 35 (0, 0)) ∧ wr.heap[w.heap.size + 1]? = some (.cells #[.int .i64 (u : Int), .int .i64 tv] 48 (0, 0)) ∧ wr.heap[XB]? = some (.cells #[.int .i64 (u : Int)] 3 (0, 0)) ∧ wr.heap[A]? = some (.cells #[.int .i64 N, .slice aoa ws.length capa] 32 (0, 0)) ∧ wr.heap[SB]? = some (.cells #[.int .i64 s] 2 (0, 0)) ∧ wr.heap[tb]? = some (.cells #[.slice (some ⟨TA, 0, none⟩) M M] 33 (0, 0)) ∧ wr.heap[ib]? = some (.cells #[.slice (some ⟨IA, 0, none⟩) M M] 109 (0, 0)) ∧ wr.heap[TA]? = some (.cells ((atT N xs u s M k).map (Value.int .i64)).toArray 2 (0, 0)) ∧ wr.heap[IA]? = some (.cells ((isT N xs u s M k).map Value.bool).toArray 4 (0, 0)) ∧ OL 63 0 wr (.slice aoa ws.length capa) ws ∧ Below w.heap.size w wr) (fun i _ => M - (intOf i).toNat)
    case atStart => exact ⟨0, Nat.zero_le _, rfl, HBz.out, HBq.out, HBx.out, HBa.out, HBs.out, HBt.out, HBi.out, HBT.out, HBI.out, HA.out, HW.out⟩
    case round =>
     clear t0 HW HA HBT HBI HBz HBq HBx HBa HBs HBt HBi
     obtain ⟨k, hk, rfl, hz, hq, hx, ha, hs, ht, hi, hT1, hI1, hA1, hw⟩ := hrel
     have HW := Lib.hid hw
     have HA := Lib.hid hA1
     have HBT := Lib.hid hT1
     have HBI := Lib.hid hI1
     have HBz := Lib.hid hz
     have HBq := Lib.hid hq
     have HBx := Lib.hid hx
     have HBa := Lib.hid ha
     have HBs := Lib.hid hs
     have HBt := Lib.hid ht
     have HBi := Lib.hid hi
     clear hw hA1 hT1 hI1 hz hq hx ha hs ht hi
     by_cases hkM : k < M
     ·have htk : decide ((k : Int) < (M : Int)) = true := by simp; omega
      have k0 : (k : Int) < (M : Int) := by omega
      have k1 : (0 : Int) ≤ (k : Int) := by omega
      have s0 : wr.cell? ⟨SB, 0, none⟩ = some (.int .i64 s) := cell_of_row _ (SB) 0 _ _ _ HBs.out
      have gTw : w.heap.size ≤ TA := by have := haz; omega
      have gIw : w.heap.size ≤ IA := by have := haz; omega
      by_cases hs1 : s < 0
      ·have hsb2 : decide (s < 0) = true := by simpa using hs1
       have HNS := Lib.hid hs1
       clear hs1
       obtain ⟨V1, hV1⟩ : ∃ V, ent N xs u k / 2 = V := ⟨_, rfl⟩
       obtain ⟨b1, hb1⟩ : ∃ b, decide (ent N xs u k ≠ 1099511627776) = b := ⟨_, rfl⟩
       have HV1 := Lib.hid hV1
       have Hb1 := Lib.hid hb1
       clear hV1 hb1
       have t0 : wr.cell? ⟨tb, 0, none⟩ = some (.slice (some ⟨TA, 0, none⟩) M M) := cell_of_row _ (tb) 0 _ _ _ HBt.out
       have i0 : wr.cell? ⟨ib, 0, none⟩ = some (.slice (some ⟨IA, 0, none⟩) M M) := cell_of_row _ (ib) 0 _ _ _ HBi.out
       have z0 : wr.cell? ⟨w.heap.size, 0, none⟩ = some (.int .i64 N) := cell_of_row _ (w.heap.size) 0 _ _ _ HBz.out
       have z1 : wr.cell? ⟨w.heap.size, 1, none⟩ = some (.slice ao xs.length cap) := cell_of_row _ (w.heap.size) 1 _ _ _ HBz.out
       have z2 : wr.cell? ⟨w.heap.size, 2, none⟩ = some (.int .i64 c) := cell_of_row _ (w.heap.size) 2 _ _ _ HBz.out
       have z3 : wr.cell? ⟨w.heap.size, 3, none⟩ = some (.slice (some ⟨br, offr, none⟩) rs.length capr) := cell_of_row _ (w.heap.size) 3 _ _ _ HBz.out
       have x0 : wr.cell? ⟨XB, 0, none⟩ = some (.int .i64 (u : Int)) := cell_of_row _ (XB) 0 _ _ _ HBx.out
       go_upto_region 18 with fail
       refine wp_region_noPanic ?_
       refine wp_region_held_drew (S := (fun w' => w'.cell? ⟨tb, 0, none⟩ = some (.slice (some ⟨TA, 0, none⟩) M M) ∧ w'.cell? ⟨ib, 0, none⟩ = some (.slice (some ⟨IA, 0, none⟩) M M) ∧ w'.cell? ⟨XB, 0, none⟩ = some (.int .i64 u) ∧ w'.cell? ⟨w.heap.size, 0, none⟩ = some (.int .i64 N) ∧ w'.cell? ⟨w.heap.size, 1, none⟩ = some (.slice ao xs.length cap))) (by kernel_rfl) ⟨t0, i0, x0, z0, z1⟩ (fun hHeld => ?_)
       refine wpAnyH_take (i := 0) (v := ?_) rfl (by kernel_rfl) (by kernel_rfl) (by kernel_rfl) (fun _ _ _ h => h) (Or.inl ⟨by rfl, ?_⟩) (by assumption) ?_
       rotate_left
       ·intro w hSw; (try dsimp only at hSw); go_simp; (try with_reducible rfl)
       try simp only [Act.put, List.getElem_toArray, List.getElem_cons_zero, List.setIfInBounds_toArray, List.set_cons_zero, List.set_cons_succ]
       refine wpAnyH_take (i := 1) (v := ?_) rfl (by kernel_rfl) (by kernel_rfl) (by kernel_rfl) (fun _ _ _ h => h) (Or.inl ⟨by rfl, ?_⟩) (by assumption) ?_
       rotate_left
       ·intro w hSw; (try dsimp only at hSw); go_simp; (try with_reducible rfl)
       try simp only [Act.put, List.getElem_toArray, List.getElem_cons_zero, List.getElem_cons_succ, List.setIfInBounds_toArray, List.set_cons_zero, List.set_cons_succ]
       refine wpAnyH_take (i := 2) (v := ?_) rfl (by kernel_rfl) (by kernel_rfl) (by kernel_rfl) (fun _ _ _ h => h) (Or.inl ⟨by rfl, ?_⟩) (by assumption) ?_
       rotate_left
       ·intro w hSw; (try dsimp only at hSw); go_simp; (try with_reducible rfl)
       try simp only [Act.put, List.getElem_toArray, List.getElem_cons_zero, List.getElem_cons_succ, List.setIfInBounds_toArray, List.set_cons_zero, List.set_cons_succ]
       refine wpAnyH_take (i := 3) (v := ?_) rfl (by kernel_rfl) (by kernel_rfl) (by kernel_rfl) (fun _ _ _ h => h) (Or.inl ⟨by rfl, ?_⟩) (by assumption) ?_
       rotate_left
       ·intro w hSw; (try dsimp only at hSw); go_simp; (try with_reducible rfl)
       try simp only [Act.put, List.getElem_toArray, List.getElem_cons_zero, List.getElem_cons_succ, List.setIfInBounds_toArray, List.set_cons_zero, List.set_cons_succ]
       refine wpAnyH_take (i := 4) (v := ?_) rfl (by kernel_rfl) (by kernel_rfl) (by kernel_rfl) (fun _ _ _ h => h) (Or.inl ⟨by rfl, ?_⟩) (by assumption) ?_
       rotate_left
       ·intro w hSw; (try dsimp only at hSw); go_simp; (try with_reducible rfl)
       try simp only [Act.put, List.getElem_toArray, List.getElem_cons_zero, List.getElem_cons_succ, List.setIfInBounds_toArray, List.set_cons_zero, List.set_cons_succ]
       refine wpAnyH_take (i := 5) (v := ?_) rfl (by kernel_rfl) (by kernel_rfl) (by kernel_rfl) (fun _ _ _ h => h) (Or.inl ⟨by rfl, ?_⟩) (by assumption) ?_
       rotate_left
       ·intro w hSw; (try dsimp only at hSw); go_simp; (try with_reducible rfl)
       try simp only [Act.put, List.getElem_toArray, List.getElem_cons_zero, List.getElem_cons_succ, List.setIfInBounds_toArray, List.set_cons_zero, List.set_cons_succ]
       refine wpAnyH_take (i := 6) (v := ?_) rfl (by kernel_rfl) (by kernel_rfl) (by kernel_rfl) (fun _ _ _ h => h) (Or.inl ⟨by rfl, ?_⟩) (by assumption) ?_
       rotate_left
       ·intro w hSw; (try dsimp only at hSw); go_simp; (try with_reducible rfl)
       try simp only [Act.put, List.getElem_toArray, List.getElem_cons_zero, List.getElem_cons_succ, List.setIfInBounds_toArray, List.set_cons_zero, List.set_cons_succ]
       refine wpAnyH_take (i := 7) (v := ?_) rfl (by kernel_rfl) (by kernel_rfl) (by kernel_rfl) (fun _ _ _ h => h) (Or.inl ⟨by rfl, ?_⟩) (by assumption) ?_
       rotate_left
       ·intro w hSw; (try dsimp only at hSw); go_simp; (try with_reducible rfl)
       try simp only [Act.put, List.getElem_toArray, List.getElem_cons_zero, List.getElem_cons_succ, List.setIfInBounds_toArray, List.set_cons_zero, List.set_cons_succ]
       have hb : Below wr.heap.size wr wr.drew := (Below.refl _ _).drew
       clear hHeld t0 i0 x0 z0 z1 z2 z3 s0
       replace HBz := Lib.hid (hp_keep4 HBz.out hb)
       replace HBq := Lib.hid (hp_keep4 HBq.out hb)
       replace HBx := Lib.hid (hp_keep4 HBx.out hb)
       replace HBa := Lib.hid (hp_keep4 HBa.out hb)
       replace HBs := Lib.hid (hp_keep4 HBs.out hb)
       replace HBt := Lib.hid (hp_keep4 HBt.out hb)
       replace HBi := Lib.hid (hp_keep4 HBi.out hb)
       replace HBT := Lib.hid (hp_keep4 HBT.out hb)
       replace HBI := Lib.hid (hp_keep4 HBI.out hb)
       replace HA := Lib.hid (OL.keepb HA.out hb)
       replace HW := Lib.hid (bt HW.out hb)
       clear hb
       generalize wr.drew = Y0 at *
       refine wpAnyH_ready (rs := [8]) (by kernel_rfl) (by simp) ?_
       refine AllReadyH.cons rfl (fun K hK => ?_) AllReadyH.nil
       go_simp
       refine (prog_bound N _ (u : Int) (k : Int) xs _ (Hv.out.keepb HW.out) Hok.out (by omega) (by omega) (by omega) (by omega)).mono ?_
       rw [Int.toNat_natCast, Int.toNat_natCast, HV1.out, Hb1.out]
       rintro e Y1 ⟨rfl, hb⟩
       replace HBz := Lib.hid (hp_keep4 HBz.out hb)
       replace HBq := Lib.hid (hp_keep4 HBq.out hb)
       replace HBx := Lib.hid (hp_keep4 HBx.out hb)
       replace HBa := Lib.hid (hp_keep4 HBa.out hb)
       replace HBs := Lib.hid (hp_keep4 HBs.out hb)
       replace HBt := Lib.hid (hp_keep4 HBt.out hb)
       replace HBi := Lib.hid (hp_keep4 HBi.out hb)
       replace HBT := Lib.hid (hp_keep4 HBT.out hb)
       replace HBI := Lib.hid (hp_keep4 HBI.out hb)
       replace HA := Lib.hid (OL.keepb HA.out hb)
       replace HW := Lib.hid (bt HW.out hb)
       clear hb
       refine hK.out _ _ ⟨cell_of_row _ tb 0 _ _ _ HBt.out, cell_of_row _ ib 0 _ _ _ HBi.out, cell_of_row _ XB 0 _ _ _ HBx.out, cell_of_row _ w.heap.size 0 _ _ _ HBz.out, cell_of_row _ w.heap.size 1 _ _ _ HBz.out⟩ (fun hHeld2 => ?_)
       clear hK K
       refine wpAnyH_take (i := 9) (v := ?_) rfl (by kernel_rfl) (by kernel_rfl) (by kernel_rfl) (fun _ _ _ h => h) (Or.inl ⟨by rfl, ?_⟩) (by assumption) ?_
       rotate_left
       ·intro w hSw; (try dsimp only at hSw); go_simp; (try with_reducible rfl)
       try simp only [Act.put, List.getElem_toArray, List.getElem_cons_zero, List.getElem_cons_succ, List.setIfInBounds_toArray, List.set_cons_zero, List.set_cons_succ]
       refine wpAnyH_take (i := 10) (v := ?_) rfl (by kernel_rfl) (by kernel_rfl) (by kernel_rfl) (fun _ _ _ h => h) (Or.inl ⟨by rfl, ?_⟩) (by assumption) ?_
       rotate_left
       ·intro w hSw; (try dsimp only at hSw); go_simp; (try with_reducible rfl)
       try simp only [Act.put, List.getElem_toArray, List.getElem_cons_zero, List.getElem_cons_succ, List.setIfInBounds_toArray, List.set_cons_zero, List.set_cons_succ]
       refine wpAnyH_take (i := 11) (v := ?_) rfl (by kernel_rfl) (by kernel_rfl) (by kernel_rfl) (fun _ _ _ h => h) (Or.inl ⟨by rfl, ?_⟩) (by assumption) ?_
       rotate_left
       ·intro w hSw; (try dsimp only at hSw); go_simp; (try with_reducible rfl)
       try simp only [Act.put, List.getElem_toArray, List.getElem_cons_zero, List.getElem_cons_succ, List.setIfInBounds_toArray, List.set_cons_zero, List.set_cons_succ]
       refine wpAnyH_take (i := 12) (v := ?_) rfl (by kernel_rfl) (by kernel_rfl) (by kernel_rfl) (fun _ _ _ h => h) (Or.inl ⟨by rfl, ?_⟩) (by assumption) ?_
       rotate_left
       ·intro w hSw; (try dsimp only at hSw); go_simp; (try with_reducible rfl)
       try simp only [Act.put, List.getElem_toArray, List.getElem_cons_zero, List.getElem_cons_succ, List.setIfInBounds_toArray, List.set_cons_zero, List.set_cons_succ]
       clear hHeld2
       have tc := row_at HBT.out (k := k) (by rw [List.getElem?_map, List.getElem?_eq_getElem (by rw [atT_len]; exact hkM)]; rfl)
       have tf := row_fro HBT.out (k := k)
       have hqA := row_set (k := k) (v := .int .i64 V1) HBT.out
       have hqz := (st1k_ne (w := Y1) (b := TA) (i := k) (c := w.heap.size) (.int .i64 V1) (Nat.ne_of_lt (Nat.lt_of_lt_of_le haz gta))).trans HBz.out
       have hqq := (st1k_ne (w := Y1) (b := TA) (i := k) (c := w.heap.size + 1) (.int .i64 V1) (Nat.ne_of_lt (Nat.lt_of_lt_of_le haq gta))).trans HBq.out
       have hqx := (st1k_ne (w := Y1) (b := TA) (i := k) (c := XB) (.int .i64 V1) (Nat.ne_of_lt (Nat.lt_of_lt_of_le hax gta))).trans HBx.out
       have hqa := (st1k_ne (w := Y1) (b := TA) (i := k) (c := A) (.int .i64 V1) (Nat.ne_of_lt (Nat.lt_of_lt_of_le haa gta))).trans HBa.out
       have hqs := (st1k_ne (w := Y1) (b := TA) (i := k) (c := SB) (.int .i64 V1) (Nat.ne_of_lt (Nat.lt_of_lt_of_le has gta))).trans HBs.out
       have hqt := (st1k_ne (w := Y1) (b := TA) (i := k) (c := tb) (.int .i64 V1) (hp_ne HBt.out HBT.out (by decide))).trans HBt.out
       have hqi := (st1k_ne (w := Y1) (b := TA) (i := k) (c := ib) (.int .i64 V1) (hp_ne HBi.out HBT.out (by decide))).trans HBi.out
       have hqB := (st1k_ne (w := Y1) (b := TA) (i := k) (c := IA) (.int .i64 V1) (hp_ne HBI.out HBT.out (by decide))).trans HBI.out
       have hqw := HW.out.setCell (p := ⟨TA, k, none⟩) (show w.heap.size ≤ TA from gTw) (.int .i64 V1)
       have hqOA := ownsRow_other HA.out (a := ⟨TA, k, none⟩) (u := .int .i64 V1) (own_ne HA.out HBT.out (by decide))
       refine wpAnyH_ready (rs := [13]) (by kernel_rfl) (by simp) ?_
       refine AllReadyH.cons rfl (fun K hK => ?_) AllReadyH.nil
       go_simp
       refine hK.out _ _ ⟨cell_of_row _ tb 0 _ _ _ hqt, cell_of_row _ ib 0 _ _ _ hqi, cell_of_row _ XB 0 _ _ _ hqx, cell_of_row _ w.heap.size 0 _ _ _ hqz, cell_of_row _ w.heap.size 1 _ _ _ hqz⟩ (fun hHeld2 => ?_)
       clear hK K tc tf
       try simp only [Act.put, List.getElem_toArray, List.getElem_cons_zero, List.getElem_cons_succ, List.setIfInBounds_toArray, List.set_cons_zero, List.set_cons_succ]
       clear HW HA HBT HBI HBz HBq HBx HBa HBs HBt HBi
       generalize hgen : Y1.setCell ⟨TA, k, none⟩ (.int .i64 V1) = Y2 at *
       clear hgen
       have HBz := Lib.hid hqz
       have HBq := Lib.hid hqq
       have HBx := Lib.hid hqx
       have HBa := Lib.hid hqa
       have HBs := Lib.hid hqs
       have HBt := Lib.hid hqt
       have HBi := Lib.hid hqi
       have HBT := Lib.hid hqA
       have HBI := Lib.hid hqB
       have HW := Lib.hid hqw
       have HA := Lib.hid hqOA
       clear hqA hqB hqw hqOA hqz hqq hqx hqa hqs hqt hqi
       refine wpAnyH_take (i := 14) (v := ?_) rfl (by kernel_rfl) (by kernel_rfl) (by kernel_rfl) (fun _ _ _ h => h) (Or.inl ⟨by rfl, ?_⟩) (by assumption) ?_
       rotate_left
       ·intro w hSw; (try dsimp only at hSw); go_simp; (try with_reducible rfl)
       try simp only [Act.put, List.getElem_toArray, List.getElem_cons_zero, List.getElem_cons_succ, List.setIfInBounds_toArray, List.set_cons_zero, List.set_cons_succ]
       clear hHeld2
       have tc := row_at HBI.out (k := k) (by rw [List.getElem?_map, List.getElem?_eq_getElem (by rw [isT_len]; exact hkM)]; rfl)
       have tf := row_fro HBI.out (k := k)
       have hqA := row_set (k := k) (v := .bool b1) HBI.out
       have hqz := (st1k_ne (w := Y2) (b := IA) (i := k) (c := w.heap.size) (.bool b1) (Nat.ne_of_lt (Nat.lt_of_lt_of_le haz gia))).trans HBz.out
       have hqq := (st1k_ne (w := Y2) (b := IA) (i := k) (c := w.heap.size + 1) (.bool b1) (Nat.ne_of_lt (Nat.lt_of_lt_of_le haq gia))).trans HBq.out
       have hqx := (st1k_ne (w := Y2) (b := IA) (i := k) (c := XB) (.bool b1) (Nat.ne_of_lt (Nat.lt_of_lt_of_le hax gia))).trans HBx.out
       have hqa := (st1k_ne (w := Y2) (b := IA) (i := k) (c := A) (.bool b1) (Nat.ne_of_lt (Nat.lt_of_lt_of_le haa gia))).trans HBa.out
       have hqs := (st1k_ne (w := Y2) (b := IA) (i := k) (c := SB) (.bool b1) (Nat.ne_of_lt (Nat.lt_of_lt_of_le has gia))).trans HBs.out
       have hqt := (st1k_ne (w := Y2) (b := IA) (i := k) (c := tb) (.bool b1) (hp_ne HBt.out HBI.out (by decide))).trans HBt.out
       have hqi := (st1k_ne (w := Y2) (b := IA) (i := k) (c := ib) (.bool b1) (hp_ne HBi.out HBI.out (by decide))).trans HBi.out
       have hqB := (st1k_ne (w := Y2) (b := IA) (i := k) (c := TA) (.bool b1) (hp_ne HBT.out HBI.out (by decide))).trans HBT.out
       have hqw := HW.out.setCell (p := ⟨IA, k, none⟩) (show w.heap.size ≤ IA from gIw) (.bool b1)
       have hqOA := ownsRow_other HA.out (a := ⟨IA, k, none⟩) (u := .bool b1) (own_ne HA.out HBI.out (by decide))
       refine wpAnyH_ready (rs := [15]) (by kernel_rfl) (by simp) ?_
       refine AllReadyH.cons rfl (fun K hK => ?_) AllReadyH.nil
       go_simp
       refine hK.out _ _ ⟨cell_of_row _ tb 0 _ _ _ hqt, cell_of_row _ ib 0 _ _ _ hqi, cell_of_row _ XB 0 _ _ _ hqx, cell_of_row _ w.heap.size 0 _ _ _ hqz, cell_of_row _ w.heap.size 1 _ _ _ hqz⟩ (fun hHeld2 => ?_)
       clear hK K tc tf
       try simp only [Act.put, List.getElem_toArray, List.getElem_cons_zero, List.getElem_cons_succ, List.setIfInBounds_toArray, List.set_cons_zero, List.set_cons_succ]
       clear hHeld2
       refine wpAnyH_done (by kernel_rfl) ?_ _
       refine NoPanic.normal ?_
       clear HW HA HBT HBI HBz HBq HBx HBa HBs HBt HBi
       generalize hgen : Y2.setCell ⟨IA, k, none⟩ (.bool b1) = Y3 at *
       clear hgen
       have HBz := Lib.hid hqz
       have HBq := Lib.hid hqq
       have HBx := Lib.hid hqx
       have HBa := Lib.hid hqa
       have HBs := Lib.hid hqs
       have HBt := Lib.hid hqt
       have HBi := Lib.hid hqi
       have HBI := Lib.hid hqA
       have HBT := Lib.hid hqB
       have HW := Lib.hid hqw
       have HA := Lib.hid hqOA
       clear hqA hqB hqw hqOA hqz hqq hqx hqa hqs hqt hqi
       have ic := row_at HBI.out (k := k) (v := .bool b1) (by rw [List.getElem?_set_self (by rw [List.length_map, isT_len]; exact hkM)])
       have i0 : Y3.cell? ⟨ib, 0, none⟩ = some (.slice (some ⟨IA, 0, none⟩) M M) := cell_of_row _ (ib) 0 _ _ _ HBi.out
       have x0 : Y3.cell? ⟨XB, 0, none⟩ = some (.int .i64 (u : Int)) := cell_of_row _ (XB) 0 _ _ _ HBx.out
       have HAT := Lib.hid (show atF N xs u s k = V1 from by unfold atF; rw [if_pos HNS.out, HV1.out])
       have HNO := Lib.hid (show noF N xs u s k = decide (ent N xs u k = 1099511627776) from by unfold noF; rw [if_pos HNS.out])
       cases b1 with
       | false =>
        have HIS := Lib.hid (show isF N xs u s k = false from by unfold isF; rw [HNO.out]; have h := Hb1.out; simp at h; simp [h])
        go_upto_region 21 with fail
        refine wp_region_noPanic ?_
        refine wp_region_U (S := (fun w' => w'.cell? ⟨ib, 0, none⟩ = some (.slice (some ⟨IA, 0, none⟩) M M) ∧ w'.cell? ⟨IA, k, none⟩ = some (.bool false) ∧ w'.cell? ⟨XB, 0, none⟩ = some (.int .i64 u))) (k := 12) (by kernel_rfl) ⟨i0, ic, x0⟩ (fun hHeld => ?_)
        refine wpAnyU_take (i := 0) (v := ?_) rfl (by kernel_rfl) (by kernel_rfl) (by kernel_rfl) (by kernel_rfl) (by kernel_rfl) (by kernel_rfl) (fun _ _ _ h => h) (Or.inl ⟨by rfl, ?_⟩) (by assumption) ?_
        rotate_left
        ·intro w hSw; (try dsimp only at hSw); go_simp; (try with_reducible rfl)
        try simp only [Act.put, List.getElem_toArray, List.getElem_cons_zero, List.setIfInBounds_toArray, List.set_cons_zero, List.set_cons_succ]
        refine wpAnyU_take (i := 1) (v := ?_) rfl (by kernel_rfl) (by kernel_rfl) (by kernel_rfl) (by kernel_rfl) (by kernel_rfl) (by kernel_rfl) (fun _ _ _ h => h) (Or.inl ⟨by rfl, ?_⟩) (by assumption) ?_
        rotate_left
        ·intro w hSw; (try dsimp only at hSw); go_simp; (try with_reducible rfl)
        try simp only [Act.put, List.getElem_toArray, List.getElem_cons_zero, List.getElem_cons_succ, List.setIfInBounds_toArray, List.set_cons_zero, List.set_cons_succ]
        refine wpAnyU_take (i := 2) (v := ?_) rfl (by kernel_rfl) (by kernel_rfl) (by kernel_rfl) (by kernel_rfl) (by kernel_rfl) (by kernel_rfl) (fun _ _ _ h => h) (Or.inl ⟨by rfl, ?_⟩) (by assumption) ?_
        rotate_left
        ·intro w hSw; (try dsimp only at hSw); go_simp; (try with_reducible rfl)
        try simp only [Act.put, List.getElem_toArray, List.getElem_cons_zero, List.getElem_cons_succ, List.setIfInBounds_toArray, List.set_cons_zero, List.set_cons_succ]
        refine wpAnyU_take (i := 3) (v := ?_) rfl (by kernel_rfl) (by kernel_rfl) (by kernel_rfl) (by kernel_rfl) (by kernel_rfl) (by kernel_rfl) (fun _ _ _ h => h) (Or.inl ⟨by rfl, ?_⟩) (by assumption) ?_
        rotate_left
        ·intro w hSw; (try dsimp only at hSw); go_simp; (try with_reducible rfl)
        try simp only [Act.put, List.getElem_toArray, List.getElem_cons_zero, List.getElem_cons_succ, List.setIfInBounds_toArray, List.set_cons_zero, List.set_cons_succ]
        refine wpAnyU_take (i := 4) (v := ?_) rfl (by kernel_rfl) (by kernel_rfl) (by kernel_rfl) (by kernel_rfl) (by kernel_rfl) (by kernel_rfl) (fun _ _ _ h => h) (Or.inl ⟨by rfl, ?_⟩) (by assumption) ?_
        rotate_left
        ·intro w hSw; (try dsimp only at hSw); go_simp; (try with_reducible rfl)
        try simp only [Act.put, List.getElem_toArray, List.getElem_cons_zero, List.getElem_cons_succ, List.setIfInBounds_toArray, List.set_cons_zero, List.set_cons_succ]
        refine wpAnyU_take (i := 5) (v := ?_) rfl (by kernel_rfl) (by kernel_rfl) (by kernel_rfl) (by kernel_rfl) (by kernel_rfl) (by kernel_rfl) (fun _ _ _ h => h) (Or.inl ⟨by rfl, ?_⟩) (by assumption) ?_
        rotate_left
        ·intro w hSw; (try dsimp only at hSw); go_simp; (try with_reducible rfl)
        try simp only [Act.put, List.getElem_toArray, List.getElem_cons_zero, List.getElem_cons_succ, List.setIfInBounds_toArray, List.set_cons_zero, List.set_cons_succ]
        refine wpAnyU_take (i := 6) (v := ?_) rfl (by kernel_rfl) (by kernel_rfl) (by kernel_rfl) (by kernel_rfl) (by kernel_rfl) (by kernel_rfl) (fun _ _ _ h => h) (Or.inl ⟨by rfl, ?_⟩) (by assumption) ?_
        rotate_left
        ·intro w hSw; (try dsimp only at hSw); go_simp; (try with_reducible rfl)
        try simp only [Act.put, List.getElem_toArray, List.getElem_cons_zero, List.getElem_cons_succ, List.setIfInBounds_toArray, List.set_cons_zero, List.set_cons_succ]
        refine wpAnyU_take (i := 7) rfl (by kernel_rfl) (by kernel_rfl) (by kernel_rfl) (by kernel_rfl) (by kernel_rfl) (by kernel_rfl) (fun _ _ _ h => h) (Or.inr ⟨by rfl, rfl⟩) (by assumption) ?_
        try simp only [Act.put, List.getElem_toArray, List.getElem_cons_zero, List.getElem_cons_succ, List.setIfInBounds_toArray, List.set_cons_zero, List.set_cons_succ]
        refine wpAnyU_take (i := 8) rfl (by kernel_rfl) (by kernel_rfl) (by kernel_rfl) (by kernel_rfl) (by kernel_rfl) (by kernel_rfl) (fun _ _ _ h => h) (Or.inr ⟨by rfl, rfl⟩) (by assumption) ?_
        try simp only [Act.put, List.getElem_toArray, List.getElem_cons_zero, List.getElem_cons_succ, List.setIfInBounds_toArray, List.set_cons_zero, List.set_cons_succ]
        refine wpAnyU_take (i := 9) rfl (by kernel_rfl) (by kernel_rfl) (by kernel_rfl) (by kernel_rfl) (by kernel_rfl) (by kernel_rfl) (fun _ _ _ h => h) (Or.inr ⟨by rfl, rfl⟩) (by assumption) ?_
        try simp only [Act.put, List.getElem_toArray, List.getElem_cons_zero, List.getElem_cons_succ, List.setIfInBounds_toArray, List.set_cons_zero, List.set_cons_succ]
        refine wpAnyU_take (i := 10) (v := ?_) rfl (by kernel_rfl) (by kernel_rfl) (by kernel_rfl) (by kernel_rfl) (by kernel_rfl) (by kernel_rfl) (fun _ _ _ h => h) (Or.inl ⟨by rfl, ?_⟩) (by assumption) ?_
        rotate_left
        ·intro w hSw; (try dsimp only at hSw); go_simp; (try with_reducible rfl)
        try simp only [Act.put, List.getElem_toArray, List.getElem_cons_zero, List.getElem_cons_succ, List.setIfInBounds_toArray, List.set_cons_zero, List.set_cons_succ]
        refine wpAnyU_take (i := 11) (v := ?_) rfl (by kernel_rfl) (by kernel_rfl) (by kernel_rfl) (by kernel_rfl) (by kernel_rfl) (by kernel_rfl) (fun _ _ _ h => h) (Or.inl ⟨by rfl, ?_⟩) (by assumption) ?_
        rotate_left
        ·intro w hSw; (try dsimp only at hSw); go_simp; (try with_reducible rfl)
        try simp only [Act.put, List.getElem_toArray, List.getElem_cons_zero, List.getElem_cons_succ, List.setIfInBounds_toArray, List.set_cons_zero, List.set_cons_succ]
        have hb : Below Y3.heap.size Y3 Y3.drew := (Below.refl _ _).drew
        clear hHeld i0 ic x0
        replace HBz := Lib.hid (hp_keep4 HBz.out hb)
        replace HBq := Lib.hid (hp_keep4 HBq.out hb)
        replace HBx := Lib.hid (hp_keep4 HBx.out hb)
        replace HBa := Lib.hid (hp_keep4 HBa.out hb)
        replace HBs := Lib.hid (hp_keep4 HBs.out hb)
        replace HBt := Lib.hid (hp_keep4 HBt.out hb)
        replace HBi := Lib.hid (hp_keep4 HBi.out hb)
        replace HBT := Lib.hid (hp_keep4 HBT.out hb)
        replace HBI := Lib.hid (hp_keep4 HBI.out hb)
        replace HA := Lib.hid (OL.keepb HA.out hb)
        replace HW := Lib.hid (bt HW.out hb)
        clear hb
        generalize Y3.drew = Y6 at *
        have tc := row_at HBI.out (k := k) (v := .bool false) (by rw [List.getElem?_set_self (by rw [List.length_map, isT_len]; exact hkM)])
        have tf := row_fro HBI.out (k := k)
        have hqA := row_set (k := k) (v := .bool false) HBI.out
        have hqz := (st1k_ne (w := Y6) (b := IA) (i := k) (c := w.heap.size) (.bool false) (Nat.ne_of_lt (Nat.lt_of_lt_of_le haz gia))).trans HBz.out
        have hqq := (st1k_ne (w := Y6) (b := IA) (i := k) (c := w.heap.size + 1) (.bool false) (Nat.ne_of_lt (Nat.lt_of_lt_of_le haq gia))).trans HBq.out
        have hqx := (st1k_ne (w := Y6) (b := IA) (i := k) (c := XB) (.bool false) (Nat.ne_of_lt (Nat.lt_of_lt_of_le hax gia))).trans HBx.out
        have hqa := (st1k_ne (w := Y6) (b := IA) (i := k) (c := A) (.bool false) (Nat.ne_of_lt (Nat.lt_of_lt_of_le haa gia))).trans HBa.out
        have hqs := (st1k_ne (w := Y6) (b := IA) (i := k) (c := SB) (.bool false) (Nat.ne_of_lt (Nat.lt_of_lt_of_le has gia))).trans HBs.out
        have hqt := (st1k_ne (w := Y6) (b := IA) (i := k) (c := tb) (.bool false) (hp_ne HBt.out HBI.out (by decide))).trans HBt.out
        have hqi := (st1k_ne (w := Y6) (b := IA) (i := k) (c := ib) (.bool false) (hp_ne HBi.out HBI.out (by decide))).trans HBi.out
        have hqB := (st1k_ne (w := Y6) (b := IA) (i := k) (c := TA) (.bool false) (hp_ne HBT.out HBI.out (by decide))).trans HBT.out
        have hqw := HW.out.setCell (p := ⟨IA, k, none⟩) (show w.heap.size ≤ IA from gIw) (.bool false)
        have hqOA := ownsRow_other HA.out (a := ⟨IA, k, none⟩) (u := .bool false) (own_ne HA.out HBI.out (by decide))
        refine wpAnyU_ready (rs := [12]) (by kernel_rfl) (by simp) ?_
        refine AllReadyU.past rfl (by kernel_rfl) (fun K hK => ?_) AllReadyU.nil
        go_simp
        refine hK.out _ _ ?_
        clear hK K
        try simp only [Act.put, List.getElem_toArray, List.getElem_cons_zero, List.getElem_cons_succ, List.setIfInBounds_toArray, List.set_cons_zero, List.set_cons_succ]
        refine wpAnyU_done (by kernel_rfl) ?_ _
        refine NoPanic.normal ?_
        clear tc tf
        clear HW HA HBT HBI HBz HBq HBx HBa HBs HBt HBi
        generalize hgen : Y6.setCell ⟨IA, k, none⟩ (.bool false) = Y7 at *
        clear hgen
        have HBz := Lib.hid hqz
        have HBq := Lib.hid hqq
        have HBx := Lib.hid hqx
        have HBa := Lib.hid hqa
        have HBs := Lib.hid hqs
        have HBt := Lib.hid hqt
        have HBi := Lib.hid hqi
        have HBI := Lib.hid hqA
        have HBT := Lib.hid hqB
        have HW := Lib.hid hqw
        have HA := Lib.hid hqOA
        clear hqA hqB hqw hqOA hqz hqq hqx hqa hqs hqt hqi
        have HQT := Lib.hid (show Y7.heap[TA]? = some (.cells ((atT N xs u s M (k + 1)).map (Value.int .i64)).toArray 2 (0, 0)) from by
         rw [← atT_set N xs u s hkM, List.map_set, HAT.out]
         have h := HBT.out
         exact h)
        have HQI := Lib.hid (show Y7.heap[IA]? = some (.cells ((isT N xs u s M (k + 1)).map Value.bool).toArray 4 (0, 0)) from by
         rw [← isT_set N xs u s hkM, List.map_set, HIS.out]
         have h := HBI.out
         rwa [List.set_set] at h)
        go_wp2_with fail
        go_roundw
        case rel => exact ⟨k + 1, by omega, by go_num, HBz.out, HBq.out, HBx.out, HBa.out, HBs.out, HBt.out, HBi.out, HQT.out, HQI.out, HA.out, HW.out⟩
        case measure => simp [intOf]; omega
       | true =>
        have HNN := Lib.hid (show noF N xs u s k = false from by rw [HNO.out]; have h := Hb1.out; simp at h; simp [h])
        by_cases hku : k = u
        ·have hkb : ((k : Int) != (u : Int)) = false := by simp; omega
         have HIS := Lib.hid (show isF N xs u s k = false from by unfold isF; rw [HNN.out]; simp [hku])
         clear hku
         go_upto_region 21 with fail
         refine wp_region_noPanic ?_
         refine wp_region_U (S := (fun w' => w'.cell? ⟨ib, 0, none⟩ = some (.slice (some ⟨IA, 0, none⟩) M M) ∧ w'.cell? ⟨IA, k, none⟩ = some (.bool true) ∧ w'.cell? ⟨XB, 0, none⟩ = some (.int .i64 u))) (k := 12) (by kernel_rfl) ⟨i0, ic, x0⟩ (fun hHeld => ?_)
         refine wpAnyU_take (i := 0) (v := ?_) rfl (by kernel_rfl) (by kernel_rfl) (by kernel_rfl) (by kernel_rfl) (by kernel_rfl) (by kernel_rfl) (fun _ _ _ h => h) (Or.inl ⟨by rfl, ?_⟩) (by assumption) ?_
         rotate_left
         ·intro w hSw; (try dsimp only at hSw); go_simp; (try with_reducible rfl)
         try simp only [Act.put, List.getElem_toArray, List.getElem_cons_zero, List.setIfInBounds_toArray, List.set_cons_zero, List.set_cons_succ]
         refine wpAnyU_take (i := 1) (v := ?_) rfl (by kernel_rfl) (by kernel_rfl) (by kernel_rfl) (by kernel_rfl) (by kernel_rfl) (by kernel_rfl) (fun _ _ _ h => h) (Or.inl ⟨by rfl, ?_⟩) (by assumption) ?_
         rotate_left
         ·intro w hSw; (try dsimp only at hSw); go_simp; (try with_reducible rfl)
         try simp only [Act.put, List.getElem_toArray, List.getElem_cons_zero, List.getElem_cons_succ, List.setIfInBounds_toArray, List.set_cons_zero, List.set_cons_succ]
         refine wpAnyU_take (i := 2) (v := ?_) rfl (by kernel_rfl) (by kernel_rfl) (by kernel_rfl) (by kernel_rfl) (by kernel_rfl) (by kernel_rfl) (fun _ _ _ h => h) (Or.inl ⟨by rfl, ?_⟩) (by assumption) ?_
         rotate_left
         ·intro w hSw; (try dsimp only at hSw); go_simp; (try with_reducible rfl)
         try simp only [Act.put, List.getElem_toArray, List.getElem_cons_zero, List.getElem_cons_succ, List.setIfInBounds_toArray, List.set_cons_zero, List.set_cons_succ]
         refine wpAnyU_take (i := 3) (v := ?_) rfl (by kernel_rfl) (by kernel_rfl) (by kernel_rfl) (by kernel_rfl) (by kernel_rfl) (by kernel_rfl) (fun _ _ _ h => h) (Or.inl ⟨by rfl, ?_⟩) (by assumption) ?_
         rotate_left
         ·intro w hSw; (try dsimp only at hSw); go_simp; (try with_reducible rfl)
         try simp only [Act.put, List.getElem_toArray, List.getElem_cons_zero, List.getElem_cons_succ, List.setIfInBounds_toArray, List.set_cons_zero, List.set_cons_succ]
         refine wpAnyU_take (i := 4) (v := ?_) rfl (by kernel_rfl) (by kernel_rfl) (by kernel_rfl) (by kernel_rfl) (by kernel_rfl) (by kernel_rfl) (fun _ _ _ h => h) (Or.inl ⟨by rfl, ?_⟩) (by assumption) ?_
         rotate_left
         ·intro w hSw; (try dsimp only at hSw); go_simp; (try with_reducible rfl)
         try simp only [Act.put, List.getElem_toArray, List.getElem_cons_zero, List.getElem_cons_succ, List.setIfInBounds_toArray, List.set_cons_zero, List.set_cons_succ]
         refine wpAnyU_take (i := 5) (v := ?_) rfl (by kernel_rfl) (by kernel_rfl) (by kernel_rfl) (by kernel_rfl) (by kernel_rfl) (by kernel_rfl) (fun _ _ _ h => h) (Or.inl ⟨by rfl, ?_⟩) (by assumption) ?_
         rotate_left
         ·intro w hSw; (try dsimp only at hSw); go_simp; (try with_reducible rfl)
         try simp only [Act.put, List.getElem_toArray, List.getElem_cons_zero, List.getElem_cons_succ, List.setIfInBounds_toArray, List.set_cons_zero, List.set_cons_succ]
         refine wpAnyU_take (i := 6) (v := ?_) rfl (by kernel_rfl) (by kernel_rfl) (by kernel_rfl) (by kernel_rfl) (by kernel_rfl) (by kernel_rfl) (fun _ _ _ h => h) (Or.inl ⟨by rfl, ?_⟩) (by assumption) ?_
         rotate_left
         ·intro w hSw; (try dsimp only at hSw); go_simp; (try with_reducible rfl)
         try simp only [Act.put, List.getElem_toArray, List.getElem_cons_zero, List.getElem_cons_succ, List.setIfInBounds_toArray, List.set_cons_zero, List.set_cons_succ]
         refine wpAnyU_take (i := 7) (v := ?_) rfl (by kernel_rfl) (by kernel_rfl) (by kernel_rfl) (by kernel_rfl) (by kernel_rfl) (by kernel_rfl) (fun _ _ _ h => h) (Or.inl ⟨by rfl, ?_⟩) (by assumption) ?_
         rotate_left
         ·intro w hSw; (try dsimp only at hSw); go_simp; (try with_reducible rfl)
         try simp only [Act.put, List.getElem_toArray, List.getElem_cons_zero, List.getElem_cons_succ, List.setIfInBounds_toArray, List.set_cons_zero, List.set_cons_succ]
         refine wpAnyU_take (i := 8) (v := ?_) rfl (by kernel_rfl) (by kernel_rfl) (by kernel_rfl) (by kernel_rfl) (by kernel_rfl) (by kernel_rfl) (fun _ _ _ h => h) (Or.inl ⟨by rfl, ?_⟩) (by assumption) ?_
         rotate_left
         ·intro w hSw; (try dsimp only at hSw); go_simp; (try with_reducible rfl)
         try simp only [Act.put, List.getElem_toArray, List.getElem_cons_zero, List.getElem_cons_succ, List.setIfInBounds_toArray, List.set_cons_zero, List.set_cons_succ]
         refine wpAnyU_take (i := 9) (v := ?_) rfl (by kernel_rfl) (by kernel_rfl) (by kernel_rfl) (by kernel_rfl) (by kernel_rfl) (by kernel_rfl) (fun _ _ _ h => h) (Or.inl ⟨by rfl, ?_⟩) (by assumption) ?_
         rotate_left
         ·intro w hSw; (try dsimp only at hSw); go_simp; (try with_reducible rfl)
         try simp only [Act.put, List.getElem_toArray, List.getElem_cons_zero, List.getElem_cons_succ, List.setIfInBounds_toArray, List.set_cons_zero, List.set_cons_succ]
         refine wpAnyU_take (i := 10) (v := ?_) rfl (by kernel_rfl) (by kernel_rfl) (by kernel_rfl) (by kernel_rfl) (by kernel_rfl) (by kernel_rfl) (fun _ _ _ h => h) (Or.inl ⟨by rfl, ?_⟩) (by assumption) ?_
         rotate_left
         ·intro w hSw; (try dsimp only at hSw); go_simp; (try with_reducible rfl)
         try simp only [Act.put, List.getElem_toArray, List.getElem_cons_zero, List.getElem_cons_succ, List.setIfInBounds_toArray, List.set_cons_zero, List.set_cons_succ]
         refine wpAnyU_take (i := 11) (v := ?_) rfl (by kernel_rfl) (by kernel_rfl) (by kernel_rfl) (by kernel_rfl) (by kernel_rfl) (by kernel_rfl) (fun _ _ _ h => h) (Or.inl ⟨by rfl, ?_⟩) (by assumption) ?_
         rotate_left
         ·intro w hSw; (try dsimp only at hSw); go_simp; (try with_reducible rfl)
         try simp only [Act.put, List.getElem_toArray, List.getElem_cons_zero, List.getElem_cons_succ, List.setIfInBounds_toArray, List.set_cons_zero, List.set_cons_succ]
         have hb : Below Y3.heap.size Y3 Y3.drew := (Below.refl _ _).drew
         clear hHeld i0 ic x0
         replace HBz := Lib.hid (hp_keep4 HBz.out hb)
         replace HBq := Lib.hid (hp_keep4 HBq.out hb)
         replace HBx := Lib.hid (hp_keep4 HBx.out hb)
         replace HBa := Lib.hid (hp_keep4 HBa.out hb)
         replace HBs := Lib.hid (hp_keep4 HBs.out hb)
         replace HBt := Lib.hid (hp_keep4 HBt.out hb)
         replace HBi := Lib.hid (hp_keep4 HBi.out hb)
         replace HBT := Lib.hid (hp_keep4 HBT.out hb)
         replace HBI := Lib.hid (hp_keep4 HBI.out hb)
         replace HA := Lib.hid (OL.keepb HA.out hb)
         replace HW := Lib.hid (bt HW.out hb)
         clear hb
         generalize Y3.drew = Y6 at *
         have tc := row_at HBI.out (k := k) (v := .bool true) (by rw [List.getElem?_set_self (by rw [List.length_map, isT_len]; exact hkM)])
         have tf := row_fro HBI.out (k := k)
         have hqA := row_set (k := k) (v := .bool false) HBI.out
         have hqz := (st1k_ne (w := Y6) (b := IA) (i := k) (c := w.heap.size) (.bool false) (Nat.ne_of_lt (Nat.lt_of_lt_of_le haz gia))).trans HBz.out
         have hqq := (st1k_ne (w := Y6) (b := IA) (i := k) (c := w.heap.size + 1) (.bool false) (Nat.ne_of_lt (Nat.lt_of_lt_of_le haq gia))).trans HBq.out
         have hqx := (st1k_ne (w := Y6) (b := IA) (i := k) (c := XB) (.bool false) (Nat.ne_of_lt (Nat.lt_of_lt_of_le hax gia))).trans HBx.out
         have hqa := (st1k_ne (w := Y6) (b := IA) (i := k) (c := A) (.bool false) (Nat.ne_of_lt (Nat.lt_of_lt_of_le haa gia))).trans HBa.out
         have hqs := (st1k_ne (w := Y6) (b := IA) (i := k) (c := SB) (.bool false) (Nat.ne_of_lt (Nat.lt_of_lt_of_le has gia))).trans HBs.out
         have hqt := (st1k_ne (w := Y6) (b := IA) (i := k) (c := tb) (.bool false) (hp_ne HBt.out HBI.out (by decide))).trans HBt.out
         have hqi := (st1k_ne (w := Y6) (b := IA) (i := k) (c := ib) (.bool false) (hp_ne HBi.out HBI.out (by decide))).trans HBi.out
         have hqB := (st1k_ne (w := Y6) (b := IA) (i := k) (c := TA) (.bool false) (hp_ne HBT.out HBI.out (by decide))).trans HBT.out
         have hqw := HW.out.setCell (p := ⟨IA, k, none⟩) (show w.heap.size ≤ IA from gIw) (.bool false)
         have hqOA := ownsRow_other HA.out (a := ⟨IA, k, none⟩) (u := .bool false) (own_ne HA.out HBI.out (by decide))
         refine wpAnyU_ready (rs := [12]) (by kernel_rfl) (by simp) ?_
         refine AllReadyU.past rfl (by kernel_rfl) (fun K hK => ?_) AllReadyU.nil
         go_simp
         refine hK.out _ _ ?_
         clear hK K
         try simp only [Act.put, List.getElem_toArray, List.getElem_cons_zero, List.getElem_cons_succ, List.setIfInBounds_toArray, List.set_cons_zero, List.set_cons_succ]
         refine wpAnyU_done (by kernel_rfl) ?_ _
         refine NoPanic.normal ?_
         clear tc tf
         clear HW HA HBT HBI HBz HBq HBx HBa HBs HBt HBi
         generalize hgen : Y6.setCell ⟨IA, k, none⟩ (.bool false) = Y7 at *
         clear hgen
         have HBz := Lib.hid hqz
         have HBq := Lib.hid hqq
         have HBx := Lib.hid hqx
         have HBa := Lib.hid hqa
         have HBs := Lib.hid hqs
         have HBt := Lib.hid hqt
         have HBi := Lib.hid hqi
         have HBI := Lib.hid hqA
         have HBT := Lib.hid hqB
         have HW := Lib.hid hqw
         have HA := Lib.hid hqOA
         clear hqA hqB hqw hqOA hqz hqq hqx hqa hqs hqt hqi
         have HQT := Lib.hid (show Y7.heap[TA]? = some (.cells ((atT N xs u s M (k + 1)).map (Value.int .i64)).toArray 2 (0, 0)) from by
          rw [← atT_set N xs u s hkM, List.map_set, HAT.out]
          have h := HBT.out
          exact h)
         have HQI := Lib.hid (show Y7.heap[IA]? = some (.cells ((isT N xs u s M (k + 1)).map Value.bool).toArray 4 (0, 0)) from by
          rw [← isT_set N xs u s hkM, List.map_set, HIS.out]
          have h := HBI.out
          rwa [List.set_set] at h)
         go_wp2_with fail
         go_roundw
         case rel => exact ⟨k + 1, by omega, by go_num, HBz.out, HBq.out, HBx.out, HBa.out, HBs.out, HBt.out, HBi.out, HQT.out, HQI.out, HA.out, HW.out⟩
         case measure => simp [intOf]; omega
        have hkb : ((k : Int) != (u : Int)) = true := by simp; omega
        have HIS := Lib.hid (show isF N xs u s k = true from by unfold isF; rw [HNN.out]; simp [hku])
        go_upto_region 21 with fail
        refine wp_region_noPanic ?_
        refine wp_region_U (S := (fun w' => w'.cell? ⟨ib, 0, none⟩ = some (.slice (some ⟨IA, 0, none⟩) M M) ∧ w'.cell? ⟨IA, k, none⟩ = some (.bool true) ∧ w'.cell? ⟨XB, 0, none⟩ = some (.int .i64 u))) (k := 12) (by kernel_rfl) ⟨i0, ic, x0⟩ (fun hHeld => ?_)
        refine wpAnyU_take (i := 0) (v := ?_) rfl (by kernel_rfl) (by kernel_rfl) (by kernel_rfl) (by kernel_rfl) (by kernel_rfl) (by kernel_rfl) (fun _ _ _ h => h) (Or.inl ⟨by rfl, ?_⟩) (by assumption) ?_
        rotate_left
        ·intro w hSw; (try dsimp only at hSw); go_simp; (try with_reducible rfl)
        try simp only [Act.put, List.getElem_toArray, List.getElem_cons_zero, List.setIfInBounds_toArray, List.set_cons_zero, List.set_cons_succ]
        refine wpAnyU_take (i := 1) (v := ?_) rfl (by kernel_rfl) (by kernel_rfl) (by kernel_rfl) (by kernel_rfl) (by kernel_rfl) (by kernel_rfl) (fun _ _ _ h => h) (Or.inl ⟨by rfl, ?_⟩) (by assumption) ?_
        rotate_left
        ·intro w hSw; (try dsimp only at hSw); go_simp; (try with_reducible rfl)
        try simp only [Act.put, List.getElem_toArray, List.getElem_cons_zero, List.getElem_cons_succ, List.setIfInBounds_toArray, List.set_cons_zero, List.set_cons_succ]
        refine wpAnyU_take (i := 2) (v := ?_) rfl (by kernel_rfl) (by kernel_rfl) (by kernel_rfl) (by kernel_rfl) (by kernel_rfl) (by kernel_rfl) (fun _ _ _ h => h) (Or.inl ⟨by rfl, ?_⟩) (by assumption) ?_
        rotate_left
        ·intro w hSw; (try dsimp only at hSw); go_simp; (try with_reducible rfl)
        try simp only [Act.put, List.getElem_toArray, List.getElem_cons_zero, List.getElem_cons_succ, List.setIfInBounds_toArray, List.set_cons_zero, List.set_cons_succ]
        refine wpAnyU_take (i := 3) (v := ?_) rfl (by kernel_rfl) (by kernel_rfl) (by kernel_rfl) (by kernel_rfl) (by kernel_rfl) (by kernel_rfl) (fun _ _ _ h => h) (Or.inl ⟨by rfl, ?_⟩) (by assumption) ?_
        rotate_left
        ·intro w hSw; (try dsimp only at hSw); go_simp; (try with_reducible rfl)
        try simp only [Act.put, List.getElem_toArray, List.getElem_cons_zero, List.getElem_cons_succ, List.setIfInBounds_toArray, List.set_cons_zero, List.set_cons_succ]
        refine wpAnyU_take (i := 4) (v := ?_) rfl (by kernel_rfl) (by kernel_rfl) (by kernel_rfl) (by kernel_rfl) (by kernel_rfl) (by kernel_rfl) (fun _ _ _ h => h) (Or.inl ⟨by rfl, ?_⟩) (by assumption) ?_
        rotate_left
        ·intro w hSw; (try dsimp only at hSw); go_simp; (try with_reducible rfl)
        try simp only [Act.put, List.getElem_toArray, List.getElem_cons_zero, List.getElem_cons_succ, List.setIfInBounds_toArray, List.set_cons_zero, List.set_cons_succ]
        refine wpAnyU_take (i := 5) (v := ?_) rfl (by kernel_rfl) (by kernel_rfl) (by kernel_rfl) (by kernel_rfl) (by kernel_rfl) (by kernel_rfl) (fun _ _ _ h => h) (Or.inl ⟨by rfl, ?_⟩) (by assumption) ?_
        rotate_left
        ·intro w hSw; (try dsimp only at hSw); go_simp; (try with_reducible rfl)
        try simp only [Act.put, List.getElem_toArray, List.getElem_cons_zero, List.getElem_cons_succ, List.setIfInBounds_toArray, List.set_cons_zero, List.set_cons_succ]
        refine wpAnyU_take (i := 6) (v := ?_) rfl (by kernel_rfl) (by kernel_rfl) (by kernel_rfl) (by kernel_rfl) (by kernel_rfl) (by kernel_rfl) (fun _ _ _ h => h) (Or.inl ⟨by rfl, ?_⟩) (by assumption) ?_
        rotate_left
        ·intro w hSw; (try dsimp only at hSw); go_simp; (try with_reducible rfl)
        try simp only [Act.put, List.getElem_toArray, List.getElem_cons_zero, List.getElem_cons_succ, List.setIfInBounds_toArray, List.set_cons_zero, List.set_cons_succ]
        refine wpAnyU_take (i := 7) (v := ?_) rfl (by kernel_rfl) (by kernel_rfl) (by kernel_rfl) (by kernel_rfl) (by kernel_rfl) (by kernel_rfl) (fun _ _ _ h => h) (Or.inl ⟨by rfl, ?_⟩) (by assumption) ?_
        rotate_left
        ·intro w hSw; (try dsimp only at hSw); go_simp; (try with_reducible rfl)
        try simp only [Act.put, List.getElem_toArray, List.getElem_cons_zero, List.getElem_cons_succ, List.setIfInBounds_toArray, List.set_cons_zero, List.set_cons_succ]
        refine wpAnyU_take (i := 8) (v := ?_) rfl (by kernel_rfl) (by kernel_rfl) (by kernel_rfl) (by kernel_rfl) (by kernel_rfl) (by kernel_rfl) (fun _ _ _ h => h) (Or.inl ⟨by rfl, ?_⟩) (by assumption) ?_
        rotate_left
        ·intro w hSw; (try dsimp only at hSw); go_simp; (try with_reducible rfl)
        try simp only [Act.put, List.getElem_toArray, List.getElem_cons_zero, List.getElem_cons_succ, List.setIfInBounds_toArray, List.set_cons_zero, List.set_cons_succ]
        refine wpAnyU_take (i := 9) (v := ?_) rfl (by kernel_rfl) (by kernel_rfl) (by kernel_rfl) (by kernel_rfl) (by kernel_rfl) (by kernel_rfl) (fun _ _ _ h => h) (Or.inl ⟨by rfl, ?_⟩) (by assumption) ?_
        rotate_left
        ·intro w hSw; (try dsimp only at hSw); go_simp; (try with_reducible rfl)
        try simp only [Act.put, List.getElem_toArray, List.getElem_cons_zero, List.getElem_cons_succ, List.setIfInBounds_toArray, List.set_cons_zero, List.set_cons_succ]
        refine wpAnyU_take (i := 10) (v := ?_) rfl (by kernel_rfl) (by kernel_rfl) (by kernel_rfl) (by kernel_rfl) (by kernel_rfl) (by kernel_rfl) (fun _ _ _ h => h) (Or.inl ⟨by rfl, ?_⟩) (by assumption) ?_
        rotate_left
        ·intro w hSw; (try dsimp only at hSw); go_simp; (try with_reducible rfl)
        try simp only [Act.put, List.getElem_toArray, List.getElem_cons_zero, List.getElem_cons_succ, List.setIfInBounds_toArray, List.set_cons_zero, List.set_cons_succ]
        refine wpAnyU_take (i := 11) (v := ?_) rfl (by kernel_rfl) (by kernel_rfl) (by kernel_rfl) (by kernel_rfl) (by kernel_rfl) (by kernel_rfl) (fun _ _ _ h => h) (Or.inl ⟨by rfl, ?_⟩) (by assumption) ?_
        rotate_left
        ·intro w hSw; (try dsimp only at hSw); go_simp; (try with_reducible rfl)
        try simp only [Act.put, List.getElem_toArray, List.getElem_cons_zero, List.getElem_cons_succ, List.setIfInBounds_toArray, List.set_cons_zero, List.set_cons_succ]
        have hb : Below Y3.heap.size Y3 Y3.drew := (Below.refl _ _).drew
        clear hHeld i0 ic x0
        replace HBz := Lib.hid (hp_keep4 HBz.out hb)
        replace HBq := Lib.hid (hp_keep4 HBq.out hb)
        replace HBx := Lib.hid (hp_keep4 HBx.out hb)
        replace HBa := Lib.hid (hp_keep4 HBa.out hb)
        replace HBs := Lib.hid (hp_keep4 HBs.out hb)
        replace HBt := Lib.hid (hp_keep4 HBt.out hb)
        replace HBi := Lib.hid (hp_keep4 HBi.out hb)
        replace HBT := Lib.hid (hp_keep4 HBT.out hb)
        replace HBI := Lib.hid (hp_keep4 HBI.out hb)
        replace HA := Lib.hid (OL.keepb HA.out hb)
        replace HW := Lib.hid (bt HW.out hb)
        clear hb
        generalize Y3.drew = Y6 at *
        have tc := row_at HBI.out (k := k) (v := .bool true) (by rw [List.getElem?_set_self (by rw [List.length_map, isT_len]; exact hkM)])
        have tf := row_fro HBI.out (k := k)
        have hqA := row_set (k := k) (v := .bool true) HBI.out
        have hqz := (st1k_ne (w := Y6) (b := IA) (i := k) (c := w.heap.size) (.bool true) (Nat.ne_of_lt (Nat.lt_of_lt_of_le haz gia))).trans HBz.out
        have hqq := (st1k_ne (w := Y6) (b := IA) (i := k) (c := w.heap.size + 1) (.bool true) (Nat.ne_of_lt (Nat.lt_of_lt_of_le haq gia))).trans HBq.out
        have hqx := (st1k_ne (w := Y6) (b := IA) (i := k) (c := XB) (.bool true) (Nat.ne_of_lt (Nat.lt_of_lt_of_le hax gia))).trans HBx.out
        have hqa := (st1k_ne (w := Y6) (b := IA) (i := k) (c := A) (.bool true) (Nat.ne_of_lt (Nat.lt_of_lt_of_le haa gia))).trans HBa.out
        have hqs := (st1k_ne (w := Y6) (b := IA) (i := k) (c := SB) (.bool true) (Nat.ne_of_lt (Nat.lt_of_lt_of_le has gia))).trans HBs.out
        have hqt := (st1k_ne (w := Y6) (b := IA) (i := k) (c := tb) (.bool true) (hp_ne HBt.out HBI.out (by decide))).trans HBt.out
        have hqi := (st1k_ne (w := Y6) (b := IA) (i := k) (c := ib) (.bool true) (hp_ne HBi.out HBI.out (by decide))).trans HBi.out
        have hqB := (st1k_ne (w := Y6) (b := IA) (i := k) (c := TA) (.bool true) (hp_ne HBT.out HBI.out (by decide))).trans HBT.out
        have hqw := HW.out.setCell (p := ⟨IA, k, none⟩) (show w.heap.size ≤ IA from gIw) (.bool true)
        have hqOA := ownsRow_other HA.out (a := ⟨IA, k, none⟩) (u := .bool true) (own_ne HA.out HBI.out (by decide))
        refine wpAnyU_ready (rs := [12]) (by kernel_rfl) (by simp) ?_
        refine AllReadyU.past rfl (by kernel_rfl) (fun K hK => ?_) AllReadyU.nil
        go_simp
        refine hK.out _ _ ?_
        clear hK K
        try simp only [Act.put, List.getElem_toArray, List.getElem_cons_zero, List.getElem_cons_succ, List.setIfInBounds_toArray, List.set_cons_zero, List.set_cons_succ]
        refine wpAnyU_done (by kernel_rfl) ?_ _
        refine NoPanic.normal ?_
        clear tc tf
        clear HW HA HBT HBI HBz HBq HBx HBa HBs HBt HBi
        generalize hgen : Y6.setCell ⟨IA, k, none⟩ (.bool true) = Y7 at *
        clear hgen
        have HBz := Lib.hid hqz
        have HBq := Lib.hid hqq
        have HBx := Lib.hid hqx
        have HBa := Lib.hid hqa
        have HBs := Lib.hid hqs
        have HBt := Lib.hid hqt
        have HBi := Lib.hid hqi
        have HBI := Lib.hid hqA
        have HBT := Lib.hid hqB
        have HW := Lib.hid hqw
        have HA := Lib.hid hqOA
        clear hqA hqB hqw hqOA hqz hqq hqx hqa hqs hqt hqi
        have HQT := Lib.hid (show Y7.heap[TA]? = some (.cells ((atT N xs u s M (k + 1)).map (Value.int .i64)).toArray 2 (0, 0)) from by
         rw [← atT_set N xs u s hkM, List.map_set, HAT.out]
         have h := HBT.out
         exact h)
        have HQI := Lib.hid (show Y7.heap[IA]? = some (.cells ((isT N xs u s M (k + 1)).map Value.bool).toArray 4 (0, 0)) from by
         rw [← isT_set N xs u s hkM, List.map_set, HIS.out]
         have h := HBI.out
         rwa [List.set_set] at h)
        go_wp2_with fail
        go_roundw
        case rel => exact ⟨k + 1, by omega, by go_num, HBz.out, HBq.out, HBx.out, HBa.out, HBs.out, HBt.out, HBi.out, HQT.out, HQI.out, HA.out, HW.out⟩
        case measure => simp [intOf]; omega
      have hsb2 : decide (s < 0) = false := by simpa using hs1
      have HNS0 := Lib.hid (show 0 ≤ s by omega)
      have HNS := Lib.hid (show ¬ s < 0 from Int.not_lt.2 HNS0.out)
      clear hs1
      obtain ⟨V1, hV1⟩ : ∃ V, ent N xs k u / 2 = V := ⟨_, rfl⟩
      obtain ⟨b1, hb1⟩ : ∃ b, decide (ent N xs k u ≠ 1099511627776) = b := ⟨_, rfl⟩
      have HV1 := Lib.hid hV1
      have Hb1 := Lib.hid hb1
      clear hV1 hb1
      have t0 : wr.cell? ⟨tb, 0, none⟩ = some (.slice (some ⟨TA, 0, none⟩) M M) := cell_of_row _ (tb) 0 _ _ _ HBt.out
      have i0 : wr.cell? ⟨ib, 0, none⟩ = some (.slice (some ⟨IA, 0, none⟩) M M) := cell_of_row _ (ib) 0 _ _ _ HBi.out
      have z0 : wr.cell? ⟨w.heap.size, 0, none⟩ = some (.int .i64 N) := cell_of_row _ (w.heap.size) 0 _ _ _ HBz.out
      have z1 : wr.cell? ⟨w.heap.size, 1, none⟩ = some (.slice ao xs.length cap) := cell_of_row _ (w.heap.size) 1 _ _ _ HBz.out
      have z2 : wr.cell? ⟨w.heap.size, 2, none⟩ = some (.int .i64 c) := cell_of_row _ (w.heap.size) 2 _ _ _ HBz.out
      have z3 : wr.cell? ⟨w.heap.size, 3, none⟩ = some (.slice (some ⟨br, offr, none⟩) rs.length capr) := cell_of_row _ (w.heap.size) 3 _ _ _ HBz.out
      have x0 : wr.cell? ⟨XB, 0, none⟩ = some (.int .i64 (u : Int)) := cell_of_row _ (XB) 0 _ _ _ HBx.out
      go_upto_region 19 with fail
      refine wp_region_noPanic ?_
      refine wp_region_held_drew (S := (fun w' => w'.cell? ⟨tb, 0, none⟩ = some (.slice (some ⟨TA, 0, none⟩) M M) ∧ w'.cell? ⟨ib, 0, none⟩ = some (.slice (some ⟨IA, 0, none⟩) M M) ∧ w'.cell? ⟨XB, 0, none⟩ = some (.int .i64 u) ∧ w'.cell? ⟨w.heap.size, 0, none⟩ = some (.int .i64 N) ∧ w'.cell? ⟨w.heap.size, 1, none⟩ = some (.slice ao xs.length cap))) (by kernel_rfl) ⟨t0, i0, x0, z0, z1⟩ (fun hHeld => ?_)
      refine wpAnyH_take (i := 0) (v := ?_) rfl (by kernel_rfl) (by kernel_rfl) (by kernel_rfl) (fun _ _ _ h => h) (Or.inl ⟨by rfl, ?_⟩) (by assumption) ?_
      rotate_left
      ·intro w hSw; (try dsimp only at hSw); go_simp; (try with_reducible rfl)
      try simp only [Act.put, List.getElem_toArray, List.getElem_cons_zero, List.setIfInBounds_toArray, List.set_cons_zero, List.set_cons_succ]
      refine wpAnyH_take (i := 1) (v := ?_) rfl (by kernel_rfl) (by kernel_rfl) (by kernel_rfl) (fun _ _ _ h => h) (Or.inl ⟨by rfl, ?_⟩) (by assumption) ?_
      rotate_left
      ·intro w hSw; (try dsimp only at hSw); go_simp; (try with_reducible rfl)
      try simp only [Act.put, List.getElem_toArray, List.getElem_cons_zero, List.getElem_cons_succ, List.setIfInBounds_toArray, List.set_cons_zero, List.set_cons_succ]
      refine wpAnyH_take (i := 2) (v := ?_) rfl (by kernel_rfl) (by kernel_rfl) (by kernel_rfl) (fun _ _ _ h => h) (Or.inl ⟨by rfl, ?_⟩) (by assumption) ?_
      rotate_left
      ·intro w hSw; (try dsimp only at hSw); go_simp; (try with_reducible rfl)
      try simp only [Act.put, List.getElem_toArray, List.getElem_cons_zero, List.getElem_cons_succ, List.setIfInBounds_toArray, List.set_cons_zero, List.set_cons_succ]
      refine wpAnyH_take (i := 3) (v := ?_) rfl (by kernel_rfl) (by kernel_rfl) (by kernel_rfl) (fun _ _ _ h => h) (Or.inl ⟨by rfl, ?_⟩) (by assumption) ?_
      rotate_left
      ·intro w hSw; (try dsimp only at hSw); go_simp; (try with_reducible rfl)
      try simp only [Act.put, List.getElem_toArray, List.getElem_cons_zero, List.getElem_cons_succ, List.setIfInBounds_toArray, List.set_cons_zero, List.set_cons_succ]
      refine wpAnyH_take (i := 4) (v := ?_) rfl (by kernel_rfl) (by kernel_rfl) (by kernel_rfl) (fun _ _ _ h => h) (Or.inl ⟨by rfl, ?_⟩) (by assumption) ?_
      rotate_left
      ·intro w hSw; (try dsimp only at hSw); go_simp; (try with_reducible rfl)
      try simp only [Act.put, List.getElem_toArray, List.getElem_cons_zero, List.getElem_cons_succ, List.setIfInBounds_toArray, List.set_cons_zero, List.set_cons_succ]
      refine wpAnyH_take (i := 5) (v := ?_) rfl (by kernel_rfl) (by kernel_rfl) (by kernel_rfl) (fun _ _ _ h => h) (Or.inl ⟨by rfl, ?_⟩) (by assumption) ?_
      rotate_left
      ·intro w hSw; (try dsimp only at hSw); go_simp; (try with_reducible rfl)
      try simp only [Act.put, List.getElem_toArray, List.getElem_cons_zero, List.getElem_cons_succ, List.setIfInBounds_toArray, List.set_cons_zero, List.set_cons_succ]
      refine wpAnyH_take (i := 6) (v := ?_) rfl (by kernel_rfl) (by kernel_rfl) (by kernel_rfl) (fun _ _ _ h => h) (Or.inl ⟨by rfl, ?_⟩) (by assumption) ?_
      rotate_left
      ·intro w hSw; (try dsimp only at hSw); go_simp; (try with_reducible rfl)
      try simp only [Act.put, List.getElem_toArray, List.getElem_cons_zero, List.getElem_cons_succ, List.setIfInBounds_toArray, List.set_cons_zero, List.set_cons_succ]
      refine wpAnyH_take (i := 7) (v := ?_) rfl (by kernel_rfl) (by kernel_rfl) (by kernel_rfl) (fun _ _ _ h => h) (Or.inl ⟨by rfl, ?_⟩) (by assumption) ?_
      rotate_left
      ·intro w hSw; (try dsimp only at hSw); go_simp; (try with_reducible rfl)
      try simp only [Act.put, List.getElem_toArray, List.getElem_cons_zero, List.getElem_cons_succ, List.setIfInBounds_toArray, List.set_cons_zero, List.set_cons_succ]
      have hb : Below wr.heap.size wr wr.drew := (Below.refl _ _).drew
      clear hHeld t0 i0 x0 z0 z1 z2 z3 s0
      replace HBz := Lib.hid (hp_keep4 HBz.out hb)
      replace HBq := Lib.hid (hp_keep4 HBq.out hb)
      replace HBx := Lib.hid (hp_keep4 HBx.out hb)
      replace HBa := Lib.hid (hp_keep4 HBa.out hb)
      replace HBs := Lib.hid (hp_keep4 HBs.out hb)
      replace HBt := Lib.hid (hp_keep4 HBt.out hb)
      replace HBi := Lib.hid (hp_keep4 HBi.out hb)
      replace HBT := Lib.hid (hp_keep4 HBT.out hb)
      replace HBI := Lib.hid (hp_keep4 HBI.out hb)
      replace HA := Lib.hid (OL.keepb HA.out hb)
      replace HW := Lib.hid (bt HW.out hb)
      clear hb
      generalize wr.drew = Y0 at *
      refine wpAnyH_ready (rs := [8]) (by kernel_rfl) (by simp) ?_
      refine AllReadyH.cons rfl (fun K hK => ?_) AllReadyH.nil
      go_simp
      refine (prog_bound N _ (k : Int) (u : Int) xs _ (Hv.out.keepb HW.out) Hok.out (by omega) (by omega) (by omega) (by omega)).mono ?_
      rw [Int.toNat_natCast, Int.toNat_natCast, HV1.out, Hb1.out]
      rintro e Y1 ⟨rfl, hb⟩
      replace HBz := Lib.hid (hp_keep4 HBz.out hb)
      replace HBq := Lib.hid (hp_keep4 HBq.out hb)
      replace HBx := Lib.hid (hp_keep4 HBx.out hb)
      replace HBa := Lib.hid (hp_keep4 HBa.out hb)
      replace HBs := Lib.hid (hp_keep4 HBs.out hb)
      replace HBt := Lib.hid (hp_keep4 HBt.out hb)
      replace HBi := Lib.hid (hp_keep4 HBi.out hb)
      replace HBT := Lib.hid (hp_keep4 HBT.out hb)
      replace HBI := Lib.hid (hp_keep4 HBI.out hb)
      replace HA := Lib.hid (OL.keepb HA.out hb)
      replace HW := Lib.hid (bt HW.out hb)
      clear hb
      refine hK.out _ _ ⟨cell_of_row _ tb 0 _ _ _ HBt.out, cell_of_row _ ib 0 _ _ _ HBi.out, cell_of_row _ XB 0 _ _ _ HBx.out, cell_of_row _ w.heap.size 0 _ _ _ HBz.out, cell_of_row _ w.heap.size 1 _ _ _ HBz.out⟩ (fun hHeld2 => ?_)
      clear hK K
      refine wpAnyH_take (i := 9) (v := ?_) rfl (by kernel_rfl) (by kernel_rfl) (by kernel_rfl) (fun _ _ _ h => h) (Or.inl ⟨by rfl, ?_⟩) (by assumption) ?_
      rotate_left
      ·intro w hSw; (try dsimp only at hSw); go_simp; (try with_reducible rfl)
      try simp only [Act.put, List.getElem_toArray, List.getElem_cons_zero, List.getElem_cons_succ, List.setIfInBounds_toArray, List.set_cons_zero, List.set_cons_succ]
      refine wpAnyH_take (i := 10) (v := ?_) rfl (by kernel_rfl) (by kernel_rfl) (by kernel_rfl) (fun _ _ _ h => h) (Or.inl ⟨by rfl, ?_⟩) (by assumption) ?_
      rotate_left
      ·intro w hSw; (try dsimp only at hSw); go_simp; (try with_reducible rfl)
      try simp only [Act.put, List.getElem_toArray, List.getElem_cons_zero, List.getElem_cons_succ, List.setIfInBounds_toArray, List.set_cons_zero, List.set_cons_succ]
      refine wpAnyH_take (i := 11) (v := ?_) rfl (by kernel_rfl) (by kernel_rfl) (by kernel_rfl) (fun _ _ _ h => h) (Or.inl ⟨by rfl, ?_⟩) (by assumption) ?_
      rotate_left
      ·intro w hSw; (try dsimp only at hSw); go_simp; (try with_reducible rfl)
      try simp only [Act.put, List.getElem_toArray, List.getElem_cons_zero, List.getElem_cons_succ, List.setIfInBounds_toArray, List.set_cons_zero, List.set_cons_succ]
      refine wpAnyH_take (i := 12) (v := ?_) rfl (by kernel_rfl) (by kernel_rfl) (by kernel_rfl) (fun _ _ _ h => h) (Or.inl ⟨by rfl, ?_⟩) (by assumption) ?_
      rotate_left
      ·intro w hSw; (try dsimp only at hSw); go_simp; (try with_reducible rfl)
      try simp only [Act.put, List.getElem_toArray, List.getElem_cons_zero, List.getElem_cons_succ, List.setIfInBounds_toArray, List.set_cons_zero, List.set_cons_succ]
      clear hHeld2
      have tc := row_at HBT.out (k := k) (by rw [List.getElem?_map, List.getElem?_eq_getElem (by rw [atT_len]; exact hkM)]; rfl)
      have tf := row_fro HBT.out (k := k)
      have hqA := row_set (k := k) (v := .int .i64 V1) HBT.out
      have hqz := (st1k_ne (w := Y1) (b := TA) (i := k) (c := w.heap.size) (.int .i64 V1) (Nat.ne_of_lt (Nat.lt_of_lt_of_le haz gta))).trans HBz.out
      have hqq := (st1k_ne (w := Y1) (b := TA) (i := k) (c := w.heap.size + 1) (.int .i64 V1) (Nat.ne_of_lt (Nat.lt_of_lt_of_le haq gta))).trans HBq.out
      have hqx := (st1k_ne (w := Y1) (b := TA) (i := k) (c := XB) (.int .i64 V1) (Nat.ne_of_lt (Nat.lt_of_lt_of_le hax gta))).trans HBx.out
      have hqa := (st1k_ne (w := Y1) (b := TA) (i := k) (c := A) (.int .i64 V1) (Nat.ne_of_lt (Nat.lt_of_lt_of_le haa gta))).trans HBa.out
      have hqs := (st1k_ne (w := Y1) (b := TA) (i := k) (c := SB) (.int .i64 V1) (Nat.ne_of_lt (Nat.lt_of_lt_of_le has gta))).trans HBs.out
      have hqt := (st1k_ne (w := Y1) (b := TA) (i := k) (c := tb) (.int .i64 V1) (hp_ne HBt.out HBT.out (by decide))).trans HBt.out
      have hqi := (st1k_ne (w := Y1) (b := TA) (i := k) (c := ib) (.int .i64 V1) (hp_ne HBi.out HBT.out (by decide))).trans HBi.out
      have hqB := (st1k_ne (w := Y1) (b := TA) (i := k) (c := IA) (.int .i64 V1) (hp_ne HBI.out HBT.out (by decide))).trans HBI.out
      have hqw := HW.out.setCell (p := ⟨TA, k, none⟩) (show w.heap.size ≤ TA from gTw) (.int .i64 V1)
      have hqOA := ownsRow_other HA.out (a := ⟨TA, k, none⟩) (u := .int .i64 V1) (own_ne HA.out HBT.out (by decide))
      refine wpAnyH_ready (rs := [13]) (by kernel_rfl) (by simp) ?_
      refine AllReadyH.cons rfl (fun K hK => ?_) AllReadyH.nil
      go_simp
      refine hK.out _ _ ⟨cell_of_row _ tb 0 _ _ _ hqt, cell_of_row _ ib 0 _ _ _ hqi, cell_of_row _ XB 0 _ _ _ hqx, cell_of_row _ w.heap.size 0 _ _ _ hqz, cell_of_row _ w.heap.size 1 _ _ _ hqz⟩ (fun hHeld2 => ?_)
      clear hK K tc tf
      try simp only [Act.put, List.getElem_toArray, List.getElem_cons_zero, List.getElem_cons_succ, List.setIfInBounds_toArray, List.set_cons_zero, List.set_cons_succ]
      clear HW HA HBT HBI HBz HBq HBx HBa HBs HBt HBi
      generalize hgen : Y1.setCell ⟨TA, k, none⟩ (.int .i64 V1) = Y2 at *
      clear hgen
      have HBz := Lib.hid hqz
      have HBq := Lib.hid hqq
      have HBx := Lib.hid hqx
      have HBa := Lib.hid hqa
      have HBs := Lib.hid hqs
      have HBt := Lib.hid hqt
      have HBi := Lib.hid hqi
      have HBT := Lib.hid hqA
      have HBI := Lib.hid hqB
      have HW := Lib.hid hqw
      have HA := Lib.hid hqOA
      clear hqA hqB hqw hqOA hqz hqq hqx hqa hqs hqt hqi
      refine wpAnyH_take (i := 14) (v := ?_) rfl (by kernel_rfl) (by kernel_rfl) (by kernel_rfl) (fun _ _ _ h => h) (Or.inl ⟨by rfl, ?_⟩) (by assumption) ?_
      rotate_left
      ·intro w hSw; (try dsimp only at hSw); go_simp; (try with_reducible rfl)
      try simp only [Act.put, List.getElem_toArray, List.getElem_cons_zero, List.getElem_cons_succ, List.setIfInBounds_toArray, List.set_cons_zero, List.set_cons_succ]
      clear hHeld2
      have tc := row_at HBI.out (k := k) (by rw [List.getElem?_map, List.getElem?_eq_getElem (by rw [isT_len]; exact hkM)]; rfl)
      have tf := row_fro HBI.out (k := k)
      have hqA := row_set (k := k) (v := .bool b1) HBI.out
      have hqz := (st1k_ne (w := Y2) (b := IA) (i := k) (c := w.heap.size) (.bool b1) (Nat.ne_of_lt (Nat.lt_of_lt_of_le haz gia))).trans HBz.out
      have hqq := (st1k_ne (w := Y2) (b := IA) (i := k) (c := w.heap.size + 1) (.bool b1) (Nat.ne_of_lt (Nat.lt_of_lt_of_le haq gia))).trans HBq.out
      have hqx := (st1k_ne (w := Y2) (b := IA) (i := k) (c := XB) (.bool b1) (Nat.ne_of_lt (Nat.lt_of_lt_of_le hax gia))).trans HBx.out
      have hqa := (st1k_ne (w := Y2) (b := IA) (i := k) (c := A) (.bool b1) (Nat.ne_of_lt (Nat.lt_of_lt_of_le haa gia))).trans HBa.out
      have hqs := (st1k_ne (w := Y2) (b := IA) (i := k) (c := SB) (.bool b1) (Nat.ne_of_lt (Nat.lt_of_lt_of_le has gia))).trans HBs.out
      have hqt := (st1k_ne (w := Y2) (b := IA) (i := k) (c := tb) (.bool b1) (hp_ne HBt.out HBI.out (by decide))).trans HBt.out
      have hqi := (st1k_ne (w := Y2) (b := IA) (i := k) (c := ib) (.bool b1) (hp_ne HBi.out HBI.out (by decide))).trans HBi.out
      have hqB := (st1k_ne (w := Y2) (b := IA) (i := k) (c := TA) (.bool b1) (hp_ne HBT.out HBI.out (by decide))).trans HBT.out
      have hqw := HW.out.setCell (p := ⟨IA, k, none⟩) (show w.heap.size ≤ IA from gIw) (.bool b1)
      have hqOA := ownsRow_other HA.out (a := ⟨IA, k, none⟩) (u := .bool b1) (own_ne HA.out HBI.out (by decide))
      refine wpAnyH_ready (rs := [15]) (by kernel_rfl) (by simp) ?_
      refine AllReadyH.cons rfl (fun K hK => ?_) AllReadyH.nil
      go_simp
      refine hK.out _ _ ⟨cell_of_row _ tb 0 _ _ _ hqt, cell_of_row _ ib 0 _ _ _ hqi, cell_of_row _ XB 0 _ _ _ hqx, cell_of_row _ w.heap.size 0 _ _ _ hqz, cell_of_row _ w.heap.size 1 _ _ _ hqz⟩ (fun hHeld2 => ?_)
      clear hK K tc tf
      try simp only [Act.put, List.getElem_toArray, List.getElem_cons_zero, List.getElem_cons_succ, List.setIfInBounds_toArray, List.set_cons_zero, List.set_cons_succ]
      clear hHeld2
      refine wpAnyH_done (by kernel_rfl) ?_ _
      refine NoPanic.normal ?_
      clear HW HA HBT HBI HBz HBq HBx HBa HBs HBt HBi
      generalize hgen : Y2.setCell ⟨IA, k, none⟩ (.bool b1) = Y3 at *
      clear hgen
      have HBz := Lib.hid hqz
      have HBq := Lib.hid hqq
      have HBx := Lib.hid hqx
      have HBa := Lib.hid hqa
      have HBs := Lib.hid hqs
      have HBt := Lib.hid hqt
      have HBi := Lib.hid hqi
      have HBI := Lib.hid hqA
      have HBT := Lib.hid hqB
      have HW := Lib.hid hqw
      have HA := Lib.hid hqOA
      clear hqA hqB hqw hqOA hqz hqq hqx hqa hqs hqt hqi
      have tc := row_at HBT.out (k := k) (v := .int .i64 V1) (by rw [List.getElem?_set_self (by rw [List.length_map, atT_len]; exact hkM)])
      obtain ⟨V2, hV2⟩ : ∃ V, -V1 = V := ⟨_, rfl⟩
      have bd1 := ent_bd Hok.out (i := k) (j := u) (by have := HMN.out; omega) hu2
      have hw1 : IntKind.i64.wrap (-V1) = V2 := by rw [← hV2]; exact wrap_self (by rw [← HV1.out]; omega)
      have hw2 : wrap64 (-V1) = V2 := (wrap_w64 _).trans hw1
      have HV2 := Lib.hid hV2
      clear hV2 bd1
      have t0 : Y3.cell? ⟨tb, 0, none⟩ = some (.slice (some ⟨TA, 0, none⟩) M M) := cell_of_row _ (tb) 0 _ _ _ HBt.out
      go_upto_region 20 with fail
      refine wp_region_noPanic ?_
      refine wp_region_U (S := (fun w' => w'.cell? ⟨tb, 0, none⟩ = some (.slice (some ⟨TA, 0, none⟩) M M) ∧ w'.cell? ⟨TA, k, none⟩ = some (.int .i64 V1))) (k := 8) (by kernel_rfl) ⟨t0, tc⟩ (fun hHeld => ?_)
      refine wpAnyU_take (i := 0) (v := ?_) rfl (by kernel_rfl) (by kernel_rfl) (by kernel_rfl) (by kernel_rfl) (by kernel_rfl) (by kernel_rfl) (fun _ _ _ h => h) (Or.inl ⟨by rfl, ?_⟩) (by assumption) ?_
      rotate_left
      ·intro w hSw; (try dsimp only at hSw); go_simp; (try with_reducible rfl)
      try simp only [Act.put, List.getElem_toArray, List.getElem_cons_zero, List.setIfInBounds_toArray, List.set_cons_zero, List.set_cons_succ]
      refine wpAnyU_take (i := 1) (v := ?_) rfl (by kernel_rfl) (by kernel_rfl) (by kernel_rfl) (by kernel_rfl) (by kernel_rfl) (by kernel_rfl) (fun _ _ _ h => h) (Or.inl ⟨by rfl, ?_⟩) (by assumption) ?_
      rotate_left
      ·intro w hSw; (try dsimp only at hSw); go_simp; (try with_reducible rfl)
      try simp only [Act.put, List.getElem_toArray, List.getElem_cons_zero, List.getElem_cons_succ, List.setIfInBounds_toArray, List.set_cons_zero, List.set_cons_succ]
      refine wpAnyU_take (i := 2) (v := ?_) rfl (by kernel_rfl) (by kernel_rfl) (by kernel_rfl) (by kernel_rfl) (by kernel_rfl) (by kernel_rfl) (fun _ _ _ h => h) (Or.inl ⟨by rfl, ?_⟩) (by assumption) ?_
      rotate_left
      ·intro w hSw; (try dsimp only at hSw); go_simp; (try with_reducible rfl)
      try simp only [Act.put, List.getElem_toArray, List.getElem_cons_zero, List.getElem_cons_succ, List.setIfInBounds_toArray, List.set_cons_zero, List.set_cons_succ]
      refine wpAnyU_take (i := 3) (v := ?_) rfl (by kernel_rfl) (by kernel_rfl) (by kernel_rfl) (by kernel_rfl) (by kernel_rfl) (by kernel_rfl) (fun _ _ _ h => h) (Or.inl ⟨by rfl, ?_⟩) (by assumption) ?_
      rotate_left
      ·intro w hSw; (try dsimp only at hSw); go_simp; (try with_reducible rfl)
      try simp only [Act.put, List.getElem_toArray, List.getElem_cons_zero, List.getElem_cons_succ, List.setIfInBounds_toArray, List.set_cons_zero, List.set_cons_succ]
      refine wpAnyU_take (i := 4) (v := ?_) rfl (by kernel_rfl) (by kernel_rfl) (by kernel_rfl) (by kernel_rfl) (by kernel_rfl) (by kernel_rfl) (fun _ _ _ h => h) (Or.inl ⟨by rfl, ?_⟩) (by assumption) ?_
      rotate_left
      ·intro w hSw; (try dsimp only at hSw); go_simp; (try with_reducible rfl)
      try simp only [Act.put, List.getElem_toArray, List.getElem_cons_zero, List.getElem_cons_succ, List.setIfInBounds_toArray, List.set_cons_zero, List.set_cons_succ]
      refine wpAnyU_take (i := 5) (v := ?_) rfl (by kernel_rfl) (by kernel_rfl) (by kernel_rfl) (by kernel_rfl) (by kernel_rfl) (by kernel_rfl) (fun _ _ _ h => h) (Or.inl ⟨by rfl, ?_⟩) (by assumption) ?_
      rotate_left
      ·intro w hSw; (try dsimp only at hSw); go_simp; (try with_reducible rfl)
      try simp only [Act.put, List.getElem_toArray, List.getElem_cons_zero, List.getElem_cons_succ, List.setIfInBounds_toArray, List.set_cons_zero, List.set_cons_succ]
      refine wpAnyU_take (i := 6) (v := ?_) rfl (by kernel_rfl) (by kernel_rfl) (by kernel_rfl) (by kernel_rfl) (by kernel_rfl) (by kernel_rfl) (fun _ _ _ h => h) (Or.inl ⟨by rfl, ?_⟩) (by assumption) ?_
      rotate_left
      ·intro w hSw; (try dsimp only at hSw); go_simp; (try with_reducible rfl)
      try simp only [Act.put, List.getElem_toArray, List.getElem_cons_zero, List.getElem_cons_succ, List.setIfInBounds_toArray, List.set_cons_zero, List.set_cons_succ]
      refine wpAnyU_take (i := 7) (v := ?_) rfl (by kernel_rfl) (by kernel_rfl) (by kernel_rfl) (by kernel_rfl) (by kernel_rfl) (by kernel_rfl) (fun _ _ _ h => h) (Or.inl ⟨by rfl, ?_⟩) (by assumption) ?_
      rotate_left
      ·intro w hSw; (try dsimp only at hSw); go_simp; (try with_reducible rfl)
      try simp only [Act.put, List.getElem_toArray, List.getElem_cons_zero, List.getElem_cons_succ, List.setIfInBounds_toArray, List.set_cons_zero, List.set_cons_succ]
      have hb : Below Y3.heap.size Y3 Y3.drew := (Below.refl _ _).drew
      clear hHeld t0 tc
      replace HBz := Lib.hid (hp_keep4 HBz.out hb)
      replace HBq := Lib.hid (hp_keep4 HBq.out hb)
      replace HBx := Lib.hid (hp_keep4 HBx.out hb)
      replace HBa := Lib.hid (hp_keep4 HBa.out hb)
      replace HBs := Lib.hid (hp_keep4 HBs.out hb)
      replace HBt := Lib.hid (hp_keep4 HBt.out hb)
      replace HBi := Lib.hid (hp_keep4 HBi.out hb)
      replace HBT := Lib.hid (hp_keep4 HBT.out hb)
      replace HBI := Lib.hid (hp_keep4 HBI.out hb)
      replace HA := Lib.hid (OL.keepb HA.out hb)
      replace HW := Lib.hid (bt HW.out hb)
      clear hb
      generalize Y3.drew = Y4 at *
      have tc := row_at HBT.out (k := k) (v := .int .i64 V1) (by rw [List.getElem?_set_self (by rw [List.length_map, atT_len]; exact hkM)])
      have tf := row_fro HBT.out (k := k)
      have hqA := row_set (k := k) (v := .int .i64 V2) HBT.out
      have hqz := (st1k_ne (w := Y4) (b := TA) (i := k) (c := w.heap.size) (.int .i64 V2) (Nat.ne_of_lt (Nat.lt_of_lt_of_le haz gta))).trans HBz.out
      have hqq := (st1k_ne (w := Y4) (b := TA) (i := k) (c := w.heap.size + 1) (.int .i64 V2) (Nat.ne_of_lt (Nat.lt_of_lt_of_le haq gta))).trans HBq.out
      have hqx := (st1k_ne (w := Y4) (b := TA) (i := k) (c := XB) (.int .i64 V2) (Nat.ne_of_lt (Nat.lt_of_lt_of_le hax gta))).trans HBx.out
      have hqa := (st1k_ne (w := Y4) (b := TA) (i := k) (c := A) (.int .i64 V2) (Nat.ne_of_lt (Nat.lt_of_lt_of_le haa gta))).trans HBa.out
      have hqs := (st1k_ne (w := Y4) (b := TA) (i := k) (c := SB) (.int .i64 V2) (Nat.ne_of_lt (Nat.lt_of_lt_of_le has gta))).trans HBs.out
      have hqt := (st1k_ne (w := Y4) (b := TA) (i := k) (c := tb) (.int .i64 V2) (hp_ne HBt.out HBT.out (by decide))).trans HBt.out
      have hqi := (st1k_ne (w := Y4) (b := TA) (i := k) (c := ib) (.int .i64 V2) (hp_ne HBi.out HBT.out (by decide))).trans HBi.out
      have hqB := (st1k_ne (w := Y4) (b := TA) (i := k) (c := IA) (.int .i64 V2) (hp_ne HBI.out HBT.out (by decide))).trans HBI.out
      have hqw := HW.out.setCell (p := ⟨TA, k, none⟩) (show w.heap.size ≤ TA from gTw) (.int .i64 V2)
      have hqOA := ownsRow_other HA.out (a := ⟨TA, k, none⟩) (u := .int .i64 V2) (own_ne HA.out HBT.out (by decide))
      refine wpAnyU_ready (rs := [8]) (by kernel_rfl) (by simp) ?_
      refine AllReadyU.past rfl (by kernel_rfl) (fun K hK => ?_) AllReadyU.nil
      go_simp
      refine hK.out _ _ ?_
      clear hK K
      try simp only [Act.put, List.getElem_toArray, List.getElem_cons_zero, List.getElem_cons_succ, List.setIfInBounds_toArray, List.set_cons_zero, List.set_cons_succ]
      refine wpAnyU_done (by kernel_rfl) ?_ _
      refine NoPanic.normal ?_
      clear tc tf
      clear HW HA HBT HBI HBz HBq HBx HBa HBs HBt HBi
      generalize hgen : Y4.setCell ⟨TA, k, none⟩ (.int .i64 V2) = Y5 at *
      clear hgen
      have HBz := Lib.hid hqz
      have HBq := Lib.hid hqq
      have HBx := Lib.hid hqx
      have HBa := Lib.hid hqa
      have HBs := Lib.hid hqs
      have HBt := Lib.hid hqt
      have HBi := Lib.hid hqi
      have HBT := Lib.hid hqA
      have HBI := Lib.hid hqB
      have HW := Lib.hid hqw
      have HA := Lib.hid hqOA
      clear hqA hqB hqw hqOA hqz hqq hqx hqa hqs hqt hqi
      have ic := row_at HBI.out (k := k) (v := .bool b1) (by rw [List.getElem?_set_self (by rw [List.length_map, isT_len]; exact hkM)])
      have i0 : Y5.cell? ⟨ib, 0, none⟩ = some (.slice (some ⟨IA, 0, none⟩) M M) := cell_of_row _ (ib) 0 _ _ _ HBi.out
      have x0 : Y5.cell? ⟨XB, 0, none⟩ = some (.int .i64 (u : Int)) := cell_of_row _ (XB) 0 _ _ _ HBx.out
      have HAT := Lib.hid (show atF N xs u s k = V2 from by unfold atF; rw [if_neg HNS.out, HV1.out, HV2.out])
      have HNO := Lib.hid (show noF N xs u s k = decide (ent N xs k u = 1099511627776) from by unfold noF; rw [if_neg HNS.out])
      cases b1 with
      | false =>
       have HIS := Lib.hid (show isF N xs u s k = false from by unfold isF; rw [HNO.out]; have h := Hb1.out; simp at h; simp [h])
       go_upto_region 21 with fail
       refine wp_region_noPanic ?_
       refine wp_region_U (S := (fun w' => w'.cell? ⟨ib, 0, none⟩ = some (.slice (some ⟨IA, 0, none⟩) M M) ∧ w'.cell? ⟨IA, k, none⟩ = some (.bool false) ∧ w'.cell? ⟨XB, 0, none⟩ = some (.int .i64 u))) (k := 12) (by kernel_rfl) ⟨i0, ic, x0⟩ (fun hHeld => ?_)
       refine wpAnyU_take (i := 0) (v := ?_) rfl (by kernel_rfl) (by kernel_rfl) (by kernel_rfl) (by kernel_rfl) (by kernel_rfl) (by kernel_rfl) (fun _ _ _ h => h) (Or.inl ⟨by rfl, ?_⟩) (by assumption) ?_
       rotate_left
       ·intro w hSw; (try dsimp only at hSw); go_simp; (try with_reducible rfl)
       try simp only [Act.put, List.getElem_toArray, List.getElem_cons_zero, List.setIfInBounds_toArray, List.set_cons_zero, List.set_cons_succ]
       refine wpAnyU_take (i := 1) (v := ?_) rfl (by kernel_rfl) (by kernel_rfl) (by kernel_rfl) (by kernel_rfl) (by kernel_rfl) (by kernel_rfl) (fun _ _ _ h => h) (Or.inl ⟨by rfl, ?_⟩) (by assumption) ?_
       rotate_left
       ·intro w hSw; (try dsimp only at hSw); go_simp; (try with_reducible rfl)
       try simp only [Act.put, List.getElem_toArray, List.getElem_cons_zero, List.getElem_cons_succ, List.setIfInBounds_toArray, List.set_cons_zero, List.set_cons_succ]
       refine wpAnyU_take (i := 2) (v := ?_) rfl (by kernel_rfl) (by kernel_rfl) (by kernel_rfl) (by kernel_rfl) (by kernel_rfl) (by kernel_rfl) (fun _ _ _ h => h) (Or.inl ⟨by rfl, ?_⟩) (by assumption) ?_
       rotate_left
       ·intro w hSw; (try dsimp only at hSw); go_simp; (try with_reducible rfl)
       try simp only [Act.put, List.getElem_toArray, List.getElem_cons_zero, List.getElem_cons_succ, List.setIfInBounds_toArray, List.set_cons_zero, List.set_cons_succ]
       refine wpAnyU_take (i := 3) (v := ?_) rfl (by kernel_rfl) (by kernel_rfl) (by kernel_rfl) (by kernel_rfl) (by kernel_rfl) (by kernel_rfl) (fun _ _ _ h => h) (Or.inl ⟨by rfl, ?_⟩) (by assumption) ?_
       rotate_left
       ·intro w hSw; (try dsimp only at hSw); go_simp; (try with_reducible rfl)
       try simp only [Act.put, List.getElem_toArray, List.getElem_cons_zero, List.getElem_cons_succ, List.setIfInBounds_toArray, List.set_cons_zero, List.set_cons_succ]
       refine wpAnyU_take (i := 4) (v := ?_) rfl (by kernel_rfl) (by kernel_rfl) (by kernel_rfl) (by kernel_rfl) (by kernel_rfl) (by kernel_rfl) (fun _ _ _ h => h) (Or.inl ⟨by rfl, ?_⟩) (by assumption) ?_
       rotate_left
       ·intro w hSw; (try dsimp only at hSw); go_simp; (try with_reducible rfl)
       try simp only [Act.put, List.getElem_toArray, List.getElem_cons_zero, List.getElem_cons_succ, List.setIfInBounds_toArray, List.set_cons_zero, List.set_cons_succ]
       refine wpAnyU_take (i := 5) (v := ?_) rfl (by kernel_rfl) (by kernel_rfl) (by kernel_rfl) (by kernel_rfl) (by kernel_rfl) (by kernel_rfl) (fun _ _ _ h => h) (Or.inl ⟨by rfl, ?_⟩) (by assumption) ?_
       rotate_left
       ·intro w hSw; (try dsimp only at hSw); go_simp; (try with_reducible rfl)
       try simp only [Act.put, List.getElem_toArray, List.getElem_cons_zero, List.getElem_cons_succ, List.setIfInBounds_toArray, List.set_cons_zero, List.set_cons_succ]
       refine wpAnyU_take (i := 6) (v := ?_) rfl (by kernel_rfl) (by kernel_rfl) (by kernel_rfl) (by kernel_rfl) (by kernel_rfl) (by kernel_rfl) (fun _ _ _ h => h) (Or.inl ⟨by rfl, ?_⟩) (by assumption) ?_
       rotate_left
       ·intro w hSw; (try dsimp only at hSw); go_simp; (try with_reducible rfl)
       try simp only [Act.put, List.getElem_toArray, List.getElem_cons_zero, List.getElem_cons_succ, List.setIfInBounds_toArray, List.set_cons_zero, List.set_cons_succ]
       refine wpAnyU_take (i := 7) rfl (by kernel_rfl) (by kernel_rfl) (by kernel_rfl) (by kernel_rfl) (by kernel_rfl) (by kernel_rfl) (fun _ _ _ h => h) (Or.inr ⟨by rfl, rfl⟩) (by assumption) ?_
       try simp only [Act.put, List.getElem_toArray, List.getElem_cons_zero, List.getElem_cons_succ, List.setIfInBounds_toArray, List.set_cons_zero, List.set_cons_succ]
       refine wpAnyU_take (i := 8) rfl (by kernel_rfl) (by kernel_rfl) (by kernel_rfl) (by kernel_rfl) (by kernel_rfl) (by kernel_rfl) (fun _ _ _ h => h) (Or.inr ⟨by rfl, rfl⟩) (by assumption) ?_
       try simp only [Act.put, List.getElem_toArray, List.getElem_cons_zero, List.getElem_cons_succ, List.setIfInBounds_toArray, List.set_cons_zero, List.set_cons_succ]
       refine wpAnyU_take (i := 9) rfl (by kernel_rfl) (by kernel_rfl) (by kernel_rfl) (by kernel_rfl) (by kernel_rfl) (by kernel_rfl) (fun _ _ _ h => h) (Or.inr ⟨by rfl, rfl⟩) (by assumption) ?_
       try simp only [Act.put, List.getElem_toArray, List.getElem_cons_zero, List.getElem_cons_succ, List.setIfInBounds_toArray, List.set_cons_zero, List.set_cons_succ]
       refine wpAnyU_take (i := 10) (v := ?_) rfl (by kernel_rfl) (by kernel_rfl) (by kernel_rfl) (by kernel_rfl) (by kernel_rfl) (by kernel_rfl) (fun _ _ _ h => h) (Or.inl ⟨by rfl, ?_⟩) (by assumption) ?_
       rotate_left
       ·intro w hSw; (try dsimp only at hSw); go_simp; (try with_reducible rfl)
       try simp only [Act.put, List.getElem_toArray, List.getElem_cons_zero, List.getElem_cons_succ, List.setIfInBounds_toArray, List.set_cons_zero, List.set_cons_succ]
       refine wpAnyU_take (i := 11) (v := ?_) rfl (by kernel_rfl) (by kernel_rfl) (by kernel_rfl) (by kernel_rfl) (by kernel_rfl) (by kernel_rfl) (fun _ _ _ h => h) (Or.inl ⟨by rfl, ?_⟩) (by assumption) ?_
       rotate_left
       ·intro w hSw; (try dsimp only at hSw); go_simp; (try with_reducible rfl)
       try simp only [Act.put, List.getElem_toArray, List.getElem_cons_zero, List.getElem_cons_succ, List.setIfInBounds_toArray, List.set_cons_zero, List.set_cons_succ]
       have hb : Below Y5.heap.size Y5 Y5.drew := (Below.refl _ _).drew
       clear hHeld i0 ic x0
       replace HBz := Lib.hid (hp_keep4 HBz.out hb)
       replace HBq := Lib.hid (hp_keep4 HBq.out hb)
       replace HBx := Lib.hid (hp_keep4 HBx.out hb)
       replace HBa := Lib.hid (hp_keep4 HBa.out hb)
       replace HBs := Lib.hid (hp_keep4 HBs.out hb)
       replace HBt := Lib.hid (hp_keep4 HBt.out hb)
       replace HBi := Lib.hid (hp_keep4 HBi.out hb)
       replace HBT := Lib.hid (hp_keep4 HBT.out hb)
       replace HBI := Lib.hid (hp_keep4 HBI.out hb)
       replace HA := Lib.hid (OL.keepb HA.out hb)
       replace HW := Lib.hid (bt HW.out hb)
       clear hb
       generalize Y5.drew = Y6 at *
       have tc := row_at HBI.out (k := k) (v := .bool false) (by rw [List.getElem?_set_self (by rw [List.length_map, isT_len]; exact hkM)])
       have tf := row_fro HBI.out (k := k)
       have hqA := row_set (k := k) (v := .bool false) HBI.out
       have hqz := (st1k_ne (w := Y6) (b := IA) (i := k) (c := w.heap.size) (.bool false) (Nat.ne_of_lt (Nat.lt_of_lt_of_le haz gia))).trans HBz.out
       have hqq := (st1k_ne (w := Y6) (b := IA) (i := k) (c := w.heap.size + 1) (.bool false) (Nat.ne_of_lt (Nat.lt_of_lt_of_le haq gia))).trans HBq.out
       have hqx := (st1k_ne (w := Y6) (b := IA) (i := k) (c := XB) (.bool false) (Nat.ne_of_lt (Nat.lt_of_lt_of_le hax gia))).trans HBx.out
       have hqa := (st1k_ne (w := Y6) (b := IA) (i := k) (c := A) (.bool false) (Nat.ne_of_lt (Nat.lt_of_lt_of_le haa gia))).trans HBa.out
       have hqs := (st1k_ne (w := Y6) (b := IA) (i := k) (c := SB) (.bool false) (Nat.ne_of_lt (Nat.lt_of_lt_of_le has gia))).trans HBs.out
       have hqt := (st1k_ne (w := Y6) (b := IA) (i := k) (c := tb) (.bool false) (hp_ne HBt.out HBI.out (by decide))).trans HBt.out
       have hqi := (st1k_ne (w := Y6) (b := IA) (i := k) (c := ib) (.bool false) (hp_ne HBi.out HBI.out (by decide))).trans HBi.out
       have hqB := (st1k_ne (w := Y6) (b := IA) (i := k) (c := TA) (.bool false) (hp_ne HBT.out HBI.out (by decide))).trans HBT.out
       have hqw := HW.out.setCell (p := ⟨IA, k, none⟩) (show w.heap.size ≤ IA from gIw) (.bool false)
       have hqOA := ownsRow_other HA.out (a := ⟨IA, k, none⟩) (u := .bool false) (own_ne HA.out HBI.out (by decide))
       refine wpAnyU_ready (rs := [12]) (by kernel_rfl) (by simp) ?_
       refine AllReadyU.past rfl (by kernel_rfl) (fun K hK => ?_) AllReadyU.nil
       go_simp
       refine hK.out _ _ ?_
       clear hK K
       try simp only [Act.put, List.getElem_toArray, List.getElem_cons_zero, List.getElem_cons_succ, List.setIfInBounds_toArray, List.set_cons_zero, List.set_cons_succ]
       refine wpAnyU_done (by kernel_rfl) ?_ _
       refine NoPanic.normal ?_
       clear tc tf
       clear HW HA HBT HBI HBz HBq HBx HBa HBs HBt HBi
       generalize hgen : Y6.setCell ⟨IA, k, none⟩ (.bool false) = Y7 at *
       clear hgen
       have HBz := Lib.hid hqz
       have HBq := Lib.hid hqq
       have HBx := Lib.hid hqx
       have HBa := Lib.hid hqa
       have HBs := Lib.hid hqs
       have HBt := Lib.hid hqt
       have HBi := Lib.hid hqi
       have HBI := Lib.hid hqA
       have HBT := Lib.hid hqB
       have HW := Lib.hid hqw
       have HA := Lib.hid hqOA
       clear hqA hqB hqw hqOA hqz hqq hqx hqa hqs hqt hqi
       have HQT := Lib.hid (show Y7.heap[TA]? = some (.cells ((atT N xs u s M (k + 1)).map (Value.int .i64)).toArray 2 (0, 0)) from by
        rw [← atT_set N xs u s hkM, List.map_set, HAT.out]
        have h := HBT.out
        rwa [List.set_set] at h)
       have HQI := Lib.hid (show Y7.heap[IA]? = some (.cells ((isT N xs u s M (k + 1)).map Value.bool).toArray 4 (0, 0)) from by
        rw [← isT_set N xs u s hkM, List.map_set, HIS.out]
        have h := HBI.out
        rwa [List.set_set] at h)
       go_wp2_with fail
       go_roundw
       case rel => exact ⟨k + 1, by omega, by go_num, HBz.out, HBq.out, HBx.out, HBa.out, HBs.out, HBt.out, HBi.out, HQT.out, HQI.out, HA.out, HW.out⟩
       case measure => simp [intOf]; omega
      | true =>
       have HNN := Lib.hid (show noF N xs u s k = false from by rw [HNO.out]; have h := Hb1.out; simp at h; simp [h])
       by_cases hku : k = u
       ·have hkb : ((k : Int) != (u : Int)) = false := by simp; omega
        have HIS := Lib.hid (show isF N xs u s k = false from by unfold isF; rw [HNN.out]; simp [hku])
        clear hku
        go_upto_region 21 with fail
        refine wp_region_noPanic ?_
        refine wp_region_U (S := (fun w' => w'.cell? ⟨ib, 0, none⟩ = some (.slice (some ⟨IA, 0, none⟩) M M) ∧ w'.cell? ⟨IA, k, none⟩ = some (.bool true) ∧ w'.cell? ⟨XB, 0, none⟩ = some (.int .i64 u))) (k := 12) (by kernel_rfl) ⟨i0, ic, x0⟩ (fun hHeld => ?_)
        refine wpAnyU_take (i := 0) (v := ?_) rfl (by kernel_rfl) (by kernel_rfl) (by kernel_rfl) (by kernel_rfl) (by kernel_rfl) (by kernel_rfl) (fun _ _ _ h => h) (Or.inl ⟨by rfl, ?_⟩) (by assumption) ?_
        rotate_left
        ·intro w hSw; (try dsimp only at hSw); go_simp; (try with_reducible rfl)
        try simp only [Act.put, List.getElem_toArray, List.getElem_cons_zero, List.setIfInBounds_toArray, List.set_cons_zero, List.set_cons_succ]
        refine wpAnyU_take (i := 1) (v := ?_) rfl (by kernel_rfl) (by kernel_rfl) (by kernel_rfl) (by kernel_rfl) (by kernel_rfl) (by kernel_rfl) (fun _ _ _ h => h) (Or.inl ⟨by rfl, ?_⟩) (by assumption) ?_
        rotate_left
        ·intro w hSw; (try dsimp only at hSw); go_simp; (try with_reducible rfl)
        try simp only [Act.put, List.getElem_toArray, List.getElem_cons_zero, List.getElem_cons_succ, List.setIfInBounds_toArray, List.set_cons_zero, List.set_cons_succ]
        refine wpAnyU_take (i := 2) (v := ?_) rfl (by kernel_rfl) (by kernel_rfl) (by kernel_rfl) (by kernel_rfl) (by kernel_rfl) (by kernel_rfl) (fun _ _ _ h => h) (Or.inl ⟨by rfl, ?_⟩) (by assumption) ?_
        rotate_left
        ·intro w hSw; (try dsimp only at hSw); go_simp; (try with_reducible rfl)
        try simp only [Act.put, List.getElem_toArray, List.getElem_cons_zero, List.getElem_cons_succ, List.setIfInBounds_toArray, List.set_cons_zero, List.set_cons_succ]
        refine wpAnyU_take (i := 3) (v := ?_) rfl (by kernel_rfl) (by kernel_rfl) (by kernel_rfl) (by kernel_rfl) (by kernel_rfl) (by kernel_rfl) (fun _ _ _ h => h) (Or.inl ⟨by rfl, ?_⟩) (by assumption) ?_
        rotate_left
        ·intro w hSw; (try dsimp only at hSw); go_simp; (try with_reducible rfl)
        try simp only [Act.put, List.getElem_toArray, List.getElem_cons_zero, List.getElem_cons_succ, List.setIfInBounds_toArray, List.set_cons_zero, List.set_cons_succ]
        refine wpAnyU_take (i := 4) (v := ?_) rfl (by kernel_rfl) (by kernel_rfl) (by kernel_rfl) (by kernel_rfl) (by kernel_rfl) (by kernel_rfl) (fun _ _ _ h => h) (Or.inl ⟨by rfl, ?_⟩) (by assumption) ?_
        rotate_left
        ·intro w hSw; (try dsimp only at hSw); go_simp; (try with_reducible rfl)
        try simp only [Act.put, List.getElem_toArray, List.getElem_cons_zero, List.getElem_cons_succ, List.setIfInBounds_toArray, List.set_cons_zero, List.set_cons_succ]
        refine wpAnyU_take (i := 5) (v := ?_) rfl (by kernel_rfl) (by kernel_rfl) (by kernel_rfl) (by kernel_rfl) (by kernel_rfl) (by kernel_rfl) (fun _ _ _ h => h) (Or.inl ⟨by rfl, ?_⟩) (by assumption) ?_
        rotate_left
        ·intro w hSw; (try dsimp only at hSw); go_simp; (try with_reducible rfl)
        try simp only [Act.put, List.getElem_toArray, List.getElem_cons_zero, List.getElem_cons_succ, List.setIfInBounds_toArray, List.set_cons_zero, List.set_cons_succ]
        refine wpAnyU_take (i := 6) (v := ?_) rfl (by kernel_rfl) (by kernel_rfl) (by kernel_rfl) (by kernel_rfl) (by kernel_rfl) (by kernel_rfl) (fun _ _ _ h => h) (Or.inl ⟨by rfl, ?_⟩) (by assumption) ?_
        rotate_left
        ·intro w hSw; (try dsimp only at hSw); go_simp; (try with_reducible rfl)
        try simp only [Act.put, List.getElem_toArray, List.getElem_cons_zero, List.getElem_cons_succ, List.setIfInBounds_toArray, List.set_cons_zero, List.set_cons_succ]
        refine wpAnyU_take (i := 7) (v := ?_) rfl (by kernel_rfl) (by kernel_rfl) (by kernel_rfl) (by kernel_rfl) (by kernel_rfl) (by kernel_rfl) (fun _ _ _ h => h) (Or.inl ⟨by rfl, ?_⟩) (by assumption) ?_
        rotate_left
        ·intro w hSw; (try dsimp only at hSw); go_simp; (try with_reducible rfl)
        try simp only [Act.put, List.getElem_toArray, List.getElem_cons_zero, List.getElem_cons_succ, List.setIfInBounds_toArray, List.set_cons_zero, List.set_cons_succ]
        refine wpAnyU_take (i := 8) (v := ?_) rfl (by kernel_rfl) (by kernel_rfl) (by kernel_rfl) (by kernel_rfl) (by kernel_rfl) (by kernel_rfl) (fun _ _ _ h => h) (Or.inl ⟨by rfl, ?_⟩) (by assumption) ?_
        rotate_left
        ·intro w hSw; (try dsimp only at hSw); go_simp; (try with_reducible rfl)
        try simp only [Act.put, List.getElem_toArray, List.getElem_cons_zero, List.getElem_cons_succ, List.setIfInBounds_toArray, List.set_cons_zero, List.set_cons_succ]
        refine wpAnyU_take (i := 9) (v := ?_) rfl (by kernel_rfl) (by kernel_rfl) (by kernel_rfl) (by kernel_rfl) (by kernel_rfl) (by kernel_rfl) (fun _ _ _ h => h) (Or.inl ⟨by rfl, ?_⟩) (by assumption) ?_
        rotate_left
        ·intro w hSw; (try dsimp only at hSw); go_simp; (try with_reducible rfl)
        try simp only [Act.put, List.getElem_toArray, List.getElem_cons_zero, List.getElem_cons_succ, List.setIfInBounds_toArray, List.set_cons_zero, List.set_cons_succ]
        refine wpAnyU_take (i := 10) (v := ?_) rfl (by kernel_rfl) (by kernel_rfl) (by kernel_rfl) (by kernel_rfl) (by kernel_rfl) (by kernel_rfl) (fun _ _ _ h => h) (Or.inl ⟨by rfl, ?_⟩) (by assumption) ?_
        rotate_left
        ·intro w hSw; (try dsimp only at hSw); go_simp; (try with_reducible rfl)
        try simp only [Act.put, List.getElem_toArray, List.getElem_cons_zero, List.getElem_cons_succ, List.setIfInBounds_toArray, List.set_cons_zero, List.set_cons_succ]
        refine wpAnyU_take (i := 11) (v := ?_) rfl (by kernel_rfl) (by kernel_rfl) (by kernel_rfl) (by kernel_rfl) (by kernel_rfl) (by kernel_rfl) (fun _ _ _ h => h) (Or.inl ⟨by rfl, ?_⟩) (by assumption) ?_
        rotate_left
        ·intro w hSw; (try dsimp only at hSw); go_simp; (try with_reducible rfl)
        try simp only [Act.put, List.getElem_toArray, List.getElem_cons_zero, List.getElem_cons_succ, List.setIfInBounds_toArray, List.set_cons_zero, List.set_cons_succ]
        have hb : Below Y5.heap.size Y5 Y5.drew := (Below.refl _ _).drew
        clear hHeld i0 ic x0
        replace HBz := Lib.hid (hp_keep4 HBz.out hb)
        replace HBq := Lib.hid (hp_keep4 HBq.out hb)
        replace HBx := Lib.hid (hp_keep4 HBx.out hb)
        replace HBa := Lib.hid (hp_keep4 HBa.out hb)
        replace HBs := Lib.hid (hp_keep4 HBs.out hb)
        replace HBt := Lib.hid (hp_keep4 HBt.out hb)
        replace HBi := Lib.hid (hp_keep4 HBi.out hb)
        replace HBT := Lib.hid (hp_keep4 HBT.out hb)
        replace HBI := Lib.hid (hp_keep4 HBI.out hb)
        replace HA := Lib.hid (OL.keepb HA.out hb)
        replace HW := Lib.hid (bt HW.out hb)
        clear hb
        generalize Y5.drew = Y6 at *
        have tc := row_at HBI.out (k := k) (v := .bool true) (by rw [List.getElem?_set_self (by rw [List.length_map, isT_len]; exact hkM)])
        have tf := row_fro HBI.out (k := k)
        have hqA := row_set (k := k) (v := .bool false) HBI.out
        have hqz := (st1k_ne (w := Y6) (b := IA) (i := k) (c := w.heap.size) (.bool false) (Nat.ne_of_lt (Nat.lt_of_lt_of_le haz gia))).trans HBz.out
        have hqq := (st1k_ne (w := Y6) (b := IA) (i := k) (c := w.heap.size + 1) (.bool false) (Nat.ne_of_lt (Nat.lt_of_lt_of_le haq gia))).trans HBq.out
        have hqx := (st1k_ne (w := Y6) (b := IA) (i := k) (c := XB) (.bool false) (Nat.ne_of_lt (Nat.lt_of_lt_of_le hax gia))).trans HBx.out
        have hqa := (st1k_ne (w := Y6) (b := IA) (i := k) (c := A) (.bool false) (Nat.ne_of_lt (Nat.lt_of_lt_of_le haa gia))).trans HBa.out
        have hqs := (st1k_ne (w := Y6) (b := IA) (i := k) (c := SB) (.bool false) (Nat.ne_of_lt (Nat.lt_of_lt_of_le has gia))).trans HBs.out
        have hqt := (st1k_ne (w := Y6) (b := IA) (i := k) (c := tb) (.bool false) (hp_ne HBt.out HBI.out (by decide))).trans HBt.out
        have hqi := (st1k_ne (w := Y6) (b := IA) (i := k) (c := ib) (.bool false) (hp_ne HBi.out HBI.out (by decide))).trans HBi.out
        have hqB := (st1k_ne (w := Y6) (b := IA) (i := k) (c := TA) (.bool false) (hp_ne HBT.out HBI.out (by decide))).trans HBT.out
        have hqw := HW.out.setCell (p := ⟨IA, k, none⟩) (show w.heap.size ≤ IA from gIw) (.bool false)
        have hqOA := ownsRow_other HA.out (a := ⟨IA, k, none⟩) (u := .bool false) (own_ne HA.out HBI.out (by decide))
        refine wpAnyU_ready (rs := [12]) (by kernel_rfl) (by simp) ?_
        refine AllReadyU.past rfl (by kernel_rfl) (fun K hK => ?_) AllReadyU.nil
        go_simp
        refine hK.out _ _ ?_
        clear hK K
        try simp only [Act.put, List.getElem_toArray, List.getElem_cons_zero, List.getElem_cons_succ, List.setIfInBounds_toArray, List.set_cons_zero, List.set_cons_succ]
        refine wpAnyU_done (by kernel_rfl) ?_ _
        refine NoPanic.normal ?_
        clear tc tf
        clear HW HA HBT HBI HBz HBq HBx HBa HBs HBt HBi
        generalize hgen : Y6.setCell ⟨IA, k, none⟩ (.bool false) = Y7 at *
        clear hgen
        have HBz := Lib.hid hqz
        have HBq := Lib.hid hqq
        have HBx := Lib.hid hqx
        have HBa := Lib.hid hqa
        have HBs := Lib.hid hqs
        have HBt := Lib.hid hqt
        have HBi := Lib.hid hqi
        have HBI := Lib.hid hqA
        have HBT := Lib.hid hqB
        have HW := Lib.hid hqw
        have HA := Lib.hid hqOA
        clear hqA hqB hqw hqOA hqz hqq hqx hqa hqs hqt hqi
        have HQT := Lib.hid (show Y7.heap[TA]? = some (.cells ((atT N xs u s M (k + 1)).map (Value.int .i64)).toArray 2 (0, 0)) from by
         rw [← atT_set N xs u s hkM, List.map_set, HAT.out]
         have h := HBT.out
         rwa [List.set_set] at h)
        have HQI := Lib.hid (show Y7.heap[IA]? = some (.cells ((isT N xs u s M (k + 1)).map Value.bool).toArray 4 (0, 0)) from by
         rw [← isT_set N xs u s hkM, List.map_set, HIS.out]
         have h := HBI.out
         rwa [List.set_set] at h)
        go_wp2_with fail
        go_roundw
        case rel => exact ⟨k + 1, by omega, by go_num, HBz.out, HBq.out, HBx.out, HBa.out, HBs.out, HBt.out, HBi.out, HQT.out, HQI.out, HA.out, HW.out⟩
        case measure => simp [intOf]; omega
       have hkb : ((k : Int) != (u : Int)) = true := by simp; omega
       have HIS := Lib.hid (show isF N xs u s k = true from by unfold isF; rw [HNN.out]; simp [hku])
       go_upto_region 21 with fail
       refine wp_region_noPanic ?_
       refine wp_region_U (S := (fun w' => w'.cell? ⟨ib, 0, none⟩ = some (.slice (some ⟨IA, 0, none⟩) M M) ∧ w'.cell? ⟨IA, k, none⟩ = some (.bool true) ∧ w'.cell? ⟨XB, 0, none⟩ = some (.int .i64 u))) (k := 12) (by kernel_rfl) ⟨i0, ic, x0⟩ (fun hHeld => ?_)
       refine wpAnyU_take (i := 0) (v := ?_) rfl (by kernel_rfl) (by kernel_rfl) (by kernel_rfl) (by kernel_rfl) (by kernel_rfl) (by kernel_rfl) (fun _ _ _ h => h) (Or.inl ⟨by rfl, ?_⟩) (by assumption) ?_
       rotate_left
       ·intro w hSw; (try dsimp only at hSw); go_simp; (try with_reducible rfl)
       try simp only [Act.put, List.getElem_toArray, List.getElem_cons_zero, List.setIfInBounds_toArray, List.set_cons_zero, List.set_cons_succ]
       refine wpAnyU_take (i := 1) (v := ?_) rfl (by kernel_rfl) (by kernel_rfl) (by kernel_rfl) (by kernel_rfl) (by kernel_rfl) (by kernel_rfl) (fun _ _ _ h => h) (Or.inl ⟨by rfl, ?_⟩) (by assumption) ?_
       rotate_left
       ·intro w hSw; (try dsimp only at hSw); go_simp; (try with_reducible rfl)
       try simp only [Act.put, List.getElem_toArray, List.getElem_cons_zero, List.getElem_cons_succ, List.setIfInBounds_toArray, List.set_cons_zero, List.set_cons_succ]
       refine wpAnyU_take (i := 2) (v := ?_) rfl (by kernel_rfl) (by kernel_rfl) (by kernel_rfl) (by kernel_rfl) (by kernel_rfl) (by kernel_rfl) (fun _ _ _ h => h) (Or.inl ⟨by rfl, ?_⟩) (by assumption) ?_
       rotate_left
       ·intro w hSw; (try dsimp only at hSw); go_simp; (try with_reducible rfl)
       try simp only [Act.put, List.getElem_toArray, List.getElem_cons_zero, List.getElem_cons_succ, List.setIfInBounds_toArray, List.set_cons_zero, List.set_cons_succ]
       refine wpAnyU_take (i := 3) (v := ?_) rfl (by kernel_rfl) (by kernel_rfl) (by kernel_rfl) (by kernel_rfl) (by kernel_rfl) (by kernel_rfl) (fun _ _ _ h => h) (Or.inl ⟨by rfl, ?_⟩) (by assumption) ?_
       rotate_left
       ·intro w hSw; (try dsimp only at hSw); go_simp; (try with_reducible rfl)
       try simp only [Act.put, List.getElem_toArray, List.getElem_cons_zero, List.getElem_cons_succ, List.setIfInBounds_toArray, List.set_cons_zero, List.set_cons_succ]
       refine wpAnyU_take (i := 4) (v := ?_) rfl (by kernel_rfl) (by kernel_rfl) (by kernel_rfl) (by kernel_rfl) (by kernel_rfl) (by kernel_rfl) (fun _ _ _ h => h) (Or.inl ⟨by rfl, ?_⟩) (by assumption) ?_
       rotate_left
       ·intro w hSw; (try dsimp only at hSw); go_simp; (try with_reducible rfl)
       try simp only [Act.put, List.getElem_toArray, List.getElem_cons_zero, List.getElem_cons_succ, List.setIfInBounds_toArray, List.set_cons_zero, List.set_cons_succ]
       refine wpAnyU_take (i := 5) (v := ?_) rfl (by kernel_rfl) (by kernel_rfl) (by kernel_rfl) (by kernel_rfl) (by kernel_rfl) (by kernel_rfl) (fun _ _ _ h => h) (Or.inl ⟨by rfl, ?_⟩) (by assumption) ?_
       rotate_left
       ·intro w hSw; (try dsimp only at hSw); go_simp; (try with_reducible rfl)
       try simp only [Act.put, List.getElem_toArray, List.getElem_cons_zero, List.getElem_cons_succ, List.setIfInBounds_toArray, List.set_cons_zero, List.set_cons_succ]
       refine wpAnyU_take (i := 6) (v := ?_) rfl (by kernel_rfl) (by kernel_rfl) (by kernel_rfl) (by kernel_rfl) (by kernel_rfl) (by kernel_rfl) (fun _ _ _ h => h) (Or.inl ⟨by rfl, ?_⟩) (by assumption) ?_
       rotate_left
       ·intro w hSw; (try dsimp only at hSw); go_simp; (try with_reducible rfl)
       try simp only [Act.put, List.getElem_toArray, List.getElem_cons_zero, List.getElem_cons_succ, List.setIfInBounds_toArray, List.set_cons_zero, List.set_cons_succ]
       refine wpAnyU_take (i := 7) (v := ?_) rfl (by kernel_rfl) (by kernel_rfl) (by kernel_rfl) (by kernel_rfl) (by kernel_rfl) (by kernel_rfl) (fun _ _ _ h => h) (Or.inl ⟨by rfl, ?_⟩) (by assumption) ?_
       rotate_left
       ·intro w hSw; (try dsimp only at hSw); go_simp; (try with_reducible rfl)
       try simp only [Act.put, List.getElem_toArray, List.getElem_cons_zero, List.getElem_cons_succ, List.setIfInBounds_toArray, List.set_cons_zero, List.set_cons_succ]
       refine wpAnyU_take (i := 8) (v := ?_) rfl (by kernel_rfl) (by kernel_rfl) (by kernel_rfl) (by kernel_rfl) (by kernel_rfl) (by kernel_rfl) (fun _ _ _ h => h) (Or.inl ⟨by rfl, ?_⟩) (by assumption) ?_
       rotate_left
       ·intro w hSw; (try dsimp only at hSw); go_simp; (try with_reducible rfl)
       try simp only [Act.put, List.getElem_toArray, List.getElem_cons_zero, List.getElem_cons_succ, List.setIfInBounds_toArray, List.set_cons_zero, List.set_cons_succ]
       refine wpAnyU_take (i := 9) (v := ?_) rfl (by kernel_rfl) (by kernel_rfl) (by kernel_rfl) (by kernel_rfl) (by kernel_rfl) (by kernel_rfl) (fun _ _ _ h => h) (Or.inl ⟨by rfl, ?_⟩) (by assumption) ?_
       rotate_left
       ·intro w hSw; (try dsimp only at hSw); go_simp; (try with_reducible rfl)
       try simp only [Act.put, List.getElem_toArray, List.getElem_cons_zero, List.getElem_cons_succ, List.setIfInBounds_toArray, List.set_cons_zero, List.set_cons_succ]
       refine wpAnyU_take (i := 10) (v := ?_) rfl (by kernel_rfl) (by kernel_rfl) (by kernel_rfl) (by kernel_rfl) (by kernel_rfl) (by kernel_rfl) (fun _ _ _ h => h) (Or.inl ⟨by rfl, ?_⟩) (by assumption) ?_
       rotate_left
       ·intro w hSw; (try dsimp only at hSw); go_simp; (try with_reducible rfl)
       try simp only [Act.put, List.getElem_toArray, List.getElem_cons_zero, List.getElem_cons_succ, List.setIfInBounds_toArray, List.set_cons_zero, List.set_cons_succ]
       refine wpAnyU_take (i := 11) (v := ?_) rfl (by kernel_rfl) (by kernel_rfl) (by kernel_rfl) (by kernel_rfl) (by kernel_rfl) (by kernel_rfl) (fun _ _ _ h => h) (Or.inl ⟨by rfl, ?_⟩) (by assumption) ?_
       rotate_left
       ·intro w hSw; (try dsimp only at hSw); go_simp; (try with_reducible rfl)
       try simp only [Act.put, List.getElem_toArray, List.getElem_cons_zero, List.getElem_cons_succ, List.setIfInBounds_toArray, List.set_cons_zero, List.set_cons_succ]
       have hb : Below Y5.heap.size Y5 Y5.drew := (Below.refl _ _).drew
       clear hHeld i0 ic x0
       replace HBz := Lib.hid (hp_keep4 HBz.out hb)
       replace HBq := Lib.hid (hp_keep4 HBq.out hb)
       replace HBx := Lib.hid (hp_keep4 HBx.out hb)
       replace HBa := Lib.hid (hp_keep4 HBa.out hb)
       replace HBs := Lib.hid (hp_keep4 HBs.out hb)
       replace HBt := Lib.hid (hp_keep4 HBt.out hb)
       replace HBi := Lib.hid (hp_keep4 HBi.out hb)
       replace HBT := Lib.hid (hp_keep4 HBT.out hb)
       replace HBI := Lib.hid (hp_keep4 HBI.out hb)
       replace HA := Lib.hid (OL.keepb HA.out hb)
       replace HW := Lib.hid (bt HW.out hb)
       clear hb
       generalize Y5.drew = Y6 at *
       have tc := row_at HBI.out (k := k) (v := .bool true) (by rw [List.getElem?_set_self (by rw [List.length_map, isT_len]; exact hkM)])
       have tf := row_fro HBI.out (k := k)
       have hqA := row_set (k := k) (v := .bool true) HBI.out
       have hqz := (st1k_ne (w := Y6) (b := IA) (i := k) (c := w.heap.size) (.bool true) (Nat.ne_of_lt (Nat.lt_of_lt_of_le haz gia))).trans HBz.out
       have hqq := (st1k_ne (w := Y6) (b := IA) (i := k) (c := w.heap.size + 1) (.bool true) (Nat.ne_of_lt (Nat.lt_of_lt_of_le haq gia))).trans HBq.out
       have hqx := (st1k_ne (w := Y6) (b := IA) (i := k) (c := XB) (.bool true) (Nat.ne_of_lt (Nat.lt_of_lt_of_le hax gia))).trans HBx.out
       have hqa := (st1k_ne (w := Y6) (b := IA) (i := k) (c := A) (.bool true) (Nat.ne_of_lt (Nat.lt_of_lt_of_le haa gia))).trans HBa.out
       have hqs := (st1k_ne (w := Y6) (b := IA) (i := k) (c := SB) (.bool true) (Nat.ne_of_lt (Nat.lt_of_lt_of_le has gia))).trans HBs.out
       have hqt := (st1k_ne (w := Y6) (b := IA) (i := k) (c := tb) (.bool true) (hp_ne HBt.out HBI.out (by decide))).trans HBt.out
       have hqi := (st1k_ne (w := Y6) (b := IA) (i := k) (c := ib) (.bool true) (hp_ne HBi.out HBI.out (by decide))).trans HBi.out
       have hqB := (st1k_ne (w := Y6) (b := IA) (i := k) (c := TA) (.bool true) (hp_ne HBT.out HBI.out (by decide))).trans HBT.out
       have hqw := HW.out.setCell (p := ⟨IA, k, none⟩) (show w.heap.size ≤ IA from gIw) (.bool true)
       have hqOA := ownsRow_other HA.out (a := ⟨IA, k, none⟩) (u := .bool true) (own_ne HA.out HBI.out (by decide))
       refine wpAnyU_ready (rs := [12]) (by kernel_rfl) (by simp) ?_
       refine AllReadyU.past rfl (by kernel_rfl) (fun K hK => ?_) AllReadyU.nil
       go_simp
       refine hK.out _ _ ?_
       clear hK K
       try simp only [Act.put, List.getElem_toArray, List.getElem_cons_zero, List.getElem_cons_succ, List.setIfInBounds_toArray, List.set_cons_zero, List.set_cons_succ]
       refine wpAnyU_done (by kernel_rfl) ?_ _
       refine NoPanic.normal ?_
       clear tc tf
       clear HW HA HBT HBI HBz HBq HBx HBa HBs HBt HBi
       generalize hgen : Y6.setCell ⟨IA, k, none⟩ (.bool true) = Y7 at *
       clear hgen
       have HBz := Lib.hid hqz
       have HBq := Lib.hid hqq
       have HBx := Lib.hid hqx
       have HBa := Lib.hid hqa
       have HBs := Lib.hid hqs
       have HBt := Lib.hid hqt
       have HBi := Lib.hid hqi
       have HBI := Lib.hid hqA
       have HBT := Lib.hid hqB
       have HW := Lib.hid hqw
       have HA := Lib.hid hqOA
       clear hqA hqB hqw hqOA hqz hqq hqx hqa hqs hqt hqi
       have HQT := Lib.hid (show Y7.heap[TA]? = some (.cells ((atT N xs u s M (k + 1)).map (Value.int .i64)).toArray 2 (0, 0)) from by
        rw [← atT_set N xs u s hkM, List.map_set, HAT.out]
        have h := HBT.out
        rwa [List.set_set] at h)
       have HQI := Lib.hid (show Y7.heap[IA]? = some (.cells ((isT N xs u s M (k + 1)).map Value.bool).toArray 4 (0, 0)) from by
        rw [← isT_set N xs u s hkM, List.map_set, HIS.out]
        have h := HBI.out
        rwa [List.set_set] at h)
       go_wp2_with fail
       go_roundw
       case rel => exact ⟨k + 1, by omega, by go_num, HBz.out, HBq.out, HBx.out, HBa.out, HBs.out, HBt.out, HBi.out, HQT.out, HQI.out, HA.out, HW.out⟩
       case measure => simp [intOf]; omega
     have htk : decide ((k : Int) < (M : Int)) = false := by simp; omega
     have hkE : k = M := by omega
     have HBT2 := Lib.hid (show wr.heap[TA]? = some (.cells ((atLz N xs u s M).map (Value.int .i64)).toArray 2 (0, 0)) from by have h := HBT.out; rw [hkE, atT_all] at h; exact h)
     have HBI2 := Lib.hid (show wr.heap[IA]? = some (.cells ((isLz N xs u s M).map Value.bool).toArray 4 (0, 0)) from by have h := HBI.out; rw [hkE, isT_all] at h; exact h)
     clear HBT HBI hkE
     have HBT := HBT2
     have HBI := HBI2
     clear HBT2 HBI2
     have HCT := Lib.hid (fun (Y : World) (h : Y.heap[IA]? = some (.cells ((isLz N xs u s M).map Value.bool).toArray 4 (0, 0))) => (by have h2 := contains_bool IA M (isLz N xs u s M) Y (by simp [isLz]; omega) h; rw [anyF_isL HMN.out] at h2; rw [show (isLz N xs u s M).length = M by simp [isLz]] at h2; exact h2 : Calls Tryz.prog 73 #[.slice (some ⟨IA, 0, none⟩) M M, .bool true] Y fun e w' => e = .returned (.bool (anyF N xs u s)) ∧ Below Y.heap.size Y w'))
     have i0 : wr.cell? ⟨ib, 0, none⟩ = some (.slice (some ⟨IA, 0, none⟩) M M) := cell_of_row _ (ib) 0 _ _ _ HBi.out
     go_wp2_with fail
     refine (HCT.out _ HBI.out).mono ?_
     rintro e w7 ⟨rfl, hb⟩
     clear HCT
     clear i0
     replace HBz := Lib.hid (hp_keep4 HBz.out hb)
     replace HBq := Lib.hid (hp_keep4 HBq.out hb)
     replace HBx := Lib.hid (hp_keep4 HBx.out hb)
     replace HBa := Lib.hid (hp_keep4 HBa.out hb)
     replace HBs := Lib.hid (hp_keep4 HBs.out hb)
     replace HBt := Lib.hid (hp_keep4 HBt.out hb)
     replace HBi := Lib.hid (hp_keep4 HBi.out hb)
     replace HBT := Lib.hid (hp_keep4 HBT.out hb)
     replace HBI := Lib.hid (hp_keep4 HBI.out hb)
     replace HA := Lib.hid (OL.keepb HA.out hb)
     replace HW := Lib.hid (bt HW.out hb)
     clear hb
     cases hany : anyF N xs u s with
     | false =>
      have HF := Lib.hid (preset_down HPRE.out HSL.out HS0.out hany)
      clear hany
      go_wp2_with fail
      exact bodyPost_ret (v := .tuple #[.slice none 0 0, .int .i64 9]) (by simp [results, Tryz.results21, go_sem]) rfl ⟨GaP.err HF.out _, HW.out⟩
     | true =>
      have z0 : w7.cell? ⟨w.heap.size, 0, none⟩ = some (.int .i64 N) := cell_of_row _ (w.heap.size) 0 _ _ _ HBz.out
      have z1 : w7.cell? ⟨w.heap.size, 1, none⟩ = some (.slice ao xs.length cap) := cell_of_row _ (w.heap.size) 1 _ _ _ HBz.out
      have z2 : w7.cell? ⟨w.heap.size, 2, none⟩ = some (.int .i64 c) := cell_of_row _ (w.heap.size) 2 _ _ _ HBz.out
      have z3 : w7.cell? ⟨w.heap.size, 3, none⟩ = some (.slice (some ⟨br, offr, none⟩) rs.length capr) := cell_of_row _ (w.heap.size) 3 _ _ _ HBz.out
      have HLd := Lib.hid (OE.nil cdPz 35 w7.heap.size w7)
      obtain ⟨⟨L, e9⟩, hGA⟩ : ∃ Q, gaF [] (rG N xs c rs ws u s) 0 N = Q := ⟨_, rfl⟩
      have HF := Lib.hid (show presetF N xs c rs u tv = (L, e9) from (preset_ga HPRE.out HSL.out HS0.out hany HRV.out).trans hGA)
      have hWs := HW.out.size
      clear hany
      go_wp2_with fail
      refine (prog_gather N 0 (.slice none 0 0) _ [] (rG N xs c rs ws u s) w7.heap.size w7 (Nat.le_refl _) HLd.out (LZ.nil _) hN (by simp) (mk_rst1 N M u ib tb SB A XB w.heap.size IA TA 0 c s _ _ _ xs rs ws w w7 HMN.out HBi.out HBt.out HBI.out HBT.out HBs.out HBa.out HBx.out HBz.out HW.out Hv.out Hr.out HA.out Hok.out Hlr.out hu1 hu2)).mono ?_
      rintro e w8 ⟨hga, hgr⟩
      rw [show ([] : List Pz).map pvOf = [] from rfl, hGA] at hga
      obtain ⟨vg, els, he, hog, hzg, hmg⟩ := hga
      obtain rfl : e = .returned (.tuple #[vg, .int .i64 e9]) := he
      have HE := Lib.hid (show GaP w.heap.size (presetF N xs c rs u tv) (.returned (.tuple #[vg, .int .i64 e9])) w8 ∧ Below w.heap.size w w8 from ⟨by rw [HF.out]; exact ⟨vg, els, rfl, OE.lower hog hWs, hzg, hmg⟩, bw_gr0 HW.out hgr (fun g e => by simp [Value.ownBlock] at e) hWs⟩)
      clear hog hzg hmg hgr hGA
      go_wp2_with fail
      exact bodyPost_ret (v := .tuple #[vg, .int .i64 e9]) (by simp [results, Tryz.results21, go_sem]) rfl HE.out
end Go.Proofs.YtfphlpglgcmljaaGreat
