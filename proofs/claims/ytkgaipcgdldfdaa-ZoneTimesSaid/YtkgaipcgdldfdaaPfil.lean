/- The program's slices.Repeat of a slice of one element, and math/bits.Mul below it. A zone of one limit: the program's filled, Zero, All. -/
import Derived.Test.YtkgaipcgdldfdaaFil
import Derived.Laws.CopyOwn
import Derived.Deep.OwnRows
import Derived.Shelf.Bits.Mul64
import Derived.Test.YtkgaipcgdldfdaaZzone
import Derived.Test.YtkgaipcgdldfdaaZclose
import Derived.Test.YtkgaipcgdldfdaaRand
namespace Go.Proofs.Ytkgaipcgdldfdaa
open Go.RowKit
set_option linter.unusedVariables false

set_option maxHeartbeats 1000000 in
theorem bits_mul64 (x y : Nat) (hx : x < 18446744073709551616) (hy : y < 18446744073709551616) (w : World) :
    Calls Try.prog 154 #[.int .u64 x, .int .u64 y] w fun e w' => e = .returned (.tuple #[.int .u64 ((x * y / 18446744073709551616 : Nat) : Int), .int .u64 ((x * y % 18446744073709551616 : Nat) : Int)]) ∧ w' = w := by
  obtain ⟨bd, bt, bw, hhi⟩ := Lib.mul64_hi x y hx hy
  have ba := Lib.half_mul_le (a := x / 4294967296) (b := y / 4294967296) (by omega) (by omega)
  have bb := Lib.half_mul_le (a := x / 4294967296) (b := y % 4294967296) (by omega) (by omega)
  have bc := Lib.half_mul_le (a := x % 4294967296) (b := y / 4294967296) (by omega) (by omega)
  have ba' : x / 4294967296 * (y / 4294967296) < 18446744073709551616 := by omega
  have bb' : x / 4294967296 * (y % 4294967296) < 18446744073709551616 := by omega
  have bc' : x % 4294967296 * (y / 4294967296) < 18446744073709551616 := by omega
  have bh1 : x / 4294967296 * (y / 4294967296) + (x / 4294967296 * (y % 4294967296) + x % 4294967296 * (y % 4294967296) / 4294967296) / 4294967296 < 18446744073709551616 := by omega
  have bh : x / 4294967296 * (y / 4294967296) + (x / 4294967296 * (y % 4294967296) + x % 4294967296 * (y % 4294967296) / 4294967296) / 4294967296 + ((x / 4294967296 * (y % 4294967296) + x % 4294967296 * (y % 4294967296) / 4294967296) % 4294967296 + x % 4294967296 * (y / 4294967296)) / 4294967296 < 18446744073709551616 := by omega
  go_enter Try.func154, Try.ntmps154
  go_wp2
  simp only [Mul64.maskN x hx, Mul64.maskN y hy, Mul64.divN, Mul64.mulN, Mul64.addN, Mul64.wrapN _ bd, Mul64.wrapN _ bb', Mul64.wrapN _ bt, Mul64.maskN _ bt, Mul64.wrapN _ bc', Mul64.wrapN _ bw, Mul64.wrapN _ ba', Mul64.wrapN _ bh1, Mul64.wrapN _ bh, Mul64.wrapM (x * y)]
  rw [hhi]
  go_ret2
  exact ⟨rfl, rfl⟩
set_option maxHeartbeats 1000000 in
theorem bits_mul (x y : Nat) (hx : x < 18446744073709551616) (hy : y < 18446744073709551616) (w : World) :
    Calls Try.prog 145 #[.int .u64 x, .int .u64 y] w fun e w' => e = .returned (.tuple #[.int .u64 ((x * y / 18446744073709551616 : Nat) : Int), .int .u64 ((x * y % 18446744073709551616 : Nat) : Int)]) ∧ w' = w := by
  have c64 := bits_mul64 x y hx hy w
  go_enter Try.func145, Try.ntmps145
  go_wp2_with (go_at_call 154; refine c64.mono ?_; rintro e w' ⟨rfl, hw⟩; rw [hw])
  go_ret2
  exact ⟨rfl, rfl⟩
theorem bits_mul_one (y : Nat) (hy : y ≤ 1000) (w : World) :
    Calls Try.prog 145 #[.int .u64 1, .int .u64 y] w fun e w' => e = .returned (.tuple #[.int .u64 0, .int .u64 y]) ∧ w' = w := by
  have h := bits_mul 1 y (by omega) (by omega) w
  rw [Nat.one_mul, Nat.div_eq_of_lt (by omega), Nat.mod_eq_of_lt (by omega)] at h
  exact h

theorem Try.sizeLimit : (Try.prog.info? 60).map (·.size) = some 1 := by kernel_rfl
theorem one_at {w : World} {b off j : Nat} {u v : Value} (hj : (List.replicate 1 u)[j]? = some v) (hc : w.cell? ⟨b, off + 0, none⟩ = some u) : w.cell? ((⟨b, off, none⟩ : Addr).add j) = some v := by
  cases j with
  | zero => simp at hj; subst hj; exact hc
  | succ j => simp at hj
/-- The row under way. -/
theorem splice_fill {M : Nat} {l : Int} {q k : Nat} (h : q + k ≤ M) : splice ((fillTo M l q).map (Value.int .i64)) q (List.replicate k (Value.int .i64 l)) = (fillTo M l (q + k)).map (Value.int .i64) := by
  apply List.ext_getElem?
  intro j
  unfold splice
  rw [List.getElem?_append, List.getElem?_append, List.getElem?_map]
  simp only [List.length_take, List.length_map, fillTo_len, List.length_replicate, List.getElem?_take, List.getElem?_drop, List.getElem?_replicate, List.getElem?_map]
  rw [Nat.min_eq_left (by omega)]
  by_cases hj : j < M
  · rw [fillTo_get M l (q + k) j hj]
    by_cases c1 : j < q
    · rw [if_pos c1, if_pos c1, fillTo_get M l q j hj, if_pos c1, if_pos (by omega)]
    · rw [if_neg c1]
      by_cases c2 : j - q < k
      · rw [if_pos c2, if_pos c2, if_pos (by omega)]; rfl
      · rw [if_neg c2, show q + k + (j - q - k) = j by omega, fillTo_get M l q j hj, if_neg c1, if_neg (by omega)]
  · rw [if_neg (by omega), if_neg (by omega), List.getElem?_eq_none (by rw [fillTo_len]; omega), List.getElem?_eq_none (by rw [fillTo_len]; omega)]
theorem made_fill (M : Nat) (l : Int) : madeCells #[Value.int .i64 0] M = ((fillTo M l 0).map (Value.int .i64)).toArray := by
  apply Array.toList_inj.1
  rw [toList_madeCells_one]; simp [fillTo]
theorem row_fill {M : Nat} {l : Int} {g base : Nat} {w : World} (hr : w.heap[g]? = some (.cells ((fillTo M l M).map (Value.int .i64)).toArray 60 (0, 0))) (hM : M ≤ 121) (hb : base ≤ g) : OL 60 base w (.slice (some ⟨g, 0, none⟩) M M) (List.replicate M l) := by
  rw [← fillTo_all]
  unfold OL
  rw [fillTo_len]
  refine ⟨by simp [fillTo_len], .inr ⟨g, M, _, rfl, hb, hr, Nat.le_refl _, by unfold maxLen; omega, by simp [fillTo_len], ?_⟩⟩
  rw [List.toList_toArray]
  exact List.take_of_length_le (by simp [fillTo_len])

set_option maxRecDepth 100000 in
set_option maxHeartbeats 2000000 in
theorem prog_repeat (M : Nat) (l : Int) (v : Value) (w : World) (hv : RL w.heap.size w v [l]) (hM : M ≤ 121) (hp : 0 < M) :
    Calls Try.prog 127 #[v, .int .i64 M] w fun e w' => ∃ v', e = .returned v' ∧ OL 60 w.heap.size w' v' (List.replicate M l) ∧ Below w.heap.size w w' := by
  obtain ⟨i0, hi, hz0, hz1, hz2⟩ := info_parts Try.infoLimit
  obtain ⟨ao, cap, rfl, hle, h0⟩ := hv.open
  obtain ⟨b, off, rfl, hb, hc⟩ := h0 (by simp)
  have hc0 := hc 0 (by simp)
  have hc1 : (w.alloc (.cells (madeCells #[.int .i64 0] M) 60)).cell? ⟨b, off + 0, none⟩ = some (.int .i64 l) := ((bcell ((Below.refl _ _).alloc (Nat.le_refl _) _)).1 _ _ hb).trans hc0
  have Hi := Lib.hid hi
  have Hz0 := Lib.hid hz0
  have Hz1 := Lib.hid hz1
  have Hz2 := Lib.hid hz2
  clear hv h0 hi hz0 hz1 hz2
  go_enter Try.func127, Try.ntmps127
  go_wp2_with (first
    | (go_at_call 145; refine (bits_mul_one M (by omega) _).mono ?_; rintro e w1 ⟨rfl, hw1⟩; rw [hw1])
    | (refine wpList_make_row _ rfl (.tmp 29) (.tmp 29) 22 rfl 60 i0 (.int .i64 0) Try.undLimits Hi.out Hz0.out Hz1.out rfl .i64 .i64 M rfl rfl ?_ ?_ ?_; (rw [Hz2.out]; omega); omega)
    | (refine wpList_copy_splice rfl (.tmp 31) (.tmp 32) 22 22 rfl 60 Try.undLimits Try.sizeLimit _ _ _ _ _ _ rfl rfl w.heap.size 0 ((fillTo M l 0).map (Value.int .i64)) 60 ?_ (List.replicate 1 (Value.int .i64 l)) ?_ ?_ ?_ ?_ w.heap.size w ?_ (Nat.le_refl _) ?_; (rw [← made_fill M l]; exact heap_alloc_new _ _); (show 1 = min 1 M; omega); (intro _; refine ⟨rfl, _, rfl, fun j v hj => ?_⟩; exact one_at hj hc1); (simp only [List.length_replicate, List.length_map, fillTo_len]; omega); (intro u hu; have := List.eq_of_mem_replicate hu; subst this; rfl); (exact (Below.refl _ _).alloc (Nat.le_refl _) _); intro w2 HG2 hB2))
  have hR2 : w2.heap[w.heap.size]? = some (.cells ((fillTo M l 1).map (Value.int .i64)).toArray 60 (0, 0)) := by
    have := HG2.out
    rwa [splice_fill (show 0 + 1 ≤ M by omega)] at this
  clear HG2
  go_loopw [8] (fun n wr => ∃ q : Nat, 1 ≤ q ∧ q ≤ M ∧ n = .int .i64 q ∧ wr.heap[w.heap.size]? = some (.cells ((fillTo M l q).map (Value.int .i64)).toArray 60 (0, 0)) ∧ Below w.heap.size w wr) (fun n _ => M - (intOf n).toNat)
  case atStart => exact ⟨1, Nat.le_refl _, hp, rfl, hR2, hB2⟩
  case round =>
    clear hR2 hB2
    obtain ⟨q, hq1, hq, rfl, hrow, hB⟩ := hrel
    have Hrow := Lib.hid hrow
    have HB := Lib.hid hB
    clear hrow hB
    by_cases hlt : q < M
    · have htd : decide ((q : Int) < (M : Int)) = true := by simp; omega
      have i1 : (0 : Int) ≤ (q : Int) := by omega
      have i2 : (q : Int) < (M : Int) := by omega
      have i3 : (q : Int) ≤ (M : Int) := by omega
      obtain ⟨X, hX⟩ : ∃ X, X = (fillTo M l q).map (Value.int .i64) := ⟨_, rfl⟩
      obtain ⟨Y, hY⟩ : ∃ Y, Y = List.replicate (min q (M - q)) (Value.int .i64 l) := ⟨_, rfl⟩
      have hYl : Y.length = min q (M - q) := by rw [hY]; simp
      have hXl : X.length = M := by rw [hX]; simp [fillTo_len]
      have HYl := Lib.hid hYl
      have HXl := Lib.hid hXl
      have HS := Lib.hid (show splice X q Y = (fillTo M l (q + min q (M - q))).map (Value.int .i64) by rw [hX, hY]; exact splice_fill (by omega))
      have Hone := Lib.hid (show ∀ u ∈ Y, u.oneCell' = true by intro u hu; rw [hY] at hu; rw [List.eq_of_mem_replicate hu]; rfl)
      have HG := Lib.hid (show wr.drew.heap[w.heap.size]? = some (.cells X.toArray 60 (0, 0)) by rw [hX]; exact Hrow.out)
      have Hsrc := Lib.hid (show ∀ j v, Y[j]? = some v → wr.drew.cell? ((⟨w.heap.size, 0, none⟩ : Addr).add j) = some v by
        intro j v hj
        have e : v = .int .i64 l := by rw [hY] at hj; exact List.eq_of_mem_replicate (List.mem_of_getElem? hj)
        have hjl : j < Y.length := (List.getElem?_eq_some_iff.1 hj).1
        rw [hYl] at hjl
        have := cell_of_row wr w.heap.size j _ _ _ Hrow.out
        have e2 : wr.drew.cell? ((⟨w.heap.size, 0, none⟩ : Addr).add j) = wr.cell? ⟨w.heap.size, j, none⟩ := by
          unfold Addr.add
          split
          · rename_i e; rw [e]; rfl
          · simp
        rw [e2, this]
        simp only [List.getElem?_toArray, List.getElem?_map]
        rw [fillTo_get M l q j (by omega), if_pos (by omega), e]; rfl)
      have hyb : Y.length ≤ 121 := by omega
      have HW := Lib.hid (show IntKind.i64.wrap ((q : Int) + (Y.length : Int)) = (q : Int) + (Y.length : Int) from IntWalk.i64_in _ (by omega))
      clear hX hY hYl hXl
      go_wp2_with fail
      go_region_held3 (fun _ => True) (trivial) (first
        | (refine step_copy_splice rfl (.tmp 41) (.tmp 44) 22 22 rfl 60 Try.undLimits Try.sizeLimit (if M = q then some ⟨w.heap.size, 0, none⟩ else some ⟨w.heap.size, q, none⟩) (some ⟨w.heap.size, 0, none⟩) (M - q) (M - q) q M ?_ ?_ w.heap.size q X 60 HG.out Y ?_ ?_ ?_ Hone.out w.heap.size wr.drew (Below.refl _ _) (Nat.le_refl _) ?_; rfl; rfl; (exact HYl.out); (intro _; exact ⟨if_neg (by omega), _, rfl, Hsrc.out⟩); (rw [HXl.out, HYl.out]; omega); intro w3 HG3 hB3))
      have hR3 := HG3.out
      rw [HS.out] at hR3
      have HB3 := Lib.hid (show Below w.heap.size w w3 from HB.out.trans (show Below w.heap.size wr w3 from (show Below w.heap.size wr wr.drew from ⟨rfl, rfl, rfl, Nat.le_refl _, fun _ _ => rfl⟩).trans hB3))
      clear hB3 HG3
      go_wp2_with fail
      go_roundw
      case rel => exact ⟨q + min q (M - q), by omega, by omega, by rw [← HYl.out]; have := HW.out; go_num, hR3, HB3.out⟩
      case measure => have := HYl.out; have := HW.out; simp [intOf]; omega
    · have htd : decide ((q : Int) < (M : Int)) = false := by simp; omega
      obtain rfl : q = M := by omega
      go_wp2_with fail
      go_ret
      exact ⟨_, rfl, row_fill Hrow.out hM (Nat.le_refl _), HB.out⟩
end Go.Proofs.Ytkgaipcgdldfdaa
namespace Go.Proofs.Ytkgaipcgdldfdaa
open Go.RowKit
set_option linter.unusedVariables false

theorem all_rep (M : Nat) {l : Int} (h : vld l = true) : (List.replicate M l).all vld = true := by
  rw [List.all_eq_true]; intro x hx; rw [List.eq_of_mem_replicate hx]; exact h
theorem rl_one (w : World) (l : Int) (e : Nat) : RL (w.alloc (.cells #[.int .i64 l] e)).heap.size (w.alloc (.cells #[.int .i64 l] e)) (.slice (some ⟨w.heap.size, 0, none⟩) 1 1) [l] := by
  have := rs_one w (.int .i64 l) e
  have h2 : RS (w.heap.size + 1) (w.alloc (.cells #[.int .i64 l] e)) (.slice (some ⟨w.heap.size, 0, none⟩) 1 1) 1 [.int .i64 l] := this
  have h3 : (w.alloc (.cells #[.int .i64 l] e)).heap.size = w.heap.size + 1 := by simp
  rw [h3]; exact h2
theorem rl_one2 (w : World) (o : Obj) (l : Int) (e : Nat) : RL ((w.alloc o).alloc (.cells #[.int .i64 l] e)).heap.size ((w.alloc o).alloc (.cells #[.int .i64 l] e)) (.slice (some ⟨w.heap.size + 1, 0, none⟩) 1 1) [l] := by
  have := rl_one (w.alloc o) l e
  have h3 : (w.alloc o).heap.size = w.heap.size + 1 := by simp
  rw [h3] at this; exact this

set_option maxHeartbeats 1000000 in
theorem prog_filled_bad (n l : Int) (w : World) (hn : ¬ (0 ≤ n ∧ n ≤ 10)) :
    Calls Try.prog 79 #[.int .i64 n, .int .i64 l] w fun e w' => ZPost 60 w.heap.size n (fillF n l) e w' ∧ Below w.heap.size w w' := by
  have hres := Lib.hid (fillF_no (l := l) hn)
  by_cases h0 : n < 0
  · have e0 : decide (n < 0) = true := by simpa using h0
    clear hn h0
    go_enter Try.func79, Try.ntmps79
    go_wp2_with fail
    refine bodyPost_ret (v := .tuple #[.agg #[.int .i64 0, .slice none 0 0], .int .i64 2]) (by simp [results, Try.results79, go_sem]) rfl ⟨ZPost.err hres.out (by omega) _, ?_⟩
    exact (Below.refl _ _).alloc (Nat.le_refl _) _
  · have e0 : decide (n < 0) = false := by simpa using h0
    have e1 : decide (10 < n) = true := by simp; omega
    clear hn h0
    go_enter Try.func79, Try.ntmps79
    go_wp2_with fail
    refine bodyPost_ret (v := .tuple #[.agg #[.int .i64 0, .slice none 0 0], .int .i64 2]) (by simp [results, Try.results79, go_sem]) rfl ⟨ZPost.err hres.out (by omega) _, ?_⟩
    exact (Below.refl _ _).alloc (Nat.le_refl _) _

set_option maxRecDepth 100000 in
set_option maxHeartbeats 2000000 in
theorem prog_filled_in (N : Nat) (l : Int) (w : World) (hN : N ≤ 10) (hl : vld l = true) :
    Calls Try.prog 79 #[.int .i64 N, .int .i64 l] w fun e w' => ZPost 60 w.heap.size N (fillF N l) e w' ∧ Below w.heap.size w w' := by
  have hM0 : (N + 1) * (N + 1) ≤ 11 * 11 := Nat.mul_le_mul (by omega) (by omega)
  have hMp : 0 < (N + 1) * (N + 1) := Nat.mul_pos (by omega) (by omega)
  have hcast : ((N : Int) + 1) * ((N : Int) + 1) = (((N + 1) * (N + 1) : Nat) : Int) := by push_cast; rfl
  have hmul : IntKind.i64.wrap (((N : Int) + 1) * ((N : Int) + 1)) = (((N + 1) * (N + 1) : Nat) : Int) := by rw [hcast]; exact IntWalk.i64_in _ (by omega)
  have hres := Lib.hid (show progZ N (List.replicate ((N + 1) * (N + 1)) l) = fillF N l from (progZ_eq (by simp) (all_rep _ hl)).trans (fillF_yes hN).symm)
  have e0 : decide ((N : Int) < 0) = false := by simp
  have e1 : decide (10 < (N : Int)) = false := by simp; omega
  have Hloc := Lib.hid (Loc.one w (.cells #[.int .i64 0, .slice none 0 0] 24) none)
  generalize hM : (N + 1) * (N + 1) = M at *
  have HM := Lib.hid (show (List.replicate M l).length = (N + 1) * (N + 1) by simp [hM])
  clear hM hcast
  go_enter Try.func79, Try.ntmps79
  go_wp2_with fail
  refine (prog_repeat M l _ _ (rl_one2 w (.cells #[.int .i64 0, .slice none 0 0] 24) l 60) (by omega) hMp).mono ?_
  rintro e w1 ⟨v1, rfl, hown1, hb1⟩
  obtain ⟨ao1, cap1, rfl⟩ := owns_form hown1
  have hloc1 := (Hloc.out.next (World.grownBy_alloc _ _ none) (fun _ h => by cases h)).next (grownBy_below hb1 none) (fun _ h => by cases h)
  have Hown1 := Lib.hid (show RL w1.heap.size w1 (.slice ao1 M cap1) (List.replicate M l) by have := OL.rl hown1; rwa [List.length_replicate] at this)
  clear hown1 hb1
  go_wp2_with fail
  refine (prog_of N _ (List.replicate M l) _ Hown1.out hN HM.out).mono ?_
  rintro e w2 ⟨rv, av, rfl, hm, hb2⟩
  have hloc2 := hloc1.next (grownBy_below hb2 none) (fun _ h => by cases h)
  have Hm := Lib.hid hm
  have Hb2 := Lib.hid hb2.size
  have Hs1 := Lib.hid (show w.heap.size + 1 ≤ w1.heap.size from hloc1.size)
  clear hm hb2 hloc1
  go_wp2_with fail
  refine (prog_zone N _ _ (List.replicate M l) _ w2 Hm.out Hb2.out hN HM.out).mono ?_
  rw [hres.out]
  generalize hR : fillF N l = R
  have HR := Lib.hid hR
  clear hR
  rintro e w5 ⟨⟨v5, rfl, ho5⟩, hb5⟩
  obtain ⟨ao5, cap5, rfl⟩ := owns_form ho5
  have hb6 : Below (w.heap.size + 1) w2 w5 := hb5.mono Hs1.out
  have hloc5 := hloc2.belowB hb6 (by simp)
  have r0 : w5.cell? ⟨w.heap.size, 0, none⟩ = some (.int .i64 0) := hloc5.cell 0 rfl 0
  have r1 : w5.cell? ⟨w.heap.size, 1, none⟩ = some (.slice none 0 0) := hloc5.cell 0 rfl 1
  have r2 : w5.frozen? ⟨w.heap.size, 0, none⟩ = false := hloc5.free 0 rfl 0
  have r3 : w5.frozen? ⟨w.heap.size, 1, none⟩ = false := hloc5.free 0 rfl 1
  have Ho5 := Lib.hid (show OL 60 (w.heap.size + 1) w5 (.slice ao5 R.2.length cap5) R.2 from OL.mono ho5 Hs1.out)
  have HB5 := Lib.hid (below_grownBy hloc5.grown)
  clear ho5 hb5 hb6 hloc5 hloc2
  go_wp2_with fail
  refine bodyPost_ret (v := .tuple #[.agg #[.int .i64 (zdim R N), .slice ao5 R.2.length cap5], .int .i64 R.1]) (by simp [results, Try.results79, go_sem, r0, r1]) rfl ⟨⟨_, by rw [HR.out], ?_⟩, ?_⟩
  · rw [HR.out]; exact OL.mono (base := w.heap.size + 1) (own_set2 Ho5.out (by omega) _ _) (by omega)
  · exact (HB5.out.setCell (by simp) _).setCell (by simp) _
theorem prog_filled (n l : Int) (w : World) (hl : vld l = true) :
    Calls Try.prog 79 #[.int .i64 n, .int .i64 l] w fun e w' => ZPost 60 w.heap.size n (fillF n l) e w' ∧ Below w.heap.size w w' := by
  by_cases h : 0 ≤ n ∧ n ≤ 10
  · obtain ⟨N, rfl⟩ := Int.eq_ofNat_of_zero_le h.1
    exact prog_filled_in N l w (by omega) hl
  · exact prog_filled_bad n l w h

set_option maxHeartbeats 1000000 in
theorem prog_all (n : Int) (w : World) :
    Calls Try.prog 30 #[.int .i64 n] w fun e w' => ZPost 60 w.heap.size n (fillF n 1099511627776) e w' ∧ Below w.heap.size w w' := by
  have Hloc := Lib.hid (Loc.one w (.cells #[.int .i64 0, .slice none 0 0] 24) none)
  go_enter Try.func30, Try.ntmps30
  go_wp2_with fail
  refine (prog_filled n _ _ (by decide)).mono ?_
  generalize hR : fillF n _ = R
  have HR := Lib.hid hR
  clear hR
  rintro e w5 ⟨⟨v5, rfl, ho5⟩, hb5⟩
  obtain ⟨ao5, cap5, rfl⟩ := owns_form ho5
  have hloc5 := Hloc.out.next (grownBy_below hb5 none) (fun _ h => by cases h)
  have r0 : w5.cell? ⟨w.heap.size, 0, none⟩ = some (.int .i64 0) := hloc5.cell 0 rfl 0
  have r1 : w5.cell? ⟨w.heap.size, 1, none⟩ = some (.slice none 0 0) := hloc5.cell 0 rfl 1
  have r2 : w5.frozen? ⟨w.heap.size, 0, none⟩ = false := hloc5.free 0 rfl 0
  have r3 : w5.frozen? ⟨w.heap.size, 1, none⟩ = false := hloc5.free 0 rfl 1
  have Ho5 := Lib.hid (show OL 60 (w.heap.size + 1) w5 (.slice ao5 R.2.length cap5) R.2 from OL.mono ho5 (by simp))
  have HB5 := Lib.hid (below_grownBy hloc5.grown)
  clear ho5 hb5 hloc5
  go_wp2_with fail
  refine bodyPost_ret (v := .tuple #[.agg #[.int .i64 (zdim R n), .slice ao5 R.2.length cap5], .int .i64 R.1]) (by simp [results, Try.results30, go_sem, r0, r1]) rfl ⟨⟨_, by rw [HR.out], ?_⟩, ?_⟩
  · rw [HR.out]; exact OL.mono (base := w.heap.size + 1) (own_set2 Ho5.out (by omega) _ _) (by omega)
  · exact (HB5.out.setCell (by simp) _).setCell (by simp) _
end Go.Proofs.Ytkgaipcgdldfdaa
