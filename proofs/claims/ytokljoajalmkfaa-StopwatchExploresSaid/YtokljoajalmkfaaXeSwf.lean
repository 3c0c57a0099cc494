/- Part of the proof of stopwatch_explores_proved: Swf. -/
import Derived.Test.YtokljoajalmkfaaXeSwe
import Derived.Test.YtokljoajalmkfaaXeHeldU
namespace Go.Proofs.Ytokljoajalmkfaa
open Go.RowKit
set_option linter.unusedVariables false
set_option linter.unusedSimpArgs false
set_option linter.unnecessarySimpa false
def relS (set : Nat) (s : Nat → Int) (k : Nat) : Nat → Int := fun j => if j < k ∧ inS set j = true then 0 else s j
def relL (ts : List Tk) (set : Nat) (l : Nat → Int) (k : Nat) : Nat → Int := fun j => if j < k ∧ inS set j = true then (tk ts j).C else l j
theorem relS_yes {set k : Nat} (s : Nat → Int) (h : inS set k = true) : upI (relS set s k) k 0 = relS set s (k + 1) := by
 funext j
 unfold upI relS
 by_cases e : j = k
 ·subst e; rw [if_pos rfl, if_pos ⟨by omega, h⟩]
 ·rw [if_neg e]
  by_cases c : j < k ∧ inS set j = true
  ·rw [if_pos c, if_pos ⟨by omega, c.2⟩]
  ·rw [if_neg c, if_neg (fun q => c ⟨by omega, q.2⟩)]
theorem relS_no {set k : Nat} (s : Nat → Int) (h : inS set k = false) : relS set s k = relS set s (k + 1) := by
 funext j
 unfold relS
 by_cases c : j < k ∧ inS set j = true
 ·rw [if_pos c, if_pos ⟨by omega, c.2⟩]
 ·rw [if_neg c, if_neg (fun q => c ⟨(Classical.byContradiction fun z => by
   have e : j = k := by omega
   rw [e, h] at q
   cases q.2), q.2⟩)]
theorem relL_yes {ts : List Tk} {set k : Nat} (l : Nat → Int) (h : inS set k = true) : upI (relL ts set l k) k (tk ts k).C = relL ts set l (k + 1) := by
 funext j
 unfold upI relL
 by_cases e : j = k
 ·subst e; rw [if_pos rfl, if_pos ⟨by omega, h⟩]
 ·rw [if_neg e]
  by_cases c : j < k ∧ inS set j = true
  ·rw [if_pos c, if_pos ⟨by omega, c.2⟩]
  ·rw [if_neg c, if_neg (fun q => c ⟨by omega, q.2⟩)]
theorem relL_no {ts : List Tk} {set k : Nat} (l : Nat → Int) (h : inS set k = false) : relL ts set l k = relL ts set l (k + 1) := by
 funext j
 unfold relL
 by_cases c : j < k ∧ inS set j = true
 ·rw [if_pos c, if_pos ⟨by omega, c.2⟩]
 ·rw [if_neg c, if_neg (fun q => c ⟨(Classical.byContradiction fun z => by
   have e : j = k := by omega
   rw [e, h] at q
   cases q.2), q.2⟩)]
theorem relL_at {ts : List Tk} {set k n : Nat} (l : Nat → Int) (h : k < n) : relL ts set l (k + 1) k = relL ts set l n k := by
 unfold relL
 by_cases c : inS set k = true
 ·rw [if_pos ⟨by omega, c⟩, if_pos ⟨h, c⟩]
 ·rw [if_neg (fun q => c q.2), if_neg (fun q => c q.2)]
def runF (ts : List Tk) (L : Nat → Int) : Nat → Int
 | 0 => -1
 | k + 1 => if 0 < L k ∧ (runF ts L k < 0 ∨ (tk ts (runF ts L k).toNat).pr < (tk ts k).pr) then (k : Int) else runF ts L k
theorem runF_is (ts : List Tk) (L : Nat → Int) : ∀ k, runF ts L k = -1 ∨ ∃ j, j < k ∧ runF ts L k = (j : Int) ∧ 0 < L j
 | 0 => .inl rfl
 | k + 1 => by
  unfold runF
  by_cases c : 0 < L k ∧ (runF ts L k < 0 ∨ (tk ts (runF ts L k).toNat).pr < (tk ts k).pr)
  ·rw [if_pos c]; exact .inr ⟨k, by omega, rfl, c.1⟩
  ·rw [if_neg c]
   rcases runF_is ts L k with h | ⟨j, hj, h⟩
   ·exact .inl h
   ·exact .inr ⟨j, by omega, h⟩
def decF (L : Nat → Int) (run : Int) : Nat → Int := if 0 ≤ run then upI L run.toNat (L run.toNat - 1) else L
def ageF (ts : List Tk) (S : Nat → Int) (k : Nat) : Nat → Int := fun j => if j < k then min (S j + 1) (tk ts j).T else S j
theorem ageF_next (ts : List Tk) (S : Nat → Int) (k : Nat) : upI (ageF ts S k) k (min (S k + 1) (tk ts k).T) = ageF ts S (k + 1) := by
 funext j
 unfold upI ageF
 by_cases e : j = k
 ·subst e; rw [if_pos rfl, if_pos (by omega)]
 ·rw [if_neg e]
  by_cases c : j < k
  ·rw [if_pos c, if_pos (by omega)]
  ·rw [if_neg c, if_neg (by omega)]
def tkS (ts : List Tk) (s : Nat → Int) (set : Nat) : Nat → Int := ageF ts (relS set s ts.length) ts.length
def tkR (ts : List Tk) (l : Nat → Int) (set : Nat) : Int := runF ts (relL ts set l ts.length) ts.length
def tkL (ts : List Tk) (l : Nat → Int) (set : Nat) : Nat → Int := decF (relL ts set l ts.length) (tkR ts l set)
set_option maxRecDepth 100000 in
set_option maxHeartbeats 8000000 in
theorem ref_tick (v : Value) (ts : List Tk) (s l : Nat → Int) (set : Nat) (hset : set < 256) (w : World) (hv : TsR w v ts) (h8 : ts.length ≤ 8) (hs : ∀ j, j < 8 → 0 ≤ s j ∧ s j ≤ 1000000) (hl : ∀ j, j < 8 → 0 ≤ l j ∧ l j ≤ 1000000) (hC : ∀ j, j < ts.length → 0 ≤ (tk ts j).C ∧ (tk ts j).C ≤ 1000000) :
  Calls Try.prog 22 #[v, stV s l, .int .i64 (set : Nat)] w fun e w' => e = .returned (.tuple #[stV (tkS ts s set) (tkL ts l set), .int .i64 (tkR ts l set)]) ∧ Below w.heap.size w w' := by
 obtain ⟨ao, cap, rfl, hle, h0⟩ := hv.open
 have H0 := Lib.hid h0
 have hloc := Loc.two w (.cells #[.int .i64 (s 0), .int .i64 (s 1), .int .i64 (s 2), .int .i64 (s 3), .int .i64 (s 4), .int .i64 (s 5), .int .i64 (s 6), .int .i64 (s 7), .int .i64 (l 0), .int .i64 (l 1), .int .i64 (l 2), .int .i64 (l 3), .int .i64 (l 4), .int .i64 (l 5), .int .i64 (l 6), .int .i64 (l 7)] 55) (.cells #[.int .i64 0, .int .i64 0, .int .i64 0, .int .i64 0, .int .i64 0, .int .i64 0, .int .i64 0, .int .i64 0, .int .i64 0, .int .i64 0, .int .i64 0, .int .i64 0, .int .i64 0, .int .i64 0, .int .i64 0, .int .i64 0] 55) none
 have hbw := below_grownBy hloc.grown
 have hqa : ((w.alloc (.cells #[.int .i64 (s 0), .int .i64 (s 1), .int .i64 (s 2), .int .i64 (s 3), .int .i64 (s 4), .int .i64 (s 5), .int .i64 (s 6), .int .i64 (s 7), .int .i64 (l 0), .int .i64 (l 1), .int .i64 (l 2), .int .i64 (l 3), .int .i64 (l 4), .int .i64 (l 5), .int .i64 (l 6), .int .i64 (l 7)] 55)).alloc (.cells #[.int .i64 0, .int .i64 0, .int .i64 0, .int .i64 0, .int .i64 0, .int .i64 0, .int .i64 0, .int .i64 0, .int .i64 0, .int .i64 0, .int .i64 0, .int .i64 0, .int .i64 0, .int .i64 0, .int .i64 0, .int .i64 0] 55)).heap[w.heap.size]? = some (.cells #[.int .i64 (s 0), .int .i64 (s 1), .int .i64 (s 2), .int .i64 (s 3), .int .i64 (s 4), .int .i64 (s 5), .int .i64 (s 6), .int .i64 (s 7), .int .i64 (l 0), .int .i64 (l 1), .int .i64 (l 2), .int .i64 (l 3), .int .i64 (l 4), .int .i64 (l 5), .int .i64 (l 6), .int .i64 (l 7)] 55 (0, 0)) := hloc.objs 0 (by simp)
 have hqb : ((w.alloc (.cells #[.int .i64 (s 0), .int .i64 (s 1), .int .i64 (s 2), .int .i64 (s 3), .int .i64 (s 4), .int .i64 (s 5), .int .i64 (s 6), .int .i64 (s 7), .int .i64 (l 0), .int .i64 (l 1), .int .i64 (l 2), .int .i64 (l 3), .int .i64 (l 4), .int .i64 (l 5), .int .i64 (l 6), .int .i64 (l 7)] 55)).alloc (.cells #[.int .i64 0, .int .i64 0, .int .i64 0, .int .i64 0, .int .i64 0, .int .i64 0, .int .i64 0, .int .i64 0, .int .i64 0, .int .i64 0, .int .i64 0, .int .i64 0, .int .i64 0, .int .i64 0, .int .i64 0, .int .i64 0] 55)).heap[w.heap.size + 1]? = some (.cells #[.int .i64 0, .int .i64 0, .int .i64 0, .int .i64 0, .int .i64 0, .int .i64 0, .int .i64 0, .int .i64 0, .int .i64 0, .int .i64 0, .int .i64 0, .int .i64 0, .int .i64 0, .int .i64 0, .int .i64 0, .int .i64 0] 55 (0, 0)) := hloc.objs 1 (by simp)
 obtain ⟨n, hn⟩ : ∃ n, ts.length = n := ⟨_, rfl⟩
 have Hn := Lib.hid hn
 rw [show tkS ts s set = ageF ts (relS set s n) n by unfold tkS; rw [hn], show tkL ts l set = decF (relL ts set l n) (tkR ts l set) by unfold tkL; rw [hn], show tkR ts l set = runF ts (relL ts set l n) n by unfold tkR; rw [hn]]
 rw [hn] at h8 H0 hC ⊢
 have Hs := Lib.hid hs
 have Hl := Lib.hid (show ∀ j, j < 8 → 0 ≤ relL ts set l n j ∧ relL ts set l n j ≤ 1000000 from fun j hj => by
  unfold relL
  by_cases c : j < n ∧ inS set j = true
  ·rw [if_pos c]; exact hC j c.1
  ·rw [if_neg c]; exact hl j hj)
 have HS := Lib.hid (show ∀ j, j < 8 → 0 ≤ relS set s n j ∧ relS set s n j ≤ 1000000 from fun j hj => by
  unfold relS
  by_cases c : j < n ∧ inS set j = true
  ·rw [if_pos c]; omega
  ·rw [if_neg c]; exact hs j hj)
 clear hv h0 hle hn hloc hs hl hC
 unfold stV
 go_enter Try.func22, Try.ntmps22
 go_upto_region 1 with fail
 generalize (w.alloc (.cells #[.int .i64 (s 0), .int .i64 (s 1), .int .i64 (s 2), .int .i64 (s 3), .int .i64 (s 4), .int .i64 (s 5), .int .i64 (s 6), .int .i64 (s 7), .int .i64 (l 0), .int .i64 (l 1), .int .i64 (l 2), .int .i64 (l 3), .int .i64 (l 4), .int .i64 (l 5), .int .i64 (l 6), .int .i64 (l 7)] 55)).alloc (.cells #[.int .i64 0, .int .i64 0, .int .i64 0, .int .i64 0, .int .i64 0, .int .i64 0, .int .i64 0, .int .i64 0, .int .i64 0, .int .i64 0, .int .i64 0, .int .i64 0, .int .i64 0, .int .i64 0, .int .i64 0, .int .i64 0] 55) = X at *
 rw [zc55] at hqb
 have HBa := Lib.hid (show X.heap[w.heap.size]? = some (.cells (lS (relS set s 0) (relL ts set l 0)).toArray 55 (0, 0)) by
  rw [show relS set s 0 = s by funext j; unfold relS; rw [if_neg (fun q => by omega)], show relL ts set l 0 = l by funext j; unfold relL; rw [if_neg (fun q => by omega)]]; exact hqa)
 have HBb := Lib.hid hqb
 have HW := Lib.hid hbw
 clear hqa hqb hbw
 go_wp2_with fail
 go_loopw [8, 9] (fun c8 c9 wr => ∃ k : Nat, k ≤ n ∧ c9 = .int .i64 k ∧ c8 = .int .i64 (runF ts (relL ts set l n) k) ∧ wr.heap[w.heap.size]? = some (.cells (lS (relS set s k) (relL ts set l k)).toArray 55 (0, 0)) ∧ wr.heap[w.heap.size + 1]? = some (.cells (lS (fun _ => 0) (fun _ => 0)).toArray 55 (0, 0)) ∧ Below w.heap.size w wr) (fun _ c _ => n - (intOf c).toNat)
 case atStart => exact ⟨0, Nat.zero_le _, rfl, rfl, HBa.out, HBb.out, HW.out⟩
 case round =>
  clear HBa HBb HW
  obtain ⟨k, hk, rfl, rfl, h1, h2, h3⟩ := hrel
  have HBa := Lib.hid h1
  have HBb := Lib.hid h2
  have HW := Lib.hid h3
  clear h1 h2 h3
  obtain ⟨wa, hwa⟩ : ∃ V, V = wr := ⟨_, rfl⟩
  subst hwa
  by_cases hlt : k < n
  ·have htk : decide ((k : Int) < (n : Int)) = true := by simp; omega
   obtain ⟨b, off, rfl, hb, hc⟩ := H0.out (by omega)
   obtain ⟨-, -, -, -, c4, c5, -⟩ := hc k hlt
   replace c4 := ((bcell HW.out).1 b _ hb).trans c4
   have k8 : k < 8 := by omega
   have k0 : (k : Int) < (n : Int) := by omega
   have k1 : (0 : Int) ≤ (k : Int) := by omega
   have k88 : (k : Int) < 8 := by omega
   obtain ⟨C, hC⟩ : ∃ y, (tk ts k).C = y := ⟨_, rfl⟩
   rw [hC] at c4
   have HC := Lib.hid hC
   have Hc := Lib.hid hc
   obtain ⟨bt, hbt⟩ : ∃ b, inS set k = b := ⟨_, rfl⟩
   have HBt := Lib.hid hbt
   have HW1 := Lib.hid (show IntKind.u64.wrap (k : Int) = (k : Int) ∧ min (k : Int).toNat 64 = k ∧ (bits .and .i64 ((set : Int) / 2 ^ k) 1 == 1) = bt from ⟨u64_small k8, by rw [Int.toNat_natCast]; omega, (bit_in hset).trans hbt⟩)
   clear hc hC hbt c5
   go_upto_region 5 with fail
   go_cut [22] (fun c wx => c = .bool bt ∧ wx = wa)
   case first =>
    go_wp2_with fail
    go_meet
    exact ⟨by
     first
     | (rw [HW1.out.1, HW1.out.2.1, HW1.out.2.2])
     | (simp only [HW1.out.1, HW1.out.2.1, HW1.out.2.2])
     | (have q := HW1.out; simp only [q.1, q.2.1, q.2.2]), rfl⟩
   case rest =>
    obtain ⟨rfl, hwc⟩ := hcut
    subst hwc
    obtain ⟨wa, hwa⟩ : ∃ V, V = wc := ⟨_, rfl⟩
    subst hwa
    go_upto_if 22 with fail
    go_cut [] (fun wx => wx.heap[w.heap.size]? = some (.cells (lS (relS set s (k + 1)) (relL ts set l (k + 1))).toArray 55 (0, 0)) ∧ wx.heap[w.heap.size + 1]? = some (.cells (lS (fun _ => 0) (fun _ => 0)).toArray 55 (0, 0)) ∧ Below w.heap.size w wx)
    case first =>
     cases bt with
     | false =>
      have HE1 := Lib.hid (relS_no (set := set) (k := k) s HBt.out)
      have HE2 := Lib.hid (relL_no (ts := ts) (set := set) (k := k) l HBt.out)
      go_wp2_with fail
      go_meet
      exact ⟨by rw [← HE1.out, ← HE2.out]; exact HBa.out, HBb.out, HW.out⟩
     | true =>
      have HE1 := Lib.hid (relS_yes (set := set) (k := k) s HBt.out)
      have HE2 := Lib.hid (relL_yes (ts := ts) (set := set) (k := k) l HBt.out)
      have g1 := row_fro (k := k) (show wa.drew.heap[w.heap.size]? = _ from HBa.out)
      have g2 := row_at (show wa.drew.heap[w.heap.size]? = _ from HBa.out) (lS_since _ _ k8)
      have hq1 : (wa.drew.setCell ⟨w.heap.size, k, none⟩ (.int .i64 0)).heap[w.heap.size]? = some (.cells (lS (relS set s (k + 1)) (relL ts set l k)).toArray 55 (0, 0)) := by
       rw [← HE1.out, ← lS_set0 _ _ k8]; exact row_set (k := k) (v := .int .i64 0) (show wa.drew.heap[w.heap.size]? = _ from HBa.out)
      have g3 := row_fro (k := 8 + k) hq1
      have g5 : wa.frozen? ⟨w.heap.size, 8 + k, none⟩ = false := row_fro (k := 8 + k) HBa.out
      have g6 := row_at HBa.out (lS_left (relS set s k) (relL ts set l k) k8)
      have g7 : wa.frozen? ⟨w.heap.size, k, none⟩ = false := row_fro (k := k) HBa.out
      have g8 := row_at HBa.out (lS_since (relS set s k) (relL ts set l k) k8)
      have g4 := row_at hq1 (lS_left _ _ k8)
      have d4 : (wa.drew.setCell ⟨w.heap.size, k, none⟩ (.int .i64 0)).cell? ⟨b, off + k * 7 + 4, none⟩ = some (.int .i64 C) := (cell_of_heap (st1k_ne (w := wa.drew) (b := w.heap.size) (i := k) (c := b) (.int .i64 0) (by omega)) _).trans c4
      have HR1 := Lib.hid (show ((wa.drew.setCell ⟨w.heap.size, k, none⟩ (.int .i64 0)).setCell ⟨w.heap.size, 8 + k, none⟩ (.int .i64 C)).heap[w.heap.size]? = some (.cells (lS (relS set s (k + 1)) (relL ts set l (k + 1))).toArray 55 (0, 0)) by
       rw [← HE2.out, HC.out, ← lS_set1 _ _ k8]; exact row_set (k := 8 + k) (v := .int .i64 C) hq1)
      have HR2 := Lib.hid (show ((wa.drew.setCell ⟨w.heap.size, k, none⟩ (.int .i64 0)).setCell ⟨w.heap.size, 8 + k, none⟩ (.int .i64 C)).heap[w.heap.size + 1]? = some (.cells (lS (fun _ => 0) (fun _ => 0)).toArray 55 (0, 0)) from (st1k_ne (b := w.heap.size) (i := 8 + k) (c := w.heap.size + 1) (.int .i64 C) (by omega)).trans ((st1k_ne (w := wa.drew) (b := w.heap.size) (i := k) (c := w.heap.size + 1) (.int .i64 0) (by omega)).trans HBb.out))
      have HR3 := Lib.hid (((HW.out.drew).setCell (p := ⟨w.heap.size, k, none⟩) (Nat.le_refl _) (.int .i64 0)).setCell (p := ⟨w.heap.size, 8 + k, none⟩) (Nat.le_refl _) (.int .i64 C))
      have d5 : ((wa.drew.setCell ⟨w.heap.size, k, none⟩ (.int .i64 0)).setCell ⟨w.heap.size, 8 + k, none⟩ (.int .i64 C)).cell? ⟨b, off + k * 7 + 4, none⟩ = some (.int .i64 C) := (cell_of_heap (st1k_ne (b := w.heap.size) (i := 8 + k) (c := b) (.int .i64 C) (by omega)) _).trans d4
      clear hq1
      go_upto_region 6 with fail
      refine wp_region_noPanic ?_
      refine wp_region_held_drew (S := (fun w' => w'.cell? ⟨b, off + k * 7 + 4, none⟩ = some (.int .i64 C))) (by kernel_rfl) c4 (fun hHeld => ?_)
      refine wpAnyH_take (i := 0) (v := ?_) rfl (by kernel_rfl) (by kernel_rfl) (by kernel_rfl) (fun _ _ _ h => h) (Or.inl ⟨by rfl, ?_⟩) (by assumption) ?_
      rotate_left
      ·intro w hSw; (try dsimp only at hSw); go_simp; (try with_reducible rfl)
      try simp only [Act.put, List.getElem_toArray, List.getElem_cons_zero, List.setIfInBounds_toArray, List.set_cons_zero, List.set_cons_succ]
      refine wpAnyH_take (i := 1) (v := ?_) rfl (by kernel_rfl) (by kernel_rfl) (by kernel_rfl) (fun _ _ _ h => h) (Or.inl ⟨by rfl, ?_⟩) (by assumption) ?_
      rotate_left
      ·intro w hSw; (try dsimp only at hSw); go_simp; (try with_reducible rfl)
      try simp only [Act.put, List.getElem_toArray, List.getElem_cons_zero, List.getElem_cons_succ, List.setIfInBounds_toArray, List.set_cons_zero, List.set_cons_succ]
      refine wpAnyH_take (i := 2) (v := ?_) rfl (by kernel_rfl) (by kernel_rfl) (by kernel_rfl) (fun _ _ _ h => h) (Or.inl ⟨by rfl, ?_⟩) (by assumption) ?_
      rotate_left
      ·intro w hSw; (try dsimp only at hSw); go_simp; (try with_reducible rfl)
      try simp only [Act.put, List.getElem_toArray, List.getElem_cons_zero, List.getElem_cons_succ, List.setIfInBounds_toArray, List.set_cons_zero, List.set_cons_succ]
      refine wpAnyH_take (i := 3) (v := ?_) rfl (by kernel_rfl) (by kernel_rfl) (by kernel_rfl) (fun _ _ _ h => h) (Or.inl ⟨by rfl, ?_⟩) (by assumption) ?_
      rotate_left
      ·intro w hSw; (try dsimp only at hSw); go_simp; (try with_reducible rfl)
      try simp only [Act.put, List.getElem_toArray, List.getElem_cons_zero, List.getElem_cons_succ, List.setIfInBounds_toArray, List.set_cons_zero, List.set_cons_succ]
      refine wpAnyH_take (i := 4) (v := ?_) rfl (by kernel_rfl) (by kernel_rfl) (by kernel_rfl) (fun _ _ _ h => h) (Or.inl ⟨by rfl, ?_⟩) (by assumption) ?_
      rotate_left
      ·intro w hSw; (try dsimp only at hSw); go_simp; (try with_reducible rfl)
      try simp only [Act.put, List.getElem_toArray, List.getElem_cons_zero, List.getElem_cons_succ, List.setIfInBounds_toArray, List.set_cons_zero, List.set_cons_succ]
      refine wpAnyH_take (i := 5) (v := ?_) rfl (by kernel_rfl) (by kernel_rfl) (by kernel_rfl) (fun _ _ _ h => h) (Or.inl ⟨by rfl, ?_⟩) (by assumption) ?_
      rotate_left
      ·intro w hSw; (try dsimp only at hSw); go_simp; (try with_reducible rfl)
      try simp only [Act.put, List.getElem_toArray, List.getElem_cons_zero, List.getElem_cons_succ, List.setIfInBounds_toArray, List.set_cons_zero, List.set_cons_succ]
      refine wpAnyH_take (i := 6) (v := ?_) rfl (by kernel_rfl) (by kernel_rfl) (by kernel_rfl) (fun _ _ _ h => h) (Or.inl ⟨by rfl, ?_⟩) (by assumption) ?_
      rotate_left
      ·intro w hSw; (try dsimp only at hSw); go_simp; (try with_reducible rfl)
      try simp only [Act.put, List.getElem_toArray, List.getElem_cons_zero, List.getElem_cons_succ, List.setIfInBounds_toArray, List.set_cons_zero, List.set_cons_succ]
      refine wpAnyH_take (i := 7) (v := ?_) rfl (by kernel_rfl) (by kernel_rfl) (by kernel_rfl) (fun _ _ _ h => h) (Or.inl ⟨by rfl, ?_⟩) (by assumption) ?_
      rotate_left
      ·intro w hSw; (try dsimp only at hSw); go_simp; (try with_reducible rfl)
      try simp only [Act.put, List.getElem_toArray, List.getElem_cons_zero, List.getElem_cons_succ, List.setIfInBounds_toArray, List.set_cons_zero, List.set_cons_succ]
      refine wpAnyH_take (i := 8) (v := ?_) rfl (by kernel_rfl) (by kernel_rfl) (by kernel_rfl) (fun _ _ _ h => h) (Or.inl ⟨by rfl, ?_⟩) (by assumption) ?_
      rotate_left
      ·intro w hSw; (try dsimp only at hSw); go_simp; (try with_reducible rfl)
      try simp only [Act.put, List.getElem_toArray, List.getElem_cons_zero, List.getElem_cons_succ, List.setIfInBounds_toArray, List.set_cons_zero, List.set_cons_succ]
      refine wpAnyH_take (i := 10) (v := ?_) rfl (by kernel_rfl) (by kernel_rfl) (by kernel_rfl) (fun _ _ _ h => h) (Or.inl ⟨by rfl, ?_⟩) (by assumption) ?_
      rotate_left
      ·intro w hSw; (try dsimp only at hSw); go_simp; (try with_reducible rfl)
      try simp only [Act.put, List.getElem_toArray, List.getElem_cons_zero, List.getElem_cons_succ, List.setIfInBounds_toArray, List.set_cons_zero, List.set_cons_succ]
      refine wpAnyH_ready (rs := [9]) (by kernel_rfl) (by simp) ?_
      refine AllReadyH.cons rfl (fun K hK => ?_) AllReadyH.nil
      go_simp
      refine hK.out _ _ d4 (fun hHeld2 => ?_)
      clear hK K
      try simp only [Act.put, List.getElem_toArray, List.getElem_cons_zero, List.getElem_cons_succ, List.setIfInBounds_toArray, List.set_cons_zero, List.set_cons_succ]
      refine wpAnyH_take (i := 11) (v := ?_) rfl (by kernel_rfl) (by kernel_rfl) (by kernel_rfl) (fun _ _ _ h => h) (Or.inl ⟨by rfl, ?_⟩) (by assumption) ?_
      rotate_left
      ·intro w hSw; (try dsimp only at hSw); go_simp; (try with_reducible rfl)
      try simp only [Act.put, List.getElem_toArray, List.getElem_cons_zero, List.getElem_cons_succ, List.setIfInBounds_toArray, List.set_cons_zero, List.set_cons_succ]
      refine wpAnyH_ready (rs := [12]) (by kernel_rfl) (by simp) ?_
      refine AllReadyH.cons rfl (fun K hK => ?_) AllReadyH.nil
      go_simp
      refine hK.out _ _ d5 (fun hHeld2 => ?_)
      clear hK K
      try simp only [Act.put, List.getElem_toArray, List.getElem_cons_zero, List.getElem_cons_succ, List.setIfInBounds_toArray, List.set_cons_zero, List.set_cons_succ]
      refine wpAnyH_done (by kernel_rfl) ?_ _
      refine NoPanic.normal ?_
      go_wp2_with fail
      go_meet
      exact ⟨HR1.out, HR2.out, HR3.out⟩
    case rest =>
     clear HBa HBb HW c4
     obtain ⟨h1, h2, h3⟩ := hcut
     obtain ⟨wb, hwb⟩ : ∃ V, V = wc := ⟨_, rfl⟩
     subst hwb
     have HBa := Lib.hid h1
     have HBb := Lib.hid h2
     have HW := Lib.hid h3
     clear h1 h2 h3
     have HRn := Lib.hid (show runF ts (relL ts set l n) (k + 1) = if 0 < relL ts set l n k ∧ (runF ts (relL ts set l n) k < 0 ∨ (tk ts (runF ts (relL ts set l n) k).toNat).pr < (tk ts k).pr) then (k : Int) else runF ts (relL ts set l n) k from rfl)
     have HRi := Lib.hid (runF_is ts (relL ts set l n) k)
     obtain ⟨rr, hrr⟩ : ∃ r, runF ts (relL ts set l n) k = r := ⟨_, rfl⟩
     obtain ⟨y, hy⟩ : ∃ y, relL ts set l n k = y := ⟨_, rfl⟩
     obtain ⟨pk, hpk⟩ : ∃ y, (tk ts k).pr = y := ⟨_, rfl⟩
     obtain ⟨pj, hpj⟩ : ∃ y, (tk ts rr.toNat).pr = y := ⟨_, rfl⟩
     rw [hrr] at HRn HRi ⊢
     rw [hy, hpk, hpj] at HRn
     have cy : wb.cell? ⟨w.heap.size, 8 + k, none⟩ = some (.int .i64 y) := by
      rw [← hy, ← relL_at l hlt]; exact row_at HBa.out (lS_left _ _ k8)
     have c5 : wb.cell? ⟨b, off + k * 7 + 5, none⟩ = some (.int .i64 pk) := by
      rw [← hpk]; exact ((bcell HW.out).1 b _ hb).trans (Hc.out k hlt).2.2.2.2.2.1
     have Hpj := Lib.hid hpj
     clear hrr hy hpk hpj
     go_upto_region 7 with fail
     go_cut [55] (fun c wx => c = .bool (decide (0 < y ∧ (rr < 0 ∨ pj < pk))) ∧ wx = wb.drew)
     case first =>
      by_cases hy0 : 0 < y
      ·have g1 : decide (0 < y) = true := by simpa using hy0
       by_cases hr0 : rr < 0
       ·have g2 : decide (rr < 0) = true := by simpa using hr0
        refine wp_region_noPanic ?_
        refine wp_region_held_drew (S := (fun w' => w'.cell? ⟨w.heap.size, 8 + k, none⟩ = some (.int .i64 y) ∧ w'.cell? ⟨b, off + k * 7 + 5, none⟩ = some (.int .i64 pk))) (by kernel_rfl) ⟨cy, c5⟩ (fun hHeld => ?_)
        refine wpAnyH_take (i := 0) (v := ?_) rfl (by kernel_rfl) (by kernel_rfl) (by kernel_rfl) (fun _ _ _ h => h) (Or.inl ⟨by rfl, ?_⟩) (by assumption) ?_
        rotate_left
        ·intro w hSw; (try dsimp only at hSw); go_simp; (try with_reducible rfl)
        try simp only [Act.put, List.getElem_toArray, List.getElem_cons_zero, List.setIfInBounds_toArray, List.set_cons_zero, List.set_cons_succ]
        refine wpAnyH_take (i := 1) (v := ?_) rfl (by kernel_rfl) (by kernel_rfl) (by kernel_rfl) (fun _ _ _ h => h) (Or.inl ⟨by rfl, ?_⟩) (by assumption) ?_
        rotate_left
        ·intro w hSw; (try dsimp only at hSw); go_simp; (try with_reducible rfl)
        try simp only [Act.put, List.getElem_toArray, List.getElem_cons_zero, List.getElem_cons_succ, List.setIfInBounds_toArray, List.set_cons_zero, List.set_cons_succ]
        refine wpAnyH_take (i := 2) (v := ?_) rfl (by kernel_rfl) (by kernel_rfl) (by kernel_rfl) (fun _ _ _ h => h) (Or.inl ⟨by rfl, ?_⟩) (by assumption) ?_
        rotate_left
        ·intro w hSw; (try dsimp only at hSw); go_simp; (try with_reducible rfl)
        try simp only [Act.put, List.getElem_toArray, List.getElem_cons_zero, List.getElem_cons_succ, List.setIfInBounds_toArray, List.set_cons_zero, List.set_cons_succ]
        refine wpAnyH_take (i := 3) (v := ?_) rfl (by kernel_rfl) (by kernel_rfl) (by kernel_rfl) (fun _ _ _ h => h) (Or.inl ⟨by rfl, ?_⟩) (by assumption) ?_
        rotate_left
        ·intro w hSw; (try dsimp only at hSw); go_simp; (try with_reducible rfl)
        try simp only [Act.put, List.getElem_toArray, List.getElem_cons_zero, List.getElem_cons_succ, List.setIfInBounds_toArray, List.set_cons_zero, List.set_cons_succ]
        refine wpAnyH_take (i := 4) (v := ?_) rfl (by kernel_rfl) (by kernel_rfl) (by kernel_rfl) (fun _ _ _ h => h) (Or.inl ⟨by rfl, ?_⟩) (by assumption) ?_
        rotate_left
        ·intro w hSw; (try dsimp only at hSw); go_simp; (try with_reducible rfl)
        try simp only [Act.put, List.getElem_toArray, List.getElem_cons_zero, List.getElem_cons_succ, List.setIfInBounds_toArray, List.set_cons_zero, List.set_cons_succ]
        try simp only [g1]
        refine wpAnyH_take (i := 5) (v := ?_) rfl (by kernel_rfl) (by kernel_rfl) (by kernel_rfl) (fun _ _ _ h => h) (Or.inl ⟨by rfl, ?_⟩) (by assumption) ?_
        rotate_left
        ·intro w hSw; (try dsimp only at hSw); go_simp; (try with_reducible rfl)
        try simp only [Act.put, List.getElem_toArray, List.getElem_cons_zero, List.getElem_cons_succ, List.setIfInBounds_toArray, List.set_cons_zero, List.set_cons_succ]
        refine wpAnyH_take (i := 6) (v := ?_) rfl (by kernel_rfl) (by kernel_rfl) (by kernel_rfl) (fun _ _ _ h => h) (Or.inl ⟨by rfl, ?_⟩) (by assumption) ?_
        rotate_left
        ·intro w hSw; (try dsimp only at hSw); go_simp; (try with_reducible rfl)
        try simp only [Act.put, List.getElem_toArray, List.getElem_cons_zero, List.getElem_cons_succ, List.setIfInBounds_toArray, List.set_cons_zero, List.set_cons_succ]
        refine wpAnyH_take (i := 7) (v := ?_) rfl (by kernel_rfl) (by kernel_rfl) (by kernel_rfl) (fun _ _ _ h => h) (Or.inl ⟨by rfl, ?_⟩) (by assumption) ?_
        rotate_left
        ·intro w hSw; (try dsimp only at hSw); go_simp; (try with_reducible rfl)
        try simp only [Act.put, List.getElem_toArray, List.getElem_cons_zero, List.getElem_cons_succ, List.setIfInBounds_toArray, List.set_cons_zero, List.set_cons_succ]
        try simp only [g2]
        refine wpAnyH_take (i := 8) (v := ?_) rfl (by kernel_rfl) (by kernel_rfl) (by kernel_rfl) (fun _ _ _ h => h) (Or.inl ⟨by rfl, ?_⟩) (by assumption) ?_
        rotate_left
        ·intro w hSw; (try dsimp only at hSw); go_simp; (try with_reducible rfl)
        try simp only [Act.put, List.getElem_toArray, List.getElem_cons_zero, List.getElem_cons_succ, List.setIfInBounds_toArray, List.set_cons_zero, List.set_cons_succ]
        refine wpAnyH_take (i := 9) rfl (by kernel_rfl) (by kernel_rfl) (by kernel_rfl) (fun _ _ _ h => h) (Or.inr ⟨by rfl, rfl⟩) (by assumption) ?_
        try simp only [Act.put, List.getElem_toArray, List.getElem_cons_zero, List.getElem_cons_succ, List.setIfInBounds_toArray, List.set_cons_zero, List.set_cons_succ]
        refine wpAnyH_take (i := 10) rfl (by kernel_rfl) (by kernel_rfl) (by kernel_rfl) (fun _ _ _ h => h) (Or.inr ⟨by rfl, rfl⟩) (by assumption) ?_
        try simp only [Act.put, List.getElem_toArray, List.getElem_cons_zero, List.getElem_cons_succ, List.setIfInBounds_toArray, List.set_cons_zero, List.set_cons_succ]
        refine wpAnyH_take (i := 11) rfl (by kernel_rfl) (by kernel_rfl) (by kernel_rfl) (fun _ _ _ h => h) (Or.inr ⟨by rfl, rfl⟩) (by assumption) ?_
        try simp only [Act.put, List.getElem_toArray, List.getElem_cons_zero, List.getElem_cons_succ, List.setIfInBounds_toArray, List.set_cons_zero, List.set_cons_succ]
        refine wpAnyH_take (i := 12) rfl (by kernel_rfl) (by kernel_rfl) (by kernel_rfl) (fun _ _ _ h => h) (Or.inr ⟨by rfl, rfl⟩) (by assumption) ?_
        try simp only [Act.put, List.getElem_toArray, List.getElem_cons_zero, List.getElem_cons_succ, List.setIfInBounds_toArray, List.set_cons_zero, List.set_cons_succ]
        refine wpAnyH_take (i := 13) rfl (by kernel_rfl) (by kernel_rfl) (by kernel_rfl) (fun _ _ _ h => h) (Or.inr ⟨by rfl, rfl⟩) (by assumption) ?_
        try simp only [Act.put, List.getElem_toArray, List.getElem_cons_zero, List.getElem_cons_succ, List.setIfInBounds_toArray, List.set_cons_zero, List.set_cons_succ]
        refine wpAnyH_take (i := 14) rfl (by kernel_rfl) (by kernel_rfl) (by kernel_rfl) (fun _ _ _ h => h) (Or.inr ⟨by rfl, rfl⟩) (by assumption) ?_
        try simp only [Act.put, List.getElem_toArray, List.getElem_cons_zero, List.getElem_cons_succ, List.setIfInBounds_toArray, List.set_cons_zero, List.set_cons_succ]
        refine wpAnyH_take (i := 15) rfl (by kernel_rfl) (by kernel_rfl) (by kernel_rfl) (fun _ _ _ h => h) (Or.inr ⟨by rfl, rfl⟩) (by assumption) ?_
        try simp only [Act.put, List.getElem_toArray, List.getElem_cons_zero, List.getElem_cons_succ, List.setIfInBounds_toArray, List.set_cons_zero, List.set_cons_succ]
        refine wpAnyH_take (i := 16) rfl (by kernel_rfl) (by kernel_rfl) (by kernel_rfl) (fun _ _ _ h => h) (Or.inr ⟨by rfl, rfl⟩) (by assumption) ?_
        try simp only [Act.put, List.getElem_toArray, List.getElem_cons_zero, List.getElem_cons_succ, List.setIfInBounds_toArray, List.set_cons_zero, List.set_cons_succ]
        refine wpAnyH_take (i := 17) rfl (by kernel_rfl) (by kernel_rfl) (by kernel_rfl) (fun _ _ _ h => h) (Or.inr ⟨by rfl, rfl⟩) (by assumption) ?_
        try simp only [Act.put, List.getElem_toArray, List.getElem_cons_zero, List.getElem_cons_succ, List.setIfInBounds_toArray, List.set_cons_zero, List.set_cons_succ]
        refine wpAnyH_take (i := 18) rfl (by kernel_rfl) (by kernel_rfl) (by kernel_rfl) (fun _ _ _ h => h) (Or.inr ⟨by rfl, rfl⟩) (by assumption) ?_
        try simp only [Act.put, List.getElem_toArray, List.getElem_cons_zero, List.getElem_cons_succ, List.setIfInBounds_toArray, List.set_cons_zero, List.set_cons_succ]
        refine wpAnyH_take (i := 19) rfl (by kernel_rfl) (by kernel_rfl) (by kernel_rfl) (fun _ _ _ h => h) (Or.inr ⟨by rfl, rfl⟩) (by assumption) ?_
        try simp only [Act.put, List.getElem_toArray, List.getElem_cons_zero, List.getElem_cons_succ, List.setIfInBounds_toArray, List.set_cons_zero, List.set_cons_succ]
        refine wpAnyH_take (i := 20) (v := ?_) rfl (by kernel_rfl) (by kernel_rfl) (by kernel_rfl) (fun _ _ _ h => h) (Or.inl ⟨by rfl, ?_⟩) (by assumption) ?_
        rotate_left
        ·intro w hSw; (try dsimp only at hSw); go_simp; (try with_reducible rfl)
        try simp only [Act.put, List.getElem_toArray, List.getElem_cons_zero, List.getElem_cons_succ, List.setIfInBounds_toArray, List.set_cons_zero, List.set_cons_succ]
        refine wpAnyH_take (i := 21) (v := ?_) rfl (by kernel_rfl) (by kernel_rfl) (by kernel_rfl) (fun _ _ _ h => h) (Or.inl ⟨by rfl, ?_⟩) (by assumption) ?_
        rotate_left
        ·intro w hSw; (try dsimp only at hSw); go_simp; (try with_reducible rfl)
        try simp only [Act.put, List.getElem_toArray, List.getElem_cons_zero, List.getElem_cons_succ, List.setIfInBounds_toArray, List.set_cons_zero, List.set_cons_succ]
        refine wpAnyH_done (by kernel_rfl) ?_ _
        refine NoPanic.normal ?_
        go_wp2_with fail
        go_meet
        exact ⟨by first | rfl | (simp; omega), rfl⟩
       obtain ⟨j, hj, rfl, -⟩ := HRi.out.resolve_left (fun e => hr0 (by omega))
       have g2 : decide ((j : Int) < 0) = false := by simp
       have j0 : (j : Int) < (n : Int) := by omega
       have j1 : (0 : Int) ≤ (j : Int) := by omega
       have cj : wb.cell? ⟨b, off + j * 7 + 5, none⟩ = some (.int .i64 pj) := by
        have q := Hpj.out
        rw [Int.toNat_natCast] at q
        rw [← q]; exact ((bcell HW.out).1 b _ hb).trans (Hc.out j (by omega)).2.2.2.2.2.1
       clear HRi HRn Hpj
       by_cases hp : pj < pk
       ·have g3 : decide (pj < pk) = true := by simpa using hp
        refine wp_region_noPanic ?_
        refine wp_region_held_drew (S := (fun w' => w'.cell? ⟨w.heap.size, 8 + k, none⟩ = some (.int .i64 y) ∧ w'.cell? ⟨b, off + k * 7 + 5, none⟩ = some (.int .i64 pk) ∧ w'.cell? ⟨b, off + j * 7 + 5, none⟩ = some (.int .i64 pj))) (by kernel_rfl) ⟨cy, c5, cj⟩ (fun hHeld => ?_)
        refine wpAnyH_take (i := 0) (v := ?_) rfl (by kernel_rfl) (by kernel_rfl) (by kernel_rfl) (fun _ _ _ h => h) (Or.inl ⟨by rfl, ?_⟩) (by assumption) ?_
        rotate_left
        ·intro w hSw; (try dsimp only at hSw); go_simp; (try with_reducible rfl)
        try simp only [Act.put, List.getElem_toArray, List.getElem_cons_zero, List.setIfInBounds_toArray, List.set_cons_zero, List.set_cons_succ]
        refine wpAnyH_take (i := 1) (v := ?_) rfl (by kernel_rfl) (by kernel_rfl) (by kernel_rfl) (fun _ _ _ h => h) (Or.inl ⟨by rfl, ?_⟩) (by assumption) ?_
        rotate_left
        ·intro w hSw; (try dsimp only at hSw); go_simp; (try with_reducible rfl)
        try simp only [Act.put, List.getElem_toArray, List.getElem_cons_zero, List.getElem_cons_succ, List.setIfInBounds_toArray, List.set_cons_zero, List.set_cons_succ]
        refine wpAnyH_take (i := 2) (v := ?_) rfl (by kernel_rfl) (by kernel_rfl) (by kernel_rfl) (fun _ _ _ h => h) (Or.inl ⟨by rfl, ?_⟩) (by assumption) ?_
        rotate_left
        ·intro w hSw; (try dsimp only at hSw); go_simp; (try with_reducible rfl)
        try simp only [Act.put, List.getElem_toArray, List.getElem_cons_zero, List.getElem_cons_succ, List.setIfInBounds_toArray, List.set_cons_zero, List.set_cons_succ]
        refine wpAnyH_take (i := 3) (v := ?_) rfl (by kernel_rfl) (by kernel_rfl) (by kernel_rfl) (fun _ _ _ h => h) (Or.inl ⟨by rfl, ?_⟩) (by assumption) ?_
        rotate_left
        ·intro w hSw; (try dsimp only at hSw); go_simp; (try with_reducible rfl)
        try simp only [Act.put, List.getElem_toArray, List.getElem_cons_zero, List.getElem_cons_succ, List.setIfInBounds_toArray, List.set_cons_zero, List.set_cons_succ]
        refine wpAnyH_take (i := 4) (v := ?_) rfl (by kernel_rfl) (by kernel_rfl) (by kernel_rfl) (fun _ _ _ h => h) (Or.inl ⟨by rfl, ?_⟩) (by assumption) ?_
        rotate_left
        ·intro w hSw; (try dsimp only at hSw); go_simp; (try with_reducible rfl)
        try simp only [Act.put, List.getElem_toArray, List.getElem_cons_zero, List.getElem_cons_succ, List.setIfInBounds_toArray, List.set_cons_zero, List.set_cons_succ]
        try simp only [g1]
        refine wpAnyH_take (i := 5) (v := ?_) rfl (by kernel_rfl) (by kernel_rfl) (by kernel_rfl) (fun _ _ _ h => h) (Or.inl ⟨by rfl, ?_⟩) (by assumption) ?_
        rotate_left
        ·intro w hSw; (try dsimp only at hSw); go_simp; (try with_reducible rfl)
        try simp only [Act.put, List.getElem_toArray, List.getElem_cons_zero, List.getElem_cons_succ, List.setIfInBounds_toArray, List.set_cons_zero, List.set_cons_succ]
        refine wpAnyH_take (i := 6) (v := ?_) rfl (by kernel_rfl) (by kernel_rfl) (by kernel_rfl) (fun _ _ _ h => h) (Or.inl ⟨by rfl, ?_⟩) (by assumption) ?_
        rotate_left
        ·intro w hSw; (try dsimp only at hSw); go_simp; (try with_reducible rfl)
        try simp only [Act.put, List.getElem_toArray, List.getElem_cons_zero, List.getElem_cons_succ, List.setIfInBounds_toArray, List.set_cons_zero, List.set_cons_succ]
        refine wpAnyH_take (i := 7) (v := ?_) rfl (by kernel_rfl) (by kernel_rfl) (by kernel_rfl) (fun _ _ _ h => h) (Or.inl ⟨by rfl, ?_⟩) (by assumption) ?_
        rotate_left
        ·intro w hSw; (try dsimp only at hSw); go_simp; (try with_reducible rfl)
        try simp only [Act.put, List.getElem_toArray, List.getElem_cons_zero, List.getElem_cons_succ, List.setIfInBounds_toArray, List.set_cons_zero, List.set_cons_succ]
        try simp only [g2]
        refine wpAnyH_take (i := 8) (v := ?_) rfl (by kernel_rfl) (by kernel_rfl) (by kernel_rfl) (fun _ _ _ h => h) (Or.inl ⟨by rfl, ?_⟩) (by assumption) ?_
        rotate_left
        ·intro w hSw; (try dsimp only at hSw); go_simp; (try with_reducible rfl)
        try simp only [Act.put, List.getElem_toArray, List.getElem_cons_zero, List.getElem_cons_succ, List.setIfInBounds_toArray, List.set_cons_zero, List.set_cons_succ]
        refine wpAnyH_take (i := 9) (v := ?_) rfl (by kernel_rfl) (by kernel_rfl) (by kernel_rfl) (fun _ _ _ h => h) (Or.inl ⟨by rfl, ?_⟩) (by assumption) ?_
        rotate_left
        ·intro w hSw; (try dsimp only at hSw); go_simp; (try with_reducible rfl)
        try simp only [Act.put, List.getElem_toArray, List.getElem_cons_zero, List.getElem_cons_succ, List.setIfInBounds_toArray, List.set_cons_zero, List.set_cons_succ]
        refine wpAnyH_take (i := 10) (v := ?_) rfl (by kernel_rfl) (by kernel_rfl) (by kernel_rfl) (fun _ _ _ h => h) (Or.inl ⟨by rfl, ?_⟩) (by assumption) ?_
        rotate_left
        ·intro w hSw; (try dsimp only at hSw); go_simp; (try with_reducible rfl)
        try simp only [Act.put, List.getElem_toArray, List.getElem_cons_zero, List.getElem_cons_succ, List.setIfInBounds_toArray, List.set_cons_zero, List.set_cons_succ]
        refine wpAnyH_take (i := 11) (v := ?_) rfl (by kernel_rfl) (by kernel_rfl) (by kernel_rfl) (fun _ _ _ h => h) (Or.inl ⟨by rfl, ?_⟩) (by assumption) ?_
        rotate_left
        ·intro w hSw; (try dsimp only at hSw); go_simp; (try with_reducible rfl)
        try simp only [Act.put, List.getElem_toArray, List.getElem_cons_zero, List.getElem_cons_succ, List.setIfInBounds_toArray, List.set_cons_zero, List.set_cons_succ]
        refine wpAnyH_take (i := 12) (v := ?_) rfl (by kernel_rfl) (by kernel_rfl) (by kernel_rfl) (fun _ _ _ h => h) (Or.inl ⟨by rfl, ?_⟩) (by assumption) ?_
        rotate_left
        ·intro w hSw; (try dsimp only at hSw); go_simp; (try with_reducible rfl)
        try simp only [Act.put, List.getElem_toArray, List.getElem_cons_zero, List.getElem_cons_succ, List.setIfInBounds_toArray, List.set_cons_zero, List.set_cons_succ]
        refine wpAnyH_take (i := 13) (v := ?_) rfl (by kernel_rfl) (by kernel_rfl) (by kernel_rfl) (fun _ _ _ h => h) (Or.inl ⟨by rfl, ?_⟩) (by assumption) ?_
        rotate_left
        ·intro w hSw; (try dsimp only at hSw); go_simp; (try with_reducible rfl)
        try simp only [Act.put, List.getElem_toArray, List.getElem_cons_zero, List.getElem_cons_succ, List.setIfInBounds_toArray, List.set_cons_zero, List.set_cons_succ]
        refine wpAnyH_take (i := 14) (v := ?_) rfl (by kernel_rfl) (by kernel_rfl) (by kernel_rfl) (fun _ _ _ h => h) (Or.inl ⟨by rfl, ?_⟩) (by assumption) ?_
        rotate_left
        ·intro w hSw; (try dsimp only at hSw); go_simp; (try with_reducible rfl)
        try simp only [Act.put, List.getElem_toArray, List.getElem_cons_zero, List.getElem_cons_succ, List.setIfInBounds_toArray, List.set_cons_zero, List.set_cons_succ]
        refine wpAnyH_take (i := 15) (v := ?_) rfl (by kernel_rfl) (by kernel_rfl) (by kernel_rfl) (fun _ _ _ h => h) (Or.inl ⟨by rfl, ?_⟩) (by assumption) ?_
        rotate_left
        ·intro w hSw; (try dsimp only at hSw); go_simp; (try with_reducible rfl)
        try simp only [Act.put, List.getElem_toArray, List.getElem_cons_zero, List.getElem_cons_succ, List.setIfInBounds_toArray, List.set_cons_zero, List.set_cons_succ]
        refine wpAnyH_take (i := 16) (v := ?_) rfl (by kernel_rfl) (by kernel_rfl) (by kernel_rfl) (fun _ _ _ h => h) (Or.inl ⟨by rfl, ?_⟩) (by assumption) ?_
        rotate_left
        ·intro w hSw; (try dsimp only at hSw); go_simp; (try with_reducible rfl)
        try simp only [Act.put, List.getElem_toArray, List.getElem_cons_zero, List.getElem_cons_succ, List.setIfInBounds_toArray, List.set_cons_zero, List.set_cons_succ]
        refine wpAnyH_take (i := 17) (v := ?_) rfl (by kernel_rfl) (by kernel_rfl) (by kernel_rfl) (fun _ _ _ h => h) (Or.inl ⟨by rfl, ?_⟩) (by assumption) ?_
        rotate_left
        ·intro w hSw; (try dsimp only at hSw); go_simp; (try with_reducible rfl)
        try simp only [Act.put, List.getElem_toArray, List.getElem_cons_zero, List.getElem_cons_succ, List.setIfInBounds_toArray, List.set_cons_zero, List.set_cons_succ]
        refine wpAnyH_take (i := 18) (v := ?_) rfl (by kernel_rfl) (by kernel_rfl) (by kernel_rfl) (fun _ _ _ h => h) (Or.inl ⟨by rfl, ?_⟩) (by assumption) ?_
        rotate_left
        ·intro w hSw; (try dsimp only at hSw); go_simp; (try with_reducible rfl)
        try simp only [Act.put, List.getElem_toArray, List.getElem_cons_zero, List.getElem_cons_succ, List.setIfInBounds_toArray, List.set_cons_zero, List.set_cons_succ]
        refine wpAnyH_take (i := 19) (v := ?_) rfl (by kernel_rfl) (by kernel_rfl) (by kernel_rfl) (fun _ _ _ h => h) (Or.inl ⟨by rfl, ?_⟩) (by assumption) ?_
        rotate_left
        ·intro w hSw; (try dsimp only at hSw); go_simp; (try with_reducible rfl)
        try simp only [Act.put, List.getElem_toArray, List.getElem_cons_zero, List.getElem_cons_succ, List.setIfInBounds_toArray, List.set_cons_zero, List.set_cons_succ]
        try simp only [g3]
        refine wpAnyH_take (i := 20) (v := ?_) rfl (by kernel_rfl) (by kernel_rfl) (by kernel_rfl) (fun _ _ _ h => h) (Or.inl ⟨by rfl, ?_⟩) (by assumption) ?_
        rotate_left
        ·intro w hSw; (try dsimp only at hSw); go_simp; (try with_reducible rfl)
        try simp only [Act.put, List.getElem_toArray, List.getElem_cons_zero, List.getElem_cons_succ, List.setIfInBounds_toArray, List.set_cons_zero, List.set_cons_succ]
        refine wpAnyH_take (i := 21) (v := ?_) rfl (by kernel_rfl) (by kernel_rfl) (by kernel_rfl) (fun _ _ _ h => h) (Or.inl ⟨by rfl, ?_⟩) (by assumption) ?_
        rotate_left
        ·intro w hSw; (try dsimp only at hSw); go_simp; (try with_reducible rfl)
        try simp only [Act.put, List.getElem_toArray, List.getElem_cons_zero, List.getElem_cons_succ, List.setIfInBounds_toArray, List.set_cons_zero, List.set_cons_succ]
        refine wpAnyH_done (by kernel_rfl) ?_ _
        refine NoPanic.normal ?_
        go_wp2_with fail
        go_meet
        exact ⟨by first | rfl | (simp; omega), rfl⟩
       ·have g3 : decide (pj < pk) = false := by simpa using hp
        refine wp_region_noPanic ?_
        refine wp_region_held_drew (S := (fun w' => w'.cell? ⟨w.heap.size, 8 + k, none⟩ = some (.int .i64 y) ∧ w'.cell? ⟨b, off + k * 7 + 5, none⟩ = some (.int .i64 pk) ∧ w'.cell? ⟨b, off + j * 7 + 5, none⟩ = some (.int .i64 pj))) (by kernel_rfl) ⟨cy, c5, cj⟩ (fun hHeld => ?_)
        refine wpAnyH_take (i := 0) (v := ?_) rfl (by kernel_rfl) (by kernel_rfl) (by kernel_rfl) (fun _ _ _ h => h) (Or.inl ⟨by rfl, ?_⟩) (by assumption) ?_
        rotate_left
        ·intro w hSw; (try dsimp only at hSw); go_simp; (try with_reducible rfl)
        try simp only [Act.put, List.getElem_toArray, List.getElem_cons_zero, List.setIfInBounds_toArray, List.set_cons_zero, List.set_cons_succ]
        refine wpAnyH_take (i := 1) (v := ?_) rfl (by kernel_rfl) (by kernel_rfl) (by kernel_rfl) (fun _ _ _ h => h) (Or.inl ⟨by rfl, ?_⟩) (by assumption) ?_
        rotate_left
        ·intro w hSw; (try dsimp only at hSw); go_simp; (try with_reducible rfl)
        try simp only [Act.put, List.getElem_toArray, List.getElem_cons_zero, List.getElem_cons_succ, List.setIfInBounds_toArray, List.set_cons_zero, List.set_cons_succ]
        refine wpAnyH_take (i := 2) (v := ?_) rfl (by kernel_rfl) (by kernel_rfl) (by kernel_rfl) (fun _ _ _ h => h) (Or.inl ⟨by rfl, ?_⟩) (by assumption) ?_
        rotate_left
        ·intro w hSw; (try dsimp only at hSw); go_simp; (try with_reducible rfl)
        try simp only [Act.put, List.getElem_toArray, List.getElem_cons_zero, List.getElem_cons_succ, List.setIfInBounds_toArray, List.set_cons_zero, List.set_cons_succ]
        refine wpAnyH_take (i := 3) (v := ?_) rfl (by kernel_rfl) (by kernel_rfl) (by kernel_rfl) (fun _ _ _ h => h) (Or.inl ⟨by rfl, ?_⟩) (by assumption) ?_
        rotate_left
        ·intro w hSw; (try dsimp only at hSw); go_simp; (try with_reducible rfl)
        try simp only [Act.put, List.getElem_toArray, List.getElem_cons_zero, List.getElem_cons_succ, List.setIfInBounds_toArray, List.set_cons_zero, List.set_cons_succ]
        refine wpAnyH_take (i := 4) (v := ?_) rfl (by kernel_rfl) (by kernel_rfl) (by kernel_rfl) (fun _ _ _ h => h) (Or.inl ⟨by rfl, ?_⟩) (by assumption) ?_
        rotate_left
        ·intro w hSw; (try dsimp only at hSw); go_simp; (try with_reducible rfl)
        try simp only [Act.put, List.getElem_toArray, List.getElem_cons_zero, List.getElem_cons_succ, List.setIfInBounds_toArray, List.set_cons_zero, List.set_cons_succ]
        try simp only [g1]
        refine wpAnyH_take (i := 5) (v := ?_) rfl (by kernel_rfl) (by kernel_rfl) (by kernel_rfl) (fun _ _ _ h => h) (Or.inl ⟨by rfl, ?_⟩) (by assumption) ?_
        rotate_left
        ·intro w hSw; (try dsimp only at hSw); go_simp; (try with_reducible rfl)
        try simp only [Act.put, List.getElem_toArray, List.getElem_cons_zero, List.getElem_cons_succ, List.setIfInBounds_toArray, List.set_cons_zero, List.set_cons_succ]
        refine wpAnyH_take (i := 6) (v := ?_) rfl (by kernel_rfl) (by kernel_rfl) (by kernel_rfl) (fun _ _ _ h => h) (Or.inl ⟨by rfl, ?_⟩) (by assumption) ?_
        rotate_left
        ·intro w hSw; (try dsimp only at hSw); go_simp; (try with_reducible rfl)
        try simp only [Act.put, List.getElem_toArray, List.getElem_cons_zero, List.getElem_cons_succ, List.setIfInBounds_toArray, List.set_cons_zero, List.set_cons_succ]
        refine wpAnyH_take (i := 7) (v := ?_) rfl (by kernel_rfl) (by kernel_rfl) (by kernel_rfl) (fun _ _ _ h => h) (Or.inl ⟨by rfl, ?_⟩) (by assumption) ?_
        rotate_left
        ·intro w hSw; (try dsimp only at hSw); go_simp; (try with_reducible rfl)
        try simp only [Act.put, List.getElem_toArray, List.getElem_cons_zero, List.getElem_cons_succ, List.setIfInBounds_toArray, List.set_cons_zero, List.set_cons_succ]
        try simp only [g2]
        refine wpAnyH_take (i := 8) (v := ?_) rfl (by kernel_rfl) (by kernel_rfl) (by kernel_rfl) (fun _ _ _ h => h) (Or.inl ⟨by rfl, ?_⟩) (by assumption) ?_
        rotate_left
        ·intro w hSw; (try dsimp only at hSw); go_simp; (try with_reducible rfl)
        try simp only [Act.put, List.getElem_toArray, List.getElem_cons_zero, List.getElem_cons_succ, List.setIfInBounds_toArray, List.set_cons_zero, List.set_cons_succ]
        refine wpAnyH_take (i := 9) (v := ?_) rfl (by kernel_rfl) (by kernel_rfl) (by kernel_rfl) (fun _ _ _ h => h) (Or.inl ⟨by rfl, ?_⟩) (by assumption) ?_
        rotate_left
        ·intro w hSw; (try dsimp only at hSw); go_simp; (try with_reducible rfl)
        try simp only [Act.put, List.getElem_toArray, List.getElem_cons_zero, List.getElem_cons_succ, List.setIfInBounds_toArray, List.set_cons_zero, List.set_cons_succ]
        refine wpAnyH_take (i := 10) (v := ?_) rfl (by kernel_rfl) (by kernel_rfl) (by kernel_rfl) (fun _ _ _ h => h) (Or.inl ⟨by rfl, ?_⟩) (by assumption) ?_
        rotate_left
        ·intro w hSw; (try dsimp only at hSw); go_simp; (try with_reducible rfl)
        try simp only [Act.put, List.getElem_toArray, List.getElem_cons_zero, List.getElem_cons_succ, List.setIfInBounds_toArray, List.set_cons_zero, List.set_cons_succ]
        refine wpAnyH_take (i := 11) (v := ?_) rfl (by kernel_rfl) (by kernel_rfl) (by kernel_rfl) (fun _ _ _ h => h) (Or.inl ⟨by rfl, ?_⟩) (by assumption) ?_
        rotate_left
        ·intro w hSw; (try dsimp only at hSw); go_simp; (try with_reducible rfl)
        try simp only [Act.put, List.getElem_toArray, List.getElem_cons_zero, List.getElem_cons_succ, List.setIfInBounds_toArray, List.set_cons_zero, List.set_cons_succ]
        refine wpAnyH_take (i := 12) (v := ?_) rfl (by kernel_rfl) (by kernel_rfl) (by kernel_rfl) (fun _ _ _ h => h) (Or.inl ⟨by rfl, ?_⟩) (by assumption) ?_
        rotate_left
        ·intro w hSw; (try dsimp only at hSw); go_simp; (try with_reducible rfl)
        try simp only [Act.put, List.getElem_toArray, List.getElem_cons_zero, List.getElem_cons_succ, List.setIfInBounds_toArray, List.set_cons_zero, List.set_cons_succ]
        refine wpAnyH_take (i := 13) (v := ?_) rfl (by kernel_rfl) (by kernel_rfl) (by kernel_rfl) (fun _ _ _ h => h) (Or.inl ⟨by rfl, ?_⟩) (by assumption) ?_
        rotate_left
        ·intro w hSw; (try dsimp only at hSw); go_simp; (try with_reducible rfl)
        try simp only [Act.put, List.getElem_toArray, List.getElem_cons_zero, List.getElem_cons_succ, List.setIfInBounds_toArray, List.set_cons_zero, List.set_cons_succ]
        refine wpAnyH_take (i := 14) (v := ?_) rfl (by kernel_rfl) (by kernel_rfl) (by kernel_rfl) (fun _ _ _ h => h) (Or.inl ⟨by rfl, ?_⟩) (by assumption) ?_
        rotate_left
        ·intro w hSw; (try dsimp only at hSw); go_simp; (try with_reducible rfl)
        try simp only [Act.put, List.getElem_toArray, List.getElem_cons_zero, List.getElem_cons_succ, List.setIfInBounds_toArray, List.set_cons_zero, List.set_cons_succ]
        refine wpAnyH_take (i := 15) (v := ?_) rfl (by kernel_rfl) (by kernel_rfl) (by kernel_rfl) (fun _ _ _ h => h) (Or.inl ⟨by rfl, ?_⟩) (by assumption) ?_
        rotate_left
        ·intro w hSw; (try dsimp only at hSw); go_simp; (try with_reducible rfl)
        try simp only [Act.put, List.getElem_toArray, List.getElem_cons_zero, List.getElem_cons_succ, List.setIfInBounds_toArray, List.set_cons_zero, List.set_cons_succ]
        refine wpAnyH_take (i := 16) (v := ?_) rfl (by kernel_rfl) (by kernel_rfl) (by kernel_rfl) (fun _ _ _ h => h) (Or.inl ⟨by rfl, ?_⟩) (by assumption) ?_
        rotate_left
        ·intro w hSw; (try dsimp only at hSw); go_simp; (try with_reducible rfl)
        try simp only [Act.put, List.getElem_toArray, List.getElem_cons_zero, List.getElem_cons_succ, List.setIfInBounds_toArray, List.set_cons_zero, List.set_cons_succ]
        refine wpAnyH_take (i := 17) (v := ?_) rfl (by kernel_rfl) (by kernel_rfl) (by kernel_rfl) (fun _ _ _ h => h) (Or.inl ⟨by rfl, ?_⟩) (by assumption) ?_
        rotate_left
        ·intro w hSw; (try dsimp only at hSw); go_simp; (try with_reducible rfl)
        try simp only [Act.put, List.getElem_toArray, List.getElem_cons_zero, List.getElem_cons_succ, List.setIfInBounds_toArray, List.set_cons_zero, List.set_cons_succ]
        refine wpAnyH_take (i := 18) (v := ?_) rfl (by kernel_rfl) (by kernel_rfl) (by kernel_rfl) (fun _ _ _ h => h) (Or.inl ⟨by rfl, ?_⟩) (by assumption) ?_
        rotate_left
        ·intro w hSw; (try dsimp only at hSw); go_simp; (try with_reducible rfl)
        try simp only [Act.put, List.getElem_toArray, List.getElem_cons_zero, List.getElem_cons_succ, List.setIfInBounds_toArray, List.set_cons_zero, List.set_cons_succ]
        refine wpAnyH_take (i := 19) (v := ?_) rfl (by kernel_rfl) (by kernel_rfl) (by kernel_rfl) (fun _ _ _ h => h) (Or.inl ⟨by rfl, ?_⟩) (by assumption) ?_
        rotate_left
        ·intro w hSw; (try dsimp only at hSw); go_simp; (try with_reducible rfl)
        try simp only [Act.put, List.getElem_toArray, List.getElem_cons_zero, List.getElem_cons_succ, List.setIfInBounds_toArray, List.set_cons_zero, List.set_cons_succ]
        try simp only [g3]
        refine wpAnyH_take (i := 20) (v := ?_) rfl (by kernel_rfl) (by kernel_rfl) (by kernel_rfl) (fun _ _ _ h => h) (Or.inl ⟨by rfl, ?_⟩) (by assumption) ?_
        rotate_left
        ·intro w hSw; (try dsimp only at hSw); go_simp; (try with_reducible rfl)
        try simp only [Act.put, List.getElem_toArray, List.getElem_cons_zero, List.getElem_cons_succ, List.setIfInBounds_toArray, List.set_cons_zero, List.set_cons_succ]
        refine wpAnyH_take (i := 21) (v := ?_) rfl (by kernel_rfl) (by kernel_rfl) (by kernel_rfl) (fun _ _ _ h => h) (Or.inl ⟨by rfl, ?_⟩) (by assumption) ?_
        rotate_left
        ·intro w hSw; (try dsimp only at hSw); go_simp; (try with_reducible rfl)
        try simp only [Act.put, List.getElem_toArray, List.getElem_cons_zero, List.getElem_cons_succ, List.setIfInBounds_toArray, List.set_cons_zero, List.set_cons_succ]
        refine wpAnyH_done (by kernel_rfl) ?_ _
        refine NoPanic.normal ?_
        go_wp2_with fail
        go_meet
        exact ⟨by first | rfl | (simp; omega), rfl⟩
      ·have g1 : decide (0 < y) = false := by simpa using hy0
       refine wp_region_noPanic ?_
       refine wp_region_held_drew (S := (fun w' => w'.cell? ⟨w.heap.size, 8 + k, none⟩ = some (.int .i64 y) ∧ w'.cell? ⟨b, off + k * 7 + 5, none⟩ = some (.int .i64 pk))) (by kernel_rfl) ⟨cy, c5⟩ (fun hHeld => ?_)
       refine wpAnyH_take (i := 0) (v := ?_) rfl (by kernel_rfl) (by kernel_rfl) (by kernel_rfl) (fun _ _ _ h => h) (Or.inl ⟨by rfl, ?_⟩) (by assumption) ?_
       rotate_left
       ·intro w hSw; (try dsimp only at hSw); go_simp; (try with_reducible rfl)
       try simp only [Act.put, List.getElem_toArray, List.getElem_cons_zero, List.setIfInBounds_toArray, List.set_cons_zero, List.set_cons_succ]
       refine wpAnyH_take (i := 1) (v := ?_) rfl (by kernel_rfl) (by kernel_rfl) (by kernel_rfl) (fun _ _ _ h => h) (Or.inl ⟨by rfl, ?_⟩) (by assumption) ?_
       rotate_left
       ·intro w hSw; (try dsimp only at hSw); go_simp; (try with_reducible rfl)
       try simp only [Act.put, List.getElem_toArray, List.getElem_cons_zero, List.getElem_cons_succ, List.setIfInBounds_toArray, List.set_cons_zero, List.set_cons_succ]
       refine wpAnyH_take (i := 2) (v := ?_) rfl (by kernel_rfl) (by kernel_rfl) (by kernel_rfl) (fun _ _ _ h => h) (Or.inl ⟨by rfl, ?_⟩) (by assumption) ?_
       rotate_left
       ·intro w hSw; (try dsimp only at hSw); go_simp; (try with_reducible rfl)
       try simp only [Act.put, List.getElem_toArray, List.getElem_cons_zero, List.getElem_cons_succ, List.setIfInBounds_toArray, List.set_cons_zero, List.set_cons_succ]
       refine wpAnyH_take (i := 3) (v := ?_) rfl (by kernel_rfl) (by kernel_rfl) (by kernel_rfl) (fun _ _ _ h => h) (Or.inl ⟨by rfl, ?_⟩) (by assumption) ?_
       rotate_left
       ·intro w hSw; (try dsimp only at hSw); go_simp; (try with_reducible rfl)
       try simp only [Act.put, List.getElem_toArray, List.getElem_cons_zero, List.getElem_cons_succ, List.setIfInBounds_toArray, List.set_cons_zero, List.set_cons_succ]
       refine wpAnyH_take (i := 4) (v := ?_) rfl (by kernel_rfl) (by kernel_rfl) (by kernel_rfl) (fun _ _ _ h => h) (Or.inl ⟨by rfl, ?_⟩) (by assumption) ?_
       rotate_left
       ·intro w hSw; (try dsimp only at hSw); go_simp; (try with_reducible rfl)
       try simp only [Act.put, List.getElem_toArray, List.getElem_cons_zero, List.getElem_cons_succ, List.setIfInBounds_toArray, List.set_cons_zero, List.set_cons_succ]
       try simp only [g1]
       refine wpAnyH_take (i := 5) (v := ?_) rfl (by kernel_rfl) (by kernel_rfl) (by kernel_rfl) (fun _ _ _ h => h) (Or.inl ⟨by rfl, ?_⟩) (by assumption) ?_
       rotate_left
       ·intro w hSw; (try dsimp only at hSw); go_simp; (try with_reducible rfl)
       try simp only [Act.put, List.getElem_toArray, List.getElem_cons_zero, List.getElem_cons_succ, List.setIfInBounds_toArray, List.set_cons_zero, List.set_cons_succ]
       refine wpAnyH_take (i := 6) rfl (by kernel_rfl) (by kernel_rfl) (by kernel_rfl) (fun _ _ _ h => h) (Or.inr ⟨by rfl, rfl⟩) (by assumption) ?_
       try simp only [Act.put, List.getElem_toArray, List.getElem_cons_zero, List.getElem_cons_succ, List.setIfInBounds_toArray, List.set_cons_zero, List.set_cons_succ]
       refine wpAnyH_take (i := 7) rfl (by kernel_rfl) (by kernel_rfl) (by kernel_rfl) (fun _ _ _ h => h) (Or.inr ⟨by rfl, rfl⟩) (by assumption) ?_
       try simp only [Act.put, List.getElem_toArray, List.getElem_cons_zero, List.getElem_cons_succ, List.setIfInBounds_toArray, List.set_cons_zero, List.set_cons_succ]
       refine wpAnyH_take (i := 8) rfl (by kernel_rfl) (by kernel_rfl) (by kernel_rfl) (fun _ _ _ h => h) (Or.inr ⟨by rfl, rfl⟩) (by assumption) ?_
       try simp only [Act.put, List.getElem_toArray, List.getElem_cons_zero, List.getElem_cons_succ, List.setIfInBounds_toArray, List.set_cons_zero, List.set_cons_succ]
       refine wpAnyH_take (i := 9) rfl (by kernel_rfl) (by kernel_rfl) (by kernel_rfl) (fun _ _ _ h => h) (Or.inr ⟨by rfl, rfl⟩) (by assumption) ?_
       try simp only [Act.put, List.getElem_toArray, List.getElem_cons_zero, List.getElem_cons_succ, List.setIfInBounds_toArray, List.set_cons_zero, List.set_cons_succ]
       refine wpAnyH_take (i := 10) rfl (by kernel_rfl) (by kernel_rfl) (by kernel_rfl) (fun _ _ _ h => h) (Or.inr ⟨by rfl, rfl⟩) (by assumption) ?_
       try simp only [Act.put, List.getElem_toArray, List.getElem_cons_zero, List.getElem_cons_succ, List.setIfInBounds_toArray, List.set_cons_zero, List.set_cons_succ]
       refine wpAnyH_take (i := 11) rfl (by kernel_rfl) (by kernel_rfl) (by kernel_rfl) (fun _ _ _ h => h) (Or.inr ⟨by rfl, rfl⟩) (by assumption) ?_
       try simp only [Act.put, List.getElem_toArray, List.getElem_cons_zero, List.getElem_cons_succ, List.setIfInBounds_toArray, List.set_cons_zero, List.set_cons_succ]
       refine wpAnyH_take (i := 12) rfl (by kernel_rfl) (by kernel_rfl) (by kernel_rfl) (fun _ _ _ h => h) (Or.inr ⟨by rfl, rfl⟩) (by assumption) ?_
       try simp only [Act.put, List.getElem_toArray, List.getElem_cons_zero, List.getElem_cons_succ, List.setIfInBounds_toArray, List.set_cons_zero, List.set_cons_succ]
       refine wpAnyH_take (i := 13) rfl (by kernel_rfl) (by kernel_rfl) (by kernel_rfl) (fun _ _ _ h => h) (Or.inr ⟨by rfl, rfl⟩) (by assumption) ?_
       try simp only [Act.put, List.getElem_toArray, List.getElem_cons_zero, List.getElem_cons_succ, List.setIfInBounds_toArray, List.set_cons_zero, List.set_cons_succ]
       refine wpAnyH_take (i := 14) rfl (by kernel_rfl) (by kernel_rfl) (by kernel_rfl) (fun _ _ _ h => h) (Or.inr ⟨by rfl, rfl⟩) (by assumption) ?_
       try simp only [Act.put, List.getElem_toArray, List.getElem_cons_zero, List.getElem_cons_succ, List.setIfInBounds_toArray, List.set_cons_zero, List.set_cons_succ]
       refine wpAnyH_take (i := 15) rfl (by kernel_rfl) (by kernel_rfl) (by kernel_rfl) (fun _ _ _ h => h) (Or.inr ⟨by rfl, rfl⟩) (by assumption) ?_
       try simp only [Act.put, List.getElem_toArray, List.getElem_cons_zero, List.getElem_cons_succ, List.setIfInBounds_toArray, List.set_cons_zero, List.set_cons_succ]
       refine wpAnyH_take (i := 16) rfl (by kernel_rfl) (by kernel_rfl) (by kernel_rfl) (fun _ _ _ h => h) (Or.inr ⟨by rfl, rfl⟩) (by assumption) ?_
       try simp only [Act.put, List.getElem_toArray, List.getElem_cons_zero, List.getElem_cons_succ, List.setIfInBounds_toArray, List.set_cons_zero, List.set_cons_succ]
       refine wpAnyH_take (i := 17) rfl (by kernel_rfl) (by kernel_rfl) (by kernel_rfl) (fun _ _ _ h => h) (Or.inr ⟨by rfl, rfl⟩) (by assumption) ?_
       try simp only [Act.put, List.getElem_toArray, List.getElem_cons_zero, List.getElem_cons_succ, List.setIfInBounds_toArray, List.set_cons_zero, List.set_cons_succ]
       refine wpAnyH_take (i := 18) rfl (by kernel_rfl) (by kernel_rfl) (by kernel_rfl) (fun _ _ _ h => h) (Or.inr ⟨by rfl, rfl⟩) (by assumption) ?_
       try simp only [Act.put, List.getElem_toArray, List.getElem_cons_zero, List.getElem_cons_succ, List.setIfInBounds_toArray, List.set_cons_zero, List.set_cons_succ]
       refine wpAnyH_take (i := 19) rfl (by kernel_rfl) (by kernel_rfl) (by kernel_rfl) (fun _ _ _ h => h) (Or.inr ⟨by rfl, rfl⟩) (by assumption) ?_
       try simp only [Act.put, List.getElem_toArray, List.getElem_cons_zero, List.getElem_cons_succ, List.setIfInBounds_toArray, List.set_cons_zero, List.set_cons_succ]
       refine wpAnyH_take (i := 20) rfl (by kernel_rfl) (by kernel_rfl) (by kernel_rfl) (fun _ _ _ h => h) (Or.inr ⟨by rfl, rfl⟩) (by assumption) ?_
       try simp only [Act.put, List.getElem_toArray, List.getElem_cons_zero, List.getElem_cons_succ, List.setIfInBounds_toArray, List.set_cons_zero, List.set_cons_succ]
       refine wpAnyH_take (i := 21) (v := ?_) rfl (by kernel_rfl) (by kernel_rfl) (by kernel_rfl) (fun _ _ _ h => h) (Or.inl ⟨by rfl, ?_⟩) (by assumption) ?_
       rotate_left
       ·intro w hSw; (try dsimp only at hSw); go_simp; (try with_reducible rfl)
       try simp only [Act.put, List.getElem_toArray, List.getElem_cons_zero, List.getElem_cons_succ, List.setIfInBounds_toArray, List.set_cons_zero, List.set_cons_succ]
       refine wpAnyH_done (by kernel_rfl) ?_ _
       refine NoPanic.normal ?_
       go_wp2_with fail
       go_meet
       exact ⟨by first | rfl | (simp; omega), rfl⟩
     case rest =>
      obtain ⟨rfl, hwc⟩ := hcut
      subst hwc
      have h1 : wb.drew.heap[w.heap.size]? = some (.cells (lS (relS set s (k + 1)) (relL ts set l (k + 1))).toArray 55 (0, 0)) := HBa.out
      have h2 : wb.drew.heap[w.heap.size + 1]? = some (.cells (lS (fun _ => 0) (fun _ => 0)).toArray 55 (0, 0)) := HBb.out
      have h3 : Below w.heap.size w wb.drew := HW.out.drew
      clear cy c5 HBa HBb HW
      generalize wb.drew = wb at *
      have HBa := Lib.hid h1
      have HBb := Lib.hid h2
      have HW := Lib.hid h3
      clear h1 h2 h3
      by_cases hrl : 0 < y ∧ (rr < 0 ∨ pj < pk)
      ·have hrd : decide (0 < y ∧ (rr < 0 ∨ pj < pk)) = true := by simpa using hrl
       rw [if_pos hrl] at HRn
       rw [hrd]
       clear hrd hrl
       go_wp2_with fail
       go_roundw
       case rel => exact ⟨k + 1, by omega, by go_num, by rw [HRn.out], HBa.out, HBb.out, HW.out⟩
       case measure => simp [intOf]; omega
      ·have hrd : decide (0 < y ∧ (rr < 0 ∨ pj < pk)) = false := by simpa using hrl
       rw [if_neg hrl] at HRn
       rw [hrd]
       clear hrd hrl
       go_wp2_with fail
       go_roundw
       case rel => exact ⟨k + 1, by omega, by go_num, by rw [HRn.out], HBa.out, HBb.out, HW.out⟩
       case measure => simp [intOf]; omega
  ·have htk : decide ((k : Int) < (n : Int)) = false := by simp; omega
   obtain rfl : n = k := by omega
   have HRi := Lib.hid (runF_is ts (relL ts set l n) n)
   obtain ⟨rr, hrr⟩ : ∃ r, runF ts (relL ts set l n) n = r := ⟨_, rfl⟩
   obtain ⟨L, hL⟩ : ∃ f, relL ts set l n = f := ⟨_, rfl⟩
   obtain ⟨S, hS⟩ : ∃ f, relS set s n = f := ⟨_, rfl⟩
   rw [hrr] at HRi ⊢
   have HEq := Lib.hid (show runF ts (relL ts set l n) n = rr ∧ relL ts set l n = L ∧ relS set s n = S from ⟨hrr, hL, hS⟩)
   rw [hL] at HRi Hl HBa
   rw [hS] at HS HBa
   clear hL hS hrr
   go_upto_if 58 with fail
   go_cut [] (fun wx => wx.heap[w.heap.size]? = some (.cells (lS (S) (decF L rr)).toArray 55 (0, 0)) ∧ wx.heap[w.heap.size + 1]? = some (.cells (lS (fun _ => 0) (fun _ => 0)).toArray 55 (0, 0)) ∧ Below w.heap.size w wx)
   case first =>
    by_cases hr0 : 0 ≤ rr
    ·have g1 : decide (rr ≥ 0) = true := by simpa using hr0
     obtain ⟨j, hj, rfl, hLj⟩ := HRi.out.resolve_left (fun e => by omega)
     have j8 : j < 8 := by omega
     have jb := (Hl.out j j8).2
     obtain ⟨y, hy⟩ : ∃ y, L j = y := ⟨_, rfl⟩
     rw [hy] at jb hLj
     have hw1 : IntKind.i64.wrap (y - 1) = y - 1 := wr_id (by omega) (by omega)
     have cy : wa.cell? ⟨w.heap.size, 8 + j, none⟩ = some (.int .i64 y) := by rw [← hy]; exact row_at HBa.out (lS_left _ _ j8)
     have cf : wa.frozen? ⟨w.heap.size, 8 + j, none⟩ = false := row_fro (k := 8 + j) HBa.out
     have j1 : (0 : Int) ≤ (j : Int) := by omega
     have j88 : (j : Int) < 8 := by omega
     have HR1 := Lib.hid (show (wa.setCell ⟨w.heap.size, 8 + j, none⟩ (.int .i64 (y - 1))).heap[w.heap.size]? = some (.cells (lS (S) (decF L (j : Int))).toArray 55 (0, 0)) by
      unfold decF
      rw [if_pos hr0, Int.toNat_natCast, hy, ← lS_set1 _ _ j8]; exact row_set (k := 8 + j) (v := .int .i64 (y - 1)) HBa.out)
     have HR2 := Lib.hid (show (wa.setCell ⟨w.heap.size, 8 + j, none⟩ (.int .i64 (y - 1))).heap[w.heap.size + 1]? = some (.cells (lS (fun _ => 0) (fun _ => 0)).toArray 55 (0, 0)) from (st1k_ne (w := wa) (b := w.heap.size) (i := 8 + j) (c := w.heap.size + 1) (.int .i64 (y - 1)) (by omega)).trans HBb.out)
     have HR3 := Lib.hid (HW.out.setCell (p := ⟨w.heap.size, 8 + j, none⟩) (Nat.le_refl _) (.int .i64 (y - 1)))
     clear hy HBa HBb HW HRi
     go_wp2_with fail
     go_meet
     exact ⟨HR1.out, HR2.out, HR3.out⟩
    ·have g1 : decide (rr ≥ 0) = false := by simpa using hr0
     have HE := Lib.hid (show decF L rr = L by unfold decF; rw [if_neg hr0])
     go_wp2_with fail
     go_meet
     exact ⟨by rw [HE.out]; exact HBa.out, HBb.out, HW.out⟩
   case rest =>
    clear HBa HBb HW
    obtain ⟨h1, h2, h3⟩ := hcut
    obtain ⟨wb, hwb⟩ : ∃ V, V = wc := ⟨_, rfl⟩
    subst hwb
    obtain ⟨L2, hL2⟩ : ∃ f, decF L rr = f := ⟨_, rfl⟩
    rw [hL2] at h1
    have HL2 := Lib.hid hL2
    have HBa := Lib.hid (show wb.heap[w.heap.size]? = some (.cells (lS (ageF ts S 0) (L2)).toArray 55 (0, 0)) by
     rw [show ageF ts S 0 = S by funext j; unfold ageF; rw [if_neg (by omega)]]; exact h1)
    have HBb := Lib.hid h2
    have HW := Lib.hid h3
    clear h1 h2 h3 hL2
    go_wp2_with fail
    go_loopw [10] (fun c wr => ∃ k : Nat, k ≤ n ∧ c = .int .i64 k ∧ wr.heap[w.heap.size]? = some (.cells (lS (ageF ts S k) (L2)).toArray 55 (0, 0)) ∧ wr.heap[w.heap.size + 1]? = some (.cells (lS (fun _ => 0) (fun _ => 0)).toArray 55 (0, 0)) ∧ Below w.heap.size w wr) (fun c _ => n - (intOf c).toNat)
    case atStart => exact ⟨0, Nat.zero_le _, rfl, HBa.out, HBb.out, HW.out⟩
    case round =>
     clear HBa HBb HW
     obtain ⟨k, hk, rfl, h1, h2, h3⟩ := hrel
     have HBa := Lib.hid h1
     have HBb := Lib.hid h2
     have HW := Lib.hid h3
     clear h1 h2 h3
     obtain ⟨wa, hwa⟩ : ∃ V, V = wr := ⟨_, rfl⟩
     subst hwa
     by_cases hlt : k < n
     ·have htk2 : decide ((k : Int) < (n : Int)) = true := by simp; omega
      obtain ⟨b, off, rfl, hb, hc⟩ := H0.out (by omega)
      obtain ⟨-, c1, -, -, -, -, -⟩ := hc k hlt
      replace c1 := ((bcell HW.out).1 b _ hb).trans c1
      have k8 : k < 8 := by omega
      have k0 : (k : Int) < (n : Int) := by omega
      have k1 : (0 : Int) ≤ (k : Int) := by omega
      have k88 : (k : Int) < 8 := by omega
      obtain ⟨T, hT⟩ : ∃ y, (tk ts k).T = y := ⟨_, rfl⟩
      obtain ⟨x, hx⟩ : ∃ y, S k = y := ⟨_, rfl⟩
      rw [hT] at c1
      have xb := HS.out k k8
      rw [hx] at xb
      have hxw : IntKind.i64.wrap (x + 1) = x + 1 := wr_id (by omega) (by omega)
      have hag : ageF ts S k k = x := by unfold ageF; rw [if_neg (by omega)]; exact hx
      have cx : wa.cell? ⟨w.heap.size, k, none⟩ = some (.int .i64 x) := by rw [← hag]; exact row_at HBa.out (lS_since _ _ k8)
      have cxd : wa.drew.cell? ⟨w.heap.size, k, none⟩ = some (.int .i64 x) := cx
      have cf : wa.frozen? ⟨w.heap.size, k, none⟩ = false := row_fro (k := k) HBa.out
      obtain ⟨m, hm0⟩ : ∃ m, (if T < x + 1 then T else x + 1) = m := ⟨_, rfl⟩
      have hm : min (x + 1) T = m := by rw [← hm0]; split <;> omega
      have HR1 := Lib.hid (show (wa.drew.setCell ⟨w.heap.size, k, none⟩ (.int .i64 m)).heap[w.heap.size]? = some (.cells (lS (ageF ts S (k + 1)) (L2)).toArray 55 (0, 0)) by
       rw [← ageF_next, hx, hT, hm, ← lS_set0 _ _ k8]; exact row_set (k := k) (v := .int .i64 m) (show wa.drew.heap[w.heap.size]? = _ from HBa.out))
      have HR2 := Lib.hid (show (wa.drew.setCell ⟨w.heap.size, k, none⟩ (.int .i64 m)).heap[w.heap.size + 1]? = some (.cells (lS (fun _ => 0) (fun _ => 0)).toArray 55 (0, 0)) from (st1k_ne (w := wa.drew) (b := w.heap.size) (i := k) (c := w.heap.size + 1) (.int .i64 m) (by omega)).trans HBb.out)
      have HR3 := Lib.hid (HW.out.drew.setCell (p := ⟨w.heap.size, k, none⟩) (Nat.le_refl _) (.int .i64 m))
      clear hc hT hx hag HBa HBb HW
      have HMn := Lib.hid hm0
      clear hm hm0
      go_upto_region 14 with fail
      refine wp_region_noPanic ?_
      refine wp_region_U (S := (fun w' => w'.cell? ⟨w.heap.size, k, none⟩ = some (.int .i64 x) ∧ w'.cell? ⟨b, off + k * 7 + 1, none⟩ = some (.int .i64 T))) (k := 14) (by kernel_rfl) ⟨cx, c1⟩ (fun hHeld => ?_)
      refine wpAnyU_take (i := 0) (v := ?_) rfl (by kernel_rfl) (by kernel_rfl) (by kernel_rfl) (by kernel_rfl) (by kernel_rfl) (by kernel_rfl) (fun _ _ _ h => h) (Or.inl ⟨by rfl, ?_⟩) (by assumption) ?_
      rotate_left
      ·intro w hSw; (try dsimp only at hSw); go_simp; (try with_reducible rfl)
      try simp only [Act.put, List.getElem_toArray, List.getElem_cons_zero, List.setIfInBounds_toArray, List.set_cons_zero, List.set_cons_succ]
      refine wpAnyU_take (i := 1) (v := ?_) rfl (by kernel_rfl) (by kernel_rfl) (by kernel_rfl) (by kernel_rfl) (by kernel_rfl) (by kernel_rfl) (fun _ _ _ h => h) (Or.inl ⟨by rfl, ?_⟩) (by assumption) ?_
      rotate_left
      ·intro w hSw; (try dsimp only at hSw); go_simp; (try with_reducible rfl)
      try simp only [Act.put, List.getElem_toArray, List.getElem_cons_zero, List.getElem_cons_succ, List.setIfInBounds_toArray, List.set_cons_zero, List.set_cons_succ]
      refine wpAnyU_take (i := 2) (v := ?_) rfl (by kernel_rfl) (by kernel_rfl) (by kernel_rfl) (by kernel_rfl) (by kernel_rfl) (by kernel_rfl) (fun _ _ _ h => h) (Or.inl ⟨by rfl, ?_⟩) (by assumption) ?_
      rotate_left
      ·intro w hSw; (try dsimp only at hSw); go_simp; (try with_reducible rfl)
      try simp only [Act.put, List.getElem_toArray, List.getElem_cons_zero, List.getElem_cons_succ, List.setIfInBounds_toArray, List.set_cons_zero, List.set_cons_succ]
      refine wpAnyU_take (i := 3) (v := ?_) rfl (by kernel_rfl) (by kernel_rfl) (by kernel_rfl) (by kernel_rfl) (by kernel_rfl) (by kernel_rfl) (fun _ _ _ h => h) (Or.inl ⟨by rfl, ?_⟩) (by assumption) ?_
      rotate_left
      ·intro w hSw; (try dsimp only at hSw); go_simp; (try with_reducible rfl)
      try simp only [Act.put, List.getElem_toArray, List.getElem_cons_zero, List.getElem_cons_succ, List.setIfInBounds_toArray, List.set_cons_zero, List.set_cons_succ]
      refine wpAnyU_take (i := 4) (v := ?_) rfl (by kernel_rfl) (by kernel_rfl) (by kernel_rfl) (by kernel_rfl) (by kernel_rfl) (by kernel_rfl) (fun _ _ _ h => h) (Or.inl ⟨by rfl, ?_⟩) (by assumption) ?_
      rotate_left
      ·intro w hSw; (try dsimp only at hSw); go_simp; (try with_reducible rfl)
      try simp only [Act.put, List.getElem_toArray, List.getElem_cons_zero, List.getElem_cons_succ, List.setIfInBounds_toArray, List.set_cons_zero, List.set_cons_succ]
      refine wpAnyU_take (i := 5) (v := ?_) rfl (by kernel_rfl) (by kernel_rfl) (by kernel_rfl) (by kernel_rfl) (by kernel_rfl) (by kernel_rfl) (fun _ _ _ h => h) (Or.inl ⟨by rfl, ?_⟩) (by assumption) ?_
      rotate_left
      ·intro w hSw; (try dsimp only at hSw); go_simp; (try with_reducible rfl)
      try simp only [Act.put, List.getElem_toArray, List.getElem_cons_zero, List.getElem_cons_succ, List.setIfInBounds_toArray, List.set_cons_zero, List.set_cons_succ]
      try simp only [hxw]
      refine wpAnyU_take (i := 6) (v := ?_) rfl (by kernel_rfl) (by kernel_rfl) (by kernel_rfl) (by kernel_rfl) (by kernel_rfl) (by kernel_rfl) (fun _ _ _ h => h) (Or.inl ⟨by rfl, ?_⟩) (by assumption) ?_
      rotate_left
      ·intro w hSw; (try dsimp only at hSw); go_simp; (try with_reducible rfl)
      try simp only [Act.put, List.getElem_toArray, List.getElem_cons_zero, List.getElem_cons_succ, List.setIfInBounds_toArray, List.set_cons_zero, List.set_cons_succ]
      refine wpAnyU_take (i := 7) (v := ?_) rfl (by kernel_rfl) (by kernel_rfl) (by kernel_rfl) (by kernel_rfl) (by kernel_rfl) (by kernel_rfl) (fun _ _ _ h => h) (Or.inl ⟨by rfl, ?_⟩) (by assumption) ?_
      rotate_left
      ·intro w hSw; (try dsimp only at hSw); go_simp; (try with_reducible rfl)
      try simp only [Act.put, List.getElem_toArray, List.getElem_cons_zero, List.getElem_cons_succ, List.setIfInBounds_toArray, List.set_cons_zero, List.set_cons_succ]
      refine wpAnyU_take (i := 8) (v := ?_) rfl (by kernel_rfl) (by kernel_rfl) (by kernel_rfl) (by kernel_rfl) (by kernel_rfl) (by kernel_rfl) (fun _ _ _ h => h) (Or.inl ⟨by rfl, ?_⟩) (by assumption) ?_
      rotate_left
      ·intro w hSw; (try dsimp only at hSw); go_simp; (try with_reducible rfl)
      try simp only [Act.put, List.getElem_toArray, List.getElem_cons_zero, List.getElem_cons_succ, List.setIfInBounds_toArray, List.set_cons_zero, List.set_cons_succ]
      refine wpAnyU_take (i := 9) (v := ?_) rfl (by kernel_rfl) (by kernel_rfl) (by kernel_rfl) (by kernel_rfl) (by kernel_rfl) (by kernel_rfl) (fun _ _ _ h => h) (Or.inl ⟨by rfl, ?_⟩) (by assumption) ?_
      rotate_left
      ·intro w hSw; (try dsimp only at hSw); go_simp; (try with_reducible rfl)
      try simp only [Act.put, List.getElem_toArray, List.getElem_cons_zero, List.getElem_cons_succ, List.setIfInBounds_toArray, List.set_cons_zero, List.set_cons_succ]
      refine wpAnyU_take (i := 10) (v := ?_) rfl (by kernel_rfl) (by kernel_rfl) (by kernel_rfl) (by kernel_rfl) (by kernel_rfl) (by kernel_rfl) (fun _ _ _ h => h) (Or.inl ⟨by rfl, ?_⟩) (by assumption) ?_
      rotate_left
      ·intro w hSw; (try dsimp only at hSw); go_simp; (try with_reducible rfl)
      try simp only [Act.put, List.getElem_toArray, List.getElem_cons_zero, List.getElem_cons_succ, List.setIfInBounds_toArray, List.set_cons_zero, List.set_cons_succ]
      refine wpAnyU_take (i := 11) (v := ?_) rfl (by kernel_rfl) (by kernel_rfl) (by kernel_rfl) (by kernel_rfl) (by kernel_rfl) (by kernel_rfl) (fun _ _ _ h => h) (Or.inl ⟨by rfl, ?_⟩) (by assumption) ?_
      rotate_left
      ·intro w hSw; (try dsimp only at hSw); go_simp; (try with_reducible rfl)
      try simp only [Act.put, List.getElem_toArray, List.getElem_cons_zero, List.getElem_cons_succ, List.setIfInBounds_toArray, List.set_cons_zero, List.set_cons_succ]
      try simp only [HMn.out]
      refine wpAnyU_take (i := 12) (v := ?_) rfl (by kernel_rfl) (by kernel_rfl) (by kernel_rfl) (by kernel_rfl) (by kernel_rfl) (by kernel_rfl) (fun _ _ _ h => h) (Or.inl ⟨by rfl, ?_⟩) (by assumption) ?_
      rotate_left
      ·intro w hSw; (try dsimp only at hSw); go_simp; (try with_reducible rfl)
      try simp only [Act.put, List.getElem_toArray, List.getElem_cons_zero, List.getElem_cons_succ, List.setIfInBounds_toArray, List.set_cons_zero, List.set_cons_succ]
      refine wpAnyU_take (i := 13) (v := ?_) rfl (by kernel_rfl) (by kernel_rfl) (by kernel_rfl) (by kernel_rfl) (by kernel_rfl) (by kernel_rfl) (fun _ _ _ h => h) (Or.inl ⟨by rfl, ?_⟩) (by assumption) ?_
      rotate_left
      ·intro w hSw; (try dsimp only at hSw); go_simp; (try with_reducible rfl)
      try simp only [Act.put, List.getElem_toArray, List.getElem_cons_zero, List.getElem_cons_succ, List.setIfInBounds_toArray, List.set_cons_zero, List.set_cons_succ]
      refine wpAnyU_ready (rs := [14]) (by kernel_rfl) (by simp) ?_
      refine AllReadyU.past rfl (by kernel_rfl) (fun K hK => ?_) AllReadyU.nil
      go_simp
      refine hK.out _ _ ?_
      clear hK K
      try simp only [Act.put, List.getElem_toArray, List.getElem_cons_zero, List.getElem_cons_succ, List.setIfInBounds_toArray, List.set_cons_zero, List.set_cons_succ]
      refine wpAnyU_done (by kernel_rfl) ?_ _
      refine NoPanic.normal ?_
      go_wp2_with fail
      go_roundw
      case rel => exact ⟨k + 1, by omega, by go_num, HR1.out, HR2.out, HR3.out⟩
      case measure => simp [intOf]; omega
     ·have htk2 : decide ((k : Int) < (n : Int)) = false := by simp; omega
      obtain rfl : n = k := by omega
      have hra := HBa.out
      have hrb := HBb.out
      obtain ⟨cs, hcs⟩ : ∃ c, c = (lS (ageF ts S n) L2).toArray := ⟨_, rfl⟩
      rw [← hcs] at hra
      have hsz : cs.size = 16 := by rw [hcs]; exact lS_size _ _
      have hsz0 : (lS (fun _ => 0) (fun _ => 0)).toArray.size = 16 := lS_size _ _
      have hall : cs.all (·.oneCell') = true := by rw [hcs]; exact lS_one _ _
      have HR := Lib.hid (show stV (ageF ts S n) L2 = .agg cs by rw [hcs]; rfl)
      have HBel := Lib.hid (below_setRow (cs := cs) (g := w.heap.size + 1) HW.out (by omega))
      clear hcs
      go_wp2_with (first
       | (refine wpList_load_row rfl 55 _ rfl w.heap.size rfl 55 cs (0, 0) _ hra Try.underlying55 rfl (by rw [hsz]; kernel_rfl) ?_)
       | (refine wpList_store_row rfl 55 _ _ rfl (w.heap.size + 1) cs rfl rfl 55 _ hrb (by rw [hsz]; kernel_rfl) (by rw [hsz0, hsz]) hall ?_))
      have hrow := setRow_heap wa (w.heap.size + 1) _ cs _ _ hrb
      refine bodyPost_ret (v := .tuple #[.agg cs, .int .i64 rr]) ?_ rfl ⟨?_, HBel.out⟩
      ·simp [results, Try.results22, asAddr, run_loadVar_row (wa.setRow (w.heap.size + 1) cs) (w.heap.size + 1) 55 55 cs (0, 0) _ hrow Try.underlying55 rfl (by rw [hsz]; kernel_rfl)]
      ·rw [HEq.out.1, HEq.out.2.1, HEq.out.2.2, HL2.out]
       exact congrArg (fun v => Ending.returned (.tuple #[v, .int .i64 rr])) HR.out.symm
end Go.Proofs.Ytokljoajalmkfaa
