/- Part of the proof of stopwatch_explores_proved: Swv. -/
import Derived.Test.YtokljoajalmkfaaXeSwt
namespace Go.Proofs.Ytokljoajalmkfaa
open Go Go.RowKit
set_option linter.unusedVariables false
set_option linter.unusedSimpArgs false
set_option linter.unnecessarySimpa false
theorem runF_best (ts : List Tk) (L : Nat → Int) : ∀ k, (runF ts L k = -1 ∧ ∀ i, i < k → ¬ 0 < L i) ∨ ∃ j, j < k ∧ runF ts L k = (j : Int) ∧ 0 < L j ∧ ∀ i, i < k → 0 < L i → (tk ts i).pr ≤ (tk ts j).pr
  | 0 => .inl ⟨rfl, fun i hi => by omega⟩
  | k + 1 => by
    have hu : runF ts L (k + 1) = if 0 < L k ∧ (runF ts L k < 0 ∨ (tk ts (runF ts L k).toNat).pr < (tk ts k).pr) then (k : Int) else runF ts L k := rfl
    rcases runF_best ts L k with ⟨h1, h2⟩ | ⟨j, h0, h1, h2, h3⟩
    · by_cases c : 0 < L k
      · right
        refine ⟨k, by omega, by rw [hu, if_pos ⟨c, .inl (by omega)⟩], c, fun i hi hl => ?_⟩
        by_cases e : i = k
        · subst e; omega
        · exact absurd hl (h2 i (by omega))
      · left
        refine ⟨by rw [hu, if_neg (fun q => c q.1), h1], fun i hi => ?_⟩
        by_cases e : i = k
        · subst e; exact c
        · exact h2 i (by omega)
    · right
      by_cases c : 0 < L k ∧ (tk ts j).pr < (tk ts k).pr
      · refine ⟨k, by omega, by rw [hu, if_pos ⟨c.1, .inr (by rw [h1]; exact c.2)⟩], c.1, fun i hi hl => ?_⟩
        by_cases e : i = k
        · subst e; omega
        · have := h3 i (by omega) hl; omega
      · refine ⟨j, by omega, by rw [hu, if_neg (fun q => c ⟨q.1, by
          rcases q.2 with q | q
          · rw [h1] at q; omega
          · rw [h1] at q; exact q⟩), h1], h2, fun i hi hl => ?_⟩
        by_cases e : i = k
        · subst e
          have := fun q => c ⟨hl, q⟩
          omega
        · exact h3 i (by omega) hl
theorem idxF_spec (p : Nat → Bool) : ∀ (f k : Nat), (idxF p f k = -1 ∧ ∀ j, k ≤ j → j < k + f → p j = false) ∨ ∃ j, k ≤ j ∧ j < k + f ∧ idxF p f k = (j : Int) ∧ p j = true ∧ ∀ m, k ≤ m → m < j → p m = false
  | 0, k => .inl ⟨rfl, fun j h1 h2 => by omega⟩
  | f + 1, k => by
    have hu : idxF p (f + 1) k = if p k = true then (k : Int) else idxF p f (k + 1) := rfl
    by_cases c : p k = true
    · exact .inr ⟨k, by omega, by omega, by rw [hu, if_pos c], c, fun m h1 h2 => by omega⟩
    · have c' : p k = false := by simpa using c
      rcases idxF_spec p f (k + 1) with ⟨h1, h2⟩ | ⟨j, h1, h2, h3, h4, h5⟩
      · refine .inl ⟨by rw [hu, if_neg c, h1], fun j q1 q2 => ?_⟩
        by_cases e : j = k
        · rw [e]; exact c'
        · exact h2 j (by omega) (by omega)
      · refine .inr ⟨j, by omega, by omega, by rw [hu, if_neg c, h3], h4, fun m q1 q2 => ?_⟩
        by_cases e : m = k
        · rw [e]; exact c'
        · exact h5 m (by omega) q2
structure Ord (ts : List Tk) (od : List Nat) : Prop where
 len : od.length = ts.length
 lt : ∀ k, k < ts.length → od.getD k 0 < ts.length
 all : ∀ i, i < ts.length → ∃ k, k < ts.length ∧ od.getD k 0 = i
 desc : ∀ a b, a < b → b < ts.length → (tk ts (od.getD b 0)).pr < (tk ts (od.getD a 0)).pr
theorem idx_run {ts : List Tk} {od : List Nat} (h : Ord ts od) (L : Nat → Int) :
  (idxF (fun k => decide (0 < L (od.getD k 0))) ts.length 0 = -1 ∧ runF ts L ts.length = -1) ∨ ∃ k, k < ts.length ∧ idxF (fun k => decide (0 < L (od.getD k 0))) ts.length 0 = (k : Int) ∧ runF ts L ts.length = ((od.getD k 0 : Nat) : Int) ∧ 0 < L (od.getD k 0) := by
 rcases idxF_spec (fun k => decide (0 < L (od.getD k 0))) ts.length 0 with ⟨h1, h2⟩ | ⟨k, h1, h2, h3, h4, h5⟩
 ·left
  refine ⟨h1, ?_⟩
  rcases runF_best ts L ts.length with ⟨q, _⟩ | ⟨j, q0, q1, q2, q3⟩
  ·exact q
  ·obtain ⟨k, hk, e⟩ := h.all j q0
   have := h2 k (by omega) (by omega)
   rw [decide_eq_false_iff_not, e] at this
   exact absurd q2 this
 ·right
  have hk : k < ts.length := by omega
  have hL : 0 < L (od.getD k 0) := by simpa using h4
  refine ⟨k, hk, h3, ?_, hL⟩
  rcases runF_best ts L ts.length with ⟨_, q⟩ | ⟨j, q0, q1, q2, q3⟩
  ·exact absurd hL (q _ (h.lt k hk))
  ·rw [q1]
   obtain ⟨m, hm, e⟩ := h.all j q0
   have g := q3 _ (h.lt k hk) hL
   rcases Nat.lt_trichotomy m k with c | c | c
   ·have := h5 m (by omega) c
    rw [decide_eq_false_iff_not, e] at this
    exact absurd q2 this
   ·rw [← e, c]
   ·have := h.desc k m c hm
    rw [e] at this; omega
def pV (s l : Nat → Int) : Nat → Int := fun k => if k % 2 = 0 then s (k / 2) else l (k / 2)
def pR (s l : Nat → Int) : List Value := lV .i16 (pV s l) 16
theorem pR_len (s l : Nat → Int) : (pR s l).length = 16 := lV_len _ _ _
theorem pR_s (s l : Nat → Int) {k : Nat} (hk : k < 8) : (pR s l)[2 * k]? = some (.int .i16 (s k)) := by
 unfold pR; rw [lV_at _ _ (by omega)]
 unfold pV; rw [if_pos (by omega), show 2 * k / 2 = k by omega]
theorem pR_l (s l : Nat → Int) {k : Nat} (hk : k < 8) : (pR s l)[2 * k + 1]? = some (.int .i16 (l k)) := by
 unfold pR; rw [lV_at _ _ (by omega)]
 unfold pV; rw [if_neg (by omega), show (2 * k + 1) / 2 = k by omega]
theorem pR_set0 (s l : Nat → Int) (k : Nat) (x : Int) : (pR s l).set (2 * k) (.int .i16 x) = pR (upI s k x) l := by
 unfold pR; rw [lV_set]
 congr 1
 funext j
 unfold upI pV
 dsimp only
 by_cases e : j = 2 * k
 ·subst e; rw [if_pos rfl, if_pos (by omega), if_pos (by omega)]
 ·rw [if_neg e]
  by_cases c : j % 2 = 0
  ·rw [if_pos c, if_pos c, if_neg (by omega)]
  ·rw [if_neg c, if_neg c]
theorem pR_set1 (s l : Nat → Int) (k : Nat) (x : Int) : (pR s l).set (2 * k + 1) (.int .i16 x) = pR s (upI l k x) := by
 unfold pR; rw [lV_set]
 congr 1
 funext j
 unfold upI pV
 dsimp only
 by_cases e : j = 2 * k + 1
 ·subst e; rw [if_pos rfl, if_neg (by omega), if_pos (by omega)]
 ·rw [if_neg e]
  by_cases c : j % 2 = 0
  ·rw [if_pos c, if_pos c]
  ·rw [if_neg c, if_neg c, if_neg (by omega)]
theorem pR_one (s l : Nat → Int) : (pR s l).all (·.oneCell') = true := by
 rw [List.all_eq_true]
 intro v hv
 obtain ⟨k, _, rfl⟩ := List.mem_map.1 hv
 rfl
theorem setRow2_eq : ∀ (vs l : List Value) (i : Nat), i + vs.length ≤ l.length → setRow2 l i vs = l.take i ++ vs ++ l.drop (i + vs.length)
  | [], l, i, h => by simp [setRow2]
  | v :: vs, l, i, h => by
    have hi : i < l.length := by simp at h; omega
    show setRow2 (l.set i v) (i + 1) vs = _
    rw [setRow2_eq vs _ (i + 1) (by simp at h ⊢; omega)]
    rw [List.take_succ_eq_append_getElem (by simpa using hi), List.take_set_of_le (Nat.le_refl _), List.drop_set_of_lt (by omega)]
    simp [Nat.add_comm 1, Nat.add_assoc, Nat.add_left_comm]
theorem setRow2_all {vs l : List Value} (h : vs.length = l.length) : setRow2 l 0 vs = vs := by
 rw [setRow2_eq vs l 0 (by omega)]
 simp [h]
theorem bit_iff {set k : Nat} (hs : set < 256) (hk : k < 8) : (bits .and .i64 ((set : Int) / 2 ^ min ((k : Nat) : Int).toNat IntKind.i64.bits) 1 = 1) ↔ inS set k = true := by
 have e : min ((k : Nat) : Int).toNat IntKind.i64.bits = k := by rw [Int.toNat_natCast]; show min k 64 = k; omega
 rw [e, ← bit_in hs]
 simp
def misK (ts : List Tk) (S L : Nat → Int) (i : Nat) : Bool := (List.range i).any fun j => decide (0 < L j) && decide ((tk ts j).D ≤ S j)
theorem misK_succ (ts : List Tk) (S L : Nat → Int) (i : Nat) : misK ts S L (i + 1) = (misK ts S L i || (decide (0 < L i) && decide ((tk ts i).D ≤ S i))) := by
 unfold misK; rw [List.range_succ, List.any_append]; simp
set_option maxRecDepth 20000 in
set_option maxHeartbeats 8000000 in
theorem prog_tick (v ov : Value) (ts : List Tk) (od : List Nat) (s l : Nat → Int) (set bx : Nat) (hset : set < 256) (w : World) (hv : TsR w v ts) (h8 : ts.length ≤ 8) (hod : Ord ts od) (hov : RX cdI w.heap.size w ov (od.map fun (i : Nat) => (i : Int)))
    (hbx : bx < w.heap.size) (hx0 : w.cell? ⟨bx, 0, none⟩ = some v) (hx1 : w.cell? ⟨bx, 1, none⟩ = some ov) (hs : ∀ j, j < 8 → 0 ≤ s j ∧ s j ≤ 1000) (hl : ∀ j, j < 8 → 0 ≤ l j ∧ l j ≤ 1000) (hT : ∀ j, j < ts.length → 0 ≤ (tk ts j).T ∧ (tk ts j).T ≤ 1000) (hC : ∀ j, j < ts.length → 0 ≤ (tk ts j).C ∧ (tk ts j).C ≤ 1000) :
    Calls Try.prog 19 #[.pointer (some ⟨bx, 0, none⟩), .agg (pR s l).toArray, .int .i64 (set : Nat)] w fun e w' => e = .returned (.tuple #[.agg (pR (tkS ts s set) (tkL ts l set)).toArray, .int .i64 (tkR ts l set), .bool (misK ts (tkS ts s set) (tkL ts l set) ts.length)]) ∧ Below w.heap.size w w' := by
  obtain ⟨ao, cap, rfl, hle, h0⟩ := hv.1.cells
  obtain ⟨aov, capo, rfl, hleo, h0o⟩ := hov.cells
  have hlo : (od.map fun (i : Nat) => (i : Int)).length = ts.length := by rw [List.length_map]; exact hod.len
  have hge : ∀ k, k < ts.length → ge cdI (od.map fun (i : Nat) => (i : Int)) k = ((od.getD k 0 : Nat) : Int) := fun k hk => by
    have h1 : k < od.length := by rw [hod.len]; exact hk
    rw [ge_of cdI (by rw [hlo]; exact hk)]
    simp [List.getElem?_eq_getElem h1]
  have hS : ∀ j, j < 8 → 0 ≤ relS set s ts.length j ∧ relS set s ts.length j ≤ 1000 := fun j hj => by
    unfold relS
    by_cases c : j < ts.length ∧ inS set j = true
    · rw [if_pos c]; omega
    · rw [if_neg c]; exact hs j hj
  have hL : ∀ j, j < 8 → 0 ≤ relL ts set l ts.length j ∧ relL ts set l ts.length j ≤ 1000 := fun j hj => by
    unfold relL
    by_cases c : j < ts.length ∧ inS set j = true
    · rw [if_pos c]; exact hC j c.1
    · rw [if_neg c]; exact hl j hj
  have hL2 : ∀ j, j < 8 → 0 ≤ tkL ts l set j ∧ tkL ts l set j ≤ 1000 := fun j hj => by
    unfold tkL decF tkR
    rcases runF_best ts (relL ts set l ts.length) ts.length with ⟨q, _⟩ | ⟨m, q0, q1, q2, q3⟩
    · rw [q, if_neg (by omega)]; exact hL j hj
    · rw [q1, if_pos (by omega), Int.toNat_natCast]
      unfold upI
      by_cases e : j = m
      · subst e; rw [if_pos rfl]; have := hL j hj; omega
      · rw [if_neg e]; exact hL j hj
  rw [hlo] at hov hleo hx1
  refine calls_open Try.func19 rfl Try.ntmps19 rfl ?_
  dsimp only [argK]
  repeat (refine CW.seq ?_)
  refine CW.region ?_
  refine SL.efD rfl rfl (Gd.g0 rfl) (Ef.box rfl) (fun b4 => ?_)
  try dsimp only [Value.cells, List.flatMap_cons, List.flatMap_nil]
  refine SL.efD rfl rfl (Gd.g0 rfl) (Ef.alloc zl_44) (fun b6 => ?_)
  try dsimp only [Value.cells, List.flatMap_cons, List.flatMap_nil]
  refine SL.val rfl rfl (Gd.g0 rfl) (Yd.assign rfl) ?_
  refine SL.val rfl rfl (Gd.g0 rfl) (Yd.assign rfl) ?_
  first | refine SL.nil_then ?_ | refine SL.nil ?_
  repeat (refine CW.seq ?_)
  refine CW.region ?_
  refine SL.val rfl rfl (Gd.g0 rfl) (Yd.move rfl) ?_
  refine SL.val rfl rfl (Gd.g0 rfl) (Yd.nilCheck rfl) ?_
  refine SL.val rfl rfl (Gd.g0 rfl) (Yd.fieldAddr rfl fo_41_0) ?_
  refine SL.val rfl rfl (Gd.g0 rfl) ((by first | exact Yd.load rfl ag_22 (Wd.cell (i := 0) rfl rfl) | exact Yd.load rfl ag_22 (Wd.cell (i := 1) rfl rfl) | exact Yd.load rfl ag_22 (Wd.cell (i := 2) rfl rfl) | exact Yd.load rfl ag_22 (Wd.cell (i := 3) rfl rfl) | exact Yd.load rfl ag_22 (Wd.cell (i := 4) rfl rfl) | exact Yd.load rfl ag_22 (Wd.cell (i := 5) rfl rfl) | exact Yd.load rfl ag_22 (Wd.inp hbx (by simp) hx0))) ?_
  refine SL.val rfl rfl (Gd.g0 rfl) (Yd.lenSl rfl isl_22) ?_
  refine SL.val rfl rfl (Gd.g0 rfl) (Yd.move rfl) ?_
  first | refine SL.nil_then ?_ | refine SL.nil ?_
  repeat (refine CW.seq ?_)
  refine CW.block ?_
  refine CW.loop (σ := Nat) (fun k => k ≤ ts.length) (fun k => [(0, .pointer (some ⟨bx, 0, none⟩)), (2, .int .i64 (set : Int)), (4, .pointer (some ⟨b4, 0, none⟩)), (6, .pointer (some ⟨b6, 0, none⟩)), (18, .slice ao ts.length cap), (19, .int .i64 (ts.length : Int)), (20, .int .i64 (k : Int))]) (fun k => Wd w [] [Rs.row b6 [.int .i16 0, .int .i16 0, .int .i16 0, .int .i16 0, .int .i16 0, .int .i16 0, .int .i16 0, .int .i16 0, .int .i16 0, .int .i16 0, .int .i16 0, .int .i16 0, .int .i16 0, .int .i16 0, .int .i16 0, .int .i16 0] 44, Rs.row b4 (pR (relS set s k) (relL ts set l k)) 44]) (fun k => ts.length - k) 0 (by omega) (Sub.cons rfl rfl (Sub.cons rfl rfl (Sub.cons rfl rfl (Sub.cons rfl rfl (Sub.cons rfl rfl (Sub.cons rfl rfl (Sub.cons rfl rfl Sub.nil))))))) (fun w2 h => by
    rw [show relS set s 0 = s by funext j; unfold relS; rw [if_neg (fun q => by omega)], show relL ts set l 0 = l by funext j; unfold relL; rw [if_neg (fun q => by omega)]]
    exact h) ?_
  intro k hk
  repeat (refine CW.seq ?_)
  refine CW.region ?_
  refine SL.val rfl rfl (Gd.g0 rfl) (Yd.lss rfl rfl) ?_
  first | refine SL.nil_then ?_ | refine SL.nil ?_
  repeat (refine CW.seq ?_)
  refine CW.condD rfl (fun hkn => ?_) (fun hkn => ?_)
  · refine CW.skip ?_
    repeat (first | refine EX.in_normal ?_)
    first | refine EX.then_normal ?_ | skip
    have hlt : k < ts.length := by omega
    have k8 : k < 8 := by omega
    obtain ⟨b, off, rfl, hb, hc⟩ := h0 (by omega)
    have hcs := hc k hlt
    obtain ⟨aos, caps, hsv, -⟩ := hv.secs hlt
    have hTk := hT k hlt
    have hCk := hC k hlt
    have hE2 := relL_yes (ts := ts) (set := set) (k := k) l
    obtain ⟨t, ht⟩ : ∃ t, tk ts k = t := ⟨_, rfl⟩
    rw [ht] at hsv hTk hCk hE2
    obtain ⟨nm, T, O, D, C, pr, sv, sc⟩ := t
    obtain rfl : sv = .slice aos sc.length caps := hsv
    dsimp only at hTk hCk hE2
    have hcs' : ∀ j v, [Value.string nm, .int .i64 T, .int .i64 O, .int .i64 D, .int .i64 C, .int .i64 pr, .slice aos sc.length caps][j]? = some v → w.cell? ⟨b, off + k * 7 + j, none⟩ = some v := fun j v h => hcs j v (by rw [show ge cdTk ts k = _ from ht]; exact h)
    have hCw : IntKind.i16.wrap C = C := IntWalk.i16_in _ (by omega)
    repeat (refine CW.seq ?_)
    refine CW.block ?_
    repeat (refine CW.seq ?_)
    refine CW.region ?_
    refine SL.val rfl rfl (Gd.g0 rfl) (Yd.move rfl) ?_
    refine SL.val rfl rfl (Gd.g0 rfl) ((by first | exact Yd.indexSlN rfl rfl sl_22 (by omega) | exact Yd.indexSl rfl rfl sl_22 (by omega))) ?_
    refine SL.val rfl rfl (Gd.g0 rfl) ((by first | exact Yd.loadR (i := 0) rfl ag_37 rfl rfl | exact Yd.loadR (i := 1) rfl ag_37 rfl rfl | exact Yd.loadR (i := 2) rfl ag_37 rfl rfl | exact Yd.loadR (i := 3) rfl ag_37 rfl rfl | exact Yd.loadR (i := 4) rfl ag_37 rfl rfl | exact Yd.loadR (i := 5) rfl ag_37 rfl rfl | exact Yd.loadA rfl ag_37 rfl (Wd.inpA hb (by simp) hcs'))) ?_
    refine SL.efD rfl rfl (Gd.g0 rfl) (Ef.alloc zl_37) (fun b10 => ?_)
    try dsimp only [Value.cells, List.flatMap_cons, List.flatMap_nil]
    refine SL.val rfl rfl (Gd.g0 rfl) (Yd.assign rfl) ?_
    refine SL.ef0 rfl (Gd.g0 rfl) (by first | exact Ef0.storeA (i := 0) rfl rfl rfl ag_37 rfl rfl (by simp) | exact Ef0.storeA (i := 1) rfl rfl rfl ag_37 rfl rfl (by simp) | exact Ef0.storeA (i := 2) rfl rfl rfl ag_37 rfl rfl (by simp) | exact Ef0.storeA (i := 3) rfl rfl rfl ag_37 rfl rfl (by simp) | exact Ef0.storeA (i := 4) rfl rfl rfl ag_37 rfl rfl (by simp) | exact Ef0.storeA (i := 5) rfl rfl rfl ag_37 rfl rfl (by simp)) ?_
    try dsimp only [setR, List.set, setRow2]
    first | refine SL.nil_then ?_ | refine SL.nil ?_
    repeat (refine CW.seq ?_)
    refine CW.region ?_
    refine SL.val rfl rfl (Gd.g0 rfl) (Yd.move rfl) ?_
    refine SL.val rfl rfl (Gd.g0 rfl) (Yd.move rfl) ?_
    refine SL.val rfl rfl (Gd.g0 rfl) (Yd.shr rfl rfl (by omega)) ?_
    refine SL.val rfl rfl (Gd.g0 rfl) (Yd.bitsW rfl rfl rfl rfl) ?_
    refine SL.val rfl rfl (Gd.g0 rfl) (Yd.eql rfl rfl) ?_
    first | refine SL.nil_then ?_ | refine SL.nil ?_
    have hbi := bit_iff (set := set) (k := k) hset k8
    repeat (refine CW.seq ?_)
    refine CW.condD rfl (fun hbit => ?_) (fun hbit => ?_)
    · repeat (refine CW.seq ?_)
      refine CW.draw [(Tb w [], []), ((Rs.row b10 [Value.string nm, .int .i64 T, .int .i64 O, .int .i64 D, .int .i64 C, .int .i64 pr, .slice aos sc.length caps] 37).ok, [])] mixed (fun w hw => hw.drew) (fun w hw => ⟨(by first | exact fun _ => hw.tb | exact fun _ => hw.ok 0 _ rfl | exact fun _ => hw.ok 1 _ rfl | exact fun _ => hw.ok 2 _ rfl | exact fun _ => hw.ok 3 _ rfl | exact fun _ => hw.ok 4 _ rfl | exact fun _ => hw.ok 5 _ rfl | exact SG.gone (by kernel_rfl)), (by first | exact fun _ => hw.tb | exact fun _ => hw.ok 0 _ rfl | exact fun _ => hw.ok 1 _ rfl | exact fun _ => hw.ok 2 _ rfl | exact fun _ => hw.ok 3 _ rfl | exact fun _ => hw.ok 4 _ rfl | exact fun _ => hw.ok 5 _ rfl | exact SG.gone (by kernel_rfl)), trivial⟩) ?_
      refine DL.take 0 rfl (by kernel_rfl) (by kernel_rfl) (by kernel_rfl) (by kernel_rfl) (by kernel_rfl) rfl rfl (Gd.g0 rfl) (heldN 0) (Yd.move rfl) ?_
      refine DL.take 1 rfl (by kernel_rfl) (by kernel_rfl) (by kernel_rfl) (by kernel_rfl) (by kernel_rfl) rfl rfl (Gd.g0 rfl) (heldN 1) ((by first | exact Yd.mulC 2 rfl rfl (by omega) | exact Yd.mul rfl rfl (by omega) | exact Yd.mulW rfl rfl)) ?_
      refine DL.take 2 rfl (by kernel_rfl) (by kernel_rfl) (by kernel_rfl) (by kernel_rfl) (by kernel_rfl) rfl rfl (Gd.g0 rfl) (heldN 2) (Yd.move rfl) ?_
      refine DL.take 3 rfl (by kernel_rfl) (by kernel_rfl) (by kernel_rfl) (by kernel_rfl) (by kernel_rfl) rfl rfl (Gd.g0 rfl) (heldN 3) ((by first | exact Yd.mulC 2 rfl rfl (by omega) | exact Yd.mul rfl rfl (by omega) | exact Yd.mulW rfl rfl)) ?_
      refine DL.take 4 rfl (by kernel_rfl) (by kernel_rfl) (by kernel_rfl) (by kernel_rfl) (by kernel_rfl) rfl rfl (Gd.g0 rfl) (heldN 4) ((by first | exact Yd.inc rfl (by omega) | exact Yd.add rfl rfl (by omega) | exact Yd.addW rfl rfl)) ?_
      refine DL.take 5 rfl (by kernel_rfl) (by kernel_rfl) (by kernel_rfl) (by kernel_rfl) (by kernel_rfl) rfl rfl (Gd.g0 rfl) (heldN 5) (Yd.fieldAddr rfl fo_37_4) ?_
      first | refine DL.take 6 rfl (by kernel_rfl) (by kernel_rfl) (by kernel_rfl) (by kernel_rfl) (by kernel_rfl) rfl rfl (Gd.g0 rfl) (held 6 1 rfl (by kernel_rfl)) (Yd.load rfl ag_2 (row_cell rfl)) ?_ | refine DL.take 6 rfl (by kernel_rfl) (by kernel_rfl) (by kernel_rfl) (by kernel_rfl) (by kernel_rfl) rfl rfl (Gd.g0 rfl) (held 6 2 rfl (by kernel_rfl)) (Yd.load rfl ag_2 (row_cell rfl)) ?_ | refine DL.take 6 rfl (by kernel_rfl) (by kernel_rfl) (by kernel_rfl) (by kernel_rfl) (by kernel_rfl) rfl rfl (Gd.g0 rfl) (held 6 3 rfl (by kernel_rfl)) (Yd.load rfl ag_2 (row_cell rfl)) ?_ | refine DL.take 6 rfl (by kernel_rfl) (by kernel_rfl) (by kernel_rfl) (by kernel_rfl) (by kernel_rfl) rfl rfl (Gd.g0 rfl) (held 6 4 rfl (by kernel_rfl)) (Yd.load rfl ag_2 (row_cell rfl)) ?_ | refine DL.take 6 rfl (by kernel_rfl) (by kernel_rfl) (by kernel_rfl) (by kernel_rfl) (by kernel_rfl) rfl rfl (Gd.g0 rfl) (held 6 5 rfl (by kernel_rfl)) (Yd.load rfl ag_2 (row_cell rfl)) ?_
      refine DL.take 7 rfl (by kernel_rfl) (by kernel_rfl) (by kernel_rfl) (by kernel_rfl) (by kernel_rfl) rfl rfl (Gd.g0 rfl) (heldN 7) ((by first | exact Yd.convK rfl un_2 ik_42 rfl | exact Yd.convK rfl un_2 ik_42 (by assumption) | exact Yd.conv rfl un_2 ik_42)) ?_
      refine DL.take 8 rfl (by kernel_rfl) (by kernel_rfl) (by kernel_rfl) (by kernel_rfl) (by kernel_rfl) rfl rfl (Gd.g0 rfl) (heldN 8) ((by first | exact Yd.indexArN rfl rfl ar_44 (by omega) | exact Yd.indexAr rfl rfl ar_44 (by omega))) ?_
      refine DL.ready1 (i := 9) (by kernel_rfl) ?_
      refine D1.ef0 rfl rfl (Gd.g0 rfl) (Ef0.store (i := 2) rfl rfl rfl ag_42 rfl (by rw [pR_len]; omega)) (fun w hw => ⟨(by first | exact fun _ => hw.tb | exact fun _ => hw.ok 0 _ rfl | exact fun _ => hw.ok 1 _ rfl | exact fun _ => hw.ok 2 _ rfl | exact fun _ => hw.ok 3 _ rfl | exact fun _ => hw.ok 4 _ rfl | exact fun _ => hw.ok 5 _ rfl | exact SG.gone (by kernel_rfl)), (by first | exact fun _ => hw.tb | exact fun _ => hw.ok 0 _ rfl | exact fun _ => hw.ok 1 _ rfl | exact fun _ => hw.ok 2 _ rfl | exact fun _ => hw.ok 3 _ rfl | exact fun _ => hw.ok 4 _ rfl | exact fun _ => hw.ok 5 _ rfl | exact SG.gone (by kernel_rfl)), trivial⟩) ?_
      try dsimp only [setR]
      rw [show 0 + 2 * k * 1 = 2 * k by omega, pR_set0]
      refine DL.take 10 rfl (by kernel_rfl) (by kernel_rfl) (by kernel_rfl) (by kernel_rfl) (by kernel_rfl) rfl rfl (Gd.g0 rfl) (heldN 10) ((by first | exact Yd.indexArN rfl rfl ar_44 (by omega) | exact Yd.indexAr rfl rfl ar_44 (by omega))) ?_
      refine DL.ready1 (i := 11) (by kernel_rfl) ?_
      refine D1.ef0 rfl rfl (Gd.g0 rfl) (Ef0.store (i := 2) rfl rfl rfl ag_42 rfl (by rw [pR_len]; omega)) (fun w hw => ⟨(by first | exact fun _ => hw.tb | exact fun _ => hw.ok 0 _ rfl | exact fun _ => hw.ok 1 _ rfl | exact fun _ => hw.ok 2 _ rfl | exact fun _ => hw.ok 3 _ rfl | exact fun _ => hw.ok 4 _ rfl | exact fun _ => hw.ok 5 _ rfl | exact SG.gone (by kernel_rfl)), (by first | exact fun _ => hw.tb | exact fun _ => hw.ok 0 _ rfl | exact fun _ => hw.ok 1 _ rfl | exact fun _ => hw.ok 2 _ rfl | exact fun _ => hw.ok 3 _ rfl | exact fun _ => hw.ok 4 _ rfl | exact fun _ => hw.ok 5 _ rfl | exact SG.gone (by kernel_rfl)), trivial⟩) ?_
      try dsimp only [setR]
      rw [show 0 + (2 * k + 1) * 1 = 2 * k + 1 by omega, pR_set1]
      refine DL.done (by kernel_rfl) ?_
      first | refine EX.then_normal ?_ | skip
      repeat (first | refine EX.in_normal ?_)
      first | refine EX.then_normal ?_ | skip
      repeat (refine CW.seq ?_)
      refine CW.region ?_
      refine SL.val rfl rfl (Gd.g0 rfl) ((by first | exact Yd.inc rfl (by omega) | exact Yd.add rfl rfl (by omega) | exact Yd.addW rfl rfl)) ?_
      refine SL.val rfl rfl (Gd.g0 rfl) (Yd.move rfl) ?_
      first | refine SL.nil_then ?_ | refine SL.nil ?_
      refine EX.round (k + 1) (by omega) (by omega) (Sub.cons rfl rfl (Sub.cons rfl rfl (Sub.cons rfl rfl (Sub.cons rfl rfl (Sub.cons rfl rfl (Sub.cons rfl rfl (Sub.cons rfl rfl Sub.nil))))))) (fun w2 h => by
        rw [← relS_yes s (hbi.1 hbit), ← hE2 (hbi.1 hbit)]
        exact h.pick [1, 2] rfl rfl)
    refine CW.skip ?_
    repeat (first | refine EX.in_normal ?_)
    first | refine EX.then_normal ?_ | skip
    repeat (first | refine EX.in_normal ?_)
    first | refine EX.then_normal ?_ | skip
    repeat (refine CW.seq ?_)
    refine CW.region ?_
    refine SL.val rfl rfl (Gd.g0 rfl) ((by first | exact Yd.inc rfl (by omega) | exact Yd.add rfl rfl (by omega) | exact Yd.addW rfl rfl)) ?_
    refine SL.val rfl rfl (Gd.g0 rfl) (Yd.move rfl) ?_
    first | refine SL.nil_then ?_ | refine SL.nil ?_
    refine EX.round (k + 1) (by omega) (by omega) (Sub.cons rfl rfl (Sub.cons rfl rfl (Sub.cons rfl rfl (Sub.cons rfl rfl (Sub.cons rfl rfl (Sub.cons rfl rfl (Sub.cons rfl rfl Sub.nil))))))) (fun w2 h => by
      have hn : inS set k = false := by
        cases q : inS set k with
        | false => rfl
        | true => exact absurd (hbi.2 q) hbit
      rw [← relS_no s hn, ← relL_no l hn]
      exact h.pick [1, 2] rfl rfl)
  refine CW.exit ?_
  repeat (first | refine EX.then_exit ?_ | refine EX.in_exit rfl ?_ | refine EX.in_exit_ne rfl ?_)
  first | refine EX.then_normal ?_ | skip
  obtain rfl : k = ts.length := by omega
  have hidx : ∀ w2, Wd w [] [Rs.row b6 [.int .i16 0, .int .i16 0, .int .i16 0, .int .i16 0, .int .i16 0, .int .i16 0, .int .i16 0, .int .i16 0, .int .i16 0, .int .i16 0, .int .i16 0, .int .i16 0, .int .i16 0, .int .i16 0, .int .i16 0, .int .i16 0] 44, Rs.row b4 (pR (relS set s ts.length) (relL ts set l ts.length)) 44] w2 →
      Calls Try.prog 31 #[.slice aov ts.length capo, .func (.func 32) #[] #[.pointer (some ⟨b4, 0, none⟩)]] w2 fun e w' => (∃ ix : Int, ((ix = -1 ∧ tkR ts l set = -1) ∨ ∃ k, k < ts.length ∧ ix = (k : Int) ∧ tkR ts l set = ((od.getD k 0 : Nat) : Int) ∧ 0 < relL ts set l ts.length (od.getD k 0)) ∧ e = .returned (.int .i64 ix)) ∧ Below w2.heap.size w2 w' := fun w2 hw => by
    have hrow := hw.ok 1 _ rfl
    have hb4 : b4 < w2.heap.size := (Rs.row b4 (pR (relS set s ts.length) (relL ts set l ts.length)) 44).inh w2 hrow b4 (by simp [Rs.row])
    refine (prog_index _ _ (fun k => decide (0 < relL ts set l ts.length (od.getD k 0))) _ [.pointer (some ⟨b4, 0, none⟩)] w2 cf_32 (RX.keepb hov hw.drop.below) (fun k hk w3 h3 => ?_)).mono fun e w' ⟨h1, h2⟩ => ⟨⟨_, idx_run hod (relL ts set l ts.length), by rw [h1, hlo]⟩, h2⟩
    have hk' : k < ts.length := by rw [hlo] at hk; exact hk
    rw [hge k hk']
    refine prog_tk1 (od.getD k 0) b4 (by have := hod.lt k hk'; omega) _ w3 (Nat.lt_of_lt_of_le hb4 h3.below.size) ?_
    have h4 := h3.below.block b4 hb4
    rw [← pR_l (relS set s ts.length) (relL ts set l ts.length) (show od.getD k 0 < 8 by have := hod.lt k hk'; omega)]
    unfold World.cell?
    rw [h4, show w2.heap[b4]? = _ from hrow]
    simp
  repeat (refine CW.seq ?_)
  refine CW.region ?_
  refine SL.val rfl rfl (Gd.g0 rfl) (Yd.move rfl) ?_
  refine SL.val rfl rfl (Gd.g0 rfl) (Yd.nilCheck rfl) ?_
  refine SL.val rfl rfl (Gd.g0 rfl) (Yd.fieldAddr rfl fo_41_1) ?_
  refine SL.val rfl rfl (Gd.g0 rfl) ((by first | exact Yd.load rfl ag_39 (Wd.cell (i := 0) rfl rfl) | exact Yd.load rfl ag_39 (Wd.cell (i := 1) rfl rfl) | exact Yd.load rfl ag_39 (Wd.cell (i := 2) rfl rfl) | exact Yd.load rfl ag_39 (Wd.cell (i := 3) rfl rfl) | exact Yd.load rfl ag_39 (Wd.cell (i := 4) rfl rfl) | exact Yd.load rfl ag_39 (Wd.cell (i := 5) rfl rfl) | exact Yd.load rfl ag_39 (Wd.inp hbx (by simp) hx1))) ?_
  refine SL.val rfl rfl (Gd.g0 rfl) (Yd.makeFunc rfl rfl) ?_
  refine SL.callX rfl rfl (Gd.g0 rfl) (Cll.func rfl cf_31) hidx (fun ix hix => ?_)
  refine SL.val rfl rfl (Gd.g0 rfl) (Yd.assign rfl) ?_
  first | refine SL.nil_then ?_ | refine SL.nil ?_
  refine CW.cut (σ := Unit) (fun _ => True) (fun _ => [(0, .pointer (some ⟨bx, 0, none⟩)), (4, .pointer (some ⟨b4, 0, none⟩)), (6, .pointer (some ⟨b6, 0, none⟩)), (11, .int .i64 (tkR ts l set))]) (fun _ => Wd w [] [Rs.row b6 [.int .i16 0, .int .i16 0, .int .i16 0, .int .i16 0, .int .i16 0, .int .i16 0, .int .i16 0, .int .i16 0, .int .i16 0, .int .i16 0, .int .i16 0, .int .i16 0, .int .i16 0, .int .i16 0, .int .i16 0, .int .i16 0] 44, Rs.row b4 (pR (relS set s ts.length) (tkL ts l set)) 44]) ?_ (fun _ _ => ?_)
  · repeat (refine CW.seq ?_)
    refine CW.region ?_
    refine SL.val rfl rfl (Gd.g0 rfl) (Yd.move rfl) ?_
    refine SL.val rfl rfl (Gd.g0 rfl) (Yd.geq rfl rfl) ?_
    first | refine SL.nil_then ?_ | refine SL.nil ?_
    repeat (refine CW.seq ?_)
    refine CW.condD rfl (fun h0x => ?_) (fun h0x => ?_)
    · rcases hix with ⟨q, _⟩ | ⟨k, hk, rfl, hrun, hpos⟩
      · omega
      have hr := hod.lt k hk
      obtain ⟨bo, offo, rfl, hbo, hco⟩ := h0o (by rw [hlo]; omega)
      have hck : w.cell? ⟨bo, offo + k * 1, none⟩ = some (.int .i64 ((od.getD k 0 : Nat) : Int)) := by
        have := hco k (by rw [hlo]; exact hk) 0 _ rfl
        rw [hge k hk] at this; exact this
      obtain ⟨r, hrr⟩ : ∃ r, od.getD k 0 = r := ⟨_, rfl⟩
      rw [hrr] at hck hr hrun hpos
      have hr8 : r < 8 := by omega
      have hLr := hL r hr8
      have hw1 : IntKind.i16.wrap (relL ts set l ts.length r - 1) = relL ts set l ts.length r - 1 := IntWalk.i16_in _ (by omega)
      have hdec : upI (relL ts set l ts.length) r (relL ts set l ts.length r - 1) = tkL ts l set := by
        unfold tkL decF; rw [hrun, if_pos (by omega), Int.toNat_natCast]
      repeat (refine CW.seq ?_)
      refine CW.region ?_
      refine SL.val rfl rfl (Gd.g0 rfl) (Yd.move rfl) ?_
      refine SL.val rfl rfl (Gd.g0 rfl) (Yd.nilCheck rfl) ?_
      refine SL.val rfl rfl (Gd.g0 rfl) (Yd.fieldAddr rfl fo_41_1) ?_
      refine SL.val rfl rfl (Gd.g0 rfl) ((by first | exact Yd.load rfl ag_39 (Wd.cell (i := 0) rfl rfl) | exact Yd.load rfl ag_39 (Wd.cell (i := 1) rfl rfl) | exact Yd.load rfl ag_39 (Wd.cell (i := 2) rfl rfl) | exact Yd.load rfl ag_39 (Wd.cell (i := 3) rfl rfl) | exact Yd.load rfl ag_39 (Wd.cell (i := 4) rfl rfl) | exact Yd.load rfl ag_39 (Wd.cell (i := 5) rfl rfl) | exact Yd.load rfl ag_39 (Wd.inp hbx (by simp) hx1) | exact Yd.load rfl ag_39 (Wd.inp hbo (by simp) hck))) ?_
      refine SL.val rfl rfl (Gd.g0 rfl) (Yd.move rfl) ?_
      refine SL.val rfl rfl (Gd.g0 rfl) ((by first | exact Yd.indexSlN rfl rfl sl_39 (by omega) | exact Yd.indexSl rfl rfl sl_39 (by omega))) ?_
      refine SL.val rfl rfl (Gd.g0 rfl) ((by first | exact Yd.load rfl ag_3 (Wd.cell (i := 0) rfl rfl) | exact Yd.load rfl ag_3 (Wd.cell (i := 1) rfl rfl) | exact Yd.load rfl ag_3 (Wd.cell (i := 2) rfl rfl) | exact Yd.load rfl ag_3 (Wd.cell (i := 3) rfl rfl) | exact Yd.load rfl ag_3 (Wd.cell (i := 4) rfl rfl) | exact Yd.load rfl ag_3 (Wd.cell (i := 5) rfl rfl) | exact Yd.load rfl ag_3 (Wd.inp hbx (by simp) hx1) | exact Yd.load rfl ag_3 (Wd.inp hbo (by simp) hck))) ?_
      refine SL.val rfl rfl (Gd.g0 rfl) (Yd.assign rfl) ?_
      first | refine SL.nil_then ?_ | refine SL.nil ?_
      repeat (refine CW.seq ?_)
      refine CW.region ?_
      refine SL.val rfl rfl (Gd.g0 rfl) (Yd.move rfl) ?_
      refine SL.val rfl rfl (Gd.g0 rfl) ((by first | exact Yd.mulC 2 rfl rfl (by omega) | exact Yd.mul rfl rfl (by omega) | exact Yd.mulW rfl rfl)) ?_
      refine SL.val rfl rfl (Gd.g0 rfl) ((by first | exact Yd.inc rfl (by omega) | exact Yd.add rfl rfl (by omega) | exact Yd.addW rfl rfl)) ?_
      refine SL.val rfl rfl (Gd.g0 rfl) ((by first | exact Yd.indexArN rfl rfl ar_44 (by omega) | exact Yd.indexAr rfl rfl ar_44 (by omega))) ?_
      refine SL.val rfl rfl (Gd.g0 rfl) (Yd.load rfl ag_42 (Wd.cell (i := 1) rfl (by rw [show 0 + (2 * r + 1) * 1 = 2 * r + 1 by omega]; exact pR_l _ _ hr8))) ?_
      refine SL.val rfl rfl (Gd.g0 rfl) ((by first | exact Yd.subK rfl rfl (by assumption) | exact Yd.subW rfl rfl)) ?_
      refine SL.val rfl rfl (Gd.g0 rfl) ((by first | exact Yd.indexArN rfl rfl ar_44 (by omega) | exact Yd.indexAr rfl rfl ar_44 (by omega))) ?_
      refine SL.ef0 rfl (Gd.g0 rfl) (Ef0.store (i := 1) rfl rfl rfl ag_42 rfl (by rw [pR_len]; omega)) ?_
      try dsimp only [setR]
      rw [show 0 + (2 * r + 1) * 1 = 2 * r + 1 by omega, pR_set1, hdec]
      first | refine SL.nil_then ?_ | refine SL.nil ?_
      refine EX.cut () trivial (by rw [hrun]; exact (Sub.cons rfl rfl (Sub.cons rfl rfl (Sub.cons rfl rfl (Sub.cons rfl rfl Sub.nil))))) (fun w2 h => h)
    refine CW.skip ?_
    repeat (first | refine EX.in_normal ?_)
    have hneg : tkR ts l set = -1 ∧ ix = -1 := by
      rcases hix with ⟨q, q2⟩ | ⟨k, hk, q, _⟩
      · exact ⟨q2, q⟩
      · omega
    have hdec : tkL ts l set = relL ts set l ts.length := by unfold tkL decF; rw [hneg.1, if_neg (by omega)]
    refine EX.cut () trivial (by rw [hneg.1, hneg.2]; exact (Sub.cons rfl rfl (Sub.cons rfl rfl (Sub.cons rfl rfl (Sub.cons rfl rfl Sub.nil))))) (fun w2 h => by rw [hdec]; exact h)
  repeat (refine CW.seq ?_)
  refine CW.region ?_
  refine SL.val rfl rfl (Gd.g0 rfl) (Yd.assign rfl) ?_
  first | refine SL.nil_then ?_ | refine SL.nil ?_
  repeat (refine CW.seq ?_)
  refine CW.region ?_
  refine SL.val rfl rfl (Gd.g0 rfl) (Yd.move rfl) ?_
  refine SL.val rfl rfl (Gd.g0 rfl) (Yd.nilCheck rfl) ?_
  refine SL.val rfl rfl (Gd.g0 rfl) (Yd.fieldAddr rfl fo_41_0) ?_
  refine SL.val rfl rfl (Gd.g0 rfl) ((by first | exact Yd.load rfl ag_22 (Wd.cell (i := 0) rfl rfl) | exact Yd.load rfl ag_22 (Wd.cell (i := 1) rfl rfl) | exact Yd.load rfl ag_22 (Wd.cell (i := 2) rfl rfl) | exact Yd.load rfl ag_22 (Wd.cell (i := 3) rfl rfl) | exact Yd.load rfl ag_22 (Wd.cell (i := 4) rfl rfl) | exact Yd.load rfl ag_22 (Wd.cell (i := 5) rfl rfl) | exact Yd.load rfl ag_22 (Wd.inp hbx (by simp) hx0))) ?_
  refine SL.val rfl rfl (Gd.g0 rfl) (Yd.lenSl rfl isl_22) ?_
  refine SL.val rfl rfl (Gd.g0 rfl) (Yd.move rfl) ?_
  first | refine SL.nil_then ?_ | refine SL.nil ?_
  have hA : ∀ j, j < 8 → 0 ≤ ageF ts (relS set s ts.length) ts.length j ∧ ageF ts (relS set s ts.length) ts.length j ≤ 1001 := fun j hj => by
    have := hS j hj
    unfold ageF
    by_cases c : j < ts.length
    · rw [if_pos c]; have := hT j c; omega
    · rw [if_neg c]; omega
  repeat (refine CW.seq ?_)
  refine CW.block ?_
  refine CW.loop (σ := Nat) (fun k => k ≤ ts.length) (fun k => [(4, .pointer (some ⟨b4, 0, none⟩)), (6, .pointer (some ⟨b6, 0, none⟩)), (11, .int .i64 (tkR ts l set)), (12, .bool (misK ts (tkS ts s set) (tkL ts l set) k)), (66, .slice ao ts.length cap), (67, .int .i64 (ts.length : Int)), (68, .int .i64 (k : Int))]) (fun k => Wd w [] [Rs.row b6 [.int .i16 0, .int .i16 0, .int .i16 0, .int .i16 0, .int .i16 0, .int .i16 0, .int .i16 0, .int .i16 0, .int .i16 0, .int .i16 0, .int .i16 0, .int .i16 0, .int .i16 0, .int .i16 0, .int .i16 0, .int .i16 0] 44, Rs.row b4 (pR (ageF ts (relS set s ts.length) k) (tkL ts l set)) 44]) (fun k => ts.length - k) 0 (by omega) (Sub.cons rfl rfl (Sub.cons rfl rfl (Sub.cons rfl rfl (Sub.cons rfl rfl (Sub.cons rfl rfl (Sub.cons rfl rfl (Sub.cons rfl rfl Sub.nil))))))) (fun w2 h => by
    rw [show ageF ts (relS set s ts.length) 0 = relS set s ts.length by funext j; unfold ageF; rw [if_neg (by omega)]]
    exact h) ?_
  intro k hk
  repeat (refine CW.seq ?_)
  refine CW.region ?_
  refine SL.val rfl rfl (Gd.g0 rfl) (Yd.lss rfl rfl) ?_
  first | refine SL.nil_then ?_ | refine SL.nil ?_
  repeat (refine CW.seq ?_)
  refine CW.condD rfl (fun hkn => ?_) (fun hkn => ?_)
  · refine CW.skip ?_
    repeat (first | refine EX.in_normal ?_)
    first | refine EX.then_normal ?_ | skip
    have hlt : k < ts.length := by omega
    have k8 : k < 8 := by omega
    obtain ⟨b, off, rfl, hb, hc⟩ := h0 (by omega)
    have hcs := hc k hlt
    obtain ⟨aos, caps, hsv, -⟩ := hv.secs hlt
    have hTk := hT k hlt
    have hAn := ageF_next ts (relS set s ts.length) k
    have hMs := misK_succ ts (tkS ts s set) (tkL ts l set) k
    have hSk := hS k k8
    have hLk := hL2 k k8
    have hag : ageF ts (relS set s ts.length) k k = relS set s ts.length k := by unfold ageF; rw [if_neg (by omega)]
    have hag2 : ageF ts (relS set s ts.length) (k + 1) k = tkS ts s set k := by unfold tkS ageF; rw [if_pos (by omega), if_pos hlt]
    have htS : tkS ts s set k = min (relS set s ts.length k + 1) (tk ts k).T := by unfold tkS ageF; rw [if_pos hlt]
    obtain ⟨t, ht⟩ : ∃ t, tk ts k = t := ⟨_, rfl⟩
    rw [ht] at hsv hTk hAn hMs htS
    obtain ⟨nm, T, O, D, C, pr, sv, sc⟩ := t
    obtain rfl : sv = .slice aos sc.length caps := hsv
    dsimp only at hTk hAn hMs htS
    have hcs' : ∀ j v, [Value.string nm, .int .i64 T, .int .i64 O, .int .i64 D, .int .i64 C, .int .i64 pr, .slice aos sc.length caps][j]? = some v → w.cell? ⟨b, off + k * 7 + j, none⟩ = some v := fun j v h => hcs j v (by rw [show ge cdTk ts k = _ from ht]; exact h)
    have hTw : IntKind.i16.wrap T = T := IntWalk.i16_in _ (by omega)
    have hSw : IntKind.i16.wrap (relS set s ts.length k + 1) = relS set s ts.length k + 1 := IntWalk.i16_in _ (by omega)
    have hXw : IntKind.i64.wrap (tkS ts s set k) = tkS ts s set k := IntWalk.i64_in _ (by rw [htS]; omega)
    repeat (refine CW.seq ?_)
    refine CW.block ?_
    repeat (refine CW.seq ?_)
    refine CW.region ?_
    refine SL.val rfl rfl (Gd.g0 rfl) (Yd.move rfl) ?_
    refine SL.val rfl rfl (Gd.g0 rfl) ((by first | exact Yd.indexSlN rfl rfl sl_22 (by omega) | exact Yd.indexSl rfl rfl sl_22 (by omega))) ?_
    refine SL.val rfl rfl (Gd.g0 rfl) ((by first | exact Yd.loadR (i := 0) rfl ag_37 rfl rfl | exact Yd.loadR (i := 1) rfl ag_37 rfl rfl | exact Yd.loadR (i := 2) rfl ag_37 rfl rfl | exact Yd.loadR (i := 3) rfl ag_37 rfl rfl | exact Yd.loadR (i := 4) rfl ag_37 rfl rfl | exact Yd.loadR (i := 5) rfl ag_37 rfl rfl | exact Yd.loadA rfl ag_37 rfl (Wd.inpA hb (by simp) hcs'))) ?_
    refine SL.efD rfl rfl (Gd.g0 rfl) (Ef.alloc zl_37) (fun b14 => ?_)
    try dsimp only [Value.cells, List.flatMap_cons, List.flatMap_nil]
    refine SL.val rfl rfl (Gd.g0 rfl) (Yd.assign rfl) ?_
    refine SL.ef0 rfl (Gd.g0 rfl) (by first | exact Ef0.storeA (i := 0) rfl rfl rfl ag_37 rfl rfl (by simp) | exact Ef0.storeA (i := 1) rfl rfl rfl ag_37 rfl rfl (by simp) | exact Ef0.storeA (i := 2) rfl rfl rfl ag_37 rfl rfl (by simp) | exact Ef0.storeA (i := 3) rfl rfl rfl ag_37 rfl rfl (by simp) | exact Ef0.storeA (i := 4) rfl rfl rfl ag_37 rfl rfl (by simp) | exact Ef0.storeA (i := 5) rfl rfl rfl ag_37 rfl rfl (by simp)) ?_
    try dsimp only [setR, List.set, setRow2]
    first | refine SL.nil_then ?_ | refine SL.nil ?_
    repeat (refine CW.seq ?_)
    refine CW.draw [(Tb w [], []), ((Rs.row b14 [Value.string nm, .int .i64 T, .int .i64 O, .int .i64 D, .int .i64 C, .int .i64 pr, .slice aos sc.length caps] 37).ok, []), ((Rs.row b4 (pR (ageF ts (relS set s ts.length) k) (tkL ts l set)) 44).ok, [12])] mixed (fun w hw => hw.drew) (fun w hw => ⟨(by first | exact fun _ => hw.tb | exact fun _ => hw.ok 0 _ rfl | exact fun _ => hw.ok 1 _ rfl | exact fun _ => hw.ok 2 _ rfl | exact fun _ => hw.ok 3 _ rfl | exact fun _ => hw.ok 4 _ rfl | exact fun _ => hw.ok 5 _ rfl | exact SG.gone (by kernel_rfl)), (by first | exact fun _ => hw.tb | exact fun _ => hw.ok 0 _ rfl | exact fun _ => hw.ok 1 _ rfl | exact fun _ => hw.ok 2 _ rfl | exact fun _ => hw.ok 3 _ rfl | exact fun _ => hw.ok 4 _ rfl | exact fun _ => hw.ok 5 _ rfl | exact SG.gone (by kernel_rfl)), (by first | exact fun _ => hw.tb | exact fun _ => hw.ok 0 _ rfl | exact fun _ => hw.ok 1 _ rfl | exact fun _ => hw.ok 2 _ rfl | exact fun _ => hw.ok 3 _ rfl | exact fun _ => hw.ok 4 _ rfl | exact fun _ => hw.ok 5 _ rfl | exact SG.gone (by kernel_rfl)), trivial⟩) ?_
    refine DL.take 0 rfl (by kernel_rfl) (by kernel_rfl) (by kernel_rfl) (by kernel_rfl) (by kernel_rfl) rfl rfl (Gd.g0 rfl) (heldN 0) (Yd.move rfl) ?_
    refine DL.take 1 rfl (by kernel_rfl) (by kernel_rfl) (by kernel_rfl) (by kernel_rfl) (by kernel_rfl) rfl rfl (Gd.g0 rfl) (heldN 1) ((by first | exact Yd.mulC 2 rfl rfl (by omega) | exact Yd.mul rfl rfl (by omega) | exact Yd.mulW rfl rfl)) ?_
    refine DL.take 2 rfl (by kernel_rfl) (by kernel_rfl) (by kernel_rfl) (by kernel_rfl) (by kernel_rfl) rfl rfl (Gd.g0 rfl) (heldN 2) (Yd.move rfl) ?_
    refine DL.take 3 rfl (by kernel_rfl) (by kernel_rfl) (by kernel_rfl) (by kernel_rfl) (by kernel_rfl) rfl rfl (Gd.g0 rfl) (heldN 3) ((by first | exact Yd.mulC 2 rfl rfl (by omega) | exact Yd.mul rfl rfl (by omega) | exact Yd.mulW rfl rfl)) ?_
    refine DL.take 4 rfl (by kernel_rfl) (by kernel_rfl) (by kernel_rfl) (by kernel_rfl) (by kernel_rfl) rfl rfl (Gd.g0 rfl) (heldN 4) ((by first | exact Yd.indexArN rfl rfl ar_44 (by omega) | exact Yd.indexAr rfl rfl ar_44 (by omega))) ?_
    refine DL.take 5 rfl (by kernel_rfl) (by kernel_rfl) (by kernel_rfl) (by kernel_rfl) (by kernel_rfl) rfl rfl (Gd.g0 rfl) (held 5 2 rfl (by kernel_rfl)) (Yd.load rfl ag_42 (row_cell (by rw [show 0 + 2 * k * 1 = 2 * k by omega, pR_s _ _ k8, hag]))) ?_
    refine DL.take 6 rfl (by kernel_rfl) (by kernel_rfl) (by kernel_rfl) (by kernel_rfl) (by kernel_rfl) rfl rfl (Gd.g0 rfl) (heldN 6) ((by first | exact Yd.addK rfl rfl (by assumption) | exact Yd.addW rfl rfl)) ?_
    refine DL.take 7 rfl (by kernel_rfl) (by kernel_rfl) (by kernel_rfl) (by kernel_rfl) (by kernel_rfl) rfl rfl (Gd.g0 rfl) (heldN 7) (Yd.fieldAddr rfl fo_37_1) ?_
    first | refine DL.take 8 rfl (by kernel_rfl) (by kernel_rfl) (by kernel_rfl) (by kernel_rfl) (by kernel_rfl) rfl rfl (Gd.g0 rfl) (held 8 1 rfl (by kernel_rfl)) (Yd.load rfl ag_2 (row_cell rfl)) ?_ | refine DL.take 8 rfl (by kernel_rfl) (by kernel_rfl) (by kernel_rfl) (by kernel_rfl) (by kernel_rfl) rfl rfl (Gd.g0 rfl) (held 8 2 rfl (by kernel_rfl)) (Yd.load rfl ag_2 (row_cell rfl)) ?_ | refine DL.take 8 rfl (by kernel_rfl) (by kernel_rfl) (by kernel_rfl) (by kernel_rfl) (by kernel_rfl) rfl rfl (Gd.g0 rfl) (held 8 3 rfl (by kernel_rfl)) (Yd.load rfl ag_2 (row_cell rfl)) ?_ | refine DL.take 8 rfl (by kernel_rfl) (by kernel_rfl) (by kernel_rfl) (by kernel_rfl) (by kernel_rfl) rfl rfl (Gd.g0 rfl) (held 8 4 rfl (by kernel_rfl)) (Yd.load rfl ag_2 (row_cell rfl)) ?_ | refine DL.take 8 rfl (by kernel_rfl) (by kernel_rfl) (by kernel_rfl) (by kernel_rfl) (by kernel_rfl) rfl rfl (Gd.g0 rfl) (held 8 5 rfl (by kernel_rfl)) (Yd.load rfl ag_2 (row_cell rfl)) ?_
    refine DL.take 9 rfl (by kernel_rfl) (by kernel_rfl) (by kernel_rfl) (by kernel_rfl) (by kernel_rfl) rfl rfl (Gd.g0 rfl) (heldN 9) ((by first | exact Yd.convK rfl un_2 ik_42 rfl | exact Yd.convK rfl un_2 ik_42 (by assumption) | exact Yd.conv rfl un_2 ik_42)) ?_
    refine DL.take 10 rfl (by kernel_rfl) (by kernel_rfl) (by kernel_rfl) (by kernel_rfl) (by kernel_rfl) rfl rfl (Gd.g0 rfl) (heldN 10) (Yd.min2 rfl rfl) ?_
    refine DL.take 11 rfl (by kernel_rfl) (by kernel_rfl) (by kernel_rfl) (by kernel_rfl) (by kernel_rfl) rfl rfl (Gd.g0 rfl) (heldN 11) ((by first | exact Yd.indexArN rfl rfl ar_44 (by omega) | exact Yd.indexAr rfl rfl ar_44 (by omega))) ?_
    refine DL.ready1 (i := 12) (by kernel_rfl) ?_
    refine D1.ef0 rfl rfl (Gd.g0 rfl) (Ef0.store (i := 2) rfl rfl rfl ag_42 rfl (by rw [pR_len]; omega)) (fun w hw => ⟨(by first | exact fun _ => hw.tb | exact fun _ => hw.ok 0 _ rfl | exact fun _ => hw.ok 1 _ rfl | exact fun _ => hw.ok 2 _ rfl | exact fun _ => hw.ok 3 _ rfl | exact fun _ => hw.ok 4 _ rfl | exact fun _ => hw.ok 5 _ rfl | exact SG.gone (by kernel_rfl)), (by first | exact fun _ => hw.tb | exact fun _ => hw.ok 0 _ rfl | exact fun _ => hw.ok 1 _ rfl | exact fun _ => hw.ok 2 _ rfl | exact fun _ => hw.ok 3 _ rfl | exact fun _ => hw.ok 4 _ rfl | exact fun _ => hw.ok 5 _ rfl | exact SG.gone (by kernel_rfl)), (by first | exact fun _ => hw.tb | exact fun _ => hw.ok 0 _ rfl | exact fun _ => hw.ok 1 _ rfl | exact fun _ => hw.ok 2 _ rfl | exact fun _ => hw.ok 3 _ rfl | exact fun _ => hw.ok 4 _ rfl | exact fun _ => hw.ok 5 _ rfl | exact SG.gone (by kernel_rfl)), trivial⟩) ?_
    try dsimp only [setR]
    rw [show 0 + 2 * k * 1 = 2 * k by omega, pR_set0]
    refine DL.done (by kernel_rfl) ?_
    first | refine EX.then_normal ?_ | skip
    rw [hAn]
    repeat (refine CW.seq ?_)
    refine CW.draw [(Tb w [], []), ((Rs.row b14 [Value.string nm, .int .i64 T, .int .i64 O, .int .i64 D, .int .i64 C, .int .i64 pr, .slice aos sc.length caps] 37).ok, []), ((Rs.row b4 (pR (ageF ts (relS set s ts.length) (k + 1)) (tkL ts l set)) 44).ok, [])] mixed (fun w hw => hw.drew) (fun w hw => ⟨(by first | exact fun _ => hw.tb | exact fun _ => hw.ok 0 _ rfl | exact fun _ => hw.ok 1 _ rfl | exact fun _ => hw.ok 2 _ rfl | exact fun _ => hw.ok 3 _ rfl | exact fun _ => hw.ok 4 _ rfl | exact fun _ => hw.ok 5 _ rfl | exact SG.gone (by kernel_rfl)), (by first | exact fun _ => hw.tb | exact fun _ => hw.ok 0 _ rfl | exact fun _ => hw.ok 1 _ rfl | exact fun _ => hw.ok 2 _ rfl | exact fun _ => hw.ok 3 _ rfl | exact fun _ => hw.ok 4 _ rfl | exact fun _ => hw.ok 5 _ rfl | exact SG.gone (by kernel_rfl)), (by first | exact fun _ => hw.tb | exact fun _ => hw.ok 0 _ rfl | exact fun _ => hw.ok 1 _ rfl | exact fun _ => hw.ok 2 _ rfl | exact fun _ => hw.ok 3 _ rfl | exact fun _ => hw.ok 4 _ rfl | exact fun _ => hw.ok 5 _ rfl | exact SG.gone (by kernel_rfl)), trivial⟩) ?_
    refine DL.take 0 rfl (by kernel_rfl) (by kernel_rfl) (by kernel_rfl) (by kernel_rfl) (by kernel_rfl) rfl rfl (Gd.g0 rfl) (heldN 0) (Yd.move rfl) ?_
    refine DL.take 1 rfl (by kernel_rfl) (by kernel_rfl) (by kernel_rfl) (by kernel_rfl) (by kernel_rfl) rfl rfl (Gd.g0 rfl) (heldN 1) (Yd.move rfl) ?_
    refine DL.split (dj := 86) rfl (fun hg86 => ?_) (fun hg86 => ?_)
    refine DL.takeN 2 rfl (by kernel_rfl) (by kernel_rfl) (by kernel_rfl) (by kernel_rfl) (by kernel_rfl) rfl rfl (Gd.no rfl rfl rfl rfl) ?_
    refine DL.takeN 3 rfl (by kernel_rfl) (by kernel_rfl) (by kernel_rfl) (by kernel_rfl) (by kernel_rfl) rfl rfl (Gd.no rfl rfl rfl rfl) ?_
    refine DL.takeN 4 rfl (by kernel_rfl) (by kernel_rfl) (by kernel_rfl) (by kernel_rfl) (by kernel_rfl) rfl rfl (Gd.no rfl rfl rfl rfl) ?_
    refine DL.takeN 5 rfl (by kernel_rfl) (by kernel_rfl) (by kernel_rfl) (by kernel_rfl) (by kernel_rfl) rfl rfl (Gd.no rfl rfl rfl rfl) ?_
    refine DL.takeN 6 rfl (by kernel_rfl) (by kernel_rfl) (by kernel_rfl) (by kernel_rfl) (by kernel_rfl) rfl rfl (Gd.no rfl rfl rfl rfl) ?_
    refine DL.takeN 7 rfl (by kernel_rfl) (by kernel_rfl) (by kernel_rfl) (by kernel_rfl) (by kernel_rfl) rfl rfl (Gd.no rfl rfl rfl rfl) ?_
    refine DL.takeN 8 rfl (by kernel_rfl) (by kernel_rfl) (by kernel_rfl) (by kernel_rfl) (by kernel_rfl) rfl rfl (Gd.no rfl rfl rfl rfl) ?_
    refine DL.takeN 9 rfl (by kernel_rfl) (by kernel_rfl) (by kernel_rfl) (by kernel_rfl) (by kernel_rfl) rfl rfl (Gd.und rfl rfl rfl) ?_
    refine DL.takeN 10 rfl (by kernel_rfl) (by kernel_rfl) (by kernel_rfl) (by kernel_rfl) (by kernel_rfl) rfl rfl (Gd.und rfl rfl rfl) ?_
    refine DL.takeN 11 rfl (by kernel_rfl) (by kernel_rfl) (by kernel_rfl) (by kernel_rfl) (by kernel_rfl) rfl rfl (Gd.und rfl rfl rfl) ?_
    refine DL.takeN 12 rfl (by kernel_rfl) (by kernel_rfl) (by kernel_rfl) (by kernel_rfl) (by kernel_rfl) rfl rfl (Gd.und rfl rfl rfl) ?_
    refine DL.takeN 13 rfl (by kernel_rfl) (by kernel_rfl) (by kernel_rfl) (by kernel_rfl) (by kernel_rfl) rfl rfl (Gd.und rfl rfl rfl) ?_
    refine DL.takeN 14 rfl (by kernel_rfl) (by kernel_rfl) (by kernel_rfl) (by kernel_rfl) (by kernel_rfl) rfl rfl (Gd.und rfl rfl rfl) ?_
    refine DL.takeN 15 rfl (by kernel_rfl) (by kernel_rfl) (by kernel_rfl) (by kernel_rfl) (by kernel_rfl) rfl rfl (Gd.und rfl rfl rfl) ?_
    refine DL.takeN 16 rfl (by kernel_rfl) (by kernel_rfl) (by kernel_rfl) (by kernel_rfl) (by kernel_rfl) rfl rfl (Gd.und rfl rfl rfl) ?_
    refine DL.takeN 17 rfl (by kernel_rfl) (by kernel_rfl) (by kernel_rfl) (by kernel_rfl) (by kernel_rfl) rfl rfl (Gd.no rfl rfl rfl rfl) ?_
    refine DL.take 18 rfl (by kernel_rfl) (by kernel_rfl) (by kernel_rfl) (by kernel_rfl) (by kernel_rfl) rfl rfl (Gd.g0 rfl) (heldN 18) ((by first | exact Yd.pickT rfl rfl | exact Yd.pickF rfl rfl | exact Yd.pickB rfl rfl rfl)) ?_
    refine DL.take 19 rfl (by kernel_rfl) (by kernel_rfl) (by kernel_rfl) (by kernel_rfl) (by kernel_rfl) rfl rfl (Gd.g0 rfl) (heldN 19) (Yd.assign rfl) ?_
    refine DL.done (by kernel_rfl) ?_
    first | refine EX.then_normal ?_ | skip
    rotate_left
    refine DL.take 2 rfl (by kernel_rfl) (by kernel_rfl) (by kernel_rfl) (by kernel_rfl) (by kernel_rfl) rfl rfl (Gd.yes rfl rfl rfl) (heldN 2) (Yd.move rfl) ?_
    refine DL.take 3 rfl (by kernel_rfl) (by kernel_rfl) (by kernel_rfl) (by kernel_rfl) (by kernel_rfl) rfl rfl (Gd.yes rfl rfl rfl) (heldN 3) ((by first | exact Yd.mulC 2 rfl rfl (by omega) | exact Yd.mul rfl rfl (by omega) | exact Yd.mulW rfl rfl)) ?_
    refine DL.take 4 rfl (by kernel_rfl) (by kernel_rfl) (by kernel_rfl) (by kernel_rfl) (by kernel_rfl) rfl rfl (Gd.yes rfl rfl rfl) (heldN 4) ((by first | exact Yd.inc rfl (by omega) | exact Yd.add rfl rfl (by omega) | exact Yd.addW rfl rfl)) ?_
    refine DL.take 5 rfl (by kernel_rfl) (by kernel_rfl) (by kernel_rfl) (by kernel_rfl) (by kernel_rfl) rfl rfl (Gd.yes rfl rfl rfl) (heldN 5) ((by first | exact Yd.indexArN rfl rfl ar_44 (by omega) | exact Yd.indexAr rfl rfl ar_44 (by omega))) ?_
    refine DL.take 6 rfl (by kernel_rfl) (by kernel_rfl) (by kernel_rfl) (by kernel_rfl) (by kernel_rfl) rfl rfl (Gd.yes rfl rfl rfl) (held 6 2 rfl (by kernel_rfl)) (Yd.load rfl ag_42 (row_cell (by rw [show 0 + (2 * k + 1) * 1 = 2 * k + 1 by omega]; exact pR_l _ _ k8))) ?_
    refine DL.take 7 rfl (by kernel_rfl) (by kernel_rfl) (by kernel_rfl) (by kernel_rfl) (by kernel_rfl) rfl rfl (Gd.yes rfl rfl rfl) (heldN 7) (Yd.gtr rfl rfl) ?_
    refine DL.take 8 rfl (by kernel_rfl) (by kernel_rfl) (by kernel_rfl) (by kernel_rfl) (by kernel_rfl) rfl rfl (Gd.yes rfl rfl rfl) (heldN 8) (Yd.move rfl) ?_
    refine DL.splitD (dj := 93) rfl (fun hg93 => ?_) (fun hg93 => ?_)
    refine DL.take 9 rfl (by kernel_rfl) (by kernel_rfl) (by kernel_rfl) (by kernel_rfl) (by kernel_rfl) rfl rfl (Gd.yes rfl rfl rfl) (heldN 9) (Yd.move rfl) ?_
    refine DL.take 10 rfl (by kernel_rfl) (by kernel_rfl) (by kernel_rfl) (by kernel_rfl) (by kernel_rfl) rfl rfl (Gd.yes rfl rfl rfl) (heldN 10) ((by first | exact Yd.mulC 2 rfl rfl (by omega) | exact Yd.mul rfl rfl (by omega) | exact Yd.mulW rfl rfl)) ?_
    refine DL.take 11 rfl (by kernel_rfl) (by kernel_rfl) (by kernel_rfl) (by kernel_rfl) (by kernel_rfl) rfl rfl (Gd.yes rfl rfl rfl) (heldN 11) ((by first | exact Yd.indexArN rfl rfl ar_44 (by omega) | exact Yd.indexAr rfl rfl ar_44 (by omega))) ?_
    refine DL.take 12 rfl (by kernel_rfl) (by kernel_rfl) (by kernel_rfl) (by kernel_rfl) (by kernel_rfl) rfl rfl (Gd.yes rfl rfl rfl) (held 12 2 rfl (by kernel_rfl)) (Yd.load rfl ag_42 (row_cell (by rw [show 0 + 2 * k * 1 = 2 * k by omega, pR_s _ _ k8, hag2]))) ?_
    refine DL.take 13 rfl (by kernel_rfl) (by kernel_rfl) (by kernel_rfl) (by kernel_rfl) (by kernel_rfl) rfl rfl (Gd.yes rfl rfl rfl) (heldN 13) ((by first | exact Yd.convK rfl un_42 ik_2 rfl | exact Yd.convK rfl un_42 ik_2 (by assumption) | exact Yd.conv rfl un_42 ik_2)) ?_
    refine DL.take 14 rfl (by kernel_rfl) (by kernel_rfl) (by kernel_rfl) (by kernel_rfl) (by kernel_rfl) rfl rfl (Gd.yes rfl rfl rfl) (heldN 14) (Yd.fieldAddr rfl fo_37_3) ?_
    first | refine DL.take 15 rfl (by kernel_rfl) (by kernel_rfl) (by kernel_rfl) (by kernel_rfl) (by kernel_rfl) rfl rfl (Gd.yes rfl rfl rfl) (held 15 1 rfl (by kernel_rfl)) (Yd.load rfl ag_2 (row_cell rfl)) ?_ | refine DL.take 15 rfl (by kernel_rfl) (by kernel_rfl) (by kernel_rfl) (by kernel_rfl) (by kernel_rfl) rfl rfl (Gd.yes rfl rfl rfl) (held 15 2 rfl (by kernel_rfl)) (Yd.load rfl ag_2 (row_cell rfl)) ?_ | refine DL.take 15 rfl (by kernel_rfl) (by kernel_rfl) (by kernel_rfl) (by kernel_rfl) (by kernel_rfl) rfl rfl (Gd.yes rfl rfl rfl) (held 15 3 rfl (by kernel_rfl)) (Yd.load rfl ag_2 (row_cell rfl)) ?_ | refine DL.take 15 rfl (by kernel_rfl) (by kernel_rfl) (by kernel_rfl) (by kernel_rfl) (by kernel_rfl) rfl rfl (Gd.yes rfl rfl rfl) (held 15 4 rfl (by kernel_rfl)) (Yd.load rfl ag_2 (row_cell rfl)) ?_ | refine DL.take 15 rfl (by kernel_rfl) (by kernel_rfl) (by kernel_rfl) (by kernel_rfl) (by kernel_rfl) rfl rfl (Gd.yes rfl rfl rfl) (held 15 5 rfl (by kernel_rfl)) (Yd.load rfl ag_2 (row_cell rfl)) ?_
    refine DL.take 16 rfl (by kernel_rfl) (by kernel_rfl) (by kernel_rfl) (by kernel_rfl) (by kernel_rfl) rfl rfl (Gd.yes rfl rfl rfl) (heldN 16) (Yd.geq rfl rfl) ?_
    refine DL.take 17 rfl (by kernel_rfl) (by kernel_rfl) (by kernel_rfl) (by kernel_rfl) (by kernel_rfl) rfl rfl (Gd.yes rfl rfl rfl) (heldN 17) ((by first | exact Yd.pickT rfl rfl | exact Yd.pickF rfl rfl | exact Yd.pickB rfl rfl rfl)) ?_
    refine DL.take 18 rfl (by kernel_rfl) (by kernel_rfl) (by kernel_rfl) (by kernel_rfl) (by kernel_rfl) rfl rfl (Gd.g0 rfl) (heldN 18) ((by first | exact Yd.pickT rfl rfl | exact Yd.pickF rfl rfl | exact Yd.pickB rfl rfl rfl)) ?_
    refine DL.take 19 rfl (by kernel_rfl) (by kernel_rfl) (by kernel_rfl) (by kernel_rfl) (by kernel_rfl) rfl rfl (Gd.g0 rfl) (heldN 19) (Yd.assign rfl) ?_
    refine DL.done (by kernel_rfl) ?_
    first | refine EX.then_normal ?_ | skip
    rotate_left
    refine DL.takeN 9 rfl (by kernel_rfl) (by kernel_rfl) (by kernel_rfl) (by kernel_rfl) (by kernel_rfl) rfl rfl (Gd.no rfl rfl rfl rfl) ?_
    refine DL.takeN 10 rfl (by kernel_rfl) (by kernel_rfl) (by kernel_rfl) (by kernel_rfl) (by kernel_rfl) rfl rfl (Gd.no rfl rfl rfl rfl) ?_
    refine DL.takeN 11 rfl (by kernel_rfl) (by kernel_rfl) (by kernel_rfl) (by kernel_rfl) (by kernel_rfl) rfl rfl (Gd.no rfl rfl rfl rfl) ?_
    refine DL.takeN 12 rfl (by kernel_rfl) (by kernel_rfl) (by kernel_rfl) (by kernel_rfl) (by kernel_rfl) rfl rfl (Gd.no rfl rfl rfl rfl) ?_
    refine DL.takeN 13 rfl (by kernel_rfl) (by kernel_rfl) (by kernel_rfl) (by kernel_rfl) (by kernel_rfl) rfl rfl (Gd.no rfl rfl rfl rfl) ?_
    refine DL.takeN 14 rfl (by kernel_rfl) (by kernel_rfl) (by kernel_rfl) (by kernel_rfl) (by kernel_rfl) rfl rfl (Gd.no rfl rfl rfl rfl) ?_
    refine DL.takeN 15 rfl (by kernel_rfl) (by kernel_rfl) (by kernel_rfl) (by kernel_rfl) (by kernel_rfl) rfl rfl (Gd.no rfl rfl rfl rfl) ?_
    refine DL.takeN 16 rfl (by kernel_rfl) (by kernel_rfl) (by kernel_rfl) (by kernel_rfl) (by kernel_rfl) rfl rfl (Gd.no rfl rfl rfl rfl) ?_
    refine DL.take 17 rfl (by kernel_rfl) (by kernel_rfl) (by kernel_rfl) (by kernel_rfl) (by kernel_rfl) rfl rfl (Gd.yes rfl rfl rfl) (heldN 17) ((by first | exact Yd.pickT rfl rfl | exact Yd.pickF rfl rfl | exact Yd.pickB rfl rfl rfl)) ?_
    refine DL.take 18 rfl (by kernel_rfl) (by kernel_rfl) (by kernel_rfl) (by kernel_rfl) (by kernel_rfl) rfl rfl (Gd.g0 rfl) (heldN 18) ((by first | exact Yd.pickT rfl rfl | exact Yd.pickF rfl rfl | exact Yd.pickB rfl rfl rfl)) ?_
    refine DL.take 19 rfl (by kernel_rfl) (by kernel_rfl) (by kernel_rfl) (by kernel_rfl) (by kernel_rfl) rfl rfl (Gd.g0 rfl) (heldN 19) (Yd.assign rfl) ?_
    refine DL.done (by kernel_rfl) ?_
    first | refine EX.then_normal ?_ | skip
    rotate_left
    · repeat (first | refine EX.in_normal ?_)
      first | refine EX.then_normal ?_ | skip
      repeat (refine CW.seq ?_)
      refine CW.region ?_
      refine SL.val rfl rfl (Gd.g0 rfl) ((by first | exact Yd.inc rfl (by omega) | exact Yd.add rfl rfl (by omega) | exact Yd.addW rfl rfl)) ?_
      refine SL.val rfl rfl (Gd.g0 rfl) (Yd.move rfl) ?_
      first | refine SL.nil_then ?_ | refine SL.nil ?_
      refine EX.round (k + 1) (by omega) (by omega) (Sub.cons rfl rfl (Sub.cons rfl rfl (Sub.cons rfl rfl (Sub.cons rfl (by rw [hMs, hg86]; rfl) (Sub.cons rfl rfl (Sub.cons rfl rfl (Sub.cons rfl rfl Sub.nil))))))) (fun w2 h => h.pick [1, 2] rfl rfl)
    · repeat (first | refine EX.in_normal ?_)
      first | refine EX.then_normal ?_ | skip
      repeat (refine CW.seq ?_)
      refine CW.region ?_
      refine SL.val rfl rfl (Gd.g0 rfl) ((by first | exact Yd.inc rfl (by omega) | exact Yd.add rfl rfl (by omega) | exact Yd.addW rfl rfl)) ?_
      refine SL.val rfl rfl (Gd.g0 rfl) (Yd.move rfl) ?_
      first | refine SL.nil_then ?_ | refine SL.nil ?_
      refine EX.round (k + 1) (by omega) (by omega) (Sub.cons rfl rfl (Sub.cons rfl rfl (Sub.cons rfl rfl (Sub.cons rfl (by rw [hMs, hg86, decide_eq_true hg93]; rfl) (Sub.cons rfl rfl (Sub.cons rfl rfl (Sub.cons rfl rfl Sub.nil))))))) (fun w2 h => h.pick [1, 2] rfl rfl)
    · repeat (first | refine EX.in_normal ?_)
      first | refine EX.then_normal ?_ | skip
      repeat (refine CW.seq ?_)
      refine CW.region ?_
      refine SL.val rfl rfl (Gd.g0 rfl) ((by first | exact Yd.inc rfl (by omega) | exact Yd.add rfl rfl (by omega) | exact Yd.addW rfl rfl)) ?_
      refine SL.val rfl rfl (Gd.g0 rfl) (Yd.move rfl) ?_
      first | refine SL.nil_then ?_ | refine SL.nil ?_
      refine EX.round (k + 1) (by omega) (by omega) (Sub.cons rfl rfl (Sub.cons rfl rfl (Sub.cons rfl rfl (Sub.cons rfl (by rw [hMs, hg86, decide_eq_false hg93]; rfl) (Sub.cons rfl rfl (Sub.cons rfl rfl (Sub.cons rfl rfl Sub.nil))))))) (fun w2 h => h.pick [1, 2] rfl rfl)
  refine CW.exit ?_
  repeat (first | refine EX.then_exit ?_ | refine EX.in_exit rfl ?_ | refine EX.in_exit_ne rfl ?_)
  first | refine EX.then_normal ?_ | skip
  obtain rfl : k = ts.length := by omega
  repeat (refine CW.seq ?_)
  refine CW.region ?_
  refine SL.val rfl rfl (Gd.g0 rfl) ((by first | exact Yd.loadR (i := 0) rfl ag_44 rfl rfl | exact Yd.loadR (i := 1) rfl ag_44 rfl rfl | exact Yd.loadR (i := 2) rfl ag_44 rfl rfl | exact Yd.loadR (i := 3) rfl ag_44 rfl rfl | exact Yd.loadR (i := 4) rfl ag_44 rfl rfl | exact Yd.loadR (i := 5) rfl ag_44 rfl rfl)) ?_
  refine SL.val rfl rfl (Gd.g0 rfl) (Yd.move rfl) ?_
  refine SL.val rfl rfl (Gd.g0 rfl) (Yd.move rfl) ?_
  refine SL.ef0 rfl (Gd.g0 rfl) (Ef0.storeA (i := 0) rfl rfl (pR_one _ _) ag_44 (pR_len _ _) rfl (by rw [pR_len]; simp)) ?_
  try dsimp only [setR]
  rw [setRow2_all (by rw [pR_len]; rfl)]
  refine SL.val rfl rfl (Gd.g0 rfl) (Yd.assign rfl) ?_
  refine SL.val rfl rfl (Gd.g0 rfl) (Yd.assign rfl) ?_
  first | refine SL.nil_then ?_ | refine SL.nil ?_
  refine CW.ret ?_
  repeat (first | refine EX.then_ret ?_ | refine EX.in_ret ?_)
  refine EX.out (rs := _) rfl (ResA.cell rfl (fun w hw => run_loadA ag_44 (pR_len _ _) (fun j v hj => by rw [Nat.zero_add]; exact Wd.cell (i := 0) rfl hj w hw)) (ResA.tmp rfl (ResA.tmp rfl ResA.nil))) (fun w2 hw => ?_) (Or.inl rfl)
  exact ⟨rfl, hw.drop.below⟩
end Go.Proofs.Ytokljoajalmkfaa
