/- The program's clock, constant, Reset (of a clock of the zone). -/
import Derived.Test.YtkgaipcgdldfdaaFree
import Derived.Deep.RegionHeld3
import Derived.Laws.EntriesVeiled
namespace Go.Proofs.Ytkgaipcgdldfdaa
open Go.RowKit
set_option linter.unusedVariables false

def clkB (n i : Int) : Bool := decide (1 ≤ i ∧ i ≤ n)
def conB (c : Int) : Bool := decide (0 ≤ c ∧ c ≤ 1048576)
theorem prog_clock (n i : Int) (zv : Value) (w : World) : Calls Try.prog 105 #[.agg #[.int .i64 n, zv], .int .i64 i] w fun e w' => e = .returned (.bool (clkB n i)) ∧ Below w.heap.size w w' := by
  by_cases h : 1 ≤ i
  · have h1 : decide (1 ≤ i) = true := by simpa using h
    have h2 : clkB n i = decide (i ≤ n) := by rw [clkB]; simp [h]
    rw [h2]
    have hb := Lib.hid (bdn ((Below.refl w.heap.size w).alloc (Nat.le_refl _) (.cells #[.int .i64 n, zv] 24)) 1)
    go_enter Try.func105, Try.ntmps105
    go_wp2_with fail
    go_ret
    exact ⟨rfl, (Below.refl w.heap.size w).alloc (Nat.le_refl _) _⟩
  · have h1 : decide (1 ≤ i) = false := by simpa using h
    have h2 : clkB n i = false := by rw [clkB]; simp [h]
    rw [h2]
    go_enter Try.func105, Try.ntmps105
    go_wp2_with fail
    go_ret
    exact ⟨rfl, (Below.refl w.heap.size w).alloc (Nat.le_refl _) _⟩
theorem prog_zcon (c : Int) (w : World) : Calls Try.prog 106 #[.int .i64 c] w fun e w' => e = .returned (.bool (conB c)) ∧ w' = w := by
  by_cases h : 0 ≤ c
  · have h1 : decide (0 ≤ c) = true := by simpa using h
    have h2 : conB c = decide (c ≤ 1048576) := by rw [conB]; simp [h]
    rw [h2]
    go_enter Try.func106, Try.ntmps106
    go_wp2_with fail
    go_ret
    exact ⟨rfl, rfl⟩
  · have h1 : decide (0 ≤ c) = false := by simpa using h
    have h2 : conB c = false := by rw [conB]; simp [h]
    rw [h2]
    go_enter Try.func106, Try.ntmps106
    go_wp2_with fail
    go_ret
    exact ⟨rfl, rfl⟩

set_option maxRecDepth 100000 in
set_option maxHeartbeats 2000000 in
theorem prog_reset_change (N base i pb qb : Nat) (c : Int) (rv av : Value) (xs : List Int) (w : World) (hm : Mat base w N rv av xs) (hbase : base ≤ w.heap.size)
    (hN : N ≤ 10) (hx : xs.length = (N + 1) * (N + 1)) (hi : i ≤ N) (hc0 : 0 ≤ c) (hc1 : c ≤ 1048576) (hpb : pb < base) (hqb : qb < base) (hp : w.cell? ⟨pb, 0, none⟩ = some (.int .i64 i)) (hq : w.cell? ⟨qb, 0, none⟩ = some (.int .i64 c)) :
    Calls Try.prog 107 #[rv, .pointer (some ⟨pb, 0, none⟩), .pointer (some ⟨qb, 0, none⟩)] w fun e w' => e = .returned (.tuple #[]) ∧ Mat base w' N rv av (setB N (freeB N xs i) i c) ∧ w.grownBy w' av.ownBlock := by
  have Hm := Lib.hid hm
  have Hx := Lib.hid hx
  obtain ⟨ga, gr, capr, capa, rfl, rfl, hne, hgr, hga, hbg, hown, hrows⟩ := hm.open hx
  clear hm hrows hown hx
  generalize hL : xs.length = L at *
  have HL := Lib.hid hL
  clear hL
  go_enter Try.func107, Try.ntmps107
  go_wp2_with fail
  refine (prog_free N base i _ _ xs w Hm.out hbase hN (HL.out.trans Hx.out) hi).mono ?_
  rintro e w1 ⟨rfl, hm1, hg1⟩
  have hg1' : w.grownBy w1 (some ga) := hg1
  have p1 : w1.cell? ⟨pb, 0, none⟩ = some (.int .i64 i) := ((gcell hg1').1 _ _ (by omega) (by omega)).trans hp
  have q1 : w1.cell? ⟨qb, 0, none⟩ = some (.int .i64 c) := ((gcell hg1').1 _ _ (by omega) (by omega)).trans hq
  have hb1 : base ≤ w1.heap.size := Nat.le_trans hbase hg1'.size
  clear hp hq hg1
  go_wp2_with fail
  refine (prog_set N base i c _ _ (freeB N xs i) w1 hm1 hb1 hN ((freeB_len N xs i).trans (HL.out.trans Hx.out)) hi hc0 hc1).mono ?_
  rintro e w2 ⟨rfl, hm2, hg2⟩
  have hg2' : w1.grownBy w2 (some ga) := hg2
  clear hg2
  go_wp2_with fail
  go_end0
  exact ⟨rfl, hm2, grownBy_trans hg1' hg2'⟩

theorem Loc.four (w : World) (a b c d : Obj) (row : Option Nat) : Loc w ((((w.alloc a).alloc b).alloc c).alloc d) row [a, b, c, d] :=
  ⟨grownBy_trans (Loc.three w a b c row).grown (World.grownBy_alloc _ _ _), fun i hi => by
    by_cases h : i < 3
    · rw [Below.heap_alloc _ _ _ (by simp; omega), (Loc.three w a b c row).objs i h]
      match i, h with
      | 0, _ => rfl
      | 1, _ => rfl
      | 2, _ => rfl
    · have : i = 3 := by simp at hi; omega
      subst this
      have := heap_alloc_new (((w.alloc a).alloc b).alloc c) d
      rw [show (((w.alloc a).alloc b).alloc c).heap.size = w.heap.size + 3 by simp] at this
      exact this, by simp⟩
theorem setB_vld {N : Nat} {xs : List Int} (i : Nat) (c : Int) (h : xs.all vld = true) (hx : xs.length = (N + 1) * (N + 1)) (hi : i ≤ N) (h0 : 0 ≤ c) (h1 : c ≤ 1048576) : (setB N xs i c).all vld = true := by
  have e1 : vld (2 * c + 1) = true := by simp [vld]; omega
  have e2 : vld (1 - 2 * c) = true := by simp [vld]; omega
  have k1 : i * (N + 1) < xs.length := by have := idx_lt N i 0 hi (by omega); omega
  have k2 : i < xs.length := by have := idx_lt N 0 i (by omega) hi; omega
  have s1 := set_all_vld h (i * (N + 1)) (imin_vld (all_gi h k1) e1)
  exact set_all_vld s1 _ (imin_vld (all_gi s1 (by rw [List.length_set]; exact k2)) e2)
/-- What Reset returns. -/
noncomputable def resetF (n : Int) (xs : List Int) (i c : Int) : Int × List Int := chgF n xs (clkB n i && conB c) (setB n.toNat (freeB n.toNat xs i.toNat) i.toNat c)
theorem enters_reset : Enters Try.prog 107 := enters_of Try.func107 (by kernel_rfl) rfl

set_option maxRecDepth 100000 in
set_option maxHeartbeats 4000000 in
theorem prog_reset_in (n i c : Int) (zv : Value) (xs : List Int) (w : World) (hz : RL w.heap.size w zv xs) (hi : clkB n i = true) :
    Calls Try.prog 46 #[.agg #[.int .i64 n, zv], .int .i64 i, .int .i64 c] w fun e w' => ZPost 60 w.heap.size n (resetF n xs i c) e w' ∧ Below w.heap.size w w' := by
  obtain ⟨aoz, capz, rfl, hlez, _⟩ := hz.open
  have hloc : Loc w ((((w.alloc (.cells #[.int .i64 n, .slice aoz xs.length capz] 24)).alloc (.cells #[.int .i64 i] 3)).alloc (.cells #[.int .i64 c] 2)).alloc (.cells #[.int .i64 0, .slice none 0 0] 24)) none [.cells #[.int .i64 n, .slice aoz xs.length capz] 24, .cells #[.int .i64 i] 3, .cells #[.int .i64 c] 2, .cells #[.int .i64 0, .slice none 0 0] 24] := Loc.four w _ _ _ _ _
  have Hz := Lib.hid hz
  clear hz
  have key : ∀ wr : World, Below w.heap.size w wr → w.heap.size + 3 ≤ wr.heap.size → wr.cell? ⟨w.heap.size + 1, 0, none⟩ = some (.int .i64 i) → wr.cell? ⟨w.heap.size + 2, 0, none⟩ = some (.int .i64 c) → Calls Try.prog 100 #[.agg #[.int .i64 n, .slice aoz xs.length capz], .bool (conB c), .func (.func 107) #[] #[.pointer (some ⟨w.heap.size + 1, 0, none⟩), .pointer (some ⟨w.heap.size + 2, 0, none⟩)]] wr fun e w' => ZPost 60 wr.heap.size n (resetF n xs i c) e w' ∧ Below wr.heap.size wr w' := by
    intro wr hbe hse hc1 hc2
    have Hz1 : RL wr.heap.size wr (.slice aoz xs.length capz) xs := Hz.out.keepb hbe
    unfold resetF
    rw [hi, Bool.true_and]
    by_cases hok : OkZ n xs ∧ conB c = true
    · obtain ⟨N, rfl⟩ := Int.eq_ofNat_of_zero_le hok.1.lo
      have hN : N ≤ 10 := by have := hok.1.hi; omega
      have hlen : xs.length = (N + 1) * (N + 1) := by have := hok.1.len; rwa [Int.toNat_natCast] at this
      have hvx := (dimF_nat hok.1.dim).2.2
      have h3 : 1 ≤ i ∧ i ≤ N := by simpa [clkB] using hi
      obtain ⟨i', rfl⟩ := Int.eq_ofNat_of_zero_le (show 0 ≤ i by omega)
      have h4 : 0 ≤ c ∧ c ≤ 1048576 := by simpa [conB] using hok.2
      rw [Int.toNat_natCast, Int.toNat_natCast, hok.2]
      refine prog_changed_ok N _ xs _ _ _ wr Hz1 hok.1 enters_reset (fun base rv av w' hb hb1 hb2 hm => ?_) (by rw [setB_len, freeB_len]) (setB_vld i' c (freeB_vld i' hvx hlen) (by rw [freeB_len, hlen]) (by omega) h4.1 h4.2)
      exact prog_reset_change N base i' (w.heap.size + 1) (w.heap.size + 2) c rv av xs w' hm hb2 hN hlen (by omega) h4.1 h4.2 (by omega) (by omega) (keepb hc1 hb) (keepb hc2 hb)
    · exact prog_changed_bad n _ _ xs _ _ wr Hz1 hok
  have Key := Lib.hid key
  clear key
  have c00 := hloc.cell 0 rfl 0
  have c01 := hloc.cell 0 rfl 1
  have c10 := hloc.cell 1 rfl 0
  have c20 := hloc.cell 2 rfl 0
  go_enter Try.func46, Try.ntmps46
  go_wp2_with fail
  have c20' := show World.cell? _ ⟨w.heap.size + 1 + 1, 0, none⟩ = _ from c20
  clear c20
  have Hi := Lib.hid hi
  generalize World.alloc _ (Obj.cells #[.int .i64 0, .slice none 0 0] 24) = W at *
  have Hloc := Lib.hid hloc
  have HW := Lib.hid (show w.heap.size + 4 ≤ W.heap.size from hloc.size)
  clear hloc hi
  have n0 : ¬ (w.heap.size = w.heap.size + 1 + 1 + 1) := by omega
  have n1 : ¬ (w.heap.size + 1 = w.heap.size + 1 + 1 + 1) := by omega
  have n2 : ¬ (w.heap.size + 1 + 1 + 1 = w.heap.size) := by omega
  have n3 : ¬ (w.heap.size + 1 + 1 + 1 = w.heap.size + 1) := by omega
  have n4 : ¬ (w.heap.size = w.heap.size + 1 + 1) := by omega
  have n5 : ¬ (w.heap.size + 1 + 1 = w.heap.size) := by omega
  generalize hR : resetF n xs i c = R at *
  have HR := Lib.hid hR
  clear hR
  go_region_held3 (fun w' => w'.cell? ⟨w.heap.size, 0, none⟩ = some (.int .i64 n) ∧ w'.cell? ⟨w.heap.size, 1, none⟩ = some (.slice aoz xs.length capz) ∧ w'.cell? ⟨w.heap.size + 1, 0, none⟩ = some (.int .i64 i) ∧ w'.cell? ⟨w.heap.size + 1 + 1, 0, none⟩ = some (.int .i64 c))
    (first | exact ⟨by assumption, by assumption, by assumption, by assumption⟩ | go_keep)
    (first
      | (go_at_call 105; refine (prog_clock n i _ _).mono ?_; rw [Hi.out]; rintro e w8 ⟨rfl, hb8⟩; have hloc8 := Hloc.out.next (grownBy_trans (grownBy_drew W none) (grownBy_below hb8 none)) (fun _ h => by cases h); have q0 : w8.cell? ⟨w.heap.size, 0, none⟩ = some (.int .i64 n) := hloc8.cell 0 rfl 0; have q1 : w8.cell? ⟨w.heap.size, 1, none⟩ = some (.slice aoz xs.length capz) := hloc8.cell 0 rfl 1; have q2 : w8.cell? ⟨w.heap.size + 1, 0, none⟩ = some (.int .i64 i) := hloc8.cell 1 rfl 0; have q3 : w8.cell? ⟨w.heap.size + 1 + 1, 0, none⟩ = some (.int .i64 c) := hloc8.cell 2 rfl 0)
      | (go_at_call 106; refine (prog_zcon c _).mono ?_; rintro e w9 ⟨rfl, rfl⟩)
      | (go_at_call 100; refine (Key.out _ (below_grownBy hloc8.grown) (by have := hloc8.size; simp at this; omega) q2 q3).mono ?_; rintro e w5 ⟨⟨v5, rfl, ho5⟩, hb5⟩; obtain ⟨ao5, cap5, rfl⟩ := owns_form ho5; have hloc5 := hloc8.next (grownBy_below hb5 none) (fun _ h => by cases h); have p0 : w5.cell? ⟨w.heap.size, 0, none⟩ = some (.int .i64 n) := hloc5.cell 0 rfl 0; have p1 : w5.cell? ⟨w.heap.size, 1, none⟩ = some (.slice aoz xs.length capz) := hloc5.cell 0 rfl 1; have p2 : w5.cell? ⟨w.heap.size + 1, 0, none⟩ = some (.int .i64 i) := hloc5.cell 1 rfl 0; have p3 : w5.cell? ⟨w.heap.size + 1 + 1, 0, none⟩ = some (.int .i64 c) := hloc5.cell 2 rfl 0; have r0 : w5.cell? ⟨w.heap.size + 1 + 1 + 1, 0, none⟩ = some (.int .i64 0) := hloc5.cell 3 rfl 0; have r1 : w5.cell? ⟨w.heap.size + 1 + 1 + 1, 1, none⟩ = some (.slice none 0 0) := hloc5.cell 3 rfl 1; have r2 : w5.frozen? ⟨w.heap.size + 1 + 1 + 1, 0, none⟩ = false := hloc5.free 3 rfl 0; have r3 : w5.frozen? ⟨w.heap.size + 1 + 1 + 1, 1, none⟩ = false := hloc5.free 3 rfl 1))
  all_goals
    go_wp2_with fail
    have Ho5 := Lib.hid (show OL 60 (w.heap.size + 4) w5 (.slice ao5 R.2.length cap5) R.2 from OL.mono ho5 (by have := hloc8.size; simp at this; omega))
    have HB5 := Lib.hid (below_grownBy hloc5.grown)
    refine bodyPost_ret (v := .tuple #[.agg #[.int .i64 (zdim R n), .slice ao5 R.2.length cap5], .int .i64 R.1]) (by simp [results, Try.results46, go_sem, r0, r1]) rfl ⟨⟨_, by rw [HR.out], ?_⟩, ?_⟩
    · rw [HR.out]; exact OL.mono (base := w.heap.size + 4) (own_set2 Ho5.out (by omega) _ _) (by omega)
    · exact (HB5.out.setCell (by simp; omega) _).setCell (by simp; omega) _
end Go.Proofs.Ytkgaipcgdldfdaa
