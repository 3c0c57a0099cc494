/- The program's Down and Free. -/
import Derived.Test.YtkgaipcgdldfdaaRst
namespace Go.Proofs.Ytkgaipcgdldfdaa
open Go.RowKit
set_option linter.unusedVariables false

/-- The first q elements of the first row become 1. -/
def downTo (N : Nat) (xs : List Int) : Nat → List Int
  | 0 => xs
  | q + 1 => (downTo N xs q).set q 1
theorem downTo_len (N : Nat) (xs : List Int) (q : Nat) : (downTo N xs q).length = xs.length := by
  induction q with
  | zero => rfl
  | succ q ih => rw [downTo, List.length_set, ih]
theorem downTo_vld {N : Nat} {xs : List Int} (h : xs.all vld = true) (q : Nat) : (downTo N xs q).all vld = true := by
  induction q with
  | zero => exact h
  | succ q ih => rw [downTo]; exact set_all_vld ih _ (by decide)

set_option maxRecDepth 100000 in
set_option maxHeartbeats 2000000 in
theorem prog_down_change (N base : Nat) (rv av : Value) (xs : List Int) (w : World) (hm : Mat base w N rv av xs) (hbase : base ≤ w.heap.size)
    (hN : N ≤ 10) (hx : xs.length = (N + 1) * (N + 1)) :
    Calls Try.prog 104 #[rv] w fun e w' => e = .returned (.tuple #[]) ∧ Mat base w' N rv av (downTo N xs (N + 1)) ∧ w.grownBy w' av.ownBlock := by
  obtain ⟨ga, gr, capr, capa, rfl, rfl, hne, hgr, hga, hbg, hown, hrows⟩ := hm.open hx
  have Hx := Lib.hid hx
  have Hrows := Lib.hid hrows
  have Hm := Lib.hid hm
  have r0 := hrows 0 (by omega)
  simp only [Nat.zero_mul] at r0
  clear hx hrows hm
  generalize hL : xs.length = L at *
  have HL := Lib.hid hL
  clear hL
  go_enter Try.func104, Try.ntmps104
  go_wp2_with fail
  clear r0
  go_loopw [2, 7] (fun i2 i wr => ∃ q : Nat, q ≤ N + 1 ∧ i = .int .i64 q ∧ OL 60 base wr (.slice (some ⟨ga, 0, none⟩) L capa) (downTo N xs q) ∧ w.grownBy wr (some ga)) (fun _ i _ => N + 1 - (intOf i).toNat)
  case atStart => exact ⟨0, by omega, rfl, hown, grownBy_below (Below.refl _ _) _⟩
  case round =>
    clear hown
    obtain ⟨q, hq, rfl, hown, hgw⟩ := hrel
    have hlA := Lib.hid ((downTo_len N xs q).trans HL.out)
    by_cases hlt : q < N + 1
    · have gI := ((gcell hgw).1 gr 0 hgr hne).trans (Hrows.out 0 (by omega))
      simp only [Nat.zero_mul] at gI
      have y4 : (q : Int) < (N : Int) + 1 := by omega
      have xa := ol_cell hown (k := q) (by rw [hlA.out, Hx.out]; have := idx_lt N 0 q (by omega) (by omega); omega)
      have x0 := xa.1
      have xf := xa.2
      have Hst := Lib.hid (show downTo N xs (q + 1) = (downTo N xs q).set q 1 from rfl)
      have Hg := Lib.hid hgw
      have Hown := Lib.hid hown
      clear hgw hown xa
      generalize hA : downTo N xs q = M at *
      clear hA
      go_wp2_with fail
      have hsd := OL.stored Hown.out hlA.out.symm q 1
      go_roundw
      case rel => exact ⟨q + 1, by omega, by go_num, by rw [Hst.out]; exact hsd.1, grownBy_trans Hg.out hsd.2⟩
      case measure => simp [intOf]; omega
    · have hd2 : decide ((q : Int) < (N : Int) + 1) = false := by simp; omega
      obtain rfl : q = N + 1 := by omega
      go_wp2_with fail
      go_end0
      refine ⟨rfl, ?_, hgw⟩
      obtain ⟨g', e1, e2, e3, e4⟩ := Hm.out
      simp only [Value.ownBlock, Option.some.injEq] at e1
      subst e1
      exact ⟨ga, rfl, hown, World.ownsRow.kept e3 hgw (.inr e4), e4⟩

/-- What Down returns. -/
noncomputable def downF (n : Int) (xs : List Int) : Int × List Int := chgF n xs true (downTo n.toNat xs (n.toNat + 1))
theorem enters_down : Enters Try.prog 104 := enters_of Try.func104 (by kernel_rfl) rfl

set_option maxRecDepth 100000 in
set_option maxHeartbeats 2000000 in
theorem prog_down (n : Int) (zv : Value) (xs : List Int) (w : World) (hz : RL w.heap.size w zv xs) :
    Calls Try.prog 44 #[.agg #[.int .i64 n, zv]] w fun e w' => ZPost 60 w.heap.size n (downF n xs) e w' ∧ Below w.heap.size w w' := by
  obtain ⟨aoz, capz, rfl, hlez, _⟩ := hz.open
  have hloc := Loc.two w (.cells #[.int .i64 n, .slice aoz xs.length capz] 24) (.cells #[.int .i64 0, .slice none 0 0] 24) none
  have Hz := Lib.hid hz
  clear hz
  have key : ∀ wr : World, Below w.heap.size w wr → w.heap.size ≤ wr.heap.size → Calls Try.prog 100 #[.agg #[.int .i64 n, .slice aoz xs.length capz], .bool true, .func (.func 104) #[] #[]] wr fun e w' => ZPost 60 wr.heap.size n (downF n xs) e w' ∧ Below wr.heap.size wr w' := by
    intro wr hbe hse
    have Hz1 : RL wr.heap.size wr (.slice aoz xs.length capz) xs := Hz.out.keepb hbe
    by_cases hok : OkZ n xs
    · obtain ⟨N, rfl⟩ := Int.eq_ofNat_of_zero_le hok.lo
      have hN : N ≤ 10 := by have := hok.hi; omega
      have hlen : xs.length = (N + 1) * (N + 1) := by have := hok.len; rwa [Int.toNat_natCast] at this
      have hvx := (dimF_nat hok.dim).2.2
      show Calls _ _ _ _ fun e w' => ZPost _ _ _ (chgF (N : Int) xs true (downTo (N : Int).toNat xs ((N : Int).toNat + 1))) e w' ∧ _
      rw [Int.toNat_natCast]
      exact prog_changed_ok N _ xs _ _ #[] wr Hz1 hok enters_down (fun base rv av w' hb hb1 hb2 hm => prog_down_change N base rv av xs w' hm hb2 hN hlen) (downTo_len N xs _) (downTo_vld hvx _)
    · exact prog_changed_bad n _ _ xs _ _ wr Hz1 (fun e => hok e.1)
  go_enter Try.func44, Try.ntmps44
  go_wp2_with fail
  refine (key _ (below_grownBy hloc.grown) (by simp; omega)).mono ?_
  generalize hR : downF n xs = R
  have HR := Lib.hid hR
  clear hR key
  rintro e w5 ⟨⟨v5, rfl, ho5⟩, hb5⟩
  obtain ⟨ao5, cap5, rfl⟩ := owns_form ho5
  have hloc5 := hloc.next (grownBy_below hb5 none) (fun _ h => by cases h)
  have r0 : w5.cell? ⟨w.heap.size + 1, 0, none⟩ = some (.int .i64 0) := hloc5.cell 1 rfl 0
  have r1 : w5.cell? ⟨w.heap.size + 1, 1, none⟩ = some (.slice none 0 0) := hloc5.cell 1 rfl 1
  have r2 : w5.frozen? ⟨w.heap.size + 1, 0, none⟩ = false := hloc5.free 1 rfl 0
  have r3 : w5.frozen? ⟨w.heap.size + 1, 1, none⟩ = false := hloc5.free 1 rfl 1
  have Ho5 := Lib.hid (show OL 60 (w.heap.size + 2) w5 (.slice ao5 R.2.length cap5) R.2 from OL.mono ho5 (by simp))
  have HB5 := Lib.hid (below_grownBy hloc5.grown)
  clear ho5 hb5 hloc hloc5
  go_wp2_with fail
  refine bodyPost_ret (v := .tuple #[.agg #[.int .i64 (zdim R n), .slice ao5 R.2.length cap5], .int .i64 R.1]) (by simp [results, Try.results44, go_sem, r0, r1]) rfl ⟨⟨_, by rw [HR.out], ?_⟩, ?_⟩
  · rw [HR.out]; exact OL.mono (base := w.heap.size + 2) (own_set2 Ho5.out (by omega) _ _) (by omega)
  · exact (HB5.out.setCell (by simp) _).setCell (by simp) _

set_option maxRecDepth 100000 in
set_option maxHeartbeats 2000000 in
theorem prog_free_change (N base i pb : Nat) (rv av : Value) (xs : List Int) (w : World) (hm : Mat base w N rv av xs) (hbase : base ≤ w.heap.size)
    (hN : N ≤ 10) (hx : xs.length = (N + 1) * (N + 1)) (hi : i ≤ N) (hpb : pb < base) (hp : w.cell? ⟨pb, 0, none⟩ = some (.int .i64 i)) :
    Calls Try.prog 112 #[rv, .pointer (some ⟨pb, 0, none⟩)] w fun e w' => e = .returned (.tuple #[]) ∧ Mat base w' N rv av (freeB N xs i) ∧ w.grownBy w' av.ownBlock := by
  have Hm := Lib.hid hm
  have Hx := Lib.hid hx
  obtain ⟨ga, gr, capr, capa, rfl, rfl, hne, hgr, hga, hbg, hown, hrows⟩ := hm.open hx
  clear hm hrows hown hx
  generalize hL : xs.length = L at *
  have HL := Lib.hid hL
  clear hL
  go_enter Try.func112, Try.ntmps112
  go_wp2_with fail
  refine (prog_free N base i _ _ xs w Hm.out hbase hN (HL.out.trans Hx.out) hi).mono ?_
  rintro e w1 ⟨rfl, hm1, hg1⟩
  go_wp2_with fail
  go_end0
  exact ⟨rfl, hm1, hg1⟩
/-- What Free returns. -/
noncomputable def freeF (n : Int) (xs : List Int) (i : Int) : Int × List Int := chgF n xs (clkB n i) (freeB n.toNat xs i.toNat)
theorem enters_free : Enters Try.prog 112 := enters_of Try.func112 (by kernel_rfl) rfl

set_option maxRecDepth 100000 in
set_option maxHeartbeats 4000000 in
theorem prog_zfree (n i : Int) (zv : Value) (xs : List Int) (w : World) (hz : RL w.heap.size w zv xs) :
    Calls Try.prog 48 #[.agg #[.int .i64 n, zv], .int .i64 i] w fun e w' => ZPost 60 w.heap.size n (freeF n xs i) e w' ∧ Below w.heap.size w w' := by
  obtain ⟨aoz, capz, rfl, hlez, _⟩ := hz.open
  have hloc : Loc w (((w.alloc (.cells #[.int .i64 n, .slice aoz xs.length capz] 24)).alloc (.cells #[.int .i64 i] 3)).alloc (.cells #[.int .i64 0, .slice none 0 0] 24)) none [.cells #[.int .i64 n, .slice aoz xs.length capz] 24, .cells #[.int .i64 i] 3, .cells #[.int .i64 0, .slice none 0 0] 24] := Loc.three w _ _ _ _
  have Hz := Lib.hid hz
  clear hz
  have key : ∀ wr : World, Below w.heap.size w wr → w.heap.size + 2 ≤ wr.heap.size → wr.cell? ⟨w.heap.size + 1, 0, none⟩ = some (.int .i64 i) → Calls Try.prog 100 #[.agg #[.int .i64 n, .slice aoz xs.length capz], .bool (clkB n i), .func (.func 112) #[] #[.pointer (some ⟨w.heap.size + 1, 0, none⟩)]] wr fun e w' => ZPost 60 wr.heap.size n (freeF n xs i) e w' ∧ Below wr.heap.size wr w' := by
    intro wr hbe hse hc1
    have Hz1 : RL wr.heap.size wr (.slice aoz xs.length capz) xs := Hz.out.keepb hbe
    unfold freeF
    by_cases hok : OkZ n xs ∧ clkB n i = true
    · obtain ⟨N, rfl⟩ := Int.eq_ofNat_of_zero_le hok.1.lo
      have hN : N ≤ 10 := by have := hok.1.hi; omega
      have hlen : xs.length = (N + 1) * (N + 1) := by have := hok.1.len; rwa [Int.toNat_natCast] at this
      have hvx := (dimF_nat hok.1.dim).2.2
      have h3 : 1 ≤ i ∧ i ≤ N := by have := hok.2; simpa [clkB] using this
      obtain ⟨i', rfl⟩ := Int.eq_ofNat_of_zero_le (show 0 ≤ i by omega)
      rw [Int.toNat_natCast, Int.toNat_natCast, hok.2]
      refine prog_changed_ok N _ xs _ _ _ wr Hz1 hok.1 enters_free (fun base rv av w' hb hb1 hb2 hm => ?_) (freeB_len _ _ _) (freeB_vld i' hvx hlen)
      exact prog_free_change N base i' (w.heap.size + 1) rv av xs w' hm hb2 hN hlen (by omega) (by omega) (keepb hc1 hb)
    · exact prog_changed_bad n _ _ xs _ _ wr Hz1 hok
  have Key := Lib.hid key
  clear key
  have c00 := hloc.cell 0 rfl 0
  have c01 := hloc.cell 0 rfl 1
  have c10 := hloc.cell 1 rfl 0
  go_enter Try.func48, Try.ntmps48
  go_wp2_with fail
  generalize World.alloc _ (Obj.cells #[.int .i64 0, .slice none 0 0] 24) = W at *
  have Hloc := Lib.hid hloc
  clear hloc
  have n0 : ¬ (w.heap.size = w.heap.size + 1 + 1) := by omega
  have n2 : ¬ (w.heap.size + 1 + 1 = w.heap.size) := by omega
  generalize hR : freeF n xs i = R at *
  have HR := Lib.hid hR
  clear hR
  go_region_held3 (fun w' => w'.cell? ⟨w.heap.size, 0, none⟩ = some (.int .i64 n) ∧ w'.cell? ⟨w.heap.size, 1, none⟩ = some (.slice aoz xs.length capz) ∧ w'.cell? ⟨w.heap.size + 1, 0, none⟩ = some (.int .i64 i))
    (first | exact ⟨by assumption, by assumption, by assumption⟩ | go_keep)
    (first
      | (go_at_call 105; refine (prog_clock n i _ _).mono ?_; rintro e w8 ⟨rfl, hb8⟩; have hloc8 := Hloc.out.next (grownBy_trans (grownBy_drew W none) (grownBy_below hb8 none)) (fun _ h => by cases h); have q0 : w8.cell? ⟨w.heap.size, 0, none⟩ = some (.int .i64 n) := hloc8.cell 0 rfl 0; have q1 : w8.cell? ⟨w.heap.size, 1, none⟩ = some (.slice aoz xs.length capz) := hloc8.cell 0 rfl 1; have q2 : w8.cell? ⟨w.heap.size + 1, 0, none⟩ = some (.int .i64 i) := hloc8.cell 1 rfl 0)
      | (go_at_call 100; refine (Key.out _ (below_grownBy hloc8.grown) (by have := hloc8.size; simp at this; omega) q2).mono ?_; rintro e w5 ⟨⟨v5, rfl, ho5⟩, hb5⟩; obtain ⟨ao5, cap5, rfl⟩ := owns_form ho5; have hloc5 := hloc8.next (grownBy_below hb5 none) (fun _ h => by cases h); have p0 : w5.cell? ⟨w.heap.size, 0, none⟩ = some (.int .i64 n) := hloc5.cell 0 rfl 0; have p1 : w5.cell? ⟨w.heap.size, 1, none⟩ = some (.slice aoz xs.length capz) := hloc5.cell 0 rfl 1; have p2 : w5.cell? ⟨w.heap.size + 1, 0, none⟩ = some (.int .i64 i) := hloc5.cell 1 rfl 0; have r0 : w5.cell? ⟨w.heap.size + 1 + 1, 0, none⟩ = some (.int .i64 0) := hloc5.cell 2 rfl 0; have r1 : w5.cell? ⟨w.heap.size + 1 + 1, 1, none⟩ = some (.slice none 0 0) := hloc5.cell 2 rfl 1; have r2 : w5.frozen? ⟨w.heap.size + 1 + 1, 0, none⟩ = false := hloc5.free 2 rfl 0; have r3 : w5.frozen? ⟨w.heap.size + 1 + 1, 1, none⟩ = false := hloc5.free 2 rfl 1))
  all_goals
    go_wp2_with fail
    have Ho5 := Lib.hid (show OL 60 (w.heap.size + 3) w5 (.slice ao5 R.2.length cap5) R.2 from OL.mono ho5 (by have := hloc8.size; simp at this; omega))
    have HB5 := Lib.hid (below_grownBy hloc5.grown)
    refine bodyPost_ret (v := .tuple #[.agg #[.int .i64 (zdim R n), .slice ao5 R.2.length cap5], .int .i64 R.1]) (by simp [results, Try.results48, go_sem, r0, r1]) rfl ⟨⟨_, by rw [HR.out], ?_⟩, ?_⟩
    · rw [HR.out]; exact OL.mono (base := w.heap.size + 3) (own_set2 Ho5.out (by omega) _ _) (by omega)
    · exact (HB5.out.setCell (by simp; omega) _).setCell (by simp; omega) _
end Go.Proofs.Ytkgaipcgdldfdaa
