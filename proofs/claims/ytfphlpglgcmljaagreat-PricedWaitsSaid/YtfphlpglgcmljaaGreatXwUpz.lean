/- Part of the proof of priced_waits_proved: Rst, Upz. -/
import Derived.Deep.RegionHeld3
import Derived.Laws.EntriesVeiled
import Derived.Laws.CopyOwn
import Derived.Deep.OwnRows
import Derived.Shelf.Bits.Mul64
import Derived.Deep.RegionLaw
import Derived.Test.YtfphlpglgcmljaaGreatXwPand2
import Derived.Test.YtfphlpglgcmljaaGreatXwZref
import Derived.Test.YtfphlpglgcmljaaGreatXwZof
import Derived.Test.YtfphlpglgcmljaaGreatXwZzone
import Derived.Test.YtfphlpglgcmljaaGreatXwRand
import Derived.Test.YtfphlpglgcmljaaGreatXwClx
namespace Go.Proofs.YtfphlpglgcmljaaGreat
open Go.RowKit
set_option linter.unusedVariables false
def upTo (N : Nat) (xs : List Int) : Nat → List Int
 | 0 => xs
 | q + 1 => (upTo N xs q).set ((q + 1) * (N + 1)) 1099511627776
theorem upTo_len (N : Nat) (xs : List Int) (q : Nat) : (upTo N xs q).length = xs.length := by
 induction q with
 | zero => rfl
 | succ q ih => rw [upTo, List.length_set, ih]
theorem set_all_vld {xs : List Int} (h : xs.all vld = true) (k : Nat) {l : Int} (hl : vld l = true) : (xs.set k l).all vld = true := by
 rw [List.all_eq_true] at h ⊢
 intro x hm
 rcases List.mem_or_eq_of_mem_set hm with h' | h'
 ·exact h x h'
 ·rw [h']; exact hl
theorem upTo_vld {N : Nat} {xs : List Int} (h : xs.all vld = true) (q : Nat) : (upTo N xs q).all vld = true := by
 induction q with
 | zero => exact h
 | succ q ih => rw [upTo]; exact set_all_vld ih _ (by decide)
theorem Mat.cap {base N gr capr : Nat} {w : World} {av : Value} {xs : List Int} (h : Mat base w N (.slice (some ⟨gr, 0, none⟩) (N + 1) capr) av xs) : N + 1 ≤ capr := by
 obtain ⟨ga, h1, h2, h3, h4⟩ := h
 rcases h3.2 with ⟨h5, h0⟩ | ⟨gr2, capr2, cur, h5, hb, hg, hnc, hcm, hcs, ht⟩
 ·omega
 ·injection h5 with _ _ h6
  subst h6
  exact hnc
set_option maxRecDepth 100000 in
set_option maxHeartbeats 2000000 in
theorem prog_up_change (N base : Nat) (rv av : Value) (xs : List Int) (w : World) (hm : Mat base w N rv av xs) (hbase : base ≤ w.heap.size)
  (hN : N ≤ 10) (hx : xs.length = (N + 1) * (N + 1)) :
  Calls Tryz.prog 121 #[rv] w fun e w' => e = .returned (.tuple #[]) ∧ Mat base w' N rv av (upTo N xs N) ∧ w.grownBy w' av.ownBlock := by
 obtain ⟨ga, gr, capr, capa, rfl, rfl, hne, hgr, hga, hbg, hown, hrows⟩ := hm.open hx
 have Hx := Lib.hid hx
 have Hrows := Lib.hid hrows
 have Hm := Lib.hid hm
 have hcap := hm.cap
 clear hx hrows hm
 generalize hL : xs.length = L at *
 have HL := Lib.hid hL
 clear hL
 by_cases hc1 : capr = 1
 ·obtain rfl : N = 0 := by omega
  subst hc1
  go_enter Tryz.func121, Tryz.ntmps121
  go_wp2_with fail
  go_loopw [7] (fun i wr => i = .int .i64 0 ∧ wr = w) (fun i _ => 0)
  case atStart => exact ⟨rfl, rfl⟩
  case round =>
   obtain ⟨rfl, rfl⟩ := hrel
   go_wp2_with fail
   go_end0
   exact ⟨rfl, Hm.out, grownBy_below (Below.refl _ _) _⟩
 have hc2 : ¬ (capr : Int) - 1 = 0 := by omega
 have hc3 : capr - 1 ≠ 0 := by omega
 have hc4 : (1 : Int) ≤ capr := by omega
 go_enter Tryz.func121, Tryz.ntmps121
 go_wp2_with fail
 go_loopw [7] (fun i wr => ∃ q : Nat, q ≤ N ∧ i = .int .i64 q ∧ OL 63 base wr (.slice (some ⟨ga, 0, none⟩) L capa) (upTo N xs q) ∧ w.grownBy wr (some ga)) (fun i _ => N - (intOf i).toNat)
 case atStart => exact ⟨0, by omega, rfl, hown, grownBy_below (Below.refl _ _) _⟩
 case round =>
  clear hown
  obtain ⟨q, hq, rfl, hown, hgw⟩ := hrel
  have hlA := Lib.hid ((upTo_len N xs q).trans HL.out)
  by_cases hlt : q < N
  ·have gI := ((gcell hgw).1 gr (q + 1) hgr hne).trans (Hrows.out (q + 1) (by omega))
   have y4 : (q : Int) < N := by omega
   have gI' : wr.cell? ⟨gr, 1 + q, none⟩ = some (.slice (some ⟨ga, (q + 1) * (N + 1), none⟩) (N + 1) (N + 1)) := by rw [Nat.add_comm]; exact gI
   have xa := ol_cell hown (k := (q + 1) * (N + 1)) (by rw [hlA.out, Hx.out]; have := idx_lt N (q + 1) 0 (by omega) (by omega); omega)
   have x0 := xa.1
   have xf := xa.2
   have Hst := Lib.hid (show upTo N xs (q + 1) = (upTo N xs q).set ((q + 1) * (N + 1)) 1099511627776 from rfl)
   have Hg := Lib.hid hgw
   have Hown := Lib.hid hown
   clear hgw hown xa
   generalize hA : upTo N xs q = M at *
   clear hA
   go_wp2_with fail
   have hsd := OL.stored Hown.out hlA.out.symm ((q + 1) * (N + 1)) 1099511627776
   go_roundw
   case rel => exact ⟨q + 1, by omega, by go_num, by rw [Hst.out]; exact hsd.1, grownBy_trans Hg.out hsd.2⟩
   case measure => simp [intOf]; omega
  ·have hd2 : decide ((q : Int) < (N : Int)) = false := by simp; omega
   obtain rfl : q = N := by omega
   go_wp2_with fail
   go_end0
   refine ⟨rfl, ?_, hgw⟩
   obtain ⟨g', e1, e2, e3, e4⟩ := Hm.out
   simp only [Value.ownBlock, Option.some.injEq] at e1
   subst e1
   exact ⟨ga, rfl, hown, World.ownsRow.kept e3 hgw (.inr e4), e4⟩
noncomputable def upF (n : Int) (xs : List Int) : Int × List Int := chgF n xs true (upTo n.toNat xs n.toNat)
theorem enters_up : Enters Tryz.prog 121 := enters_of Tryz.func121 (by kernel_rfl) rfl
set_option maxRecDepth 100000 in
set_option maxHeartbeats 2000000 in
theorem prog_up (n : Int) (zv : Value) (xs : List Int) (w : World) (hz : RL w.heap.size w zv xs) :
  Calls Tryz.prog 54 #[.agg #[.int .i64 n, zv]] w fun e w' => ZPost 63 w.heap.size n (upF n xs) e w' ∧ Below w.heap.size w w' := by
 obtain ⟨aoz, capz, rfl, hlez, _⟩ := hz.open
 have hloc := Loc.two w (.cells #[.int .i64 n, .slice aoz xs.length capz] 32) (.cells #[.int .i64 0, .slice none 0 0] 32) none
 have Hz := Lib.hid hz
 clear hz
 have key : ∀ wr : World, Below w.heap.size w wr → w.heap.size ≤ wr.heap.size → Calls Tryz.prog 120 #[.agg #[.int .i64 n, .slice aoz xs.length capz], .bool true, .func (.func 121) #[] #[]] wr fun e w' => ZPost 63 wr.heap.size n (upF n xs) e w' ∧ Below wr.heap.size wr w' := by
  intro wr hbe hse
  have Hz1 : RL wr.heap.size wr (.slice aoz xs.length capz) xs := Hz.out.keepb hbe
  by_cases hok : OkZ n xs
  ·obtain ⟨N, rfl⟩ := Int.eq_ofNat_of_zero_le hok.lo
   have hN : N ≤ 10 := by have := hok.hi; omega
   have hlen : xs.length = (N + 1) * (N + 1) := by have := hok.len; rwa [Int.toNat_natCast] at this
   have hvx := (dimF_nat hok.dim).2.2
   show Calls _ _ _ _ fun e w' => ZPost _ _ _ (chgF (N : Int) xs true (upTo (N : Int).toNat xs (N : Int).toNat)) e w' ∧ _
   rw [Int.toNat_natCast]
   exact prog_changed_ok N _ xs _ _ #[] wr Hz1 hok enters_up (fun base rv av w' hb hb1 hb2 hm => prog_up_change N base rv av xs w' hm hb2 hN hlen) (upTo_len N xs _) (upTo_vld hvx _)
  ·exact prog_changed_bad n _ _ xs _ _ wr Hz1 (fun e => hok e.1)
 go_enter Tryz.func54, Tryz.ntmps54
 go_wp2_with fail
 refine (key _ (below_grownBy hloc.grown) (by simp; omega)).mono ?_
 generalize hR : upF n xs = R
 have HR := Lib.hid hR
 clear hR key
 rintro e w5 ⟨⟨v5, rfl, ho5⟩, hb5⟩
 obtain ⟨ao5, cap5, rfl⟩ := owns_form ho5
 have hloc5 := hloc.next (grownBy_below hb5 none) (fun _ h => by cases h)
 have r0 : w5.cell? ⟨w.heap.size + 1, 0, none⟩ = some (.int .i64 0) := hloc5.cell 1 rfl 0
 have r1 : w5.cell? ⟨w.heap.size + 1, 1, none⟩ = some (.slice none 0 0) := hloc5.cell 1 rfl 1
 have r2 : w5.frozen? ⟨w.heap.size + 1, 0, none⟩ = false := hloc5.free 1 rfl 0
 have r3 : w5.frozen? ⟨w.heap.size + 1, 1, none⟩ = false := hloc5.free 1 rfl 1
 have Ho5 := Lib.hid (show OL 63 (w.heap.size + 2) w5 (.slice ao5 R.2.length cap5) R.2 from OL.mono ho5 (by simp))
 have HB5 := Lib.hid (below_grownBy hloc5.grown)
 clear ho5 hb5 hloc hloc5
 go_wp2_with fail
 refine bodyPost_ret (v := .tuple #[.agg #[.int .i64 (zdim R n), .slice ao5 R.2.length cap5], .int .i64 R.1]) (by simp [results, Tryz.results54, go_sem, r0, r1]) rfl ⟨⟨_, by rw [HR.out], ?_⟩, ?_⟩
 ·rw [HR.out]; exact OL.mono (base := w.heap.size + 2) (own_set2 Ho5.out (by omega) _ _) (by omega)
 ·exact (HB5.out.setCell (by simp) _).setCell (by simp) _
set_option linter.unusedVariables false
end Go.Proofs.YtfphlpglgcmljaaGreat
namespace Go.Proofs.YtfphlpglgcmljaaGreat
open Go.RowKit
set_option linter.unusedVariables false
set_option linter.unusedVariables false
theorem lsum_val {a b : Int} (ha : vld a = true) (hb : vld b = true) (na : a ≠ 1099511627776) (nb : b ≠ 1099511627776) : lsum a b = a + b - (if a % 2 = 0 ∧ b % 2 = 0 then 0 else 1) := by
 rw [vld_iff] at ha hb
 unfold lsum
 rw [if_neg (by omega)]
 unfold wrap64
 split <;> omega
theorem ent_vld {N : Nat} {xs : List Int} (h : OkZ N xs) {i j : Nat} (hi : i ≤ N) (hj : j ≤ N) : vld (ent N xs i j) = true := (h.el hi hj).val
theorem ent_tri {N : Nat} {xs : List Int} (h : OkZ N xs) {i j k : Nat} (hi : i ≤ N) (hj : j ≤ N) (hk : k ≤ N) : ent N xs i j ≤ lsum (ent N xs i k) (ent N xs k j) := by
 have := h.tri i j k (by rw [Int.toNat_natCast]; exact hi) (by rw [Int.toNat_natCast]; exact hj) (by rw [Int.toNat_natCast]; exact hk)
 rw [Int.toNat_natCast] at this
 exact this
theorem ent_row {N : Nat} {xs : List Int} (h : OkZ N xs) {j : Nat} (hj : j ≤ N) : ent N xs 0 j ≤ 1 := by
 have := h.rowN hj
 unfold ent; rwa [Nat.zero_mul, Nat.zero_add]
theorem okz_of {N : Nat} {Z : List Int} (hN : N ≤ 10) (hl : Z.length = (N + 1) * (N + 1)) (hv : ∀ i j, i ≤ N → j ≤ N → vld (ent N Z i j) = true) (hd : ∀ i, i ≤ N → ent N Z i i = 1) (hr : ∀ j, j ≤ N → ent N Z 0 j ≤ 1)
  (ht : ∀ i j k, i ≤ N → j ≤ N → k ≤ N → ent N Z i j ≤ lsum (ent N Z i k) (ent N Z k j)) : OkZ N Z :=
 OkZ.mk' hN hl (fun i j hi hj => ⟨hv i j (by omega) hj, fun e => by subst e; exact hd i (by omega), fun e => by subst e; exact hr j hj⟩) (fun i j k hi hj hk => ht i j k (by omega) hj hk)
-- Up
theorem upTo_ent {N : Nat} {xs : List Int} (hl : xs.length = (N + 1) * (N + 1)) : ∀ q, q ≤ N → ∀ i j, i ≤ N → j ≤ N → ent N (upTo N xs q) i j = if j = 0 ∧ 1 ≤ i ∧ i ≤ q then 1099511627776 else ent N xs i j := by
 intro q
 induction q with
 | zero => intro _ i j _ _; rw [if_neg (by omega)]; rfl
 | succ q ih =>
  intro hq i j hi hj
  have e : upTo N xs (q + 1) = (upTo N xs q).set ((q + 1) * (N + 1) + 0) 1099511627776 := rfl
  rw [e, ent_set (by rw [upTo_len]; exact hl) (by omega) (Nat.zero_le _) hj, ih (by omega) i j hi hj]
  by_cases c : i = q + 1 ∧ j = 0
  ·rw [if_pos c, if_pos (by omega)]
  ·rw [if_neg c]
   by_cases c2 : j = 0 ∧ 1 ≤ i ∧ i ≤ q
   ·rw [if_pos c2, if_pos (by omega)]
   ·rw [if_neg c2, if_neg (by omega)]
theorem up_ent {N : Nat} {xs : List Int} (h : OkZ N xs) {i j : Nat} (hi : i ≤ N) (hj : j ≤ N) : ent N (upTo N xs N) i j = if j = 0 ∧ 1 ≤ i then 1099511627776 else ent N xs i j := by
 have hlen : xs.length = (N + 1) * (N + 1) := by have := h.len; rwa [Int.toNat_natCast] at this
 rw [upTo_ent hlen N (Nat.le_refl _) i j hi hj]
 by_cases c : j = 0 ∧ 1 ≤ i
 ·rw [if_pos c, if_pos (by omega)]
 ·rw [if_neg c, if_neg (by omega)]
theorem okz_up {N : Nat} {xs : List Int} (h : OkZ N xs) : OkZ N (upTo N xs N) := by
 have hlen : xs.length = (N + 1) * (N + 1) := by have := h.len; rwa [Int.toNat_natCast] at this
 refine okz_of (by have := h.hi; omega) (by rw [upTo_len, hlen]) (fun i j hi hj => ?_) (fun i hi => ?_) (fun j hj => ?_) (fun i j k hi hj hk => ?_)
 ·rw [up_ent h hi hj]; split
  ·decide
  ·exact ent_vld h hi hj
 ·rw [up_ent h hi hi, if_neg (by omega)]; exact h.diagN hi
 ·rw [up_ent h (Nat.zero_le _) hj, if_neg (by omega)]; exact ent_row h hj
 ·rw [up_ent h hi hj, up_ent h hi hk, up_ent h hk hj]
  by_cases c1 : k = 0 ∧ 1 ≤ i
  ·rw [if_pos c1, lsum_nl _ _ (.inl rfl)]
   split
   ·exact Int.le_refl _
   ·exact vld_le (ent_vld h hi hj)
  ·rw [if_neg c1]
   by_cases c2 : j = 0 ∧ 1 ≤ k
   ·rw [if_pos c2, lsum_nl _ _ (.inr rfl)]
    split
    ·exact Int.le_refl _
    ·exact vld_le (ent_vld h hi hj)
   ·rw [if_neg c2]
    rw [if_neg (by omega)]
    exact ent_tri h hi hj hk
theorem up_val {N : Nat} {xs : List Int} (h : OkZ N xs) : upF N xs = (0, upTo N xs N) := by
 unfold upF
 rw [chgF_yes h rfl, Int.toNat_natCast]
 exact closed_ok1 (okz_up h)
end Go.Proofs.YtfphlpglgcmljaaGreat
