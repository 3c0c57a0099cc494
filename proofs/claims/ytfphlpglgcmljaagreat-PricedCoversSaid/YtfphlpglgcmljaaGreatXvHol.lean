/- Part of the proof of priced_covers_proved: Hol. -/
import Derived.Laws.EntriesVeiled
import Derived.Shelf.Abstract
import Derived.Deep.DeepCutAuto
import Derived.Test.YtfphlpglgcmljaaGreatXvLst
namespace Go.Proofs.YtfphlpglgcmljaaGreat
open Go.RowKit
set_option linter.unusedVariables false
structure Kc where
 clock : Int
 lower : Bool
 strict : Bool
 c : Int
def cdRes : Cd (Int × Int) := ⟨2, fun x => [.int .i64 x.1, .int .i64 x.2], fun _ => rfl, (0, 0)⟩
def cdI64 : Cd Int := ⟨1, fun x => [.int .i64 x], fun _ => rfl, 0⟩
def Prd {α : Type} (enc : α → Value) (fv : Value) (w : World) (p : α → Bool) (xs : List α) : Prop :=
 ∃ f cap, fv = .func (.func f) #[] cap ∧ (∀ (args : Array Value) (w : World), (callFunc f args).run Tryz.prog w = .ok (.enter f args) w) ∧
  ∀ x, x ∈ xs → ∀ w', Below w.heap.size w w' → Calls Tryz.prog f (#[enc x] ++ cap) w' fun e w'' => e = .returned (.bool (p x)) ∧ Below w'.heap.size w' w''
theorem Prd.later {α : Type} {enc : α → Value} {fv : Value} {w w1 : World} {p : α → Bool} {xs : List α} (h : Prd enc fv w p xs) (hb : Below w.heap.size w w1) : Prd enc fv w1 p xs := by
 obtain ⟨f, cap, h1, h2, h3⟩ := h
 exact ⟨f, cap, h1, h2, fun x hx w' hw => h3 x hx w' (bt hb hw)⟩
def IxP {α : Type} (p : α → Bool) (xs : List α) (e : Ending) : Prop := ∃ k : Int, e = .returned (.int .i64 k) ∧ (decide (0 ≤ k) = xs.any p)
def NoTo {α : Type} (c : Cd α) (p : α → Bool) (xs : List α) (q : Nat) : Prop := ∀ k, k < q → p (ge c xs k) = false
theorem NoTo.succ {α : Type} {c : Cd α} {p : α → Bool} {xs : List α} {q : Nat} (h : NoTo c p xs q) (h' : p (ge c xs q) = false) : NoTo c p xs (q + 1) := fun k hk => by
 by_cases e : k = q
 ·subst e; exact h'
 ·exact h k (by omega)
theorem NoTo.none {α : Type} {c : Cd α} {p : α → Bool} {xs : List α} (h : NoTo c p xs xs.length) : xs.any p = false := by
 rw [List.any_eq_false]
 intro x hx
 obtain ⟨k, hk, e⟩ := List.mem_iff_getElem.1 hx
 have := h k hk
 rw [ge_of c hk, e] at this
 simp [this]
theorem any_of {α : Type} {c : Cd α} {p : α → Bool} {xs : List α} {q : Nat} (hq : q < xs.length) (h : p (ge c xs q) = true) : xs.any p = true :=
 List.any_eq_true.2 ⟨_, ge_mem c hq, h⟩
theorem all_any {α : Type} (p : α → Bool) (xs : List α) : (!xs.any (fun x => !p x)) = xs.all p := by
 induction xs with
 | nil => rfl
 | cons x xs ih => rw [List.any_cons, List.all_cons, ← ih]; cases p x <;> simp
def encI64 : Int → Value := fun x => .int .i64 x
set_option maxRecDepth 100000 in
set_option maxHeartbeats 2000000 in
theorem index_I64 (v fv : Value) (xs : List Int) (q : Int → Bool) (w : World) (hv : RX cdI64 w.heap.size w v xs) (hp : Prd encI64 fv w q xs) :
  Calls Tryz.prog 182 #[v, fv] w fun e w' => IxP q xs e ∧ Below w.heap.size w w' := by
 obtain ⟨ao, cap, rfl, hle, h0⟩ := hv.open
 obtain ⟨f, cf, rfl, hent, hF⟩ := hp
 have H0 := Lib.hid h0
 have HF := Lib.hid hF
 clear hv h0 hF
 go_enter Tryz.func182, Tryz.ntmps182
 go_wp2_with fail
 go_loopw [5, 8] (fun _ i wr => ∃ k : Nat, k ≤ xs.length ∧ i = .int .i64 k ∧ NoTo cdI64 q xs k ∧ Below w.heap.size w wr) (fun _ i _ => xs.length - (intOf i).toNat)
 case atStart => exact ⟨0, Nat.zero_le _, rfl, fun k hk => by omega, Below.refl _ _⟩
 case round =>
  obtain ⟨k, hk, rfl, hno, hbel⟩ := hrel
  have Hno := Lib.hid hno
  have Hbel := Lib.hid hbel
  clear hno hbel
  by_cases hlt : k < xs.length
  ·have htk : decide ((k : Int) < (xs.length : Int)) = true := by simp; omega
   obtain ⟨b, off, rfl, hb, hc⟩ := H0.out (by omega)
   have hmem := Lib.hid (ge_mem cdI64 hlt)
   obtain ⟨E, hE⟩ : ∃ E, ge cdI64 xs k = E := ⟨_, rfl⟩
   have x0 : wr.cell? ⟨b, off + k, none⟩ = some (.int .i64 E) := by
    have h := ((bcell Hbel.out).1 b (off + (k * 1 + 0)) hb).trans (hc k 0 hlt (by decide))
    rw [hE] at h
    rw [show off + k = off + (k * 1 + 0) by omega]
    exact h
   have HE := Lib.hid hE
   have k0 : (k : Int) < xs.length := by omega
   have k1 : (0 : Int) ≤ (k : Int) := by omega
   have HC := Lib.hid (fun w' hw => HF.out _ hmem.out w' hw)
   rw [hE] at HC
   clear hc hE hlt
   cases hq : q E with
   | true =>
    have HQ := Lib.hid (any_of (c := cdI64) (p := q) (xs := xs) (q := k) (by omega) (by rw [HE.out]; exact hq))
    rw [hq] at HC
    clear hq
    go_wp2_with fail
    refine (HC.out wr Hbel.out).mono ?_
    rintro e w3 ⟨rfl, hb3⟩
    have HB3 := Lib.hid (bt Hbel.out hb3)
    clear hb3
    go_wp2_with fail
    go_ret
    exact ⟨⟨k, rfl, by rw [HQ.out]; simp⟩, HB3.out⟩
   | false =>
    have HQ := Lib.hid (Hno.out.succ (by rw [HE.out]; exact hq))
    rw [hq] at HC
    clear hq
    go_wp2_with fail
    refine (HC.out wr Hbel.out).mono ?_
    rintro e w3 ⟨rfl, hb3⟩
    have HB3 := Lib.hid (bt Hbel.out hb3)
    clear hb3
    go_wp2_with fail
    go_roundw
    case rel => exact ⟨k + 1, by omega, by go_num, HQ.out, HB3.out⟩
    case measure => simp [intOf]; omega
  ·have htk : decide ((k : Int) < (xs.length : Int)) = false := by simp; omega
   have HQ := Lib.hid (NoTo.none (c := cdI64) (p := q) (xs := xs) (by rw [show xs.length = k by omega]; exact Hno.out))
   go_wp2_with fail
   go_ret
   exact ⟨⟨-1, rfl, by rw [HQ.out]; rfl⟩, Hbel.out⟩
set_option maxHeartbeats 1000000 in
theorem contains_I64 (v fv : Value) (xs : List Int) (q : Int → Bool) (w : World) (hv : RX cdI64 w.heap.size w v xs) (hp : Prd encI64 fv w q xs) :
  Calls Tryz.prog 170 #[v, fv] w fun e w' => e = .returned (.bool (xs.any q)) ∧ Below w.heap.size w w' := by
 obtain ⟨ao, cap, rfl, hle, h0⟩ := hv.open
 have HI := index_I64 _ fv xs q w hv hp
 unfold IxP at HI
 generalize xs.any q = r at HI ⊢
 have HI := Lib.hid HI
 clear hv h0 hp
 go_enter Tryz.func170, Tryz.ntmps170
 go_wp2_with fail
 refine HI.out.mono ?_
 rintro e w1 ⟨⟨k, rfl, hk⟩, hb1⟩
 cases r with
 | true =>
  have hk : decide (0 ≤ k) = true := hk
  go_wp2_with fail
  go_ret
  exact ⟨rfl, hb1⟩
 | false =>
  have hk : decide (0 ≤ k) = false := hk
  go_wp2_with fail
  go_ret
  exact ⟨rfl, hb1⟩
set_option maxHeartbeats 1000000 in
theorem not_I64 (x : Int) (tb : Nat) (fv : Value) (xs : List Int) (q : Int → Bool) (w : World) (hc : w.cell? ⟨tb, 0, none⟩ = some fv) (hx : x ∈ xs) (hp : Prd encI64 fv w q xs) :
  Calls Tryz.prog 171 (#[encI64 x] ++ #[.pointer (some ⟨tb, 0, none⟩)]) w fun e w' => e = .returned (.bool (!q x)) ∧ Below w.heap.size w w' := by
 obtain ⟨f, cf, rfl, hent, hF⟩ := hp
 have HF := Lib.hid (hF x hx _ (Below.refl _ _))
 clear hF hx
 show Calls Tryz.prog 171 #[encI64 x, .pointer (some ⟨tb, 0, none⟩)] w _
 unfold encI64 at HF ⊢
 generalize q x = r at HF ⊢
 go_enter Tryz.func171, Tryz.ntmps171
 go_wp2_with fail
 refine HF.out.mono ?_
 rintro e w1 ⟨rfl, hb1⟩
 clear hc
 cases r with
 | true =>
  go_wp2_with fail
  go_ret
  exact ⟨rfl, hb1⟩
 | false =>
  go_wp2_with fail
  go_ret
  exact ⟨rfl, hb1⟩
theorem ents_I64 : Enters Tryz.prog 171 := enters_of Tryz.func171 (by kernel_rfl) rfl
set_option maxHeartbeats 1000000 in
theorem holds_I64 (v fv : Value) (xs : List Int) (q : Int → Bool) (w : World) (hv : RX cdI64 w.heap.size w v xs) (hp : Prd encI64 fv w q xs) :
  Calls Tryz.prog 134 #[v, fv] w fun e w' => e = .returned (.bool (xs.all q)) ∧ Below w.heap.size w w' := by
 obtain ⟨ao, cap, rfl, hle, h0⟩ := hv.open
 have hloc := Loc.one w (.cells #[fv] 143) none
 have hn : Prd encI64 (.func (.func 171) #[] #[.pointer (some ⟨w.heap.size, 0, none⟩)]) (w.alloc (.cells #[fv] 143)) (fun x => !q x) xs :=
  ⟨_, _, rfl, ents_I64, fun x hx w' hw => not_I64 x w.heap.size fv xs q w' (keepb (hloc.cell 0 rfl 0) hw) hx (hp.later (bt (below_grownBy hloc.grown) hw))⟩
 have HC := contains_I64 _ _ xs _ _ (hv.keepb (below_grownBy hloc.grown)) hn
 rw [← all_any q xs]
 generalize xs.any (fun x => !q x) = r at HC ⊢
 have HC := Lib.hid HC
 obtain ⟨f, cf, rfl, hent, hF⟩ := hp
 clear hv h0 hn hF
 go_enter Tryz.func134, Tryz.ntmps134
 go_wp2_with fail
 refine HC.out.mono ?_
 rintro e w1 ⟨rfl, hb1⟩
 have hloc1 := hloc.next (grownBy_below hb1 none) (fun _ h => by cases h)
 clear hb1 hloc
 cases r with
 | true =>
  go_wp2_with fail
  go_ret
  exact ⟨rfl, below_grownBy hloc1.grown⟩
 | false =>
  go_wp2_with fail
  go_ret
  exact ⟨rfl, below_grownBy hloc1.grown⟩
def encLim : Int → Value := fun x => .int .i64 x
set_option maxRecDepth 100000 in
set_option maxHeartbeats 2000000 in
theorem index_Lim (v fv : Value) (xs : List Int) (q : Int → Bool) (w : World) (hv : RX cdI64 w.heap.size w v xs) (hp : Prd encLim fv w q xs) :
  Calls Tryz.prog 183 #[v, fv] w fun e w' => IxP q xs e ∧ Below w.heap.size w w' := by
 obtain ⟨ao, cap, rfl, hle, h0⟩ := hv.open
 obtain ⟨f, cf, rfl, hent, hF⟩ := hp
 have H0 := Lib.hid h0
 have HF := Lib.hid hF
 clear hv h0 hF
 go_enter Tryz.func183, Tryz.ntmps183
 go_wp2_with fail
 go_loopw [5, 8] (fun _ i wr => ∃ k : Nat, k ≤ xs.length ∧ i = .int .i64 k ∧ NoTo cdI64 q xs k ∧ Below w.heap.size w wr) (fun _ i _ => xs.length - (intOf i).toNat)
 case atStart => exact ⟨0, Nat.zero_le _, rfl, fun k hk => by omega, Below.refl _ _⟩
 case round =>
  obtain ⟨k, hk, rfl, hno, hbel⟩ := hrel
  have Hno := Lib.hid hno
  have Hbel := Lib.hid hbel
  clear hno hbel
  by_cases hlt : k < xs.length
  ·have htk : decide ((k : Int) < (xs.length : Int)) = true := by simp; omega
   obtain ⟨b, off, rfl, hb, hc⟩ := H0.out (by omega)
   have hmem := Lib.hid (ge_mem cdI64 hlt)
   obtain ⟨E, hE⟩ : ∃ E, ge cdI64 xs k = E := ⟨_, rfl⟩
   have x0 : wr.cell? ⟨b, off + k, none⟩ = some (.int .i64 E) := by
    have h := ((bcell Hbel.out).1 b (off + (k * 1 + 0)) hb).trans (hc k 0 hlt (by decide))
    rw [hE] at h
    rw [show off + k = off + (k * 1 + 0) by omega]
    exact h
   have HE := Lib.hid hE
   have k0 : (k : Int) < xs.length := by omega
   have k1 : (0 : Int) ≤ (k : Int) := by omega
   have HC := Lib.hid (fun w' hw => HF.out _ hmem.out w' hw)
   rw [hE] at HC
   clear hc hE hlt
   cases hq : q E with
   | true =>
    have HQ := Lib.hid (any_of (c := cdI64) (p := q) (xs := xs) (q := k) (by omega) (by rw [HE.out]; exact hq))
    rw [hq] at HC
    clear hq
    go_wp2_with fail
    refine (HC.out wr Hbel.out).mono ?_
    rintro e w3 ⟨rfl, hb3⟩
    have HB3 := Lib.hid (bt Hbel.out hb3)
    clear hb3
    go_wp2_with fail
    go_ret
    exact ⟨⟨k, rfl, by rw [HQ.out]; simp⟩, HB3.out⟩
   | false =>
    have HQ := Lib.hid (Hno.out.succ (by rw [HE.out]; exact hq))
    rw [hq] at HC
    clear hq
    go_wp2_with fail
    refine (HC.out wr Hbel.out).mono ?_
    rintro e w3 ⟨rfl, hb3⟩
    have HB3 := Lib.hid (bt Hbel.out hb3)
    clear hb3
    go_wp2_with fail
    go_roundw
    case rel => exact ⟨k + 1, by omega, by go_num, HQ.out, HB3.out⟩
    case measure => simp [intOf]; omega
  ·have htk : decide ((k : Int) < (xs.length : Int)) = false := by simp; omega
   have HQ := Lib.hid (NoTo.none (c := cdI64) (p := q) (xs := xs) (by rw [show xs.length = k by omega]; exact Hno.out))
   go_wp2_with fail
   go_ret
   exact ⟨⟨-1, rfl, by rw [HQ.out]; rfl⟩, Hbel.out⟩
set_option maxHeartbeats 1000000 in
theorem contains_Lim (v fv : Value) (xs : List Int) (q : Int → Bool) (w : World) (hv : RX cdI64 w.heap.size w v xs) (hp : Prd encLim fv w q xs) :
  Calls Tryz.prog 172 #[v, fv] w fun e w' => e = .returned (.bool (xs.any q)) ∧ Below w.heap.size w w' := by
 obtain ⟨ao, cap, rfl, hle, h0⟩ := hv.open
 have HI := index_Lim _ fv xs q w hv hp
 unfold IxP at HI
 generalize xs.any q = r at HI ⊢
 have HI := Lib.hid HI
 clear hv h0 hp
 go_enter Tryz.func172, Tryz.ntmps172
 go_wp2_with fail
 refine HI.out.mono ?_
 rintro e w1 ⟨⟨k, rfl, hk⟩, hb1⟩
 cases r with
 | true =>
  have hk : decide (0 ≤ k) = true := hk
  go_wp2_with fail
  go_ret
  exact ⟨rfl, hb1⟩
 | false =>
  have hk : decide (0 ≤ k) = false := hk
  go_wp2_with fail
  go_ret
  exact ⟨rfl, hb1⟩
set_option maxHeartbeats 1000000 in
theorem not_Lim (x : Int) (tb : Nat) (fv : Value) (xs : List Int) (q : Int → Bool) (w : World) (hc : w.cell? ⟨tb, 0, none⟩ = some fv) (hx : x ∈ xs) (hp : Prd encLim fv w q xs) :
  Calls Tryz.prog 173 (#[encLim x] ++ #[.pointer (some ⟨tb, 0, none⟩)]) w fun e w' => e = .returned (.bool (!q x)) ∧ Below w.heap.size w w' := by
 obtain ⟨f, cf, rfl, hent, hF⟩ := hp
 have HF := Lib.hid (hF x hx _ (Below.refl _ _))
 clear hF hx
 show Calls Tryz.prog 173 #[encLim x, .pointer (some ⟨tb, 0, none⟩)] w _
 unfold encLim at HF ⊢
 generalize q x = r at HF ⊢
 go_enter Tryz.func173, Tryz.ntmps173
 go_wp2_with fail
 refine HF.out.mono ?_
 rintro e w1 ⟨rfl, hb1⟩
 clear hc
 cases r with
 | true =>
  go_wp2_with fail
  go_ret
  exact ⟨rfl, hb1⟩
 | false =>
  go_wp2_with fail
  go_ret
  exact ⟨rfl, hb1⟩
theorem ents_Lim : Enters Tryz.prog 173 := enters_of Tryz.func173 (by kernel_rfl) rfl
set_option maxHeartbeats 1000000 in
theorem holds_Lim (v fv : Value) (xs : List Int) (q : Int → Bool) (w : World) (hv : RX cdI64 w.heap.size w v xs) (hp : Prd encLim fv w q xs) :
  Calls Tryz.prog 136 #[v, fv] w fun e w' => e = .returned (.bool (xs.all q)) ∧ Below w.heap.size w w' := by
 obtain ⟨ao, cap, rfl, hle, h0⟩ := hv.open
 have hloc := Loc.one w (.cells #[fv] 142) none
 have hn : Prd encLim (.func (.func 173) #[] #[.pointer (some ⟨w.heap.size, 0, none⟩)]) (w.alloc (.cells #[fv] 142)) (fun x => !q x) xs :=
  ⟨_, _, rfl, ents_Lim, fun x hx w' hw => not_Lim x w.heap.size fv xs q w' (keepb (hloc.cell 0 rfl 0) hw) hx (hp.later (bt (below_grownBy hloc.grown) hw))⟩
 have HC := contains_Lim _ _ xs _ _ (hv.keepb (below_grownBy hloc.grown)) hn
 rw [← all_any q xs]
 generalize xs.any (fun x => !q x) = r at HC ⊢
 have HC := Lib.hid HC
 obtain ⟨f, cf, rfl, hent, hF⟩ := hp
 clear hv h0 hn hF
 go_enter Tryz.func136, Tryz.ntmps136
 go_wp2_with fail
 refine HC.out.mono ?_
 rintro e w1 ⟨rfl, hb1⟩
 have hloc1 := hloc.next (grownBy_below hb1 none) (fun _ h => by cases h)
 clear hb1 hloc
 cases r with
 | true =>
  go_wp2_with fail
  go_ret
  exact ⟨rfl, below_grownBy hloc1.grown⟩
 | false =>
  go_wp2_with fail
  go_ret
  exact ⟨rfl, below_grownBy hloc1.grown⟩
end Go.Proofs.YtfphlpglgcmljaaGreat
