/- Part of the proof of stopwatch_explores_proved: Swb, Swk. -/
import Derived.Laws.EntriesVeiled
import Derived.Deep.RegionHeld3
import Derived.Deep.DeepCutAuto
import Derived.Deep.RegionLaw
import Derived.Test.YtokljoajalmkfaaXeLst
namespace Go.Proofs.Ytokljoajalmkfaa
open Go.RowKit
set_option linter.unusedVariables false
set_option linter.unusedSimpArgs false
set_option linter.unnecessarySimpa false
structure Sc where
 r : Int
 f : Int
 l : Int
def cdSc : Cd Sc := ⟨3, fun x => [.int .i64 x.r, .int .i64 x.f, .int .i64 x.l], fun _ => rfl, ⟨0, 0, 0⟩⟩
structure Tk where
 nm : ByteArray
 T : Int
 O : Int
 D : Int
 C : Int
 pr : Int
 sv : Value
 sc : List Sc
def cdTk : Cd Tk := ⟨7, fun x => [.string x.nm, .int .i64 x.T, .int .i64 x.O, .int .i64 x.D, .int .i64 x.C, .int .i64 x.pr, x.sv], fun _ => rfl, ⟨⟨#[]⟩, 0, 0, 0, 0, 0, .slice none 0 0, []⟩⟩
def TsR (w : World) (v : Value) (ts : List Tk) : Prop := RX cdTk w.heap.size w v ts ∧ ∀ x, x ∈ ts → RX cdSc w.heap.size w x.sv x.sc
theorem TsR.keepb {w w' : World} {v : Value} {ts : List Tk} (h : TsR w v ts) (hb : Below w.heap.size w w') : TsR w' v ts := ⟨RX.keepb h.1 hb, fun x hx => RX.keepb (h.2 x hx) hb⟩
theorem TsR.drew {w : World} {v : Value} {ts : List Tk} (h : TsR w v ts) : TsR w.drew v ts := h.keepb (Below.refl _ _).drew
def tk (ts : List Tk) (k : Nat) : Tk := ge cdTk ts k
theorem TsR.open {w : World} {v : Value} {ts : List Tk} (h : TsR w v ts) : ∃ ao cap, v = .slice ao ts.length cap ∧ ts.length ≤ 9223372036854775807 ∧ (0 < ts.length → ∃ b off, ao = some ⟨b, off, none⟩ ∧ b < w.heap.size ∧ ∀ k, k < ts.length →
  w.cell? ⟨b, off + k * 7, none⟩ = some (.string (tk ts k).nm) ∧ w.cell? ⟨b, off + k * 7 + 1, none⟩ = some (.int .i64 (tk ts k).T) ∧ w.cell? ⟨b, off + k * 7 + 2, none⟩ = some (.int .i64 (tk ts k).O) ∧ w.cell? ⟨b, off + k * 7 + 3, none⟩ = some (.int .i64 (tk ts k).D) ∧
  w.cell? ⟨b, off + k * 7 + 4, none⟩ = some (.int .i64 (tk ts k).C) ∧ w.cell? ⟨b, off + k * 7 + 5, none⟩ = some (.int .i64 (tk ts k).pr) ∧ w.cell? ⟨b, off + k * 7 + 6, none⟩ = some (tk ts k).sv) := by
 obtain ⟨ao, cap, h1, h2, h3⟩ := h.1.open
 refine ⟨ao, cap, h1, h2, fun hp => ?_⟩
 obtain ⟨b, off, e1, e2, e3⟩ := h3 hp
 refine ⟨b, off, e1, e2, fun k hk => ?_⟩
 have c : ∀ j, j < 7 → w.cell? ⟨b, off + k * 7 + j, none⟩ = (cdTk.cells (tk ts k))[j]? := fun j hj => by
  have q := e3 k j hk hj
  rw [show off + k * 7 + j = off + (k * cdTk.sz + j) by show _ = off + (k * 7 + j); omega]
  exact q
 exact ⟨c 0 (by decide), c 1 (by decide), c 2 (by decide), c 3 (by decide), c 4 (by decide), c 5 (by decide), c 6 (by decide)⟩
theorem TsR.secs {w : World} {v : Value} {ts : List Tk} (h : TsR w v ts) {k : Nat} (hk : k < ts.length) : ∃ ao cap, (tk ts k).sv = .slice ao (tk ts k).sc.length cap ∧ (tk ts k).sc.length ≤ 9223372036854775807 := by
 obtain ⟨ao, cap, h1, h2, _⟩ := (h.2 (tk ts k) (ge_mem cdTk hk)).open
 exact ⟨ao, cap, h1, h2⟩
def hasS (ts : List Tk) : Bool := ts.any fun t => decide (0 < t.sc.length)
theorem hasS_no {ts : List Tk} : hasS ts = false ↔ ∀ k, k < ts.length → (tk ts k).sc.length = 0 := by
 unfold hasS
 rw [List.any_eq_false]
 constructor
 ·intro h k hk
  have := h (tk ts k) (ge_mem cdTk hk)
  simpa using this
 ·intro h x hx
  obtain ⟨k, hk, rfl⟩ := List.getElem_of_mem hx
  have := h k hk
  unfold tk at this
  rw [ge_of cdTk hk] at this
  simp [this]
theorem hasS_yes {ts : List Tk} {k : Nat} (hk : k < ts.length) (h : 0 < (tk ts k).sc.length) : hasS ts = true := by
 cases e : hasS ts with
 | true => rfl
 | false => have := hasS_no.1 e k hk; omega
def beyB (ts : List Tk) : Bool := decide (50 < ts.length) || ts.any fun t => decide (50 < t.sc.length) || decide (1000 < t.nm.size)
set_option maxRecDepth 100000 in
set_option maxHeartbeats 4000000 in
theorem ref_sections (v : Value) (ts : List Tk) (w : World) (hv : TsR w v ts) :
  Calls Try.prog 12 #[v] w fun e w' => e = .returned (.bool (hasS ts)) ∧ Below w.heap.size w w' := by
 have Hv := Lib.hid hv
 obtain ⟨ao, cap, rfl, hle, h0⟩ := hv.open
 have H0 := Lib.hid h0
 clear hv h0
 go_enter Try.func12, Try.ntmps12
 go_wp2_with fail
 go_loopw [3] (fun s wr => ∃ k : Nat, k ≤ ts.length ∧ s = .int .i64 k ∧ (∀ j, j < k → (tk ts j).sc.length = 0) ∧ wr = w) (fun s _ => ts.length - (intOf s).toNat)
 case atStart => exact ⟨0, Nat.zero_le _, rfl, fun j hj => by omega, rfl⟩
 case round =>
  obtain ⟨k, hk, rfl, hno, rfl⟩ := hrel
  by_cases hlt : k < ts.length
  ·have htk : decide ((k : Int) < (ts.length : Int)) = true := by simp; omega
   obtain ⟨b, off, rfl, hb, hc⟩ := H0.out (by omega)
   obtain ⟨_, _, _, _, _, _, c6⟩ := hc k hlt
   obtain ⟨aos, caps, hs, hsl⟩ := Hv.out.secs hlt
   rw [hs] at c6
   obtain ⟨n, hn⟩ : ∃ n, (tk ts k).sc.length = n := ⟨_, rfl⟩
   rw [hn] at c6 hsl
   have Hno := Lib.hid hno
   have Hn := Lib.hid hn
   have k0 : (k : Int) < (ts.length : Int) := by omega
   have k1 : (0 : Int) ≤ (k : Int) := by omega
   clear hc hs hno hn
   by_cases hp : 0 < n
   ·have hd : decide ((0 : Int) < (n : Int)) = true := by simp; omega
    have HR := Lib.hid (hasS_yes hlt (by rw [Hn.out]; exact hp))
    go_wp2_with fail
    go_ret
    exact ⟨by rw [HR.out]; rfl, Below.refl _ _⟩
   ·have hd : decide ((0 : Int) < (n : Int)) = false := by simp; omega
    go_wp2_with fail
    go_roundw
    case rel => exact ⟨k + 1, by omega, by go_num, fun j hj => by
     by_cases e : j = k
     ·subst e; rw [Hn.out]; omega
     ·exact Hno.out j (by omega), trivial⟩
    case measure => simp [intOf]; omega
  ·have htk : decide ((k : Int) < (ts.length : Int)) = false := by simp; omega
   have HR := Lib.hid (show hasS ts = false from hasS_no.2 (fun j hj => hno j (by omega)))
   clear hno
   go_wp2_with fail
   go_ret
   exact ⟨by rw [HR.out]; rfl, Below.refl _ _⟩
theorem ext_gi2 {xs ys : List Int} (hl : xs.length = ys.length) (h : ∀ k, k < xs.length → gi xs k = gi ys k) : xs = ys := by
 apply List.ext_getElem hl
 intro k h1 h2
 have := h k h1
 unfold gi at this
 rw [List.getD_eq_getElem?_getD, List.getD_eq_getElem?_getD, List.getElem?_eq_getElem h1, List.getElem?_eq_getElem h2] at this
 exact this
def beyK (t : Tk) : Bool := decide (50 < t.sc.length) || decide (1000 < t.nm.size)
theorem beyB_yes {ts : List Tk} {k : Nat} (hk : k < ts.length) (h : beyK (tk ts k) = true) : beyB ts = true := by
 unfold beyB
 rw [Bool.or_eq_true]
 exact .inr (List.any_eq_true.2 ⟨tk ts k, ge_mem cdTk hk, h⟩)
theorem beyB_no {ts : List Tk} (h0 : ts.length ≤ 50) (h : ∀ k, k < ts.length → beyK (tk ts k) = false) : beyB ts = false := by
 unfold beyB
 rw [Bool.or_eq_false_iff]
 refine ⟨by simp; omega, List.any_eq_false.2 (fun x hx => ?_)⟩
 obtain ⟨k, hk, rfl⟩ := List.getElem_of_mem hx
 have := h k hk
 unfold tk at this
 rw [ge_of cdTk hk] at this
 show ¬ beyK _ = true
 rw [this]; decide
set_option maxRecDepth 100000 in
set_option maxHeartbeats 4000000 in
theorem law_beyond (v : Value) (ts : List Tk) (w : World) (hv : TsR w v ts) :
  Calls Try.prog 6 #[v] w fun e w' => e = .returned (.bool (beyB ts)) ∧ Below w.heap.size w w' := by
 have Hv := Lib.hid hv
 obtain ⟨ao, cap, rfl, hle, h0⟩ := hv.open
 have H0 := Lib.hid h0
 clear hv h0
 go_enter Try.func6, Try.ntmps6
 by_cases h50 : 50 < ts.length
 ·have hd : decide ((50 : Int) < (ts.length : Int)) = true := by simp; omega
  have HR := Lib.hid (show beyB ts = true by unfold beyB; rw [decide_eq_true h50]; rfl)
  go_wp2_with fail
  go_ret
  exact ⟨by rw [HR.out]; rfl, Below.refl _ _⟩
 have hd : decide ((50 : Int) < (ts.length : Int)) = false := by simp; omega
 go_wp2_with fail
 go_loopw [3] (fun s wr => ∃ k : Nat, k ≤ ts.length ∧ s = .int .i64 k ∧ (∀ j, j < k → beyK (tk ts j) = false) ∧ wr = w) (fun s _ => ts.length - (intOf s).toNat)
 case atStart => exact ⟨0, Nat.zero_le _, rfl, fun j hj => by omega, rfl⟩
 case round =>
  obtain ⟨k, hk, rfl, hno, rfl⟩ := hrel
  by_cases hlt : k < ts.length
  ·have htk : decide ((k : Int) < (ts.length : Int)) = true := by simp; omega
   obtain ⟨b, off, rfl, hb, hc⟩ := H0.out (by omega)
   obtain ⟨c0, -, -, -, -, -, c6⟩ := hc k hlt
   obtain ⟨aos, caps, hs, hsl⟩ := Hv.out.secs hlt
   rw [hs] at c6
   obtain ⟨n, hn⟩ : ∃ n, (tk ts k).sc.length = n := ⟨_, rfl⟩
   obtain ⟨nm, hnm⟩ : ∃ n, (tk ts k).nm = n := ⟨_, rfl⟩
   rw [hn] at c6 hsl
   rw [hnm] at c0
   have HK := Lib.hid (show beyK (tk ts k) = (decide (50 < n) || decide (1000 < nm.size)) by unfold beyK; rw [hn, hnm])
   have Hno := Lib.hid hno
   have k0 : (k : Int) < (ts.length : Int) := by omega
   have k1 : (0 : Int) ≤ (k : Int) := by omega
   clear hc hs hno hn hnm
   by_cases hp : 50 < n
   ·have hd2 : decide ((50 : Int) < (n : Int)) = true := by simp; omega
    have HR := Lib.hid (beyB_yes hlt (by rw [HK.out, decide_eq_true hp]; rfl))
    go_wp2_with fail
    go_ret
    exact ⟨by rw [HR.out]; rfl, Below.refl _ _⟩
   ·have hd2 : decide ((50 : Int) < (n : Int)) = false := by simp; omega
    by_cases hq : 1000 < nm.size
    ·have hd3 : decide ((1000 : Int) < (nm.size : Int)) = true := by simp; omega
     have HR := Lib.hid (beyB_yes hlt (by rw [HK.out, decide_eq_true hq, Bool.or_true]))
     go_wp2_with fail
     go_ret
     exact ⟨by rw [HR.out]; rfl, Below.refl _ _⟩
    ·have hd3 : decide ((1000 : Int) < (nm.size : Int)) = false := by simp; omega
     have HN := Lib.hid (show beyK (tk ts k) = false by rw [HK.out, decide_eq_false hp, decide_eq_false hq]; rfl)
     go_wp2_with fail
     go_roundw
     case rel => exact ⟨k + 1, by omega, by go_num, fun j hj => by
      by_cases e : j = k
      ·subst e; exact HN.out
      ·exact Hno.out j (by omega), trivial⟩
     case measure => simp [intOf]; omega
  ·have htk : decide ((k : Int) < (ts.length : Int)) = false := by simp; omega
   have HR := Lib.hid (show beyB ts = false from beyB_no (by omega) (fun j hj => hno j (by omega)))
   clear hno
   go_wp2_with fail
   go_ret
   exact ⟨by rw [HR.out]; rfl, Below.refl _ _⟩
set_option maxRecDepth 100000 in
set_option maxHeartbeats 4000000 in
theorem kit_samelongs (v v2 : Value) (xs ys : List Int) (w : World) (hv : RL w.heap.size w v xs) (hv2 : RL w.heap.size w v2 ys) :
  Calls Try.prog 10 #[v, v2] w fun e w' => e = .returned (.bool (decide (xs = ys))) ∧ Below w.heap.size w w' := by
 obtain ⟨ao, cap, rfl, hle, h0⟩ := hv.open
 obtain ⟨ao2, cap2, rfl, hle2, h02⟩ := hv2.open
 have H0 := Lib.hid h0
 have H02 := Lib.hid h02
 clear hv hv2 h0 h02
 go_enter Try.func10, Try.ntmps10
 by_cases hl : xs.length = ys.length
 rotate_left
 ·have hd : ((xs.length : Int) != (ys.length : Int)) = true := by simp; omega
  have HR := Lib.hid (show decide (xs = ys) = false from decide_eq_false (fun e => hl (by rw [e])))
  clear hl
  go_wp2_with fail
  go_ret
  exact ⟨by rw [HR.out]; rfl, Below.refl _ _⟩
 obtain ⟨n, hn⟩ : ∃ n, ys.length = n := ⟨_, rfl⟩
 have Hx := Lib.hid (hl.trans hn)
 have Hy := Lib.hid hn
 rw [hl, hn]
 rw [hl, hn] at H0
 rw [hn] at H02
 have hd : ((n : Int) != (n : Int)) = false := by simp
 rw [hn] at hle2
 clear hl hn hle
 go_wp2_with fail
 go_loopw [5] (fun s wr => ∃ k : Nat, k ≤ n ∧ s = .int .i64 k ∧ (∀ j, j < k → gi xs j = gi ys j) ∧ Below w.heap.size w wr) (fun s _ => n - (intOf s).toNat)
 case atStart => exact ⟨0, Nat.zero_le _, rfl, fun j hj => by omega, Below.refl _ _⟩
 case round =>
  obtain ⟨k, hk, rfl, hno, hbw⟩ := hrel
  have HW := Lib.hid hbw
  have Hno := Lib.hid hno
  clear hbw hno
  obtain ⟨wa, hwa⟩ : ∃ V, V = wr := ⟨_, rfl⟩
  subst hwa
  by_cases hlt : k < n
  ·have htk : decide ((k : Int) < (n : Int)) = true := by simp; omega
   obtain ⟨b, off, rfl, hb, hc⟩ := H0.out (by omega)
   obtain ⟨b2, off2, rfl, hb2, hc2⟩ := H02.out (by omega)
   obtain ⟨x, hx⟩ : ∃ x, gi xs k = x := ⟨_, rfl⟩
   obtain ⟨y, hy⟩ : ∃ y, gi ys k = y := ⟨_, rfl⟩
   have cx : wa.cell? ⟨b, off + k, none⟩ = some (.int .i64 x) := by rw [← hx]; exact ((bcell HW.out).1 b (off + k) hb).trans (hc k hlt)
   have cy : wa.cell? ⟨b2, off2 + k, none⟩ = some (.int .i64 y) := by rw [← hy]; exact ((bcell HW.out).1 b2 (off2 + k) hb2).trans (hc2 k hlt)
   have k0 : (k : Int) < (n : Int) := by omega
   have k1 : (0 : Int) ≤ (k : Int) := by omega
   have Hxy := Lib.hid (And.intro hx hy)
   clear hc hc2 hx hy
   go_upto_region 6 with fail
   go_cut [25] (fun s wx => s = .bool (x != y) ∧ wx = wa.drew)
   case first =>
    refine wp_region_noPanic ?_
    refine wp_region_held_drew (S := (fun w' => w'.cell? ⟨b, off + k, none⟩ = some (.int .i64 x) ∧ w'.cell? ⟨b2, off2 + k, none⟩ = some (.int .i64 y))) (by kernel_rfl) ⟨cx, cy⟩ (fun hHeld => ?_)
    refine wpAnyH_take (i := 0) (v := ?_) rfl (by kernel_rfl) (by kernel_rfl) (by kernel_rfl) (fun _ _ _ h => h) (Or.inl ⟨by rfl, ?_⟩) (by assumption) ?_
    rotate_left
    ·intro w hSw; (try dsimp only at hSw); go_simp; (try with_reducible rfl)
    try simp only [Act.put, List.getElem_toArray, List.getElem_cons_zero, List.setIfInBounds_toArray, List.set_cons_zero, List.set_cons_succ]
    refine wpAnyH_take (i := 1) (v := ?_) rfl (by kernel_rfl) (by kernel_rfl) (by kernel_rfl) (fun _ _ _ h => h) (Or.inl ⟨by rfl, ?_⟩) (by assumption) ?_
    rotate_left
    ·intro w hSw; (try dsimp only at hSw); go_simp; (try with_reducible rfl)
    try simp only [Act.put, List.getElem_toArray, List.getElem_cons_zero, List.getElem_cons_succ, List.setIfInBounds_toArray, List.set_cons_zero, List.set_cons_succ]
    refine wpAnyH_take (i := 2) (v := ?_) rfl (by kernel_rfl) (by kernel_rfl) (by kernel_rfl) (fun _ _ _ h => h) (Or.inl ⟨by rfl, ?_⟩) (by assumption) ?_
    rotate_left
    ·intro w hSw; (try dsimp only at hSw); go_simp; (try with_reducible rfl)
    try simp only [Act.put, List.getElem_toArray, List.getElem_cons_zero, List.getElem_cons_succ, List.setIfInBounds_toArray, List.set_cons_zero, List.set_cons_succ]
    refine wpAnyH_take (i := 3) (v := ?_) rfl (by kernel_rfl) (by kernel_rfl) (by kernel_rfl) (fun _ _ _ h => h) (Or.inl ⟨by rfl, ?_⟩) (by assumption) ?_
    rotate_left
    ·intro w hSw; (try dsimp only at hSw); go_simp; (try with_reducible rfl)
    try simp only [Act.put, List.getElem_toArray, List.getElem_cons_zero, List.getElem_cons_succ, List.setIfInBounds_toArray, List.set_cons_zero, List.set_cons_succ]
    refine wpAnyH_take (i := 4) (v := ?_) rfl (by kernel_rfl) (by kernel_rfl) (by kernel_rfl) (fun _ _ _ h => h) (Or.inl ⟨by rfl, ?_⟩) (by assumption) ?_
    rotate_left
    ·intro w hSw; (try dsimp only at hSw); go_simp; (try with_reducible rfl)
    try simp only [Act.put, List.getElem_toArray, List.getElem_cons_zero, List.getElem_cons_succ, List.setIfInBounds_toArray, List.set_cons_zero, List.set_cons_succ]
    refine wpAnyH_take (i := 5) (v := ?_) rfl (by kernel_rfl) (by kernel_rfl) (by kernel_rfl) (fun _ _ _ h => h) (Or.inl ⟨by rfl, ?_⟩) (by assumption) ?_
    rotate_left
    ·intro w hSw; (try dsimp only at hSw); go_simp; (try with_reducible rfl)
    try simp only [Act.put, List.getElem_toArray, List.getElem_cons_zero, List.getElem_cons_succ, List.setIfInBounds_toArray, List.set_cons_zero, List.set_cons_succ]
    refine wpAnyH_take (i := 6) (v := ?_) rfl (by kernel_rfl) (by kernel_rfl) (by kernel_rfl) (fun _ _ _ h => h) (Or.inl ⟨by rfl, ?_⟩) (by assumption) ?_
    rotate_left
    ·intro w hSw; (try dsimp only at hSw); go_simp; (try with_reducible rfl)
    try simp only [Act.put, List.getElem_toArray, List.getElem_cons_zero, List.getElem_cons_succ, List.setIfInBounds_toArray, List.set_cons_zero, List.set_cons_succ]
    refine wpAnyH_take (i := 7) (v := ?_) rfl (by kernel_rfl) (by kernel_rfl) (by kernel_rfl) (fun _ _ _ h => h) (Or.inl ⟨by rfl, ?_⟩) (by assumption) ?_
    rotate_left
    ·intro w hSw; (try dsimp only at hSw); go_simp; (try with_reducible rfl)
    try simp only [Act.put, List.getElem_toArray, List.getElem_cons_zero, List.getElem_cons_succ, List.setIfInBounds_toArray, List.set_cons_zero, List.set_cons_succ]
    refine wpAnyH_take (i := 8) (v := ?_) rfl (by kernel_rfl) (by kernel_rfl) (by kernel_rfl) (fun _ _ _ h => h) (Or.inl ⟨by rfl, ?_⟩) (by assumption) ?_
    rotate_left
    ·intro w hSw; (try dsimp only at hSw); go_simp; (try with_reducible rfl)
    try simp only [Act.put, List.getElem_toArray, List.getElem_cons_zero, List.getElem_cons_succ, List.setIfInBounds_toArray, List.set_cons_zero, List.set_cons_succ]
    refine wpAnyH_done (by kernel_rfl) ?_ _
    refine NoPanic.normal ?_
    go_wp2_with fail
    go_meet
    exact ⟨rfl, rfl⟩
   case rest =>
    obtain ⟨rfl, hwc⟩ := hcut
    subst hwc
    have hw2 : Below w.heap.size w wa.drew := HW.out.drew
    clear cx cy HW
    generalize wa.drew = wb at *
    have HW := Lib.hid hw2
    clear hw2
    by_cases he : x = y
    ·have hxy : (x != y) = false := by simp [he]
     have HE := Lib.hid he
     clear he
     rw [hxy]
     go_wp2_with fail
     go_roundw
     case rel => exact ⟨k + 1, by omega, by go_num, fun j hj => by
      by_cases e : j = k
      ·subst e; rw [Hxy.out.1, Hxy.out.2]; exact HE.out
      ·exact Hno.out j (by omega), HW.out⟩
     case measure => simp [intOf]; omega
    ·have hxy : (x != y) = true := by simp [he]
     have HR := Lib.hid (show decide (xs = ys) = false from decide_eq_false (fun e => he (by rw [← Hxy.out.1, ← Hxy.out.2, e])))
     clear he
     rw [hxy]
     go_wp2_with fail
     go_ret
     exact ⟨by rw [HR.out]; rfl, HW.out⟩
  ·have htk : decide ((k : Int) < (n : Int)) = false := by simp; omega
   have HR := Lib.hid (show decide (xs = ys) = true from decide_eq_true (ext_gi2 (by rw [Hx.out, Hy.out]) (fun j hj => Hno.out j (by have := Hx.out; omega))))
   go_wp2_with fail
   go_ret
   exact ⟨by rw [HR.out]; rfl, HW.out⟩
set_option linter.unusedVariables false
set_option linter.unusedSimpArgs false
theorem wr_id {x : Int} (h : -9223372036854775808 ≤ x) (h' : x ≤ 9223372036854775807) : IntKind.i64.wrap x = x := IntWalk.i64_in _ ⟨h, h'⟩
theorem hp_lt3 {w : World} {b : Nat} {o : Obj} (h : w.heap[b]? = some o) : b < w.heap.size := (Array.getElem?_eq_some_iff.1 h).1
theorem hp_keep4 {w w' : World} {b : Nat} {o : Obj} (h : w.heap[b]? = some o) (hb : Below w.heap.size w w') : w'.heap[b]? = some o := (hb.block b (hp_lt3 h)).trans h
theorem row_at {w : World} {b k t : Nat} {l : List Value} {v : Value} (h : w.heap[b]? = some (.cells l.toArray t (0, 0))) (hk : l[k]? = some v) : w.cell? ⟨b, k, none⟩ = some v := by
 rw [cell_of_row _ b k _ _ _ h]
 simpa using hk
theorem row_set {w : World} {b k t : Nat} {l : List Value} {v : Value} (h : w.heap[b]? = some (.cells l.toArray t (0, 0))) : (w.setCell ⟨b, k, none⟩ v).heap[b]? = some (.cells (l.set k v).toArray t (0, 0)) := by
 rw [heap_setCell_same _ b k _ _ _ h, List.setIfInBounds_toArray]
theorem row_fro {w : World} {b k t : Nat} {l : List Value} (h : w.heap[b]? = some (.cells l.toArray t (0, 0))) : w.frozen? ⟨b, k, none⟩ = false := frozen_of_row _ b k _ _ h
theorem st1k_ne {w : World} {b i c : Nat} (x : Value) (h : c ≠ b) : (w.setCell ⟨b, i, none⟩ x).heap[c]? = w.heap[c]? := Below.heap_setCell _ _ _ _ h
theorem cell_of_heap {w w' : World} {b : Nat} (h : w'.heap[b]? = w.heap[b]?) (t : Nat) : w'.cell? ⟨b, t, none⟩ = w.cell? ⟨b, t, none⟩ := by unfold World.cell?; simp only [h]
def upI (f : Nat → Int) (i : Nat) (x : Int) : Nat → Int := fun k => if k = i then x else f k
def lV (q : IntKind) (V : Nat → Int) (M : Nat) : List Value := (List.range M).map fun k => Value.int q (V k)
theorem lV_len (q : IntKind) (V : Nat → Int) (M : Nat) : (lV q V M).length = M := by simp [lV]
theorem lV_at (q : IntKind) (V : Nat → Int) {M k : Nat} (hk : k < M) : (lV q V M)[k]? = some (.int q (V k)) := by unfold lV; rw [List.getElem?_map, List.getElem?_range hk]; rfl
theorem lV_set (q : IntKind) (V : Nat → Int) {M k : Nat} (x : Int) : (lV q V M).set k (.int q x) = lV q (upI V k x) M := by
 apply List.ext_getElem?
 intro i
 unfold lV
 rw [List.getElem?_set, List.getElem?_map, List.getElem?_map]
 by_cases h : i < M
 ·rw [List.getElem?_range h]
  by_cases e : k = i
  ·subst e; rw [if_pos rfl]; simp [h, upI]
  ·rw [if_neg e]; simp [upI]; intro c; exact absurd c.symm e
 ·rw [List.getElem?_eq_none (by simp; omega)]
  split
  ·simp; omega
  ·rfl
def stV (s l : Nat → Int) : Value := .agg #[.int .i64 (s 0), .int .i64 (s 1), .int .i64 (s 2), .int .i64 (s 3), .int .i64 (s 4), .int .i64 (s 5), .int .i64 (s 6), .int .i64 (s 7), .int .i64 (l 0), .int .i64 (l 1), .int .i64 (l 2), .int .i64 (l 3), .int .i64 (l 4), .int .i64 (l 5), .int .i64 (l 6), .int .i64 (l 7)]
def lS (s l : Nat → Int) : List Value := lV .i64 (fun k => if k < 8 then s k else l (k - 8)) 16
theorem lS_since (s l : Nat → Int) {k : Nat} (hk : k < 8) : (lS s l)[k]? = some (.int .i64 (s k)) := by unfold lS; rw [lV_at _ _ (by omega), if_pos hk]
theorem lS_left (s l : Nat → Int) {k : Nat} (hk : k < 8) : (lS s l)[8 + k]? = some (.int .i64 (l k)) := by unfold lS; rw [lV_at _ _ (by omega), if_neg (by omega), Nat.add_sub_cancel_left]
theorem lS_set0 (s l : Nat → Int) {k : Nat} (hk : k < 8) (x : Int) : (lS s l).set k (.int .i64 x) = lS (upI s k x) l := by
 unfold lS
 rw [lV_set]
 congr 1
 funext j
 show (if j = k then x else if j < 8 then s j else l (j - 8)) = if j < 8 then (if j = k then x else s j) else l (j - 8)
 by_cases e : j = k
 ·subst e; rw [if_pos rfl, if_pos hk, if_pos rfl]
 ·rw [if_neg e, if_neg e]
theorem lS_set1 (s l : Nat → Int) {k : Nat} (hk : k < 8) (x : Int) : (lS s l).set (8 + k) (.int .i64 x) = lS s (upI l k x) := by
 unfold lS
 rw [lV_set]
 congr 1
 funext j
 show (if j = 8 + k then x else if j < 8 then s j else l (j - 8)) = if j < 8 then s j else (if j - 8 = k then x else l (j - 8))
 by_cases e : j = 8 + k
 ·subst e; rw [if_pos rfl, if_neg (by omega), if_pos (by omega)]
 ·rw [if_neg e]
  by_cases c : j < 8
  ·rw [if_pos c, if_pos c]
  ·rw [if_neg c, if_neg c, if_neg (by omega)]
def inS (set i : Nat) : Bool := decide (set / 2 ^ i % 2 = 1)
theorem bits_one256 (m : Nat) (h : m < 256) : bits .and .i64 (m : Int) 1 = ((m % 2 : Nat) : Int) := by
 have key : ∀ m : Fin 256, bits .and .i64 ((m.val : Nat) : Int) 1 = ((m.val % 2 : Nat) : Int) := by decide +kernel
 exact key ⟨m, h⟩
theorem bit_in {set k : Nat} (h : set < 256) : (bits .and .i64 ((set : Int) / 2 ^ k) 1 == 1) = inS set k := by
 have l : set / 2 ^ k < 256 := Nat.lt_of_le_of_lt (Nat.div_le_self _ _) h
 have e : (set : Int) / 2 ^ k = ((set / 2 ^ k : Nat) : Int) := by push_cast; rfl
 rw [e, bits_one256 _ l]
 unfold inS
 have : set / 2 ^ k % 2 = 0 ∨ set / 2 ^ k % 2 = 1 := by omega
 rcases this with q | q <;> rw [q] <;> rfl
theorem u64_small {k : Nat} (h : k < 8) : IntKind.u64.wrap (k : Int) = (k : Int) := by
 have key : ∀ m : Fin 8, IntKind.u64.wrap ((m.val : Nat) : Int) = ((m.val : Nat) : Int) := by decide +kernel
 exact key ⟨k, h⟩
def mayB (ts : List Tk) (s : Nat → Int) (set : Nat) : Bool := (List.range ts.length).all fun i => !(inS set i && decide (s i < (tk ts i).T))
def misB (ts : List Tk) (s l : Nat → Int) : Bool := (List.range ts.length).any fun i => decide (0 < l i) && decide ((tk ts i).D ≤ s i)
end Go.Proofs.Ytokljoajalmkfaa
