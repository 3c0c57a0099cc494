/- holds over the locations and over the edges of a flat. -/
import Derived.Test.YtfphlpglgcmljaaGreatPzk
import Derived.Laws.EntriesVeiled
import Derived.Shelf.Abstract
import Derived.Deep.DeepCutAuto
namespace Go.Proofs.YtfphlpglgcmljaaGreat
open Go.RowKit
set_option linter.unusedVariables false

/-- A location of a flat: its invariant as a value and as a list. -/
structure Fl where
  v : Value
  cs : List Kc
  u : Bool
  rate : Int
/-- An edge of a flat. -/
structure Fe where
  a : Int
  b : Int
  gv : Value
  gs : List Kc
  rv : Value
  rs : List (Int × Int)
  act : Int
  kind : Int
  cost : Int
def cdLoc : Cd Fl := ⟨3, fun x => [x.v, .bool x.u, .int .i64 x.rate], fun _ => rfl, ⟨.slice none 0 0, [], false, 0⟩⟩
def cdEdg : Cd Fe := ⟨7, fun x => [.int .i64 x.a, .int .i64 x.b, x.gv, x.rv, .int .i64 x.act, .int .i64 x.kind, .int .i64 x.cost], fun _ => rfl, ⟨0, 0, .slice none 0 0, [], .slice none 0 0, [], 0, 0, 0⟩⟩
/-- Locations that read as told, their invariants too. -/
def LocsR (w : World) (v : Value) (ls : List Fl) : Prop := RX cdLoc w.heap.size w v ls ∧ ∀ x, x ∈ ls → RX cdCon w.heap.size w x.v x.cs
def EdgsR (w : World) (v : Value) (es : List Fe) : Prop := RX cdEdg w.heap.size w v es ∧ ∀ x, x ∈ es → RX cdCon w.heap.size w x.gv x.gs ∧ RX cdRes w.heap.size w x.rv x.rs
theorem LocsR.keepb {w w' : World} {v : Value} {ls : List Fl} (h : LocsR w v ls) (hb : Below w.heap.size w w') : LocsR w' v ls := ⟨RX.keepb h.1 hb, fun x hx => RX.keepb (h.2 x hx) hb⟩
theorem EdgsR.keepb {w w' : World} {v : Value} {es : List Fe} (h : EdgsR w v es) (hb : Below w.heap.size w w') : EdgsR w' v es := ⟨RX.keepb h.1 hb, fun x hx => ⟨RX.keepb (h.2 x hx).1 hb, RX.keepb (h.2 x hx).2 hb⟩⟩
def locB (n : Int) (x : Fl) : Bool := invB n x.cs && btw x.rate 0 10000
def edgB (n last : Int) (x : Fe) : Bool := btw x.a 0 last && btw x.b 0 last && cnsB n x.gs && rssB n x.rs && btw x.act 0 1000 && btw x.kind 0 1 && btw x.cost 0 10000
/-- Is a flat valid? -/
def flatB (n init : Int) (ls : List Fl) (es : List Fe) : Bool :=
  btw n 0 8 && btw ls.length 1 64 && decide ((es.length : Int) ≤ 200) && btw init 0 ((ls.length : Int) - 1) && ls.all (locB n) && es.all (edgB n ((ls.length : Int) - 1))
def flatV (n init : Int) (ls : List Fl) (es : List Fe) : Int := if flatB n init ls es = true then 0 else 2
def encLoc : Fl → Value := fun x => .agg #[x.v, .bool x.u, .int .i64 x.rate]
set_option maxRecDepth 100000 in
set_option maxHeartbeats 2000000 in
theorem index_Loc (v fv : Value) (xs : List Fl) (q : Fl → Bool) (w : World) (hv : RX cdLoc w.heap.size w v xs) (hp : Prd encLoc fv w q xs) :
    Calls Tryz.prog 161 #[v, fv] w fun e w' => IxP q xs e ∧ Below w.heap.size w w' := by
  obtain ⟨ao, cap, rfl, hle, h0⟩ := hv.open
  obtain ⟨f, cf, rfl, hent, hF⟩ := hp
  have H0 := Lib.hid h0
  have HF := Lib.hid hF
  clear hv h0 hF
  go_enter Tryz.func161, Tryz.ntmps161
  go_wp2_with fail
  go_loopw [5, 8] (fun _ i wr => ∃ k : Nat, k ≤ xs.length ∧ i = .int .i64 k ∧ NoTo cdLoc q xs k ∧ Below w.heap.size w wr) (fun _ i _ => xs.length - (intOf i).toNat)
  case atStart => exact ⟨0, Nat.zero_le _, rfl, fun k hk => by omega, Below.refl _ _⟩
  case round =>
    obtain ⟨k, hk, rfl, hno, hbel⟩ := hrel
    have Hno := Lib.hid hno
    have Hbel := Lib.hid hbel
    clear hno hbel
    by_cases hlt : k < xs.length
    · have htk : decide ((k : Int) < (xs.length : Int)) = true := by simp; omega
      obtain ⟨b, off, rfl, hb, hc⟩ := H0.out (by omega)
      have hmem := Lib.hid (ge_mem cdLoc hlt)
      obtain ⟨E, hE⟩ : ∃ E, ge cdLoc xs k = E := ⟨_, rfl⟩
      have x0 : wr.cell? ⟨b, off + k * 3, none⟩ = some (E.v) := by
        have h := ((bcell Hbel.out).1 b (off + (k * 3 + 0)) hb).trans (hc k 0 hlt (by decide))
        rw [hE] at h
        rw [show off + k * 3 = off + (k * 3 + 0) by omega]
        exact h
      have x1 : wr.cell? ⟨b, off + k * 3 + 1, none⟩ = some (.bool E.u) := by
        have h := ((bcell Hbel.out).1 b (off + (k * 3 + 1)) hb).trans (hc k 1 hlt (by decide))
        rw [hE] at h
        rw [show off + k * 3 + 1 = off + (k * 3 + 1) by omega]
        exact h
      have x2 : wr.cell? ⟨b, off + k * 3 + 2, none⟩ = some (.int .i64 E.rate) := by
        have h := ((bcell Hbel.out).1 b (off + (k * 3 + 2)) hb).trans (hc k 2 hlt (by decide))
        rw [hE] at h
        rw [show off + k * 3 + 2 = off + (k * 3 + 2) by omega]
        exact h
      have HE := Lib.hid hE
      have k0 : (k : Int) < xs.length := by omega
      have k1 : (0 : Int) ≤ (k : Int) := by omega
      have HC := Lib.hid (fun w' hw => HF.out _ hmem.out w' hw)
      rw [hE] at HC
      clear hc hE hlt
      cases hq : q E with
      | true =>
        have HQ := Lib.hid (any_of (c := cdLoc) (p := q) (xs := xs) (q := k) (by omega) (by rw [HE.out]; exact hq))
        rw [hq] at HC
        clear hq
        go_wp2_with fail
        refine (HC.out wr Hbel.out).mono ?_
        rintro e w3 ⟨rfl, hb3⟩
        have HB3 := Lib.hid (bt Hbel.out hb3)
        clear hb3
        go_wp2_with fail
        go_ret
        exact ⟨⟨k, rfl, by rw [HQ.out]; simp⟩, HB3.out⟩
      | false =>
        have HQ := Lib.hid (Hno.out.succ (by rw [HE.out]; exact hq))
        rw [hq] at HC
        clear hq
        go_wp2_with fail
        refine (HC.out wr Hbel.out).mono ?_
        rintro e w3 ⟨rfl, hb3⟩
        have HB3 := Lib.hid (bt Hbel.out hb3)
        clear hb3
        go_wp2_with fail
        go_roundw
        case rel => exact ⟨k + 1, by omega, by go_num, HQ.out, HB3.out⟩
        case measure => simp [intOf]; omega
    · have htk : decide ((k : Int) < (xs.length : Int)) = false := by simp; omega
      have HQ := Lib.hid (NoTo.none (c := cdLoc) (p := q) (xs := xs) (by rw [show xs.length = k by omega]; exact Hno.out))
      go_wp2_with fail
      go_ret
      exact ⟨⟨-1, rfl, by rw [HQ.out]; rfl⟩, Hbel.out⟩
set_option maxHeartbeats 1000000 in
theorem contains_Loc (v fv : Value) (xs : List Fl) (q : Fl → Bool) (w : World) (hv : RX cdLoc w.heap.size w v xs) (hp : Prd encLoc fv w q xs) :
    Calls Tryz.prog 110 #[v, fv] w fun e w' => e = .returned (.bool (xs.any q)) ∧ Below w.heap.size w w' := by
  obtain ⟨ao, cap, rfl, hle, h0⟩ := hv.open
  have HI := index_Loc _ fv xs q w hv hp
  unfold IxP at HI
  generalize xs.any q = r at HI ⊢
  have HI := Lib.hid HI
  clear hv h0 hp
  go_enter Tryz.func110, Tryz.ntmps110
  go_wp2_with fail
  refine HI.out.mono ?_
  rintro e w1 ⟨⟨k, rfl, hk⟩, hb1⟩
  cases r with
  | true =>
    have hk : decide (0 ≤ k) = true := hk
    go_wp2_with fail
    go_ret
    exact ⟨rfl, hb1⟩
  | false =>
    have hk : decide (0 ≤ k) = false := hk
    go_wp2_with fail
    go_ret
    exact ⟨rfl, hb1⟩
set_option maxHeartbeats 1000000 in
theorem not_Loc (x : Fl) (tb : Nat) (fv : Value) (xs : List Fl) (q : Fl → Bool) (w : World) (hc : w.cell? ⟨tb, 0, none⟩ = some fv) (hx : x ∈ xs) (hp : Prd encLoc fv w q xs) :
    Calls Tryz.prog 111 (#[encLoc x] ++ #[.pointer (some ⟨tb, 0, none⟩)]) w fun e w' => e = .returned (.bool (!q x)) ∧ Below w.heap.size w w' := by
  obtain ⟨f, cf, rfl, hent, hF⟩ := hp
  have hloc := Loc.one w (.cells #[x.v, .bool x.u, .int .i64 x.rate] 73) none
  have HF := Lib.hid (hF x hx _ (below_grownBy hloc.grown))
  have htb := World.block_lt_of_cell? w _ hc
  have hc2 := keepb hc (below_grownBy hloc.grown)
  clear hF hc hx
  show Calls Tryz.prog 111 #[encLoc x, .pointer (some ⟨tb, 0, none⟩)] w _
  unfold encLoc at HF ⊢
  generalize q x = r at HF ⊢
  go_enter Tryz.func111, Tryz.ntmps111
  go_wp2_with fail
  refine HF.out.mono ?_
  rintro e w1 ⟨rfl, hb1⟩
  have hloc1 := hloc.next (grownBy_below hb1 none) (fun _ h => by cases h)
  clear hb1 hloc hc2
  cases r with
  | true =>
    go_wp2_with fail
    go_ret
    exact ⟨rfl, below_grownBy hloc1.grown⟩
  | false =>
    go_wp2_with fail
    go_ret
    exact ⟨rfl, below_grownBy hloc1.grown⟩
theorem ents_Loc : Enters Tryz.prog 111 := enters_of Tryz.func111 (by kernel_rfl) rfl
set_option maxHeartbeats 1000000 in
theorem holds_Loc (v fv : Value) (xs : List Fl) (q : Fl → Bool) (w : World) (hv : RX cdLoc w.heap.size w v xs) (hp : Prd encLoc fv w q xs) :
    Calls Tryz.prog 42 #[v, fv] w fun e w' => e = .returned (.bool (xs.all q)) ∧ Below w.heap.size w w' := by
  obtain ⟨ao, cap, rfl, hle, h0⟩ := hv.open
  have hloc := Loc.one w (.cells #[fv] 87) none
  have hn : Prd encLoc (.func (.func 111) #[] #[.pointer (some ⟨w.heap.size, 0, none⟩)]) (w.alloc (.cells #[fv] 87)) (fun x => !q x) xs :=
    ⟨_, _, rfl, ents_Loc, fun x hx w' hw => not_Loc x w.heap.size fv xs q w' (keepb (hloc.cell 0 rfl 0) hw) hx (hp.later (bt (below_grownBy hloc.grown) hw))⟩
  have HC := contains_Loc _ _ xs _ _ (hv.keepb (below_grownBy hloc.grown)) hn
  rw [← all_any q xs]
  generalize xs.any (fun x => !q x) = r at HC ⊢
  have HC := Lib.hid HC
  obtain ⟨f, cf, rfl, hent, hF⟩ := hp
  clear hv h0 hn hF
  go_enter Tryz.func42, Tryz.ntmps42
  go_wp2_with fail
  refine HC.out.mono ?_
  rintro e w1 ⟨rfl, hb1⟩
  have hloc1 := hloc.next (grownBy_below hb1 none) (fun _ h => by cases h)
  clear hb1 hloc
  cases r with
  | true =>
    go_wp2_with fail
    go_ret
    exact ⟨rfl, below_grownBy hloc1.grown⟩
  | false =>
    go_wp2_with fail
    go_ret
    exact ⟨rfl, below_grownBy hloc1.grown⟩
def encEdg : Fe → Value := fun x => .agg #[.int .i64 x.a, .int .i64 x.b, x.gv, x.rv, .int .i64 x.act, .int .i64 x.kind, .int .i64 x.cost]
set_option maxRecDepth 100000 in
set_option maxHeartbeats 2000000 in
theorem index_Edg (v fv : Value) (xs : List Fe) (q : Fe → Bool) (w : World) (hv : RX cdEdg w.heap.size w v xs) (hp : Prd encEdg fv w q xs) :
    Calls Tryz.prog 164 #[v, fv] w fun e w' => IxP q xs e ∧ Below w.heap.size w w' := by
  obtain ⟨ao, cap, rfl, hle, h0⟩ := hv.open
  obtain ⟨f, cf, rfl, hent, hF⟩ := hp
  have H0 := Lib.hid h0
  have HF := Lib.hid hF
  clear hv h0 hF
  go_enter Tryz.func164, Tryz.ntmps164
  go_wp2_with fail
  go_loopw [5, 8] (fun _ i wr => ∃ k : Nat, k ≤ xs.length ∧ i = .int .i64 k ∧ NoTo cdEdg q xs k ∧ Below w.heap.size w wr) (fun _ i _ => xs.length - (intOf i).toNat)
  case atStart => exact ⟨0, Nat.zero_le _, rfl, fun k hk => by omega, Below.refl _ _⟩
  case round =>
    obtain ⟨k, hk, rfl, hno, hbel⟩ := hrel
    have Hno := Lib.hid hno
    have Hbel := Lib.hid hbel
    clear hno hbel
    by_cases hlt : k < xs.length
    · have htk : decide ((k : Int) < (xs.length : Int)) = true := by simp; omega
      obtain ⟨b, off, rfl, hb, hc⟩ := H0.out (by omega)
      have hmem := Lib.hid (ge_mem cdEdg hlt)
      obtain ⟨E, hE⟩ : ∃ E, ge cdEdg xs k = E := ⟨_, rfl⟩
      have x0 : wr.cell? ⟨b, off + k * 7, none⟩ = some (.int .i64 E.a) := by
        have h := ((bcell Hbel.out).1 b (off + (k * 7 + 0)) hb).trans (hc k 0 hlt (by decide))
        rw [hE] at h
        rw [show off + k * 7 = off + (k * 7 + 0) by omega]
        exact h
      have x1 : wr.cell? ⟨b, off + k * 7 + 1, none⟩ = some (.int .i64 E.b) := by
        have h := ((bcell Hbel.out).1 b (off + (k * 7 + 1)) hb).trans (hc k 1 hlt (by decide))
        rw [hE] at h
        rw [show off + k * 7 + 1 = off + (k * 7 + 1) by omega]
        exact h
      have x2 : wr.cell? ⟨b, off + k * 7 + 2, none⟩ = some (E.gv) := by
        have h := ((bcell Hbel.out).1 b (off + (k * 7 + 2)) hb).trans (hc k 2 hlt (by decide))
        rw [hE] at h
        rw [show off + k * 7 + 2 = off + (k * 7 + 2) by omega]
        exact h
      have x3 : wr.cell? ⟨b, off + k * 7 + 3, none⟩ = some (E.rv) := by
        have h := ((bcell Hbel.out).1 b (off + (k * 7 + 3)) hb).trans (hc k 3 hlt (by decide))
        rw [hE] at h
        rw [show off + k * 7 + 3 = off + (k * 7 + 3) by omega]
        exact h
      have x4 : wr.cell? ⟨b, off + k * 7 + 4, none⟩ = some (.int .i64 E.act) := by
        have h := ((bcell Hbel.out).1 b (off + (k * 7 + 4)) hb).trans (hc k 4 hlt (by decide))
        rw [hE] at h
        rw [show off + k * 7 + 4 = off + (k * 7 + 4) by omega]
        exact h
      have x5 : wr.cell? ⟨b, off + k * 7 + 5, none⟩ = some (.int .i64 E.kind) := by
        have h := ((bcell Hbel.out).1 b (off + (k * 7 + 5)) hb).trans (hc k 5 hlt (by decide))
        rw [hE] at h
        rw [show off + k * 7 + 5 = off + (k * 7 + 5) by omega]
        exact h
      have x6 : wr.cell? ⟨b, off + k * 7 + 6, none⟩ = some (.int .i64 E.cost) := by
        have h := ((bcell Hbel.out).1 b (off + (k * 7 + 6)) hb).trans (hc k 6 hlt (by decide))
        rw [hE] at h
        rw [show off + k * 7 + 6 = off + (k * 7 + 6) by omega]
        exact h
      have HE := Lib.hid hE
      have k0 : (k : Int) < xs.length := by omega
      have k1 : (0 : Int) ≤ (k : Int) := by omega
      have HC := Lib.hid (fun w' hw => HF.out _ hmem.out w' hw)
      rw [hE] at HC
      clear hc hE hlt
      cases hq : q E with
      | true =>
        have HQ := Lib.hid (any_of (c := cdEdg) (p := q) (xs := xs) (q := k) (by omega) (by rw [HE.out]; exact hq))
        rw [hq] at HC
        clear hq
        go_wp2_with fail
        refine (HC.out wr Hbel.out).mono ?_
        rintro e w3 ⟨rfl, hb3⟩
        have HB3 := Lib.hid (bt Hbel.out hb3)
        clear hb3
        go_wp2_with fail
        go_ret
        exact ⟨⟨k, rfl, by rw [HQ.out]; simp⟩, HB3.out⟩
      | false =>
        have HQ := Lib.hid (Hno.out.succ (by rw [HE.out]; exact hq))
        rw [hq] at HC
        clear hq
        go_wp2_with fail
        refine (HC.out wr Hbel.out).mono ?_
        rintro e w3 ⟨rfl, hb3⟩
        have HB3 := Lib.hid (bt Hbel.out hb3)
        clear hb3
        go_wp2_with fail
        go_roundw
        case rel => exact ⟨k + 1, by omega, by go_num, HQ.out, HB3.out⟩
        case measure => simp [intOf]; omega
    · have htk : decide ((k : Int) < (xs.length : Int)) = false := by simp; omega
      have HQ := Lib.hid (NoTo.none (c := cdEdg) (p := q) (xs := xs) (by rw [show xs.length = k by omega]; exact Hno.out))
      go_wp2_with fail
      go_ret
      exact ⟨⟨-1, rfl, by rw [HQ.out]; rfl⟩, Hbel.out⟩
set_option maxHeartbeats 1000000 in
theorem contains_Edg (v fv : Value) (xs : List Fe) (q : Fe → Bool) (w : World) (hv : RX cdEdg w.heap.size w v xs) (hp : Prd encEdg fv w q xs) :
    Calls Tryz.prog 114 #[v, fv] w fun e w' => e = .returned (.bool (xs.any q)) ∧ Below w.heap.size w w' := by
  obtain ⟨ao, cap, rfl, hle, h0⟩ := hv.open
  have HI := index_Edg _ fv xs q w hv hp
  unfold IxP at HI
  generalize xs.any q = r at HI ⊢
  have HI := Lib.hid HI
  clear hv h0 hp
  go_enter Tryz.func114, Tryz.ntmps114
  go_wp2_with fail
  refine HI.out.mono ?_
  rintro e w1 ⟨⟨k, rfl, hk⟩, hb1⟩
  cases r with
  | true =>
    have hk : decide (0 ≤ k) = true := hk
    go_wp2_with fail
    go_ret
    exact ⟨rfl, hb1⟩
  | false =>
    have hk : decide (0 ≤ k) = false := hk
    go_wp2_with fail
    go_ret
    exact ⟨rfl, hb1⟩
set_option maxHeartbeats 1000000 in
theorem not_Edg (x : Fe) (tb : Nat) (fv : Value) (xs : List Fe) (q : Fe → Bool) (w : World) (hc : w.cell? ⟨tb, 0, none⟩ = some fv) (hx : x ∈ xs) (hp : Prd encEdg fv w q xs) :
    Calls Tryz.prog 115 (#[encEdg x] ++ #[.pointer (some ⟨tb, 0, none⟩)]) w fun e w' => e = .returned (.bool (!q x)) ∧ Below w.heap.size w w' := by
  obtain ⟨f, cf, rfl, hent, hF⟩ := hp
  have hloc := Loc.one w (.cells #[.int .i64 x.a, .int .i64 x.b, x.gv, x.rv, .int .i64 x.act, .int .i64 x.kind, .int .i64 x.cost] 76) none
  have HF := Lib.hid (hF x hx _ (below_grownBy hloc.grown))
  have htb := World.block_lt_of_cell? w _ hc
  have hc2 := keepb hc (below_grownBy hloc.grown)
  clear hF hc hx
  show Calls Tryz.prog 115 #[encEdg x, .pointer (some ⟨tb, 0, none⟩)] w _
  unfold encEdg at HF ⊢
  generalize q x = r at HF ⊢
  go_enter Tryz.func115, Tryz.ntmps115
  go_wp2_with fail
  refine HF.out.mono ?_
  rintro e w1 ⟨rfl, hb1⟩
  have hloc1 := hloc.next (grownBy_below hb1 none) (fun _ h => by cases h)
  clear hb1 hloc hc2
  cases r with
  | true =>
    go_wp2_with fail
    go_ret
    exact ⟨rfl, below_grownBy hloc1.grown⟩
  | false =>
    go_wp2_with fail
    go_ret
    exact ⟨rfl, below_grownBy hloc1.grown⟩
theorem ents_Edg : Enters Tryz.prog 115 := enters_of Tryz.func115 (by kernel_rfl) rfl
set_option maxHeartbeats 1000000 in
theorem holds_Edg (v fv : Value) (xs : List Fe) (q : Fe → Bool) (w : World) (hv : RX cdEdg w.heap.size w v xs) (hp : Prd encEdg fv w q xs) :
    Calls Tryz.prog 46 #[v, fv] w fun e w' => e = .returned (.bool (xs.all q)) ∧ Below w.heap.size w w' := by
  obtain ⟨ao, cap, rfl, hle, h0⟩ := hv.open
  have hloc := Loc.one w (.cells #[fv] 90) none
  have hn : Prd encEdg (.func (.func 115) #[] #[.pointer (some ⟨w.heap.size, 0, none⟩)]) (w.alloc (.cells #[fv] 90)) (fun x => !q x) xs :=
    ⟨_, _, rfl, ents_Edg, fun x hx w' hw => not_Edg x w.heap.size fv xs q w' (keepb (hloc.cell 0 rfl 0) hw) hx (hp.later (bt (below_grownBy hloc.grown) hw))⟩
  have HC := contains_Edg _ _ xs _ _ (hv.keepb (below_grownBy hloc.grown)) hn
  rw [← all_any q xs]
  generalize xs.any (fun x => !q x) = r at HC ⊢
  have HC := Lib.hid HC
  obtain ⟨f, cf, rfl, hent, hF⟩ := hp
  clear hv h0 hn hF
  go_enter Tryz.func46, Tryz.ntmps46
  go_wp2_with fail
  refine HC.out.mono ?_
  rintro e w1 ⟨rfl, hb1⟩
  have hloc1 := hloc.next (grownBy_below hb1 none) (fun _ h => by cases h)
  clear hb1 hloc
  cases r with
  | true =>
    go_wp2_with fail
    go_ret
    exact ⟨rfl, below_grownBy hloc1.grown⟩
  | false =>
    go_wp2_with fail
    go_ret
    exact ⟨rfl, below_grownBy hloc1.grown⟩
end Go.Proofs.YtfphlpglgcmljaaGreat
