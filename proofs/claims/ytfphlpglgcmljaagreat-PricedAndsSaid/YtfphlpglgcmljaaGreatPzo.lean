/- Clone of numbers; what a priced zone is made of, of both sides. -/
import Derived.Test.YtfphlpglgcmljaaGreatPzm
namespace Go.Proofs.YtfphlpglgcmljaaGreat
open Go.RowKit
set_option linter.unusedVariables false

set_option maxHeartbeats 1000000 in
theorem clone64 (v : Value) (xs : List Int) (w : World) (hv : RL w.heap.size w v xs) (hx : xs.length ≤ 1000) :
    Calls Tryz.prog 78 #[v] w fun e w' => LP 2 w.heap.size xs e w' ∧ Below w.heap.size w w' := by
  have heq : ∀ (W : World) (a : Option Addr) (n c : Nat), (binOp .eql 33 (.slice a n c) (.slice none 0 0)).run Tryz.prog W = .ok (.bool a.isNone) W := fun W a n c => Lib.run_eql_slice_nil W 33 2 a n c 0 0 Tryz.undL64
  rcases hv.head with ⟨rfl, h1, h2⟩ | ⟨ad, cap, rfl, _⟩
  · obtain rfl : xs = [] := List.eq_nil_of_length_eq_zero h1
    clear hv h1 h2 hx
    go_enter Tryz.func78, Tryz.ntmps78
    go_wp2_with fail
    go_ret
    exact ⟨⟨_, rfl, OL.nil _ _ _⟩, Below.refl _ _⟩
  · obtain ⟨i0, hi, hz0, hz1, hz2⟩ := info_parts Tryz.infL64
    have Hv := Lib.hid (show RL w.heap.size (w.alloc (.cells #[] 2)) (.slice (some ad) xs.length cap) xs from RS.keep hv ((Below.refl _ _).alloc (Nat.le_refl _) _))
    have Ho : Hid ((w.alloc (.cells #[] 2)).ownsRow w.heap.size 2 1 (.slice (some ⟨w.heap.size, 0, none⟩) 0 0) 0 []) := Lib.hid (owns_empty (heap_alloc_new w _) (Nat.le_refl _))
    have Hm := Lib.hid (show 0 + xs.length ≤ maxLen by unfold maxLen; omega)
    have Hby := Lib.hid (show (0 + xs.length) * 8 ≤ 140737488355328 by omega)
    have Hba := Lib.hid (show w.heap.size ≤ (w.alloc (.cells #[] 2)).heap.size by simp)
    have Hl := Lib.hid (show (xs.map (Value.int .i64)).length = xs.length * 1 by simp)
    have Hi := Lib.hid hi
    have Hz0 := Lib.hid hz0
    have Hz1 := Lib.hid hz1
    have Hz2 := Lib.hid hz2
    clear hv hi hz0 hz1 hz2 hx
    go_enter Tryz.func78, Tryz.ntmps78
    go_wp2_with (at_builtin; (refine wpList_append_rs (v := .slice (some ⟨w.heap.size, 0, none⟩) 0 0) (n := 0) (xs := []) (xv := .slice (some ad) xs.length cap) (m := xs.length) (news := xs.map (Value.int .i64)) ?_ (.tmp 5) (.tmp 6) 33 ?_ w.heap.size 2 i0 (.int .i64 0) 1 8 Tryz.undL64 Hi.out Hz0.out Hz1.out Hz2.out ?_ ?_ ?_ ?_ w.heap.size ?_ ?_ ?_ ?_ ?_ ?_ ?_ ?_; rfl; rfl; rfl; decide; rfl; exact Ho.out; rfl; exact Hv.out; exact Hl.out; exact ints_oneCell' _; exact Hm.out; exact Hby.out; exact Hba.out; intro v' w1 hown1 hg1; obtain ⟨ao1, cap1, rfl⟩ := owns_form hown1))
    go_ret
    have hn : 0 + xs.length = xs.length := Nat.zero_add _
    rw [hn] at hown1
    simp only [List.nil_append] at hown1
    exact ⟨⟨_, rfl, hown1⟩, (Loc.one w (.cells #[] 2) none).below0 hg1⟩
/-- What a priced zone is. -/
structure Pv where
  n : Int
  xs : List Int
  c : Int
  rs : List Int
def pv0 : Pv := ⟨0, [], 0, []⟩
/-- A call returns a priced zone and an error. -/
def PE (zv : Value) (base : Nat) (r : Pv × Int) (e : Ending) (w' : World) : Prop := ∃ rv, e = .returned (.tuple #[.agg #[.int .i64 r.1.n, if r.2 = 0 then zv else .slice none 0 0, .int .i64 r.1.c, rv], .int .i64 r.2]) ∧ OL 2 base w' rv r.1.rs
def resF (n : Int) (xs : List Int) (c : Int) (rs : List Int) : Pv × Int := if rngB xs c rs = true then (⟨n, xs, c, rs⟩, 0) else (pv0, 7)
theorem resF_bad {n c : Int} {xs rs : List Int} (h : rngB xs c rs = false) : resF n xs c rs = (pv0, 7) := by unfold resF; rw [if_neg (by rw [h]; simp)]
theorem resF_ok {n c : Int} {xs rs : List Int} (h : rngB xs c rs = true) : resF n xs c rs = (⟨n, xs, c, rs⟩, 0) := by unfold resF; rw [if_pos h]
theorem RL.nil (B : Nat) (w : World) : RL B w (.slice none 0 0) [] := .inl ⟨rfl, rfl, rfl⟩
theorem PE.err {zv : Value} {base : Nat} {r : Pv × Int} {x : Int} (h : r = (pv0, x)) (hx : x ≠ 0) (w' : World) : PE zv base r (.returned (.tuple #[.agg #[.int .i64 0, .slice none 0 0, .int .i64 0, .slice none 0 0], .int .i64 x])) w' := by
  subst h; exact ⟨.slice none 0 0, by rw [if_neg hx]; rfl, OL.nil _ _ _⟩
theorem PE.ok {zv : Value} {base : Nat} {r : Pv × Int} {n c : Int} {xs rs : List Int} {rv : Value} {w' : World} (h : r = (⟨n, xs, c, rs⟩, 0)) (h2 : OL 2 base w' rv rs) :
    PE zv base r (.returned (.tuple #[.agg #[.int .i64 n, zv, .int .i64 c, rv], .int .i64 0])) w' := by
  subst h; exact ⟨rv, rfl, h2⟩
/-- A priced zone that the call has made. -/
def PO (base : Nat) (r : Pv × Int) (e : Ending) (w' : World) : Prop := ∃ v rv, e = .returned (.tuple #[.agg #[.int .i64 r.1.n, v, .int .i64 r.1.c, rv], .int .i64 r.2]) ∧ OL 63 base w' v r.1.xs ∧ OL 2 base w' rv r.1.rs
theorem PO.err {base : Nat} {r : Pv × Int} {x : Int} (h : r = (pv0, x)) (w' : World) : PO base r (.returned (.tuple #[.agg #[.int .i64 0, .slice none 0 0, .int .i64 0, .slice none 0 0], .int .i64 x])) w' := by
  subst h; exact ⟨.slice none 0 0, .slice none 0 0, rfl, OL.nil _ _ _, OL.nil _ _ _⟩
/-- What result returns: the priced zone, or zeros and an error. -/
def RP (b : Bool) (u : Value) (e : Ending) : Prop := e = .returned (.tuple #[if b = true then u else .agg #[.int .i64 0, .slice none 0 0, .int .i64 0, .slice none 0 0], .int .i64 (if b = true then 0 else 7)])
theorem RP.yes {b : Bool} {u : Value} (h : b = true) : RP b u (.returned (.tuple #[u, .int .i64 0])) := by subst h; rfl
theorem RP.no {b : Bool} {u : Value} (h : b = false) : RP b u (.returned (.tuple #[.agg #[.int .i64 0, .slice none 0 0, .int .i64 0, .slice none 0 0], .int .i64 7])) := by subst h; rfl
/-- What holds while the rates are looked through: was something out of range? -/
def BadTo (xs : List Int) (c : Int) (rs : List Int) (k : Nat) (b : Bool) : Prop := b = false ↔ (cstB c = true ∧ xs.all frB = true ∧ YesTo cdI64 slB rs k)
theorem BadTo.stay {xs : List Int} {c : Int} {rs : List Int} {k : Nat} (h : BadTo xs c rs k true) : BadTo xs c rs (k + 1) true := by
  constructor
  · intro h2; cases h2
  · rintro ⟨a, b, d⟩
    exact h.2 ⟨a, b, fun j hj => d j (by omega)⟩
theorem BadTo.next {xs : List Int} {c : Int} {rs : List Int} {k : Nat} (h : BadTo xs c rs k false) : BadTo xs c rs (k + 1) (!slB (ge cdI64 rs k)) := by
  obtain ⟨a, b, d⟩ := h.1 rfl
  constructor
  · intro h2
    exact ⟨a, b, d.succ (by simpa using h2)⟩
  · rintro ⟨_, _, h3⟩
    have := h3 k (by omega)
    rw [this]; rfl
theorem BadTo.fin {xs : List Int} {c : Int} {rs : List Int} {b : Bool} (h : BadTo xs c rs rs.length b) : rngB xs c rs = !b := by
  cases b with
  | false =>
    obtain ⟨a, d, e⟩ := h.1 rfl
    exact rngB_ok d a e.all
  | true =>
    show rngB xs c rs = false
    cases hr : rngB xs c rs with
    | false => rfl
    | true =>
      unfold rngB at hr
      rw [Bool.and_eq_true, Bool.and_eq_true] at hr
      have := h.2 ⟨hr.1.1, hr.2, fun k hk => (List.all_eq_true.1 hr.1.2) _ (ge_mem cdI64 hk)⟩
      cases this
set_option maxRecDepth 100000 in
set_option maxHeartbeats 4000000 in
theorem ref_result (n c : Int) (v rv : Value) (xs rs : List Int) (w : World) (hv : RL w.heap.size w v xs) (hr : RL w.heap.size w rv rs) :
    Calls Tryz.prog 84 #[.agg #[.int .i64 n, v, .int .i64 c, rv]] w fun e w' => RP (rngB xs c rs) (.agg #[.int .i64 n, v, .int .i64 c, rv]) e ∧ Below w.heap.size w w' := by
  obtain ⟨ao, cap, rfl, hle, _⟩ := hv.open
  obtain ⟨aor, capr, rfl, hler, h0r⟩ := (RL.re hr).open
  have hloc := Loc.two w (.cells #[.int .i64 n, .slice ao xs.length cap, .int .i64 c, .slice aor rs.length capr] 35) (.cells #[.int .i64 0, .slice none 0 0, .int .i64 0, .slice none 0 0] 35) none
  have H0r := Lib.hid h0r
  have Hv := Lib.hid hv
  have Hr := Lib.hid hr
  have H1 := Lib.hid (fun w' (hb : Below w.heap.size w w') => ref_near n _ xs w' (Hv.out.keepb hb))
  have H2 := Lib.hid (fun w => ref_within c 1152921504606846976 w (by omega) (by omega))
  clear hv hr h0r
  obtain ⟨b0, hb0⟩ : ∃ b, b = !(cstB c && xs.all frB) := ⟨_, rfl⟩
  have HB0 := Lib.hid (show BadTo xs c rs 0 b0 by
    unfold BadTo; rw [hb0]; simp only [Bool.not_eq_false', Bool.and_eq_true]
    exact ⟨fun h => ⟨h.1, h.2, fun k hk => by omega⟩, fun h => ⟨h.1, h.2.1⟩⟩)
  have Hb0 := Lib.hid hb0
  clear hb0
  go_enter Tryz.func84, Tryz.ntmps84
  go_upto_region 1 with fail
  go_cut [4] (fun s4 wx => s4 = .bool b0 ∧ Loc w wx none [.cells #[.int .i64 n, .slice ao xs.length cap, .int .i64 c, .slice aor rs.length capr] 35, .cells #[.int .i64 0, .slice none 0 0, .int .i64 0, .slice none 0 0] 35])
  case first =>
    cases hs : btw c (-1152921504606846976) 1152921504606846976 with
    | false =>
      have HR := Lib.hid (show true = b0 by rw [Hb0.out]; unfold cstB; rw [hs]; rfl)
      rw [hs] at H2
      clear hs
      go_wp2_with fail
      refine (H2.out _).mono ?_
      rintro e w1 ⟨rfl, rfl⟩
      go_wp2_with fail
      go_meet
      exact ⟨by rw [← HR.out], hloc⟩
    | true =>
      have HR := Lib.hid (show (!xs.all frB) = b0 by rw [Hb0.out]; unfold cstB; rw [hs]; rfl)
      rw [hs] at H2
      clear hs
      generalize xs.all frB = fa at H1 HR
      go_wp2_with fail
      refine (H2.out _).mono ?_
      rintro e w1 ⟨rfl, rfl⟩
      go_wp2_with fail
      refine (H1.out _ (below_grownBy hloc.grown)).mono ?_
      rintro e w2 ⟨rfl, hb2⟩
      have hloc2 := hloc.next (grownBy_below hb2 none) (fun _ h => by cases h)
      clear hb2 hloc
      cases fa with
      | true =>
        go_wp2_with fail
        go_meet
        exact ⟨by rw [← HR.out]; rfl, hloc2⟩
      | false =>
        go_wp2_with fail
        go_meet
        exact ⟨by rw [← HR.out]; rfl, hloc2⟩
  case rest =>
    obtain ⟨rfl, hloc2⟩ := hcut
    clear hloc
    go_wp2_with fail
    go_loopw [4, 5] (fun s4 i wr => ∃ (k : Nat) (b : Bool), k ≤ rs.length ∧ s4 = .bool b ∧ i = .int .i64 k ∧ BadTo xs c rs k b ∧ Loc w wr none [.cells #[.int .i64 n, .slice ao xs.length cap, .int .i64 c, .slice aor rs.length capr] 35, .cells #[.int .i64 0, .slice none 0 0, .int .i64 0, .slice none 0 0] 35]) (fun _ i _ => rs.length - (intOf i).toNat)
    case atStart => exact ⟨0, b0, Nat.zero_le _, rfl, rfl, HB0.out, hloc2⟩
    case round =>
      clear hloc2
      obtain ⟨k, b, hk, rfl, rfl, hbad, hloc⟩ := hrel
      have Hbad := Lib.hid hbad
      have Hbel := Lib.hid (below_grownBy hloc.grown)
      have z0 : wr.cell? ⟨w.heap.size, 0, none⟩ = some (.int .i64 n) := hloc.cell 0 rfl 0
      have z1 : wr.cell? ⟨w.heap.size, 1, none⟩ = some (.slice ao xs.length cap) := hloc.cell 0 rfl 1
      have z2 : wr.cell? ⟨w.heap.size, 2, none⟩ = some (.int .i64 c) := hloc.cell 0 rfl 2
      have z3 : wr.cell? ⟨w.heap.size, 3, none⟩ = some (.slice aor rs.length capr) := hloc.cell 0 rfl 3
      clear hbad
      by_cases hlt : k < rs.length
      · have htk : decide ((k : Int) < (rs.length : Int)) = true := by simp; omega
        cases b with
        | true =>
          have HQ := Lib.hid Hbad.out.stay
          go_wp2_with fail
          go_roundw
          case rel => exact ⟨k + 1, true, by omega, rfl, by go_num, HQ.out, hloc⟩
          case measure => simp [intOf]; omega
        | false =>
          have HQ := Lib.hid Hbad.out.next
          obtain ⟨b, off, rfl, hb, hc⟩ := H0r.out (by omega)
          obtain ⟨E, hE⟩ : ∃ E, ge cdI64 rs k = E := ⟨_, rfl⟩
          have x0 : wr.cell? ⟨b, off + k, none⟩ = some (.int .i64 E) := by
            have h := ((bcell Hbel.out).1 b (off + (k * 1 + 0)) hb).trans (hc k 0 hlt (by decide))
            rw [hE] at h
            rw [show off + k = off + (k * 1 + 0) by omega]
            exact h
          rw [hE] at HQ
          have k0 : (k : Int) < rs.length := by omega
          have k1 : (0 : Int) ≤ (k : Int) := by omega
          have HC := Lib.hid (fun w => ref_within E 16777216 w (by omega) (by omega))
          clear hc hE
          cases hq : btw E (-16777216) 16777216 with
          | true =>
            have HQ2 := Lib.hid (show BadTo xs c rs (k + 1) false by have := HQ.out; unfold slB at this; rwa [hq] at this)
            rw [hq] at HC
            clear hq
            go_wp2_with fail
            refine (HC.out wr).mono ?_
            rintro e w3 ⟨rfl, rfl⟩
            go_wp2_with fail
            go_roundw
            case rel => exact ⟨k + 1, false, by omega, rfl, by go_num, HQ2.out, hloc⟩
            case measure => simp [intOf]; omega
          | false =>
            have HQ2 := Lib.hid (show BadTo xs c rs (k + 1) true by have := HQ.out; unfold slB at this; rwa [hq] at this)
            rw [hq] at HC
            clear hq
            go_wp2_with fail
            refine (HC.out wr).mono ?_
            rintro e w3 ⟨rfl, rfl⟩
            go_wp2_with fail
            go_roundw
            case rel => exact ⟨k + 1, true, by omega, rfl, by go_num, HQ2.out, hloc⟩
            case measure => simp [intOf]; omega
      · have htk : decide ((k : Int) < (rs.length : Int)) = false := by simp; omega
        obtain rfl : k = rs.length := by omega
        have hfin := Hbad.out.fin
        have hb6 := below_grownBy hloc.grown
        have t0 : wr.cell? ⟨w.heap.size + 1, 0, none⟩ = some (.int .i64 0) := hloc.cell 1 rfl 0
        have f0 : wr.frozen? ⟨w.heap.size + 1, 0, none⟩ = false := hloc.free 1 rfl 0
        have t1 : wr.cell? ⟨w.heap.size + 1, 1, none⟩ = some (.slice none 0 0) := hloc.cell 1 rfl 1
        have f1 : wr.frozen? ⟨w.heap.size + 1, 1, none⟩ = false := hloc.free 1 rfl 1
        have t2 : wr.cell? ⟨w.heap.size + 1, 2, none⟩ = some (.int .i64 0) := hloc.cell 1 rfl 2
        have f2 : wr.frozen? ⟨w.heap.size + 1, 2, none⟩ = false := hloc.free 1 rfl 2
        have t3 : wr.cell? ⟨w.heap.size + 1, 3, none⟩ = some (.slice none 0 0) := hloc.cell 1 rfl 3
        have f3 : wr.frozen? ⟨w.heap.size + 1, 3, none⟩ = false := hloc.free 1 rfl 3
        cases b with
        | true =>
          have HR := Lib.hid (show rngB xs c rs = false from hfin)
          clear hfin
          go_wp2_with fail
          refine bodyPost_ret (v := .tuple #[.agg #[.int .i64 0, .slice none 0 0, .int .i64 0, .slice none 0 0], .int .i64 7]) (by simp [results, Tryz.results84, go_sem, t0, t1, t2, t3]) rfl ⟨RP.no HR.out, ?_⟩
          exact ((((hb6).setCell (Nat.le_add_right _ 1) _).setCell (Nat.le_add_right _ 1) _).setCell (Nat.le_add_right _ 1) _).setCell (Nat.le_add_right _ 1) _
        | false =>
          have HR := Lib.hid (show rngB xs c rs = true from hfin)
          clear hfin
          go_wp2_with fail
          have hb7 := ((((hb6).setCell (p := ⟨w.heap.size + 1, 0, none⟩) (Nat.le_add_right _ 1) (.int .i64 n)).setCell (p := ⟨w.heap.size + 1, 1, none⟩) (Nat.le_add_right _ 1) (.slice ao xs.length cap)).setCell (p := ⟨w.heap.size + 1, 2, none⟩) (Nat.le_add_right _ 1) (.int .i64 c)).setCell (p := ⟨w.heap.size + 1, 3, none⟩) (Nat.le_add_right _ 1) (.slice aor rs.length capr)
          refine bodyPost_ret (v := .tuple #[.agg #[.int .i64 n, .slice ao xs.length cap, .int .i64 c, .slice aor rs.length capr], .int .i64 0]) (by simp [results, Tryz.results84, go_sem, t0, t1, t2, t3]) rfl ⟨RP.yes HR.out, hb7⟩
end Go.Proofs.YtfphlpglgcmljaaGreat
