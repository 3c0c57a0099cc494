/- Part of the proof of stopwatch_explores_proved: Swa, Swg, Swh. -/
import Derived.Test.YtokljoajalmkfaaXeSwf
import Derived.Test.YtokljoajalmkfaaXeSwk
namespace Go.Proofs.Ytokljoajalmkfaa
open Go.RowKit
set_option linter.unusedVariables false
def sF (x : List Int) : Nat → Int := fun k => gi x k
def lF (x : List Int) : Nat → Int := fun k => gi x (8 + k)
def mk16 (s l : Nat → Int) : List Int := (List.range 16).map fun k => if k < 8 then s k else l (k - 8)
theorem sF_mk {s l : Nat → Int} {k : Nat} (hk : k < 8) : sF (mk16 s l) k = s k := by
 unfold sF mk16 gi
 rw [List.getD_eq_getElem?_getD, List.getElem?_map, List.getElem?_range (by omega)]
 show (if k < 8 then s k else l (k - 8)) = s k
 rw [if_pos hk]
theorem lF_mk {s l : Nat → Int} {k : Nat} (hk : k < 8) : lF (mk16 s l) k = l k := by
 unfold lF mk16 gi
 rw [List.getD_eq_getElem?_getD, List.getElem?_map, List.getElem?_range (by omega)]
 show (if 8 + k < 8 then s (8 + k) else l (8 + k - 8)) = l k
 rw [if_neg (by omega), Nat.add_sub_cancel_left]
structure Qx where
 list : List (List Int)
 worst : List Int
inductive Rx
 | go : Qx → Rx
 | no : Rx
 | long : Rx
def oneX (ts : List Tk) (x : List Int) (set : Nat) (q : Qx) : Rx :=
  if mayB ts (sF x) set = true then
    (if misB ts (tkS ts (sF x) set) (tkL ts (lF x) set) = true then .no
     else
      (if mk16 (tkS ts (sF x) set) (tkL ts (lF x) set) ∈ q.list then .go ⟨q.list, if 0 ≤ tkR ts (lF x) set ∧ tkL ts (lF x) set (tkR ts (lF x) set).toNat = 0 then q.worst.set (tkR ts (lF x) set).toNat (max (gi q.worst (tkR ts (lF x) set).toNat) (tkS ts (sF x) set (tkR ts (lF x) set).toNat)) else q.worst⟩
       else if q.list.length = 20000 then .long
       else .go ⟨q.list ++ [mk16 (tkS ts (sF x) set) (tkL ts (lF x) set)], if 0 ≤ tkR ts (lF x) set ∧ tkL ts (lF x) set (tkR ts (lF x) set).toNat = 0 then q.worst.set (tkR ts (lF x) set).toNat (max (gi q.worst (tkR ts (lF x) set).toNat) (tkS ts (sF x) set (tkR ts (lF x) set).toNat)) else q.worst⟩))
  else .go q
def setsX (ts : List Tk) (x : List Int) (q : Qx) : Nat → Rx
 | 0 => .go q
 | k + 1 => match setsX ts x q k with
  | .go q' => oneX ts x k q'
  | .no => .no
  | .long => .long
def outX (ts : List Tk) : Nat → Nat → Qx → Rx
 | 0, _, q => .go q
 | f + 1, a, q => if a < q.list.length then (match setsX ts (q.list.getD a []) q (2 ^ ts.length) with
  | .go q' => outX ts f (a + 1) q'
  | .no => .no
  | .long => .long) else .go q
def initX (ts : List Tk) : Qx := ⟨[mk16 (perT ts ts.length) (fun _ => 0)], List.replicate ts.length 0⟩
def worstX (ts : List Tk) : Rx := outX ts 20001 0 (initX ts)
def resX : Rx → Option (List Int × Nat)
 | .go q => some (q.worst, q.list.length)
 | _ => none
def noX : Rx → Bool
 | .no => true
 | _ => false
set_option linter.unusedVariables false
set_option linter.unusedSimpArgs false
set_option linter.unnecessarySimpa false
def SomeB (e : Ending) : Prop := ∃ r, e = .returned (.bool r)
def scV (a : Sc) : Value := .agg #[.int .i64 a.r, .int .i64 a.f, .int .i64 a.l]
set_option maxRecDepth 100000 in
set_option maxHeartbeats 4000000 in
theorem ref_overlap (a b : Sc) (w : World) : Calls Try.prog 33 #[scV a, scV b] w fun e w' => SomeB e ∧ Below w.heap.size w w' := by
 have hloc := Loc.two w (.cells #[.int .i64 a.r, .int .i64 a.f, .int .i64 a.l] 77) (.cells #[.int .i64 b.r, .int .i64 b.f, .int .i64 b.l] 77) none
 have hbw := below_grownBy hloc.grown
 unfold scV
 go_enter Try.func33, Try.ntmps33
 go_upto_region 1 with fail
 have a1 : ((w.alloc (.cells #[.int .i64 a.r, .int .i64 a.f, .int .i64 a.l] 77)).alloc (.cells #[.int .i64 b.r, .int .i64 b.f, .int .i64 b.l] 77)).cell? ⟨w.heap.size, 1, none⟩ = some (.int .i64 a.f) := hloc.cell 0 rfl 1
 have a2 : ((w.alloc (.cells #[.int .i64 a.r, .int .i64 a.f, .int .i64 a.l] 77)).alloc (.cells #[.int .i64 b.r, .int .i64 b.f, .int .i64 b.l] 77)).cell? ⟨w.heap.size, 2, none⟩ = some (.int .i64 a.l) := hloc.cell 0 rfl 2
 have b1 : ((w.alloc (.cells #[.int .i64 a.r, .int .i64 a.f, .int .i64 a.l] 77)).alloc (.cells #[.int .i64 b.r, .int .i64 b.f, .int .i64 b.l] 77)).cell? ⟨w.heap.size + 1, 1, none⟩ = some (.int .i64 b.f) := hloc.cell 1 rfl 1
 have b2 : ((w.alloc (.cells #[.int .i64 a.r, .int .i64 a.f, .int .i64 a.l] 77)).alloc (.cells #[.int .i64 b.r, .int .i64 b.f, .int .i64 b.l] 77)).cell? ⟨w.heap.size + 1, 2, none⟩ = some (.int .i64 b.l) := hloc.cell 1 rfl 2
 have HW := Lib.hid hbw
 clear hloc hbw
 generalize (w.alloc (.cells #[.int .i64 a.r, .int .i64 a.f, .int .i64 a.l] 77)).alloc (.cells #[.int .i64 b.r, .int .i64 b.f, .int .i64 b.l] 77) = X at *
 go_wp2_with fail
 all_goals (go_ret; exact ⟨⟨_, rfl⟩, HW.out⟩)
set_option maxRecDepth 100000 in
set_option maxHeartbeats 4000000 in
theorem ref_contains (a b : Sc) (w : World) : Calls Try.prog 34 #[scV a, scV b] w fun e w' => SomeB e ∧ Below w.heap.size w w' := by
 have hloc := Loc.two w (.cells #[.int .i64 a.r, .int .i64 a.f, .int .i64 a.l] 77) (.cells #[.int .i64 b.r, .int .i64 b.f, .int .i64 b.l] 77) none
 have hbw := below_grownBy hloc.grown
 unfold scV
 go_enter Try.func34, Try.ntmps34
 go_upto_region 1 with fail
 have a1 : ((w.alloc (.cells #[.int .i64 a.r, .int .i64 a.f, .int .i64 a.l] 77)).alloc (.cells #[.int .i64 b.r, .int .i64 b.f, .int .i64 b.l] 77)).cell? ⟨w.heap.size, 1, none⟩ = some (.int .i64 a.f) := hloc.cell 0 rfl 1
 have a2 : ((w.alloc (.cells #[.int .i64 a.r, .int .i64 a.f, .int .i64 a.l] 77)).alloc (.cells #[.int .i64 b.r, .int .i64 b.f, .int .i64 b.l] 77)).cell? ⟨w.heap.size, 2, none⟩ = some (.int .i64 a.l) := hloc.cell 0 rfl 2
 have b1 : ((w.alloc (.cells #[.int .i64 a.r, .int .i64 a.f, .int .i64 a.l] 77)).alloc (.cells #[.int .i64 b.r, .int .i64 b.f, .int .i64 b.l] 77)).cell? ⟨w.heap.size + 1, 1, none⟩ = some (.int .i64 b.f) := hloc.cell 1 rfl 1
 have b2 : ((w.alloc (.cells #[.int .i64 a.r, .int .i64 a.f, .int .i64 a.l] 77)).alloc (.cells #[.int .i64 b.r, .int .i64 b.f, .int .i64 b.l] 77)).cell? ⟨w.heap.size + 1, 2, none⟩ = some (.int .i64 b.l) := hloc.cell 1 rfl 2
 have HW := Lib.hid hbw
 clear hloc hbw
 generalize (w.alloc (.cells #[.int .i64 a.r, .int .i64 a.f, .int .i64 a.l] 77)).alloc (.cells #[.int .i64 b.r, .int .i64 b.f, .int .i64 b.l] 77) = X at *
 go_wp2_with fail
 all_goals (go_ret; exact ⟨⟨_, rfl⟩, HW.out⟩)
set_option linter.unusedVariables false
set_option linter.unusedSimpArgs false
set_option linter.unnecessarySimpa false
def tkV (t : Tk) : Value := .agg #[.string t.nm, .int .i64 t.T, .int .i64 t.O, .int .i64 t.D, .int .i64 t.C, .int .i64 t.pr, t.sv]
def SecB (n : Nat) (e : Ending) : Prop := ∃ b, e = .returned (.bool b) ∧ (n = 0 → b = true)
set_option maxRecDepth 100000 in
set_option maxHeartbeats 8000000 in
theorem ref_secs (t : Tk) (w : World) (hs : RX cdSc w.heap.size w t.sv t.sc) (hn5 : t.sc.length ≤ 4) : Calls Try.prog 24 #[tkV t] w fun e w' => SecB t.sc.length e ∧ Below w.heap.size w w' := by
  obtain ⟨ao, cap, hsv, hle, h0⟩ := hs.open
  unfold tkV
  rw [hsv]
  obtain ⟨n, hn⟩ : ∃ n, t.sc.length = n := ⟨_, rfl⟩
  rw [hn] at h0 hn5 ⊢
  have H0 := Lib.hid h0
  have hba := (Below.refl _ w).alloc (Nat.le_refl _) (.cells #[.string t.nm, .int .i64 t.T, .int .i64 t.O, .int .i64 t.D, .int .i64 t.C, .int .i64 t.pr, .slice ao n cap] 37)
  have hqn := heap_alloc_new w (.cells #[.string t.nm, .int .i64 t.T, .int .i64 t.O, .int .i64 t.D, .int .i64 t.C, .int .i64 t.pr, .slice ao n cap] 37)
  clear hs hsv h0 hn hle
  go_enter Try.func24, Try.ntmps24
  go_upto_region 1 with fail
  generalize w.alloc (.cells #[.string t.nm, .int .i64 t.T, .int .i64 t.O, .int .i64 t.D, .int .i64 t.C, .int .i64 t.pr, .slice ao n cap] 37) = X at *
  have HBt := Lib.hid hqn
  have HW := Lib.hid hba
  clear hqn hba
  go_wp2_with fail
  go_loopw [3] (fun c wr => ∃ k : Nat, k ≤ n ∧ c = .int .i64 k ∧ wr.heap[w.heap.size]? = some (.cells #[.string t.nm, .int .i64 t.T, .int .i64 t.O, .int .i64 t.D, .int .i64 t.C, .int .i64 t.pr, .slice ao n cap] 37 (0, 0)) ∧ Below w.heap.size w wr) (fun c _ => n - (intOf c).toNat)
  case atStart => exact ⟨0, Nat.zero_le _, rfl, HBt.out, HW.out⟩
  case round =>
    clear HBt HW
    obtain ⟨k, hk, rfl, h1, h2⟩ := hrel
    have HBt := Lib.hid h1
    have HW := Lib.hid h2
    clear h1 h2
    obtain ⟨wa, hwa⟩ : ∃ V, V = wr := ⟨_, rfl⟩
    subst hwa
    have z4 : wa.cell? ⟨w.heap.size, 4, none⟩ = some (.int .i64 t.C) := cell_of_row _ w.heap.size 4 _ _ _ HBt.out
    have z6 : wa.cell? ⟨w.heap.size, 6, none⟩ = some (.slice ao n cap) := cell_of_row _ w.heap.size 6 _ _ _ HBt.out
    by_cases hlt : k < n
    · have htk : decide ((k : Int) < (n : Int)) = true := by simp; omega
      obtain ⟨b, off, rfl, hb, hc⟩ := H0.out (by omega)
      obtain ⟨E, hE⟩ : ∃ E, ge cdSc t.sc k = E := ⟨_, rfl⟩
      have x0 : wa.cell? ⟨b, off + k * 3, none⟩ = some (.int .i64 E.r) := by
        have h := ((bcell HW.out).1 b _ hb).trans (hc k 0 hlt (by decide))
        rw [hE] at h; exact h
      have x1 : wa.cell? ⟨b, off + k * 3 + 1, none⟩ = some (.int .i64 E.f) := by
        have h := ((bcell HW.out).1 b _ hb).trans (hc k 1 hlt (by decide))
        rw [hE] at h; exact h
      have x2 : wa.cell? ⟨b, off + k * 3 + 2, none⟩ = some (.int .i64 E.l) := by
        have h := ((bcell HW.out).1 b _ hb).trans (hc k 2 hlt (by decide))
        rw [hE] at h; exact h
      have k0 : (k : Int) < (n : Int) := by omega
      have k1 : (0 : Int) ≤ (k : Int) := by omega
      have hbb := (Below.refl _ wa).alloc (Nat.le_refl _) (.cells #[.int .i64 E.r, .int .i64 E.f, .int .i64 E.l] 77)
      have HR1 := Lib.hid (hp_keep4 HBt.out hbb)
      have HR2 := Lib.hid (bt HW.out hbb)
      have y4 := cell_of_row _ w.heap.size 4 _ _ _ HR1.out
      clear hc hE hbb HBt HW
      go_wp2_with fail
      all_goals first
        | (go_ret; exact ⟨⟨_, rfl, fun h => absurd h (by omega)⟩, HR2.out⟩)
        | skip
      go_roundw
      case rel => exact ⟨k + 1, by omega, by go_num, HR1.out, HR2.out⟩
      case measure => simp [intOf]; omega
    have htk : decide ((k : Int) < (n : Int)) = false := by simp; omega
    go_wp2_with fail
    go_loopw [5] (fun c wr => ∃ i : Nat, i ≤ n ∧ c = .int .i64 i ∧ wr.heap[w.heap.size]? = some (.cells #[.string t.nm, .int .i64 t.T, .int .i64 t.O, .int .i64 t.D, .int .i64 t.C, .int .i64 t.pr, .slice ao n cap] 37 (0, 0)) ∧ Below w.heap.size w wr) (fun c _ => n - (intOf c).toNat)
    case atStart => exact ⟨0, Nat.zero_le _, rfl, HBt.out, HW.out⟩
    case round =>
      clear HBt HW z4 z6
      obtain ⟨i, hi, rfl, h1, h2⟩ := hrel
      have HBt := Lib.hid h1
      have HW := Lib.hid h2
      clear h1 h2
      obtain ⟨wb, hwb⟩ : ∃ V, V = wr := ⟨_, rfl⟩
      subst hwb
      have z6 : wb.cell? ⟨w.heap.size, 6, none⟩ = some (.slice ao n cap) := cell_of_row _ w.heap.size 6 _ _ _ HBt.out
      by_cases hin : i < n
      rotate_left
      · have hti : decide ((i : Int) < (n : Int)) = false := by simp; omega
        go_wp2_with fail
        go_ret
        exact ⟨⟨true, rfl, fun _ => rfl⟩, HW.out⟩
      have hti : decide ((i : Int) < (n : Int)) = true := by simp; omega
      obtain ⟨b, off, rfl, hb, hc⟩ := H0.out (by omega)
      have Hc := Lib.hid hc
      clear hc
      go_wp2_with fail
      go_loopw [6] (fun c wr => ∃ m : Nat, m ≤ i ∧ c = .int .i64 m ∧ wr.heap[w.heap.size]? = some (.cells #[.string t.nm, .int .i64 t.T, .int .i64 t.O, .int .i64 t.D, .int .i64 t.C, .int .i64 t.pr, .slice (some ⟨b, off, none⟩) n cap] 37 (0, 0)) ∧ Below w.heap.size w wr) (fun c _ => i - (intOf c).toNat)
      case atStart => exact ⟨0, Nat.zero_le _, rfl, HBt.out, HW.out⟩
      case round =>
        clear HBt HW z6
        obtain ⟨m, hm, rfl, h1, h2⟩ := hrel
        have HBt := Lib.hid h1
        have HW := Lib.hid h2
        clear h1 h2
        obtain ⟨wq, hwc⟩ : ∃ V, V = wr := ⟨_, rfl⟩
        subst hwc
        by_cases hmi : m < i
        rotate_left
        · have htm : decide ((m : Int) < (i : Int)) = false := by simp; omega
          go_wp2_with fail
          go_roundw
          case rel => exact ⟨i + 1, by omega, by go_num, HBt.out, HW.out⟩
          case measure => simp [intOf]; omega
        have htm : decide ((m : Int) < (i : Int)) = true := by simp; omega
        have z6 : wq.cell? ⟨w.heap.size, 6, none⟩ = some (.slice (some ⟨b, off, none⟩) n cap) := cell_of_row _ w.heap.size 6 _ _ _ HBt.out
        obtain ⟨E, hE⟩ : ∃ E, ge cdSc t.sc i = E := ⟨_, rfl⟩
        obtain ⟨G, hG⟩ : ∃ E, ge cdSc t.sc m = E := ⟨_, rfl⟩
        have cc : ∀ k j, k < n → j < 3 → wq.cell? ⟨b, off + (k * 3 + j), none⟩ = (cdSc.cells (ge cdSc t.sc k))[j]? := fun k j hk hj => ((bcell HW.out).1 b _ hb).trans (Hc.out k j hk hj)
        have x0 : wq.cell? ⟨b, off + i * 3, none⟩ = some (.int .i64 E.r) := by have h := cc i 0 hin (by decide); rw [hE] at h; exact h
        have x1 : wq.cell? ⟨b, off + i * 3 + 1, none⟩ = some (.int .i64 E.f) := by have h := cc i 1 hin (by decide); rw [hE] at h; exact h
        have x2 : wq.cell? ⟨b, off + i * 3 + 2, none⟩ = some (.int .i64 E.l) := by have h := cc i 2 hin (by decide); rw [hE] at h; exact h
        have y0 : wq.cell? ⟨b, off + m * 3, none⟩ = some (.int .i64 G.r) := by have h := cc m 0 (by omega) (by decide); rw [hG] at h; exact h
        have y1 : wq.cell? ⟨b, off + m * 3 + 1, none⟩ = some (.int .i64 G.f) := by have h := cc m 1 (by omega) (by decide); rw [hG] at h; exact h
        have y2 : wq.cell? ⟨b, off + m * 3 + 2, none⟩ = some (.int .i64 G.l) := by have h := cc m 2 (by omega) (by decide); rw [hG] at h; exact h
        have i0 : (i : Int) < (n : Int) := by omega
        have i1 : (0 : Int) ≤ (i : Int) := by omega
        have m0 : (m : Int) < (n : Int) := by omega
        have m1 : (0 : Int) ≤ (m : Int) := by omega
        clear hE hG cc
        go_upto_region 13 with fail
        go_cut [7, 8] (fun s7 s8 wx => ∃ A B, s7 = .pointer (some ⟨A, 0, none⟩) ∧ s8 = .pointer (some ⟨B, 0, none⟩) ∧ wx.heap[A]? = some (.cells #[.int .i64 E.r, .int .i64 E.f, .int .i64 E.l] 77 (0, 0)) ∧ wx.heap[B]? = some (.cells #[.int .i64 G.r, .int .i64 G.f, .int .i64 G.l] 77 (0, 0)) ∧ Below wq.heap.size wq wx)
        case first => as_aux_lemma =>
          have HS := Lib.hid (fun (X' : World) (hX : Below wq.heap.size wq X') => (⟨keepb z6 hX, keepb x0 hX, keepb x1 hX, keepb x2 hX, keepb y0 hX, keepb y1 hX, keepb y2 hX⟩ : X'.cell? ⟨w.heap.size, 6, none⟩ = some (.slice (some ⟨b, off, none⟩) n cap) ∧ X'.cell? ⟨b, off + i * 3, none⟩ = some (.int .i64 E.r) ∧ X'.cell? ⟨b, off + i * 3 + 1, none⟩ = some (.int .i64 E.f) ∧ X'.cell? ⟨b, off + i * 3 + 2, none⟩ = some (.int .i64 E.l) ∧ X'.cell? ⟨b, off + m * 3, none⟩ = some (.int .i64 G.r) ∧ X'.cell? ⟨b, off + m * 3 + 1, none⟩ = some (.int .i64 G.f) ∧ X'.cell? ⟨b, off + m * 3 + 2, none⟩ = some (.int .i64 G.l)))
          refine wp_region_noPanic ?_
          refine wp_region_held_drew (S := (fun w' => w'.cell? ⟨w.heap.size, 6, none⟩ = some (.slice (some ⟨b, off, none⟩) n cap) ∧ w'.cell? ⟨b, off + i * 3, none⟩ = some (.int .i64 E.r) ∧ w'.cell? ⟨b, off + i * 3 + 1, none⟩ = some (.int .i64 E.f) ∧ w'.cell? ⟨b, off + i * 3 + 2, none⟩ = some (.int .i64 E.l) ∧ w'.cell? ⟨b, off + m * 3, none⟩ = some (.int .i64 G.r) ∧ w'.cell? ⟨b, off + m * 3 + 1, none⟩ = some (.int .i64 G.f) ∧ w'.cell? ⟨b, off + m * 3 + 2, none⟩ = some (.int .i64 G.l))) (by kernel_rfl) ⟨z6, x0, x1, x2, y0, y1, y2⟩ (fun hHeld => ?_)
          refine wpAnyH_take (i := 0) (v := ?_) rfl (by kernel_rfl) (by kernel_rfl) (by kernel_rfl) (fun _ _ _ h => h) (Or.inl ⟨by rfl, ?_⟩) (by assumption) ?_
          rotate_left
          · intro w hSw; (try dsimp only at hSw); go_simp; (try with_reducible rfl)
          try simp only [Act.put, List.getElem_toArray, List.getElem_cons_zero, List.setIfInBounds_toArray, List.set_cons_zero, List.set_cons_succ]
          refine wpAnyH_take (i := 1) (v := ?_) rfl (by kernel_rfl) (by kernel_rfl) (by kernel_rfl) (fun _ _ _ h => h) (Or.inl ⟨by rfl, ?_⟩) (by assumption) ?_
          rotate_left
          · intro w hSw; (try dsimp only at hSw); go_simp; (try with_reducible rfl)
          try simp only [Act.put, List.getElem_toArray, List.getElem_cons_zero, List.getElem_cons_succ, List.setIfInBounds_toArray, List.set_cons_zero, List.set_cons_succ]
          refine wpAnyH_take (i := 2) (v := ?_) rfl (by kernel_rfl) (by kernel_rfl) (by kernel_rfl) (fun _ _ _ h => h) (Or.inl ⟨by rfl, ?_⟩) (by assumption) ?_
          rotate_left
          · intro w hSw; (try dsimp only at hSw); go_simp; (try with_reducible rfl)
          try simp only [Act.put, List.getElem_toArray, List.getElem_cons_zero, List.getElem_cons_succ, List.setIfInBounds_toArray, List.set_cons_zero, List.set_cons_succ]
          refine wpAnyH_take (i := 3) (v := ?_) rfl (by kernel_rfl) (by kernel_rfl) (by kernel_rfl) (fun _ _ _ h => h) (Or.inl ⟨by rfl, ?_⟩) (by assumption) ?_
          rotate_left
          · intro w hSw; (try dsimp only at hSw); go_simp; (try with_reducible rfl)
          try simp only [Act.put, List.getElem_toArray, List.getElem_cons_zero, List.getElem_cons_succ, List.setIfInBounds_toArray, List.set_cons_zero, List.set_cons_succ]
          refine wpAnyH_take (i := 4) (v := ?_) rfl (by kernel_rfl) (by kernel_rfl) (by kernel_rfl) (fun _ _ _ h => h) (Or.inl ⟨by rfl, ?_⟩) (by assumption) ?_
          rotate_left
          · intro w hSw; (try dsimp only at hSw); go_simp; (try with_reducible rfl)
          try simp only [Act.put, List.getElem_toArray, List.getElem_cons_zero, List.getElem_cons_succ, List.setIfInBounds_toArray, List.set_cons_zero, List.set_cons_succ]
          refine wpAnyH_take (i := 5) (v := ?_) rfl (by kernel_rfl) (by kernel_rfl) (by kernel_rfl) (fun _ _ _ h => h) (Or.inl ⟨by rfl, ?_⟩) (by assumption) ?_
          rotate_left
          · intro w hSw; (try dsimp only at hSw); go_simp; (try with_reducible rfl)
          try simp only [Act.put, List.getElem_toArray, List.getElem_cons_zero, List.getElem_cons_succ, List.setIfInBounds_toArray, List.set_cons_zero, List.set_cons_succ]
          refine wpAnyH_take (i := 6) (v := ?_) rfl (by kernel_rfl) (by kernel_rfl) (by kernel_rfl) (fun _ _ _ h => h) (Or.inl ⟨by rfl, ?_⟩) (by assumption) ?_
          rotate_left
          · intro w hSw; (try dsimp only at hSw); go_simp; (try with_reducible rfl)
          try simp only [Act.put, List.getElem_toArray, List.getElem_cons_zero, List.getElem_cons_succ, List.setIfInBounds_toArray, List.set_cons_zero, List.set_cons_succ]
          refine wpAnyH_take (i := 7) (v := ?_) rfl (by kernel_rfl) (by kernel_rfl) (by kernel_rfl) (fun _ _ _ h => h) (Or.inl ⟨by rfl, ?_⟩) (by assumption) ?_
          rotate_left
          · intro w hSw; (try dsimp only at hSw); go_simp; (try with_reducible rfl)
          try simp only [Act.put, List.getElem_toArray, List.getElem_cons_zero, List.getElem_cons_succ, List.setIfInBounds_toArray, List.set_cons_zero, List.set_cons_succ]
          refine wpAnyH_take (i := 8) (v := ?_) rfl (by kernel_rfl) (by kernel_rfl) (by kernel_rfl) (fun _ _ _ h => h) (Or.inl ⟨by rfl, ?_⟩) (by assumption) ?_
          rotate_left
          · intro w hSw; (try dsimp only at hSw); go_simp; (try with_reducible rfl)
          try simp only [Act.put, List.getElem_toArray, List.getElem_cons_zero, List.getElem_cons_succ, List.setIfInBounds_toArray, List.set_cons_zero, List.set_cons_succ]
          refine wpAnyH_take (i := 9) (v := ?_) rfl (by kernel_rfl) (by kernel_rfl) (by kernel_rfl) (fun _ _ _ h => h) (Or.inl ⟨by rfl, ?_⟩) (by assumption) ?_
          rotate_left
          · intro w hSw; (try dsimp only at hSw); go_simp; (try with_reducible rfl)
          try simp only [Act.put, List.getElem_toArray, List.getElem_cons_zero, List.getElem_cons_succ, List.setIfInBounds_toArray, List.set_cons_zero, List.set_cons_succ]
          have H0w := Lib.hid (show Below wq.heap.size wq wq.drew from (Below.refl _ _).drew)
          clear hHeld z6 x0 x1 x2 y0 y1 y2
          generalize wq.drew = L0 at *
          refine wpAnyH_ready (rs := [10, 11]) (by kernel_rfl) (by simp) ?_
          refine AllReadyH.cons rfl (fun K hK => ?_) (AllReadyH.cons rfl (fun K hK => ?_) AllReadyH.nil)
          · skip
            have hb1 := (Below.refl _ L0).alloc (Nat.le_refl _) (.cells #[.int .i64 0, .int .i64 0, .int .i64 0] 77)
            have hh1 := bt H0w.out hb1
            go_simp
            refine hK.out _ _ (HS.out _ hh1) (fun hHeld2 => ?_)
            clear hK K hHeld2
            try simp only [Act.put, List.getElem_toArray, List.getElem_cons_zero, List.getElem_cons_succ, List.setIfInBounds_toArray, List.set_cons_zero, List.set_cons_succ]
            refine wpAnyH_ready (rs := [11]) (by kernel_rfl) (by simp) ?_
            refine AllReadyH.cons rfl (fun K hK => ?_) AllReadyH.nil
            have hb2 := (Below.refl _ (L0.alloc (.cells #[.int .i64 0, .int .i64 0, .int .i64 0] 77))).alloc (Nat.le_refl _) (.cells #[.int .i64 0, .int .i64 0, .int .i64 0] 77)
            have hh2 := bt hh1 hb2
            go_simp
            refine hK.out _ _ (HS.out _ hh2) (fun hHeld2 => ?_)
            clear hK K hHeld2
            try simp only [Act.put, List.getElem_toArray, List.getElem_cons_zero, List.getElem_cons_succ, List.setIfInBounds_toArray, List.set_cons_zero, List.set_cons_succ]
            refine wpAnyH_ready (rs := [12]) (by kernel_rfl) (by simp) ?_
            refine AllReadyH.cons rfl (fun K hK => ?_) AllReadyH.nil
            have hh3 := (bt (bt H0w.out ((Below.refl _ L0).alloc (Nat.le_refl _) (.cells #[.int .i64 E.r, .int .i64 E.f, .int .i64 E.l] 77))) ((Below.refl _ (L0.alloc (.cells #[.int .i64 E.r, .int .i64 E.f, .int .i64 E.l] 77))).alloc (Nat.le_refl _) (.cells #[.int .i64 0, .int .i64 0, .int .i64 0] 77)))
            go_simp
            refine hK.out _ _ (HS.out _ hh3) (fun hHeld2 => ?_)
            clear hK K hHeld2
            try simp only [Act.put, List.getElem_toArray, List.getElem_cons_zero, List.getElem_cons_succ, List.setIfInBounds_toArray, List.set_cons_zero, List.set_cons_succ]
            refine wpAnyH_ready (rs := [13]) (by kernel_rfl) (by simp) ?_
            refine AllReadyH.cons rfl (fun K hK => ?_) AllReadyH.nil
            have hh4 := (bt (bt H0w.out ((Below.refl _ L0).alloc (Nat.le_refl _) (.cells #[.int .i64 E.r, .int .i64 E.f, .int .i64 E.l] 77))) ((Below.refl _ (L0.alloc (.cells #[.int .i64 E.r, .int .i64 E.f, .int .i64 E.l] 77))).alloc (Nat.le_refl _) (.cells #[.int .i64 G.r, .int .i64 G.f, .int .i64 G.l] 77)))
            have hloc := Loc.two L0 (.cells #[.int .i64 E.r, .int .i64 E.f, .int .i64 E.l] 77) (.cells #[.int .i64 G.r, .int .i64 G.f, .int .i64 G.l] 77) none
            go_simp
            refine hK.out _ _ (HS.out _ hh4) (fun hHeld2 => ?_)
            clear hK K hHeld2
            try simp only [Act.put, List.getElem_toArray, List.getElem_cons_zero, List.getElem_cons_succ, List.setIfInBounds_toArray, List.set_cons_zero, List.set_cons_succ]
            refine wpAnyH_done (by kernel_rfl) ?_ _
            refine NoPanic.normal ?_
            go_wp2_with fail
            go_meet
            exact ⟨L0.heap.size, L0.heap.size + 1, rfl, rfl, hloc.objs 0 (by simp), hloc.objs 1 (by simp), hh4⟩
          · skip
            have hb1 := (Below.refl _ L0).alloc (Nat.le_refl _) (.cells #[.int .i64 0, .int .i64 0, .int .i64 0] 77)
            have hh1 := bt H0w.out hb1
            go_simp
            refine hK.out _ _ (HS.out _ hh1) (fun hHeld2 => ?_)
            clear hK K hHeld2
            try simp only [Act.put, List.getElem_toArray, List.getElem_cons_zero, List.getElem_cons_succ, List.setIfInBounds_toArray, List.set_cons_zero, List.set_cons_succ]
            refine wpAnyH_ready (rs := [10]) (by kernel_rfl) (by simp) ?_
            refine AllReadyH.cons rfl (fun K hK => ?_) AllReadyH.nil
            have hb2 := (Below.refl _ (L0.alloc (.cells #[.int .i64 0, .int .i64 0, .int .i64 0] 77))).alloc (Nat.le_refl _) (.cells #[.int .i64 0, .int .i64 0, .int .i64 0] 77)
            have hh2 := bt hh1 hb2
            go_simp
            refine hK.out _ _ (HS.out _ hh2) (fun hHeld2 => ?_)
            clear hK K hHeld2
            try simp only [Act.put, List.getElem_toArray, List.getElem_cons_zero, List.getElem_cons_succ, List.setIfInBounds_toArray, List.set_cons_zero, List.set_cons_succ]
            refine wpAnyH_ready (rs := [12]) (by kernel_rfl) (by simp) ?_
            refine AllReadyH.cons rfl (fun K hK => ?_) AllReadyH.nil
            have hh3 := (bt (bt H0w.out ((Below.refl _ L0).alloc (Nat.le_refl _) (.cells #[.int .i64 0, .int .i64 0, .int .i64 0] 77))) ((Below.refl _ (L0.alloc (.cells #[.int .i64 0, .int .i64 0, .int .i64 0] 77))).alloc (Nat.le_refl _) (.cells #[.int .i64 E.r, .int .i64 E.f, .int .i64 E.l] 77)))
            go_simp
            refine hK.out _ _ (HS.out _ hh3) (fun hHeld2 => ?_)
            clear hK K hHeld2
            try simp only [Act.put, List.getElem_toArray, List.getElem_cons_zero, List.getElem_cons_succ, List.setIfInBounds_toArray, List.set_cons_zero, List.set_cons_succ]
            refine wpAnyH_ready (rs := [13]) (by kernel_rfl) (by simp) ?_
            refine AllReadyH.cons rfl (fun K hK => ?_) AllReadyH.nil
            have hh4 := (bt (bt H0w.out ((Below.refl _ L0).alloc (Nat.le_refl _) (.cells #[.int .i64 G.r, .int .i64 G.f, .int .i64 G.l] 77))) ((Below.refl _ (L0.alloc (.cells #[.int .i64 G.r, .int .i64 G.f, .int .i64 G.l] 77))).alloc (Nat.le_refl _) (.cells #[.int .i64 E.r, .int .i64 E.f, .int .i64 E.l] 77)))
            have hloc := Loc.two L0 (.cells #[.int .i64 G.r, .int .i64 G.f, .int .i64 G.l] 77) (.cells #[.int .i64 E.r, .int .i64 E.f, .int .i64 E.l] 77) none
            go_simp
            refine hK.out _ _ (HS.out _ hh4) (fun hHeld2 => ?_)
            clear hK K hHeld2
            try simp only [Act.put, List.getElem_toArray, List.getElem_cons_zero, List.getElem_cons_succ, List.setIfInBounds_toArray, List.set_cons_zero, List.set_cons_succ]
            refine wpAnyH_done (by kernel_rfl) ?_ _
            refine NoPanic.normal ?_
            go_wp2_with fail
            go_meet
            exact ⟨L0.heap.size + 1, L0.heap.size, rfl, rfl, hloc.objs 1 (by simp), hloc.objs 0 (by simp), hh4⟩
        case rest =>
          obtain ⟨A, B, rfl, rfl, ha, hb2, hbl⟩ := hcut
          have h1 := hp_keep4 HBt.out hbl
          have h2 := bt HW.out hbl
          clear HBt HW hbl z6 x0 x1 x2 y0 y1 y2
          obtain ⟨wd, hwd⟩ : ∃ V, V = wc := ⟨_, rfl⟩
          subst hwd
          have HBt := Lib.hid h1
          have HW := Lib.hid h2
          have HA := Lib.hid ha
          have HB := Lib.hid hb2
          clear h1 h2 ha hb2
          have a0 : wd.cell? ⟨A, 0, none⟩ = some (.int .i64 E.r) := cell_of_row _ A 0 _ _ _ HA.out
          have a1 : wd.cell? ⟨A, 1, none⟩ = some (.int .i64 E.f) := cell_of_row _ A 1 _ _ _ HA.out
          have a2 : wd.cell? ⟨A, 2, none⟩ = some (.int .i64 E.l) := cell_of_row _ A 2 _ _ _ HA.out
          have b0 : wd.cell? ⟨B, 0, none⟩ = some (.int .i64 G.r) := cell_of_row _ B 0 _ _ _ HB.out
          have b1 : wd.cell? ⟨B, 1, none⟩ = some (.int .i64 G.f) := cell_of_row _ B 1 _ _ _ HB.out
          have b2 : wd.cell? ⟨B, 2, none⟩ = some (.int .i64 G.l) := cell_of_row _ B 2 _ _ _ HB.out
          go_wp2_with fail
          refine (ref_overlap E G _).mono ?_
          rintro e w1 ⟨⟨r1, rfl⟩, hb⟩
          replace HA := Lib.hid (hp_keep4 HA.out hb)
          replace HB := Lib.hid (hp_keep4 HB.out hb)
          replace HBt := Lib.hid (hp_keep4 HBt.out hb)
          replace HW := Lib.hid (bt HW.out hb)
          clear hb a0 a1 a2 b0 b1 b2
          cases r1 with
          | false =>
            go_wp2_with fail
            go_roundw
            case rel => exact ⟨m + 1, by omega, by go_num, HBt.out, HW.out⟩
            case measure => simp [intOf]; omega
          | true =>
            have a0 : w1.cell? ⟨A, 0, none⟩ = some (.int .i64 E.r) := cell_of_row _ A 0 _ _ _ HA.out
            have a1 : w1.cell? ⟨A, 1, none⟩ = some (.int .i64 E.f) := cell_of_row _ A 1 _ _ _ HA.out
            have a2 : w1.cell? ⟨A, 2, none⟩ = some (.int .i64 E.l) := cell_of_row _ A 2 _ _ _ HA.out
            have b0 : w1.cell? ⟨B, 0, none⟩ = some (.int .i64 G.r) := cell_of_row _ B 0 _ _ _ HB.out
            have b1 : w1.cell? ⟨B, 1, none⟩ = some (.int .i64 G.f) := cell_of_row _ B 1 _ _ _ HB.out
            have b2 : w1.cell? ⟨B, 2, none⟩ = some (.int .i64 G.l) := cell_of_row _ B 2 _ _ _ HB.out
            go_wp2_with fail
            refine (ref_contains E G _).mono ?_
            rintro e w2 ⟨⟨r2, rfl⟩, hb⟩
            replace HA := Lib.hid (hp_keep4 HA.out hb)
            replace HB := Lib.hid (hp_keep4 HB.out hb)
            replace HBt := Lib.hid (hp_keep4 HBt.out hb)
            replace HW := Lib.hid (bt HW.out hb)
            clear hb a0 a1 a2 b0 b1 b2
            cases r2 with
            | true =>
              have a0 : w2.cell? ⟨A, 0, none⟩ = some (.int .i64 E.r) := cell_of_row _ A 0 _ _ _ HA.out
              have a1 : w2.cell? ⟨A, 1, none⟩ = some (.int .i64 E.f) := cell_of_row _ A 1 _ _ _ HA.out
              have a2 : w2.cell? ⟨A, 2, none⟩ = some (.int .i64 E.l) := cell_of_row _ A 2 _ _ _ HA.out
              have b0 : w2.cell? ⟨B, 0, none⟩ = some (.int .i64 G.r) := cell_of_row _ B 0 _ _ _ HB.out
              have b1 : w2.cell? ⟨B, 1, none⟩ = some (.int .i64 G.f) := cell_of_row _ B 1 _ _ _ HB.out
              have b2 : w2.cell? ⟨B, 2, none⟩ = some (.int .i64 G.l) := cell_of_row _ B 2 _ _ _ HB.out
              go_wp2_with fail
              all_goals first
                | (go_ret; exact ⟨⟨_, rfl, fun h => absurd h (by omega)⟩, HW.out⟩)
                | (go_roundw
                   case rel => exact ⟨m + 1, by omega, by go_num, HBt.out, HW.out⟩
                   case measure => simp [intOf]; omega)
            | false =>
              have a0 : w2.cell? ⟨A, 0, none⟩ = some (.int .i64 E.r) := cell_of_row _ A 0 _ _ _ HA.out
              have a1 : w2.cell? ⟨A, 1, none⟩ = some (.int .i64 E.f) := cell_of_row _ A 1 _ _ _ HA.out
              have a2 : w2.cell? ⟨A, 2, none⟩ = some (.int .i64 E.l) := cell_of_row _ A 2 _ _ _ HA.out
              have b0 : w2.cell? ⟨B, 0, none⟩ = some (.int .i64 G.r) := cell_of_row _ B 0 _ _ _ HB.out
              have b1 : w2.cell? ⟨B, 1, none⟩ = some (.int .i64 G.f) := cell_of_row _ B 1 _ _ _ HB.out
              have b2 : w2.cell? ⟨B, 2, none⟩ = some (.int .i64 G.l) := cell_of_row _ B 2 _ _ _ HB.out
              go_wp2_with fail
              refine (ref_contains G E _).mono ?_
              rintro e w3 ⟨⟨r3, rfl⟩, hb⟩
              replace HA := Lib.hid (hp_keep4 HA.out hb)
              replace HB := Lib.hid (hp_keep4 HB.out hb)
              replace HBt := Lib.hid (hp_keep4 HBt.out hb)
              replace HW := Lib.hid (bt HW.out hb)
              clear hb a0 a1 a2 b0 b1 b2
              cases r3 with
              | true =>
                have a0 : w3.cell? ⟨A, 0, none⟩ = some (.int .i64 E.r) := cell_of_row _ A 0 _ _ _ HA.out
                have a1 : w3.cell? ⟨A, 1, none⟩ = some (.int .i64 E.f) := cell_of_row _ A 1 _ _ _ HA.out
                have a2 : w3.cell? ⟨A, 2, none⟩ = some (.int .i64 E.l) := cell_of_row _ A 2 _ _ _ HA.out
                have b0 : w3.cell? ⟨B, 0, none⟩ = some (.int .i64 G.r) := cell_of_row _ B 0 _ _ _ HB.out
                have b1 : w3.cell? ⟨B, 1, none⟩ = some (.int .i64 G.f) := cell_of_row _ B 1 _ _ _ HB.out
                have b2 : w3.cell? ⟨B, 2, none⟩ = some (.int .i64 G.l) := cell_of_row _ B 2 _ _ _ HB.out
                go_wp2_with fail
                all_goals first
                  | (go_ret; exact ⟨⟨_, rfl, fun h => absurd h (by omega)⟩, HW.out⟩)
                  | (go_roundw
                     case rel => exact ⟨m + 1, by omega, by go_num, HBt.out, HW.out⟩
                     case measure => simp [intOf]; omega)
              | false =>
                have a0 : w3.cell? ⟨A, 0, none⟩ = some (.int .i64 E.r) := cell_of_row _ A 0 _ _ _ HA.out
                have a1 : w3.cell? ⟨A, 1, none⟩ = some (.int .i64 E.f) := cell_of_row _ A 1 _ _ _ HA.out
                have a2 : w3.cell? ⟨A, 2, none⟩ = some (.int .i64 E.l) := cell_of_row _ A 2 _ _ _ HA.out
                have b0 : w3.cell? ⟨B, 0, none⟩ = some (.int .i64 G.r) := cell_of_row _ B 0 _ _ _ HB.out
                have b1 : w3.cell? ⟨B, 1, none⟩ = some (.int .i64 G.f) := cell_of_row _ B 1 _ _ _ HB.out
                have b2 : w3.cell? ⟨B, 2, none⟩ = some (.int .i64 G.l) := cell_of_row _ B 2 _ _ _ HB.out
                go_wp2_with fail
                all_goals first
                  | (go_ret; exact ⟨⟨_, rfl, fun h => absurd h (by omega)⟩, HW.out⟩)
                  | (go_roundw
                     case rel => exact ⟨m + 1, by omega, by go_num, HBt.out, HW.out⟩
                     case measure => simp [intOf]; omega)
end Go.Proofs.Ytokljoajalmkfaa
