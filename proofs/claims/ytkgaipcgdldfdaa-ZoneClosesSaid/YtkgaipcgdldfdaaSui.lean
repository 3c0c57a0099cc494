/- The program's suits: do the differences of the clocks of a point meet the limits? -/
import Derived.Test.YtkgaipcgdldfdaaPmt
namespace Go.Proofs.Ytkgaipcgdldfdaa
open Go.RowKit
set_option linter.unusedVariables false

theorem mkR_i64 (n d : Int) : I64 (mkR n d).1.1 := by
  unfold mkR I64
  split
  · simp
  · split
    · simp
    · rename_i h1 h2
      simp only
      generalize n.natAbs / Nat.gcd n.natAbs d.natAbs = q at *
      split <;> omega
theorem sbR_i64 (a b c d : Int) : I64 (sbR a b c d).1.1 := by
  unfold sbR
  split
  · exact mkR_i64 _ _
  · unfold I64; simp
/-- The difference of two clocks of a point. -/
def df (Q : List (Int × Int)) (i j : Nat) : (Int × Int) × Int := sbR (gq Q i).1 (gq Q i).2 (gq Q j).1 (gq Q j).2
/-- Does it meet the limit? -/
def pm (N : Nat) (xs : List Int) (Q : List (Int × Int)) (i j : Nat) : Bool := (meetR (df Q i j).1.1 (df Q i j).1.2 (gi xs (i * (N + 1) + j))).1
def SuRow (N : Nat) (xs : List Int) (Q : List (Int × Int)) (f i q : Nat) : Prop := ∀ j, f ≤ j → j < q → pm N xs Q i j = true
def SuTo (N : Nat) (xs : List Int) (Q : List (Int × Int)) (f q : Nat) : Prop := ∀ i, f ≤ i → i < q → SuRow N xs Q f i (N + 1)

set_option maxRecDepth 100000 in
set_option maxHeartbeats 8000000 in
theorem prog_suits (N f : Nat) (v qv : Value) (xs : List Int) (Q : List (Int × Int)) (w : World) (hv : RL w.heap.size w v xs) (hq : RQ w.heap.size w qv Q) (hx : xs.length = (N + 1) * (N + 1)) (hN : N ≤ 10) (hQ : Q.length = N + 1) (hbd : ∀ k, k ≤ N → I64 (gq Q k).1) (hf : f ≤ N + 1) :
    Calls Try.prog 82 #[qv, .agg #[.int .i64 N, v], .int .i64 f] w fun e w' => (∃ b, e = .returned (.bool b) ∧ (b = true ↔ SuTo N xs Q f (N + 1))) ∧ Below w.heap.size w w' := by
  obtain ⟨aoz, capz, rfl, hlez, h0z⟩ := hv.open
  obtain ⟨bz, oz, rfl, hbz, hcz⟩ := h0z (by rw [hx]; exact Nat.mul_pos (by omega) (by omega))
  obtain ⟨aq, capq, rfl, hleq, h0q⟩ := hq.open
  obtain ⟨bq, oq, rfl, hbq, hcq⟩ := h0q (by omega)
  have Hcz := Lib.hid hcz
  have Hcq := Lib.hid hcq
  have HBd := Lib.hid hbd
  have Hx := Lib.hid hx
  have HQ := Lib.hid hQ
  have hloc0 := Loc.one w (.cells #[.int .i64 N, .slice (some ⟨bz, oz, none⟩) xs.length capz] 24) none
  clear hv hq hx hcz hcq h0z h0q hbd hQ
  generalize hLz : xs.length = Lz at *
  generalize hLq : Q.length = Lq at *
  have hLq2 : Lq = N + 1 := HQ.out
  subst hLq2
  go_enter Try.func82, Try.ntmps82
  go_wp2_with fail
  go_loopw [7] (fun k wr => ∃ i : Nat, i ≤ N + 1 ∧ f ≤ i ∧ k = .int .i64 i ∧ SuTo N xs Q f i ∧ Loc w wr none [.cells #[.int .i64 N, .slice (some ⟨bz, oz, none⟩) Lz capz] 24]) (fun k _ => N + 1 - (intOf k).toNat)
  case atStart => exact ⟨f, hf, Nat.le_refl _, rfl, fun i h1 h2 => by omega, hloc0⟩
  case round =>
    clear hloc0
    obtain ⟨i, hi, hfi, rfl, hsu, hloc⟩ := hrel
    have Hsu := Lib.hid hsu
    clear hsu
    by_cases hil : i < N + 1
    · have hi1 : (i : Int) < (N : Int) + 1 := by omega
      go_wp2_with fail
      go_loopw [8] (fun k wr => ∃ j : Nat, j ≤ N + 1 ∧ f ≤ j ∧ k = .int .i64 j ∧ SuRow N xs Q f i j ∧ Loc w wr none [.cells #[.int .i64 N, .slice (some ⟨bz, oz, none⟩) Lz capz] 24]) (fun k _ => N + 1 - (intOf k).toNat)
      case atStart => exact ⟨f, hf, Nat.le_refl _, rfl, fun j h1 h2 => by omega, hloc⟩
      case round =>
        clear hloc
        obtain ⟨j, hj, hfj, rfl, hsr, hloc⟩ := hrel
        have Hsr := Lib.hid hsr
        clear hsr
        by_cases hjl : j < N + 1
        · have hj1 : (j : Int) < (N : Int) + 1 := by omega
          have hj0 : (0 : Int) ≤ (j : Int) := by omega
          have hi0 : (0 : Int) ≤ (i : Int) := by omega
          have z1 : wr.cell? ⟨w.heap.size, 1, none⟩ = some (.slice (some ⟨bz, oz, none⟩) Lz capz) := hloc.cell 0 rfl 1
          obtain ⟨a0, a1⟩ := Hcq.out i (by omega)
          obtain ⟨b0, b1⟩ := Hcq.out j (by omega)
          have p0 := ((bcell (below_grownBy hloc.grown)).1 _ _ hbq).trans a0
          have p1 := ((bcell (below_grownBy hloc.grown)).1 _ _ hbq).trans a1
          have r0 := ((bcell (below_grownBy hloc.grown)).1 _ _ hbq).trans b0
          have r1 := ((bcell (below_grownBy hloc.grown)).1 _ _ hbq).trans b1
          have m1 := ((bcell (below_grownBy hloc.grown)).1 _ _ hbz).trans (Hcz.out (i * (N + 1) + j) (by rw [Hx.out]; exact idx_lt N i j (by omega) (by omega)))
          have hbi := Lib.hid (HBd.out i (by omega))
          have hbj := Lib.hid (HBd.out j (by omega))
          have HP := Lib.hid (show pm N xs Q i j = (meetR (df Q i j).1.1 (df Q i j).1.2 (gi xs (i * (N + 1) + j))).1 from rfl)
          have HD := Lib.hid (show df Q i j = sbR (gq Q i).1 (gq Q i).2 (gq Q j).1 (gq Q j).2 from rfl)
          have HDi := Lib.hid (show I64 (df Q i j).1.1 from sbR_i64 _ _ _ _)
          clear a0 a1 b0 b1
          generalize df Q i j = D at *
          generalize gq Q i = c1 at *
          generalize gq Q j = c2 at *
          obtain ⟨pn, pd⟩ := c1
          obtain ⟨rn, rd⟩ := c2
          obtain ⟨⟨dn, dd⟩, de⟩ := D
          simp only at p0 p1 r0 r1 HP HD hbi hbj HDi
          have h1 := idx_bd N i hN (by omega)
          have hn1 := idx_nat N i j
          have hL1 : (i : Int) * ((N : Int) + 1) + (j : Int) < Lz := by
            have e : ((i * (N + 1) + j : Nat) : Int) = (i : Int) * ((N : Int) + 1) + j := by push_cast; rfl
            have := idx_lt N i j (by omega) (by omega); rw [← Hx.out] at this; omega
          have hz1 : (0 : Int) ≤ (i : Int) * ((N : Int) + 1) + (j : Int) := by omega
          have hw1 : IntKind.i64.wrap ((i : Int) * ((N : Int) + 1)) = (i : Int) * ((N : Int) + 1) := IntWalk.i64_in _ (by omega)
          have hw2 : IntKind.i64.wrap ((i : Int) * ((N : Int) + 1) + (j : Int)) = (i : Int) * ((N : Int) + 1) + (j : Int) := IntWalk.i64_in _ (by omega)
          have hwr : w.heap.size + 1 ≤ wr.heap.size := hloc.size
          have bA : Below wr.heap.size wr (wr.alloc (.cells #[.int .i64 0, .int .i64 0] 48)) := (Below.refl _ _).alloc (Nat.le_refl _) _
          have n1 : ¬ bq = wr.heap.size := by omega
          have n2 : ¬ wr.heap.size = bq := by omega
          go_upto_region 7 with fail
          go_region_held3 (fun w' => w'.cell? ⟨bq, oq + i * 2, none⟩ = some (.int .i64 pn) ∧ w'.cell? ⟨bq, oq + i * 2 + 1, none⟩ = some (.int .i64 pd) ∧ w'.cell? ⟨bq, oq + j * 2, none⟩ = some (.int .i64 rn) ∧ w'.cell? ⟨bq, oq + j * 2 + 1, none⟩ = some (.int .i64 rd))
            (first | exact ⟨by assumption, by assumption, by assumption, by assumption⟩ | go_keep)
            (first
              | (go_at_call 129; refine (pr_sub pn pd rn rd _ hbi.out hbj.out).mono ?_; rw [← HD.out]; rintro e w8 ⟨rfl, hb8⟩; have q0 := keepb (show wr.drew.cell? _ = _ from p0) hb8; have q1 := keepb (show wr.drew.cell? _ = _ from p1) hb8; have q2 := keepb (show wr.drew.cell? _ = _ from r0) hb8; have q3 := keepb (show wr.drew.cell? _ = _ from r1) hb8)
              | (go_at_call 129; refine (pr_sub pn pd rn rd _ hbi.out hbj.out).mono ?_; rw [← HD.out]; rintro e w8 ⟨rfl, hb8⟩; have q0 := keepb (show (wr.alloc (.cells #[.int .i64 0, .int .i64 0] 48)).drew.cell? _ = _ from keepb p0 bA.drew) hb8; have q1 := keepb (show (wr.alloc (.cells #[.int .i64 0, .int .i64 0] 48)).drew.cell? _ = _ from keepb p1 bA.drew) hb8; have q2 := keepb (show (wr.alloc (.cells #[.int .i64 0, .int .i64 0] 48)).drew.cell? _ = _ from keepb r0 bA.drew) hb8; have q3 := keepb (show (wr.alloc (.cells #[.int .i64 0, .int .i64 0] 48)).drew.cell? _ = _ from keepb r1 bA.drew) hb8; have hk := (hb8.block wr.heap.size (by simp)).trans (show (wr.alloc (.cells #[.int .i64 0, .int .i64 0] 48)).drew.heap[wr.heap.size]? = _ from heap_alloc_new wr _); have s0 := cell_of_row _ wr.heap.size 0 _ _ _ hk; have s1 := cell_of_row _ wr.heap.size 1 _ _ _ hk; have f0 := frozen_of_row _ wr.heap.size 0 _ _ hk; have f1 := frozen_of_row _ wr.heap.size 1 _ _ hk))
          · have hbW : Below wr.heap.size wr (w8.alloc (.cells #[.int .i64 dn, .int .i64 dd] 48)) := (((Below.refl wr.heap.size wr).drew).trans hb8).alloc hb8.size _
            have hdW := heap_alloc_new w8 (.cells #[.int .i64 dn, .int .i64 dd] 48)
            generalize hBB : w8.heap.size = B at *
            generalize hWW : w8.alloc (.cells #[.int .i64 dn, .int .i64 dd] 48) = W at *
            clear hWW hBB
            have hlocW := hloc.next (grownBy_below hbW none) (fun _ h => by cases h)
            have z1' : W.cell? ⟨w.heap.size, 1, none⟩ = some (.slice (some ⟨bz, oz, none⟩) Lz capz) := hlocW.cell 0 rfl 1
            have m1' := keepb m1 hbW
            have d0 := cell_of_row _ B 0 _ _ _ hdW
            have d1 := cell_of_row _ B 1 _ _ _ hdW
            clear z1 m1 p0 p1 r0 r1 q0 q1 q2 q3 hb8 hbW hdW hloc bA n1 n2
            generalize hM : meetR dn dd (gi xs (i * (N + 1) + j)) = M at *
            obtain ⟨b, y⟩ := M
            have HM := Lib.hid hM
            clear hM
            simp only at HP
            cases b
            · go_wp2_with fail
              go_region_held3 (fun w' => w'.cell? ⟨B, 0, none⟩ = some (.int .i64 dn) ∧ w'.cell? ⟨B, 1, none⟩ = some (.int .i64 dd) ∧ w'.cell? ⟨w.heap.size, 1, none⟩ = some (.slice (some ⟨bz, oz, none⟩) Lz capz) ∧ w'.cell? ⟨bz, oz + (i * (N + 1) + j), none⟩ = some (.int .i64 (gi xs (i * (N + 1) + j))))
                (first | exact ⟨by assumption, by assumption, by assumption, by assumption⟩ | go_keep)
                (first
                  | (go_at_call 130; refine (pr_meets dn dd _ _ HDi.out).mono ?_; rw [HM.out]; rintro e w9 ⟨rfl, hb9⟩; have k0 := keepb (show W.drew.cell? _ = _ from d0) hb9; have k1 := keepb (show W.drew.cell? _ = _ from d1) hb9; have k2 := keepb (show W.drew.cell? _ = _ from z1') hb9; have k3 := keepb (show W.drew.cell? _ = _ from m1') hb9))
              go_wp2_with fail
              go_ret
              refine ⟨⟨false, rfl, ?_⟩, below_grownBy (hlocW.next (grownBy_trans (grownBy_drew _ none) (grownBy_below hb9 none)) (fun _ h => by cases h)).grown⟩
              constructor
              · intro h; cases h
              · intro h
                have := h i hfi hil j hfj hjl
                rw [HP.out] at this
                exact this
            · go_wp2_with fail
              go_region_held3 (fun w' => w'.cell? ⟨B, 0, none⟩ = some (.int .i64 dn) ∧ w'.cell? ⟨B, 1, none⟩ = some (.int .i64 dd) ∧ w'.cell? ⟨w.heap.size, 1, none⟩ = some (.slice (some ⟨bz, oz, none⟩) Lz capz) ∧ w'.cell? ⟨bz, oz + (i * (N + 1) + j), none⟩ = some (.int .i64 (gi xs (i * (N + 1) + j))))
                (first | exact ⟨by assumption, by assumption, by assumption, by assumption⟩ | go_keep)
                (first
                  | (go_at_call 130; refine (pr_meets dn dd _ _ HDi.out).mono ?_; rw [HM.out]; rintro e w9 ⟨rfl, hb9⟩; have k0 := keepb (show W.drew.cell? _ = _ from d0) hb9; have k1 := keepb (show W.drew.cell? _ = _ from d1) hb9; have k2 := keepb (show W.drew.cell? _ = _ from z1') hb9; have k3 := keepb (show W.drew.cell? _ = _ from m1') hb9))
              go_wp2_with fail
              have hloc9 := hlocW.next (grownBy_trans (grownBy_drew _ none) (grownBy_below hb9 none)) (fun _ h => by cases h)
              go_roundw
              case rel => exact ⟨j + 1, by omega, by omega, by go_num, fun j' h1 h2 => by
                rcases Nat.lt_or_ge j' j with c | c
                · exact Hsr.out j' h1 c
                · rw [show j' = j by omega]; exact HP.out, hloc9⟩
              case measure => simp [intOf]; omega
          · have hbW : Below wr.heap.size wr ((w8.setCell ⟨wr.heap.size, 0, none⟩ (.int .i64 dn)).setCell ⟨wr.heap.size, 1, none⟩ (.int .i64 dd)) := ((bA.drew.trans (hb8.mono (by simp))).setCell (Nat.le_refl _) _).setCell (Nat.le_refl _) _
            have hdW : ((w8.setCell ⟨wr.heap.size, 0, none⟩ (.int .i64 dn)).setCell ⟨wr.heap.size, 1, none⟩ (.int .i64 dd)).heap[wr.heap.size]? = some (.cells #[.int .i64 dn, .int .i64 dd] 48 (0, 0)) := heap_setCell_same _ _ 1 _ _ _ (heap_setCell_same _ _ 0 _ _ _ hk)
            generalize hWW : (w8.setCell ⟨wr.heap.size, 0, none⟩ (.int .i64 dn)).setCell ⟨wr.heap.size, 1, none⟩ (.int .i64 dd) = W at *
            generalize hBB : (wr.heap.size : Nat) = B at hdW ⊢
            clear hWW hk s0 s1 f0 f1
            have hlocW := hloc.next (grownBy_below hbW none) (fun _ h => by cases h)
            have z1' : W.cell? ⟨w.heap.size, 1, none⟩ = some (.slice (some ⟨bz, oz, none⟩) Lz capz) := hlocW.cell 0 rfl 1
            have m1' := keepb m1 hbW
            have d0 := cell_of_row _ B 0 _ _ _ hdW
            have d1 := cell_of_row _ B 1 _ _ _ hdW
            clear z1 m1 p0 p1 r0 r1 q0 q1 q2 q3 hb8 hbW hdW hloc bA n1 n2
            generalize hM : meetR dn dd (gi xs (i * (N + 1) + j)) = M at *
            obtain ⟨b, y⟩ := M
            have HM := Lib.hid hM
            clear hM
            simp only at HP
            cases b
            · go_wp2_with fail
              go_region_held3 (fun w' => w'.cell? ⟨B, 0, none⟩ = some (.int .i64 dn) ∧ w'.cell? ⟨B, 1, none⟩ = some (.int .i64 dd) ∧ w'.cell? ⟨w.heap.size, 1, none⟩ = some (.slice (some ⟨bz, oz, none⟩) Lz capz) ∧ w'.cell? ⟨bz, oz + (i * (N + 1) + j), none⟩ = some (.int .i64 (gi xs (i * (N + 1) + j))))
                (first | exact ⟨by assumption, by assumption, by assumption, by assumption⟩ | go_keep)
                (first
                  | (go_at_call 130; refine (pr_meets dn dd _ _ HDi.out).mono ?_; rw [HM.out]; rintro e w9 ⟨rfl, hb9⟩; have k0 := keepb (show W.drew.cell? _ = _ from d0) hb9; have k1 := keepb (show W.drew.cell? _ = _ from d1) hb9; have k2 := keepb (show W.drew.cell? _ = _ from z1') hb9; have k3 := keepb (show W.drew.cell? _ = _ from m1') hb9))
              go_wp2_with fail
              go_ret
              refine ⟨⟨false, rfl, ?_⟩, below_grownBy (hlocW.next (grownBy_trans (grownBy_drew _ none) (grownBy_below hb9 none)) (fun _ h => by cases h)).grown⟩
              constructor
              · intro h; cases h
              · intro h
                have := h i hfi hil j hfj hjl
                rw [HP.out] at this
                exact this
            · go_wp2_with fail
              go_region_held3 (fun w' => w'.cell? ⟨B, 0, none⟩ = some (.int .i64 dn) ∧ w'.cell? ⟨B, 1, none⟩ = some (.int .i64 dd) ∧ w'.cell? ⟨w.heap.size, 1, none⟩ = some (.slice (some ⟨bz, oz, none⟩) Lz capz) ∧ w'.cell? ⟨bz, oz + (i * (N + 1) + j), none⟩ = some (.int .i64 (gi xs (i * (N + 1) + j))))
                (first | exact ⟨by assumption, by assumption, by assumption, by assumption⟩ | go_keep)
                (first
                  | (go_at_call 130; refine (pr_meets dn dd _ _ HDi.out).mono ?_; rw [HM.out]; rintro e w9 ⟨rfl, hb9⟩; have k0 := keepb (show W.drew.cell? _ = _ from d0) hb9; have k1 := keepb (show W.drew.cell? _ = _ from d1) hb9; have k2 := keepb (show W.drew.cell? _ = _ from z1') hb9; have k3 := keepb (show W.drew.cell? _ = _ from m1') hb9))
              go_wp2_with fail
              have hloc9 := hlocW.next (grownBy_trans (grownBy_drew _ none) (grownBy_below hb9 none)) (fun _ h => by cases h)
              go_roundw
              case rel => exact ⟨j + 1, by omega, by omega, by go_num, fun j' h1 h2 => by
                rcases Nat.lt_or_ge j' j with c | c
                · exact Hsr.out j' h1 c
                · rw [show j' = j by omega]; exact HP.out, hloc9⟩
              case measure => simp [intOf]; omega
        · have htj : decide ((j : Int) < (N : Int) + 1) = false := by simp; omega
          obtain rfl : j = N + 1 := by omega
          go_wp2_with fail
          go_roundw
          case rel => exact ⟨i + 1, by omega, by omega, by go_num, fun i' h1 h2 => by
            rcases Nat.lt_or_ge i' i with c | c
            · exact Hsu.out i' h1 c
            · rw [show i' = i by omega]; exact Hsr.out, hloc⟩
          case measure => simp [intOf]; omega
    · have hti : decide ((i : Int) < (N : Int) + 1) = false := by simp; omega
      obtain rfl : i = N + 1 := by omega
      go_wp2_with fail
      go_ret
      exact ⟨⟨true, rfl, fun _ => Hsu.out, fun _ => rfl⟩, below_grownBy hloc.grown⟩
end Go.Proofs.Ytkgaipcgdldfdaa
