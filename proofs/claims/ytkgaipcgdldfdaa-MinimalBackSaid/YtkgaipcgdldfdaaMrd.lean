/- The program's reduced constraints. -/
import Derived.Test.YtkgaipcgdldfdaaMbt
import Derived.Test.YtkgaipcgdldfdaaK3
import Derived.Test.YtkgaipcgdldfdaaZprog
namespace Go.Proofs.Ytkgaipcgdldfdaa
open Go.RowKit
set_option linter.unusedVariables false

theorem redRow_len (N : Nat) (xs : List Int) (kp : Nat → Nat → Bool) (i : Nat) : ∀ j, (redRow N xs kp i j).length ≤ j
  | 0 => Nat.le_refl _
  | j + 1 => by
    rw [redRow, List.length_append]
    have := redRow_len N xs kp i j
    split <;> simp <;> omega
theorem redTo_len (N : Nat) (xs : List Int) (kp : Nat → Nat → Bool) : ∀ q, (redTo N xs kp q).length ≤ q * (N + 1)
  | 0 => Nat.zero_le _
  | q + 1 => by
    rw [redTo, List.length_append, Nat.succ_mul]
    have := redTo_len N xs kp q
    have := redRow_len N xs kp q (N + 1)
    omega
theorem red_small {N : Nat} {xs : List Int} {kp : Nat → Nat → Bool} {q i j : Nat} (hN : N ≤ 10) (hq : q ≤ N + 1) (hj : j ≤ N + 1) : (redTo N xs kp q ++ redRow N xs kp i j).length ≤ 200 := by
  rw [List.length_append]
  have := redTo_len N xs kp q
  have := redRow_len N xs kp i j
  have : q * (N + 1) ≤ 11 * 11 := Nat.mul_le_mul (by omega) (by omega)
  omega
theorem redRow_add {N : Nat} {xs : List Int} {kp : Nat → Nat → Bool} {i j : Nat} (h : kp i j = true) : redRow N xs kp i (j + 1) = redRow N xs kp i j ++ [((i : Int), (j : Int), ent N xs i j)] := by rw [redRow, if_pos h]
theorem redRow_skip {N : Nat} {xs : List Int} {kp : Nat → Nat → Bool} {i j : Nat} (h : kp i j = false) : redRow N xs kp i (j + 1) = redRow N xs kp i j := by rw [redRow, h]; simp
theorem pk_same {N : Nat} {xs : List Int} {i j : Nat} (h : i = j) : pkB N xs i j = false := by simp [pkB, h]
theorem pk_nl {N : Nat} {xs : List Int} {i j : Nat} (h : ent N xs i j = 1099511627776) : pkB N xs i j = false := by simp [pkB, h]
theorem pk_in {N : Nat} {xs : List Int} {i j : Nat} (h : i ≠ j) (h' : ent N xs i j ≠ 1099511627776) (hr : rpF N xs i = rpF N xs j) : pkB N xs i j = insB N xs i j := by simp [pkB, h, h', hr]
theorem pk_bt {N : Nat} {xs : List Int} {i j : Nat} (h : i ≠ j) (h' : ent N xs i j ≠ 1099511627776) (hr : rpF N xs i ≠ rpF N xs j) : pkB N xs i j = btwB N xs i j := by simp [pkB, h, h', hr]

theorem OK3.keepb {t base : Nat} {w w' : World} {v : Value} {cs : List K3} (h : OK3 t base w v cs) (hb : Below w.heap.size w w') : OK3 t base w' v cs := World.ownsRow.kept h (row := none) ⟨hb.os, hb.tape, hb.output, hb.size, fun i hi _ => hb.block i hi⟩ (by cases v.ownBlock <;> simp)

theorem prog_reduce_bad (n : Int) (v : Value) (xs : List Int) (w : World) (hv : RL w.heap.size w v xs) (hok : ¬ OkZ n xs) :
    Calls Try.prog 13 #[.agg #[.int .i64 n, v]] w fun e w' => e = .returned (.tuple #[.slice none 0 0, .int .i64 2]) ∧ Below w.heap.size w w' := by
  have he := okErr_no hok
  obtain ⟨aoz, capz, rfl, hlez, _⟩ := hv.open
  have hloc0 := Loc.one w (.cells #[.int .i64 n, .slice aoz xs.length capz] 24) none
  have Hv0 := Lib.hid (hv.keepb (below_grownBy hloc0.grown))
  clear hv hok
  go_enter Try.func13, Try.ntmps13
  go_wp2_with (go_at_call 25; refine (prog_check n _ xs _ Hv0.out).mono ?_; rw [he]; rintro e w1 ⟨rfl, hb1⟩)
  go_ret2
  exact ⟨rfl, below_grownBy (hloc0.next (grownBy_below hb1 none) (fun _ h => by cases h)).grown⟩

set_option maxRecDepth 100000 in
set_option maxHeartbeats 8000000 in
theorem prog_reduce (N : Nat) (v : Value) (xs : List Int) (w : World) (hv : RL w.heap.size w v xs) (hok : OkZ N xs) :
    Calls Try.prog 13 #[.agg #[.int .i64 N, v]] w fun e w' => (∃ v', e = .returned (.tuple #[v', .int .i64 0]) ∧ OK3 62 w.heap.size w' v' (redTo N xs (pkB N xs) (N + 1))) ∧ Below w.heap.size w w' := by
  have he := okErr_yes hok
  have hN : N ≤ 10 := by have := hok.hi; omega
  have Hx := Lib.hid (show xs.length = (N + 1) * (N + 1) by have := hok.len; rwa [Int.toNat_natCast] at this)
  obtain ⟨aoz, capz, rfl, hlez, _⟩ := hv.open
  have hloc0 := Loc.one w (.cells #[.int .i64 N, .slice aoz xs.length capz] 24) none
  have Hv := Lib.hid hv
  have Hv0 := Lib.hid (hv.keepb (below_grownBy hloc0.grown))
  have Hok := Lib.hid hok
  have HG := Lib.hid (show ∀ k, k ≤ N → (((clTo N xs (N + 1)).map (Value.int .i64)).toArray)[k]? = some (.int .i64 (rpF N xs k)) from fun k hk => cl_get hN hk)
  have hall : (((clTo N xs (N + 1)).map (Value.int .i64)).toArray).all (·.oneCell') = true := by simp; intros; rfl
  have hsz : (((clTo N xs (N + 1)).map (Value.int .i64)).toArray).size = 11 := by simp [clTo_len]
  have HO := Lib.hid (fun w hv => prog_of_cl N (.slice aoz xs.length capz) xs w hv hok)
  have HI := Lib.hid (fun i j w hv hi hj => prog_inside N i j (.slice aoz xs.length capz) xs w hv hok hi hj)
  have HB := Lib.hid (fun i j w hv hi hj => prog_between N i j (.slice aoz xs.length capz) xs w hv hok hi hj)
  generalize ((clTo N xs (N + 1)).map (Value.int .i64)).toArray = cs at *
  clear hv hok
  go_enter Try.func13, Try.ntmps13
  go_wp2_with fail
  refine (prog_check N _ xs _ Hv0.out).mono ?_
  rw [he]
  rintro e w1 ⟨rfl, hb1⟩
  have hloc1 := hloc0.next (grownBy_below hb1 none) (fun _ h => by cases h)
  have c10 : w1.cell? ⟨w.heap.size, 0, none⟩ = some (.int .i64 N) := hloc1.cell 0 rfl 0
  have c11 : w1.cell? ⟨w.heap.size, 1, none⟩ = some (.slice aoz xs.length capz) := hloc1.cell 0 rfl 1
  have Hv1 := Lib.hid (Hv.out.keepb (below_grownBy hloc1.grown))
  clear hb1 hloc0 he
  go_wp2_with fail
  refine (HO.out _ Hv1.out).mono ?_
  rintro e w2 ⟨rfl, hb2⟩
  have hloc2 := hloc1.next (grownBy_below hb2 none) (fun _ h => by cases h)
  clear hb2 hloc1 c10 c11
  have hnew := heap_alloc_new w2 (.cells #[.int .i64 0, .int .i64 0, .int .i64 0, .int .i64 0, .int .i64 0, .int .i64 0, .int .i64 0, .int .i64 0, .int .i64 0, .int .i64 0, .int .i64 0] 76)
  have hrow := setRow_heap _ _ _ cs _ _ hnew
  have hloc3 := (hloc2.next (World.grownBy_alloc w2 (.cells #[.int .i64 0, .int .i64 0, .int .i64 0, .int .i64 0, .int .i64 0, .int .i64 0, .int .i64 0, .int .i64 0, .int .i64 0, .int .i64 0, .int .i64 0] 76) none) (fun _ h => by cases h)).anyrow (grownBy_setRow _ w2.heap.size cs) (fun g h => by cases h; exact hloc2.size)
  have hC : w.heap.size + 1 ≤ w2.heap.size := hloc2.size
  have hC2 : w2.heap.size + 1 ≤ ((w2.alloc (.cells #[.int .i64 0, .int .i64 0, .int .i64 0, .int .i64 0, .int .i64 0, .int .i64 0, .int .i64 0, .int .i64 0, .int .i64 0, .int .i64 0, .int .i64 0] 76)).setRow w2.heap.size cs).heap.size := by simp
  have c30 : ((w2.alloc (.cells #[.int .i64 0, .int .i64 0, .int .i64 0, .int .i64 0, .int .i64 0, .int .i64 0, .int .i64 0, .int .i64 0, .int .i64 0, .int .i64 0, .int .i64 0] 76)).setRow w2.heap.size cs).cell? ⟨w.heap.size, 0, none⟩ = some (.int .i64 N) := hloc3.cell 0 rfl 0
  go_wp2_with (refine wpList_store_row rfl 76 _ _ rfl w2.heap.size cs rfl rfl 76 _ hnew (by rw [hsz]; kernel_rfl) (by rw [hsz]; rfl) hall ?_)
  generalize hW3 : (w2.alloc (.cells #[.int .i64 0, .int .i64 0, .int .i64 0, .int .i64 0, .int .i64 0, .int .i64 0, .int .i64 0, .int .i64 0, .int .i64 0, .int .i64 0, .int .i64 0] 76)).setRow w2.heap.size cs = w3 at *
  generalize hCC : w2.heap.size = C at *
  clear hW3 hCC hnew hloc2
  go_loopw [5, 18] (fun o i wr => ∃ q : Nat, q ≤ N + 1 ∧ i = .int .i64 q ∧ OK3 62 (C + 1) wr o (redTo N xs (pkB N xs) q) ∧ wr.heap[C]? = some (.cells cs 76 (0, 0)) ∧ Loc w wr none [.cells #[.int .i64 N, .slice aoz xs.length capz] 24]) (fun _ i _ => N + 1 - (intOf i).toNat)
  case atStart => exact ⟨0, by omega, rfl, ⟨rfl, .inl ⟨rfl, rfl⟩⟩, hrow, hloc3⟩
  case round =>
    clear hloc3 hrow c30 hC2
    obtain ⟨i, hi, rfl, hown, hrow, hloc⟩ := hrel
    have Hown := Lib.hid hown
    clear hown
    have c0 : wr.cell? ⟨w.heap.size, 0, none⟩ = some (.int .i64 N) := hloc.cell 0 rfl 0
    by_cases hlt : i < N + 1
    rotate_left
    · have hti : decide ((i : Int) < (N : Int) + 1) = false := by simp; omega
      obtain rfl : i = N + 1 := by omega
      go_wp2_with fail
      go_ret2
      exact ⟨⟨_, rfl, owns_mono Hown.out (by omega)⟩, below_grownBy hloc.grown⟩
    have hti : decide ((i : Int) < (N : Int) + 1) = true := by simp; omega
    have hi0 : (0 : Int) ≤ (i : Int) := by omega
    have hi11 : (i : Int) < 11 := by omega
    go_wp2_with fail
    go_loopw [5, 24] (fun o j wr => ∃ q : Nat, q ≤ N + 1 ∧ j = .int .i64 q ∧ OK3 62 (C + 1) wr o (redTo N xs (pkB N xs) i ++ redRow N xs (pkB N xs) i q) ∧ wr.heap[C]? = some (.cells cs 76 (0, 0)) ∧ Loc w wr none [.cells #[.int .i64 N, .slice aoz xs.length capz] 24]) (fun _ j _ => N + 1 - (intOf j).toNat)
    case atStart => exact ⟨0, by omega, rfl, by rw [redRow, List.append_nil]; exact Hown.out, hrow, hloc⟩
    case round =>
      clear hloc hrow c0 Hown
      obtain ⟨j, hj, rfl, hown, hrow, hloc⟩ := hrel
      have Hown := Lib.hid hown
      clear hown
      by_cases hlt2 : j < N + 1
      rotate_left
      · have htj : decide ((j : Int) < (N : Int) + 1) = false := by simp; omega
        have HQ := Lib.hid (show j = N + 1 by omega)
        go_wp2_with fail
        go_roundw
        case rel => exact ⟨i + 1, by omega, by go_num, by rw [redTo, ← HQ.out]; exact Hown.out, hrow, hloc⟩
        case measure => simp [intOf]; omega
      have htj : decide ((j : Int) < (N : Int) + 1) = true := by simp; omega
      have hj0 : (0 : Int) ≤ (j : Int) := by omega
      have hj11 : (j : Int) < 11 := by omega
      have c0 : wr.cell? ⟨w.heap.size, 0, none⟩ = some (.int .i64 N) := hloc.cell 0 rfl 0
      have c1 : wr.cell? ⟨w.heap.size, 1, none⟩ = some (.slice aoz xs.length capz) := hloc.cell 0 rfl 1
      have ci : wr.cell? ⟨C, i, none⟩ = some (.int .i64 (rpF N xs i)) := (cell_of_row wr C i cs _ _ hrow).trans (HG.out i (by omega))
      have cj : wr.cell? ⟨C, j, none⟩ = some (.int .i64 (rpF N xs j)) := (cell_of_row wr C j cs _ _ hrow).trans (HG.out j (by omega))
      have Hrow := Lib.hid hrow
      by_cases hE : rpF N xs i = rpF N xs j
      · have hEb : ((rpF N xs i : Int) == (rpF N xs j : Int)) = true := by simp; omega
        have HE := Lib.hid hE
        clear hE
        generalize hRi : rpF N xs i = Ri at ci hEb
        generalize hRj : rpF N xs j = Rj at cj hEb
        have HRi := Lib.hid hRi
        have HRj := Lib.hid hRj
        clear hRi hRj
        go_wp2_with (refine wpList_load_row rfl 76 _ rfl C rfl 76 cs (0, 0) _ hrow Try.underlying76 rfl (by rw [hsz]; kernel_rfl) ?_)
        go_quiet (fail)
        have hrow' : (wr.drewN nq).heap[C]? = some (.cells cs 76 (0, 0)) := Hrow.out
        have HvD := Lib.hid (Hv.out.keepb (below_grownBy (hloc.next (grownBy_below (below_drewN wr nq) none) (fun _ h => by cases h)).grown))
        go_wp2_with (refine wpList_load_row rfl 76 _ rfl C rfl 76 cs (0, 0) _ hrow' Try.underlying76 rfl (by rw [hsz]; kernel_rfl) ?_)
        refine (prog_atN N i j _ xs _ HvD.out hN (by omega) (by omega) Hx.out).mono ?_
        rintro e w5 ⟨rfl, hb5⟩
        have hb := bt (below_drewN wr nq) hb5
        have hloc5 := hloc.next (grownBy_below hb none) (fun _ h => by cases h)
        have Hown5 := Lib.hid (Hown.out.keepb hb)
        have hrow5 : w5.heap[C]? = some (.cells cs 76 (0, 0)) := (hb.block C (Array.getElem?_eq_some_iff.1 Hrow.out).1).trans Hrow.out
        have Hrow5 := Lib.hid hrow5
        have c50 : w5.cell? ⟨w.heap.size, 0, none⟩ = some (.int .i64 N) := hloc5.cell 0 rfl 0
        have c51 : w5.cell? ⟨w.heap.size, 1, none⟩ = some (.slice aoz xs.length capz) := hloc5.cell 0 rfl 1
        have Hv5 := Lib.hid (Hv.out.keepb (below_grownBy hloc5.grown))
        clear hb5 hb hloc hrow hrow' hrow5 Hown c0 c1 ci cj HvD
        by_cases hij : i = j
        · have hijb : ((i : Int) != (j : Int)) = false := by simp; omega
          have HP := Lib.hid (pk_same (N := N) (xs := xs) hij)
          clear hij
          go_wp2_with fail
          go_roundw
          case rel => exact ⟨j + 1, by omega, by go_num, by rw [redRow_skip HP.out]; exact Hown5.out, Hrow5.out, hloc5⟩
          case measure => simp [intOf]; omega
        have hijb : ((i : Int) != (j : Int)) = true := by simp; omega
        have Hij := Lib.hid hij
        clear hij
        by_cases hnl : ent N xs i j = 1099511627776
        · have hnb : (ent N xs i j != 1099511627776) = false := by simpa using hnl
          have HP := Lib.hid (pk_nl hnl)
          clear hnl
          go_wp2_with fail
          go_roundw
          case rel => exact ⟨j + 1, by omega, by go_num, by rw [redRow_skip HP.out]; exact Hown5.out, Hrow5.out, hloc5⟩
          case measure => simp [intOf]; omega
        have hnb : (ent N xs i j != 1099511627776) = true := by simpa using hnl
        have HP := Lib.hid (pk_in Hij.out hnl HE.out)
        clear hnl
        go_wp2_with fail
        refine (HI.out i j _ Hv5.out (by omega) (by omega)).mono ?_
        cases hK : insB N xs i j
        · have HP2 := Lib.hid (HP.out.trans hK)
          clear hK
          rintro e w6 ⟨rfl, hb6⟩
          have hloc6 := hloc5.next (grownBy_below hb6 none) (fun _ h => by cases h)
          have Hown6 := Lib.hid (Hown5.out.keepb hb6)
          have Hrow6 := Lib.hid ((hb6.block C (Array.getElem?_eq_some_iff.1 Hrow5.out).1).trans Hrow5.out)
          clear hb6 hloc5 c50 c51
          go_wp2_with fail
          go_roundw
          case rel => exact ⟨j + 1, by omega, by go_num, by rw [redRow_skip HP2.out]; exact Hown6.out, Hrow6.out, hloc6⟩
          case measure => simp [intOf]; omega
        · have HP2 := Lib.hid (HP.out.trans hK)
          clear hK
          rintro e w6 ⟨rfl, hb6⟩
          have hloc6 := hloc5.next (grownBy_below hb6 none) (fun _ h => by cases h)
          have Hown6 := Lib.hid (Hown5.out.keepb hb6)
          have Hrow6 := Lib.hid ((hb6.block C (Array.getElem?_eq_some_iff.1 Hrow5.out).1).trans Hrow5.out)
          have hC6 : C + 1 ≤ w6.heap.size := (Array.getElem?_eq_some_iff.1 Hrow6.out).1
          have Hsm := Lib.hid (red_small (xs := xs) (kp := pkB N xs) (q := i) (i := i) (j := j) hN (by omega) (by omega))
          clear hb6 hloc5 c50 c51
          go_wp2_with (at_builtin; (refine wpList_append_k rfl (.tmp 56) (.tmp 61) 26 rfl 62 Try.undKs Try.infoK (C + 1) u5 rfl (redTo N xs (pkB N xs) i ++ redRow N xs (pkB N xs) i j) ?_ ?_ (.slice (some ⟨w6.heap.size, 0, none⟩) 1 1) rfl [((i : Int), (j : Int), ent N xs i j)] (w6.heap.size + 1) ?_ ?_ ?_; (exact World.ownsRow.alloc Hown6.out _); (simp; omega); (exact rs_lit3 (w := w6) rfl rfl (by simp)); (have := Hsm.out; simp only [List.length_cons, List.length_nil]; omega); intro v' w' ho' hg'))
          have hloc7 := (hloc6.next (World.grownBy_alloc w6 _ none) (fun _ h => by cases h)).anyrow hg' (fun g h => by have := Hown6.out.lt g h; show w.heap.size + 1 ≤ g; omega)
          have Hrow7 := Lib.hid (obj_kept (World.ownsRow.alloc Hown6.out _) hg' ((heap_alloc_old w6 _ (show C < w6.heap.size by omega)).trans Hrow6.out) (by omega))
          clear hg' hloc6
          go_roundw
          case rel => exact ⟨j + 1, by omega, by go_num, by rw [redRow_add HP2.out, ← List.append_assoc]; exact ho', Hrow7.out, hloc7⟩
          case measure => simp [intOf]; omega
      · have hEb : ((rpF N xs i : Int) == (rpF N xs j : Int)) = false := by simp; omega
        have HE := Lib.hid hE
        clear hE
        generalize hRi : rpF N xs i = Ri at ci hEb
        generalize hRj : rpF N xs j = Rj at cj hEb
        have HRi := Lib.hid hRi
        have HRj := Lib.hid hRj
        clear hRi hRj
        go_wp2_with (refine wpList_load_row rfl 76 _ rfl C rfl 76 cs (0, 0) _ hrow Try.underlying76 rfl (by rw [hsz]; kernel_rfl) ?_)
        go_quiet (fail)
        have hrow' : (wr.drewN nq).heap[C]? = some (.cells cs 76 (0, 0)) := Hrow.out
        have HvD := Lib.hid (Hv.out.keepb (below_grownBy (hloc.next (grownBy_below (below_drewN wr nq) none) (fun _ h => by cases h)).grown))
        go_wp2_with fail
        refine (prog_atN N i j _ xs _ HvD.out hN (by omega) (by omega) Hx.out).mono ?_
        rintro e w5 ⟨rfl, hb5⟩
        have hb := bt (below_drewN wr nq) hb5
        have hloc5 := hloc.next (grownBy_below hb none) (fun _ h => by cases h)
        have Hown5 := Lib.hid (Hown.out.keepb hb)
        have hrow5 : w5.heap[C]? = some (.cells cs 76 (0, 0)) := (hb.block C (Array.getElem?_eq_some_iff.1 Hrow.out).1).trans Hrow.out
        have Hrow5 := Lib.hid hrow5
        have c50 : w5.cell? ⟨w.heap.size, 0, none⟩ = some (.int .i64 N) := hloc5.cell 0 rfl 0
        have c51 : w5.cell? ⟨w.heap.size, 1, none⟩ = some (.slice aoz xs.length capz) := hloc5.cell 0 rfl 1
        have Hv5 := Lib.hid (Hv.out.keepb (below_grownBy hloc5.grown))
        clear hb5 hb hloc hrow hrow' hrow5 Hown c0 c1 ci cj HvD
        by_cases hij : i = j
        · have hijb : ((i : Int) != (j : Int)) = false := by simp; omega
          have HP := Lib.hid (pk_same (N := N) (xs := xs) hij)
          clear hij
          go_wp2_with fail
          go_roundw
          case rel => exact ⟨j + 1, by omega, by go_num, by rw [redRow_skip HP.out]; exact Hown5.out, Hrow5.out, hloc5⟩
          case measure => simp [intOf]; omega
        have hijb : ((i : Int) != (j : Int)) = true := by simp; omega
        have Hij := Lib.hid hij
        clear hij
        by_cases hnl : ent N xs i j = 1099511627776
        · have hnb : (ent N xs i j != 1099511627776) = false := by simpa using hnl
          have HP := Lib.hid (pk_nl hnl)
          clear hnl
          go_wp2_with fail
          go_roundw
          case rel => exact ⟨j + 1, by omega, by go_num, by rw [redRow_skip HP.out]; exact Hown5.out, Hrow5.out, hloc5⟩
          case measure => simp [intOf]; omega
        have hnb : (ent N xs i j != 1099511627776) = true := by simpa using hnl
        have HP := Lib.hid (pk_bt Hij.out hnl HE.out)
        clear hnl
        go_wp2_with fail
        refine (HB.out i j _ Hv5.out (by omega) (by omega)).mono ?_
        cases hK : btwB N xs i j
        · have HP2 := Lib.hid (HP.out.trans hK)
          clear hK
          rintro e w6 ⟨rfl, hb6⟩
          have hloc6 := hloc5.next (grownBy_below hb6 none) (fun _ h => by cases h)
          have Hown6 := Lib.hid (Hown5.out.keepb hb6)
          have Hrow6 := Lib.hid ((hb6.block C (Array.getElem?_eq_some_iff.1 Hrow5.out).1).trans Hrow5.out)
          clear hb6 hloc5 c50 c51
          go_wp2_with fail
          go_roundw
          case rel => exact ⟨j + 1, by omega, by go_num, by rw [redRow_skip HP2.out]; exact Hown6.out, Hrow6.out, hloc6⟩
          case measure => simp [intOf]; omega
        · have HP2 := Lib.hid (HP.out.trans hK)
          clear hK
          rintro e w6 ⟨rfl, hb6⟩
          have hloc6 := hloc5.next (grownBy_below hb6 none) (fun _ h => by cases h)
          have Hown6 := Lib.hid (Hown5.out.keepb hb6)
          have Hrow6 := Lib.hid ((hb6.block C (Array.getElem?_eq_some_iff.1 Hrow5.out).1).trans Hrow5.out)
          have hC6 : C + 1 ≤ w6.heap.size := (Array.getElem?_eq_some_iff.1 Hrow6.out).1
          have Hsm := Lib.hid (red_small (xs := xs) (kp := pkB N xs) (q := i) (i := i) (j := j) hN (by omega) (by omega))
          clear hb6 hloc5 c50 c51
          go_wp2_with (at_builtin; (refine wpList_append_k rfl (.tmp 56) (.tmp 61) 26 rfl 62 Try.undKs Try.infoK (C + 1) u5 rfl (redTo N xs (pkB N xs) i ++ redRow N xs (pkB N xs) i j) ?_ ?_ (.slice (some ⟨w6.heap.size, 0, none⟩) 1 1) rfl [((i : Int), (j : Int), ent N xs i j)] (w6.heap.size + 1) ?_ ?_ ?_; (exact World.ownsRow.alloc Hown6.out _); (simp; omega); (exact rs_lit3 (w := w6) rfl rfl (by simp)); (have := Hsm.out; simp only [List.length_cons, List.length_nil]; omega); intro v' w' ho' hg'))
          have hloc7 := (hloc6.next (World.grownBy_alloc w6 _ none) (fun _ h => by cases h)).anyrow hg' (fun g h => by have := Hown6.out.lt g h; show w.heap.size + 1 ≤ g; omega)
          have Hrow7 := Lib.hid (obj_kept (World.ownsRow.alloc Hown6.out _) hg' ((heap_alloc_old w6 _ (show C < w6.heap.size by omega)).trans Hrow6.out) (by omega))
          clear hg' hloc6
          go_roundw
          case rel => exact ⟨j + 1, by omega, by go_num, by rw [redRow_add HP2.out, ← List.append_assoc]; exact ho', Hrow7.out, hloc7⟩
          case measure => simp [intOf]; omega
end Go.Proofs.Ytkgaipcgdldfdaa
