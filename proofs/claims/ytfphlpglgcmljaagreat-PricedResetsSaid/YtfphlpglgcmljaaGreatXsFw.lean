/- Part of the proof of priced_resets_proved: Lim, Fw. -/
import Derived.Test.YtfphlpglgcmljaaGreatXsLst
namespace Go.Proofs.YtfphlpglgcmljaaGreat
open Go.RowKit
set_option maxHeartbeats 400000 in
theorem ref_valid (l : Int) (w : World) :
  Calls Tryz.prog 125 #[.int .i64 l] w fun e w' => e = .returned (.bool (vld l)) ∧ w = w' := by
 go_enter Tryz.func125, Tryz.ntmps125
 go_wp2
 all_goals go_ret
 all_goals exact ⟨ret_bool (by rw [Bool.eq_iff_iff, vld_iff]; simp <;> omega), rfl⟩
theorem prog_constant (l : Int) (w : World) :
  Calls Tryz.prog 169 #[.int .i64 l] w fun e w' => e = .returned (.int .i64 (l / 2)) ∧ w = w' := by
 go_enter Tryz.func169, Tryz.ntmps169
 go_wp2
 go_ret
 exact ⟨rfl, rfl⟩
set_option maxHeartbeats 400000 in
theorem prog_valid (l : Int) (w : World) :
  Calls Tryz.prog 132 #[.int .i64 l] w fun e w' => e = .returned (.bool (vld l)) ∧ w = w' := by
 go_enter Tryz.func132, Tryz.ntmps132
 go_wp2_with (go_at_call 169; refine (prog_constant _ _).mono ?_; rintro e w' ⟨rfl, rfl⟩)
 all_goals go_ret
 all_goals exact ⟨ret_bool (by rw [Bool.eq_iff_iff, vld_iff]; simp <;> omega), rfl⟩
set_option maxHeartbeats 400000 in
theorem prog_sum (a b : Int) (w : World) :
    Calls Tryz.prog 157 #[.int .i64 a, .int .i64 b] w fun e w' => e = .returned (.int .i64 (lsum a b)) ∧ w = w' := by
  go_enter Tryz.func157, Tryz.ntmps157
  go_wp2
  all_goals go_ret
  · exact ⟨ret_int (lsum_nl _ _ (.inl ‹_›)).symm, rfl⟩
  · exact ⟨ret_int (lsum_nl _ _ (by have h : (a == 1099511627776) = true ∨ (b == 1099511627776) = true := by assumption
                                    simpa using h)).symm, rfl⟩
  · have h : (a == 1099511627776) = false ∧ (b == 1099511627776) = false := by assumption
    simp at h
    exact ⟨ret_int (lsum_bits _ _ h.1 h.2), rfl⟩
set_option maxHeartbeats 400000 in
theorem ref_sum (a b : Int) (w : World) :
    Calls Tryz.prog 159 #[.int .i64 a, .int .i64 b] w fun e w' => e = .returned (.int .i64 (lsum a b)) ∧ w = w' := by
  go_enter Tryz.func159, Tryz.ntmps159
  go_wp2
  all_goals go_ret
  · exact ⟨ret_int (lsum_nl _ _ (.inl ‹_›)).symm, rfl⟩
  · exact ⟨ret_int (lsum_nl _ _ (by have h : (a == 1099511627776) = true ∨ (b == 1099511627776) = true := by assumption
                                    simpa using h)).symm, rfl⟩
  all_goals
    have h : (a == 1099511627776) = false ∧ (b == 1099511627776) = false := by assumption
    simp at h
    refine ⟨ret_int ?_, rfl⟩
  · have k : (b.tmod 2 != 0) = true := by assumption
    exact lsum_odd _ _ h.1 h.2 (.inr (by simpa using k))
  · have k : (b.tmod 2 != 0) = false := by assumption
    exact lsum_even _ _ h.1 h.2 (by assumption) (by simpa using k)
  · exact lsum_odd _ _ h.1 h.2 (.inl (by assumption))
end Go.Proofs.YtfphlpglgcmljaaGreat
namespace Go.Proofs.YtfphlpglgcmljaaGreat
open Go.RowKit
def capTo (N : Nat) (m : List Int) : Nat → List Int
 | 0 => m
 | j + 1 => ((capTo N m j).set (j) (imin (gi (capTo N m j) (j)) 1)).set (j * (N + 1) + j)
   (imin (gi ((capTo N m j).set (j) (imin (gi (capTo N m j) (j)) 1)) (j * (N + 1) + j)) 1)
def fwJ (N k i : Nat) (m : List Int) : Nat → List Int
 | 0 => m
 | j + 1 => (fwJ N k i m j).set (i * (N + 1) + j) (imin (gi (fwJ N k i m j) (i * (N + 1) + j)) (lsum (gi (fwJ N k i m j) (i * (N + 1) + k)) (gi (fwJ N k i m j) (k * (N + 1) + j))))
def fwI (N k : Nat) (m : List Int) : Nat → List Int
 | 0 => m
 | i + 1 => fwJ N k i (fwI N k m i) (N + 1)
def fwK (N : Nat) (m : List Int) : Nat → List Int
 | 0 => m
 | k + 1 => fwI N k (fwK N m k) (N + 1)
def fw (N : Nat) (m : List Int) : List Int := fwK N (capTo N m (N + 1)) (N + 1)
def negTo (N : Nat) (m : List Int) (n : Nat) : Bool := (List.range n).any fun i => decide (gi m (i * (N + 1) + i) < 1)
def closedF (N : Nat) (m : List Int) : Int × List Int :=
 if negTo N (fw N m) (N + 1) then (4, []) else if (fw N m).all vld then (0, fw N m) else (7, [])
structure OkZ (n : Int) (xs : List Int) : Prop where
 lo : 0 ≤ n
 hi : n ≤ 10
 len : xs.length = (n.toNat + 1) * (n.toNat + 1)
 val : ∀ i j, i ≤ n.toNat → j ≤ n.toNat → vld (gi xs (i * (n.toNat + 1) + j)) = true
 diag : ∀ i, i ≤ n.toNat → gi xs (i * (n.toNat + 1) + i) = 1
 row : ∀ j, j ≤ n.toNat → gi xs j ≤ 1
 tri : ∀ i j k, i ≤ n.toNat → j ≤ n.toNat → k ≤ n.toNat → gi xs (i * (n.toNat + 1) + j) ≤ lsum (gi xs (i * (n.toNat + 1) + k)) (gi xs (k * (n.toNat + 1) + j))
open Classical in
/-- What Check returns. -/
noncomputable def okErr (n : Int) (xs : List Int) : Int := if OkZ n xs then 0 else 2
theorem okErr_yes {n : Int} {xs : List Int} (h : OkZ n xs) : okErr n xs = 0 := by unfold okErr; rw [if_pos h]
theorem okErr_no {n : Int} {xs : List Int} (h : ¬ OkZ n xs) : okErr n xs = 2 := by unfold okErr; rw [if_neg h]
structure El (N : Nat) (xs : List Int) (i j : Nat) : Prop where
 val : vld (gi xs (i * (N + 1) + j)) = true
 diag : i = j → gi xs (i * (N + 1) + j) = 1
 row : i = 0 → gi xs (i * (N + 1) + j) ≤ 1
def ElTo (N : Nat) (xs : List Int) (q : Nat) : Prop := ∀ i j, i < q → j ≤ N → El N xs i j
def ElRow (N : Nat) (xs : List Int) (i q : Nat) : Prop := ∀ j, j < q → El N xs i j
def Tr (N : Nat) (xs : List Int) (i j k : Nat) : Prop := gi xs (i * (N + 1) + j) ≤ lsum (gi xs (i * (N + 1) + k)) (gi xs (k * (N + 1) + j))
def Tr1 (N : Nat) (xs : List Int) (q : Nat) : Prop := ∀ i j k, i < q → j ≤ N → k ≤ N → Tr N xs i j k
def Tr2 (N : Nat) (xs : List Int) (i q : Nat) : Prop := ∀ j k, j < q → k ≤ N → Tr N xs i j k
def Tr3 (N : Nat) (xs : List Int) (i j q : Nat) : Prop := ∀ k, k < q → Tr N xs i j k
theorem OkZ.el {N : Nat} {xs : List Int} (h : OkZ N xs) {i j : Nat} (hi : i ≤ N) (hj : j ≤ N) : El N xs i j :=
 ⟨h.val i j hi hj, fun e => by subst e; exact h.diag i hi, fun e => by subst e; have := h.row j hj; rwa [Nat.zero_mul, Nat.zero_add]⟩
theorem OkZ.mk' {N : Nat} {xs : List Int} (hN : N ≤ 10) (hx : xs.length = (N + 1) * (N + 1)) (h1 : ElTo N xs (N + 1)) (h2 : Tr1 N xs (N + 1)) : OkZ N xs where
 lo := by omega
 hi := by omega
 len := by rw [Int.toNat_natCast]; exact hx
 val := fun i j hi hj => by rw [Int.toNat_natCast] at *; exact (h1 i j (by omega) hj).val
 diag := fun i hi => by rw [Int.toNat_natCast] at *; exact (h1 i i (by omega) hi).diag rfl
 row := fun j hj => by rw [Int.toNat_natCast] at *; have := (h1 0 j (by omega) hj).row rfl; rwa [Nat.zero_mul, Nat.zero_add] at this
 tri := fun i j k hi hj hk => by rw [Int.toNat_natCast] at *; exact h2 i j k (by omega) hj hk
theorem El.gt {N : Nat} {xs : List Int} (h : OkZ N xs) {i j k : Nat} (hi : i ≤ N) (hj : j ≤ N) (hk : k ≤ N) : Tr N xs i j k := h.tri i j k (by rw [Int.toNat_natCast]; exact hi) (by rw [Int.toNat_natCast]; exact hj) (by rw [Int.toNat_natCast]; exact hk)
theorem ElTo.succ {N : Nat} {xs : List Int} {q : Nat} (h : ElTo N xs q) (h' : ElRow N xs q (N + 1)) : ElTo N xs (q + 1) := fun i j hi hj => by
 by_cases e : i = q
 ·subst e; exact h' j (by omega)
 ·exact h i j (by omega) hj
theorem ElRow.succ {N : Nat} {xs : List Int} {i q : Nat} (h : ElRow N xs i q) (h' : El N xs i q) : ElRow N xs i (q + 1) := fun j hj => by
 by_cases e : j = q
 ·subst e; exact h'
 ·exact h j (by omega)
theorem Tr1.succ {N : Nat} {xs : List Int} {q : Nat} (h : Tr1 N xs q) (h' : Tr2 N xs q (N + 1)) : Tr1 N xs (q + 1) := fun i j k hi hj hk => by
 by_cases e : i = q
 ·subst e; exact h' j k (by omega) hk
 ·exact h i j k (by omega) hj hk
theorem Tr2.succ {N : Nat} {xs : List Int} {i q : Nat} (h : Tr2 N xs i q) (h' : Tr3 N xs i q (N + 1)) : Tr2 N xs i (q + 1) := fun j k hj hk => by
 by_cases e : j = q
 ·subst e; exact h' k (by omega)
 ·exact h j k (by omega) hk
theorem Tr3.succ {N : Nat} {xs : List Int} {i j q : Nat} (h : Tr3 N xs i j q) (h' : Tr N xs i j q) : Tr3 N xs i j (q + 1) := fun k hk => by
 by_cases e : k = q
 ·subst e; exact h'
 ·exact h k (by omega)
theorem sq_bd (N : Nat) (hN : N ≤ 10) : (0 : Int) ≤ ((N : Int) + 1) * ((N : Int) + 1) ∧ ((N : Int) + 1) * ((N : Int) + 1) ≤ 121 := by
 have h : (N + 1) * (N + 1) ≤ 11 * 11 := Nat.mul_le_mul (by omega) (by omega)
 have e : (((N + 1) * (N + 1) : Nat) : Int) = ((N : Int) + 1) * ((N : Int) + 1) := by push_cast; rfl
 omega
theorem sq_nat (N : Nat) : (((N + 1) * (N + 1) : Nat) : Int) = ((N : Int) + 1) * ((N : Int) + 1) := by push_cast; rfl
theorem idx_lt (N i j : Nat) (hi : i ≤ N) (hj : j ≤ N) : i * (N + 1) + j < (N + 1) * (N + 1) := by
 have := Nat.mul_le_mul_right (N + 1) hi
 rw [Nat.add_mul]; omega
theorem idx_bd (N i : Nat) (hN : N ≤ 10) (hi : i ≤ N) : (0 : Int) ≤ (i : Int) * ((N : Int) + 1) ∧ (i : Int) * ((N : Int) + 1) ≤ 110 := by
 have h : i * (N + 1) ≤ 10 * 11 := Nat.mul_le_mul (by omega) (by omega)
 have e : ((i * (N + 1) : Nat) : Int) = (i : Int) * ((N : Int) + 1) := by push_cast; rfl
 omega
theorem idx_nat (N i j : Nat) : ((i : Int) * ((N : Int) + 1) + (j : Int)).toNat = i * (N + 1) + j := by
 have e : ((i * (N + 1) + j : Nat) : Int) = (i : Int) * ((N : Int) + 1) + j := by push_cast; rfl
 omega
def dimF (n : Int) (xs : List Int) : Bool := decide (0 ≤ n ∧ n ≤ 10 ∧ xs.length = (n.toNat + 1) * (n.toNat + 1) ∧ xs.all vld = true)
theorem dimF_nat {N : Nat} {xs : List Int} (h : dimF N xs = true) : N ≤ 10 ∧ xs.length = (N + 1) * (N + 1) ∧ xs.all vld = true := by
 unfold dimF at h
 simp only [decide_eq_true_eq, Int.toNat_natCast] at h
 exact ⟨by omega, h.2.2⟩
def PRow (N : Nat) (xs : List Int) (i : Nat) : Prop := gi xs (i * (N + 1) + i) = 1 ∧ gi xs i ≤ 1 ∧ ∀ k j, k ≤ N → j ≤ N → Tr N xs i j k
def PTo (N : Nat) (xs : List Int) (q : Nat) : Prop := ∀ i, i < q → PRow N xs i
def PK (N : Nat) (xs : List Int) (i q : Nat) : Prop := ∀ k j, k < q → j ≤ N → Tr N xs i j k
def PJ (N : Nat) (xs : List Int) (i k q : Nat) : Prop := ∀ j, j < q → Tr N xs i j k
theorem PTo.succ {N : Nat} {xs : List Int} {q : Nat} (h : PTo N xs q) (h1 : gi xs (q * (N + 1) + q) = 1) (h2 : gi xs q ≤ 1) (h' : PK N xs q (N + 1)) : PTo N xs (q + 1) := fun i hi => by
 by_cases e : i = q
 ·subst e; exact ⟨h1, h2, fun k j hk hj => h' k j (by omega) hj⟩
 ·exact h i (by omega)
theorem PK.succ {N : Nat} {xs : List Int} {i q : Nat} (h : PK N xs i q) (h' : PJ N xs i q (N + 1)) : PK N xs i (q + 1) := fun k j hk hj => by
 by_cases e : k = q
 ·subst e; exact h' j (by omega)
 ·exact h k j (by omega) hj
theorem PJ.succ {N : Nat} {xs : List Int} {i k q : Nat} (h : PJ N xs i k q) (h' : Tr N xs i q k) : PJ N xs i k (q + 1) := fun j hj => by
 by_cases e : j = q
 ·subst e; exact h'
 ·exact h j (by omega)
theorem gi_mem {xs : List Int} {k : Nat} (hk : k < xs.length) : gi xs k ∈ xs := by
 have e : gi xs k = xs[k] := by simp [gi, hk]
 rw [e]; exact List.getElem_mem hk
theorem vld_gi {xs : List Int} (h : xs.all vld = true) {k : Nat} (hk : k < xs.length) : vld (gi xs k) = true := List.all_eq_true.1 h _ (gi_mem hk)
theorem vld_le {l : Int} (h : vld l = true) : l ≤ 1099511627776 := by rw [vld_iff] at h; omega
theorem PK.skip {N : Nat} {xs : List Int} {i q : Nat} (h : PK N xs i q) (hx : xs.length = (N + 1) * (N + 1)) (hall : xs.all vld = true) (hi : i ≤ N) (hn : gi xs (i * (N + 1) + q) = 1099511627776) : PK N xs i (q + 1) :=
 h.succ fun j hj => by
  unfold Tr
  rw [lsum_nl _ _ (.inl hn)]
  exact vld_le (vld_gi hall (by rw [hx]; exact idx_lt N i j hi (by omega)))
theorem OkZ.of_prog {N : Nat} {xs : List Int} (hN : N ≤ 10) (hx : xs.length = (N + 1) * (N + 1)) (hall : xs.all vld = true) (h : PTo N xs (N + 1)) : OkZ N xs where
 lo := by omega
 hi := by omega
 len := by rw [Int.toNat_natCast]; exact hx
 val := fun i j hi hj => by rw [Int.toNat_natCast] at *; exact vld_gi hall (by rw [hx]; exact idx_lt N i j hi hj)
 diag := fun i hi => by rw [Int.toNat_natCast] at *; exact (h i (by omega)).1
 row := fun j hj => by rw [Int.toNat_natCast] at *; exact (h j (by omega)).2.1
 tri := fun i j k hi hj hk => by rw [Int.toNat_natCast] at *; exact (h i (by omega)).2.2 k j hk hj
theorem OkZ.diagN {N : Nat} {xs : List Int} (h : OkZ N xs) {i : Nat} (hi : i ≤ N) : gi xs (i * (N + 1) + i) = 1 := h.diag i (by rw [Int.toNat_natCast]; exact hi)
theorem OkZ.rowN {N : Nat} {xs : List Int} (h : OkZ N xs) {i : Nat} (hi : i ≤ N) : gi xs i ≤ 1 := h.row i (by rw [Int.toNat_natCast]; exact hi)
theorem all_of_idx {N : Nat} {xs : List Int} (hx : xs.length = (N + 1) * (N + 1)) {p : Int → Bool} (h : ∀ i j, i ≤ N → j ≤ N → p (gi xs (i * (N + 1) + j)) = true) : xs.all p = true := by
 rw [List.all_eq_true]
 intro l hl
 obtain ⟨k, hk, rfl⟩ := List.getElem_of_mem hl
 have e : gi xs k = xs[k] := by simp [gi, hk]
 have h1 : k / (N + 1) ≤ N := by
  have : k / (N + 1) < N + 1 := Nat.div_lt_of_lt_mul (by rw [← hx]; exact hk)
  omega
 have h2 : k % (N + 1) < N + 1 := Nat.mod_lt _ (by omega)
 have h3 := h _ _ h1 (by omega : k % (N + 1) ≤ N)
 rw [Nat.div_add_mod' k (N + 1)] at h3
 rw [← e]; exact h3
theorem OkZ.dim {n : Int} {xs : List Int} (h : OkZ n xs) : dimF n xs = true := by
 unfold dimF
 simp only [decide_eq_true_eq]
 exact ⟨h.lo, h.hi, h.len, all_of_idx h.len h.val⟩
theorem negTo_succ (N : Nat) (m : List Int) (n : Nat) : negTo N m (n + 1) = (negTo N m n || decide (gi m (n * (N + 1) + n) < 1)) := by
 simp [negTo, List.range_succ]
theorem negTo_more (N : Nat) (m : List Int) (n k : Nat) (h : negTo N m n = true) (hk : n ≤ k) : negTo N m k = true := by
 simp only [negTo, List.any_eq_true, List.mem_range] at h ⊢
 obtain ⟨i, hi, h⟩ := h
 exact ⟨i, by omega, h⟩
theorem capTo_len (N : Nat) (m : List Int) (n : Nat) : (capTo N m n).length = m.length := by
 induction n with
 | zero => rfl
 | succ n ih => simp [capTo, ih]
theorem fwJ_len (N k i : Nat) (m : List Int) (n : Nat) : (fwJ N k i m n).length = m.length := by
 induction n with
 | zero => rfl
 | succ n ih => simp [fwJ, ih]
theorem fwI_len (N k : Nat) (m : List Int) (n : Nat) : (fwI N k m n).length = m.length := by
 induction n with
 | zero => rfl
 | succ n ih => simp [fwI, fwJ_len, ih]
theorem fwK_len (N : Nat) (m : List Int) (n : Nat) : (fwK N m n).length = m.length := by
 induction n with
 | zero => rfl
 | succ n ih => simp [fwK, fwI_len, ih]
theorem fw_len (N : Nat) (m : List Int) : (fw N m).length = m.length := by simp [fw, fwK_len, capTo_len]
end Go.Proofs.YtfphlpglgcmljaaGreat
