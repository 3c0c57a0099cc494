/- Slices of ratios and of constraints as they read; plain words for points of zones. -/
import Derived.Test.YtfphlpglgcmljaaGreatFw
import Derived.Test.YtfphlpglgcmljaaGreatRatP
namespace Go.Proofs.YtfphlpglgcmljaaGreat
open Go.RowKit
set_option linter.unusedVariables false

def cells2 (p : Int × Int) : List Value := [.int .i64 p.1, .int .i64 p.2]
def cells3 (c : Int × Int × Int) : List Value := [.int .i64 c.1, .int .i64 c.2.1, .int .i64 c.2.2]
/-- The slice value v reads as the ratios ps. -/
def RQ (B : Nat) (w : World) (v : Value) (ps : List (Int × Int)) : Prop := RS B w v ps.length (ps.flatMap cells2)
/-- The slice value v reads as the constraints cs. -/
def RK (B : Nat) (w : World) (v : Value) (cs : List (Int × Int × Int)) : Prop := RS B w v cs.length (cs.flatMap cells3)
theorem RQ.keepb {w w' : World} {v : Value} {ps : List (Int × Int)} (h : RQ w.heap.size w v ps) (hb : Below w.heap.size w w') : RQ w'.heap.size w' v ps := (RS.keep h hb).mono hb.size
theorem RK.keepb {w w' : World} {v : Value} {cs : List (Int × Int × Int)} (h : RK w.heap.size w v cs) (hb : Below w.heap.size w w') : RK w'.heap.size w' v cs := (RS.keep h hb).mono hb.size
/-- Ratio k, constraint k. -/
def gq (ps : List (Int × Int)) (k : Nat) : Int × Int := ps.getD k (0, 0)
def gk (cs : List (Int × Int × Int)) (k : Nat) : Int × Int × Int := cs.getD k (0, 0, 0)
theorem gq_of {ps : List (Int × Int)} {k : Nat} (hk : k < ps.length) : gq ps k = ps[k] := by simp [gq, hk]
theorem gk_of {cs : List (Int × Int × Int)} {k : Nat} (hk : k < cs.length) : gk cs k = cs[k] := by simp [gk, hk]
theorem flat2 (ps : List (Int × Int)) (k : Nat) (hk : k < ps.length) : (ps.flatMap cells2)[k * 2]? = some (.int .i64 (gq ps k).1) ∧ (ps.flatMap cells2)[k * 2 + 1]? = some (.int .i64 (gq ps k).2) := by
  induction ps generalizing k with
  | nil => simp at hk
  | cons p ps ih =>
    rcases k with _ | k
    · exact ⟨rfl, rfl⟩
    · have := ih k (by simpa using hk)
      have e : (k + 1) * 2 = k * 2 + 2 := by omega
      rw [List.flatMap_cons, e]
      exact this
theorem flat2_len (ps : List (Int × Int)) : (ps.flatMap cells2).length = ps.length * 2 := by
  induction ps with
  | nil => rfl
  | cons p ps ih => rw [List.flatMap_cons, List.length_append, ih, List.length_cons]; show 2 + _ = _; omega
theorem flat3 (cs : List (Int × Int × Int)) (k : Nat) (hk : k < cs.length) : (cs.flatMap cells3)[k * 3]? = some (.int .i64 (gk cs k).1) ∧ (cs.flatMap cells3)[k * 3 + 1]? = some (.int .i64 (gk cs k).2.1) ∧ (cs.flatMap cells3)[k * 3 + 2]? = some (.int .i64 (gk cs k).2.2) := by
  induction cs generalizing k with
  | nil => simp at hk
  | cons p ps ih =>
    rcases k with _ | k
    · exact ⟨rfl, rfl, rfl⟩
    · have := ih k (by simpa using hk)
      have e : (k + 1) * 3 = k * 3 + 3 := by omega
      rw [List.flatMap_cons, e]
      exact this
theorem flat3_len (cs : List (Int × Int × Int)) : (cs.flatMap cells3).length = cs.length * 3 := by
  induction cs with
  | nil => rfl
  | cons p ps ih => rw [List.flatMap_cons, List.length_append, ih, List.length_cons]; show 3 + _ = _; omega
theorem RQ.open {B : Nat} {w : World} {v : Value} {ps : List (Int × Int)} (h : RQ B w v ps) :
    ∃ ao cap, v = .slice ao ps.length cap ∧ ps.length ≤ 9223372036854775807 ∧ (0 < ps.length → ∃ b off, ao = some ⟨b, off, none⟩ ∧ b < B ∧
      ∀ k, k < ps.length → w.cell? ⟨b, off + k * 2, none⟩ = some (.int .i64 (gq ps k).1) ∧ w.cell? ⟨b, off + k * 2 + 1, none⟩ = some (.int .i64 (gq ps k).2)) := by
  have hl := RS.le h
  rcases h with ⟨rfl, h1, h2⟩ | ⟨b, off, sp, cap, rfl, h1, h2, h3, h4⟩
  · exact ⟨none, 0, by rw [h1], hl, fun h => by omega⟩
  · refine ⟨_, cap, rfl, hl, fun hn => ?_⟩
    obtain ⟨rfl, q, r⟩ := h4 hn
    refine ⟨b, off, rfl, q, fun k hk => ?_⟩
    obtain ⟨f1, f2⟩ := flat2 ps k hk
    rw [r (k * 2) (by rw [flat2_len]; omega), f1, Nat.add_assoc, r (k * 2 + 1) (by rw [flat2_len]; omega), f2]
    exact ⟨rfl, rfl⟩
theorem RK.open {B : Nat} {w : World} {v : Value} {cs : List (Int × Int × Int)} (h : RK B w v cs) :
    ∃ ao cap, v = .slice ao cs.length cap ∧ cs.length ≤ 9223372036854775807 ∧ (0 < cs.length → ∃ b off, ao = some ⟨b, off, none⟩ ∧ b < B ∧
      ∀ k, k < cs.length → w.cell? ⟨b, off + k * 3, none⟩ = some (.int .i64 (gk cs k).1) ∧ w.cell? ⟨b, off + k * 3 + 1, none⟩ = some (.int .i64 (gk cs k).2.1) ∧ w.cell? ⟨b, off + k * 3 + 2, none⟩ = some (.int .i64 (gk cs k).2.2)) := by
  have hl := RS.le h
  rcases h with ⟨rfl, h1, h2⟩ | ⟨b, off, sp, cap, rfl, h1, h2, h3, h4⟩
  · exact ⟨none, 0, by rw [h1], hl, fun h => by omega⟩
  · refine ⟨_, cap, rfl, hl, fun hn => ?_⟩
    obtain ⟨rfl, q, r⟩ := h4 hn
    refine ⟨b, off, rfl, q, fun k hk => ?_⟩
    obtain ⟨f1, f2, f3⟩ := flat3 cs k hk
    rw [r (k * 3) (by rw [flat3_len]; omega), f1, Nat.add_assoc, r (k * 3 + 1) (by rw [flat3_len]; omega), f2, Nat.add_assoc, r (k * 3 + 2) (by rw [flat3_len]; omega), f3]
    exact ⟨rfl, rfl, rfl⟩
/-- The value of a clock at a point; 0 for the clock 0. -/
def ck (ps : List (Int × Int)) (i : Nat) : Int × Int := if i = 0 then (0, 1) else gq ps (i - 1)
/-- A value of a clock. -/
def okP (p : Int × Int) : Bool := vr p.1 p.2 && decide (0 ≤ p.1)
/-- The difference of two clocks. -/
def dif (ps : List (Int × Int)) (i j : Nat) : (Int × Int) × Int := subR (ck ps i).1 (ck ps i).2 (ck ps j).1 (ck ps j).2
def AllP (ps : List (Int × Int)) (q : Nat) : Prop := ∀ k, k < q → okP (gq ps k) = true
def AllD (ps : List (Int × Int)) (N q : Nat) : Prop := ∀ i j, i < q → j ≤ N → (dif ps i j).2 = 0
def RowD (ps : List (Int × Int)) (i q : Nat) : Prop := ∀ j, j < q → (dif ps i j).2 = 0
theorem AllP.succ {ps : List (Int × Int)} {q : Nat} (h : AllP ps q) (h' : okP (gq ps q) = true) : AllP ps (q + 1) := fun k hk => by
  by_cases e : k = q
  · subst e; exact h'
  · exact h k (by omega)
theorem AllD.succ {ps : List (Int × Int)} {N q : Nat} (h : AllD ps N q) (h' : RowD ps q (N + 1)) : AllD ps N (q + 1) := fun i j hi hj => by
  by_cases e : i = q
  · subst e; exact h' j (by omega)
  · exact h i j (by omega) hj
theorem RowD.succ {ps : List (Int × Int)} {i q : Nat} (h : RowD ps i q) (h' : (dif ps i q).2 = 0) : RowD ps i (q + 1) := fun j hj => by
  by_cases e : j = q
  · subst e; exact h'
  · exact h j (by omega)
/-- The zone is valid, and so many values are given. -/
def Fit (n : Int) (xs : List Int) (ps : List (Int × Int)) : Prop := OkZ n xs ∧ (ps.length : Int) = n
open Classical in
/-- The error of Has. -/
noncomputable def readyF (n : Int) (xs : List Int) (ps : List (Int × Int)) : Int :=
  if Fit n xs ps then (if AllP ps ps.length then (if AllD ps ps.length (ps.length + 1) then 0 else 7) else 2) else 2
theorem readyF_fit {n : Int} {xs : List Int} {ps : List (Int × Int)} (h : ¬ Fit n xs ps) : readyF n xs ps = 2 := by unfold readyF; rw [if_neg h]
theorem readyF_val {n : Int} {xs : List Int} {ps : List (Int × Int)} (h : ¬ AllP ps ps.length) : readyF n xs ps = 2 := by unfold readyF; rw [if_neg h]; simp
theorem readyF_range {n : Int} {xs : List Int} {ps : List (Int × Int)} (h : Fit n xs ps) (h1 : AllP ps ps.length) (h2 : ¬ AllD ps ps.length (ps.length + 1)) : readyF n xs ps = 7 := by unfold readyF; rw [if_pos h, if_pos h1, if_neg h2]
theorem readyF_ok {n : Int} {xs : List Int} {ps : List (Int × Int)} (h : Fit n xs ps) (h1 : AllP ps ps.length) (h2 : AllD ps ps.length (ps.length + 1)) : readyF n xs ps = 0 := by unfold readyF; rw [if_pos h, if_pos h1, if_pos h2]
theorem readyF_inv {n : Int} {xs : List Int} {ps : List (Int × Int)} (h : readyF n xs ps = 0) : Fit n xs ps ∧ AllP ps ps.length ∧ AllD ps ps.length (ps.length + 1) := by
  unfold readyF at h
  split at h
  · split at h
    · split at h
      · exact ⟨‹_›, ‹_›, ‹_›⟩
      · omega
    · omega
  · omega
/-- Does the difference of two clocks meet the limit? -/
def mt (N : Nat) (xs : List Int) (ps : List (Int × Int)) (i j : Nat) : Bool := (meetR (dif ps i j).1.1 (dif ps i j).1.2 (gi xs (i * (N + 1) + j))).1
def AllM (N : Nat) (xs : List Int) (ps : List (Int × Int)) (q : Nat) : Prop := ∀ i j, i < q → j ≤ N → mt N xs ps i j = true
def RowM (N : Nat) (xs : List Int) (ps : List (Int × Int)) (i q : Nat) : Prop := ∀ j, j < q → mt N xs ps i j = true
theorem AllM.succ {N : Nat} {xs : List Int} {ps : List (Int × Int)} {q : Nat} (h : AllM N xs ps q) (h' : RowM N xs ps q (N + 1)) : AllM N xs ps (q + 1) := fun i j hi hj => by
  by_cases e : i = q
  · subst e; exact h' j (by omega)
  · exact h i j (by omega) hj
theorem RowM.succ {N : Nat} {xs : List Int} {ps : List (Int × Int)} {i q : Nat} (h : RowM N xs ps i q) (h' : mt N xs ps i q = true) : RowM N xs ps i (q + 1) := fun j hj => by
  by_cases e : j = q
  · subst e; exact h'
  · exact h j (by omega)
open Classical in
/-- What Has returns. -/
noncomputable def hasF (n : Int) (xs : List Int) (ps : List (Int × Int)) : Bool × Int :=
  if readyF n xs ps = 0 then (decide (AllM ps.length xs ps (ps.length + 1)), 0) else (false, readyF n xs ps)
theorem hasF_no {n : Int} {xs : List Int} {ps : List (Int × Int)} {x : Int} (h : readyF n xs ps = x) (hx : ¬ x = 0) : hasF n xs ps = (false, x) := by unfold hasF; rw [h, if_neg hx]
theorem hasF_in {n : Int} {xs : List Int} {ps : List (Int × Int)} (h : readyF n xs ps = 0) (h' : AllM ps.length xs ps (ps.length + 1)) : hasF n xs ps = (true, 0) := by unfold hasF; rw [if_pos h]; simp [h']
theorem hasF_out {n : Int} {xs : List Int} {ps : List (Int × Int)} (h : readyF n xs ps = 0) (h' : ¬ AllM ps.length xs ps (ps.length + 1)) : hasF n xs ps = (false, 0) := by unfold hasF; rw [if_pos h]; simp [h']
/-- A callee that leaves the world alone, within a quiet region. -/
theorem quiet_same0 {P : Program} {f : FuncId} {args : Array Value} {w : World} {n : Nat} {v : Value}
    (h : Calls P f args (w.drewN n) fun e w' => e = .returned v ∧ w.drewN n = w') : Calls P f args (w.drewN n) fun e w'' => e = .returned v ∧ ∃ m, w'' = w.drewN m :=
  h.mono fun _ _ ⟨he, hm⟩ => ⟨he, n, hm.symm⟩
end Go.Proofs.YtfphlpglgcmljaaGreat

