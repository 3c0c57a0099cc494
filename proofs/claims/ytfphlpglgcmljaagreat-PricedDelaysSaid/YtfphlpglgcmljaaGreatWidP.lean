/- Widening, in plain Lean: what each element becomes. -/
import Derived.Test.YtfphlpglgcmljaaGreatFw
namespace Go.Proofs.YtfphlpglgcmljaaGreat
open Go.RowKit

/-- The parts of a limit: its error, its constant. -/
def spE (l : Int) : Int := if vld l = false then 2 else if l = 1099511627776 then 4 else 0
def spC (l : Int) : Int := if spE l = 0 then l / 2 else 0
def spS (l : Int) : Bool := if spE l = 0 then decide (l % 2 = 0) else false
theorem spE_bad {l : Int} (h : vld l = false) : spE l = 2 := by unfold spE; rw [if_pos h]
theorem spE_nl {l : Int} (h : l = 1099511627776) : spE l = 4 := by subst h; rfl
theorem spE_ok {l : Int} (h : vld l = true) (h' : ¬ l = 1099511627776) : spE l = 0 := by unfold spE; rw [if_neg (by rw [h]; simp), if_neg h']
/-- Are they constants for a zone of dimension n? -/
def cstF (n : Int) (k : List Int) : Bool := k.all (fun c => decide (-1 ≤ c ∧ c ≤ 1048576)) && decide ((k.length : Int) = n)
/-- One element, widened. -/
def wid (low high : List Int) (i j : Nat) (l : Int) : Int :=
  if l = 1099511627776 then 1099511627776
  else if 1 ≤ i ∧ (gi low (i - 1) = -1 ∨ gi low (i - 1) < l / 2) then 1099511627776
  else if 1 ≤ j ∧ gi high (j - 1) = -1 then (if i = 0 then 1 else 1099511627776)
  else if 1 ≤ j ∧ l / 2 < - gi high (j - 1) then -2 * gi high (j - 1)
  else l
/-- The element at a place, widened unless it lies on the diagonal. -/
def widAt (N : Nat) (low high : List Int) (xs : List Int) (k : Nat) : Int := if k / (N + 1) = k % (N + 1) then gi xs k else wid low high (k / (N + 1)) (k % (N + 1)) (gi xs k)
/-- The widened matrix. -/
def widM (N : Nat) (low high : List Int) (xs : List Int) : List Int := (List.range xs.length).map (widAt N low high xs)
open Classical in
/-- What Bounds returns. -/
noncomputable def widB (n : Int) (xs low high : List Int) : Int × List Int :=
  if OkZ n xs ∧ cstF n low = true ∧ cstF n high = true then closeF n (widM n.toNat low high xs) else (2, [])
theorem gi_of {xs : List Int} {k : Nat} (hk : k < xs.length) : gi xs k = xs[k] := by simp [gi, hk]
theorem ext_gi {xs ys : List Int} (hl : xs.length = ys.length) (h : ∀ k, k < xs.length → gi xs k = gi ys k) : xs = ys := by
  apply List.ext_getElem hl
  intro k h1 h2
  rw [← gi_of h1, ← gi_of h2]; exact h k h1
theorem widM_len (N : Nat) (low high xs : List Int) : (widM N low high xs).length = xs.length := by simp [widM]
theorem widM_gi {N : Nat} {low high xs : List Int} {k : Nat} (hk : k < xs.length) : gi (widM N low high xs) k = widAt N low high xs k := by
  rw [gi_of (by rw [widM_len]; exact hk)]; simp [widM]
theorem cst_gi {n : Int} {k : List Int} (h : cstF n k = true) {i : Nat} (hi : i < k.length) : -1 ≤ gi k i ∧ gi k i ≤ 1048576 := by
  unfold cstF at h
  rw [Bool.and_eq_true, List.all_eq_true] at h
  simpa using h.1 _ (gi_mem hi)
theorem cst_len {n : Int} {k : List Int} (h : cstF n k = true) : (k.length : Int) = n := by
  unfold cstF at h
  rw [Bool.and_eq_true] at h
  simpa using h.2
/-- The elements before t are widened already, those from t on are as they were. -/
structure Mid (N : Nat) (low high xs m : List Int) (t : Nat) : Prop where
  len : m.length = xs.length
  done : ∀ k, k < t → k < xs.length → gi m k = widAt N low high xs k
  todo : ∀ k, t ≤ k → gi m k = gi xs k
theorem Mid.start (N : Nat) (low high xs : List Int) : Mid N low high xs xs 0 := ⟨rfl, fun _ h => by omega, fun _ _ => rfl⟩
theorem gi_set_same {m : List Int} {a : Nat} {x : Int} (h : a < m.length) : gi (m.set a x) a = x := by
  rw [gi_of (by rw [List.length_set]; exact h)]; simp
theorem gi_set_ne {m : List Int} {a b : Nat} {x : Int} (h : a ≠ b) : gi (m.set a x) b = gi m b := by
  unfold gi; rw [List.getD_eq_getElem?_getD, List.getD_eq_getElem?_getD, List.getElem?_set_ne h]
theorem div_idx {N i j : Nat} (hj : j ≤ N) : (i * (N + 1) + j) / (N + 1) = i ∧ (i * (N + 1) + j) % (N + 1) = j := by
  constructor
  · rw [Nat.mul_comm, Nat.mul_add_div (by omega), Nat.div_eq_of_lt (by omega)]; omega
  · rw [Nat.mul_comm, Nat.mul_add_mod]; exact Nat.mod_eq_of_lt (by omega)
theorem Mid.skip {N : Nat} {low high xs m : List Int} {i : Nat} (h : Mid N low high xs m (i * (N + 1) + i)) (hi : i ≤ N) : Mid N low high xs m (i * (N + 1) + i + 1) where
  len := h.len
  done := fun k hk hx => by
    by_cases e : k = i * (N + 1) + i
    · subst e
      rw [h.todo _ (Nat.le_refl _)]
      unfold widAt
      rw [(div_idx hi).1, (div_idx hi).2, if_pos rfl]
    · exact h.done k (by omega) hx
  todo := fun k hk => h.todo k (by omega)
theorem Mid.set {N : Nat} {low high xs m : List Int} {i j : Nat} (h : Mid N low high xs m (i * (N + 1) + j)) (hj : j ≤ N) (hne : i ≠ j) (hx : i * (N + 1) + j < xs.length) :
    Mid N low high xs (m.set (i * (N + 1) + j) (wid low high i j (gi m (i * (N + 1) + j)))) (i * (N + 1) + j + 1) where
  len := by rw [List.length_set]; exact h.len
  done := fun k hk hkx => by
    by_cases e : k = i * (N + 1) + j
    · subst e
      rw [gi_set_same (by rw [h.len]; exact hx), h.todo _ (Nat.le_refl _)]
      unfold widAt
      rw [(div_idx hj).1, (div_idx hj).2, if_neg hne]
    · rw [gi_set_ne (Ne.symm e)]; exact h.done k (by omega) hkx
  todo := fun k hk => by rw [gi_set_ne (by omega)]; exact h.todo k (by omega)
theorem Mid.finish {N : Nat} {low high xs m : List Int} {t : Nat} (h : Mid N low high xs m t) (ht : xs.length ≤ t) : m = widM N low high xs :=
  ext_gi (by rw [widM_len]; exact h.len) fun k hk => by
    have hk' : k < xs.length := by rw [← h.len]; exact hk
    rw [widM_gi hk', h.done k (by omega) hk']
theorem widB_no {n : Int} {xs low high : List Int} (h : ¬ (OkZ n xs ∧ cstF n low = true ∧ cstF n high = true)) : widB n xs low high = (2, []) := by unfold widB; rw [if_neg h]
theorem widB_yes {n : Int} {xs low high : List Int} (h : OkZ n xs ∧ cstF n low = true ∧ cstF n high = true) : widB n xs low high = closeF n (widM n.toNat low high xs) := by unfold widB; rw [if_pos h]
/-- The elements before t are widened already (the program's order). -/
structure MidP (N : Nat) (low high xs m : List Int) (t : Nat) : Prop where
  len : m.length = xs.length
  done : ∀ k, k < t → k < xs.length → gi m k = widAt N low high xs k
theorem MidP.step {N : Nat} {low high xs m : List Int} {t : Nat} (h : MidP N low high xs m t) (ht : t < xs.length) {y x : Int} (hx : x = widAt N low high xs t) : MidP N low high xs ((m.set t y).set t x) (t + 1) where
  len := by rw [List.length_set, List.length_set]; exact h.len
  done := fun k hk hkx => by
    by_cases e : k = t
    · subst e; rw [gi_set_same (by rw [List.length_set, h.len]; exact ht)]; exact hx
    · rw [gi_set_ne (Ne.symm e), gi_set_ne (Ne.symm e)]; exact h.done k (by omega) hkx
theorem MidP.one {N : Nat} {low high xs m : List Int} {t : Nat} (h : MidP N low high xs m t) (ht : t < xs.length) {x : Int} (hx : x = widAt N low high xs t) : MidP N low high xs (m.set t x) (t + 1) where
  len := by rw [List.length_set]; exact h.len
  done := fun k hk hkx => by
    by_cases e : k = t
    · subst e; rw [gi_set_same (by rw [h.len]; exact ht)]; exact hx
    · rw [gi_set_ne (Ne.symm e)]; exact h.done k (by omega) hkx
theorem MidP.finish {N : Nat} {low high xs m : List Int} {t : Nat} (h : MidP N low high xs m t) (ht : xs.length ≤ t) : m = widM N low high xs :=
  ext_gi (by rw [widM_len]; exact h.len) fun k hk => by
    have hk' : k < xs.length := by rw [← h.len]; exact hk
    rw [widM_gi hk', h.done k (by omega) hk']
theorem widAt_diag {N : Nat} {low high xs : List Int} {t : Nat} (h : t / (N + 1) = t % (N + 1)) : gi xs t = widAt N low high xs t := by unfold widAt; rw [if_pos h]
theorem widAt_off {N : Nat} {low high xs : List Int} {t i j : Nat} (hi : i = t / (N + 1)) (hj : j = t % (N + 1)) (h : ¬ i = j) : widAt N low high xs t = wid low high i j (gi xs t) := by
  subst hi hj; unfold widAt; rw [if_neg h]
theorem gi_replicate (n k : Nat) : gi (List.replicate n 0) k = 0 := by
  unfold gi; rw [List.getD_eq_getElem?_getD, List.getElem?_replicate]; split <;> rfl
end Go.Proofs.YtfphlpglgcmljaaGreat

