/- Part of the proof of priced_clears_proved: Inc. -/
import Derived.Test.YtfphlpglgcmljaaGreatXcSame
import Derived.Test.YtfphlpglgcmljaaGreatXcZref
namespace Go.Proofs.YtfphlpglgcmljaaGreat
open Go.RowKit
def LeTo (xs ys : List Int) (q : Nat) : Prop := ∀ k, k < q → gi ys k ≤ gi xs k
theorem LeTo.succ {xs ys : List Int} {q : Nat} (h : LeTo xs ys q) (h' : gi ys q ≤ gi xs q) : LeTo xs ys (q + 1) := fun k hk => by
 by_cases e : k = q
 ·subst e; exact h'
 ·exact h k (by omega)
def Two (n n2 : Int) (xs ys : List Int) : Prop := OkZ n xs ∧ OkZ n2 ys ∧ n = n2
theorem Two.len {n n2 : Int} {xs ys : List Int} (h : Two n n2 xs ys) : xs.length = ys.length := by
 obtain ⟨a, b, rfl⟩ := h; rw [a.len, b.len]
theorem ref_check_ok (n : Int) (v : Value) (xs : List Int) (w : World) (hv : RL w.heap.size w v xs) (h : OkZ n xs) :
  Calls Tryz.prog 106 #[.agg #[.int .i64 n, v]] w fun e w' => e = .returned (.int .i64 0) ∧ Below w.heap.size w w' :=
 (ref_check n v xs w hv).mono fun _ _ ⟨h1, h2⟩ => ⟨by rw [h1, okErr_yes h], h2⟩
theorem ref_check_bad (n : Int) (v : Value) (xs : List Int) (w : World) (hv : RL w.heap.size w v xs) (h : ¬ OkZ n xs) :
  Calls Tryz.prog 106 #[.agg #[.int .i64 n, v]] w fun e w' => e = .returned (.int .i64 2) ∧ Below w.heap.size w w' :=
 (ref_check n v xs w hv).mono fun _ _ ⟨h1, h2⟩ => ⟨by rw [h1, okErr_no h], h2⟩
def BE (r : Bool × Int) (e : Ending) : Prop := e = .returned (.tuple #[.bool r.1, .int .i64 r.2])
theorem BE.of {r : Bool × Int} {b : Bool} {x : Int} (h : r = (b, x)) : BE r (.returned (.tuple #[.bool b, .int .i64 x])) := by subst h; rfl
end Go.Proofs.YtfphlpglgcmljaaGreat
