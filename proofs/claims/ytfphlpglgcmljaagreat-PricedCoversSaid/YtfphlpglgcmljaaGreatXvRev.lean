/- Part of the proof of priced_covers_proved: Rev. -/
import Derived.Shelf.Slices.Cells
import Derived.Test.YtfphlpglgcmljaaGreatXvCrl
namespace Go.Proofs.YtfphlpglgcmljaaGreat
open Go.RowKit Go.Shelf
set_option linter.unusedVariables false
def revRen : Ren := ⟨fun k => if k = 112 then 174 else 0, fun k => if k = 28 then 160 else if k = 4 then 4 else if k = 3 then 3 else 0, fun _ => 0⟩
theorem lays_rev : Lays.n112 Tryz.prog revRen where
 mixed := by kernel_rfl
 f112 := by kernel_rfl
 t0 := by kernel_rfl
 a0 := fun w => by kernel_rfl
 z0 := fun w => by kernel_rfl
 v0 := fun w => by kernel_rfl
 t3 := by kernel_rfl
 a3 := fun w => by kernel_rfl
 z3 := fun w => by kernel_rfl
 v3 := fun w => by kernel_rfl
 t4 := by kernel_rfl
 a4 := fun w => by kernel_rfl
 z4 := fun w => by kernel_rfl
 v4 := fun w => by kernel_rfl
 t28 := by kernel_rfl
 a28 := fun w => by kernel_rfl
 z28 := fun w => by kernel_rfl
 v28 := fun w => by kernel_rfl
theorem prog_reverse (b n c : Nat) (zs : List Int) (w : World) (hz : n = zs.length) (hbig : n ≤ 9223372036854775807) (hc : ∀ j, j < zs.length → w.cell? ⟨b, j, none⟩ = some (.int .i64 (gi zs j))) (hf : ∀ j, j < n → w.frozen? ⟨b, j, none⟩ = false) :
  Calls Tryz.prog 174 #[.slice (some ⟨b, 0, none⟩) n c] w fun e w' => e = .returned (.tuple #[]) ∧ ∃ q, w' = (w.drewN q).setCells b 0 (zs.reverse.map (Value.int .i64)) := by
 have h := Any.slices_Reverse_int_cells lays_rev b 0 n c zs w (by omega) hbig (by simpa [Nat.zero_add, gi] using hc) (by simpa [Nat.zero_add] using hf)
 rw [show zs.take n = zs by rw [hz, List.take_length]] at h
 exact h
end Go.Proofs.YtfphlpglgcmljaaGreat
