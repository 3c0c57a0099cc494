/- The contracts of the reference's zone functions: copies, closing, what is valid. The contract of the reference's Close. -/
import Derived.Test.YtfphlpglgcmljaaGreatZref
import Derived.Test.YtfphlpglgcmljaaGreatZof
import Derived.Deep.RegionLaw
import Derived.Deep.RegionHeld3
namespace Go.Proofs.YtfphlpglgcmljaaGreat
open Go.RowKit

theorem copied_row (w : World) : ∀ g, some (w.heap.size + 1 + 1) = some g → g < w.heap.size ∨ w.heap.size + 2 ≤ g := fun _ h => by simp at h; omega
set_option maxRecDepth 100000 in
set_option maxHeartbeats 400000 in
theorem ref_copied (N : Int) (v : Value) (xs : List Int) (w : World) (hv : RL w.heap.size w v xs) (hx : xs.length ≤ 1000) :
    Calls Tryz.prog 122 #[.agg #[.int .i64 N, v]] w fun e w' => ∃ v', e = .returned (.agg #[.int .i64 N, v']) ∧ OL 63 w.heap.size w' v' xs ∧ Below w.heap.size w w' := by
  obtain ⟨i0, hi, hz0, hz1, hz2⟩ := info_parts Tryz.infoLimit
  have Hv := Lib.hid (show RL w.heap.size (((w.alloc (.cells #[.int .i64 N, v] 32)).alloc (.cells #[.int .i64 0, .slice none 0 0] 32)).alloc (.cells #[] 63)).drew v xs from RS.keep hv (((((Below.refl _ _).alloc (Nat.le_refl _) _).alloc (by simp) _).alloc (by simp; omega) _).drew))
  have Ho : Hid ((((w.alloc (.cells #[.int .i64 N, v] 32)).alloc (.cells #[.int .i64 0, .slice none 0 0] 32)).alloc (.cells #[] 63)).drew.ownsRow (w.heap.size + 1 + 1) 63 1 (.slice (some ⟨w.heap.size + 1 + 1, 0, none⟩) 0 0) 0 []) :=
    Lib.hid (owns_empty (g := w.heap.size + 1 + 1) (heap_new3 w _ _ _) (Nat.le_refl _))
  have Hloc := Lib.hid ((Loc.two w (.cells #[.int .i64 N, v] 32) (.cells #[.int .i64 0, .slice none 0 0] 32) (some (w.heap.size + 1 + 1))).next (grownBy_trans (World.grownBy_alloc _ (.cells #[] 63) _) (grownBy_drew _ _)) (copied_row w))
  have Hm := Lib.hid (show 0 + xs.length ≤ maxLen by unfold maxLen; omega)
  have Hby := Lib.hid (show (0 + xs.length) * 8 ≤ 140737488355328 by omega)
  have Hba := Lib.hid (show w.heap.size + 1 + 1 ≤ (((w.alloc (.cells #[.int .i64 N, v] 32)).alloc (.cells #[.int .i64 0, .slice none 0 0] 32)).alloc (.cells #[] 63)).drew.heap.size by show _ ≤ (((w.alloc _).alloc _).alloc _).heap.size; simp)
  have Hl := Lib.hid (show (xs.map (Value.int .i64)).length = xs.length * 1 by simp)
  have Hi := Lib.hid hi
  have Hz0 := Lib.hid hz0
  have Hz1 := Lib.hid hz1
  have Hz2 := Lib.hid hz2
  clear hv hi hz0 hz1 hz2 hx
  go_enter Tryz.func122, Tryz.ntmps122
  go_wp2_with fail
  go_region_held3 (fun w' => w'.cell? ⟨w.heap.size, 0, none⟩ = some (.int .i64 N) ∧ w'.cell? ⟨w.heap.size, 1, none⟩ = some v) (first | exact ⟨by assumption, by assumption⟩ | go_keep) ((refine step_append_rs (v := .slice (some ⟨w.heap.size + 1 + 1, 0, none⟩) 0 0) (n := 0) (xs := []) (xv := v) (m := xs.length) (news := xs.map (Value.int .i64)) ?_ (.tmp 5) (.tmp 7) 30 ?_ (w.heap.size + 1 + 1) 63 i0 (.int .i64 0) 1 8 Tryz.undLimits Hi.out Hz0.out Hz1.out Hz2.out ?_ ?_ ?_ ?_ w.heap.size ?_ ?_ ?_ ?_ ?_ ?_ ?_ ?_; rfl; rfl; rfl; decide; rfl; exact Ho.out; rfl; exact Hv.out; exact Hl.out; exact ints_oneCell' _; exact Hm.out; exact Hby.out; exact Hba.out; intro v' w1 hown1 hg1; obtain ⟨ao1, cap1, rfl⟩ := owns_form hown1; have hloc := Hloc.out.next hg1 (copied_row w); have n0 : w1.cell? ⟨w.heap.size, 0, none⟩ = some (.int .i64 N) := hloc.cell 0 rfl 0; have n1 : w1.cell? ⟨w.heap.size, 1, none⟩ = some v := hloc.cell 0 rfl 1; have r0 : w1.cell? ⟨w.heap.size + 1, 0, none⟩ = some (.int .i64 0) := hloc.cell 1 rfl 0; have r1 : w1.cell? ⟨w.heap.size + 1, 1, none⟩ = some (.slice none 0 0) := hloc.cell 1 rfl 1; have r2 := hloc.free 1 rfl 0; have r3 := hloc.free 1 rfl 1))
  go_wp2_with fail
  have hn : 0 + xs.length = xs.length := Nat.zero_add _
  rw [hn] at hown1
  simp only [List.nil_append] at hown1
  refine bodyPost_ret (v := .agg #[.int .i64 N, .slice ao1 xs.length cap1]) (by simp [results, Tryz.results122, go_sem, r0, r1]) rfl ⟨_, rfl, ?_, ?_⟩
  · exact OL.mono (ownsRow_setCell_below (ownsRow_setCell_below hown1 (by simp) _) (by simp) _) (by omega)
  · exact ((below_of_loc hloc (by omega)).setCell (by simp) _).setCell (by simp) _
end Go.Proofs.YtfphlpglgcmljaaGreat
namespace Go.Proofs.YtfphlpglgcmljaaGreat
open Go.RowKit

end Go.Proofs.YtfphlpglgcmljaaGreat

