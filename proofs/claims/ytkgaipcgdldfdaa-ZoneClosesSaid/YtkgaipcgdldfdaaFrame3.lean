/- From a row's reading to what the walks are told: lists of constraints. -/
import Derived.Test.YtkgaipcgdldfdaaFrame2
import Derived.Test.YtkgaipcgdldfdaaQ
namespace Go.Proofs.Ytkgaipcgdldfdaa
open Go.Deep Go.ChangeShapes Go.WideShapes Go.ChangeAt Go.RowKit

theorem rk_of_trod {H : Type} {enc : TypeId × Value → H} {P : Program} {w : World} {T E fuel : Nat} {fs : Array Field} {v : Value} {x : DataW H × List MemPlace} (hT : P.underlying T = some (.slice E)) (hE : P.underlying E = some (.struct fs))
    (hone : oneCellFields P fs = true) (h2 : fs.size = 3) (hC : P.cellsOf E = fs.size) (hint : ∀ (j : Nat) (f : Field), fs[j]? = some f → P.underlying f.type = some (.int .i64))
    (h : DataW.trod enc P w 0 (fun _ => true) true fuel T [v] = some x) : ∃ ps, RK w.heap.size w v ps := by
  rcases rows_of_trod hT hE hone hC (by omega) hint h with rfl | ⟨a, l, c, rfl, hl, hc, hcell⟩
  · exact ⟨[], .inl ⟨rfl, rfl, rfl⟩⟩
  · rw [h2] at hcell
    have hp : ∀ i, ∃ p : Int × Int × Int, i < l → w.cell? (a.add (i * 3)) = some (.int .i64 p.1) ∧ w.cell? (a.add (i * 3 + 1)) = some (.int .i64 p.2.1) ∧ w.cell? (a.add (i * 3 + 2)) = some (.int .i64 p.2.2) := fun i => by
      by_cases hi : i < l
      · obtain ⟨n0, c0, _⟩ := hcell i hi 0 (by omega)
        obtain ⟨n1, c1, _⟩ := hcell i hi 1 (by omega)
        obtain ⟨n2, c2, _⟩ := hcell i hi 2 (by omega)
        exact ⟨(n0, n1, n2), fun _ => ⟨c0, c1, c2⟩⟩
      · exact ⟨(0, 0, 0), fun h => absurd h hi⟩
    let p := fun i => (hp i).choose
    have pc : ∀ i, i < l → w.cell? (a.add (i * 3)) = some (.int .i64 (p i).1) ∧ w.cell? (a.add (i * 3 + 1)) = some (.int .i64 (p i).2.1) ∧ w.cell? (a.add (i * 3 + 2)) = some (.int .i64 (p i).2.2) := fun i hi => (hp i).choose_spec hi
    refine ⟨(List.range l).map p, ?_⟩
    have hlen : ((List.range l).map p).length = l := by simp
    unfold RK
    rw [hlen]
    refine .inr ⟨a.block, a.off, a.spot, c, rfl, hl, hc, fun h0 => by subst h0; rfl, fun hpos => ?_⟩
    obtain ⟨b, off, spot⟩ := a
    have hspot : spot = none := by simpa [Addr.add] using World.cell?_spot (pc 0 hpos).1
    subst hspot
    refine ⟨rfl, by have := World.block_lt_of_cell? w _ (pc 0 hpos).1; simpa [Addr.add] using this, fun k hk => ?_⟩
    rw [flat3_len, hlen] at hk
    have hk2 : k / 3 < l := by omega
    obtain ⟨f1, f2, f3⟩ := flat3 ((List.range l).map p) (k / 3) (by rw [hlen]; exact hk2)
    have hg : gk ((List.range l).map p) (k / 3) = p (k / 3) := by rw [gk_of (by rw [hlen]; exact hk2)]; simp
    rw [hg] at f1 f2 f3
    obtain ⟨c1, c2, c3⟩ := pc (k / 3) hk2
    rw [add_at] at c1 c2 c3
    have h3 : k % 3 = 0 ∨ k % 3 = 1 ∨ k % 3 = 2 := by omega
    rcases h3 with e | e | e
    · have : k = k / 3 * 3 := by omega
      rw [this, f1]; exact c1
    · have : k = k / 3 * 3 + 1 := by omega
      rw [this, f2]; exact c2
    · have : k = k / 3 * 3 + 2 := by omega
      rw [this, f3]; exact c3
set_option maxRecDepth 100000 in
theorem constr_ints : ∀ (j : Nat) (f : Field), (match Try.prog.underlying 62 with | some (.struct fs) => fs | _ => #[])[j]? = some f → Try.prog.underlying f.type = some (.int .i64) := by
  intro j f h
  rw [Try.underlying62] at h
  match j, h with
  | 0, h => cases h; exact Try.underlying3
  | 1, h => cases h; exact Try.underlying3
  | 2, h => cases h; exact Try.underlying60
  | j + 3, h => simp at h
end Go.Proofs.Ytkgaipcgdldfdaa
