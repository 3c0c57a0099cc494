/- From a row's reading to what the walks are told: lists of whatever elements; constraints of a flat; a priced zone. -/
import Derived.Test.YtfphlpglgcmljaaGreatFrame2
import Derived.Test.YtfphlpglgcmljaaGreatHol
import Derived.Lib.SmallJoins
namespace Go.Proofs.YtfphlpglgcmljaaGreat
open Go.ChangeShapes Go.WideShapes Go.ChangeAt Go.RowKit Go.Deep
set_option linter.unusedVariables false

theorem rx_of_trod {α : Type} (c : Cd α) {H : Type} {enc : TypeId × Value → H} {P : Program} {w : World} {T E fuel : Nat} {v : Value} {x : DataW H × List MemPlace} (hT : P.underlying T = some (.slice E)) (hC : P.cellsOf E = c.sz) (hpos : 0 < c.sz)
    (hdec : ∀ (n : Nat) (cs : List Value) y, cs.length = c.sz → DataW.trod enc P w 0 (fun _ => true) true n E cs = some y → ∃ x, c.cells x = cs)
    (h : DataW.trod enc P w 0 (fun _ => true) true fuel T [v] = some x) : ∃ xs, RX c w.heap.size w v xs := by
  rcases open_slice hT h with ⟨hcs, _⟩ | ⟨a, len, cap, m, n, D, Pl, hcs, hb, hl, hm, hmm, hx, hi⟩
  · have hv : v = .slice none 0 0 := by simpa using hcs
    subst hv; exact ⟨[], RX.nil _ _ _⟩
  · obtain rfl : v = .slice (some a) len cap := by simpa using hcs
    have hp : ∀ i, ∃ p : α, i < len → ∀ j, j < c.sz → w.cell? (a.add (i * c.sz + j)) = (c.cells p)[j]? := fun i => by
      by_cases hil : i < len
      · obtain ⟨cs', hc, ht'⟩ := hi i (by rw [hmm]; simp; omega)
        rw [hC] at hc
        obtain ⟨_, hcl, hat⟩ := World.cells?_some hc
        obtain ⟨x, hx⟩ := hdec _ _ _ hcl ht'
        exact ⟨x, fun _ j hj => by rw [hx, ← Go.Deep.add_add]; exact hat j hj⟩
      · exact ⟨c.zero, fun h => absurd h hil⟩
    let p := fun i => (hp i).choose
    have pc : ∀ i, i < len → ∀ j, j < c.sz → w.cell? (a.add (i * c.sz + j)) = (c.cells (p i))[j]? := fun i hi => (hp i).choose_spec hi
    refine ⟨(List.range len).map p, ?_⟩
    have hlen : ((List.range len).map p).length = len := by simp
    unfold RX
    rw [hlen]
    refine .inr ⟨a.block, a.off, a.spot, cap, rfl, hl, hm, fun h0 => by subst h0; rfl, fun hpos' => ?_⟩
    obtain ⟨b, off, spot⟩ := a
    have c0 : w.cell? ((⟨b, off, spot⟩ : Addr).add (0 * c.sz + 0)) = some ((c.cells (p 0))[0]'(by rw [c.len]; exact hpos)) := by
      rw [pc 0 hpos' 0 hpos, List.getElem?_eq_getElem (by rw [c.len]; exact hpos)]
    have hspot : spot = none := by simpa [Addr.add] using World.cell?_spot c0
    subst hspot
    refine ⟨rfl, by have := World.block_lt_of_cell? w _ c0; simpa [Addr.add] using this, fun k hk => ?_⟩
    rw [flatE_len, hlen] at hk
    have hk2 : k / c.sz < len := Nat.div_lt_of_lt_mul (by rw [Nat.mul_comm]; exact hk)
    have hk3 : k % c.sz < c.sz := Nat.mod_lt _ hpos
    have hkk : k = k / c.sz * c.sz + k % c.sz := by rw [Nat.mul_comm]; exact (Nat.div_add_mod k c.sz).symm
    have hg : ge c ((List.range len).map p) (k / c.sz) = p (k / c.sz) := by rw [ge_of c (by rw [hlen]; exact hk2)]; simp
    have h1 := flatE c ((List.range len).map p) (k / c.sz) (k % c.sz) (by rw [hlen]; exact hk2) hk3
    rw [hg, ← pc _ hk2 _ hk3, add_at, ← hkk] at h1
    exact h1.symm
set_option maxRecDepth 100000 in
theorem con_dec {H : Type} {enc : TypeId × Value → H} {w : World} {n : Nat} {cs : List Value} {y : DataW H × List MemPlace} (hl : cs.length = cdCon.sz) (h : DataW.trod enc Tryz.prog w 0 (fun _ => true) true n 81 cs = some y) : ∃ x, cdCon.cells x = cs := by
  have k2 : Tryz.prog.cellsOf 3 = 1 := by kernel_rfl
  have k3 : Tryz.prog.cellsOf 2 = 1 := by kernel_rfl
  have k4 : Tryz.prog.cellsOf 4 = 1 := by kernel_rfl
  match cs, hl with
  | [c0, c1, c2, c3], _ =>
    obtain ⟨xs, n, _, hx, _, hlen, hg⟩ := DataW.trod_struct Tryz.underlying81 h
    match xs, hlen with
    | [y0, y1, y2, y3], _ =>
      have g0 := hg 0 _ rfl
      have g1 := hg 1 _ rfl
      have g2 := hg 2 _ rfl
      have g3 := hg 3 _ rfl
      simp [k2, k3, k4] at g0 g1 g2 g3
      obtain ⟨n0, e0, _, _⟩ := DataW.trod_int Tryz.underlying3 g0
      obtain ⟨b1, e1, _⟩ := DataW.trod_bool Tryz.underlying4 g1
      obtain ⟨b2, e2, _⟩ := DataW.trod_bool Tryz.underlying4 g2
      obtain ⟨n3, e3, _, _⟩ := DataW.trod_int Tryz.underlying2 g3
      obtain rfl : c0 = .int .i64 n0 := by simpa using e0
      obtain rfl : c1 = .bool b1 := by simpa using e1
      obtain rfl : c2 = .bool b2 := by simpa using e2
      obtain rfl : c3 = .int .i64 n3 := by simpa using e3
      exact ⟨⟨n0, b1, b2, n3⟩, rfl⟩
theorem rx_con {H : Type} {enc : TypeId × Value → H} {w : World} {fuel : Nat} {v : Value} {x : DataW H × List MemPlace}
    (h : DataW.trod enc Tryz.prog w 0 (fun _ => true) true fuel 36 [v] = some x) : ∃ xs, RX cdCon w.heap.size w v xs :=
  rx_of_trod cdCon Tryz.underlying36 (by kernel_rfl) (by decide) (fun n cs y hl h => con_dec hl h) h
set_option maxRecDepth 100000 in
theorem open_priced {H : Type} {enc : TypeId × Value → H} {w : World} {base : Nat} {spare : Nat → Bool} {held : Bool} {r : Reach} {b0 : Nat} {v : Value} {d : DataW H} {p : List MemPlace}
    (hv : Value.okWide Tryz.prog w r b0 35 v) (h : DataW.Trod enc Tryz.prog w base spare held 35 v d p) :
    ∃ (n c : Int) (vM vR : Value) (m1 m2 : Nat) (y1 y2 : DataW H × List MemPlace), v = .agg #[.int .i64 n, vM, .int .i64 c, vR] ∧
      DataW.trod enc Tryz.prog w base spare held m1 30 [vM] = some y1 ∧ DataW.trod enc Tryz.prog w base spare held m2 33 [vR] = some y2 := by
  obtain ⟨cs, rfl, hsz⟩ := okWide_struct Tryz.underlying35 hv
  have hC : Tryz.prog.cellsOf 35 = 4 := by kernel_rfl
  have k1 : Tryz.prog.cellsOf 32 = 2 := by kernel_rfl
  have k2 : Tryz.prog.cellsOf 3 = 1 := by kernel_rfl
  have k3 : Tryz.prog.cellsOf 2 = 1 := by kernel_rfl
  have k4 : Tryz.prog.cellsOf 33 = 1 := by kernel_rfl
  have k5 : Tryz.prog.cellsOf 30 = 1 := by kernel_rfl
  obtain ⟨l⟩ := cs
  match l, hsz.trans hC with
  | [c0, c1, c2, c3], _ =>
    obtain ⟨fuel, hf⟩ := h
    obtain ⟨xs, n, _, hx, _, hlen, hg⟩ := DataW.trod_struct Tryz.underlying35 hf
    match xs, hlen with
    | [y0, y1, y2], _ =>
      have g0 := hg 0 _ rfl
      have g1 := hg 1 _ rfl
      have g2 := hg 2 _ rfl
      simp [Value.cells, k1, k3, k4] at g0 g1 g2
      obtain ⟨zs, m, _, hz, _, hzl, hh⟩ := DataW.trod_struct Tryz.underlying32 g0
      match zs, hzl with
      | [u0, u1], _ =>
        have e0 := hh 0 _ rfl
        have e1 := hh 1 _ rfl
        simp [k2, k5] at e0 e1
        obtain ⟨nz, hnz, _, _⟩ := DataW.trod_int Tryz.underlying3 e0
        obtain ⟨nc, hnc, _, _⟩ := DataW.trod_int Tryz.underlying2 g1
        obtain rfl : c0 = .int .i64 nz := by simpa using hnz
        obtain rfl : c2 = .int .i64 nc := by simpa using hnc
        exact ⟨nz, nc, c1, c3, _, _, u1, y2, rfl, e1, g2⟩
end Go.Proofs.YtfphlpglgcmljaaGreat
