/- Part of the proof of stopwatch_explores_proved: Frt. -/
import Derived.ProofKit
import Derived.OpenShut
import Derived.ChangeOld
import Derived.Deep.Slices
import Derived.Deep.Fields
import Derived.Lib.SmallJoins
import Derived.Test.YtokljoajalmkfaaXeLst
import Derived.Test.YtokljoajalmkfaaXeSwk
namespace Go.Proofs.Ytokljoajalmkfaa
open Go.ChangeShapes Go.WideShapes Go.ChangeAt Go.RowKit Go.Deep
set_option linter.unusedVariables false
theorem frt_add {b off : Nat} (k : Nat) : (⟨b, off, none⟩ : Addr).add k = ⟨b, off + k, none⟩ := by unfold Addr.add; split <;> simp_all
theorem rx_of_trod {α : Type} (c : Cd α) {H : Type} {enc : TypeId × Value → H} {P : Program} {w : World} {T E fuel : Nat} {v : Value} {x : DataW H × List MemPlace} (hT : P.underlying T = some (.slice E)) (hC : P.cellsOf E = c.sz) (hpos : 0 < c.sz)
  (hdec : ∀ (n : Nat) (cs : List Value) y, cs.length = c.sz → DataW.trod enc P w 0 (fun _ => true) true n E cs = some y → ∃ x, c.cells x = cs)
  (h : DataW.trod enc P w 0 (fun _ => true) true fuel T [v] = some x) : ∃ xs, RX c w.heap.size w v xs := by
 rcases open_slice hT h with ⟨hcs, _⟩ | ⟨a, len, cap, m, n, D, Pl, hcs, hb, hl, hm, hmm, hx, hi⟩
 ·have hv : v = .slice none 0 0 := by simpa using hcs
  subst hv; exact ⟨[], RX.nil _ _ _⟩
 ·obtain rfl : v = .slice (some a) len cap := by simpa using hcs
  have hp : ∀ i, ∃ p : α, i < len → ∀ j, j < c.sz → w.cell? (a.add (i * c.sz + j)) = (c.cells p)[j]? := fun i => by
   by_cases hil : i < len
   ·obtain ⟨cs', hc, ht'⟩ := hi i (by rw [hmm]; simp; omega)
    rw [hC] at hc
    obtain ⟨_, hcl, hat⟩ := World.cells?_some hc
    obtain ⟨x, hx⟩ := hdec _ _ _ hcl ht'
    exact ⟨x, fun _ j hj => by rw [hx, ← Go.Deep.add_add]; exact hat j hj⟩
   ·exact ⟨c.zero, fun h => absurd h hil⟩
  let p := fun i => (hp i).choose
  have pc : ∀ i, i < len → ∀ j, j < c.sz → w.cell? (a.add (i * c.sz + j)) = (c.cells (p i))[j]? := fun i hi => (hp i).choose_spec hi
  refine ⟨(List.range len).map p, ?_⟩
  have hlen : ((List.range len).map p).length = len := by simp
  unfold RX
  rw [hlen]
  refine .inr ⟨a.block, a.off, a.spot, cap, rfl, hl, hm, fun h0 => by subst h0; rfl, fun hpos' => ?_⟩
  obtain ⟨b, off, spot⟩ := a
  have c0 : w.cell? ((⟨b, off, spot⟩ : Addr).add (0 * c.sz + 0)) = some ((c.cells (p 0))[0]'(by rw [c.len]; exact hpos)) := by
   rw [pc 0 hpos' 0 hpos, List.getElem?_eq_getElem (by rw [c.len]; exact hpos)]
  have hspot : spot = none := by simpa [Addr.add] using World.cell?_spot c0
  subst hspot
  refine ⟨rfl, by have := World.block_lt_of_cell? w _ c0; simpa [Addr.add] using this, fun k hk => ?_⟩
  rw [flatE_len, hlen] at hk
  have hk2 : k / c.sz < len := Nat.div_lt_of_lt_mul (by rw [Nat.mul_comm]; exact hk)
  have hk3 : k % c.sz < c.sz := Nat.mod_lt _ hpos
  have hkk : k = k / c.sz * c.sz + k % c.sz := by rw [Nat.mul_comm]; exact (Nat.div_add_mod k c.sz).symm
  have hg : ge c ((List.range len).map p) (k / c.sz) = p (k / c.sz) := by rw [ge_of c (by rw [hlen]; exact hk2)]; simp
  have h1 := flatE c ((List.range len).map p) (k / c.sz) (k % c.sz) (by rw [hlen]; exact hk2) hk3
  rw [hg, ← pc _ hk2 _ hk3, frt_add, ← hkk] at h1
  exact h1.symm
open Classical in
/-- As rx_of_trod, with a fact of each element. -/
theorem rxg_of_trod {α : Type} (c : Cd α) (G : α → Prop) {H : Type} {enc : TypeId × Value → H} {P : Program} {w : World} {T E fuel : Nat} {v : Value} {x : DataW H × List MemPlace} (hT : P.underlying T = some (.slice E)) (hC : P.cellsOf E = c.sz) (hpos : 0 < c.sz)
  (hdec : ∀ (n : Nat) (cs : List Value) y, cs.length = c.sz → DataW.trod enc P w 0 (fun _ => true) true n E cs = some y → ∃ x, G x ∧ c.cells x = cs)
  (h : DataW.trod enc P w 0 (fun _ => true) true fuel T [v] = some x) : ∃ xs, RX c w.heap.size w v xs ∧ ∀ x, x ∈ xs → G x := by
 let d : Cd {x : α // G x ∨ ∀ y, ¬ G y} := ⟨c.sz, fun x => c.cells x.1, fun x => c.len x.1, if h : ∃ y, G y then ⟨h.choose, .inl h.choose_spec⟩ else ⟨c.zero, .inr fun y hy => h ⟨y, hy⟩⟩⟩
 obtain ⟨xs, hx⟩ := rx_of_trod d hT hC hpos (fun n cs y hl h => by
  obtain ⟨x, hG, hx⟩ := hdec n cs y hl h
  exact ⟨⟨x, .inl hG⟩, hx⟩) h
 by_cases hall : ∀ y, y ∈ xs → G y.1
 ·refine ⟨xs.map Subtype.val, ?_, fun x hx => ?_⟩
  ·unfold RX at hx ⊢
   rw [List.length_map, List.flatMap_map]
   exact hx
  ·obtain ⟨y, hy, rfl⟩ := List.mem_map.1 hx
   exact hall y hy
 ·exfalso
  obtain ⟨y, hy⟩ : ∃ y, ¬ (y ∈ xs → G y.1) := Classical.not_forall.1 hall
  obtain ⟨hm, hn⟩ : y ∈ xs ∧ ¬ G y.1 := by
   by_cases hm : y ∈ xs
   ·exact ⟨hm, fun hg => hy (fun _ => hg)⟩
   ·exact absurd (fun h => absurd h hm) hy
  have hno : ∀ z, ¬ G z := y.2.resolve_left hn
  have hpx : 0 < xs.length := List.length_pos_of_mem hm
  rcases open_slice hT h with ⟨hcs, _⟩ | ⟨a, len, cap, m, n, D, Pl, hcs, hb, hl, hm', hmm, hxx, hi⟩
  ·have hv : v = .slice none 0 0 := by simpa using hcs
   obtain ⟨ao, cap, e, _, h0⟩ := hx.open
   rw [hv] at e
   injection e with e1 e2 e3
   omega
  ·have hv : v = .slice (some a) len cap := by simpa using hcs
   obtain ⟨ao, cap', e, _, h0⟩ := hx.open
   rw [hv] at e
   injection e with e1 e2 e3
   obtain ⟨cs', hc, ht'⟩ := hi 0 (by rw [hmm]; simp; omega)
   rw [hC] at hc
   obtain ⟨_, hcl, hat⟩ := World.cells?_some hc
   obtain ⟨z, hz, _⟩ := hdec _ _ _ hcl ht'
   exact hno z hz
set_option maxRecDepth 100000 in
theorem sec_dec {H : Type} {enc : TypeId × Value → H} {w : World} {n : Nat} {cs : List Value} {y : DataW H × List MemPlace} (hl : cs.length = cdSc.sz) (h : DataW.trod enc Try.prog w 0 (fun _ => true) true n 77 cs = some y) : ∃ x, cdSc.cells x = cs := by
 have k2 : Try.prog.cellsOf 3 = 1 := by kernel_rfl
 have k3 : Try.prog.cellsOf 2 = 1 := by kernel_rfl
 match cs, hl with
 | [c0, c1, c2], _ =>
  obtain ⟨xs, n, _, hx, _, hlen, hg⟩ := DataW.trod_struct Try.underlying77 h
  match xs, hlen with
  | [y0, y1, y2], _ =>
   have g0 := hg 0 _ rfl
   have g1 := hg 1 _ rfl
   have g2 := hg 2 _ rfl
   simp [k2, k3] at g0 g1 g2
   obtain ⟨n0, e0, _, _⟩ := DataW.trod_int Try.underlying3 g0
   obtain ⟨n1, e1, _, _⟩ := DataW.trod_int Try.underlying2 g1
   obtain ⟨n2, e2, _, _⟩ := DataW.trod_int Try.underlying2 g2
   obtain rfl : c0 = .int .i64 n0 := by simpa using e0
   obtain rfl : c1 = .int .i64 n1 := by simpa using e1
   obtain rfl : c2 = .int .i64 n2 := by simpa using e2
   exact ⟨⟨n0, n1, n2⟩, rfl⟩
theorem rx_sec {H : Type} {enc : TypeId × Value → H} {w : World} {fuel : Nat} {v : Value} {x : DataW H × List MemPlace}
  (h : DataW.trod enc Try.prog w 0 (fun _ => true) true fuel 35 [v] = some x) : ∃ xs, RX cdSc w.heap.size w v xs :=
 rx_of_trod cdSc Try.underlying35 (by kernel_rfl) (by decide) (fun n cs y hl h => sec_dec hl h) h
theorem wf_le {n : Int} (h : (Lit.int .i64 n).wf = true) : n ≤ 9223372036854775807 := by
 simp only [Lit.wf, Bool.and_eq_true, decide_eq_true_eq] at h
 have h2 := h.2
 simp [IntKind.max, IntKind.bits, IntKind.signed] at h2
 exact h2
set_option maxRecDepth 100000 in
theorem task_dec {H : Type} {enc : TypeId × Value → H} {w : World} {n : Nat} {cs : List Value} {y : DataW H × List MemPlace} (hl : cs.length = cdTk.sz) (h : DataW.trod enc Try.prog w 0 (fun _ => true) true n 37 cs = some y) : ∃ x : Tk, (RX cdSc w.heap.size w x.sv x.sc ∧ x.pr ≤ 9223372036854775807) ∧ cdTk.cells x = cs := by
 have k1 : Try.prog.cellsOf 9 = 1 := by kernel_rfl
 have k2 : Try.prog.cellsOf 3 = 1 := by kernel_rfl
 have k3 : Try.prog.cellsOf 2 = 1 := by kernel_rfl
 have k4 : Try.prog.cellsOf 35 = 1 := by kernel_rfl
 match cs, hl with
 | [c0, c1, c2, c3, c4, c5, c6], _ =>
  obtain ⟨xs, n, _, hx, _, hlen, hg⟩ := DataW.trod_struct Try.underlying37 h
  match xs, hlen with
  | [y0, y1, y2, y3, y4, y5, y6], _ =>
   have g0 := hg 0 _ rfl
   have g1 := hg 1 _ rfl
   have g2 := hg 2 _ rfl
   have g3 := hg 3 _ rfl
   have g4 := hg 4 _ rfl
   have g5 := hg 5 _ rfl
   have g6 := hg 6 _ rfl
   simp [k1, k2, k3, k4] at g0 g1 g2 g3 g4 g5 g6
   obtain ⟨n0, e0, _, _⟩ := DataW.trod_string Try.underlying9 g0
   obtain rfl : c0 = .string n0 := by simpa using e0
   obtain ⟨n1, e1, _, _⟩ := DataW.trod_int Try.underlying2 g1
   obtain rfl : c1 = .int .i64 n1 := by simpa using e1
   obtain ⟨n2, e2, _, _⟩ := DataW.trod_int Try.underlying2 g2
   obtain rfl : c2 = .int .i64 n2 := by simpa using e2
   obtain ⟨n3, e3, _, _⟩ := DataW.trod_int Try.underlying2 g3
   obtain rfl : c3 = .int .i64 n3 := by simpa using e3
   obtain ⟨n4, e4, _, _⟩ := DataW.trod_int Try.underlying2 g4
   obtain rfl : c4 = .int .i64 n4 := by simpa using e4
   obtain ⟨n5, e5, _, w5⟩ := DataW.trod_int Try.underlying3 g5
   obtain rfl : c5 = .int .i64 n5 := by simpa using e5
   obtain ⟨n6, h6⟩ := rx_sec g6
   exact ⟨⟨n0, n1, n2, n3, n4, n5, c6, n6⟩, ⟨h6, wf_le w5⟩, rfl⟩
theorem ts_of_trod {H : Type} {enc : TypeId × Value → H} {w : World} {fuel : Nat} {v : Value} {x : DataW H × List MemPlace}
  (h : DataW.trod enc Try.prog w 0 (fun _ => true) true fuel 22 [v] = some x) : ∃ ts, TsR w v ts ∧ ∀ k, k < ts.length → (tk ts k).pr ≤ 9223372036854775807 := by
 obtain ⟨ts, h1, h2⟩ := rxg_of_trod cdTk (fun x => RX cdSc w.heap.size w x.sv x.sc ∧ x.pr ≤ 9223372036854775807) Try.underlying22 (by kernel_rfl) (by decide) (fun n cs y hl h => task_dec hl h) h
 exact ⟨ts, ⟨h1, fun x hx => (h2 x hx).1⟩, fun k hk => (h2 _ (ge_mem cdTk hk)).2⟩
end Go.Proofs.Ytokljoajalmkfaa
