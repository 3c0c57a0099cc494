/- From a row's reading to what the walks are told: slices of ratios and of constraints, arrays of two. From a row's reading to what the walks are told: lists of constraints. From a row's reading to what the walks are told: lists of whatever elements; constraints of a flat; a priced zone. -/
import Derived.Test.YtfphlpglgcmljaaGreatQ
import Derived.Test.YtfphlpglgcmljaaGreatFrame
import Derived.ProofKit
import Derived.OpenShut
import Derived.ChangeOld
import Derived.Deep.Slices
import Derived.Deep.Fields
import Derived.Lib.SmallJoins
import Derived.Test.YtfphlpglgcmljaaGreatHol
namespace Go.Proofs.YtfphlpglgcmljaaGreat
open Go.ChangeShapes Go.WideShapes Go.ChangeAt Go.RowKit Go.Deep
set_option linter.unusedVariables false

theorem add_at {b off : Nat} (k : Nat) : (⟨b, off, none⟩ : Addr).add k = ⟨b, off + k, none⟩ := by unfold Addr.add; split <;> simp_all
/-- A list of structs of so many integers that came in. -/
theorem rows_of_trod {H : Type} {enc : TypeId × Value → H} {P : Program} {w : World} {T E fuel : Nat} {fs : Array Field} {v : Value} {x : DataW H × List MemPlace} (hT : P.underlying T = some (.slice E)) (hE : P.underlying E = some (.struct fs))
    (hone : oneCellFields P fs = true) (hC : P.cellsOf E = fs.size) (hpos : 0 < fs.size) (hint : ∀ (j : Nat) (f : Field), fs[j]? = some f → P.underlying f.type = some (.int .i64))
    (h : DataW.trod enc P w 0 (fun _ => true) true fuel T [v] = some x) :
    (v = .slice none 0 0) ∨ ∃ a l c, v = .slice (some a) l c ∧ l ≤ c ∧ c ≤ maxLen ∧ ∀ i, i < l → ∀ j, j < fs.size → ∃ n, w.cell? (a.add (i * fs.size + j)) = some (.int .i64 n) ∧ (Lit.int .i64 n).wf = true := by
  rcases open_slice hT h with ⟨hcs, _⟩ | ⟨a, len, cap, m, n, D, Pl, hcs, hb, hl, hm, hmm, hx, hi⟩
  · left; simpa using hcs
  · right
    refine ⟨a, len, cap, by simpa using hcs, hl, hm, fun i hil j hj => ?_⟩
    obtain ⟨cs', hc, ht'⟩ := hi i (by rw [hmm]; simp; omega)
    rw [hC] at hc
    obtain ⟨ys, n', hn', hy, hlen, hyl, hf⟩ := DataW.trod_struct hE ht'
    obtain ⟨_, hcl, hat⟩ := World.cells?_some hc
    have hfj : fs[j]? = some fs[j] := Array.getElem?_eq_getElem hj
    obtain ⟨ho, hk⟩ := hone_of hone j fs[j] hfj
    have h1 := hf j fs[j] hfj
    rw [ho, hk] at h1
    have hone' : (cs'.drop j).take 1 = [cs'[j]'(by omega)] := by
      rw [List.drop_eq_getElem_cons (by omega)]; rfl
    rw [hone', List.getElem?_eq_getElem (by omega)] at h1
    obtain ⟨k, hk1, _, hk3⟩ := DataW.trod_int (hint j fs[j] hfj) h1
    refine ⟨k, ?_, hk3⟩
    rw [← Go.Deep.add_add, hat j hj, List.getElem?_eq_getElem (by omega)]
    simp only [List.cons.injEq, and_true] at hk1
    rw [hk1]
theorem rqw_of_trod {H : Type} {enc : TypeId × Value → H} {P : Program} {w : World} {T E fuel : Nat} {fs : Array Field} {v : Value} {x : DataW H × List MemPlace} (hT : P.underlying T = some (.slice E)) (hE : P.underlying E = some (.struct fs))
    (hone : oneCellFields P fs = true) (h2 : fs.size = 2) (hC : P.cellsOf E = fs.size) (hint : ∀ (j : Nat) (f : Field), fs[j]? = some f → P.underlying f.type = some (.int .i64))
    (h : DataW.trod enc P w 0 (fun _ => true) true fuel T [v] = some x) : ∃ ps, RQ w.heap.size w v ps ∧ ∀ k, k < ps.length → (Lit.int .i64 (gq ps k).1).wf = true := by
  rcases rows_of_trod hT hE hone hC (by omega) hint h with rfl | ⟨a, l, c, rfl, hl, hc, hcell⟩
  · exact ⟨[], .inl ⟨rfl, rfl, rfl⟩, fun k hk => by simp at hk⟩
  · rw [h2] at hcell
    have hp : ∀ i, ∃ p : Int × Int, i < l → w.cell? (a.add (i * 2)) = some (.int .i64 p.1) ∧ w.cell? (a.add (i * 2 + 1)) = some (.int .i64 p.2) ∧ (Lit.int .i64 p.1).wf = true := fun i => by
      by_cases hi : i < l
      · obtain ⟨n0, c0, hw0⟩ := hcell i hi 0 (by omega)
        obtain ⟨n1, c1, _⟩ := hcell i hi 1 (by omega)
        exact ⟨(n0, n1), fun _ => ⟨c0, c1, hw0⟩⟩
      · exact ⟨(0, 0), fun h => absurd h hi⟩
    let p := fun i => (hp i).choose
    have pc : ∀ i, i < l → w.cell? (a.add (i * 2)) = some (.int .i64 (p i).1) ∧ w.cell? (a.add (i * 2 + 1)) = some (.int .i64 (p i).2) ∧ (Lit.int .i64 (p i).1).wf = true := fun i hi => (hp i).choose_spec hi
    refine ⟨(List.range l).map p, ?_, fun k hk => ?_⟩
    rotate_left
    · have hkl : k < l := by simpa using hk
      have hg : gq ((List.range l).map p) k = p k := by rw [gq_of (by simpa using hkl)]; simp
      rw [hg]; exact (pc k hkl).2.2
    have hlen : ((List.range l).map p).length = l := by simp
    unfold RQ
    rw [hlen]
    refine .inr ⟨a.block, a.off, a.spot, c, rfl, hl, hc, fun h0 => by subst h0; rfl, fun hpos => ?_⟩
    obtain ⟨b, off, spot⟩ := a
    have hspot : spot = none := by simpa [Addr.add] using World.cell?_spot (pc 0 hpos).1
    subst hspot
    refine ⟨rfl, by have := World.block_lt_of_cell? w _ (pc 0 hpos).1; simpa [Addr.add] using this, fun k hk => ?_⟩
    rw [flat2_len, hlen] at hk
    have hk2 : k / 2 < l := by omega
    obtain ⟨f1, f2⟩ := flat2 ((List.range l).map p) (k / 2) (by rw [hlen]; exact hk2)
    have hg : gq ((List.range l).map p) (k / 2) = p (k / 2) := by rw [gq_of (by rw [hlen]; exact hk2)]; simp
    rw [hg] at f1 f2
    obtain ⟨c1, c2, _⟩ := pc (k / 2) hk2
    rw [add_at] at c1 c2
    rcases Nat.mod_two_eq_zero_or_one k with e | e
    · have : k = k / 2 * 2 := by omega
      rw [this, f1]; exact c1
    · have : k = k / 2 * 2 + 1 := by omega
      rw [this, f2]; exact c2
theorem rq_of_trod {H : Type} {enc : TypeId × Value → H} {P : Program} {w : World} {T E fuel : Nat} {fs : Array Field} {v : Value} {x : DataW H × List MemPlace} (hT : P.underlying T = some (.slice E)) (hE : P.underlying E = some (.struct fs))
    (hone : oneCellFields P fs = true) (h2 : fs.size = 2) (hC : P.cellsOf E = fs.size) (hint : ∀ (j : Nat) (f : Field), fs[j]? = some f → P.underlying f.type = some (.int .i64))
    (h : DataW.trod enc P w 0 (fun _ => true) true fuel T [v] = some x) : ∃ ps, RQ w.heap.size w v ps := by
  obtain ⟨ps, h1, _⟩ := rqw_of_trod hT hE hone h2 hC hint h
  exact ⟨ps, h1⟩
theorem trod_arr {H : Type} {enc : TypeId × Value → H} {P : Program} {w : World} {base : Nat} {spare : Nat → Bool} {held : Bool} {t e m fuel : Nat} {cs : List Value} {x : DataW H × List MemPlace} (ht : P.underlying t = some (.array m e)) (h : DataW.trod enc P w base spare held fuel t cs = some x) :
    ∃ (xs : List (DataW H × List MemPlace)) (n : Nat), cs.length = P.cellsOf t ∧ xs.length = m ∧ ∀ i, i < m → DataW.trod enc P w base spare held n e ((cs.drop (i * P.cellsOf e)).take (P.cellsOf e)) = xs[i]? := by
  cases fuel with
  | zero => simp [DataW.trod] at h
  | succ n =>
    unfold DataW.trod at h
    rw [ht] at h
    split at h <;> simp_all
    obtain ⟨hl, xs, hp, hd⟩ := h
    exact ⟨xs, by simpa using mapM_some_length hp, n, fun i hi => mapM_some_get hp i i (by simp [hi])⟩
/-- An array of two one-cell elements, by value. -/
theorem open_array2 {H : Type} {enc : TypeId × Value → H} {P : Program} {w : World} {r : Reach} {b0 : Nat} {t e : TypeId} {v : Value} {d : DataW H} {p : List MemPlace} {base : Nat} {spare : Nat → Bool} {held : Bool} (hs : P.underlying t = some (.array 2 e)) (he : P.cellsOf e = 1) (hC : P.cellsOf t = 2)
    (hv : Value.okWide P w r b0 t v) (h : DataW.Trod enc P w base spare held t v d p) :
    ∃ (v0 v1 : Value) (y0 y1 : DataW H × List MemPlace) (n : Nat), v = .agg #[v0, v1] ∧ DataW.trod enc P w base spare held n e [v0] = some y0 ∧ DataW.trod enc P w base spare held n e [v1] = some y1 := by
  simp only [Value.okWide, hs] at hv
  obtain ⟨cs, rfl, hsz, _⟩ := hv
  obtain ⟨c0, c1, rfl⟩ := Go.Joins.array2 (hsz.trans hC)
  obtain ⟨fuel, hf⟩ := h
  obtain ⟨xs, n, hl, hx, hg⟩ := trod_arr hs hf
  match xs, hx with
  | [y0, y1], _ => exact ⟨c0, c1, y0, y1, n, rfl, by simpa [Value.cells, he] using hg 0 (by omega), by simpa [Value.cells, he] using hg 1 (by omega)⟩
end Go.Proofs.YtfphlpglgcmljaaGreat
namespace Go.Proofs.YtfphlpglgcmljaaGreat
open Go.Deep Go.ChangeShapes Go.WideShapes Go.ChangeAt Go.RowKit

theorem rk_of_trod {H : Type} {enc : TypeId × Value → H} {P : Program} {w : World} {T E fuel : Nat} {fs : Array Field} {v : Value} {x : DataW H × List MemPlace} (hT : P.underlying T = some (.slice E)) (hE : P.underlying E = some (.struct fs))
    (hone : oneCellFields P fs = true) (h2 : fs.size = 3) (hC : P.cellsOf E = fs.size) (hint : ∀ (j : Nat) (f : Field), fs[j]? = some f → P.underlying f.type = some (.int .i64))
    (h : DataW.trod enc P w 0 (fun _ => true) true fuel T [v] = some x) : ∃ ps, RK w.heap.size w v ps := by
  rcases rows_of_trod hT hE hone hC (by omega) hint h with rfl | ⟨a, l, c, rfl, hl, hc, hcell⟩
  · exact ⟨[], .inl ⟨rfl, rfl, rfl⟩⟩
  · rw [h2] at hcell
    have hp : ∀ i, ∃ p : Int × Int × Int, i < l → w.cell? (a.add (i * 3)) = some (.int .i64 p.1) ∧ w.cell? (a.add (i * 3 + 1)) = some (.int .i64 p.2.1) ∧ w.cell? (a.add (i * 3 + 2)) = some (.int .i64 p.2.2) := fun i => by
      by_cases hi : i < l
      · obtain ⟨n0, c0, _⟩ := hcell i hi 0 (by omega)
        obtain ⟨n1, c1, _⟩ := hcell i hi 1 (by omega)
        obtain ⟨n2, c2, _⟩ := hcell i hi 2 (by omega)
        exact ⟨(n0, n1, n2), fun _ => ⟨c0, c1, c2⟩⟩
      · exact ⟨(0, 0, 0), fun h => absurd h hi⟩
    let p := fun i => (hp i).choose
    have pc : ∀ i, i < l → w.cell? (a.add (i * 3)) = some (.int .i64 (p i).1) ∧ w.cell? (a.add (i * 3 + 1)) = some (.int .i64 (p i).2.1) ∧ w.cell? (a.add (i * 3 + 2)) = some (.int .i64 (p i).2.2) := fun i hi => (hp i).choose_spec hi
    refine ⟨(List.range l).map p, ?_⟩
    have hlen : ((List.range l).map p).length = l := by simp
    unfold RK
    rw [hlen]
    refine .inr ⟨a.block, a.off, a.spot, c, rfl, hl, hc, fun h0 => by subst h0; rfl, fun hpos => ?_⟩
    obtain ⟨b, off, spot⟩ := a
    have hspot : spot = none := by simpa [Addr.add] using World.cell?_spot (pc 0 hpos).1
    subst hspot
    refine ⟨rfl, by have := World.block_lt_of_cell? w _ (pc 0 hpos).1; simpa [Addr.add] using this, fun k hk => ?_⟩
    rw [flat3_len, hlen] at hk
    have hk2 : k / 3 < l := by omega
    obtain ⟨f1, f2, f3⟩ := flat3 ((List.range l).map p) (k / 3) (by rw [hlen]; exact hk2)
    have hg : gk ((List.range l).map p) (k / 3) = p (k / 3) := by rw [gk_of (by rw [hlen]; exact hk2)]; simp
    rw [hg] at f1 f2 f3
    obtain ⟨c1, c2, c3⟩ := pc (k / 3) hk2
    rw [add_at] at c1 c2 c3
    have h3 : k % 3 = 0 ∨ k % 3 = 1 ∨ k % 3 = 2 := by omega
    rcases h3 with e | e | e
    · have : k = k / 3 * 3 := by omega
      rw [this, f1]; exact c1
    · have : k = k / 3 * 3 + 1 := by omega
      rw [this, f2]; exact c2
    · have : k = k / 3 * 3 + 2 := by omega
      rw [this, f3]; exact c3
set_option maxRecDepth 100000 in
theorem constr_ints : ∀ (j : Nat) (f : Field), (match Tryz.prog.underlying 98 with | some (.struct fs) => fs | _ => #[])[j]? = some f → Tryz.prog.underlying f.type = some (.int .i64) := by
  intro j f h
  rw [Tryz.underlying98] at h
  match j, h with
  | 0, h => cases h; exact Tryz.underlying3
  | 1, h => cases h; exact Tryz.underlying3
  | 2, h => cases h; exact Tryz.underlying63
  | j + 3, h => simp at h
end Go.Proofs.YtfphlpglgcmljaaGreat
namespace Go.Proofs.YtfphlpglgcmljaaGreat
open Go.ChangeShapes Go.WideShapes Go.ChangeAt Go.RowKit Go.Deep
set_option linter.unusedVariables false

theorem rx_of_trod {α : Type} (c : Cd α) {H : Type} {enc : TypeId × Value → H} {P : Program} {w : World} {T E fuel : Nat} {v : Value} {x : DataW H × List MemPlace} (hT : P.underlying T = some (.slice E)) (hC : P.cellsOf E = c.sz) (hpos : 0 < c.sz)
    (hdec : ∀ (n : Nat) (cs : List Value) y, cs.length = c.sz → DataW.trod enc P w 0 (fun _ => true) true n E cs = some y → ∃ x, c.cells x = cs)
    (h : DataW.trod enc P w 0 (fun _ => true) true fuel T [v] = some x) : ∃ xs, RX c w.heap.size w v xs := by
  rcases open_slice hT h with ⟨hcs, _⟩ | ⟨a, len, cap, m, n, D, Pl, hcs, hb, hl, hm, hmm, hx, hi⟩
  · have hv : v = .slice none 0 0 := by simpa using hcs
    subst hv; exact ⟨[], RX.nil _ _ _⟩
  · obtain rfl : v = .slice (some a) len cap := by simpa using hcs
    have hp : ∀ i, ∃ p : α, i < len → ∀ j, j < c.sz → w.cell? (a.add (i * c.sz + j)) = (c.cells p)[j]? := fun i => by
      by_cases hil : i < len
      · obtain ⟨cs', hc, ht'⟩ := hi i (by rw [hmm]; simp; omega)
        rw [hC] at hc
        obtain ⟨_, hcl, hat⟩ := World.cells?_some hc
        obtain ⟨x, hx⟩ := hdec _ _ _ hcl ht'
        exact ⟨x, fun _ j hj => by rw [hx, ← Go.Deep.add_add]; exact hat j hj⟩
      · exact ⟨c.zero, fun h => absurd h hil⟩
    let p := fun i => (hp i).choose
    have pc : ∀ i, i < len → ∀ j, j < c.sz → w.cell? (a.add (i * c.sz + j)) = (c.cells (p i))[j]? := fun i hi => (hp i).choose_spec hi
    refine ⟨(List.range len).map p, ?_⟩
    have hlen : ((List.range len).map p).length = len := by simp
    unfold RX
    rw [hlen]
    refine .inr ⟨a.block, a.off, a.spot, cap, rfl, hl, hm, fun h0 => by subst h0; rfl, fun hpos' => ?_⟩
    obtain ⟨b, off, spot⟩ := a
    have c0 : w.cell? ((⟨b, off, spot⟩ : Addr).add (0 * c.sz + 0)) = some ((c.cells (p 0))[0]'(by rw [c.len]; exact hpos)) := by
      rw [pc 0 hpos' 0 hpos, List.getElem?_eq_getElem (by rw [c.len]; exact hpos)]
    have hspot : spot = none := by simpa [Addr.add] using World.cell?_spot c0
    subst hspot
    refine ⟨rfl, by have := World.block_lt_of_cell? w _ c0; simpa [Addr.add] using this, fun k hk => ?_⟩
    rw [flatE_len, hlen] at hk
    have hk2 : k / c.sz < len := Nat.div_lt_of_lt_mul (by rw [Nat.mul_comm]; exact hk)
    have hk3 : k % c.sz < c.sz := Nat.mod_lt _ hpos
    have hkk : k = k / c.sz * c.sz + k % c.sz := by rw [Nat.mul_comm]; exact (Nat.div_add_mod k c.sz).symm
    have hg : ge c ((List.range len).map p) (k / c.sz) = p (k / c.sz) := by rw [ge_of c (by rw [hlen]; exact hk2)]; simp
    have h1 := flatE c ((List.range len).map p) (k / c.sz) (k % c.sz) (by rw [hlen]; exact hk2) hk3
    rw [hg, ← pc _ hk2 _ hk3, add_at, ← hkk] at h1
    exact h1.symm
set_option maxRecDepth 100000 in
theorem con_dec {H : Type} {enc : TypeId × Value → H} {w : World} {n : Nat} {cs : List Value} {y : DataW H × List MemPlace} (hl : cs.length = cdCon.sz) (h : DataW.trod enc Tryz.prog w 0 (fun _ => true) true n 81 cs = some y) : ∃ x, cdCon.cells x = cs := by
  have k2 : Tryz.prog.cellsOf 3 = 1 := by kernel_rfl
  have k3 : Tryz.prog.cellsOf 2 = 1 := by kernel_rfl
  have k4 : Tryz.prog.cellsOf 4 = 1 := by kernel_rfl
  match cs, hl with
  | [c0, c1, c2, c3], _ =>
    obtain ⟨xs, n, _, hx, _, hlen, hg⟩ := DataW.trod_struct Tryz.underlying81 h
    match xs, hlen with
    | [y0, y1, y2, y3], _ =>
      have g0 := hg 0 _ rfl
      have g1 := hg 1 _ rfl
      have g2 := hg 2 _ rfl
      have g3 := hg 3 _ rfl
      simp [k2, k3, k4] at g0 g1 g2 g3
      obtain ⟨n0, e0, _, _⟩ := DataW.trod_int Tryz.underlying3 g0
      obtain ⟨b1, e1, _⟩ := DataW.trod_bool Tryz.underlying4 g1
      obtain ⟨b2, e2, _⟩ := DataW.trod_bool Tryz.underlying4 g2
      obtain ⟨n3, e3, _, _⟩ := DataW.trod_int Tryz.underlying2 g3
      obtain rfl : c0 = .int .i64 n0 := by simpa using e0
      obtain rfl : c1 = .bool b1 := by simpa using e1
      obtain rfl : c2 = .bool b2 := by simpa using e2
      obtain rfl : c3 = .int .i64 n3 := by simpa using e3
      exact ⟨⟨n0, b1, b2, n3⟩, rfl⟩
theorem rx_con {H : Type} {enc : TypeId × Value → H} {w : World} {fuel : Nat} {v : Value} {x : DataW H × List MemPlace}
    (h : DataW.trod enc Tryz.prog w 0 (fun _ => true) true fuel 36 [v] = some x) : ∃ xs, RX cdCon w.heap.size w v xs :=
  rx_of_trod cdCon Tryz.underlying36 (by kernel_rfl) (by decide) (fun n cs y hl h => con_dec hl h) h
set_option maxRecDepth 100000 in
theorem open_priced {H : Type} {enc : TypeId × Value → H} {w : World} {base : Nat} {spare : Nat → Bool} {held : Bool} {r : Reach} {b0 : Nat} {v : Value} {d : DataW H} {p : List MemPlace}
    (hv : Value.okWide Tryz.prog w r b0 35 v) (h : DataW.Trod enc Tryz.prog w base spare held 35 v d p) :
    ∃ (n c : Int) (vM vR : Value) (m1 m2 : Nat) (y1 y2 : DataW H × List MemPlace), v = .agg #[.int .i64 n, vM, .int .i64 c, vR] ∧
      DataW.trod enc Tryz.prog w base spare held m1 30 [vM] = some y1 ∧ DataW.trod enc Tryz.prog w base spare held m2 33 [vR] = some y2 := by
  obtain ⟨cs, rfl, hsz⟩ := okWide_struct Tryz.underlying35 hv
  have hC : Tryz.prog.cellsOf 35 = 4 := by kernel_rfl
  have k1 : Tryz.prog.cellsOf 32 = 2 := by kernel_rfl
  have k2 : Tryz.prog.cellsOf 3 = 1 := by kernel_rfl
  have k3 : Tryz.prog.cellsOf 2 = 1 := by kernel_rfl
  have k4 : Tryz.prog.cellsOf 33 = 1 := by kernel_rfl
  have k5 : Tryz.prog.cellsOf 30 = 1 := by kernel_rfl
  obtain ⟨l⟩ := cs
  match l, hsz.trans hC with
  | [c0, c1, c2, c3], _ =>
    obtain ⟨fuel, hf⟩ := h
    obtain ⟨xs, n, _, hx, _, hlen, hg⟩ := DataW.trod_struct Tryz.underlying35 hf
    match xs, hlen with
    | [y0, y1, y2], _ =>
      have g0 := hg 0 _ rfl
      have g1 := hg 1 _ rfl
      have g2 := hg 2 _ rfl
      simp [Value.cells, k1, k3, k4] at g0 g1 g2
      obtain ⟨zs, m, _, hz, _, hzl, hh⟩ := DataW.trod_struct Tryz.underlying32 g0
      match zs, hzl with
      | [u0, u1], _ =>
        have e0 := hh 0 _ rfl
        have e1 := hh 1 _ rfl
        simp [k2, k5] at e0 e1
        obtain ⟨nz, hnz, _, _⟩ := DataW.trod_int Tryz.underlying3 e0
        obtain ⟨nc, hnc, _, _⟩ := DataW.trod_int Tryz.underlying2 g1
        obtain rfl : c0 = .int .i64 nz := by simpa using hnz
        obtain rfl : c2 = .int .i64 nc := by simpa using hnc
        exact ⟨nz, nc, c1, c3, _, _, u1, y2, rfl, e1, g2⟩
end Go.Proofs.YtfphlpglgcmljaaGreat
