/- From a row's reading to what the walks are told: a flat, its locations and edges. -/
import Derived.Test.YtfphlpglgcmljaaGreatFrame7
import Derived.Test.YtfphlpglgcmljaaGreatHof
namespace Go.Proofs.YtfphlpglgcmljaaGreat
open Go.ChangeShapes Go.WideShapes Go.ChangeAt Go.RowKit Go.Deep
set_option linter.unusedVariables false

open Classical in
/-- As rx_of_trod, with a fact of each element. -/
theorem rxg_of_trod {α : Type} (c : Cd α) (G : α → Prop) {H : Type} {enc : TypeId × Value → H} {P : Program} {w : World} {T E fuel : Nat} {v : Value} {x : DataW H × List MemPlace} (hT : P.underlying T = some (.slice E)) (hC : P.cellsOf E = c.sz) (hpos : 0 < c.sz)
    (hdec : ∀ (n : Nat) (cs : List Value) y, cs.length = c.sz → DataW.trod enc P w 0 (fun _ => true) true n E cs = some y → ∃ x, G x ∧ c.cells x = cs)
    (h : DataW.trod enc P w 0 (fun _ => true) true fuel T [v] = some x) : ∃ xs, RX c w.heap.size w v xs ∧ ∀ x, x ∈ xs → G x := by
  let d : Cd {x : α // G x ∨ ∀ y, ¬ G y} := ⟨c.sz, fun x => c.cells x.1, fun x => c.len x.1, if h : ∃ y, G y then ⟨h.choose, .inl h.choose_spec⟩ else ⟨c.zero, .inr fun y hy => h ⟨y, hy⟩⟩⟩
  obtain ⟨xs, hx⟩ := rx_of_trod d hT hC hpos (fun n cs y hl h => by
    obtain ⟨x, hG, hx⟩ := hdec n cs y hl h
    exact ⟨⟨x, .inl hG⟩, hx⟩) h
  by_cases hall : ∀ y, y ∈ xs → G y.1
  · refine ⟨xs.map Subtype.val, ?_, fun x hx => ?_⟩
    · unfold RX at hx ⊢
      rw [List.length_map, List.flatMap_map]
      exact hx
    · obtain ⟨y, hy, rfl⟩ := List.mem_map.1 hx
      exact hall y hy
  · exfalso
    obtain ⟨y, hy⟩ : ∃ y, ¬ (y ∈ xs → G y.1) := Classical.not_forall.1 hall
    obtain ⟨hm, hn⟩ : y ∈ xs ∧ ¬ G y.1 := by
      by_cases hm : y ∈ xs
      · exact ⟨hm, fun hg => hy (fun _ => hg)⟩
      · exact absurd (fun h => absurd h hm) hy
    have hno : ∀ z, ¬ G z := y.2.resolve_left hn
    have hpx : 0 < xs.length := List.length_pos_of_mem hm
    rcases open_slice hT h with ⟨hcs, _⟩ | ⟨a, len, cap, m, n, D, Pl, hcs, hb, hl, hm', hmm, hxx, hi⟩
    · have hv : v = .slice none 0 0 := by simpa using hcs
      obtain ⟨ao, cap, e, _, h0⟩ := hx.open
      rw [hv] at e
      injection e with e1 e2 e3
      omega
    · have hv : v = .slice (some a) len cap := by simpa using hcs
      obtain ⟨ao, cap', e, _, h0⟩ := hx.open
      rw [hv] at e
      injection e with e1 e2 e3
      obtain ⟨cs', hc, ht'⟩ := hi 0 (by rw [hmm]; simp; omega)
      rw [hC] at hc
      obtain ⟨_, hcl, hat⟩ := World.cells?_some hc
      obtain ⟨z, hz, _⟩ := hdec _ _ _ hcl ht'
      exact hno z hz
set_option maxRecDepth 100000 in
theorem res_dec {H : Type} {enc : TypeId × Value → H} {w : World} {n : Nat} {cs : List Value} {y : DataW H × List MemPlace} (hl : cs.length = cdRes.sz) (h : DataW.trod enc Tryz.prog w 0 (fun _ => true) true n 48 cs = some y) : ∃ x : Int × Int, cdRes.cells x = cs := by
  have k3 : Tryz.prog.cellsOf 2 = 1 := by kernel_rfl
  have k2 : Tryz.prog.cellsOf 3 = 1 := by kernel_rfl
  match cs, hl with
  | [c0, c1], _ =>
    obtain ⟨xs, n, _, hx, _, hlen, hg⟩ := DataW.trod_struct Tryz.underlying48 h
    match xs, hlen with
    | [y0, y1], _ =>
      have g0 := hg 0 _ rfl
      have g1 := hg 1 _ rfl
      simp [k3, k2] at g0 g1
      obtain ⟨n0, e0, _, _⟩ := DataW.trod_int Tryz.underlying3 g0
      obtain rfl : c0 = .int .i64 n0 := by simpa using e0
      obtain ⟨n1, e1, _, _⟩ := DataW.trod_int Tryz.underlying2 g1
      obtain rfl : c1 = .int .i64 n1 := by simpa using e1
      exact ⟨(n0, n1), rfl⟩
theorem rx_res {H : Type} {enc : TypeId × Value → H} {w : World} {fuel : Nat} {v : Value} {x : DataW H × List MemPlace}
    (h : DataW.trod enc Tryz.prog w 0 (fun _ => true) true fuel 74 [v] = some x) : ∃ xs, RX cdRes w.heap.size w v xs :=
  rx_of_trod cdRes Tryz.underlying74 (by kernel_rfl) (by decide) (fun n cs y hl h => res_dec hl h) h
set_option maxRecDepth 100000 in
theorem loc_dec {H : Type} {enc : TypeId × Value → H} {w : World} {n : Nat} {cs : List Value} {y : DataW H × List MemPlace} (hl : cs.length = cdLoc.sz) (h : DataW.trod enc Tryz.prog w 0 (fun _ => true) true n 73 cs = some y) : ∃ x : Fl, RX cdCon w.heap.size w x.v x.cs ∧ cdLoc.cells x = cs := by
  have k3 : Tryz.prog.cellsOf 2 = 1 := by kernel_rfl
  have k4 : Tryz.prog.cellsOf 4 = 1 := by kernel_rfl
  have k5 : Tryz.prog.cellsOf 36 = 1 := by kernel_rfl
  match cs, hl with
  | [c0, c1, c2], _ =>
    obtain ⟨xs, n, _, hx, _, hlen, hg⟩ := DataW.trod_struct Tryz.underlying73 h
    match xs, hlen with
    | [y0, y1, y2], _ =>
      have g0 := hg 0 _ rfl
      have g1 := hg 1 _ rfl
      have g2 := hg 2 _ rfl
      simp [k3, k4, k5] at g0 g1 g2
      obtain ⟨n0, h0⟩ := rx_con g0
      obtain ⟨n1, e1, _⟩ := DataW.trod_bool Tryz.underlying4 g1
      obtain rfl : c1 = .bool n1 := by simpa using e1
      obtain ⟨n2, e2, _, _⟩ := DataW.trod_int Tryz.underlying2 g2
      obtain rfl : c2 = .int .i64 n2 := by simpa using e2
      exact ⟨⟨c0, n0, n1, n2⟩, h0, rfl⟩
set_option maxRecDepth 100000 in
theorem edg_dec {H : Type} {enc : TypeId × Value → H} {w : World} {n : Nat} {cs : List Value} {y : DataW H × List MemPlace} (hl : cs.length = cdEdg.sz) (h : DataW.trod enc Tryz.prog w 0 (fun _ => true) true n 76 cs = some y) : ∃ x : Fe, (RX cdCon w.heap.size w x.gv x.gs ∧ RX cdRes w.heap.size w x.rv x.rs) ∧ cdEdg.cells x = cs := by
  have k3 : Tryz.prog.cellsOf 2 = 1 := by kernel_rfl
  have k2 : Tryz.prog.cellsOf 3 = 1 := by kernel_rfl
  have k5 : Tryz.prog.cellsOf 36 = 1 := by kernel_rfl
  have k6 : Tryz.prog.cellsOf 74 = 1 := by kernel_rfl
  match cs, hl with
  | [c0, c1, c2, c3, c4, c5, c6], _ =>
    obtain ⟨xs, n, _, hx, _, hlen, hg⟩ := DataW.trod_struct Tryz.underlying76 h
    match xs, hlen with
    | [y0, y1, y2, y3, y4, y5, y6], _ =>
      have g0 := hg 0 _ rfl
      have g1 := hg 1 _ rfl
      have g2 := hg 2 _ rfl
      have g3 := hg 3 _ rfl
      have g4 := hg 4 _ rfl
      have g5 := hg 5 _ rfl
      have g6 := hg 6 _ rfl
      simp [k3, k2, k5, k6] at g0 g1 g2 g3 g4 g5 g6
      obtain ⟨n0, e0, _, _⟩ := DataW.trod_int Tryz.underlying3 g0
      obtain rfl : c0 = .int .i64 n0 := by simpa using e0
      obtain ⟨n1, e1, _, _⟩ := DataW.trod_int Tryz.underlying3 g1
      obtain rfl : c1 = .int .i64 n1 := by simpa using e1
      obtain ⟨n2, h2⟩ := rx_con g2
      obtain ⟨n3, h3⟩ := rx_res g3
      obtain ⟨n4, e4, _, _⟩ := DataW.trod_int Tryz.underlying3 g4
      obtain rfl : c4 = .int .i64 n4 := by simpa using e4
      obtain ⟨n5, e5, _, _⟩ := DataW.trod_int Tryz.underlying3 g5
      obtain rfl : c5 = .int .i64 n5 := by simpa using e5
      obtain ⟨n6, e6, _, _⟩ := DataW.trod_int Tryz.underlying2 g6
      obtain rfl : c6 = .int .i64 n6 := by simpa using e6
      exact ⟨⟨n0, n1, c2, n2, c3, n3, n4, n5, n6⟩, ⟨h2, h3⟩, rfl⟩
theorem locs_of {H : Type} {enc : TypeId × Value → H} {w : World} {fuel : Nat} {v : Value} {x : DataW H × List MemPlace}
    (h : DataW.trod enc Tryz.prog w 0 (fun _ => true) true fuel 22 [v] = some x) : ∃ xs, LocsR w v xs :=
  rxg_of_trod cdLoc (fun x => RX cdCon w.heap.size w x.v x.cs) Tryz.underlying22 (by kernel_rfl) (by decide) (fun n cs y hl h => loc_dec hl h) h
theorem edgs_of {H : Type} {enc : TypeId × Value → H} {w : World} {fuel : Nat} {v : Value} {x : DataW H × List MemPlace}
    (h : DataW.trod enc Tryz.prog w 0 (fun _ => true) true fuel 23 [v] = some x) : ∃ xs, EdgsR w v xs :=
  rxg_of_trod cdEdg (fun x => RX cdCon w.heap.size w x.gv x.gs ∧ RX cdRes w.heap.size w x.rv x.rs) Tryz.underlying23 (by kernel_rfl) (by decide) (fun n cs y hl h => edg_dec hl h) h
set_option maxRecDepth 100000 in
theorem open_flat {H : Type} {enc : TypeId × Value → H} {w : World} {r : Reach} {b0 : Nat} {v : Value} {d : DataW H} {p : List MemPlace}
    (hv : Value.okWide Tryz.prog w r b0 25 v) (h : DataW.Trod enc Tryz.prog w 0 (fun _ => true) true 25 v d p) :
    ∃ (n i : Int) (vL vE : Value) (ls : List Fl) (es : List Fe), v = .agg #[.int .i64 n, .int .i64 i, vL, vE] ∧ LocsR w vL ls ∧ EdgsR w vE es := by
  obtain ⟨cs, rfl, hsz⟩ := okWide_struct Tryz.underlying25 hv
  have hC : Tryz.prog.cellsOf 25 = 4 := by kernel_rfl
  have k2 : Tryz.prog.cellsOf 3 = 1 := by kernel_rfl
  have k4 : Tryz.prog.cellsOf 22 = 1 := by kernel_rfl
  have k5 : Tryz.prog.cellsOf 23 = 1 := by kernel_rfl
  obtain ⟨l⟩ := cs
  match l, hsz.trans hC with
  | [c0, c1, c2, c3], _ =>
    obtain ⟨fuel, hf⟩ := h
    obtain ⟨xs, n, _, hx, _, hlen, hg⟩ := DataW.trod_struct Tryz.underlying25 hf
    match xs, hlen with
    | [y0, y1, y2, y3], _ =>
      have g0 := hg 0 _ rfl
      have g1 := hg 1 _ rfl
      have g2 := hg 2 _ rfl
      have g3 := hg 3 _ rfl
      simp [Value.cells, k2, k4, k5] at g0 g1 g2 g3
      obtain ⟨n0, e0, _, _⟩ := DataW.trod_int Tryz.underlying3 g0
      obtain ⟨n1, e1, _, _⟩ := DataW.trod_int Tryz.underlying3 g1
      obtain rfl : c0 = .int .i64 n0 := by simpa using e0
      obtain rfl : c1 = .int .i64 n1 := by simpa using e1
      obtain ⟨ls, hl⟩ := locs_of g2
      obtain ⟨es, he⟩ := edgs_of g3
      exact ⟨n0, n1, c2, c3, ls, es, rfl, hl, he⟩
end Go.Proofs.YtfphlpglgcmljaaGreat
