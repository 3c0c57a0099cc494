/- Part of the proof of priced_clears_proved: Pdd. -/
import Derived.Laws.EntriesVeiled
import Derived.Shelf.Abstract
import Derived.Deep.RegionHeld3
import Derived.Test.YtfphlpglgcmljaaGreatXcPap
import Derived.Test.YtfphlpglgcmljaaGreatXcPcu
import Derived.Test.YtfphlpglgcmljaaGreatXcUpz
namespace Go.Proofs.YtfphlpglgcmljaaGreat
open Go.RowKit
set_option linter.unusedVariables false
structure Pz where
 n : Int
 zv : Value
 xs : List Int
 c : Int
 rv : Value
 rs : List Int
def cdPz : Cd Pz := ⟨4, fun x => [.int .i64 x.n, x.zv, .int .i64 x.c, x.rv], fun _ => rfl, ⟨0, .slice none 0 0, [], 0, .slice none 0 0, []⟩⟩
def pvOf (x : Pz) : Pv := ⟨x.n, x.xs, x.c, x.rs⟩
def LZ (w : World) (els : List Pz) : Prop := ∀ x, x ∈ els → OL 63 0 w x.zv x.xs ∧ OL 2 0 w x.rv x.rs
theorem own_apart {w : World} {b1 b2 e1 e2 s1 s2 n1 n2 : Nat} {v1 v2 : Value} {l1 l2 : List Value} (h1 : w.ownsRow b1 e1 s1 v1 n1 l1) (h2 : w.ownsRow b2 e2 s2 v2 n2 l2) (hne : e1 ≠ e2) : v1.ownBlock = none ∨ v1.ownBlock ≠ v2.ownBlock := by
 rcases h1.2 with ⟨rfl, _⟩ | ⟨g, cap, cur, rfl, _, hg, _⟩
 ·exact .inl rfl
 ·rcases h2.2 with ⟨rfl, _⟩ | ⟨g2, cap2, cur2, rfl, _, hg2, _⟩
  ·exact .inr (by simp [Value.ownBlock])
  ·refine .inr (fun e => ?_)
   have e' : some g = some g2 := e
   injection e' with e'
   subst e'
   rw [hg] at hg2
   injection hg2 with hg2
   injection hg2 with _ hg3
   exact hne hg3
theorem LZ.grown {w w' : World} {els : List Pz} {base : Nat} {v : Value} {n : Nat} {l : List Value} (h : LZ w els) (ho : w.ownsRow base 35 4 v n l) (hg : w.grownBy w' v.ownBlock) : LZ w' els := fun x hx =>
 ⟨OL.kept (h x hx).1 hg (own_apart (h x hx).1 ho (by decide)), OL.kept (h x hx).2 hg (own_apart (h x hx).2 ho (by decide))⟩
theorem LZ.keepb {w w' : World} {els : List Pz} (h : LZ w els) (hb : Below w.heap.size w w') : LZ w' els := fun x hx => ⟨OL.keepb (h x hx).1 hb, OL.keepb (h x hx).2 hb⟩
theorem LZ.nil (w : World) : LZ w [] := fun x hx => by cases hx
theorem LZ.snoc {w : World} {els : List Pz} {x : Pz} (h : LZ w els) (h1 : OL 63 0 w x.zv x.xs) (h2 : OL 2 0 w x.rv x.rs) : LZ w (els ++ [x]) := fun y hy => by
 rcases List.mem_append.1 hy with h3 | h3
 ·exact h y h3
 ·have := List.mem_singleton.1 h3
  subst this; exact ⟨h1, h2⟩
def gaTo (G : Nat → Pv × Int) (first : Nat) : Nat → List Pv × Int
 | 0 => ([], 0)
 | k + 1 => if (gaTo G first k).2 = 0 then (if k < first then gaTo G first k else if (G k).2 = 0 then ((gaTo G first k).1 ++ [(G k).1], 0) else if (G k).2 = 4 then gaTo G first k else ([], (G k).2)) else gaTo G first k
theorem gaTo_less {G : Nat → Pv × Int} {first k : Nat} {l : List Pv} (h : gaTo G first k = (l, 0)) (hk : k < first) : gaTo G first (k + 1) = (l, 0) := by
 show (if (gaTo G first k).2 = 0 then _ else _) = _
 rw [h, if_pos rfl, if_pos hk]
theorem gaTo_one {G : Nat → Pv × Int} {first k : Nat} {l : List Pv} {x : Pv} (h : gaTo G first k = (l, 0)) (hk : ¬ k < first) (hG : G k = (x, 0)) : gaTo G first (k + 1) = (l ++ [x], 0) := by
 show (if (gaTo G first k).2 = 0 then _ else _) = _
 rw [h, if_pos rfl, if_neg hk, hG, if_pos rfl]
theorem gaTo_none {G : Nat → Pv × Int} {first k : Nat} {l : List Pv} {x : Pv} (h : gaTo G first k = (l, 0)) (hk : ¬ k < first) (hG : G k = (x, 4)) : gaTo G first (k + 1) = (l, 0) := by
 show (if (gaTo G first k).2 = 0 then _ else _) = _
 rw [h, if_pos rfl, if_neg hk, hG, if_neg (show ¬ (4 : Int) = 0 by decide), if_pos rfl]
theorem gaTo_bad {G : Nat → Pv × Int} {first k : Nat} {l : List Pv} {x : Pv} {e : Int} (h : gaTo G first k = (l, 0)) (hk : ¬ k < first) (hG : G k = (x, e)) (h0 : e ≠ 0) (h4 : e ≠ 4) : gaTo G first (k + 1) = ([], e) := by
 show (if (gaTo G first k).2 = 0 then _ else _) = _
 rw [h, if_pos rfl, if_neg hk, hG, if_neg h0, if_neg h4]
theorem gaTo_stuck {G : Nat → Pv × Int} {first k : Nat} (h : (gaTo G first k).2 ≠ 0) : ∀ j, gaTo G first (k + j) = gaTo G first k
 | 0 => rfl
 | j + 1 => by
  show (if (gaTo G first (k + j)).2 = 0 then _ else gaTo G first (k + j)) = _
  rw [gaTo_stuck h j, if_neg h]
def gaF (pre : List Pv) (G : Nat → Pv × Int) (first N : Nat) : List Pv × Int := if (gaTo G first (N + 1)).2 = 0 then (pre ++ (gaTo G first (N + 1)).1, 0) else ([], (gaTo G first (N + 1)).2)
theorem gaF_err {pre : List Pv} {G : Nat → Pv × Int} {first N k : Nat} {l : List Pv} {e : Int} (hk : k ≤ N + 1) (h : gaTo G first k = (l, e)) (he : e ≠ 0) : gaF pre G first N = ([], e) := by
 have hs := gaTo_stuck (G := G) (first := first) (k := k) (by rw [h]; exact he) (N + 1 - k)
 rw [Nat.add_sub_cancel' hk, h] at hs
 unfold gaF
 rw [hs, if_neg he]
theorem gaF_ok {pre : List Pv} {G : Nat → Pv × Int} {first N : Nat} {l : List Pv} (h : gaTo G first (N + 1) = (l, 0)) : gaF pre G first N = (pre ++ l, 0) := by
 unfold gaF; rw [h, if_pos rfl]
theorem Tryz.undPz : Tryz.prog.underlying 41 = some (.slice 35) := by kernel_rfl
theorem Tryz.infoPz : (Tryz.prog.info? 35).map (fun i => (i.zero, i.size, i.bytes)) = some (some (.agg #[.int .i64 0, .slice none 0 0, .int .i64 0, .slice none 0 0]), 4, 64) := by kernel_rfl
theorem append_blk {P : Program} {w : World} {base : Nat} {t ty e : TypeId} {i : TypeInfo} {z : Value} {size bytes : Nat} (ht : P.underlying t = some (.slice e)) (hi : P.info? e = some i) (hz : i.zero = some z)
  (hsize : i.size = size) (hby : i.bytes = bytes) (hzs : z.cells.size = size) (hsz : 0 < size)
  {v : Value} {n : Nat} {xs : List Value} (hown : w.ownsRow base e size v n xs)
  {a : Addr} {m c : Nat} {news : List Value} (hl : news.length = m * size) (hnews : ∀ j u, news[j]? = some u → w.cell? (a.add j) = some u) (h1 : ∀ u ∈ news, u.oneCell' = true)
  (h63 : n + m ≤ maxLen) (hbytes : (n + m) * bytes ≤ 140737488355328) {v' : Value} {w' : World} (hr : (Builtin.append_ #[t, t] ty #[v, .slice (some a) m c]).run P w = .ok v' w') :
  v'.ownBlock = v.ownBlock ∨ ∃ g, v'.ownBlock = some g ∧ w.heap.size ≤ g := by
 rcases hown.2 with ⟨rfl, rfl⟩ | ⟨g, cap, cur, rfl, hbg, hg, hnc, hcm, hcs, htake⟩
 ·have hx : xs = [] := List.eq_nil_of_length_eq_zero (by simpa using hown.1)
  subst hx
  obtain ⟨v2, w2, hr2, h2, _, _⟩ := run_append_own (P := P) w w.heap.size t ty e i z size bytes ht hi hz hsize hby hzs hsz (.slice none 0 0) 0 [] (World.ownsRow_nil w w.heap.size e size) a m c news hl hnews h1 h63 hbytes (Nat.le_refl _)
  rw [hr] at hr2
  injection hr2 with e1 e2
  subst e1 e2
  rcases h2.2 with ⟨rfl, _⟩ | ⟨g, cap, cur, rfl, hb, _⟩
  ·exact .inl rfl
  ·exact .inr ⟨g, rfl, hb⟩
 ·subst hsize hby
  by_cases hroom : n + m ≤ cap
  ·have hfit : n * i.size + news.length ≤ cur.size := by rw [hl, hcs, ← Nat.add_mul]; exact Nat.mul_le_mul_right _ hroom
   have hr2 := run_append_room (P := P) w t ty e i ht hi g n cap cur hg a m c news hl hnews h1 hroom hfit
   rw [hr] at hr2
   injection hr2 with e1 e2
   subst e1
   exact .inl rfl
  ·have holds : ∀ j u, xs[j]? = some u → w.cell? ((⟨g, 0, none⟩ : Addr).add j) = some u := hown.cells (g := g) rfl
   have hr2 := run_append_grow (P := P) w t ty e i z ht hi hz ⟨g, 0, none⟩ n cap xs hown.1 holds a m c news hl hnews (by omega) (by simp only [maxLen] at h63; omega) (growslice_fits (by omega) hbytes)
   rw [hr] at hr2
   injection hr2 with e1 e2
   subst e1
   exact .inr ⟨_, rfl, Nat.le_refl _⟩
theorem wp_append_blk {P : Program} {o : Oper} {a : Act} {w : World} {K : Act → World → Prop} {Q : Exit → Act → World → Prop}
    (s x : Operand) (t : TypeId) (ho : o.op = Op.call { callee := Callee.builtin Builtin.append, args := #[s, x], argTypes := #[t, t] })
    (base : Nat) (e : TypeId) (i : TypeInfo) (z : Value) (size bytes : Nat) (ht : P.underlying t = some (.slice e)) (hi : P.info? e = some i) (hz : i.zero = some z)
    (hsize : i.size = size) (hby : i.bytes = bytes) (hzs : z.cells.size = size) (hsz : 0 < size)
    (v : Value) (n : Nat) (xs : List Value) (hs : a.eval s = v) (hown : w.ownsRow base e size v n xs)
    (ad : Addr) (m c : Nat) (news : List Value) (hx : a.eval x = .slice (some ad) m c) (hl : news.length = m * size) (hnews : ∀ j u, news[j]? = some u → w.cell? (ad.add j) = some u) (h1 : ∀ u ∈ news, u.oneCell' = true)
    (h63 : n + m ≤ maxLen) (hbytes : (n + m) * bytes ≤ 140737488355328) (hbase : base ≤ w.heap.size)
    (h : ∀ v' w', w'.ownsRow base e size v' (n + m) (xs ++ news) → w.grownBy w' v.ownBlock → (v'.ownBlock = v.ownBlock ∨ ∃ g, v'.ownBlock = some g ∧ w.heap.size ≤ g) → K (a.put o.dst v') w') : Oper.wp P o a w K Q := by
  obtain ⟨v', w', hr, h2, h3, h4⟩ := run_append_own (P := P) w base t o.type e i z size bytes ht hi hz hsize hby hzs hsz v n xs hown ad m c news hl hnews h1 h63 hbytes hbase
  have h5 := append_blk ht hi hz hsize hby hzs hsz hown hl hnews h1 h63 hbytes hr
  unfold Oper.wp execOp
  simp only [ho, resolve, invoke, builtin, Sem.run_bind, Sem.run_pure, Result.andThen_ok, List.map_toArray, List.map_cons, List.map_nil, hs, hx, hr]
  exact h v' w' h2 h3 h5
theorem wpList_append_pz {P : Program} {ops : Array Oper} {rest : List Oper} {o : Oper} {a : Act} {w : World} {Q : Exit → Act → World → Prop}
    (hg : o.guard = none) (s x : Operand) (t : TypeId) (ho : o.op = Op.call { callee := Callee.builtin Builtin.append, args := #[s, x], argTypes := #[t, t] })
    (e : TypeId) (ht : P.underlying t = some (.slice e)) (hi : (P.info? e).map (fun i => (i.zero, i.size, i.bytes)) = some (some (.agg #[.int .i64 0, .slice none 0 0, .int .i64 0, .slice none 0 0]), 4, 64))
    (base : Nat) (v : Value) (hs : a.eval s = v) (els : List Pz) (hown : OE cdPz e base w v els) (hbase : base ≤ w.heap.size)
    (xv : Value) (hx : a.eval x = xv) (l : Pz) (hl1 : l.zv.oneCell' = true) (hl2 : l.rv.oneCell' = true) (B : Nat) (hr : RS B w xv 1 (cdPz.cells l)) (hl : els.length ≤ 100000)
    (h : ∀ v' w', OE cdPz e base w' v' (els ++ [l]) → w.grownBy w' v.ownBlock → (v'.ownBlock = v.ownBlock ∨ ∃ g, v'.ownBlock = some g ∧ w.heap.size ≤ g) → wpList P ops Q rest (a.put o.dst v') w') : wpList P ops Q (o :: rest) a w := by
  obtain ⟨i0, hi0, hz0, hz1, hz2⟩ := info_parts hi
  rcases hr.head with ⟨_, h0, _⟩ | ⟨ad, cap, hv, hc⟩
  · cases h0
  · refine wpList_plain hg fun _ hK => wp_append_blk s x t ho base e i0 _ 4 64 ht hi0 hz0 hz1 hz2 (by decide) (by decide) v els.length (els.flatMap cdPz.cells) hs hown ad 1 cap (cdPz.cells l) (hx.trans hv) rfl hc ?_ (by unfold maxLen; omega) (by omega) hbase ?_
    · intro u hu
      simp only [cdPz, List.mem_cons, List.not_mem_nil, or_false] at hu
      rcases hu with rfl | rfl | rfl | rfl
      · rfl
      · exact hl1
      · rfl
      · exact hl2
    · intro v' w' h1 h2 h3
      refine hK _ _ (h v' w' ?_ h2 h3)
      unfold OE
      rw [List.length_append, List.flatMap_append, show [l].flatMap cdPz.cells = cdPz.cells l from by simp]
      exact h1
set_option linter.unusedVariables false
def MkP (fv : Value) (w : World) (row : Option Nat) (first N : Nat) (G : Nat → Pv × Int) : Prop :=
 ∃ f cap, fv = .func (.func f) #[] cap ∧ (∀ (args : Array Value) (w : World), (callFunc f args).run Tryz.prog w = .ok (.enter f args) w) ∧
  ∀ k : Nat, first ≤ k → k ≤ N → ∀ X, w.grownBy X row → Calls Tryz.prog f (#[.int .i64 k] ++ cap) X fun e w' => PO X.heap.size (G k) e w' ∧ Below X.heap.size X w'
def GaI (w wr : World) (base : Nat) (out u : Value) (pre : List Pz) (G : Nat → Pv × Int) (first k : Nat) : Prop :=
 ∃ (els : List Pz) (l : List Pv), gaTo G first k = (l, 0) ∧ OE cdPz 35 base wr u els ∧ LZ wr els ∧ els.map pvOf = pre.map pvOf ++ l ∧ els.length ≤ pre.length + k ∧ w.grownBy wr out.ownBlock ∧ (u.ownBlock = none ∨ u.ownBlock = out.ownBlock ∨ ∃ g, u.ownBlock = some g ∧ w.heap.size ≤ g)
theorem rs_litz {w : World} {arr : Array Value} {e : Nat} {cs : List Value} (h : arr.toList = cs) : RS (w.heap.size + 1) (w.alloc (.cells arr e)) (.slice (some ⟨w.heap.size, 0, none⟩) 1 1) 1 cs := by
 refine .inr ⟨_, 0, none, _, rfl, Nat.le_refl _, by unfold maxLen; omega, (fun h => absurd h (by decide)), fun _ => ⟨rfl, by simp, fun k hk => ?_⟩⟩
 rw [Nat.zero_add]
 refine (cell_of_row (w.alloc (.cells arr e)) _ k arr e (0, 0) (heap_alloc_new w _)).trans ?_
 rw [← h, Array.getElem?_toList]
theorem gr_row {w X w' : World} {row b : Option Nat} (h1 : w.grownBy X row) (h2 : X.grownBy w' b) (hb : b = none ∨ b = row ∨ ∃ g, b = some g ∧ w.heap.size ≤ g) : w.grownBy w' row :=
 ⟨h2.os.trans h1.os, h2.tape.trans h1.tape, h2.output.trans h1.output, Nat.le_trans h1.size h2.size, fun i hi hne => (h2.block i (Nat.lt_of_lt_of_le hi h1.size) (by
  rcases hb with rfl | rfl | ⟨g, rfl, hg⟩
  ·simp
  ·exact hne
  ·simp; omega)).trans (h1.block i hi hne)⟩
theorem ob_next {w X : World} {row b b' : Option Nat} (h1 : w.grownBy X row) (hb : b = none ∨ b = row ∨ ∃ g, b = some g ∧ w.heap.size ≤ g) (hk : b' = b ∨ ∃ g, b' = some g ∧ X.heap.size ≤ g) : b' = none ∨ b' = row ∨ ∃ g, b' = some g ∧ w.heap.size ≤ g := by
 rcases hk with rfl | ⟨g, rfl, hg⟩
 ·exact hb
 ·exact .inr (.inr ⟨g, rfl, Nat.le_trans h1.size hg⟩)
def GaP (base : Nat) (r : List Pv × Int) (e : Ending) (w' : World) : Prop := ∃ v' els, e = .returned (.tuple #[v', .int .i64 r.2]) ∧ OE cdPz 35 base w' v' els ∧ LZ w' els ∧ els.map pvOf = r.1
theorem GaP.err {base : Nat} {r : List Pv × Int} {x : Int} (h : r = ([], x)) (w' : World) : GaP base r (.returned (.tuple #[.slice none 0 0, .int .i64 x])) w' := by
 subst h; exact ⟨_, [], rfl, OE.nil _ _ _ _, LZ.nil _, rfl⟩
theorem GaP.ok {base : Nat} {r : List Pv × Int} {l : List Pv} {els : List Pz} {v' : Value} {w' : World} (h : r = (l, 0)) (h2 : OE cdPz 35 base w' v' els) (h3 : LZ w' els) (h4 : els.map pvOf = l) : GaP base r (.returned (.tuple #[v', .int .i64 0])) w' := by
 subst h; exact ⟨_, els, rfl, h2, h3, h4⟩
set_option maxRecDepth 100000 in
set_option maxHeartbeats 4000000 in
theorem prog_gather (N first : Nat) (out fv : Value) (pre : List Pz) (G : Nat → Pv × Int) (base : Nat) (w : World) (hbase : base ≤ w.heap.size) (ho : OE cdPz 35 base w out pre) (hz : LZ w pre) (hN : N ≤ 10) (hpre : pre.length ≤ 1000)
  (hm : MkP fv w out.ownBlock first N G) :
  Calls Tryz.prog 56 #[.int .i64 N, .int .i64 first, out, fv] w fun e w' => GaP base (gaF (pre.map pvOf) G first N) e w' ∧ w.grownBy w' out.ownBlock := by
 obtain ⟨f, cap, rfl, hent, hF⟩ := hm
 have HF := Lib.hid hF
 have h0 := Lib.hid (show GaI w w base out out pre G first 0 from ⟨pre, [], rfl, ho, hz, by simp, by omega, ⟨rfl, rfl, rfl, Nat.le_refl _, fun _ _ _ => rfl⟩, .inr (.inl rfl)⟩)
 clear hF ho hz
 go_enter Tryz.func56, Tryz.ntmps56
 go_wp2_with fail
 go_loopw [15, 2] (fun i u wr => ∃ k : Nat, k ≤ N + 1 ∧ i = .int .i64 k ∧ GaI w wr base out u pre G first k) (fun i _ _ => N + 1 - (intOf i).toNat)
 case atStart => exact ⟨0, Nat.zero_le _, rfl, h0.out⟩
 case round =>
  clear h0
  obtain ⟨k, hk, rfl, hga⟩ := hrel
  have HGA := Lib.hid hga
  clear hga
  by_cases hlt : k < N + 1
  ·by_cases hf : k < first
   ·have hfb : decide ((k : Int) < (first : Int)) = true := by simp; omega
    have HQ := Lib.hid (show GaI w wr base out _ pre G first (k + 1) from by
     obtain ⟨els, l, h1, h2, h3, h4, h5, h6, h7⟩ := HGA.out
     exact ⟨els, l, gaTo_less h1 hf, h2, h3, h4, by omega, h6, h7⟩)
    go_wp2_with fail
    go_roundw
    case rel => exact ⟨k + 1, by omega, by go_num, HQ.out⟩
    case measure => simp [intOf]; omega
   ·have hfb : decide ((k : Int) < (first : Int)) = false := by simp; omega
    obtain ⟨els, l, h1, h2, h3, h4, h5, hgr, hob⟩ := HGA.out
    obtain ⟨aou, capu, rfl⟩ := owns_form h2
    have HK := Lib.hid (HF.out k (by omega) (by omega) wr hgr)
    obtain ⟨⟨⟨n', xs', c', rs'⟩, x'⟩, hG⟩ : ∃ R, G k = R := ⟨_, rfl⟩
    rw [hG] at HK
    have H1 := Lib.hid h1
    have H2 := Lib.hid h2
    have H3 := Lib.hid h3
    have H4 := Lib.hid h4
    have Hob := Lib.hid hob
    have Hgr := Lib.hid hgr
    have HG := Lib.hid hG
    clear h1 h2 h3 h4 hob hgr hG
    go_wp2_with fail
    refine HK.out.mono ?_
    rintro e w2 ⟨⟨v', rv', he, ov, orv⟩, hb2⟩
    obtain rfl : e = .returned (.tuple #[.agg #[.int .i64 n', v', .int .i64 c', rv'], .int .i64 x']) := he
    obtain ⟨aoz, capz, rfl⟩ := owns_form ov
    obtain ⟨aor, capr, rfl⟩ := owns_form orv
    have Hgb := Lib.hid (grownBy_trans (grownBy_trans Hgr.out (grownBy_below hb2 _)) (World.grownBy_alloc w2 (.cells #[.int .i64 n', .slice aoz xs'.length capz, .int .i64 c', .slice aor rs'.length capr] 35) _))
    have Hba := Lib.hid ((show Below wr.heap.size wr w2 from hb2).alloc hb2.size (.cells #[.int .i64 n', .slice aoz xs'.length capz, .int .i64 c', .slice aor rs'.length capr] 35))
    by_cases e0 : x' = 0
    ·subst e0
     have Hown := Lib.hid (World.ownsRow.alloc (OE.keepw H2.out Hba.out) (.cells #[.int .i64 n', .slice aoz xs'.length capz, .int .i64 c', .slice aor rs'.length capr] 35) : OE cdPz 35 base ((w2.alloc (.cells #[.int .i64 n', .slice aoz xs'.length capz, .int .i64 c', .slice aor rs'.length capr] 35)).alloc (.cells #[.int .i64 n', .slice aoz xs'.length capz, .int .i64 c', .slice aor rs'.length capr] 35)) _ els)
     have Hlz := Lib.hid (LZ.keepb (LZ.keepb H3.out Hba.out) ((Below.refl _ _).alloc (Nat.le_refl _) (.cells #[.int .i64 n', .slice aoz xs'.length capz, .int .i64 c', .slice aor rs'.length capr] 35)))
     have Hov := Lib.hid (OL.keepb (OL.keepb (OL.mono ov (Nat.zero_le _)) ((Below.refl _ w2).alloc (Nat.le_refl _) (.cells #[.int .i64 n', .slice aoz xs'.length capz, .int .i64 c', .slice aor rs'.length capr] 35))) ((Below.refl _ _).alloc (Nat.le_refl _) (.cells #[.int .i64 n', .slice aoz xs'.length capz, .int .i64 c', .slice aor rs'.length capr] 35)))
     have Hor := Lib.hid (OL.keepb (OL.keepb (OL.mono orv (Nat.zero_le _)) ((Below.refl _ w2).alloc (Nat.le_refl _) (.cells #[.int .i64 n', .slice aoz xs'.length capz, .int .i64 c', .slice aor rs'.length capr] 35))) ((Below.refl _ _).alloc (Nat.le_refl _) (.cells #[.int .i64 n', .slice aoz xs'.length capz, .int .i64 c', .slice aor rs'.length capr] 35)))
     have Hgc := Lib.hid (grownBy_trans Hgb.out (World.grownBy_alloc (w2.alloc (.cells #[.int .i64 n', .slice aoz xs'.length capz, .int .i64 c', .slice aor rs'.length capr] 35)) (.cells #[.int .i64 n', .slice aoz xs'.length capz, .int .i64 c', .slice aor rs'.length capr] 35) _))
     have Hsz : base ≤ ((w2.alloc (.cells #[.int .i64 n', .slice aoz xs'.length capz, .int .i64 c', .slice aor rs'.length capr] 35)).alloc (.cells #[.int .i64 n', .slice aoz xs'.length capz, .int .i64 c', .slice aor rs'.length capr] 35)).heap.size := Nat.le_trans hbase Hgc.out.size
     have Hlit := Lib.hid (show RS (w2.heap.size + 1 + 1) ((w2.alloc (.cells #[.int .i64 n', .slice aoz xs'.length capz, .int .i64 c', .slice aor rs'.length capr] 35)).alloc (.cells #[.int .i64 n', .slice aoz xs'.length capz, .int .i64 c', .slice aor rs'.length capr] 35)) (.slice (some ⟨w2.heap.size + 1, 0, none⟩) 1 1) 1 (cdPz.cells ⟨n', .slice aoz xs'.length capz, xs', c', .slice aor rs'.length capr, rs'⟩) from by
      have h := rs_litz (w := w2.alloc (.cells #[.int .i64 n', .slice aoz xs'.length capz, .int .i64 c', .slice aor rs'.length capr] 35)) (arr := #[.int .i64 n', .slice aoz xs'.length capz, .int .i64 c', .slice aor rs'.length capr]) (e := 35) rfl
      rw [World.size_alloc] at h
      exact h)
     have HG1 := Lib.hid (gaTo_one H1.out hf HG.out)
     clear ov orv
     go_wp2_with (at_builtin; (refine wpList_append_pz rfl (.tmp 31) (.tmp 33) 41 rfl 35 Tryz.undPz Tryz.infoPz base (.slice aou els.length capu) rfl els Hown.out Hsz (.slice (some ⟨w2.heap.size + 1, 0, none⟩) 1 1) rfl ⟨n', .slice aoz xs'.length capz, xs', c', .slice aor rs'.length capr, rs'⟩ rfl rfl (w2.heap.size + 1 + 1) Hlit.out (by omega) ?_; intro v' w' ho' hg' hk'))
     have Hx1 := OL.kept Hov.out hg' (own_apart Hov.out Hown.out (by decide))
     have Hx2 := OL.kept Hor.out hg' (own_apart Hor.out Hown.out (by decide))
     have HQ := Lib.hid (show GaI w w' base out v' pre G first (k + 1) from ⟨els ++ [⟨n', .slice aoz xs'.length capz, xs', c', .slice aor rs'.length capr, rs'⟩], l ++ [⟨n', xs', c', rs'⟩], HG1.out, ho', LZ.snoc (LZ.grown Hlz.out Hown.out hg') Hx1 Hx2, by rw [List.map_append, H4.out, List.append_assoc]; rfl, by rw [List.length_append, List.length_singleton]; omega, gr_row Hgc.out hg' Hob.out, ob_next Hgc.out Hob.out hk'⟩)
     clear Hx1 Hx2
     go_roundw
     case rel => exact ⟨k + 1, by omega, by go_num, HQ.out⟩
     case measure => simp [intOf]; omega
    ·have e0' : (x' == 0) = false := by simpa using e0
     by_cases e4 : x' = 4
     ·subst e4
      have HQ := Lib.hid (show GaI w (w2.alloc (.cells #[.int .i64 n', .slice aoz xs'.length capz, .int .i64 c', .slice aor rs'.length capr] 35)) base out _ pre G first (k + 1) from
       ⟨els, l, gaTo_none H1.out hf HG.out, OE.keepw H2.out Hba.out, LZ.keepb H3.out Hba.out, H4.out, by omega, Hgb.out, Hob.out⟩)
      go_wp2_with fail
      go_roundw
      case rel => exact ⟨k + 1, by omega, by go_num, HQ.out⟩
      case measure => simp [intOf]; omega
     ·have e4' : (x' == 4) = false := by simpa using e4
      have HR := Lib.hid (gaF_err (pre := pre.map pvOf) (N := N) (k := k + 1) (by omega) (gaTo_bad H1.out hf HG.out e0 e4) e0)
      go_wp2_with fail
      exact bodyPost_ret (v := .tuple #[.slice none 0 0, .int .i64 x']) (by simp [results, Tryz.results56, go_sem]) rfl ⟨GaP.err HR.out _, Hgb.out⟩
  ·obtain ⟨els, l, h1, h2, h3, h4, h5, hgr, hob⟩ := HGA.out
   obtain rfl : k = N + 1 := by omega
   have HR := Lib.hid (gaF_ok (pre := pre.map pvOf) h1)
   have H2 := Lib.hid h2
   have H3 := Lib.hid h3
   have H4 := Lib.hid h4
   have Hgr := Lib.hid hgr
   clear h1 h2 h3 h4 hob hgr
   go_wp2_with fail
   exact bodyPost_ret (v := .tuple #[u2, .int .i64 0]) (by simp [results, Tryz.results56, go_sem]) rfl ⟨GaP.ok HR.out H2.out H3.out H4.out, Hgr.out⟩
set_option linter.unusedVariables false
def wk (i j c : Int) : K3 := (i, j, 2 * c + 1)
def hiF (N : Nat) (xs : List Int) (i : Nat) : Int := ent N xs i 0 / 2
set_option linter.unusedVariables false
theorem hp_app {X w' : World} {b base : Nat} {o o' : Obj} {row : Option Nat} (h : X.heap[b]? = some o) (hg : (X.alloc o').grownBy w' row) (hr : ∀ g, row = some g → base ≤ g) (hb : b < base) : w'.heap[b]? = some o :=
 (hg.block b (by have := hp_lt3 h; simp; omega) (fun e => by have := hr b e.symm; omega)).trans (hp_keep4 h ((Below.refl _ X).alloc (Nat.le_refl _) o'))
theorem bw_app {w X w' : World} {base : Nat} {o' : Obj} {row : Option Nat} (h : Below w.heap.size w X) (hg : (X.alloc o').grownBy w' row) (hr : ∀ g, row = some g → base ≤ g) (hb : w.heap.size ≤ base) : Below w.heap.size w w' :=
 (bal h o').grown hg (bal h o').size (fun g e => Nat.le_trans hb (hr g e))
theorem owns_form3n {t base : Nat} {w : World} {v : Value} {cs : List K3} (h : OK3 t base w v cs) : ∃ ao n cap, v = .slice ao n cap := by
 obtain ⟨ao, cap, rfl⟩ := owns_form h
 exact ⟨ao, _, cap, rfl⟩
theorem st4_at {w : World} {b t : Nat} {u0 u1 u2 u3 : Value} (x y z u : Value) (h : w.heap[b]? = some (.cells #[u0, u1, u2, u3] t (0, 0))) :
  ((((w.setCell ⟨b, 0, none⟩ x).setCell ⟨b, 1, none⟩ y).setCell ⟨b, 2, none⟩ z).setCell ⟨b, 3, none⟩ u).heap[b]? = some (.cells #[x, y, z, u] t (0, 0)) := heap_setCell_same _ _ 3 _ _ _ (heap_setCell_same _ _ 2 _ _ _ (heap_setCell_same _ _ 1 _ _ _ (heap_setCell_same _ _ 0 _ _ _ h)))
set_option linter.unusedVariables false
theorem step_append_k {P : Program} {ops : Array Oper} {o : Oper} {a : Act} {w : World} {K : Act → World → Prop} {Q : Exit → Act → World → Prop} {E : Prop}
    (hg : o.guard = none) (s x : Operand) (t : TypeId) (ho : o.op = Op.call { callee := Callee.builtin Builtin.append, args := #[s, x], argTypes := #[t, t] })
    (e : TypeId) (ht : P.underlying t = some (.slice e)) (hi : (P.info? e).map (fun i => (i.zero, i.size, i.bytes)) = some (some (.agg #[.int .i64 0, .int .i64 0, .int .i64 0]), 3, 24))
    (base : Nat) (v : Value) (hs : a.eval s = v) (cs : List K3) (hown : OK3 e base w v cs) (hbase : base ≤ w.heap.size)
    (xv : Value) (hx : a.eval x = xv) (l : List K3) (B : Nat) (hr : RS B w xv l.length (l.flatMap cells3)) (hl : cs.length + l.length ≤ 100000)
    (h : ∀ v' w', OK3 e base w' v' (cs ++ l) → w.grownBy w' v.ownBlock → K (a.put o.dst v') w') :
    if Region.wanted o (yielded ops a.tmps) = true then Oper.wp P o a w K Q else E := by
  obtain ⟨i0, hi0, hz0, hz1, hz2⟩ := info_parts hi
  refine step_append_rs hg s x t ho base e i0 _ 3 24 ht hi0 hz0 hz1 hz2 (by decide) (by decide) v cs.length (cs.flatMap cells3) hs hown B xv hx l.length (l.flatMap cells3) hr (flat3_len l) (ints_one3 l) (by unfold maxLen; omega) (by omega) hbase ?_
  intro v' w' h1 h2
  refine h v' w' ?_ h2
  unfold OK3
  rw [List.length_append, List.flatMap_append]
  exact h1
set_option linter.unusedVariables false
theorem st1_at {w : World} {b t : Nat} {u0 : Value} (x : Value) (h : w.heap[b]? = some (.cells #[u0] t (0, 0))) : (w.setCell ⟨b, 0, none⟩ x).heap[b]? = some (.cells #[x] t (0, 0)) := heap_setCell_same _ _ 0 _ _ _ h
theorem st1_ne {w : World} {b c : Nat} (x : Value) (h : c ≠ b) : (w.setCell ⟨b, 0, none⟩ x).heap[c]? = w.heap[c]? := Below.heap_setCell _ _ _ _ h
theorem hp_gr0 {w w' : World} {b base : Nat} {o : Obj} {row : Option Nat} (h : w.heap[b]? = some o) (hg : w.grownBy w' row) (hr : ∀ g, row = some g → base ≤ g) (hb : b < base) : w'.heap[b]? = some o :=
 (hg.block b (hp_lt3 h) (fun e => by have := hr b e.symm; omega)).trans h
theorem bw_gr0 {w X X' : World} {base : Nat} {row : Option Nat} (h : Below w.heap.size w X) (hg : X.grownBy X' row) (hr : ∀ g, row = some g → base ≤ g) (hn : w.heap.size ≤ base) : Below w.heap.size w X' :=
 h.grown hg h.size (fun g e => Nat.le_trans hn (hr g e))
theorem own_ne {w : World} {b t e base : Nat} {v : Value} {xs : List Int} {cs : Array Value} {fz : Nat × Nat} (h : OL e base w v xs) (hb : w.heap[b]? = some (.cells cs t fz)) (hne : e ≠ t) : v.ownBlock ≠ some b := by
 rcases h.2 with ⟨rfl, _⟩ | ⟨g, cap, cur, rfl, _, hg, _⟩
 ·simp [Value.ownBlock]
 ·intro e'
  have e2 : some g = some b := e'
  injection e2 with e2
  subst e2
  rw [hg] at hb
  injection hb with hb
  injection hb with _ hb
  exact hne hb
end Go.Proofs.YtfphlpglgcmljaaGreat
