/- Part of the proof of priced_waits_proved: Pdd. -/
import Derived.Laws.EntriesVeiled
import Derived.Shelf.Abstract
import Derived.Deep.RegionHeld3
import Derived.Test.YtfphlpglgcmljaaGreatXwPap
import Derived.Test.YtfphlpglgcmljaaGreatXwPcu
import Derived.Test.YtfphlpglgcmljaaGreatXwUpz
namespace Go.Proofs.YtfphlpglgcmljaaGreat
open Go.RowKit
set_option linter.unusedVariables false
structure Pz where
 n : Int
 zv : Value
 xs : List Int
 c : Int
 rv : Value
 rs : List Int
def cdPz : Cd Pz := ⟨4, fun x => [.int .i64 x.n, x.zv, .int .i64 x.c, x.rv], fun _ => rfl, ⟨0, .slice none 0 0, [], 0, .slice none 0 0, []⟩⟩
def pvOf (x : Pz) : Pv := ⟨x.n, x.xs, x.c, x.rs⟩
def LZ (w : World) (els : List Pz) : Prop := ∀ x, x ∈ els → OL 63 0 w x.zv x.xs ∧ OL 2 0 w x.rv x.rs
theorem own_apart {w : World} {b1 b2 e1 e2 s1 s2 n1 n2 : Nat} {v1 v2 : Value} {l1 l2 : List Value} (h1 : w.ownsRow b1 e1 s1 v1 n1 l1) (h2 : w.ownsRow b2 e2 s2 v2 n2 l2) (hne : e1 ≠ e2) : v1.ownBlock = none ∨ v1.ownBlock ≠ v2.ownBlock := by
 rcases h1.2 with ⟨rfl, _⟩ | ⟨g, cap, cur, rfl, _, hg, _⟩
 ·exact .inl rfl
 ·rcases h2.2 with ⟨rfl, _⟩ | ⟨g2, cap2, cur2, rfl, _, hg2, _⟩
  ·exact .inr (by simp [Value.ownBlock])
  ·refine .inr (fun e => ?_)
   have e' : some g = some g2 := e
   injection e' with e'
   subst e'
   rw [hg] at hg2
   injection hg2 with hg2
   injection hg2 with _ hg3
   exact hne hg3
theorem LZ.grown {w w' : World} {els : List Pz} {base : Nat} {v : Value} {n : Nat} {l : List Value} (h : LZ w els) (ho : w.ownsRow base 35 4 v n l) (hg : w.grownBy w' v.ownBlock) : LZ w' els := fun x hx =>
 ⟨OL.kept (h x hx).1 hg (own_apart (h x hx).1 ho (by decide)), OL.kept (h x hx).2 hg (own_apart (h x hx).2 ho (by decide))⟩
theorem LZ.keepb {w w' : World} {els : List Pz} (h : LZ w els) (hb : Below w.heap.size w w') : LZ w' els := fun x hx => ⟨OL.keepb (h x hx).1 hb, OL.keepb (h x hx).2 hb⟩
theorem LZ.nil (w : World) : LZ w [] := fun x hx => by cases hx
theorem LZ.snoc {w : World} {els : List Pz} {x : Pz} (h : LZ w els) (h1 : OL 63 0 w x.zv x.xs) (h2 : OL 2 0 w x.rv x.rs) : LZ w (els ++ [x]) := fun y hy => by
 rcases List.mem_append.1 hy with h3 | h3
 ·exact h y h3
 ·have := List.mem_singleton.1 h3
  subst this; exact ⟨h1, h2⟩
def gaTo (G : Nat → Pv × Int) (first : Nat) : Nat → List Pv × Int
 | 0 => ([], 0)
 | k + 1 => if (gaTo G first k).2 = 0 then (if k < first then gaTo G first k else if (G k).2 = 0 then ((gaTo G first k).1 ++ [(G k).1], 0) else if (G k).2 = 4 then gaTo G first k else ([], (G k).2)) else gaTo G first k
theorem gaTo_less {G : Nat → Pv × Int} {first k : Nat} {l : List Pv} (h : gaTo G first k = (l, 0)) (hk : k < first) : gaTo G first (k + 1) = (l, 0) := by
 show (if (gaTo G first k).2 = 0 then _ else _) = _
 rw [h, if_pos rfl, if_pos hk]
theorem gaTo_one {G : Nat → Pv × Int} {first k : Nat} {l : List Pv} {x : Pv} (h : gaTo G first k = (l, 0)) (hk : ¬ k < first) (hG : G k = (x, 0)) : gaTo G first (k + 1) = (l ++ [x], 0) := by
 show (if (gaTo G first k).2 = 0 then _ else _) = _
 rw [h, if_pos rfl, if_neg hk, hG, if_pos rfl]
theorem gaTo_none {G : Nat → Pv × Int} {first k : Nat} {l : List Pv} {x : Pv} (h : gaTo G first k = (l, 0)) (hk : ¬ k < first) (hG : G k = (x, 4)) : gaTo G first (k + 1) = (l, 0) := by
 show (if (gaTo G first k).2 = 0 then _ else _) = _
 rw [h, if_pos rfl, if_neg hk, hG, if_neg (show ¬ (4 : Int) = 0 by decide), if_pos rfl]
theorem gaTo_bad {G : Nat → Pv × Int} {first k : Nat} {l : List Pv} {x : Pv} {e : Int} (h : gaTo G first k = (l, 0)) (hk : ¬ k < first) (hG : G k = (x, e)) (h0 : e ≠ 0) (h4 : e ≠ 4) : gaTo G first (k + 1) = ([], e) := by
 show (if (gaTo G first k).2 = 0 then _ else _) = _
 rw [h, if_pos rfl, if_neg hk, hG, if_neg h0, if_neg h4]
theorem gaTo_stuck {G : Nat → Pv × Int} {first k : Nat} (h : (gaTo G first k).2 ≠ 0) : ∀ j, gaTo G first (k + j) = gaTo G first k
 | 0 => rfl
 | j + 1 => by
  show (if (gaTo G first (k + j)).2 = 0 then _ else gaTo G first (k + j)) = _
  rw [gaTo_stuck h j, if_neg h]
def gaF (pre : List Pv) (G : Nat → Pv × Int) (first N : Nat) : List Pv × Int := if (gaTo G first (N + 1)).2 = 0 then (pre ++ (gaTo G first (N + 1)).1, 0) else ([], (gaTo G first (N + 1)).2)
theorem gaF_err {pre : List Pv} {G : Nat → Pv × Int} {first N k : Nat} {l : List Pv} {e : Int} (hk : k ≤ N + 1) (h : gaTo G first k = (l, e)) (he : e ≠ 0) : gaF pre G first N = ([], e) := by
 have hs := gaTo_stuck (G := G) (first := first) (k := k) (by rw [h]; exact he) (N + 1 - k)
 rw [Nat.add_sub_cancel' hk, h] at hs
 unfold gaF
 rw [hs, if_neg he]
theorem gaF_ok {pre : List Pv} {G : Nat → Pv × Int} {first N : Nat} {l : List Pv} (h : gaTo G first (N + 1) = (l, 0)) : gaF pre G first N = (pre ++ l, 0) := by
 unfold gaF; rw [h, if_pos rfl]
theorem Tryz.undPz : Tryz.prog.underlying 41 = some (.slice 35) := by kernel_rfl
theorem Tryz.infoPz : (Tryz.prog.info? 35).map (fun i => (i.zero, i.size, i.bytes)) = some (some (.agg #[.int .i64 0, .slice none 0 0, .int .i64 0, .slice none 0 0]), 4, 64) := by kernel_rfl
theorem append_blk {P : Program} {w : World} {base : Nat} {t ty e : TypeId} {i : TypeInfo} {z : Value} {size bytes : Nat} (ht : P.underlying t = some (.slice e)) (hi : P.info? e = some i) (hz : i.zero = some z)
  (hsize : i.size = size) (hby : i.bytes = bytes) (hzs : z.cells.size = size) (hsz : 0 < size)
  {v : Value} {n : Nat} {xs : List Value} (hown : w.ownsRow base e size v n xs)
  {a : Addr} {m c : Nat} {news : List Value} (hl : news.length = m * size) (hnews : ∀ j u, news[j]? = some u → w.cell? (a.add j) = some u) (h1 : ∀ u ∈ news, u.oneCell' = true)
  (h63 : n + m ≤ maxLen) (hbytes : (n + m) * bytes ≤ 140737488355328) {v' : Value} {w' : World} (hr : (Builtin.append_ #[t, t] ty #[v, .slice (some a) m c]).run P w = .ok v' w') :
  v'.ownBlock = v.ownBlock ∨ ∃ g, v'.ownBlock = some g ∧ w.heap.size ≤ g := by
 rcases hown.2 with ⟨rfl, rfl⟩ | ⟨g, cap, cur, rfl, hbg, hg, hnc, hcm, hcs, htake⟩
 ·have hx : xs = [] := List.eq_nil_of_length_eq_zero (by simpa using hown.1)
  subst hx
  obtain ⟨v2, w2, hr2, h2, _, _⟩ := run_append_own (P := P) w w.heap.size t ty e i z size bytes ht hi hz hsize hby hzs hsz (.slice none 0 0) 0 [] (World.ownsRow_nil w w.heap.size e size) a m c news hl hnews h1 h63 hbytes (Nat.le_refl _)
  rw [hr] at hr2
  injection hr2 with e1 e2
  subst e1 e2
  rcases h2.2 with ⟨rfl, _⟩ | ⟨g, cap, cur, rfl, hb, _⟩
  ·exact .inl rfl
  ·exact .inr ⟨g, rfl, hb⟩
 ·subst hsize hby
  by_cases hroom : n + m ≤ cap
  ·have hfit : n * i.size + news.length ≤ cur.size := by rw [hl, hcs, ← Nat.add_mul]; exact Nat.mul_le_mul_right _ hroom
   have hr2 := run_append_room (P := P) w t ty e i ht hi g n cap cur hg a m c news hl hnews h1 hroom hfit
   rw [hr] at hr2
   injection hr2 with e1 e2
   subst e1
   exact .inl rfl
  ·have holds : ∀ j u, xs[j]? = some u → w.cell? ((⟨g, 0, none⟩ : Addr).add j) = some u := hown.cells (g := g) rfl
   have hr2 := run_append_grow (P := P) w t ty e i z ht hi hz ⟨g, 0, none⟩ n cap xs hown.1 holds a m c news hl hnews (by omega) (by simp only [maxLen] at h63; omega) (growslice_fits (by omega) hbytes)
   rw [hr] at hr2
   injection hr2 with e1 e2
   subst e1
   exact .inr ⟨_, rfl, Nat.le_refl _⟩
theorem wp_append_blk {P : Program} {o : Oper} {a : Act} {w : World} {K : Act → World → Prop} {Q : Exit → Act → World → Prop}
    (s x : Operand) (t : TypeId) (ho : o.op = Op.call { callee := Callee.builtin Builtin.append, args := #[s, x], argTypes := #[t, t] })
    (base : Nat) (e : TypeId) (i : TypeInfo) (z : Value) (size bytes : Nat) (ht : P.underlying t = some (.slice e)) (hi : P.info? e = some i) (hz : i.zero = some z)
    (hsize : i.size = size) (hby : i.bytes = bytes) (hzs : z.cells.size = size) (hsz : 0 < size)
    (v : Value) (n : Nat) (xs : List Value) (hs : a.eval s = v) (hown : w.ownsRow base e size v n xs)
    (ad : Addr) (m c : Nat) (news : List Value) (hx : a.eval x = .slice (some ad) m c) (hl : news.length = m * size) (hnews : ∀ j u, news[j]? = some u → w.cell? (ad.add j) = some u) (h1 : ∀ u ∈ news, u.oneCell' = true)
    (h63 : n + m ≤ maxLen) (hbytes : (n + m) * bytes ≤ 140737488355328) (hbase : base ≤ w.heap.size)
    (h : ∀ v' w', w'.ownsRow base e size v' (n + m) (xs ++ news) → w.grownBy w' v.ownBlock → (v'.ownBlock = v.ownBlock ∨ ∃ g, v'.ownBlock = some g ∧ w.heap.size ≤ g) → K (a.put o.dst v') w') : Oper.wp P o a w K Q := by
  obtain ⟨v', w', hr, h2, h3, h4⟩ := run_append_own (P := P) w base t o.type e i z size bytes ht hi hz hsize hby hzs hsz v n xs hown ad m c news hl hnews h1 h63 hbytes hbase
  have h5 := append_blk ht hi hz hsize hby hzs hsz hown hl hnews h1 h63 hbytes hr
  unfold Oper.wp execOp
  simp only [ho, resolve, invoke, builtin, Sem.run_bind, Sem.run_pure, Result.andThen_ok, List.map_toArray, List.map_cons, List.map_nil, hs, hx, hr]
  exact h v' w' h2 h3 h5
theorem wpList_append_pz {P : Program} {ops : Array Oper} {rest : List Oper} {o : Oper} {a : Act} {w : World} {Q : Exit → Act → World → Prop}
    (hg : o.guard = none) (s x : Operand) (t : TypeId) (ho : o.op = Op.call { callee := Callee.builtin Builtin.append, args := #[s, x], argTypes := #[t, t] })
    (e : TypeId) (ht : P.underlying t = some (.slice e)) (hi : (P.info? e).map (fun i => (i.zero, i.size, i.bytes)) = some (some (.agg #[.int .i64 0, .slice none 0 0, .int .i64 0, .slice none 0 0]), 4, 64))
    (base : Nat) (v : Value) (hs : a.eval s = v) (els : List Pz) (hown : OE cdPz e base w v els) (hbase : base ≤ w.heap.size)
    (xv : Value) (hx : a.eval x = xv) (l : Pz) (hl1 : l.zv.oneCell' = true) (hl2 : l.rv.oneCell' = true) (B : Nat) (hr : RS B w xv 1 (cdPz.cells l)) (hl : els.length ≤ 100000)
    (h : ∀ v' w', OE cdPz e base w' v' (els ++ [l]) → w.grownBy w' v.ownBlock → (v'.ownBlock = v.ownBlock ∨ ∃ g, v'.ownBlock = some g ∧ w.heap.size ≤ g) → wpList P ops Q rest (a.put o.dst v') w') : wpList P ops Q (o :: rest) a w := by
  obtain ⟨i0, hi0, hz0, hz1, hz2⟩ := info_parts hi
  rcases hr.head with ⟨_, h0, _⟩ | ⟨ad, cap, hv, hc⟩
  · cases h0
  · refine wpList_plain hg fun _ hK => wp_append_blk s x t ho base e i0 _ 4 64 ht hi0 hz0 hz1 hz2 (by decide) (by decide) v els.length (els.flatMap cdPz.cells) hs hown ad 1 cap (cdPz.cells l) (hx.trans hv) rfl hc ?_ (by unfold maxLen; omega) (by omega) hbase ?_
    · intro u hu
      simp only [cdPz, List.mem_cons, List.not_mem_nil, or_false] at hu
      rcases hu with rfl | rfl | rfl | rfl
      · rfl
      · exact hl1
      · rfl
      · exact hl2
    · intro v' w' h1 h2 h3
      refine hK _ _ (h v' w' ?_ h2 h3)
      unfold OE
      rw [List.length_append, List.flatMap_append, show [l].flatMap cdPz.cells = cdPz.cells l from by simp]
      exact h1
set_option linter.unusedVariables false
def MkP (fv : Value) (w : World) (row : Option Nat) (first N : Nat) (G : Nat → Pv × Int) : Prop :=
 ∃ f cap, fv = .func (.func f) #[] cap ∧ (∀ (args : Array Value) (w : World), (callFunc f args).run Tryz.prog w = .ok (.enter f args) w) ∧
  ∀ k : Nat, first ≤ k → k ≤ N → ∀ X, w.grownBy X row → Calls Tryz.prog f (#[.int .i64 k] ++ cap) X fun e w' => PO X.heap.size (G k) e w' ∧ Below X.heap.size X w'
def GaI (w wr : World) (base : Nat) (out u : Value) (pre : List Pz) (G : Nat → Pv × Int) (first k : Nat) : Prop :=
 ∃ (els : List Pz) (l : List Pv), gaTo G first k = (l, 0) ∧ OE cdPz 35 base wr u els ∧ LZ wr els ∧ els.map pvOf = pre.map pvOf ++ l ∧ els.length ≤ pre.length + k ∧ w.grownBy wr out.ownBlock ∧ (u.ownBlock = none ∨ u.ownBlock = out.ownBlock ∨ ∃ g, u.ownBlock = some g ∧ w.heap.size ≤ g)
theorem rs_litz {w : World} {arr : Array Value} {e : Nat} {cs : List Value} (h : arr.toList = cs) : RS (w.heap.size + 1) (w.alloc (.cells arr e)) (.slice (some ⟨w.heap.size, 0, none⟩) 1 1) 1 cs := by
 refine .inr ⟨_, 0, none, _, rfl, Nat.le_refl _, by unfold maxLen; omega, (fun h => absurd h (by decide)), fun _ => ⟨rfl, by simp, fun k hk => ?_⟩⟩
 rw [Nat.zero_add]
 refine (cell_of_row (w.alloc (.cells arr e)) _ k arr e (0, 0) (heap_alloc_new w _)).trans ?_
 rw [← h, Array.getElem?_toList]
theorem gr_row {w X w' : World} {row b : Option Nat} (h1 : w.grownBy X row) (h2 : X.grownBy w' b) (hb : b = none ∨ b = row ∨ ∃ g, b = some g ∧ w.heap.size ≤ g) : w.grownBy w' row :=
 ⟨h2.os.trans h1.os, h2.tape.trans h1.tape, h2.output.trans h1.output, Nat.le_trans h1.size h2.size, fun i hi hne => (h2.block i (Nat.lt_of_lt_of_le hi h1.size) (by
  rcases hb with rfl | rfl | ⟨g, rfl, hg⟩
  ·simp
  ·exact hne
  ·simp; omega)).trans (h1.block i hi hne)⟩
theorem ob_next {w X : World} {row b b' : Option Nat} (h1 : w.grownBy X row) (hb : b = none ∨ b = row ∨ ∃ g, b = some g ∧ w.heap.size ≤ g) (hk : b' = b ∨ ∃ g, b' = some g ∧ X.heap.size ≤ g) : b' = none ∨ b' = row ∨ ∃ g, b' = some g ∧ w.heap.size ≤ g := by
 rcases hk with rfl | ⟨g, rfl, hg⟩
 ·exact hb
 ·exact .inr (.inr ⟨g, rfl, Nat.le_trans h1.size hg⟩)
def GaP (base : Nat) (r : List Pv × Int) (e : Ending) (w' : World) : Prop := ∃ v' els, e = .returned (.tuple #[v', .int .i64 r.2]) ∧ OE cdPz 35 base w' v' els ∧ LZ w' els ∧ els.map pvOf = r.1
theorem GaP.err {base : Nat} {r : List Pv × Int} {x : Int} (h : r = ([], x)) (w' : World) : GaP base r (.returned (.tuple #[.slice none 0 0, .int .i64 x])) w' := by
 subst h; exact ⟨_, [], rfl, OE.nil _ _ _ _, LZ.nil _, rfl⟩
theorem GaP.ok {base : Nat} {r : List Pv × Int} {l : List Pv} {els : List Pz} {v' : Value} {w' : World} (h : r = (l, 0)) (h2 : OE cdPz 35 base w' v' els) (h3 : LZ w' els) (h4 : els.map pvOf = l) : GaP base r (.returned (.tuple #[v', .int .i64 0])) w' := by
 subst h; exact ⟨_, els, rfl, h2, h3, h4⟩
set_option maxRecDepth 100000 in
set_option maxHeartbeats 4000000 in
theorem prog_gather (N first : Nat) (out fv : Value) (pre : List Pz) (G : Nat → Pv × Int) (base : Nat) (w : World) (hbase : base ≤ w.heap.size) (ho : OE cdPz 35 base w out pre) (hz : LZ w pre) (hN : N ≤ 10) (hpre : pre.length ≤ 1000)
  (hm : MkP fv w out.ownBlock first N G) :
  Calls Tryz.prog 56 #[.int .i64 N, .int .i64 first, out, fv] w fun e w' => GaP base (gaF (pre.map pvOf) G first N) e w' ∧ w.grownBy w' out.ownBlock := by
 obtain ⟨f, cap, rfl, hent, hF⟩ := hm
 have HF := Lib.hid hF
 have h0 := Lib.hid (show GaI w w base out out pre G first 0 from ⟨pre, [], rfl, ho, hz, by simp, by omega, ⟨rfl, rfl, rfl, Nat.le_refl _, fun _ _ _ => rfl⟩, .inr (.inl rfl)⟩)
 clear hF ho hz
 go_enter Tryz.func56, Tryz.ntmps56
 go_wp2_with fail
 go_loopw [15, 2] (fun i u wr => ∃ k : Nat, k ≤ N + 1 ∧ i = .int .i64 k ∧ GaI w wr base out u pre G first k) (fun i _ _ => N + 1 - (intOf i).toNat)
 case atStart => exact ⟨0, Nat.zero_le _, rfl, h0.out⟩
 case round =>
  clear h0
  obtain ⟨k, hk, rfl, hga⟩ := hrel
  have HGA := Lib.hid hga
  clear hga
  by_cases hlt : k < N + 1
  ·by_cases hf : k < first
   ·have hfb : decide ((k : Int) < (first : Int)) = true := by simp; omega
    have HQ := Lib.hid (show GaI w wr base out _ pre G first (k + 1) from by
     obtain ⟨els, l, h1, h2, h3, h4, h5, h6, h7⟩ := HGA.out
     exact ⟨els, l, gaTo_less h1 hf, h2, h3, h4, by omega, h6, h7⟩)
    go_wp2_with fail
    go_roundw
    case rel => exact ⟨k + 1, by omega, by go_num, HQ.out⟩
    case measure => simp [intOf]; omega
   ·have hfb : decide ((k : Int) < (first : Int)) = false := by simp; omega
    obtain ⟨els, l, h1, h2, h3, h4, h5, hgr, hob⟩ := HGA.out
    obtain ⟨aou, capu, rfl⟩ := owns_form h2
    have HK := Lib.hid (HF.out k (by omega) (by omega) wr hgr)
    obtain ⟨⟨⟨n', xs', c', rs'⟩, x'⟩, hG⟩ : ∃ R, G k = R := ⟨_, rfl⟩
    rw [hG] at HK
    have H1 := Lib.hid h1
    have H2 := Lib.hid h2
    have H3 := Lib.hid h3
    have H4 := Lib.hid h4
    have Hob := Lib.hid hob
    have Hgr := Lib.hid hgr
    have HG := Lib.hid hG
    clear h1 h2 h3 h4 hob hgr hG
    go_wp2_with fail
    refine HK.out.mono ?_
    rintro e w2 ⟨⟨v', rv', he, ov, orv⟩, hb2⟩
    obtain rfl : e = .returned (.tuple #[.agg #[.int .i64 n', v', .int .i64 c', rv'], .int .i64 x']) := he
    obtain ⟨aoz, capz, rfl⟩ := owns_form ov
    obtain ⟨aor, capr, rfl⟩ := owns_form orv
    have Hgb := Lib.hid (grownBy_trans (grownBy_trans Hgr.out (grownBy_below hb2 _)) (World.grownBy_alloc w2 (.cells #[.int .i64 n', .slice aoz xs'.length capz, .int .i64 c', .slice aor rs'.length capr] 35) _))
    have Hba := Lib.hid ((show Below wr.heap.size wr w2 from hb2).alloc hb2.size (.cells #[.int .i64 n', .slice aoz xs'.length capz, .int .i64 c', .slice aor rs'.length capr] 35))
    by_cases e0 : x' = 0
    ·subst e0
     have Hown := Lib.hid (World.ownsRow.alloc (OE.keepw H2.out Hba.out) (.cells #[.int .i64 n', .slice aoz xs'.length capz, .int .i64 c', .slice aor rs'.length capr] 35) : OE cdPz 35 base ((w2.alloc (.cells #[.int .i64 n', .slice aoz xs'.length capz, .int .i64 c', .slice aor rs'.length capr] 35)).alloc (.cells #[.int .i64 n', .slice aoz xs'.length capz, .int .i64 c', .slice aor rs'.length capr] 35)) _ els)
     have Hlz := Lib.hid (LZ.keepb (LZ.keepb H3.out Hba.out) ((Below.refl _ _).alloc (Nat.le_refl _) (.cells #[.int .i64 n', .slice aoz xs'.length capz, .int .i64 c', .slice aor rs'.length capr] 35)))
     have Hov := Lib.hid (OL.keepb (OL.keepb (OL.mono ov (Nat.zero_le _)) ((Below.refl _ w2).alloc (Nat.le_refl _) (.cells #[.int .i64 n', .slice aoz xs'.length capz, .int .i64 c', .slice aor rs'.length capr] 35))) ((Below.refl _ _).alloc (Nat.le_refl _) (.cells #[.int .i64 n', .slice aoz xs'.length capz, .int .i64 c', .slice aor rs'.length capr] 35)))
     have Hor := Lib.hid (OL.keepb (OL.keepb (OL.mono orv (Nat.zero_le _)) ((Below.refl _ w2).alloc (Nat.le_refl _) (.cells #[.int .i64 n', .slice aoz xs'.length capz, .int .i64 c', .slice aor rs'.length capr] 35))) ((Below.refl _ _).alloc (Nat.le_refl _) (.cells #[.int .i64 n', .slice aoz xs'.length capz, .int .i64 c', .slice aor rs'.length capr] 35)))
     have Hgc := Lib.hid (grownBy_trans Hgb.out (World.grownBy_alloc (w2.alloc (.cells #[.int .i64 n', .slice aoz xs'.length capz, .int .i64 c', .slice aor rs'.length capr] 35)) (.cells #[.int .i64 n', .slice aoz xs'.length capz, .int .i64 c', .slice aor rs'.length capr] 35) _))
     have Hsz : base ≤ ((w2.alloc (.cells #[.int .i64 n', .slice aoz xs'.length capz, .int .i64 c', .slice aor rs'.length capr] 35)).alloc (.cells #[.int .i64 n', .slice aoz xs'.length capz, .int .i64 c', .slice aor rs'.length capr] 35)).heap.size := Nat.le_trans hbase Hgc.out.size
     have Hlit := Lib.hid (show RS (w2.heap.size + 1 + 1) ((w2.alloc (.cells #[.int .i64 n', .slice aoz xs'.length capz, .int .i64 c', .slice aor rs'.length capr] 35)).alloc (.cells #[.int .i64 n', .slice aoz xs'.length capz, .int .i64 c', .slice aor rs'.length capr] 35)) (.slice (some ⟨w2.heap.size + 1, 0, none⟩) 1 1) 1 (cdPz.cells ⟨n', .slice aoz xs'.length capz, xs', c', .slice aor rs'.length capr, rs'⟩) from by
      have h := rs_litz (w := w2.alloc (.cells #[.int .i64 n', .slice aoz xs'.length capz, .int .i64 c', .slice aor rs'.length capr] 35)) (arr := #[.int .i64 n', .slice aoz xs'.length capz, .int .i64 c', .slice aor rs'.length capr]) (e := 35) rfl
      rw [World.size_alloc] at h
      exact h)
     have HG1 := Lib.hid (gaTo_one H1.out hf HG.out)
     clear ov orv
     go_wp2_with (at_builtin; (refine wpList_append_pz rfl (.tmp 31) (.tmp 33) 41 rfl 35 Tryz.undPz Tryz.infoPz base (.slice aou els.length capu) rfl els Hown.out Hsz (.slice (some ⟨w2.heap.size + 1, 0, none⟩) 1 1) rfl ⟨n', .slice aoz xs'.length capz, xs', c', .slice aor rs'.length capr, rs'⟩ rfl rfl (w2.heap.size + 1 + 1) Hlit.out (by omega) ?_; intro v' w' ho' hg' hk'))
     have Hx1 := OL.kept Hov.out hg' (own_apart Hov.out Hown.out (by decide))
     have Hx2 := OL.kept Hor.out hg' (own_apart Hor.out Hown.out (by decide))
     have HQ := Lib.hid (show GaI w w' base out v' pre G first (k + 1) from ⟨els ++ [⟨n', .slice aoz xs'.length capz, xs', c', .slice aor rs'.length capr, rs'⟩], l ++ [⟨n', xs', c', rs'⟩], HG1.out, ho', LZ.snoc (LZ.grown Hlz.out Hown.out hg') Hx1 Hx2, by rw [List.map_append, H4.out, List.append_assoc]; rfl, by rw [List.length_append, List.length_singleton]; omega, gr_row Hgc.out hg' Hob.out, ob_next Hgc.out Hob.out hk'⟩)
     clear Hx1 Hx2
     go_roundw
     case rel => exact ⟨k + 1, by omega, by go_num, HQ.out⟩
     case measure => simp [intOf]; omega
    ·have e0' : (x' == 0) = false := by simpa using e0
     by_cases e4 : x' = 4
     ·subst e4
      have HQ := Lib.hid (show GaI w (w2.alloc (.cells #[.int .i64 n', .slice aoz xs'.length capz, .int .i64 c', .slice aor rs'.length capr] 35)) base out _ pre G first (k + 1) from
       ⟨els, l, gaTo_none H1.out hf HG.out, OE.keepw H2.out Hba.out, LZ.keepb H3.out Hba.out, H4.out, by omega, Hgb.out, Hob.out⟩)
      go_wp2_with fail
      go_roundw
      case rel => exact ⟨k + 1, by omega, by go_num, HQ.out⟩
      case measure => simp [intOf]; omega
     ·have e4' : (x' == 4) = false := by simpa using e4
      have HR := Lib.hid (gaF_err (pre := pre.map pvOf) (N := N) (k := k + 1) (by omega) (gaTo_bad H1.out hf HG.out e0 e4) e0)
      go_wp2_with fail
      exact bodyPost_ret (v := .tuple #[.slice none 0 0, .int .i64 x']) (by simp [results, Tryz.results56, go_sem]) rfl ⟨GaP.err HR.out _, Hgb.out⟩
  ·obtain ⟨els, l, h1, h2, h3, h4, h5, hgr, hob⟩ := HGA.out
   obtain rfl : k = N + 1 := by omega
   have HR := Lib.hid (gaF_ok (pre := pre.map pvOf) h1)
   have H2 := Lib.hid h2
   have H3 := Lib.hid h3
   have H4 := Lib.hid h4
   have Hgr := Lib.hid hgr
   clear h1 h2 h3 h4 hob hgr
   go_wp2_with fail
   exact bodyPost_ret (v := .tuple #[u2, .int .i64 0]) (by simp [results, Tryz.results56, go_sem]) rfl ⟨GaP.ok HR.out H2.out H3.out H4.out, Hgr.out⟩
set_option linter.unusedVariables false
def wk (i j c : Int) : K3 := (i, j, 2 * c + 1)
def hiF (N : Nat) (xs : List Int) (i : Nat) : Int := ent N xs i 0 / 2
theorem low_bd {N : Nat} {xs : List Int} (h : OkZ N xs) {i : Nat} (hi : i ≤ N) : -549755813888 ≤ lowF N xs i ∧ lowF N xs i ≤ 1073741824 := by
 have := ent_bd h (Nat.zero_le _) hi (i := 0)
 unfold lowF; omega
theorem hi_bd {N : Nat} {xs : List Int} (h : OkZ N xs) {i : Nat} (hi : i ≤ N) : -1073741824 ≤ hiF N xs i ∧ hiF N xs i ≤ 549755813888 := by
 have := ent_bd h hi (Nat.zero_le _) (j := 0)
 unfold hiF; omega
def dlTo (N : Nat) (xs : List Int) (i : Nat) : Nat → List K3
 | 0 => []
 | q + 1 => if q + 1 = i then dlTo N xs i q else dlTo N xs i q ++ [wk i ((q + 1 : Nat) : Int) (lowF N xs i - lowF N xs (q + 1))]
theorem dlTo_len (N : Nat) (xs : List Int) (i : Nat) : ∀ q, (dlTo N xs i q).length ≤ q
  | 0 => Nat.le_refl _
  | q + 1 => by
    have := dlTo_len N xs i q
    unfold dlTo
    split
    · omega
    · rw [List.length_append, List.length_singleton]; omega
theorem dlTo_same {N : Nat} {xs : List Int} {i q : Nat} (h : q + 1 = i) : dlTo N xs i (q + 1) = dlTo N xs i q := by
 show (if q + 1 = i then _ else _) = _
 rw [if_pos h]
theorem dlTo_more {N : Nat} {xs : List Int} {i q : Nat} (h : q + 1 ≠ i) : dlTo N xs i (q + 1) = dlTo N xs i q ++ [wk i ((q + 1 : Nat) : Int) (lowF N xs i - lowF N xs (q + 1))] := by
 show (if q + 1 = i then _ else _) = _
 rw [if_neg h]
def dhTo (N : Nat) (xs : List Int) (i : Nat) : Nat → List K3
 | 0 => [wk 0 i (-hiF N xs i)]
 | q + 1 => if q + 1 = i ∨ ent N xs (q + 1) 0 = 1099511627776 then dhTo N xs i q else dhTo N xs i q ++ [wk ((q + 1 : Nat) : Int) i (hiF N xs (q + 1) - hiF N xs i)]
theorem dhTo_len (N : Nat) (xs : List Int) (i : Nat) : ∀ q, (dhTo N xs i q).length ≤ q + 1
  | 0 => Nat.le_refl _
  | q + 1 => by
    have := dhTo_len N xs i q
    unfold dhTo
    split
    · omega
    · rw [List.length_append, List.length_singleton]; omega
theorem dhTo_same {N : Nat} {xs : List Int} {i q : Nat} (h : q + 1 = i ∨ ent N xs (q + 1) 0 = 1099511627776) : dhTo N xs i (q + 1) = dhTo N xs i q := by
 show (if q + 1 = i ∨ _ then _ else _) = _
 rw [if_pos h]
theorem dhTo_more {N : Nat} {xs : List Int} {i q : Nat} (h : q + 1 ≠ i) (h2 : ent N xs (q + 1) 0 ≠ 1099511627776) : dhTo N xs i (q + 1) = dhTo N xs i q ++ [wk ((q + 1 : Nat) : Int) i (hiF N xs (q + 1) - hiF N xs i)] := by
 show (if q + 1 = i ∨ _ then _ else _) = _
 rw [if_neg (fun e => e.elim h h2)]
def moTo (rate : Int) (rs : List Int) : Nat → Int
 | 0 => rate
 | k + 1 => IntKind.i64.wrap (moTo rate rs k - gi rs k)
noncomputable def dG (N : Nat) (xs : List Int) (c : Int) (rs all : List Int) (more : Int) (i : Nat) : Pv × Int :=
 if more < 0 then pcutF 4 N xs c rs all (dlTo N xs i N) more i (lowF N xs i)
 else if ent N xs i 0 = 1099511627776 then (pv0, 4) else pcutF 4 N xs c rs all (dhTo N xs i N) more i (hiF N xs i)
theorem dG_low {N : Nat} {xs : List Int} {c : Int} {rs all : List Int} {more : Int} (h : more < 0) (i : Nat) : dG N xs c rs all more i = pcutF 4 N xs c rs all (dlTo N xs i N) more i (lowF N xs i) := by
 unfold dG; rw [if_pos h]
theorem dG_none {N : Nat} {xs : List Int} {c : Int} {rs all : List Int} {more : Int} (h : ¬ more < 0) {i : Nat} (h2 : ent N xs i 0 = 1099511627776) : dG N xs c rs all more i = (pv0, 4) := by
 unfold dG; rw [if_neg h, if_pos h2]
theorem dG_high {N : Nat} {xs : List Int} {c : Int} {rs all : List Int} {more : Int} (h : ¬ more < 0) {i : Nat} (h2 : ent N xs i 0 ≠ 1099511627776) : dG N xs c rs all more i = pcutF 4 N xs c rs all (dhTo N xs i N) more i (hiF N xs i) := by
 unfold dG; rw [if_neg h, if_neg h2]
noncomputable def dNow (N : Nat) (xs : List Int) (c : Int) (rs : List Int) (cs : List K3) (more : Int) : List Pv × Int :=
 if more < 0 then ([], 0) else if (andF N xs cs).1 = 0 then (if (onF N xs c rs (andF N xs cs).2 0 0 0).2 = 0 then ([(onF N xs c rs (andF N xs cs).2 0 0 0).1], 0) else ([], (onF N xs c rs (andF N xs cs).2 0 0 0).2)) else ([], 0)
theorem dNow_low {N : Nat} {xs : List Int} {c : Int} {rs : List Int} {cs : List K3} {more : Int} (h : more < 0) : dNow N xs c rs cs more = ([], 0) := by unfold dNow; rw [if_pos h]
theorem dNow_none {N : Nat} {xs : List Int} {c : Int} {rs : List Int} {cs : List K3} {more x : Int} {R : List Int} (h : ¬ more < 0) (h2 : andF N xs cs = (x, R)) (hx : x ≠ 0) : dNow N xs c rs cs more = ([], 0) := by
 unfold dNow; rw [if_neg h, h2, if_neg hx]
theorem dNow_one {N : Nat} {xs : List Int} {c : Int} {rs : List Int} {cs : List K3} {more : Int} {R : List Int} {p : Pv} (h : ¬ more < 0) (h2 : andF N xs cs = (0, R)) (h3 : onF N xs c rs R 0 0 0 = (p, 0)) : dNow N xs c rs cs more = ([p], 0) := by
 unfold dNow; rw [if_neg h, h2, if_pos rfl, h3, if_pos rfl]
theorem dNow_err {N : Nat} {xs : List Int} {c : Int} {rs : List Int} {cs : List K3} {more x : Int} {R : List Int} {p : Pv} (h : ¬ more < 0) (h2 : andF N xs cs = (0, R)) (h3 : onF N xs c rs R 0 0 0 = (p, x)) (hx : x ≠ 0) : dNow N xs c rs cs more = ([], x) := by
 unfold dNow; rw [if_neg h, h2, if_pos rfl, h3, if_neg hx]
noncomputable def delayF (n : Int) (xs : List Int) (c : Int) (rs : List Int) (rate : Int) (inv : List Kc) : List Pv × Int :=
 if pzB n xs c rs = true ∧ btw rate 0 10000 = true ∧ invB n inv = true then
  (if (andF n (upTo n.toNat xs n.toNat) (inv.map con3)).1 = 0 then
   (if (dNow n.toNat xs c rs (inv.map con3) (moTo rate rs rs.length)).2 = 0 then
    gaF (dNow n.toNat xs c rs (inv.map con3) (moTo rate rs rs.length)).1 (dG n.toNat xs c rs (andF n (upTo n.toNat xs n.toNat) (inv.map con3)).2 (moTo rate rs rs.length)) 1 n.toNat
   else ([], (dNow n.toNat xs c rs (inv.map con3) (moTo rate rs rs.length)).2))
  else ([], 0))
 else ([], 2)
theorem delay_bad {n : Int} {xs : List Int} {c : Int} {rs : List Int} {rate : Int} {inv : List Kc} (h : ¬ (pzB n xs c rs = true ∧ btw rate 0 10000 = true ∧ invB n inv = true)) : delayF n xs c rs rate inv = ([], 2) := by
 unfold delayF; rw [if_neg h]
theorem delay_none {N : Nat} {xs : List Int} {c : Int} {rs : List Int} {rate : Int} {inv : List Kc} (h : pzB N xs c rs = true ∧ btw rate 0 10000 = true ∧ invB N inv = true) {x : Int} {R : List Int} (h2 : andF N (upTo N xs N) (inv.map con3) = (x, R)) (hx : x ≠ 0) : delayF N xs c rs rate inv = ([], 0) := by
 unfold delayF; rw [if_pos h, Int.toNat_natCast, h2, if_neg hx]
theorem delay_err {N : Nat} {xs : List Int} {c : Int} {rs : List Int} {rate : Int} {inv : List Kc} (h : pzB N xs c rs = true ∧ btw rate 0 10000 = true ∧ invB N inv = true) {all : List Int} (h2 : andF N (upTo N xs N) (inv.map con3) = (0, all)) {l : List Pv} {x : Int} (h3 : dNow N xs c rs (inv.map con3) (moTo rate rs rs.length) = (l, x)) (hx : x ≠ 0) : delayF N xs c rs rate inv = ([], x) := by
 unfold delayF; rw [if_pos h, Int.toNat_natCast, h2, if_pos rfl, h3, if_neg hx]
theorem delay_ga {N : Nat} {xs : List Int} {c : Int} {rs : List Int} {rate : Int} {inv : List Kc} (h : pzB N xs c rs = true ∧ btw rate 0 10000 = true ∧ invB N inv = true) {all : List Int} (h2 : andF N (upTo N xs N) (inv.map con3) = (0, all)) {l : List Pv} (h3 : dNow N xs c rs (inv.map con3) (moTo rate rs rs.length) = (l, 0)) : delayF N xs c rs rate inv = gaF l (dG N xs c rs all (moTo rate rs rs.length)) 1 N := by
 unfold delayF; rw [if_pos h, Int.toNat_natCast, h2, if_pos rfl, h3, if_pos rfl]
set_option linter.unusedVariables false
theorem hp_app {X w' : World} {b base : Nat} {o o' : Obj} {row : Option Nat} (h : X.heap[b]? = some o) (hg : (X.alloc o').grownBy w' row) (hr : ∀ g, row = some g → base ≤ g) (hb : b < base) : w'.heap[b]? = some o :=
 (hg.block b (by have := hp_lt3 h; simp; omega) (fun e => by have := hr b e.symm; omega)).trans (hp_keep4 h ((Below.refl _ X).alloc (Nat.le_refl _) o'))
theorem bw_app {w X w' : World} {base : Nat} {o' : Obj} {row : Option Nat} (h : Below w.heap.size w X) (hg : (X.alloc o').grownBy w' row) (hr : ∀ g, row = some g → base ≤ g) (hb : w.heap.size ≤ base) : Below w.heap.size w w' :=
 (bal h o').grown hg (bal h o').size (fun g e => Nat.le_trans hb (hr g e))
theorem own_lit3 {base : Nat} {w : World} (arr : Array Value) (e : Nat) (cs : List K3) (h : arr.toList = cs.flatMap cells3) (hl : cs.length ≤ 1000) (hb : base ≤ w.heap.size) : OK3 e base (w.alloc (.cells arr e)) (.slice (some ⟨w.heap.size, 0, none⟩) cs.length cs.length) cs := by
 have h2 : arr.size = cs.length * 3 := by rw [← Array.length_toList, h, flat3_len]
 exact ⟨flat3_len cs, .inr ⟨w.heap.size, cs.length, arr, rfl, hb, heap_alloc_new w _, Nat.le_refl _, by unfold maxLen; omega, h2, by rw [h, ← flat3_len cs]; exact List.take_length⟩⟩
theorem owns_form3n {t base : Nat} {w : World} {v : Value} {cs : List K3} (h : OK3 t base w v cs) : ∃ ao n cap, v = .slice ao n cap := by
 obtain ⟨ao, cap, rfl⟩ := owns_form h
 exact ⟨ao, _, cap, rfl⟩
theorem st4_ne {w : World} {b c : Nat} (x y z u : Value) (h : c ≠ b) : ((((w.setCell ⟨b, 0, none⟩ x).setCell ⟨b, 1, none⟩ y).setCell ⟨b, 2, none⟩ z).setCell ⟨b, 3, none⟩ u).heap[c]? = w.heap[c]? := by
 rw [Below.heap_setCell _ _ _ _ h, Below.heap_setCell _ _ _ _ h, Below.heap_setCell _ _ _ _ h, Below.heap_setCell _ _ _ _ h]
set_option maxRecDepth 100000 in
set_option maxHeartbeats 16000000 in
theorem prog_dhi (N i zb ab mb : Nat) (c more : Int) (v rv zv : Value) (xs rs zs : List Int) (X : World) (hz : X.heap[zb]? = some (.cells #[.int .i64 N, v, .int .i64 c, rv] 35 (0, 0))) (ha : X.heap[ab]? = some (.cells #[.int .i64 N, zv] 32 (0, 0))) (hm : X.heap[mb]? = some (.cells #[.int .i64 more] 2 (0, 0)))
  (hv : RL X.heap.size X v xs) (hr : RL X.heap.size X rv rs) (hzv : RL X.heap.size X zv zs) (hok : OkZ N xs) (hlr : rs.length = N) (hi1 : 1 ≤ i) (hi : i ≤ N) (hc : -9223372036854775808 ≤ c ∧ c ≤ 9223372036854775807) (hmo : 0 ≤ more) :
  Calls Tryz.prog 62 #[.int .i64 i, .pointer (some ⟨zb, 0, none⟩), .pointer (some ⟨ab, 0, none⟩), .pointer (some ⟨mb, 0, none⟩)] X fun e w' => PO X.heap.size (dG N xs c rs zs more i) e w' ∧ Below X.heap.size X w' := by
 have hN : N ≤ 10 := by have := hok.hi; omega
 have Hv := Lib.hid hv
 have Hr := Lib.hid hr
 have Hzv := Lib.hid hzv
 have Hok := Lib.hid hok
 have Hlr := Lib.hid hlr
 have Hc := Lib.hid hc
 obtain ⟨ao, cap, rfl, hle, _⟩ := hv.open
 obtain ⟨aor, capr, rfl, hler, _⟩ := hr.open
 obtain ⟨ao2, cap2, rfl, hle2, _⟩ := hzv.open
 have HBz := Lib.hid hz
 have HBa := Lib.hid ha
 have HBm := Lib.hid hm
 have HW := Lib.hid (Below.refl X.heap.size X)
 have Hmo := Lib.hid hmo
 clear hv hr hzv hok hlr hc hz ha hm
 go_enter Tryz.func62, Tryz.ntmps62
 have hba := (Below.refl _ X).alloc (Nat.le_refl _) (.cells #[.int .i64 0, .slice none 0 0, .int .i64 0, .slice none 0 0] 35)
 have hqn := heap_alloc_new X (.cells #[.int .i64 0, .slice none 0 0, .int .i64 0, .slice none 0 0] 35)
 have hqW := HW.out.size
 have hlz : zb < X.heap.size := hp_lt3 HBz.out
 have hqz := hp_keep4 HBz.out hba
 have hla : ab < X.heap.size := hp_lt3 HBa.out
 have hqa := hp_keep4 HBa.out hba
 have hlm : mb < X.heap.size := hp_lt3 HBm.out
 have hqm := hp_keep4 HBm.out hba
 have hqw := bt HW.out hba
 clear hba HW HBz HBa HBm
 go_upto_region 1 with fail
 generalize hgen : X.alloc (.cells #[.int .i64 0, .slice none 0 0, .int .i64 0, .slice none 0 0] 35) = X0 at *
 clear hgen
 have HBr := Lib.hid hqn
 have HBz := Lib.hid hqz
 have HBa := Lib.hid hqa
 have HBm := Lib.hid hqm
 have HW := Lib.hid hqw
 clear hqn hqw hqz hqa hqm
 have z0 : X0.cell? ⟨zb, 0, none⟩ = some (.int .i64 N) := cell_of_row _ (zb) 0 _ _ _ HBz.out
 have zf0 : X0.frozen? ⟨zb, 0, none⟩ = false := frozen_of_row _ (zb) 0 _ _ HBz.out
 have z1 : X0.cell? ⟨zb, 1, none⟩ = some (.slice ao xs.length cap) := cell_of_row _ (zb) 1 _ _ _ HBz.out
 have zf1 : X0.frozen? ⟨zb, 1, none⟩ = false := frozen_of_row _ (zb) 1 _ _ HBz.out
 have z2 : X0.cell? ⟨zb, 2, none⟩ = some (.int .i64 c) := cell_of_row _ (zb) 2 _ _ _ HBz.out
 have zf2 : X0.frozen? ⟨zb, 2, none⟩ = false := frozen_of_row _ (zb) 2 _ _ HBz.out
 have z3 : X0.cell? ⟨zb, 3, none⟩ = some (.slice aor rs.length capr) := cell_of_row _ (zb) 3 _ _ _ HBz.out
 have zf3 : X0.frozen? ⟨zb, 3, none⟩ = false := frozen_of_row _ (zb) 3 _ _ HBz.out
 go_wp2_with fail
 refine (prog_bound N _ (i : Int) 0 xs _ (Hv.out.keepb HW.out) Hok.out (by omega) (by omega) (by omega) (by omega)).mono ?_
 rintro e w1 ⟨rfl, hb⟩
 clear z0 zf0 z1 zf1 z2 zf2 z3 zf3
 replace HBz := Lib.hid (hp_keep4 HBz.out hb)
 replace HBa := Lib.hid (hp_keep4 HBa.out hb)
 replace HBm := Lib.hid (hp_keep4 HBm.out hb)
 replace HBr := Lib.hid (hp_keep4 HBr.out hb)
 replace HW := Lib.hid (bt HW.out hb)
 clear hb
 rw [show (0 : Int).toNat = 0 from rfl, Int.toNat_natCast]
 by_cases hn : ent N xs i 0 = 1099511627776
 ·have hnb : decide (ent N xs i 0 ≠ 1099511627776) = false := by simpa using hn
  have HG := Lib.hid (dG_none (xs := xs) (c := c) (rs := rs) (all := zs) (Int.not_lt.2 Hmo.out) hn (N := N))
  rw [hnb]
  clear hnb hn
  have t0 : w1.cell? ⟨X.heap.size, 0, none⟩ = some (.int .i64 0) := cell_of_row _ (X.heap.size) 0 _ _ _ HBr.out
  have tf0 : w1.frozen? ⟨X.heap.size, 0, none⟩ = false := frozen_of_row _ (X.heap.size) 0 _ _ HBr.out
  have t1 : w1.cell? ⟨X.heap.size, 1, none⟩ = some (.slice none 0 0) := cell_of_row _ (X.heap.size) 1 _ _ _ HBr.out
  have tf1 : w1.frozen? ⟨X.heap.size, 1, none⟩ = false := frozen_of_row _ (X.heap.size) 1 _ _ HBr.out
  have t2 : w1.cell? ⟨X.heap.size, 2, none⟩ = some (.int .i64 0) := cell_of_row _ (X.heap.size) 2 _ _ _ HBr.out
  have tf2 : w1.frozen? ⟨X.heap.size, 2, none⟩ = false := frozen_of_row _ (X.heap.size) 2 _ _ HBr.out
  have t3 : w1.cell? ⟨X.heap.size, 3, none⟩ = some (.slice none 0 0) := cell_of_row _ (X.heap.size) 3 _ _ _ HBr.out
  have tf3 : w1.frozen? ⟨X.heap.size, 3, none⟩ = false := frozen_of_row _ (X.heap.size) 3 _ _ HBr.out
  go_wp2_with fail
  refine bodyPost_ret (v := .tuple #[.agg #[.int .i64 0, .slice none 0 0, .int .i64 0, .slice none 0 0], .int .i64 4]) (by simp [results, Tryz.results62, go_sem, t0, t1, t2, t3]) rfl ⟨by rw [HG.out]; exact PO.err rfl _, ?_⟩
  exact ((((HW.out).setCell (by show X.heap.size ≤ X.heap.size; omega) _).setCell (by show X.heap.size ≤ X.heap.size; omega) _).setCell (by show X.heap.size ≤ X.heap.size; omega) _).setCell (by show X.heap.size ≤ X.heap.size; omega) _
 have hnb : decide (ent N xs i 0 ≠ 1099511627776) = true := by simpa using hn
 have HD := Lib.hid (dG_high (xs := xs) (c := c) (rs := rs) (all := zs) (Int.not_lt.2 Hmo.out) hn (N := N))
 rw [hnb]
 clear hnb
 have hbd := hi_bd Hok.out hi
 have H0 := Lib.hid (show dhTo N xs i 0 = [wk 0 i (-hiF N xs i)] from rfl)
 have HS := Lib.hid (fun (q : Nat) (h : q + 1 = i ∨ ent N xs (q + 1) 0 = 1099511627776) => dhTo_same (N := N) h)
 have HM := Lib.hid (fun (q : Nat) (h : q + 1 ≠ i) (h2 : ent N xs (q + 1) 0 ≠ 1099511627776) => dhTo_more (N := N) h h2)
 have HL := Lib.hid (dhTo_len N xs i)
 obtain ⟨T, hT⟩ : ∃ T, hiF N xs i = T := ⟨_, rfl⟩
 have hT2 : ent N xs i 0 / 2 = T := hT
 rw [hT] at hbd H0 HD
 replace HM := Lib.hid (fun (q : Nat) (h : q + 1 ≠ i) (h2 : ent N xs (q + 1) 0 ≠ 1099511627776) => (by rw [← hT]; exact HM.out q h h2 : dhTo N xs i (q + 1) = dhTo N xs i q ++ [wk ((q + 1 : Nat) : Int) i (hiF N xs (q + 1) - T)]))
 rw [hT2]
 clear hT hT2
 go_wp2_with fail
 refine (prog_weak 0 i (-T) _ (by omega) (by omega)).mono ?_
 rintro e w2 ⟨rfl, hb⟩
 replace HBz := Lib.hid (hp_keep4 HBz.out hb)
 replace HBa := Lib.hid (hp_keep4 HBa.out hb)
 replace HBm := Lib.hid (hp_keep4 HBm.out hb)
 replace HBr := Lib.hid (hp_keep4 HBr.out hb)
 replace HW := Lib.hid (bt HW.out hb)
 clear hb
 have Hlit := Lib.hid (own_lit3 (base := X.heap.size + 1) (w := w2) #[.int .i64 0, .int .i64 i, .int .i64 (2 * -T + 1)] 98 [wk 0 i (-T)] rfl (by simp) (hp_lt3 HBr.out))
 rw [← H0.out] at Hlit
 have hRX := HW.out.size
 have hba := (Below.refl _ w2).alloc (Nat.le_refl _) (.cells #[.int .i64 0, .int .i64 i, .int .i64 (2 * -T + 1)] 98)
 have hqz := hp_keep4 HBz.out hba
 have hqa := hp_keep4 HBa.out hba
 have hqm := hp_keep4 HBm.out hba
 have hqr := hp_keep4 HBr.out hba
 have hqw := bt HW.out hba
 clear hba HW HBz HBa HBm HBr
 go_upto_region 6 with fail
 generalize hgen : w2.alloc (.cells #[.int .i64 0, .int .i64 i, .int .i64 (2 * -T + 1)] 98) = X2 at *
 clear hgen
 generalize hgen : w2.heap.size = Y at *
 clear hgen
 have HBz := Lib.hid hqz
 have HBa := Lib.hid hqa
 have HBm := Lib.hid hqm
 have HBr := Lib.hid hqr
 have HW := Lib.hid hqw
 clear hqw hqz hqa hqm hqr
 go_wp2_with fail
 go_loopw [10, 9] (fun j u wr => ∃ q : Nat, q ≤ N ∧ j = .int .i64 ((q : Int) + 1) ∧ OK3 98 (X.heap.size + 1) wr u (dhTo N xs i q) ∧ wr.heap[zb]? = some (.cells #[.int .i64 N, .slice ao xs.length cap, .int .i64 c, .slice aor rs.length capr] 35 (0, 0)) ∧ wr.heap[ab]? = some (.cells #[.int .i64 N, .slice ao2 zs.length cap2] 32 (0, 0)) ∧ wr.heap[mb]? = some (.cells #[.int .i64 more] 2 (0, 0)) ∧ wr.heap[X.heap.size]? = some (.cells #[.int .i64 0, .slice none 0 0, .int .i64 0, .slice none 0 0] 35 (0, 0)) ∧ Below X.heap.size X wr) (fun j _ _ => N + 1 - (intOf j).toNat)
 case atStart => exact ⟨0, Nat.zero_le _, by simp, Hlit.out, HBz.out, HBa.out, HBm.out, HBr.out, HW.out⟩
 case round =>
  clear HW HBz HBa HBm HBr
  obtain ⟨q, hq, rfl, hk3, hz, ha, hm, hr, hw⟩ := hrel
  have HK := Lib.hid hk3
  have HW := Lib.hid hw
  have HBz := Lib.hid hz
  have HBa := Lib.hid ha
  have HBm := Lib.hid hm
  have HBr := Lib.hid hr
  obtain ⟨aok, nk, capk, rfl⟩ := owns_form3n hk3
  clear hk3 hw hz ha hm hr
  try clear Hlit H0
  by_cases hlt : q < N
  rotate_left
  ·have htk : decide ((q : Int) + 1 ≤ (N : Int)) = false := by simp; omega
   have hqN : q = N := by omega
   rw [hqN] at HK
   clear hqN
   have z0 : wr.cell? ⟨zb, 0, none⟩ = some (.int .i64 N) := cell_of_row _ (zb) 0 _ _ _ HBz.out
   have zf0 : wr.frozen? ⟨zb, 0, none⟩ = false := frozen_of_row _ (zb) 0 _ _ HBz.out
   have z1 : wr.cell? ⟨zb, 1, none⟩ = some (.slice ao xs.length cap) := cell_of_row _ (zb) 1 _ _ _ HBz.out
   have zf1 : wr.frozen? ⟨zb, 1, none⟩ = false := frozen_of_row _ (zb) 1 _ _ HBz.out
   have z2 : wr.cell? ⟨zb, 2, none⟩ = some (.int .i64 c) := cell_of_row _ (zb) 2 _ _ _ HBz.out
   have zf2 : wr.frozen? ⟨zb, 2, none⟩ = false := frozen_of_row _ (zb) 2 _ _ HBz.out
   have z3 : wr.cell? ⟨zb, 3, none⟩ = some (.slice aor rs.length capr) := cell_of_row _ (zb) 3 _ _ _ HBz.out
   have zf3 : wr.frozen? ⟨zb, 3, none⟩ = false := frozen_of_row _ (zb) 3 _ _ HBz.out
   have a0 : wr.cell? ⟨ab, 0, none⟩ = some (.int .i64 N) := cell_of_row _ (ab) 0 _ _ _ HBa.out
   have af0 : wr.frozen? ⟨ab, 0, none⟩ = false := frozen_of_row _ (ab) 0 _ _ HBa.out
   have a1 : wr.cell? ⟨ab, 1, none⟩ = some (.slice ao2 zs.length cap2) := cell_of_row _ (ab) 1 _ _ _ HBa.out
   have af1 : wr.frozen? ⟨ab, 1, none⟩ = false := frozen_of_row _ (ab) 1 _ _ HBa.out
   have m0 : wr.cell? ⟨mb, 0, none⟩ = some (.int .i64 more) := cell_of_row _ (mb) 0 _ _ _ HBm.out
   have mf0 : wr.frozen? ⟨mb, 0, none⟩ = false := frozen_of_row _ (mb) 0 _ _ HBm.out
   have HLn := Lib.hid (show (dhTo N xs i N).length ≤ N + 1 from HL.out N)
   obtain ⟨⟨⟨n', xs', c', rs'⟩, x'⟩, hG⟩ : ∃ Q, pcutF 4 N xs c rs zs (dhTo N xs i N) more i T = Q := ⟨_, rfl⟩
   have HG := Lib.hid (HD.out.trans hG)
   go_wp2_with fail
   refine (prog_pcut N i c more T _ _ _ _ xs rs zs (dhTo N xs i N) _ (Hv.out.keepb HW.out) (Hr.out.keepb HW.out) (Hzv.out.keepb HW.out) (OK3.rk HK.out) Hok.out Hlr.out hi Hc.out (fun h => by omega)).mono ?_
   rw [hG]
   rintro e w7 ⟨⟨v', rv', he, ov, orv⟩, hb⟩
   obtain rfl : e = .returned (.tuple #[.agg #[.int .i64 n', v', .int .i64 c', rv'], .int .i64 x']) := he
   obtain ⟨aov, capv, rfl⟩ := owns_form ov
   obtain ⟨aow, capw, rfl⟩ := owns_form orv
   have hRl : X.heap.size < wr.heap.size := hp_lt3 HBr.out
   have hXl := HW.out.size
   have Ho1 := Lib.hid ov
   have Ho2 := Lib.hid orv
   clear ov orv hG
   clear z0 zf0 z1 zf1 z2 zf2 z3 zf3
   clear a0 af0 a1 af1
   clear m0 mf0
   clear HK
   replace HBz := Lib.hid (hp_keep4 HBz.out hb)
   replace HBa := Lib.hid (hp_keep4 HBa.out hb)
   replace HBm := Lib.hid (hp_keep4 HBm.out hb)
   replace HBr := Lib.hid (hp_keep4 HBr.out hb)
   replace HW := Lib.hid (bt HW.out hb)
   clear hb
   have t0 : w7.cell? ⟨X.heap.size, 0, none⟩ = some (.int .i64 0) := cell_of_row _ (X.heap.size) 0 _ _ _ HBr.out
   have tf0 : w7.frozen? ⟨X.heap.size, 0, none⟩ = false := frozen_of_row _ (X.heap.size) 0 _ _ HBr.out
   have t1 : w7.cell? ⟨X.heap.size, 1, none⟩ = some (.slice none 0 0) := cell_of_row _ (X.heap.size) 1 _ _ _ HBr.out
   have tf1 : w7.frozen? ⟨X.heap.size, 1, none⟩ = false := frozen_of_row _ (X.heap.size) 1 _ _ HBr.out
   have t2 : w7.cell? ⟨X.heap.size, 2, none⟩ = some (.int .i64 0) := cell_of_row _ (X.heap.size) 2 _ _ _ HBr.out
   have tf2 : w7.frozen? ⟨X.heap.size, 2, none⟩ = false := frozen_of_row _ (X.heap.size) 2 _ _ HBr.out
   have t3 : w7.cell? ⟨X.heap.size, 3, none⟩ = some (.slice none 0 0) := cell_of_row _ (X.heap.size) 3 _ _ _ HBr.out
   have tf3 : w7.frozen? ⟨X.heap.size, 3, none⟩ = false := frozen_of_row _ (X.heap.size) 3 _ _ HBr.out
   go_wp2_with fail
   refine bodyPost_ret (v := .tuple #[.agg #[.int .i64 n', .slice aov xs'.length capv, .int .i64 c', .slice aow rs'.length capw], .int .i64 x']) (by simp [results, Tryz.results62, go_sem, t0, t1, t2, t3]) rfl ⟨by rw [HG.out]; exact ⟨_, _, rfl, owns_mono (own_set4 Ho1.out hRl _ _ _ _) hXl, owns_mono (own_set4 Ho2.out hRl _ _ _ _) hXl⟩, ?_⟩
   exact ((((HW.out).setCell (by show X.heap.size ≤ X.heap.size; omega) _).setCell (by show X.heap.size ≤ X.heap.size; omega) _).setCell (by show X.heap.size ≤ X.heap.size; omega) _).setCell (by show X.heap.size ≤ X.heap.size; omega) _
  have htk : decide ((q : Int) + 1 ≤ (N : Int)) = true := by simp; omega
  have z0 : wr.cell? ⟨zb, 0, none⟩ = some (.int .i64 N) := cell_of_row _ (zb) 0 _ _ _ HBz.out
  have zf0 : wr.frozen? ⟨zb, 0, none⟩ = false := frozen_of_row _ (zb) 0 _ _ HBz.out
  have z1 : wr.cell? ⟨zb, 1, none⟩ = some (.slice ao xs.length cap) := cell_of_row _ (zb) 1 _ _ _ HBz.out
  have zf1 : wr.frozen? ⟨zb, 1, none⟩ = false := frozen_of_row _ (zb) 1 _ _ HBz.out
  have z2 : wr.cell? ⟨zb, 2, none⟩ = some (.int .i64 c) := cell_of_row _ (zb) 2 _ _ _ HBz.out
  have zf2 : wr.frozen? ⟨zb, 2, none⟩ = false := frozen_of_row _ (zb) 2 _ _ HBz.out
  have z3 : wr.cell? ⟨zb, 3, none⟩ = some (.slice aor rs.length capr) := cell_of_row _ (zb) 3 _ _ _ HBz.out
  have zf3 : wr.frozen? ⟨zb, 3, none⟩ = false := frozen_of_row _ (zb) 3 _ _ HBz.out
  go_wp2_with fail
  refine (prog_bound N _ ((q : Int) + 1) 0 xs _ (Hv.out.keepb HW.out) Hok.out (by omega) (by omega) (by omega) (by omega)).mono ?_
  rintro e w3 ⟨rfl, hb⟩
  rw [show (0 : Int).toNat = 0 from rfl, show ((q : Int) + 1).toNat = q + 1 by omega]
  clear z0 zf0 z1 zf1 z2 zf2 z3 zf3
  replace HBz := Lib.hid (hp_keep4 HBz.out hb)
  replace HBa := Lib.hid (hp_keep4 HBa.out hb)
  replace HBm := Lib.hid (hp_keep4 HBm.out hb)
  replace HBr := Lib.hid (hp_keep4 HBr.out hb)
  replace HK := Lib.hid (OK3.keepw HK.out hb)
  replace HW := Lib.hid (bt HW.out hb)
  clear hb
  by_cases hn2 : ent N xs (q + 1) 0 = 1099511627776
  ·have hnb : decide (ent N xs (q + 1) 0 ≠ 1099511627776) = false := by simpa using hn2
   have HK2 := HK
   rw [← HS.out q (.inr hn2)] at HK2
   rw [hnb]
   clear hnb hn2
   go_wp2_with fail
   go_roundw
   case rel => exact ⟨q + 1, by omega, by go_num, HK2.out, HBz.out, HBa.out, HBm.out, HBr.out, HW.out⟩
   case measure => simp [intOf]; omega
  have hnb : decide (ent N xs (q + 1) 0 ≠ 1099511627776) = true := by simpa using hn2
  rw [hnb]
  clear hnb
  by_cases hqi : q + 1 = i
  ·have hne : (((q : Int) + 1) != (i : Int)) = false := by simp; omega
   have HK2 := HK
   rw [← HS.out q (.inl hqi)] at HK2
   clear hn2
   go_wp2_with fail
   go_roundw
   case rel => exact ⟨q + 1, by omega, by go_num, HK2.out, HBz.out, HBa.out, HBm.out, HBr.out, HW.out⟩
   case measure => simp [intOf]; omega
  have hne : (((q : Int) + 1) != (i : Int)) = true := by simp; omega
  have hbq := hi_bd Hok.out (show q + 1 ≤ N by omega)
  have HMq := Lib.hid (HM.out q hqi hn2)
  obtain ⟨T2, hT2⟩ : ∃ T2, hiF N xs (q + 1) = T2 := ⟨_, rfl⟩
  have hT3 : ent N xs (q + 1) 0 / 2 = T2 := hT2
  rw [hT2] at hbq HMq
  rw [hT3]
  clear hT2 hT3 hn2
  go_wp2_with fail
  refine (prog_weak ((q : Int) + 1) i (T2 - T) _ (by omega) (by omega)).mono ?_
  rintro e w4 ⟨rfl, hb⟩
  replace HBz := Lib.hid (hp_keep4 HBz.out hb)
  replace HBa := Lib.hid (hp_keep4 HBa.out hb)
  replace HBm := Lib.hid (hp_keep4 HBm.out hb)
  replace HBr := Lib.hid (hp_keep4 HBr.out hb)
  replace HK := Lib.hid (OK3.keepw HK.out hb)
  replace HW := Lib.hid (bt HW.out hb)
  clear hb
  have hRl : X.heap.size + 1 ≤ w4.heap.size := hp_lt3 HBr.out
  go_wp2_with (at_builtin; go_loud (refine wpList_append_k rfl (.tmp 48) (.tmp 55) 96 rfl 98 Tryz.undKs Tryz.infoK (X.heap.size + 1) (.slice aok nk capk) rfl (dhTo N xs i q) ?_ ?_ (.slice (some ⟨w4.heap.size, 0, none⟩) 1 1) rfl [wk ((q + 1 : Nat) : Int) i (T2 - T)] (w4.heap.size + 1) ?_ ?_ ?_; (exact World.ownsRow.alloc HK.out _); (simp; omega); (exact rs_lit3 (w := w4) rfl rfl (by simp)); (have := HL.out q; simp only [List.length_cons, List.length_nil]; omega); intro v' w5 ho' hg'))
  have hgb := fun g e => (World.ownsRow.lt HK.out g e).1
  replace HBz := Lib.hid (hp_app HBz.out hg' hgb (by omega))
  replace HBa := Lib.hid (hp_app HBa.out hg' hgb (by omega))
  replace HBm := Lib.hid (hp_app HBm.out hg' hgb (by omega))
  replace HBr := Lib.hid (hp_app HBr.out hg' hgb (by omega))
  replace HW := Lib.hid (bw_app HW.out hg' hgb (by omega))
  clear hgb hg'
  have HK2 := Lib.hid ho'
  rw [← HMq.out] at HK2
  go_wp2_with fail
  go_roundw
  case rel => exact ⟨q + 1, by omega, by go_num, HK2.out, HBz.out, HBa.out, HBm.out, HBr.out, HW.out⟩
  case measure => simp [intOf]; omega
set_option linter.unusedVariables false
theorem step_append_k {P : Program} {ops : Array Oper} {o : Oper} {a : Act} {w : World} {K : Act → World → Prop} {Q : Exit → Act → World → Prop} {E : Prop}
    (hg : o.guard = none) (s x : Operand) (t : TypeId) (ho : o.op = Op.call { callee := Callee.builtin Builtin.append, args := #[s, x], argTypes := #[t, t] })
    (e : TypeId) (ht : P.underlying t = some (.slice e)) (hi : (P.info? e).map (fun i => (i.zero, i.size, i.bytes)) = some (some (.agg #[.int .i64 0, .int .i64 0, .int .i64 0]), 3, 24))
    (base : Nat) (v : Value) (hs : a.eval s = v) (cs : List K3) (hown : OK3 e base w v cs) (hbase : base ≤ w.heap.size)
    (xv : Value) (hx : a.eval x = xv) (l : List K3) (B : Nat) (hr : RS B w xv l.length (l.flatMap cells3)) (hl : cs.length + l.length ≤ 100000)
    (h : ∀ v' w', OK3 e base w' v' (cs ++ l) → w.grownBy w' v.ownBlock → K (a.put o.dst v') w') :
    if Region.wanted o (yielded ops a.tmps) = true then Oper.wp P o a w K Q else E := by
  obtain ⟨i0, hi0, hz0, hz1, hz2⟩ := info_parts hi
  refine step_append_rs hg s x t ho base e i0 _ 3 24 ht hi0 hz0 hz1 hz2 (by decide) (by decide) v cs.length (cs.flatMap cells3) hs hown B xv hx l.length (l.flatMap cells3) hr (flat3_len l) (ints_one3 l) (by unfold maxLen; omega) (by omega) hbase ?_
  intro v' w' h1 h2
  refine h v' w' ?_ h2
  unfold OK3
  rw [List.length_append, List.flatMap_append]
  exact h1
set_option maxRecDepth 100000 in
set_option maxHeartbeats 16000000 in
theorem prog_dlo (N i zb ab mb : Nat) (c more : Int) (v rv zv : Value) (xs rs zs : List Int) (X : World) (hz : X.heap[zb]? = some (.cells #[.int .i64 N, v, .int .i64 c, rv] 35 (0, 0))) (ha : X.heap[ab]? = some (.cells #[.int .i64 N, zv] 32 (0, 0))) (hm : X.heap[mb]? = some (.cells #[.int .i64 more] 2 (0, 0)))
  (hv : RL X.heap.size X v xs) (hr : RL X.heap.size X rv rs) (hzv : RL X.heap.size X zv zs) (hok : OkZ N xs) (hlr : rs.length = N) (hi1 : 1 ≤ i) (hi : i ≤ N) (hc : -9223372036854775808 ≤ c ∧ c ≤ 9223372036854775807) (hmo : more < 0) :
  Calls Tryz.prog 57 #[.int .i64 i, .pointer (some ⟨zb, 0, none⟩), .pointer (some ⟨ab, 0, none⟩), .pointer (some ⟨mb, 0, none⟩)] X fun e w' => PO X.heap.size (dG N xs c rs zs more i) e w' ∧ Below X.heap.size X w' := by
 have hN : N ≤ 10 := by have := hok.hi; omega
 have Hv := Lib.hid hv
 have Hr := Lib.hid hr
 have Hzv := Lib.hid hzv
 have Hok := Lib.hid hok
 have Hlr := Lib.hid hlr
 have Hc := Lib.hid hc
 obtain ⟨ao, cap, rfl, hle, _⟩ := hv.open
 obtain ⟨aor, capr, rfl, hler, _⟩ := hr.open
 obtain ⟨ao2, cap2, rfl, hle2, _⟩ := hzv.open
 have HBz := Lib.hid hz
 have HBa := Lib.hid ha
 have HBm := Lib.hid hm
 have HW := Lib.hid (Below.refl X.heap.size X)
 have Hmo := Lib.hid hmo
 clear hv hr hzv hok hlr hc hz ha hm
 go_enter Tryz.func57, Tryz.ntmps57
 have hba := (Below.refl _ X).alloc (Nat.le_refl _) (.cells #[.int .i64 0, .slice none 0 0, .int .i64 0, .slice none 0 0] 35)
 have hqn := heap_alloc_new X (.cells #[.int .i64 0, .slice none 0 0, .int .i64 0, .slice none 0 0] 35)
 have hqW := HW.out.size
 have hlz : zb < X.heap.size := hp_lt3 HBz.out
 have hqz := hp_keep4 HBz.out hba
 have hla : ab < X.heap.size := hp_lt3 HBa.out
 have hqa := hp_keep4 HBa.out hba
 have hlm : mb < X.heap.size := hp_lt3 HBm.out
 have hqm := hp_keep4 HBm.out hba
 have hqw := bt HW.out hba
 clear hba HW HBz HBa HBm
 go_upto_region 1 with fail
 generalize hgen : X.alloc (.cells #[.int .i64 0, .slice none 0 0, .int .i64 0, .slice none 0 0] 35) = X0 at *
 clear hgen
 have HBr := Lib.hid hqn
 have HBz := Lib.hid hqz
 have HBa := Lib.hid hqa
 have HBm := Lib.hid hqm
 have HW := Lib.hid hqw
 clear hqn hqw hqz hqa hqm
 have H0 := Lib.hid (show dlTo N xs i 0 = [] from rfl)
 have HS := Lib.hid (fun (q : Nat) (h : q + 1 = i) => dlTo_same (N := N) (xs := xs) h)
 have HM := Lib.hid (fun (q : Nat) (h : q + 1 ≠ i) => dlTo_more (N := N) (xs := xs) h)
 have HL := Lib.hid (dlTo_len N xs i)
 have HD := Lib.hid (dG_low (xs := xs) (c := c) (rs := rs) (all := zs) Hmo.out i (N := N))
 have hbd := low_bd Hok.out hi
 obtain ⟨T, hT⟩ : ∃ T, lowF N xs i = T := ⟨_, rfl⟩
 rw [hT] at hbd HD
 replace HM := Lib.hid (fun (q : Nat) (h : q + 1 ≠ i) => (by rw [← hT]; exact HM.out q h : dlTo N xs i (q + 1) = dlTo N xs i q ++ [wk i ((q + 1 : Nat) : Int) (T - lowF N xs (q + 1))]))
 have HT := Lib.hid hT
 clear hT
 go_wp2_with fail
 go_loopw [8, 7] (fun j u wr => ∃ q : Nat, q ≤ N ∧ j = .int .i64 ((q : Int) + 1) ∧ OK3 98 (X.heap.size + 1) wr u (dlTo N xs i q) ∧ wr.heap[zb]? = some (.cells #[.int .i64 N, .slice ao xs.length cap, .int .i64 c, .slice aor rs.length capr] 35 (0, 0)) ∧ wr.heap[ab]? = some (.cells #[.int .i64 N, .slice ao2 zs.length cap2] 32 (0, 0)) ∧ wr.heap[mb]? = some (.cells #[.int .i64 more] 2 (0, 0)) ∧ wr.heap[X.heap.size]? = some (.cells #[.int .i64 0, .slice none 0 0, .int .i64 0, .slice none 0 0] 35 (0, 0)) ∧ Below X.heap.size X wr) (fun j _ _ => N + 1 - (intOf j).toNat)
 case atStart => exact ⟨0, Nat.zero_le _, by simp, by rw [H0.out]; exact ⟨rfl, .inl ⟨rfl, rfl⟩⟩, HBz.out, HBa.out, HBm.out, HBr.out, HW.out⟩
 case round =>
  clear HW HBz HBa HBm HBr
  obtain ⟨q, hq, rfl, hk3, hz, ha, hm, hr, hw⟩ := hrel
  have HK := Lib.hid hk3
  have HW := Lib.hid hw
  have HBz := Lib.hid hz
  have HBa := Lib.hid ha
  have HBm := Lib.hid hm
  have HBr := Lib.hid hr
  obtain ⟨aok, nk, capk, rfl⟩ := owns_form3n hk3
  clear hk3 hw hz ha hm hr
  try clear H0
  by_cases hlt : q < N
  rotate_left
  ·have htk : decide ((q : Int) + 1 ≤ (N : Int)) = false := by simp; omega
   have hqN : q = N := by omega
   rw [hqN] at HK
   clear hqN
   have z0 : wr.cell? ⟨zb, 0, none⟩ = some (.int .i64 N) := cell_of_row _ (zb) 0 _ _ _ HBz.out
   have z1 : wr.cell? ⟨zb, 1, none⟩ = some (.slice ao xs.length cap) := cell_of_row _ (zb) 1 _ _ _ HBz.out
   have z2 : wr.cell? ⟨zb, 2, none⟩ = some (.int .i64 c) := cell_of_row _ (zb) 2 _ _ _ HBz.out
   have z3 : wr.cell? ⟨zb, 3, none⟩ = some (.slice aor rs.length capr) := cell_of_row _ (zb) 3 _ _ _ HBz.out
   have a0 : wr.cell? ⟨ab, 0, none⟩ = some (.int .i64 N) := cell_of_row _ (ab) 0 _ _ _ HBa.out
   have a1 : wr.cell? ⟨ab, 1, none⟩ = some (.slice ao2 zs.length cap2) := cell_of_row _ (ab) 1 _ _ _ HBa.out
   have m0 : wr.cell? ⟨mb, 0, none⟩ = some (.int .i64 more) := cell_of_row _ (mb) 0 _ _ _ HBm.out
   have HLn := Lib.hid (show (dlTo N xs i N).length ≤ N from HL.out N)
   go_upto_region 7 with fail
   refine wp_region_noPanic ?_
   refine wp_region_held_drew (S := (fun w' => w'.cell? ⟨zb, 0, none⟩ = some (.int .i64 N) ∧ w'.cell? ⟨zb, 1, none⟩ = some (.slice ao xs.length cap) ∧ w'.cell? ⟨zb, 2, none⟩ = some (.int .i64 c) ∧ w'.cell? ⟨zb, 3, none⟩ = some (.slice aor rs.length capr) ∧ w'.cell? ⟨ab, 0, none⟩ = some (.int .i64 N) ∧ w'.cell? ⟨ab, 1, none⟩ = some (.slice ao2 zs.length cap2) ∧ w'.cell? ⟨mb, 0, none⟩ = some (.int .i64 more))) (by kernel_rfl) ⟨z0, z1, z2, z3, a0, a1, m0⟩ (fun hHeld => ?_)
   refine wpAnyH_take (i := 0) (v := ?_) rfl (by kernel_rfl) (by kernel_rfl) (by kernel_rfl) (fun _ _ _ h => h) (Or.inl ⟨by rfl, ?_⟩) (by assumption) ?_
   rotate_left
   ·intro w hSw; (try dsimp only at hSw); go_simp; (try with_reducible rfl)
   try simp only [Act.put, List.getElem_toArray, List.getElem_cons_zero, List.setIfInBounds_toArray, List.set_cons_zero, List.set_cons_succ]
   refine wpAnyH_take (i := 1) (v := ?_) rfl (by kernel_rfl) (by kernel_rfl) (by kernel_rfl) (fun _ _ _ h => h) (Or.inl ⟨by rfl, ?_⟩) (by assumption) ?_
   rotate_left
   ·intro w hSw; (try dsimp only at hSw); go_simp; (try with_reducible rfl)
   try simp only [Act.put, List.getElem_toArray, List.getElem_cons_zero, List.getElem_cons_succ, List.setIfInBounds_toArray, List.set_cons_zero, List.set_cons_succ]
   refine wpAnyH_take (i := 2) (v := ?_) rfl (by kernel_rfl) (by kernel_rfl) (by kernel_rfl) (fun _ _ _ h => h) (Or.inl ⟨by rfl, ?_⟩) (by assumption) ?_
   rotate_left
   ·intro w hSw; (try dsimp only at hSw); go_simp; (try with_reducible rfl)
   try simp only [Act.put, List.getElem_toArray, List.getElem_cons_zero, List.getElem_cons_succ, List.setIfInBounds_toArray, List.set_cons_zero, List.set_cons_succ]
   refine wpAnyH_take (i := 3) (v := ?_) rfl (by kernel_rfl) (by kernel_rfl) (by kernel_rfl) (fun _ _ _ h => h) (Or.inl ⟨by rfl, ?_⟩) (by assumption) ?_
   rotate_left
   ·intro w hSw; (try dsimp only at hSw); go_simp; (try with_reducible rfl)
   try simp only [Act.put, List.getElem_toArray, List.getElem_cons_zero, List.getElem_cons_succ, List.setIfInBounds_toArray, List.set_cons_zero, List.set_cons_succ]
   refine wpAnyH_take (i := 4) (v := ?_) rfl (by kernel_rfl) (by kernel_rfl) (by kernel_rfl) (fun _ _ _ h => h) (Or.inl ⟨by rfl, ?_⟩) (by assumption) ?_
   rotate_left
   ·intro w hSw; (try dsimp only at hSw); go_simp; (try with_reducible rfl)
   try simp only [Act.put, List.getElem_toArray, List.getElem_cons_zero, List.getElem_cons_succ, List.setIfInBounds_toArray, List.set_cons_zero, List.set_cons_succ]
   refine wpAnyH_take (i := 5) (v := ?_) rfl (by kernel_rfl) (by kernel_rfl) (by kernel_rfl) (fun _ _ _ h => h) (Or.inl ⟨by rfl, ?_⟩) (by assumption) ?_
   rotate_left
   ·intro w hSw; (try dsimp only at hSw); go_simp; (try with_reducible rfl)
   try simp only [Act.put, List.getElem_toArray, List.getElem_cons_zero, List.getElem_cons_succ, List.setIfInBounds_toArray, List.set_cons_zero, List.set_cons_succ]
   refine wpAnyH_take (i := 6) (v := ?_) rfl (by kernel_rfl) (by kernel_rfl) (by kernel_rfl) (fun _ _ _ h => h) (Or.inl ⟨by rfl, ?_⟩) (by assumption) ?_
   rotate_left
   ·intro w hSw; (try dsimp only at hSw); go_simp; (try with_reducible rfl)
   try simp only [Act.put, List.getElem_toArray, List.getElem_cons_zero, List.getElem_cons_succ, List.setIfInBounds_toArray, List.set_cons_zero, List.set_cons_succ]
   refine wpAnyH_take (i := 7) (v := ?_) rfl (by kernel_rfl) (by kernel_rfl) (by kernel_rfl) (fun _ _ _ h => h) (Or.inl ⟨by rfl, ?_⟩) (by assumption) ?_
   rotate_left
   ·intro w hSw; (try dsimp only at hSw); go_simp; (try with_reducible rfl)
   try simp only [Act.put, List.getElem_toArray, List.getElem_cons_zero, List.getElem_cons_succ, List.setIfInBounds_toArray, List.set_cons_zero, List.set_cons_succ]
   clear z0 z1 z2 z3
   clear a0 a1
   clear m0
   have hb : Below wr.heap.size wr wr.drew := (Below.refl _ _).drew
   try clear hHeld
   replace HBz := Lib.hid (hp_keep4 HBz.out hb)
   replace HBa := Lib.hid (hp_keep4 HBa.out hb)
   replace HBm := Lib.hid (hp_keep4 HBm.out hb)
   replace HBr := Lib.hid (hp_keep4 HBr.out hb)
   replace HK := Lib.hid (OK3.keepw HK.out hb)
   replace HW := Lib.hid (bt HW.out hb)
   clear hb
   generalize wr.drew = X3 at *
   refine wpAnyH_ready (rs := [8]) (by kernel_rfl) (by simp) ?_
   refine AllReadyH.cons rfl (fun K hK => ?_) AllReadyH.nil
   go_simp
   refine (prog_low N _ (i : Int) xs _ (Hv.out.keepb HW.out) Hok.out (by omega) (by omega)).mono ?_
   rw [show ((i : Int)).toNat = i from rfl, HT.out]
   rintro e w3 ⟨rfl, hb⟩
   replace HBz := Lib.hid (hp_keep4 HBz.out hb)
   replace HBa := Lib.hid (hp_keep4 HBa.out hb)
   replace HBm := Lib.hid (hp_keep4 HBm.out hb)
   replace HBr := Lib.hid (hp_keep4 HBr.out hb)
   replace HK := Lib.hid (OK3.keepw HK.out hb)
   replace HW := Lib.hid (bt HW.out hb)
   clear hb
   refine hK.out _ _ ⟨cell_of_row _ (zb) 0 _ _ _ HBz.out, cell_of_row _ (zb) 1 _ _ _ HBz.out, cell_of_row _ (zb) 2 _ _ _ HBz.out, cell_of_row _ (zb) 3 _ _ _ HBz.out, cell_of_row _ (ab) 0 _ _ _ HBa.out, cell_of_row _ (ab) 1 _ _ _ HBa.out, cell_of_row _ (mb) 0 _ _ _ HBm.out⟩ (fun hHeld2 => ?_)
   clear hK K
   try simp only [Act.put, List.getElem_toArray, List.getElem_cons_zero, List.getElem_cons_succ, List.setIfInBounds_toArray, List.set_cons_zero, List.set_cons_succ]
   obtain ⟨⟨⟨n', xs', c', rs'⟩, x'⟩, hG⟩ : ∃ Q, pcutF 4 N xs c rs zs (dlTo N xs i N) more i T = Q := ⟨_, rfl⟩
   have HG := Lib.hid (HD.out.trans hG)
   have hRl : X.heap.size < w3.heap.size := hp_lt3 HBr.out
   have hXl := HW.out.size
   refine wpAnyH_ready (rs := [9]) (by kernel_rfl) (by simp) ?_
   refine AllReadyH.cons rfl (fun K hK => ?_) AllReadyH.nil
   go_simp
   refine (prog_pcut N i c more T _ _ _ _ xs rs zs (dlTo N xs i N) _ (Hv.out.keepb HW.out) (Hr.out.keepb HW.out) (Hzv.out.keepb HW.out) (OK3.rk HK.out) Hok.out Hlr.out hi Hc.out (fun h => by omega)).mono ?_
   rw [hG]
   rintro e w7 ⟨⟨v', rv', he, ov, orv⟩, hb⟩
   obtain rfl : e = .returned (.tuple #[.agg #[.int .i64 n', v', .int .i64 c', rv'], .int .i64 x']) := he
   obtain ⟨aov, capv, rfl⟩ := owns_form ov
   obtain ⟨aow, capw, rfl⟩ := owns_form orv
   have Ho1 := Lib.hid ov
   have Ho2 := Lib.hid orv
   clear ov orv hG HK
   replace HBz := Lib.hid (hp_keep4 HBz.out hb)
   replace HBa := Lib.hid (hp_keep4 HBa.out hb)
   replace HBm := Lib.hid (hp_keep4 HBm.out hb)
   replace HBr := Lib.hid (hp_keep4 HBr.out hb)
   replace HW := Lib.hid (bt HW.out hb)
   clear hb
   refine hK.out _ _ ⟨cell_of_row _ (zb) 0 _ _ _ HBz.out, cell_of_row _ (zb) 1 _ _ _ HBz.out, cell_of_row _ (zb) 2 _ _ _ HBz.out, cell_of_row _ (zb) 3 _ _ _ HBz.out, cell_of_row _ (ab) 0 _ _ _ HBa.out, cell_of_row _ (ab) 1 _ _ _ HBa.out, cell_of_row _ (mb) 0 _ _ _ HBm.out⟩ (fun hHeld2 => ?_)
   clear hK K
   refine wpAnyH_take (i := 10) (v := ?_) rfl (by kernel_rfl) (by kernel_rfl) (by kernel_rfl) (fun _ _ _ h => h) (Or.inl ⟨by rfl, ?_⟩) (by assumption) ?_
   rotate_left
   ·intro w hSw; (try dsimp only at hSw); go_simp; (try with_reducible rfl)
   try simp only [Act.put, List.getElem_toArray, List.getElem_cons_zero, List.getElem_cons_succ, List.setIfInBounds_toArray, List.set_cons_zero, List.set_cons_succ]
   refine wpAnyH_take (i := 11) (v := ?_) rfl (by kernel_rfl) (by kernel_rfl) (by kernel_rfl) (fun _ _ _ h => h) (Or.inl ⟨by rfl, ?_⟩) (by assumption) ?_
   rotate_left
   ·intro w hSw; (try dsimp only at hSw); go_simp; (try with_reducible rfl)
   try simp only [Act.put, List.getElem_toArray, List.getElem_cons_zero, List.getElem_cons_succ, List.setIfInBounds_toArray, List.set_cons_zero, List.set_cons_succ]
   have t0 : w7.cell? ⟨X.heap.size, 0, none⟩ = some (.int .i64 0) := cell_of_row _ (X.heap.size) 0 _ _ _ HBr.out
   have tf0 : w7.frozen? ⟨X.heap.size, 0, none⟩ = false := frozen_of_row _ (X.heap.size) 0 _ _ HBr.out
   have t1 : w7.cell? ⟨X.heap.size, 1, none⟩ = some (.slice none 0 0) := cell_of_row _ (X.heap.size) 1 _ _ _ HBr.out
   have tf1 : w7.frozen? ⟨X.heap.size, 1, none⟩ = false := frozen_of_row _ (X.heap.size) 1 _ _ HBr.out
   have t2 : w7.cell? ⟨X.heap.size, 2, none⟩ = some (.int .i64 0) := cell_of_row _ (X.heap.size) 2 _ _ _ HBr.out
   have tf2 : w7.frozen? ⟨X.heap.size, 2, none⟩ = false := frozen_of_row _ (X.heap.size) 2 _ _ HBr.out
   have t3 : w7.cell? ⟨X.heap.size, 3, none⟩ = some (.slice none 0 0) := cell_of_row _ (X.heap.size) 3 _ _ _ HBr.out
   have tf3 : w7.frozen? ⟨X.heap.size, 3, none⟩ = false := frozen_of_row _ (X.heap.size) 3 _ _ HBr.out
   have hqz := (st4_ne (w := w7) (b := X.heap.size) (c := zb) (.int .i64 n') (.slice aov xs'.length capv) (.int .i64 c') (.slice aow rs'.length capw) (fun e => by have := hlz; omega)).trans HBz.out
   have hqa := (st4_ne (w := w7) (b := X.heap.size) (c := ab) (.int .i64 n') (.slice aov xs'.length capv) (.int .i64 c') (.slice aow rs'.length capw) (fun e => by have := hla; omega)).trans HBa.out
   have hqm := (st4_ne (w := w7) (b := X.heap.size) (c := mb) (.int .i64 n') (.slice aov xs'.length capv) (.int .i64 c') (.slice aow rs'.length capw) (fun e => by have := hlm; omega)).trans HBm.out
   refine wpAnyH_ready (rs := [12]) (by kernel_rfl) (by simp) ?_
   refine AllReadyH.cons rfl (fun K hK => ?_) AllReadyH.nil
   go_simp
   refine hK.out _ _ ⟨cell_of_row _ (zb) 0 _ _ _ hqz, cell_of_row _ (zb) 1 _ _ _ hqz, cell_of_row _ (zb) 2 _ _ _ hqz, cell_of_row _ (zb) 3 _ _ _ hqz, cell_of_row _ (ab) 0 _ _ _ hqa, cell_of_row _ (ab) 1 _ _ _ hqa, cell_of_row _ (mb) 0 _ _ _ hqm⟩ (fun hHeld3 => ?_)
   clear hK K
   try simp only [Act.put, List.getElem_toArray, List.getElem_cons_zero, List.getElem_cons_succ, List.setIfInBounds_toArray, List.set_cons_zero, List.set_cons_succ]
   refine wpAnyH_take (i := 13) (v := ?_) rfl (by kernel_rfl) (by kernel_rfl) (by kernel_rfl) (fun _ _ _ h => h) (Or.inl ⟨by rfl, ?_⟩) (by assumption) ?_
   rotate_left
   ·intro w hSw; (try dsimp only at hSw); go_simp; (try with_reducible rfl)
   try simp only [Act.put, List.getElem_toArray, List.getElem_cons_zero, List.getElem_cons_succ, List.setIfInBounds_toArray, List.set_cons_zero, List.set_cons_succ]
   refine wpAnyH_done (by kernel_rfl) ?_ _
   refine NoPanic.normal ?_
   go_wp2_with fail
   refine bodyPost_ret (v := .tuple #[.agg #[.int .i64 n', .slice aov xs'.length capv, .int .i64 c', .slice aow rs'.length capw], .int .i64 x']) (by simp [results, Tryz.results57, go_sem, t0, t1, t2, t3]) rfl ⟨by rw [HG.out]; exact ⟨_, _, rfl, owns_mono (own_set4 Ho1.out hRl _ _ _ _) hXl, owns_mono (own_set4 Ho2.out hRl _ _ _ _) hXl⟩, ?_⟩
   exact ((((HW.out).setCell (by show X.heap.size ≤ X.heap.size; omega) _).setCell (by show X.heap.size ≤ X.heap.size; omega) _).setCell (by show X.heap.size ≤ X.heap.size; omega) _).setCell (by show X.heap.size ≤ X.heap.size; omega) _
  have htk : decide ((q : Int) + 1 ≤ (N : Int)) = true := by simp; omega
  have z0 : wr.cell? ⟨zb, 0, none⟩ = some (.int .i64 N) := cell_of_row _ (zb) 0 _ _ _ HBz.out
  have z1 : wr.cell? ⟨zb, 1, none⟩ = some (.slice ao xs.length cap) := cell_of_row _ (zb) 1 _ _ _ HBz.out
  have z2 : wr.cell? ⟨zb, 2, none⟩ = some (.int .i64 c) := cell_of_row _ (zb) 2 _ _ _ HBz.out
  have z3 : wr.cell? ⟨zb, 3, none⟩ = some (.slice aor rs.length capr) := cell_of_row _ (zb) 3 _ _ _ HBz.out
  by_cases hqi : q + 1 = i
  ·have hne : (((q : Int) + 1) != (i : Int)) = false := by simp; omega
   have HK2 := HK
   rw [← HS.out q hqi] at HK2
   go_wp2_with fail
   go_roundw
   case rel => exact ⟨q + 1, by omega, by go_num, HK2.out, HBz.out, HBa.out, HBm.out, HBr.out, HW.out⟩
   case measure => simp [intOf]; omega
  have hne : (((q : Int) + 1) != (i : Int)) = true := by simp; omega
  have hbq := low_bd Hok.out (show q + 1 ≤ N by omega)
  have HMq := Lib.hid (HM.out q hqi)
  obtain ⟨T2, hT2⟩ : ∃ T2, lowF N xs (q + 1) = T2 := ⟨_, rfl⟩
  rw [hT2] at hbq HMq
  have HT2 := Lib.hid hT2
  have hsub : IntKind.i64.wrap (T - T2) = T - T2 := wrap_self (by omega)
  have hsub2 : wrap64 (T - T2) = T - T2 := (wrap_w64 _).trans hsub
  clear hT2
  go_upto_region 6 with fail
  refine wp_region_noPanic ?_
  refine wp_region_held_drew (S := (fun w' => w'.cell? ⟨zb, 0, none⟩ = some (.int .i64 N) ∧ w'.cell? ⟨zb, 1, none⟩ = some (.slice ao xs.length cap))) (by kernel_rfl) ⟨z0, z1⟩ (fun hHeld => ?_)
  refine wpAnyH_take (i := 0) (v := ?_) rfl (by kernel_rfl) (by kernel_rfl) (by kernel_rfl) (fun _ _ _ h => h) (Or.inl ⟨by rfl, ?_⟩) (by assumption) ?_
  rotate_left
  ·intro w hSw; (try dsimp only at hSw); go_simp; (try with_reducible rfl)
  try simp only [Act.put, List.getElem_toArray, List.getElem_cons_zero, List.setIfInBounds_toArray, List.set_cons_zero, List.set_cons_succ]
  refine wpAnyH_take (i := 1) (v := ?_) rfl (by kernel_rfl) (by kernel_rfl) (by kernel_rfl) (fun _ _ _ h => h) (Or.inl ⟨by rfl, ?_⟩) (by assumption) ?_
  rotate_left
  ·intro w hSw; (try dsimp only at hSw); go_simp; (try with_reducible rfl)
  try simp only [Act.put, List.getElem_toArray, List.getElem_cons_zero, List.getElem_cons_succ, List.setIfInBounds_toArray, List.set_cons_zero, List.set_cons_succ]
  refine wpAnyH_take (i := 2) (v := ?_) rfl (by kernel_rfl) (by kernel_rfl) (by kernel_rfl) (fun _ _ _ h => h) (Or.inl ⟨by rfl, ?_⟩) (by assumption) ?_
  rotate_left
  ·intro w hSw; (try dsimp only at hSw); go_simp; (try with_reducible rfl)
  try simp only [Act.put, List.getElem_toArray, List.getElem_cons_zero, List.getElem_cons_succ, List.setIfInBounds_toArray, List.set_cons_zero, List.set_cons_succ]
  refine wpAnyH_take (i := 3) (v := ?_) rfl (by kernel_rfl) (by kernel_rfl) (by kernel_rfl) (fun _ _ _ h => h) (Or.inl ⟨by rfl, ?_⟩) (by assumption) ?_
  rotate_left
  ·intro w hSw; (try dsimp only at hSw); go_simp; (try with_reducible rfl)
  try simp only [Act.put, List.getElem_toArray, List.getElem_cons_zero, List.getElem_cons_succ, List.setIfInBounds_toArray, List.set_cons_zero, List.set_cons_succ]
  refine wpAnyH_take (i := 4) (v := ?_) rfl (by kernel_rfl) (by kernel_rfl) (by kernel_rfl) (fun _ _ _ h => h) (Or.inl ⟨by rfl, ?_⟩) (by assumption) ?_
  rotate_left
  ·intro w hSw; (try dsimp only at hSw); go_simp; (try with_reducible rfl)
  try simp only [Act.put, List.getElem_toArray, List.getElem_cons_zero, List.getElem_cons_succ, List.setIfInBounds_toArray, List.set_cons_zero, List.set_cons_succ]
  refine wpAnyH_take (i := 5) (v := ?_) rfl (by kernel_rfl) (by kernel_rfl) (by kernel_rfl) (fun _ _ _ h => h) (Or.inl ⟨by rfl, ?_⟩) (by assumption) ?_
  rotate_left
  ·intro w hSw; (try dsimp only at hSw); go_simp; (try with_reducible rfl)
  try simp only [Act.put, List.getElem_toArray, List.getElem_cons_zero, List.getElem_cons_succ, List.setIfInBounds_toArray, List.set_cons_zero, List.set_cons_succ]
  refine wpAnyH_take (i := 7) (v := ?_) rfl (by kernel_rfl) (by kernel_rfl) (by kernel_rfl) (fun _ _ _ h => h) (Or.inl ⟨by rfl, ?_⟩) (by assumption) ?_
  rotate_left
  ·intro w hSw; (try dsimp only at hSw); go_simp; (try with_reducible rfl)
  try simp only [Act.put, List.getElem_toArray, List.getElem_cons_zero, List.getElem_cons_succ, List.setIfInBounds_toArray, List.set_cons_zero, List.set_cons_succ]
  refine wpAnyH_take (i := 8) (v := ?_) rfl (by kernel_rfl) (by kernel_rfl) (by kernel_rfl) (fun _ _ _ h => h) (Or.inl ⟨by rfl, ?_⟩) (by assumption) ?_
  rotate_left
  ·intro w hSw; (try dsimp only at hSw); go_simp; (try with_reducible rfl)
  try simp only [Act.put, List.getElem_toArray, List.getElem_cons_zero, List.getElem_cons_succ, List.setIfInBounds_toArray, List.set_cons_zero, List.set_cons_succ]
  refine wpAnyH_take (i := 9) (v := ?_) rfl (by kernel_rfl) (by kernel_rfl) (by kernel_rfl) (fun _ _ _ h => h) (Or.inl ⟨by rfl, ?_⟩) (by assumption) ?_
  rotate_left
  ·intro w hSw; (try dsimp only at hSw); go_simp; (try with_reducible rfl)
  try simp only [Act.put, List.getElem_toArray, List.getElem_cons_zero, List.getElem_cons_succ, List.setIfInBounds_toArray, List.set_cons_zero, List.set_cons_succ]
  clear z0 z1 z2 z3
  have hb : Below wr.heap.size wr wr.drew := (Below.refl _ _).drew
  try clear hHeld
  replace HBz := Lib.hid (hp_keep4 HBz.out hb)
  replace HBa := Lib.hid (hp_keep4 HBa.out hb)
  replace HBm := Lib.hid (hp_keep4 HBm.out hb)
  replace HBr := Lib.hid (hp_keep4 HBr.out hb)
  replace HK := Lib.hid (OK3.keepw HK.out hb)
  replace HW := Lib.hid (bt HW.out hb)
  clear hb
  generalize wr.drew = X3 at *
  refine wpAnyH_ready (rs := [6]) (by kernel_rfl) (by simp) ?_
  refine AllReadyH.cons rfl (fun K hK => ?_) AllReadyH.nil
  go_simp
  refine (prog_low N _ (i : Int) xs _ (Hv.out.keepb HW.out) Hok.out (by omega) (by omega)).mono ?_
  rw [show ((i : Int)).toNat = i from rfl, HT.out]
  rintro e w3 ⟨rfl, hb⟩
  replace HBz := Lib.hid (hp_keep4 HBz.out hb)
  replace HBa := Lib.hid (hp_keep4 HBa.out hb)
  replace HBm := Lib.hid (hp_keep4 HBm.out hb)
  replace HBr := Lib.hid (hp_keep4 HBr.out hb)
  replace HK := Lib.hid (OK3.keepw HK.out hb)
  replace HW := Lib.hid (bt HW.out hb)
  clear hb
  refine hK.out _ _ ⟨cell_of_row _ zb 0 _ _ _ HBz.out, cell_of_row _ zb 1 _ _ _ HBz.out⟩ (fun hHeld2 => ?_)
  clear hK K
  try simp only [Act.put, List.getElem_toArray, List.getElem_cons_zero, List.getElem_cons_succ, List.setIfInBounds_toArray, List.set_cons_zero, List.set_cons_succ]
  refine wpAnyH_ready (rs := [10]) (by kernel_rfl) (by simp) ?_
  refine AllReadyH.cons rfl (fun K hK => ?_) AllReadyH.nil
  go_simp
  refine (prog_low N _ ((q : Int) + 1) xs _ (Hv.out.keepb HW.out) Hok.out (by omega) (by omega)).mono ?_
  rw [show ((q : Int) + 1).toNat = q + 1 by omega, HT2.out]
  rintro e w4 ⟨rfl, hb⟩
  clear hHeld2
  replace HBz := Lib.hid (hp_keep4 HBz.out hb)
  replace HBa := Lib.hid (hp_keep4 HBa.out hb)
  replace HBm := Lib.hid (hp_keep4 HBm.out hb)
  replace HBr := Lib.hid (hp_keep4 HBr.out hb)
  replace HK := Lib.hid (OK3.keepw HK.out hb)
  replace HW := Lib.hid (bt HW.out hb)
  clear hb
  refine hK.out _ _ ⟨cell_of_row _ zb 0 _ _ _ HBz.out, cell_of_row _ zb 1 _ _ _ HBz.out⟩ (fun hHeld2 => ?_)
  clear hK K
  try simp only [Act.put, List.getElem_toArray, List.getElem_cons_zero, List.getElem_cons_succ, List.setIfInBounds_toArray, List.set_cons_zero, List.set_cons_succ]
  refine wpAnyH_take (i := 11) (v := ?_) rfl (by kernel_rfl) (by kernel_rfl) (by kernel_rfl) (fun _ _ _ h => h) (Or.inl ⟨by rfl, ?_⟩) (by assumption) ?_
  rotate_left
  ·intro w hSw; (try dsimp only at hSw); go_simp; (try with_reducible rfl)
  try simp only [Act.put, List.getElem_toArray, List.getElem_cons_zero, List.getElem_cons_succ, List.setIfInBounds_toArray, List.set_cons_zero, List.set_cons_succ]
  refine wpAnyH_ready (rs := [12]) (by kernel_rfl) (by simp) ?_
  refine AllReadyH.cons rfl (fun K hK => ?_) AllReadyH.nil
  go_simp
  refine (prog_weak i ((q : Int) + 1) (T - T2) _ (by omega) (by omega)).mono ?_
  rintro e w5 ⟨rfl, hb⟩
  clear hHeld2
  replace HBz := Lib.hid (hp_keep4 HBz.out hb)
  replace HBa := Lib.hid (hp_keep4 HBa.out hb)
  replace HBm := Lib.hid (hp_keep4 HBm.out hb)
  replace HBr := Lib.hid (hp_keep4 HBr.out hb)
  replace HK := Lib.hid (OK3.keepw HK.out hb)
  replace HW := Lib.hid (bt HW.out hb)
  clear hb
  refine hK.out _ _ ⟨cell_of_row _ zb 0 _ _ _ HBz.out, cell_of_row _ zb 1 _ _ _ HBz.out⟩ (fun hHeld2 => ?_)
  clear hK K
  try simp only [Act.put, List.getElem_toArray, List.getElem_cons_zero, List.getElem_cons_succ, List.setIfInBounds_toArray, List.set_cons_zero, List.set_cons_succ]
  have hzA := hp_keep4 HBz.out ((Below.refl _ w5).alloc (Nat.le_refl _) (.cells #[.int .i64 i, .int .i64 ((q : Int) + 1), .int .i64 (2 * (T - T2) + 1)] 98))
  clear hHeld2
  refine wpAnyH_ready (rs := [13]) (by kernel_rfl) (by simp) ?_
  refine AllReadyH.cons rfl (fun K hK => ?_) AllReadyH.nil
  go_simp
  refine hK.out _ _ ⟨cell_of_row _ zb 0 _ _ _ hzA, cell_of_row _ zb 1 _ _ _ hzA⟩ (fun hHeld2 => ?_)
  clear hK K
  try simp only [Act.put, List.getElem_toArray, List.getElem_cons_zero, List.getElem_cons_succ, List.setIfInBounds_toArray, List.set_cons_zero, List.set_cons_succ]
  have hRl : X.heap.size + 1 ≤ w5.heap.size := hp_lt3 HBr.out
  clear hHeld2
  refine wpAnyH_ready (rs := [14]) (by kernel_rfl) (by simp) ?_
  refine AllReadyH.cons rfl (fun K hK => ?_) AllReadyH.nil
  refine step_append_k rfl (.tmp 19) (.tmp 32) 96 rfl 98 Tryz.undKs Tryz.infoK (X.heap.size + 1) (.slice aok nk capk) rfl (dlTo N xs i q) (World.ownsRow.alloc HK.out _) (by simp; omega) (.slice (some ⟨w5.heap.size, 0, none⟩) 1 1) rfl [wk i ((q + 1 : Nat) : Int) (T - T2)] (w5.heap.size + 1) (rs_lit3 (w := w5) rfl rfl (by simp)) (by have := HL.out q; simp only [List.length_cons, List.length_nil]; omega) ?_
  intro v' w6 ho' hg'
  have hgb := fun g e => (World.ownsRow.lt HK.out g e).1
  replace HBz := Lib.hid (hp_app HBz.out hg' hgb (by omega))
  replace HBa := Lib.hid (hp_app HBa.out hg' hgb (by omega))
  replace HBm := Lib.hid (hp_app HBm.out hg' hgb (by omega))
  replace HBr := Lib.hid (hp_app HBr.out hg' hgb (by omega))
  replace HW := Lib.hid (bw_app HW.out hg' hgb (by omega))
  clear hgb hg'
  refine hK.out _ _ ⟨cell_of_row _ zb 0 _ _ _ HBz.out, cell_of_row _ zb 1 _ _ _ HBz.out⟩ (fun hHeld2 => ?_)
  clear hK K
  try simp only [Act.put, List.getElem_toArray, List.getElem_cons_zero, List.getElem_cons_succ, List.setIfInBounds_toArray, List.set_cons_zero, List.set_cons_succ]
  refine wpAnyH_take (i := 15) (v := ?_) rfl (by kernel_rfl) (by kernel_rfl) (by kernel_rfl) (fun _ _ _ h => h) (Or.inl ⟨by rfl, ?_⟩) (by assumption) ?_
  rotate_left
  ·intro w hSw; (try dsimp only at hSw); go_simp; (try with_reducible rfl)
  try simp only [Act.put, List.getElem_toArray, List.getElem_cons_zero, List.getElem_cons_succ, List.setIfInBounds_toArray, List.set_cons_zero, List.set_cons_succ]
  refine wpAnyH_done (by kernel_rfl) ?_ _
  refine NoPanic.normal ?_
  have HK2 := Lib.hid ho'
  rw [← HMq.out] at HK2
  go_wp2_with fail
  go_roundw
  case rel => exact ⟨q + 1, by omega, by go_num, HK2.out, HBz.out, HBa.out, HBm.out, HBr.out, HW.out⟩
  case measure => simp [intOf]; omega
set_option linter.unusedVariables false
theorem st1_at {w : World} {b t : Nat} {u0 : Value} (x : Value) (h : w.heap[b]? = some (.cells #[u0] t (0, 0))) : (w.setCell ⟨b, 0, none⟩ x).heap[b]? = some (.cells #[x] t (0, 0)) := heap_setCell_same _ _ 0 _ _ _ h
theorem st1_ne {w : World} {b c : Nat} (x : Value) (h : c ≠ b) : (w.setCell ⟨b, 0, none⟩ x).heap[c]? = w.heap[c]? := Below.heap_setCell _ _ _ _ h
theorem hp_gr0 {w w' : World} {b base : Nat} {o : Obj} {row : Option Nat} (h : w.heap[b]? = some o) (hg : w.grownBy w' row) (hr : ∀ g, row = some g → base ≤ g) (hb : b < base) : w'.heap[b]? = some o :=
 (hg.block b (hp_lt3 h) (fun e => by have := hr b e.symm; omega)).trans h
theorem bw_gr0 {w X X' : World} {base : Nat} {row : Option Nat} (h : Below w.heap.size w X) (hg : X.grownBy X' row) (hr : ∀ g, row = some g → base ≤ g) (hn : w.heap.size ≤ base) : Below w.heap.size w X' :=
 h.grown hg h.size (fun g e => Nat.le_trans hn (hr g e))
theorem own_ne {w : World} {b t e base : Nat} {v : Value} {xs : List Int} {cs : Array Value} {fz : Nat × Nat} (h : OL e base w v xs) (hb : w.heap[b]? = some (.cells cs t fz)) (hne : e ≠ t) : v.ownBlock ≠ some b := by
 rcases h.2 with ⟨rfl, _⟩ | ⟨g, cap, cur, rfl, _, hg, _⟩
 ·simp [Value.ownBlock]
 ·intro e'
  have e2 : some g = some b := e'
  injection e2 with e2
  subst e2
  rw [hg] at hb
  injection hb with hb
  injection hb with _ hb
  exact hne hb
theorem ents_dlo : Enters Tryz.prog 57 := enters_of Tryz.func57 (by kernel_rfl) rfl
theorem ents_dhi : Enters Tryz.prog 62 := enters_of Tryz.func62 (by kernel_rfl) rfl
theorem mk_dlo (N zb ab mb base B : Nat) (c more : Int) (v rv zv out : Value) (xs rs zs : List Int) (pre : List Pz) (w W : World) (hz : W.heap[zb]? = some (.cells #[.int .i64 N, v, .int .i64 c, rv] 35 (0, 0))) (ha : W.heap[ab]? = some (.cells #[.int .i64 N, zv] 32 (0, 0))) (hm : W.heap[mb]? = some (.cells #[.int .i64 more] 2 (0, 0)))
  (hW : Below w.heap.size w W) (hv : RL w.heap.size w v xs) (hr : RL w.heap.size w rv rs) (hzv : OL 63 B W zv zs) (hok : OkZ N xs) (hlr : rs.length = N) (hc : -9223372036854775808 ≤ c ∧ c ≤ 9223372036854775807) (hmo : more < 0) (ho : OE cdPz 35 base W out pre) (hwb : w.heap.size ≤ base) (hzb : zb < base) (hab : ab < base) (hmb : mb < base) :
  MkP (.func (.func 57) #[] #[.pointer (some ⟨zb, 0, none⟩), .pointer (some ⟨ab, 0, none⟩), .pointer (some ⟨mb, 0, none⟩)]) W out.ownBlock 1 N (dG N xs c rs zs more) :=
 ⟨_, _, rfl, ents_dlo, fun k hk1 hk Y hg => by
  have hr' := fun g e => (World.ownsRow.lt ho g e).1
  have hb := bw_gr0 hW hg hr' hwb
  exact prog_dlo N k zb ab mb c more v rv zv xs rs zs Y (hp_gr0 hz hg hr' hzb) (hp_gr0 ha hg hr' hab) (hp_gr0 hm hg hr' hmb) (hv.keepb hb) (hr.keepb hb) (OL.rl (OL.kept hzv hg (own_apart hzv ho (by decide)))) hok hlr hk1 hk hc hmo⟩
theorem mk_dhi (N zb ab mb base B : Nat) (c more : Int) (v rv zv out : Value) (xs rs zs : List Int) (pre : List Pz) (w W : World) (hz : W.heap[zb]? = some (.cells #[.int .i64 N, v, .int .i64 c, rv] 35 (0, 0))) (ha : W.heap[ab]? = some (.cells #[.int .i64 N, zv] 32 (0, 0))) (hm : W.heap[mb]? = some (.cells #[.int .i64 more] 2 (0, 0)))
  (hW : Below w.heap.size w W) (hv : RL w.heap.size w v xs) (hr : RL w.heap.size w rv rs) (hzv : OL 63 B W zv zs) (hok : OkZ N xs) (hlr : rs.length = N) (hc : -9223372036854775808 ≤ c ∧ c ≤ 9223372036854775807) (hmo : 0 ≤ more) (ho : OE cdPz 35 base W out pre) (hwb : w.heap.size ≤ base) (hzb : zb < base) (hab : ab < base) (hmb : mb < base) :
  MkP (.func (.func 62) #[] #[.pointer (some ⟨zb, 0, none⟩), .pointer (some ⟨ab, 0, none⟩), .pointer (some ⟨mb, 0, none⟩)]) W out.ownBlock 1 N (dG N xs c rs zs more) :=
 ⟨_, _, rfl, ents_dhi, fun k hk1 hk Y hg => by
  have hr' := fun g e => (World.ownsRow.lt ho g e).1
  have hb := bw_gr0 hW hg hr' hwb
  exact prog_dhi N k zb ab mb c more v rv zv xs rs zs Y (hp_gr0 hz hg hr' hzb) (hp_gr0 ha hg hr' hab) (hp_gr0 hm hg hr' hmb) (hv.keepb hb) (hr.keepb hb) (OL.rl (OL.kept hzv hg (own_apart hzv ho (by decide)))) hok hlr hk1 hk hc hmo⟩
set_option maxRecDepth 100000 in
set_option maxHeartbeats 16000000 in
theorem prog_delay (n c rate : Int) (v rv lv : Value) (xs rs : List Int) (cs : List Kc) (w : World) (hv : RL w.heap.size w v xs) (hr : RL w.heap.size w rv rs) (hl : RX cdCon w.heap.size w lv cs) (hn : cs.length ≤ 1000) :
  Calls Tryz.prog 17 #[.agg #[.int .i64 n, v, .int .i64 c, rv], .int .i64 rate, lv] w fun e w' => GaP w.heap.size (delayF n xs c rs rate cs) e w' ∧ Below w.heap.size w w' := by
 have Hv := Lib.hid hv
 have Hr := Lib.hid hr
 have Hl := Lib.hid hl
 obtain ⟨ao, cap, rfl, hle, _⟩ := hv.open
 obtain ⟨aor, capr, rfl, hler, hcr⟩ := (RL.re hr).open
 obtain ⟨aol, capl, rfl, hlel, _⟩ := hl.open
 have Hcr := Lib.hid hcr
 have HW := Lib.hid (Below.refl w.heap.size w)
 clear hv hr hl hcr
 go_enter Tryz.func17, Tryz.ntmps17
 have hba := (Below.refl _ w).alloc (Nat.le_refl _) (.cells #[.int .i64 n, .slice ao xs.length cap, .int .i64 c, .slice aor rs.length capr] 35)
 have hqn := heap_alloc_new w (.cells #[.int .i64 n, .slice ao xs.length cap, .int .i64 c, .slice aor rs.length capr] 35)
 have hqW := HW.out.size
 have hqw := bt HW.out hba
 clear hba HW
 go_upto_region 1 with fail
 generalize hgen : w.alloc (.cells #[.int .i64 n, .slice ao xs.length cap, .int .i64 c, .slice aor rs.length capr] 35) = X0 at *
 clear hgen
 have HBz := Lib.hid hqn
 have HW := Lib.hid hqw
 clear hqn hqw
 have z0 : X0.cell? ⟨w.heap.size, 0, none⟩ = some (.int .i64 n) := cell_of_row _ (w.heap.size) 0 _ _ _ HBz.out
 have z1 : X0.cell? ⟨w.heap.size, 1, none⟩ = some (.slice ao xs.length cap) := cell_of_row _ (w.heap.size) 1 _ _ _ HBz.out
 have z2 : X0.cell? ⟨w.heap.size, 2, none⟩ = some (.int .i64 c) := cell_of_row _ (w.heap.size) 2 _ _ _ HBz.out
 have z3 : X0.cell? ⟨w.heap.size, 3, none⟩ = some (.slice aor rs.length capr) := cell_of_row _ (w.heap.size) 3 _ _ _ HBz.out
 go_wp2_with fail
 refine (prog_pcheck n c _ _ xs rs _ (Hv.out.keepb HW.out) (Hr.out.keepb HW.out)).mono ?_
 rintro e w1 ⟨rfl, hb⟩
 clear z0 z1 z2 z3
 replace HBz := Lib.hid (hp_keep4 HBz.out hb)
 replace HW := Lib.hid (bt HW.out hb)
 clear hb
 cases hpz : pzB n xs c rs with
 | false =>
  rw [pzE_no hpz]
  have HF := Lib.hid (delay_bad (rate := rate) (inv := cs) (fun h => by rw [hpz] at h; exact absurd h.1 (by simp)) : delayF n xs c rs rate cs = ([], 2))
  go_wp2_with fail
  exact bodyPost_ret (v := .tuple #[.slice none 0 0, .int .i64 2]) (by simp [results, Tryz.results17, go_sem]) rfl ⟨GaP.err HF.out _, HW.out⟩
 | true =>
  rw [pzE_yes hpz]
  obtain ⟨N, rfl, hok, hlr, hc⟩ := pzB_nat hpz
  have hN : N ≤ 10 := by have := hok.hi; omega
  have Hok := Lib.hid hok
  have Hc := Lib.hid hc
  have Hlr := Lib.hid hlr
  have HPZ := Lib.hid (show pzB N xs c rs = true from hpz)
  clear hok hlr hc hpz
  go_wp2_with fail
  refine (between_i64 rate 0 10000 _).mono ?_
  rintro e wq ⟨rfl, rfl⟩
  cases hrt : btw rate 0 10000 with
  | false =>
   have HF := Lib.hid (delay_bad (rate := rate) (inv := cs) (fun h => by rw [hrt] at h; exact absurd h.2.1 (by simp)) : delayF N xs c rs rate cs = ([], 2))
   go_wp2_with fail
   exact bodyPost_ret (v := .tuple #[.slice none 0 0, .int .i64 2]) (by simp [results, Tryz.results17, go_sem]) rfl ⟨GaP.err HF.out _, HW.out⟩
  | true =>
   have z0 : w1.cell? ⟨w.heap.size, 0, none⟩ = some (.int .i64 N) := cell_of_row _ (w.heap.size) 0 _ _ _ HBz.out
   have z1 : w1.cell? ⟨w.heap.size, 1, none⟩ = some (.slice ao xs.length cap) := cell_of_row _ (w.heap.size) 1 _ _ _ HBz.out
   have z2 : w1.cell? ⟨w.heap.size, 2, none⟩ = some (.int .i64 c) := cell_of_row _ (w.heap.size) 2 _ _ _ HBz.out
   have z3 : w1.cell? ⟨w.heap.size, 3, none⟩ = some (.slice aor rs.length capr) := cell_of_row _ (w.heap.size) 3 _ _ _ HBz.out
   go_wp2_with fail
   refine (prog_invariant N _ cs _ (Hl.out.keepb HW.out)).mono ?_
   rintro e w2 ⟨rfl, hb⟩
   clear z0 z1 z2 z3
   replace HBz := Lib.hid (hp_keep4 HBz.out hb)
   replace HW := Lib.hid (bt HW.out hb)
   clear hb
   cases hiv : invB N cs with
   | false =>
    have HF := Lib.hid (delay_bad (rate := rate) (inv := cs) (fun h => by rw [hiv] at h; exact absurd h.2.2 (by simp)) : delayF N xs c rs rate cs = ([], 2))
    go_wp2_with fail
    exact bodyPost_ret (v := .tuple #[.slice none 0 0, .int .i64 2]) (by simp [results, Tryz.results17, go_sem]) rfl ⟨GaP.err HF.out _, HW.out⟩
   | true =>
    have HPRE := Lib.hid (show pzB N xs c rs = true ∧ btw rate 0 10000 = true ∧ invB N cs = true from ⟨HPZ.out, hrt, hiv⟩)
    clear hrt hiv
    have z0 : w2.cell? ⟨w.heap.size, 0, none⟩ = some (.int .i64 N) := cell_of_row _ (w.heap.size) 0 _ _ _ HBz.out
    have z1 : w2.cell? ⟨w.heap.size, 1, none⟩ = some (.slice ao xs.length cap) := cell_of_row _ (w.heap.size) 1 _ _ _ HBz.out
    have z2 : w2.cell? ⟨w.heap.size, 2, none⟩ = some (.int .i64 c) := cell_of_row _ (w.heap.size) 2 _ _ _ HBz.out
    have z3 : w2.cell? ⟨w.heap.size, 3, none⟩ = some (.slice aor rs.length capr) := cell_of_row _ (w.heap.size) 3 _ _ _ HBz.out
    go_wp2_with fail
    refine (prog_up N _ xs _ (Hv.out.keepb HW.out)).mono ?_
    rw [up_val Hok.out]
    rintro e w3 ⟨⟨vu, he, hou⟩, hb⟩
    obtain rfl : e = .returned (.tuple #[.agg #[.int .i64 N, vu], .int .i64 0]) := he
    have hou : OL _ _ _ _ (upTo N xs N) := hou
    obtain ⟨aou, capu, rfl⟩ := owns_form hou
    have HU := Lib.hid (OL.mono hou (Nat.zero_le _))
    generalize hU : upTo N xs N = us at *
    have HUS := Lib.hid hU
    clear hou hU
    clear z0 z1 z2 z3
    replace HBz := Lib.hid (hp_keep4 HBz.out hb)
    replace HW := Lib.hid (bt HW.out hb)
    clear hb
    have hba := (Below.refl _ w3).alloc (Nat.le_refl _) (.cells #[.int .i64 N, .slice aou us.length capu] 32)
    have hqn := heap_alloc_new w3 (.cells #[.int .i64 N, .slice aou us.length capu] 32)
    have hqW := HW.out.size
    have hlz : w.heap.size < w3.heap.size := hp_lt3 HBz.out
    have hqz := hp_keep4 HBz.out hba
    have hqHU := OL.keepb HU.out hba
    have hqw := bt HW.out hba
    clear hba HW HBz HU
    go_upto_region 4 with fail
    generalize hgen : w3.alloc (.cells #[.int .i64 N, .slice aou us.length capu] 32) = X3 at *
    clear hgen
    generalize hgen : w3.heap.size = U at *
    clear hgen
    have HBu := Lib.hid hqn
    have HBz := Lib.hid hqz
    have HU := Lib.hid hqHU
    have HW := Lib.hid hqw
    clear hqn hqw hqz hqHU
    have u0 : X3.cell? ⟨U, 0, none⟩ = some (.int .i64 N) := cell_of_row _ (U) 0 _ _ _ HBu.out
    have u1 : X3.cell? ⟨U, 1, none⟩ = some (.slice aou us.length capu) := cell_of_row _ (U) 1 _ _ _ HBu.out
    go_wp2_with fail
    refine (prog_meet_cons N _ _ us cs _ (OL.rl HU.out) (Hl.out.keepb HW.out) hn).mono ?_
    rintro e w4 ⟨⟨va, he, hoa⟩, hb⟩
    obtain ⟨⟨x1, zs⟩, hA⟩ : ∃ Q, andF N us (cs.map con3) = Q := ⟨_, rfl⟩
    rw [hA] at he hoa
    obtain rfl : e = .returned (.tuple #[.agg #[.int .i64 (zdim (x1, zs) N), va], .int .i64 x1]) := he
    have hoa : OL _ _ _ _ zs := hoa
    obtain ⟨aoa, capa, rfl⟩ := owns_form hoa
    have HA := Lib.hid (OL.mono hoa (Nat.zero_le _))
    have HAF := Lib.hid (show andF N (upTo N xs N) (cs.map con3) = (x1, zs) by rw [HUS.out]; exact hA)
    clear hoa hA
    clear u0 u1
    replace HBz := Lib.hid (hp_keep4 HBz.out hb)
    replace HBu := Lib.hid (hp_keep4 HBu.out hb)
    replace HU := Lib.hid (OL.keepb HU.out hb)
    replace HW := Lib.hid (bt HW.out hb)
    clear hb
    clear HU
    obtain ⟨D, hD⟩ : ∃ D, zdim (x1, zs) (N : Int) = D := ⟨_, rfl⟩
    rw [hD]
    have hba := (Below.refl _ w4).alloc (Nat.le_refl _) (.cells #[.int .i64 D, .slice aoa zs.length capa] 32)
    have hqn := heap_alloc_new w4 (.cells #[.int .i64 D, .slice aoa zs.length capa] 32)
    have hqW := HW.out.size
    have hlz : w.heap.size < w4.heap.size := hp_lt3 HBz.out
    have hqz := hp_keep4 HBz.out hba
    have hlu : U < w4.heap.size := hp_lt3 HBu.out
    have hqu := hp_keep4 HBu.out hba
    have hqHA := OL.keepb HA.out hba
    have hqw := bt HW.out hba
    clear hba HW HBz HBu HA
    go_upto_region 7 with fail
    generalize hgen : w4.alloc (.cells #[.int .i64 D, .slice aoa zs.length capa] 32) = X4 at *
    clear hgen
    generalize hgen : w4.heap.size = A at *
    clear hgen
    have HBa := Lib.hid hqn
    have HBz := Lib.hid hqz
    have HBu := Lib.hid hqu
    have HA := Lib.hid hqHA
    have HW := Lib.hid hqw
    clear hqn hqw hqz hqu hqHA
    by_cases hx1 : x1 = 0
    rotate_left
    ·have hxb : (x1 != 0) = true := by simpa using hx1
     have HF := Lib.hid (delay_none HPRE.out HAF.out hx1)
     have HF2 := Lib.hid (show GaP w.heap.size (delayF N xs c rs rate cs) (.returned (.tuple #[.slice none 0 0, .int .i64 0])) X4 from GaP.err HF.out X4)
     go_wp2_with fail
     exact bodyPost_ret (v := .tuple #[.slice none 0 0, .int .i64 0]) (by simp [results, Tryz.results17, go_sem]) rfl ⟨HF2.out, HW.out⟩
    subst hx1
    obtain rfl : (N : Int) = D := by rw [← hD]; simp [zdim]
    clear hD
    have hba := (Below.refl _ X4).alloc (Nat.le_refl _) (.cells #[.int .i64 rate] 2)
    have hqn := heap_alloc_new X4 (.cells #[.int .i64 rate] 2)
    have hqW := HW.out.size
    have hlz : w.heap.size < X4.heap.size := hp_lt3 HBz.out
    have hqz := hp_keep4 HBz.out hba
    have hlu : U < X4.heap.size := hp_lt3 HBu.out
    have hqu := hp_keep4 HBu.out hba
    have hla : A < X4.heap.size := hp_lt3 HBa.out
    have hqa := hp_keep4 HBa.out hba
    have hqHA := OL.keepb HA.out hba
    have hqw := bt HW.out hba
    clear hba HW HBz HBu HBa HA
    go_upto_region 10 with fail
    generalize hgen : X4.alloc (.cells #[.int .i64 rate] 2) = X5 at *
    clear hgen
    generalize hgen : X4.heap.size = M at *
    clear hgen
    have HBm := Lib.hid hqn
    have HBz := Lib.hid hqz
    have HBu := Lib.hid hqu
    have HBa := Lib.hid hqa
    have HA := Lib.hid hqHA
    have HW := Lib.hid hqw
    clear hqn hqw hqz hqu hqa hqHA
    have z0 : X5.cell? ⟨w.heap.size, 0, none⟩ = some (.int .i64 N) := cell_of_row _ (w.heap.size) 0 _ _ _ HBz.out
    have z1 : X5.cell? ⟨w.heap.size, 1, none⟩ = some (.slice ao xs.length cap) := cell_of_row _ (w.heap.size) 1 _ _ _ HBz.out
    have z2 : X5.cell? ⟨w.heap.size, 2, none⟩ = some (.int .i64 c) := cell_of_row _ (w.heap.size) 2 _ _ _ HBz.out
    have z3 : X5.cell? ⟨w.heap.size, 3, none⟩ = some (.slice aor rs.length capr) := cell_of_row _ (w.heap.size) 3 _ _ _ HBz.out
    go_wp2_with fail
    go_loopw [56] (fun i wr => ∃ k : Nat, k ≤ rs.length ∧ i = .int .i64 k ∧ wr.heap[w.heap.size]? = some (.cells #[.int .i64 N, .slice ao xs.length cap, .int .i64 c, .slice aor rs.length capr] 35 (0, 0)) ∧ wr.heap[U]? = some (.cells #[.int .i64 N, .slice aou us.length capu] 32 (0, 0)) ∧ wr.heap[A]? = some (.cells #[.int .i64 N, .slice aoa zs.length capa] 32 (0, 0)) ∧ wr.heap[M]? = some (.cells #[.int .i64 (moTo rate rs k)] 2 (0, 0)) ∧ OL 63 0 wr (.slice aoa zs.length capa) zs ∧ Below w.heap.size w wr) (fun i _ => rs.length - (intOf i).toNat)
    case atStart => exact ⟨0, Nat.zero_le _, rfl, HBz.out, HBu.out, HBa.out, HBm.out, HA.out, HW.out⟩
    case round =>
     clear z0 z1 z2 z3
     clear HW HA HBz HBu HBa HBm
     obtain ⟨k, hk, rfl, hz, hu, ha, hm, ha1, hw⟩ := hrel
     have HW := Lib.hid hw
     have HA := Lib.hid ha1
     have HBz := Lib.hid hz
     have HBu := Lib.hid hu
     have HBa := Lib.hid ha
     have HBm := Lib.hid hm
     clear hw ha1 hz hu ha hm
     obtain ⟨MO, hMO⟩ : ∃ MO, moTo rate rs k = MO := ⟨_, rfl⟩
     rw [hMO] at HBm
     by_cases hlt : k < rs.length
     ·have htk : decide ((k : Int) < (rs.length : Int)) = true := by simp; omega
      obtain ⟨br, offr, rfl, hbr, hccr⟩ := Hcr.out (by omega)
      have e0 : wr.cell? ⟨br, offr + k, none⟩ = some (.int .i64 (gi rs k)) := by
       have h2 := ((bcell HW.out).1 br (offr + (k * 1 + 0)) hbr).trans (hccr k 0 hlt (by decide))
       rw [show offr + k = offr + (k * 1 + 0) by omega]
       rw [h2]
       rfl
      obtain ⟨Q, hQ⟩ : ∃ Q, IntKind.i64.wrap (MO - gi rs k) = Q := ⟨_, rfl⟩
      have hQ2 : wrap64 (MO - gi rs k) = Q := (wrap_w64 _).trans hQ
      have HQ := Lib.hid (show moTo rate rs (k + 1) = Q by show IntKind.i64.wrap (moTo rate rs k - gi rs k) = Q; rw [hMO, hQ])
      have k0 : (k : Int) < rs.length := by omega
      have k1 : (0 : Int) ≤ (k : Int) := by omega
      clear hccr hMO
      have HNM := Lib.hid (own_ne HA.out HBm.out (by decide))
      have z0 : wr.cell? ⟨w.heap.size, 0, none⟩ = some (.int .i64 N) := cell_of_row _ (w.heap.size) 0 _ _ _ HBz.out
      have z1 : wr.cell? ⟨w.heap.size, 1, none⟩ = some (.slice ao xs.length cap) := cell_of_row _ (w.heap.size) 1 _ _ _ HBz.out
      have z2 : wr.cell? ⟨w.heap.size, 2, none⟩ = some (.int .i64 c) := cell_of_row _ (w.heap.size) 2 _ _ _ HBz.out
      have z3 : wr.cell? ⟨w.heap.size, 3, none⟩ = some (.slice (some ⟨br, offr, none⟩) rs.length capr) := cell_of_row _ (w.heap.size) 3 _ _ _ HBz.out
      have m0 : wr.cell? ⟨M, 0, none⟩ = some (.int .i64 MO) := cell_of_row _ (M) 0 _ _ _ HBm.out
      have mf0 : wr.frozen? ⟨M, 0, none⟩ = false := frozen_of_row _ (M) 0 _ _ HBm.out
      go_upto_region 14 with fail
      have hqz := (st1_ne (w := wr) (b := M) (c := w.heap.size) (.int .i64 Q) (by omega)).trans HBz.out
      have hqu := (st1_ne (w := wr) (b := M) (c := U) (.int .i64 Q) (by omega)).trans HBu.out
      have hqa := (st1_ne (w := wr) (b := M) (c := A) (.int .i64 Q) (by omega)).trans HBa.out
      have hqm := st1_at (.int .i64 Q) HBm.out
      have hqHA := ownsRow_other HA.out (a := ⟨M, 0, none⟩) (u := .int .i64 Q) HNM.out
      have hqw := (HW.out.setCell (p := ⟨M, 0, none⟩) (by show w.heap.size ≤ M; omega) (.int .i64 Q))
      clear HW HBz HBu HBa HBm HA
      generalize hgen : wr.setCell ⟨M, 0, none⟩ (.int .i64 Q) = X6 at *
      clear hgen
      have HBz := Lib.hid hqz
      have HBu := Lib.hid hqu
      have HBa := Lib.hid hqa
      have HBm := Lib.hid hqm
      have HA := Lib.hid hqHA
      have HW := Lib.hid hqw
      clear hqw hqz hqu hqa hqm hqHA
      try clear z0 z1 z2 z3 m0 mf0 e0
      go_wp2_with fail
      go_roundw
      case rel => exact ⟨k + 1, by omega, by go_num, HBz.out, HBu.out, HBa.out, (by rw [HQ.out]; exact HBm.out), HA.out, HW.out⟩
      case measure => simp [intOf]; omega
     have htk : decide ((k : Int) < (rs.length : Int)) = false := by simp; omega
     have HMO := Lib.hid (show moTo rate rs rs.length = MO by rw [← hMO, show rs.length = k by omega])
     have HLd := Lib.hid (OE.nil cdPz 35 wr.heap.size wr)
     clear hMO
     have z0 : wr.cell? ⟨w.heap.size, 0, none⟩ = some (.int .i64 N) := cell_of_row _ (w.heap.size) 0 _ _ _ HBz.out
     have z1 : wr.cell? ⟨w.heap.size, 1, none⟩ = some (.slice ao xs.length cap) := cell_of_row _ (w.heap.size) 1 _ _ _ HBz.out
     have z2 : wr.cell? ⟨w.heap.size, 2, none⟩ = some (.int .i64 c) := cell_of_row _ (w.heap.size) 2 _ _ _ HBz.out
     have z3 : wr.cell? ⟨w.heap.size, 3, none⟩ = some (.slice aor rs.length capr) := cell_of_row _ (w.heap.size) 3 _ _ _ HBz.out
     have m0 : wr.cell? ⟨M, 0, none⟩ = some (.int .i64 MO) := cell_of_row _ (M) 0 _ _ _ HBm.out
     by_cases hmo : MO < 0
     ·have hmb : decide (MO < 0) = true := by simpa using hmo
      have HM0 := Lib.hid hmo
      obtain ⟨⟨L, x⟩, hGA⟩ : ∃ Q, gaF [] (dG N xs c rs zs MO) 1 N = Q := ⟨_, rfl⟩
      have HF := Lib.hid (show delayF N xs c rs rate cs = (L, x) from (delay_ga (l := []) HPRE.out HAF.out (by rw [HMO.out]; exact (dNow_low HM0.out))).trans (by rw [HMO.out]; exact hGA))
      have hWs := HW.out.size
      go_wp2_with fail
      refine (prog_gather N 1 (.slice none 0 0) _ [] (dG N xs c rs zs MO) wr.heap.size wr (Nat.le_refl _) HLd.out (LZ.nil _) hN (by simp) (mk_dlo N _ _ _ wr.heap.size 0 c MO _ _ _ _ xs rs zs _ w wr HBz.out HBa.out HBm.out HW.out Hv.out Hr.out HA.out Hok.out Hlr.out Hc.out HM0.out HLd.out HW.out.size (hp_lt3 HBz.out) (hp_lt3 HBa.out) (hp_lt3 HBm.out))).mono ?_
      rintro e w8 ⟨hga, hgr⟩
      rw [show ([]).map pvOf = [] from rfl, hGA] at hga
      obtain ⟨vg, els, he, hog, hzg, hmg⟩ := hga
      obtain rfl : e = .returned (.tuple #[vg, .int .i64 x]) := he
      have HE := Lib.hid (show GaP w.heap.size (delayF N xs c rs rate cs) (.returned (.tuple #[vg, .int .i64 x])) w8 ∧ Below w.heap.size w w8 from ⟨by rw [HF.out]; exact ⟨vg, els, rfl, OE.lower hog (hWs), hzg, hmg⟩, bw_gr0 HW.out hgr (fun g e => by simp [Value.ownBlock] at e) (hWs)⟩)
      clear hog hzg hmg hgr hGA
      go_wp2_with fail
      exact bodyPost_ret (v := .tuple #[vg, .int .i64 x]) (by simp [results, Tryz.results17, go_sem]) rfl HE.out
     have hmb : decide (MO < 0) = false := by simpa using hmo
     have HM0 := Lib.hid (show 0 ≤ MO by omega)
     clear hmo HLd
     go_wp2_with fail
     refine (prog_meet_cons N _ _ xs cs _ (Hv.out.keepb HW.out) (Hl.out.keepb HW.out) hn).mono ?_
     rintro e w5 ⟨⟨vo, he, hoo⟩, hb⟩
     obtain ⟨⟨x2, os⟩, hO⟩ : ∃ Q, andF N xs (cs.map con3) = Q := ⟨_, rfl⟩
     rw [hO] at he hoo
     obtain rfl : e = .returned (.tuple #[.agg #[.int .i64 (zdim (x2, os) N), vo], .int .i64 x2]) := he
     have hoo : OL _ _ _ _ os := hoo
     obtain ⟨aoo, capo, rfl⟩ := owns_form hoo
     have HO := Lib.hid (OL.mono hoo (Nat.zero_le _))
     have HOF := Lib.hid hO
     clear hoo hO
     clear z0 z1 z2 z3
     clear m0
     replace HBz := Lib.hid (hp_keep4 HBz.out hb)
     replace HBu := Lib.hid (hp_keep4 HBu.out hb)
     replace HBa := Lib.hid (hp_keep4 HBa.out hb)
     replace HBm := Lib.hid (hp_keep4 HBm.out hb)
     replace HA := Lib.hid (OL.keepb HA.out hb)
     replace HW := Lib.hid (bt HW.out hb)
     clear hb
     obtain ⟨D, hD⟩ : ∃ D, zdim (x2, os) (N : Int) = D := ⟨_, rfl⟩
     rw [hD]
     have hba := (Below.refl _ w5).alloc (Nat.le_refl _) (.cells #[.int .i64 D, .slice aoo os.length capo] 32)
     have hqn := heap_alloc_new w5 (.cells #[.int .i64 D, .slice aoo os.length capo] 32)
     have hqW := HW.out.size
     have hlz : w.heap.size < w5.heap.size := hp_lt3 HBz.out
     have hqz := hp_keep4 HBz.out hba
     have hlu : U < w5.heap.size := hp_lt3 HBu.out
     have hqu := hp_keep4 HBu.out hba
     have hla : A < w5.heap.size := hp_lt3 HBa.out
     have hqa := hp_keep4 HBa.out hba
     have hlm : M < w5.heap.size := hp_lt3 HBm.out
     have hqm := hp_keep4 HBm.out hba
     have hqHA := OL.keepb HA.out hba
     have hqHO := OL.keepb HO.out hba
     have hqw := bt HW.out hba
     clear hba HW HBz HBu HBa HBm HA HO
     go_upto_region 19 with fail
     generalize hgen : w5.alloc (.cells #[.int .i64 D, .slice aoo os.length capo] 32) = X7 at *
     clear hgen
     generalize hgen : w5.heap.size = O at *
     clear hgen
     have HBo := Lib.hid hqn
     have HBz := Lib.hid hqz
     have HBu := Lib.hid hqu
     have HBa := Lib.hid hqa
     have HBm := Lib.hid hqm
     have HA := Lib.hid hqHA
     have HO := Lib.hid hqHO
     have HW := Lib.hid hqw
     clear hqn hqw hqz hqu hqa hqm hqHA hqHO
     by_cases hx2 : x2 = 0
     rotate_left
     ·have hxb : (x2 == 0) = false := by simpa using hx2
      have HNW := Lib.hid (dNow_none (c := c) (rs := rs) (Int.not_lt.2 HM0.out) HOF.out hx2)
      have HLd := Lib.hid (OE.nil cdPz 35 X7.heap.size X7)
      have z0 : X7.cell? ⟨w.heap.size, 0, none⟩ = some (.int .i64 N) := cell_of_row _ (w.heap.size) 0 _ _ _ HBz.out
      have z1 : X7.cell? ⟨w.heap.size, 1, none⟩ = some (.slice ao xs.length cap) := cell_of_row _ (w.heap.size) 1 _ _ _ HBz.out
      have z2 : X7.cell? ⟨w.heap.size, 2, none⟩ = some (.int .i64 c) := cell_of_row _ (w.heap.size) 2 _ _ _ HBz.out
      have z3 : X7.cell? ⟨w.heap.size, 3, none⟩ = some (.slice aor rs.length capr) := cell_of_row _ (w.heap.size) 3 _ _ _ HBz.out
      obtain ⟨⟨L, x⟩, hGA⟩ : ∃ Q, gaF [] (dG N xs c rs zs MO) 1 N = Q := ⟨_, rfl⟩
      have HF := Lib.hid (show delayF N xs c rs rate cs = (L, x) from (delay_ga (l := []) HPRE.out HAF.out (by rw [HMO.out]; exact HNW.out)).trans (by rw [HMO.out]; exact hGA))
      have hWs := HW.out.size
      go_wp2_with fail
      refine (prog_gather N 1 (.slice none 0 0) _ [] (dG N xs c rs zs MO) X7.heap.size X7 (Nat.le_refl _) HLd.out (LZ.nil _) hN (by simp) (mk_dhi N _ _ _ X7.heap.size 0 c MO _ _ _ _ xs rs zs _ w X7 HBz.out HBa.out HBm.out HW.out Hv.out Hr.out HA.out Hok.out Hlr.out Hc.out HM0.out HLd.out HW.out.size (hp_lt3 HBz.out) (hp_lt3 HBa.out) (hp_lt3 HBm.out))).mono ?_
      rintro e w8 ⟨hga, hgr⟩
      rw [show ([]).map pvOf = [] from rfl, hGA] at hga
      obtain ⟨vg, els, he, hog, hzg, hmg⟩ := hga
      obtain rfl : e = .returned (.tuple #[vg, .int .i64 x]) := he
      have HE := Lib.hid (show GaP w.heap.size (delayF N xs c rs rate cs) (.returned (.tuple #[vg, .int .i64 x])) w8 ∧ Below w.heap.size w w8 from ⟨by rw [HF.out]; exact ⟨vg, els, rfl, OE.lower hog (hWs), hzg, hmg⟩, bw_gr0 HW.out hgr (fun g e => by simp [Value.ownBlock] at e) (hWs)⟩)
      clear hog hzg hmg hgr hGA
      go_wp2_with fail
      exact bodyPost_ret (v := .tuple #[vg, .int .i64 x]) (by simp [results, Tryz.results17, go_sem]) rfl HE.out
     subst hx2
     obtain rfl : (N : Int) = D := by rw [← hD]; simp [zdim]
     clear hD
     have z0 : X7.cell? ⟨w.heap.size, 0, none⟩ = some (.int .i64 N) := cell_of_row _ (w.heap.size) 0 _ _ _ HBz.out
     have z1 : X7.cell? ⟨w.heap.size, 1, none⟩ = some (.slice ao xs.length cap) := cell_of_row _ (w.heap.size) 1 _ _ _ HBz.out
     have z2 : X7.cell? ⟨w.heap.size, 2, none⟩ = some (.int .i64 c) := cell_of_row _ (w.heap.size) 2 _ _ _ HBz.out
     have z3 : X7.cell? ⟨w.heap.size, 3, none⟩ = some (.slice aor rs.length capr) := cell_of_row _ (w.heap.size) 3 _ _ _ HBz.out
     have o0 : X7.cell? ⟨O, 0, none⟩ = some (.int .i64 N) := cell_of_row _ (O) 0 _ _ _ HBo.out
     have o1 : X7.cell? ⟨O, 1, none⟩ = some (.slice aoo os.length capo) := cell_of_row _ (O) 1 _ _ _ HBo.out
     go_wp2_with fail
     refine (prog_on N 0 c 0 0 _ _ _ xs rs os _ (Hv.out.keepb HW.out) (Hr.out.keepb HW.out) (OL.rl HO.out) Hok.out (and_valid HOF.out) Hlr.out (Nat.zero_le _) Hc.out (fun _ => ⟨rfl, rfl⟩)).mono ?_
     rintro e w6 ⟨⟨rv', he, hrv⟩, hb⟩
     clear z0 z1 z2 z3
     clear o0 o1
     replace HBz := Lib.hid (hp_keep4 HBz.out hb)
     replace HBu := Lib.hid (hp_keep4 HBu.out hb)
     replace HBa := Lib.hid (hp_keep4 HBa.out hb)
     replace HBm := Lib.hid (hp_keep4 HBm.out hb)
     replace HBo := Lib.hid (hp_keep4 HBo.out hb)
     replace HA := Lib.hid (OL.keepb HA.out hb)
     replace HO := Lib.hid (OL.keepb HO.out hb)
     replace HW := Lib.hid (bt HW.out hb)
     clear hb
     rcases onF_two N xs c rs os 0 0 0 with ⟨C, R, hQ⟩ | hQ
     rotate_left
     ·rw [hQ] at he hrv
      obtain rfl : e = .returned (.tuple #[.agg #[.int .i64 0, .slice none 0 0, .int .i64 0, rv'], .int .i64 7]) := he
      obtain ⟨ao9, cap9, rfl⟩ := owns_form hrv
      have HF := Lib.hid (delay_err (l := []) (x := 7) HPRE.out HAF.out (by rw [HMO.out]; exact dNow_err (Int.not_lt.2 HM0.out) HOF.out hQ (by decide)) (by decide))
      clear hrv
      have hba := (Below.refl _ w6).alloc (Nat.le_refl _) (.cells #[.int .i64 0, .slice none 0 0, .int .i64 0, .slice ao9 (pv0.rs).length cap9] 35)
      have hqn := heap_alloc_new w6 (.cells #[.int .i64 0, .slice none 0 0, .int .i64 0, .slice ao9 (pv0.rs).length cap9] 35)
      have hqW := HW.out.size
      have hlz : w.heap.size < w6.heap.size := hp_lt3 HBz.out
      have hqz := hp_keep4 HBz.out hba
      have hlu : U < w6.heap.size := hp_lt3 HBu.out
      have hqu := hp_keep4 HBu.out hba
      have hla : A < w6.heap.size := hp_lt3 HBa.out
      have hqa := hp_keep4 HBa.out hba
      have hlm : M < w6.heap.size := hp_lt3 HBm.out
      have hqm := hp_keep4 HBm.out hba
      have hlo : O < w6.heap.size := hp_lt3 HBo.out
      have hqo := hp_keep4 HBo.out hba
      have hqHA := OL.keepb HA.out hba
      have hqHO := OL.keepb HO.out hba
      have hqw := bt HW.out hba
      clear hba HW HBz HBu HBa HBm HBo HA HO
      go_upto_region 21 with fail
      generalize hgen : w6.alloc (.cells #[.int .i64 0, .slice none 0 0, .int .i64 0, .slice ao9 (pv0.rs).length cap9] 35) = X8 at *
      clear hgen
      generalize hgen : w6.heap.size = Y8 at *
      clear hgen
      have HBx := Lib.hid hqn
      have HBz := Lib.hid hqz
      have HBu := Lib.hid hqu
      have HBa := Lib.hid hqa
      have HBm := Lib.hid hqm
      have HBo := Lib.hid hqo
      have HA := Lib.hid hqHA
      have HO := Lib.hid hqHO
      have HW := Lib.hid hqw
      clear hqn hqw hqz hqu hqa hqm hqo hqHA hqHO
      have HF2 := Lib.hid (show GaP w.heap.size (delayF N xs c rs rate cs) (.returned (.tuple #[.slice none 0 0, .int .i64 7])) X8 from GaP.err HF.out X8)
      go_wp2_with fail
      exact bodyPost_ret (v := .tuple #[.slice none 0 0, .int .i64 7]) (by simp [results, Tryz.results17, go_sem]) rfl ⟨HF2.out, HW.out⟩
     rw [hQ] at he hrv
     obtain rfl : e = .returned (.tuple #[.agg #[.int .i64 N, .slice aoo os.length capo, .int .i64 C, rv'], .int .i64 0]) := he
     have hrv : OL _ _ _ rv' R := hrv
     obtain ⟨ao9, cap9, rfl⟩ := owns_form hrv
     have HNW := Lib.hid (dNow_one (Int.not_lt.2 HM0.out) HOF.out hQ)
     have HR := Lib.hid (OL.mono hrv (Nat.zero_le _))
     clear hrv hQ
     have hba := (Below.refl _ w6).alloc (Nat.le_refl _) (.cells #[.int .i64 N, .slice aoo os.length capo, .int .i64 C, .slice ao9 R.length cap9] 35)
     have hqn := heap_alloc_new w6 (.cells #[.int .i64 N, .slice aoo os.length capo, .int .i64 C, .slice ao9 R.length cap9] 35)
     have hqW := HW.out.size
     have hlz : w.heap.size < w6.heap.size := hp_lt3 HBz.out
     have hqz := hp_keep4 HBz.out hba
     have hlu : U < w6.heap.size := hp_lt3 HBu.out
     have hqu := hp_keep4 HBu.out hba
     have hla : A < w6.heap.size := hp_lt3 HBa.out
     have hqa := hp_keep4 HBa.out hba
     have hlm : M < w6.heap.size := hp_lt3 HBm.out
     have hqm := hp_keep4 HBm.out hba
     have hlo : O < w6.heap.size := hp_lt3 HBo.out
     have hqo := hp_keep4 HBo.out hba
     have hqHA := OL.keepb HA.out hba
     have hqHO := OL.keepb HO.out hba
     have hqHR := OL.keepb HR.out hba
     have hqw := bt HW.out hba
     clear hba HW HBz HBu HBa HBm HBo HA HO HR
     go_upto_region 23 with fail
     generalize hgen : w6.alloc (.cells #[.int .i64 N, .slice aoo os.length capo, .int .i64 C, .slice ao9 R.length cap9] 35) = X8 at *
     clear hgen
     generalize hgen : w6.heap.size = Y8 at *
     clear hgen
     have HBx := Lib.hid hqn
     have HBz := Lib.hid hqz
     have HBu := Lib.hid hqu
     have HBa := Lib.hid hqa
     have HBm := Lib.hid hqm
     have HBo := Lib.hid hqo
     have HA := Lib.hid hqHA
     have HO := Lib.hid hqHO
     have HR := Lib.hid hqHR
     have HW := Lib.hid hqw
     clear hqn hqw hqz hqu hqa hqm hqo hqHA hqHO hqHR
     have x0 : X8.cell? ⟨Y8, 0, none⟩ = some (.int .i64 N) := cell_of_row _ (Y8) 0 _ _ _ HBx.out
     have x1 : X8.cell? ⟨Y8, 1, none⟩ = some (.slice aoo os.length capo) := cell_of_row _ (Y8) 1 _ _ _ HBx.out
     have x2 : X8.cell? ⟨Y8, 2, none⟩ = some (.int .i64 C) := cell_of_row _ (Y8) 2 _ _ _ HBx.out
     have x3 : X8.cell? ⟨Y8, 3, none⟩ = some (.slice ao9 R.length cap9) := cell_of_row _ (Y8) 3 _ _ _ HBx.out
     have hW8 := HW.out.size
     have hz8 := hp_lt3 HBz.out
     have ha8 := hp_lt3 HBa.out
     have hm8 := hp_lt3 HBm.out
     have Hlit := Lib.hid (show RS (X8.heap.size + 1) (X8.alloc (.cells #[.int .i64 N, .slice aoo os.length capo, .int .i64 C, .slice ao9 R.length cap9] 35)) (.slice (some ⟨X8.heap.size, 0, none⟩) 1 1) 1 (cdPz.cells ⟨N, .slice aoo os.length capo, os, C, .slice ao9 R.length cap9, R⟩) from rs_litz rfl)
     go_upto_region 24 with (at_builtin; go_loud (refine wpList_append_pz rfl (.tmp 91) (.tmp 93) 41 rfl 35 Tryz.undPz Tryz.infoPz X8.heap.size (.slice none 0 0) rfl [] (OE.nil _ _ _ _) (by simp) (.slice (some ⟨X8.heap.size, 0, none⟩) 1 1) rfl ⟨N, .slice aoo os.length capo, os, C, .slice ao9 R.length cap9, R⟩ rfl rfl (X8.heap.size + 1) Hlit.out (by simp) ?_; intro v' w7 ho' hg' hk'))
     have hba := (Below.refl _ X8).alloc (Nat.le_refl _) (.cells #[.int .i64 N, .slice aoo os.length capo, .int .i64 C, .slice ao9 R.length cap9] 35)
     have hg2 := hba.grown hg' hba.size (fun g e => by simp [Value.ownBlock] at e)
     have hw7 := hg2.size
     clear x0 x1 x2 x3
     replace HBz := Lib.hid (hp_keep4 HBz.out hg2)
     replace HBu := Lib.hid (hp_keep4 HBu.out hg2)
     replace HBa := Lib.hid (hp_keep4 HBa.out hg2)
     replace HBm := Lib.hid (hp_keep4 HBm.out hg2)
     replace HBo := Lib.hid (hp_keep4 HBo.out hg2)
     replace HBx := Lib.hid (hp_keep4 HBx.out hg2)
     replace HA := Lib.hid (OL.keepb HA.out hg2)
     replace HO := Lib.hid (OL.keepb HO.out hg2)
     replace HR := Lib.hid (OL.keepb HR.out hg2)
     replace HW := Lib.hid (bt HW.out hg2)
     clear hg2
     have HO2 := Lib.hid (show OE cdPz 35 X8.heap.size w7 v' [⟨N, .slice aoo os.length capo, os, C, .slice ao9 R.length cap9, R⟩] from ho')
     have HZ2 := Lib.hid (show LZ w7 [⟨N, .slice aoo os.length capo, os, C, .slice ao9 R.length cap9, R⟩] from LZ.snoc (LZ.nil _) HO.out HR.out)
     clear ho' hg' hk' hba Hlit
     have z0 : w7.cell? ⟨w.heap.size, 0, none⟩ = some (.int .i64 N) := cell_of_row _ (w.heap.size) 0 _ _ _ HBz.out
     have z1 : w7.cell? ⟨w.heap.size, 1, none⟩ = some (.slice ao xs.length cap) := cell_of_row _ (w.heap.size) 1 _ _ _ HBz.out
     have z2 : w7.cell? ⟨w.heap.size, 2, none⟩ = some (.int .i64 c) := cell_of_row _ (w.heap.size) 2 _ _ _ HBz.out
     have z3 : w7.cell? ⟨w.heap.size, 3, none⟩ = some (.slice aor rs.length capr) := cell_of_row _ (w.heap.size) 3 _ _ _ HBz.out
     obtain ⟨⟨L, x⟩, hGA⟩ : ∃ Q, gaF [(⟨N, os, C, R⟩ : Pv)] (dG N xs c rs zs MO) 1 N = Q := ⟨_, rfl⟩
     have HF := Lib.hid (show delayF N xs c rs rate cs = (L, x) from (delay_ga (l := [(⟨N, os, C, R⟩ : Pv)]) HPRE.out HAF.out (by rw [HMO.out]; exact HNW.out)).trans (by rw [HMO.out]; exact hGA))
     go_wp2_with fail
     refine (prog_gather N 1 v' _ [⟨N, .slice aoo os.length capo, os, C, .slice ao9 R.length cap9, R⟩] (dG N xs c rs zs MO) X8.heap.size w7 hw7 HO2.out HZ2.out hN (by simp) (mk_dhi N _ _ _ X8.heap.size 0 c MO _ _ _ _ xs rs zs _ w w7 HBz.out HBa.out HBm.out HW.out Hv.out Hr.out HA.out Hok.out Hlr.out Hc.out HM0.out HO2.out hW8 hz8 ha8 hm8)).mono ?_
     rintro e w8 ⟨hga, hgr⟩
     rw [show ([⟨N, .slice aoo os.length capo, os, C, .slice ao9 R.length cap9, R⟩] : List Pz).map pvOf = [(⟨N, os, C, R⟩ : Pv)] from rfl, hGA] at hga
     obtain ⟨vg, els, he, hog, hzg, hmg⟩ := hga
     obtain rfl : e = .returned (.tuple #[vg, .int .i64 x]) := he
     have HE := Lib.hid (show GaP w.heap.size (delayF N xs c rs rate cs) (.returned (.tuple #[vg, .int .i64 x])) w8 ∧ Below w.heap.size w w8 from ⟨by rw [HF.out]; exact ⟨vg, els, rfl, OE.lower hog (hW8), hzg, hmg⟩, bw_gr0 HW.out hgr (fun g e => (World.ownsRow.lt HO2.out g e).1) (hW8)⟩)
     clear hog hzg hmg hgr hGA
     go_wp2_with fail
     exact bodyPost_ret (v := .tuple #[vg, .int .i64 x]) (by simp [results, Tryz.results17, go_sem]) rfl HE.out
end Go.Proofs.YtfphlpglgcmljaaGreat
