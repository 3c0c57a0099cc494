/- Part of the proof of priced_waits_proved: Pct. -/
import Derived.Deep.DeepCutAuto
import Derived.Test.YtfphlpglgcmljaaGreatXwPzc
import Derived.Test.YtfphlpglgcmljaaGreatXwRand
import Derived.Test.YtfphlpglgcmljaaGreatXwPand2
import Derived.Test.YtfphlpglgcmljaaGreatXwK3
namespace Go.Proofs.YtfphlpglgcmljaaGreat
open Go.RowKit
set_option linter.unusedVariables false
def con3n (x : Kc) : Int :=
 let n1 := if x.lower then IntKind.i64.wrap (-IntKind.i64.wrap (2 * x.c)) else IntKind.i64.wrap (2 * x.c)
 if x.strict then n1 else IntKind.i64.wrap (n1 + 1)
def con3 (x : Kc) : K3 := if x.lower then (0, x.clock, con3n x) else (x.clock, 0, con3n x)
def conTo (cs : List Kc) (k : Nat) : List K3 := (cs.take k).map con3
theorem conTo_len {cs : List Kc} {k : Nat} (hk : k ≤ cs.length) : (conTo cs k).length = k := by unfold conTo; rw [List.length_map, List.length_take]; omega
theorem conTo_all (cs : List Kc) : conTo cs cs.length = cs.map con3 := by unfold conTo; rw [List.take_length]
theorem conTo_succ {cs : List Kc} {k : Nat} (hk : k < cs.length) : conTo cs (k + 1) = conTo cs k ++ [con3 (ge cdCon cs k)] := by
 unfold conTo; rw [List.take_succ_eq_append_getElem hk, List.map_append, ge_of cdCon hk]; rfl
theorem OK3.keepw {t base : Nat} {w w' : World} {v : Value} {cs : List K3} (h : OK3 t base w v cs) (hb : Below w.heap.size w w') : OK3 t base w' v cs :=
 World.ownsRow.kept h (grownBy_below hb none) (by cases hh : v.ownBlock with | none => exact .inl rfl | some b => exact .inr (by simp))
theorem wrap_w64 (x : Int) : wrap64 x = IntKind.i64.wrap x := by rw [IntKind.wrap_i64]; unfold wrap64; omega
theorem rs_lit3s {w : World} {s : Nat} (hs : w.heap.size = s) {arr : Array Value} {e : Nat} {cs : List K3} {m : Nat} (h : arr.toList = cs.flatMap cells3) (hm : m = cs.length) (hl : cs.length ≤ 1000) :
  RS (s + 1) (w.alloc (.cells arr e)) (.slice (some ⟨s, 0, none⟩) m m) cs.length (cs.flatMap cells3) := by subst hs; exact rs_lit3 h hm hl
set_option maxRecDepth 100000 in
set_option maxHeartbeats 8000000 in
theorem prog_meet_cons (n : Int) (zv v : Value) (zs : List Int) (cs : List Kc) (w : World) (hz : RL w.heap.size w zv zs) (hv : RX cdCon w.heap.size w v cs) (hn : cs.length ≤ 1000) :
  Calls Tryz.prog 55 #[.agg #[.int .i64 n, zv], v] w fun e w' => ZPost 63 w.heap.size n (andF n zs (cs.map con3)) e w' ∧ Below w.heap.size w w' := by
 obtain ⟨ao2, cap2, rfl, hle2, _⟩ := hz.open
 obtain ⟨ao, cap, rfl, hle, h0⟩ := hv.open
 have hloc := Loc.two w (.cells #[.int .i64 n, .slice ao2 zs.length cap2] 32) (.cells #[.int .i64 0, .slice none 0 0] 32) none
 have H0 := Lib.hid h0
 have Hz := Lib.hid hz
 clear hv h0 hz
 go_enter Tryz.func55, Tryz.ntmps55
 go_wp2_with fail
 go_loopw [6, 14] (fun u i wr => ∃ k : Nat, k ≤ cs.length ∧ i = .int .i64 k ∧ OK3 98 (w.heap.size + 2) wr u (conTo cs k) ∧ Loc w wr none [.cells #[.int .i64 n, .slice ao2 zs.length cap2] 32, .cells #[.int .i64 0, .slice none 0 0] 32]) (fun _ i _ => cs.length - (intOf i).toNat)
 case atStart => exact ⟨0, Nat.zero_le _, rfl, ⟨rfl, .inl ⟨rfl, rfl⟩⟩, hloc⟩
 case round =>
  clear hloc
  obtain ⟨k, hk, rfl, hown, hloc⟩ := hrel
  have Hown := Lib.hid hown
  have Hloc := Lib.hid hloc
  have Hbel := Lib.hid (below_grownBy hloc.grown)
  have Hs : w.heap.size + 2 ≤ wr.heap.size := hloc.size
  by_cases hlt : k < cs.length
  rotate_left
  ·have htk : decide ((k : Int) < (cs.length : Int)) = false := by simp; omega
   obtain rfl : k = cs.length := by omega
   have z0 : wr.cell? ⟨w.heap.size, 0, none⟩ = some (.int .i64 n) := hloc.cell 0 rfl 0
   have z1 : wr.cell? ⟨w.heap.size, 1, none⟩ = some (.slice ao2 zs.length cap2) := hloc.cell 0 rfl 1
   have HA := Lib.hid (prog_and n _ _ zs (cs.map con3) wr (Hz.out.keepb Hbel.out) (by rw [← conTo_all]; exact OK3.rk Hown.out))
   clear hown hloc
   go_wp2_with fail
   refine HA.out.mono ?_
   rintro e w1 ⟨⟨v', rfl, ho⟩, hb1⟩
   have hloc1 := Hloc.out.next (grownBy_below hb1 none) (fun _ h => by cases h)
   have t0 : w1.cell? ⟨w.heap.size + 1, 0, none⟩ = some (.int .i64 0) := hloc1.cell 1 rfl 0
   have t1 : w1.cell? ⟨w.heap.size + 1, 1, none⟩ = some (.slice none 0 0) := hloc1.cell 1 rfl 1
   have f0 : w1.frozen? ⟨w.heap.size + 1, 0, none⟩ = false := hloc1.free 1 rfl 0
   have f1 : w1.frozen? ⟨w.heap.size + 1, 1, none⟩ = false := hloc1.free 1 rfl 1
   have HB1 := Lib.hid (below_grownBy hloc1.grown)
   obtain ⟨ao3, cap3, rfl⟩ := owns_form ho
   have HO := Lib.hid ho
   obtain ⟨D, hD⟩ : ∃ D, zdim (andF n zs (cs.map con3)) n = D := ⟨_, rfl⟩
   have HD := Lib.hid hD
   rw [hD]
   clear hb1 hD ho
   generalize hR : andF n zs (cs.map con3) = R at *
   obtain ⟨R1, R2⟩ := R
   have HR := Lib.hid hR
   clear hR
   go_wp2_with fail
   refine bodyPost_ret (v := .tuple #[.agg #[.int .i64 D, .slice ao3 R2.length cap3], .int .i64 R1]) (by simp [results, Tryz.results55, go_sem, t0, t1]) rfl ⟨⟨_, by rw [HR.out, HD.out], ?_⟩, ?_⟩
   ·rw [HR.out]; exact owns_mono (own_set2 HO.out (show w.heap.size + 1 < wr.heap.size by omega) _ _) (by omega)
   ·exact ((HB1.out).setCell (by show w.heap.size ≤ w.heap.size + 1; omega) _).setCell (by show w.heap.size ≤ w.heap.size + 1; omega) _
  have htk : decide ((k : Int) < (cs.length : Int)) = true := by simp; omega
  obtain ⟨b, off, rfl, hb, hc⟩ := H0.out (by omega)
  obtain ⟨E, hE⟩ : ∃ E, ge cdCon cs k = E := ⟨_, rfl⟩
  have x0 : wr.cell? ⟨b, off + k * 4, none⟩ = some (.int .i64 E.clock) := by
   have h := ((bcell Hbel.out).1 b (off + (k * 4 + 0)) hb).trans (hc k 0 hlt (by decide))
   rw [hE] at h
   rw [show off + k * 4 = off + (k * 4 + 0) by omega]
   exact h
  have x1 : wr.cell? ⟨b, off + k * 4 + 1, none⟩ = some (.bool E.lower) := by
   have h := ((bcell Hbel.out).1 b (off + (k * 4 + 1)) hb).trans (hc k 1 hlt (by decide))
   rw [hE] at h
   rw [show off + k * 4 + 1 = off + (k * 4 + 1) by omega]
   exact h
  have x2 : wr.cell? ⟨b, off + k * 4 + 2, none⟩ = some (.bool E.strict) := by
   have h := ((bcell Hbel.out).1 b (off + (k * 4 + 2)) hb).trans (hc k 2 hlt (by decide))
   rw [hE] at h
   rw [show off + k * 4 + 2 = off + (k * 4 + 2) by omega]
   exact h
  have x3 : wr.cell? ⟨b, off + k * 4 + 3, none⟩ = some (.int .i64 E.c) := by
   have h := ((bcell Hbel.out).1 b (off + (k * 4 + 3)) hb).trans (hc k 3 hlt (by decide))
   rw [hE] at h
   rw [show off + k * 4 + 3 = off + (k * 4 + 3) by omega]
   exact h
  have Hlt := Lib.hid hlt
  have HS := Lib.hid (conTo_succ hlt)
  rw [hE] at HS
  have k0 : (k : Int) < cs.length := by omega
  have k1 : (0 : Int) ≤ (k : Int) := by omega
  clear hown hloc
  obtain ⟨Ec, El, Es, EC⟩ := E
  dsimp only at x0 x1 x2 x3
  obtain ⟨n0, hn0⟩ : ∃ n, IntKind.i64.wrap (2 * EC) = n := ⟨_, rfl⟩
  have hn0' : wrap64 (2 * EC) = n0 := (wrap_w64 _).trans hn0
  have HC11 := Lib.hid (show con3 ⟨Ec, true, true, EC⟩ = ((0 : Int), Ec, IntKind.i64.wrap (-n0)) by subst hn0; rfl)
  have HC10 := Lib.hid (show con3 ⟨Ec, true, false, EC⟩ = ((0 : Int), Ec, IntKind.i64.wrap (IntKind.i64.wrap (-n0) + 1)) by subst hn0; rfl)
  have HC01 := Lib.hid (show con3 ⟨Ec, false, true, EC⟩ = (Ec, (0 : Int), n0) by subst hn0; rfl)
  have HC00 := Lib.hid (show con3 ⟨Ec, false, false, EC⟩ = (Ec, (0 : Int), IntKind.i64.wrap (n0 + 1)) by subst hn0; rfl)
  clear hc hE
  cases El
  ·skip
   cases Es
   ·skip
    have HC := Lib.hid HC00.out
    obtain ⟨n2, hn2⟩ : ∃ n, IntKind.i64.wrap (n0 + 1) = n := ⟨_, rfl⟩
    have hn2' : wrap64 (n0 + 1) = n2 := (wrap_w64 _).trans hn2
    rw [hn2] at HC
    clear HC00 HC01 HC10 HC11
    go_wp2_with (at_builtin; (refine wpList_append_k rfl (.tmp 34) (.tmp 39) 96 rfl 98 Tryz.undKs Tryz.infoK (w.heap.size + 2) u6 rfl (conTo cs k) ?_ ?_ (.slice (some ⟨wr.heap.size + 1, 0, none⟩) 1 1) rfl [(Ec, (0 : Int), n2)] (wr.heap.size + 1 + 1) ?_ ?_ ?_; (exact World.ownsRow.alloc (World.ownsRow.alloc Hown.out (.cells #[.int .i64 Ec, .bool false, .bool false, .int .i64 EC] 81)) _); (simp; omega); (exact rs_lit3s (w := wr.alloc (.cells #[.int .i64 Ec, .bool false, .bool false, .int .i64 EC] 81)) (s := wr.heap.size + 1) (by simp) rfl rfl (by simp)); (rw [conTo_len (Nat.le_of_lt Hlt.out)]; have := Hlt.out; simp only [List.length_cons, List.length_nil]; omega); intro v' w' ho' hg'))
    have hloc2 := ((Hloc.out.next (World.grownBy_alloc wr _ none) (fun _ h => by cases h)).next (World.grownBy_alloc _ _ none) (fun _ h => by cases h)).anyrow hg' (fun g e => (World.ownsRow.lt Hown.out g e).1)
    go_roundw
    case rel => exact ⟨k + 1, Hlt.out, by go_num, by rw [HS.out, HC.out]; exact ho', hloc2⟩
    case measure => simp [intOf]; have := Hlt.out; omega
   ·skip
    have HC := Lib.hid HC01.out
    clear HC00 HC01 HC10 HC11
    go_wp2_with (at_builtin; (refine wpList_append_k rfl (.tmp 34) (.tmp 39) 96 rfl 98 Tryz.undKs Tryz.infoK (w.heap.size + 2) u6 rfl (conTo cs k) ?_ ?_ (.slice (some ⟨wr.heap.size + 1, 0, none⟩) 1 1) rfl [(Ec, (0 : Int), n0)] (wr.heap.size + 1 + 1) ?_ ?_ ?_; (exact World.ownsRow.alloc (World.ownsRow.alloc Hown.out (.cells #[.int .i64 Ec, .bool false, .bool true, .int .i64 EC] 81)) _); (simp; omega); (exact rs_lit3s (w := wr.alloc (.cells #[.int .i64 Ec, .bool false, .bool true, .int .i64 EC] 81)) (s := wr.heap.size + 1) (by simp) rfl rfl (by simp)); (rw [conTo_len (Nat.le_of_lt Hlt.out)]; have := Hlt.out; simp only [List.length_cons, List.length_nil]; omega); intro v' w' ho' hg'))
    have hloc2 := ((Hloc.out.next (World.grownBy_alloc wr _ none) (fun _ h => by cases h)).next (World.grownBy_alloc _ _ none) (fun _ h => by cases h)).anyrow hg' (fun g e => (World.ownsRow.lt Hown.out g e).1)
    go_roundw
    case rel => exact ⟨k + 1, Hlt.out, by go_num, by rw [HS.out, HC.out]; exact ho', hloc2⟩
    case measure => simp [intOf]; have := Hlt.out; omega
  ·skip
   cases Es
   ·skip
    obtain ⟨n1, hn1⟩ : ∃ n, IntKind.i64.wrap (-n0) = n := ⟨_, rfl⟩
    have hn1' : wrap64 (-n0) = n1 := (wrap_w64 _).trans hn1
    have HC := Lib.hid HC10.out
    rw [hn1] at HC
    obtain ⟨n2, hn2⟩ : ∃ n, IntKind.i64.wrap (n1 + 1) = n := ⟨_, rfl⟩
    have hn2' : wrap64 (n1 + 1) = n2 := (wrap_w64 _).trans hn2
    rw [hn2] at HC
    clear HC00 HC01 HC10 HC11
    go_upto_region 8 with fail
    have Hown8 := Lib.hid (show OK3 _ _ _ _ _ from World.ownsRow.alloc Hown.out (.cells #[.int .i64 Ec, .bool true, .bool false, .int .i64 EC] 81))
    have hloc8 := Hloc.out.next (World.grownBy_alloc wr (.cells #[.int .i64 Ec, .bool true, .bool false, .int .i64 EC] 81) none) (fun _ h => by cases h)
    have s8 : (wr.alloc (.cells #[.int .i64 Ec, .bool true, .bool false, .int .i64 EC] 81)).heap.size = wr.heap.size + 1 := by simp
    have c80 := cell_of_row _ wr.heap.size 0 _ _ _ (heap_alloc_new wr (.cells #[.int .i64 Ec, .bool true, .bool false, .int .i64 EC] 81))
    have c82 := cell_of_row _ wr.heap.size 2 _ _ _ (heap_alloc_new wr (.cells #[.int .i64 Ec, .bool true, .bool false, .int .i64 EC] 81))
    generalize wr.alloc (.cells #[.int .i64 Ec, .bool true, .bool false, .int .i64 EC] 81) = W8 at *
    go_quiet (fail)
    have hloc9 := hloc8.next (grownBy_below (below_drewN W8 nq) none) (fun _ h => by cases h)
    have Hown9 := Lib.hid (OK3.keepw Hown8.out (below_drewN W8 nq))
    have s9 : (W8.drewN nq).heap.size = wr.heap.size + 1 := s8
    have c92 : (W8.drewN nq).cell? ⟨wr.heap.size, 2, none⟩ = some (.bool false) := c82
    clear s8 c80 c82 hloc8 Hown8
    generalize W8.drewN nq = W9 at *
    have Hloc9 := Lib.hid hloc9
    clear hloc9
    go_wp2_with (at_builtin; (refine wpList_append_k rfl (.tmp 34) (.tmp 39) 96 rfl 98 Tryz.undKs Tryz.infoK (w.heap.size + 2) u6 rfl (conTo cs k) ?_ ?_ (.slice (some ⟨wr.heap.size + 1, 0, none⟩) 1 1) rfl [((0 : Int), Ec, n2)] (wr.heap.size + 1 + 1) ?_ ?_ ?_; (exact World.ownsRow.alloc Hown9.out _); (simp; omega); (exact rs_lit3s (w := W9) s9 rfl rfl (by simp)); (rw [conTo_len (Nat.le_of_lt Hlt.out)]; have := Hlt.out; simp only [List.length_cons, List.length_nil]; omega); intro v' w' ho' hg'))
    have hloc2 := (Hloc9.out.next (World.grownBy_alloc _ _ none) (fun _ h => by cases h)).anyrow hg' (fun g e => (World.ownsRow.lt Hown9.out g e).1)
    go_roundw
    case rel => exact ⟨k + 1, Hlt.out, by go_num, by rw [HS.out, HC.out]; exact ho', hloc2⟩
    case measure => simp [intOf]; have := Hlt.out; omega
   ·skip
    obtain ⟨n1, hn1⟩ : ∃ n, IntKind.i64.wrap (-n0) = n := ⟨_, rfl⟩
    have hn1' : wrap64 (-n0) = n1 := (wrap_w64 _).trans hn1
    have HC := Lib.hid HC11.out
    rw [hn1] at HC
    clear HC00 HC01 HC10 HC11
    go_upto_region 8 with fail
    have Hown8 := Lib.hid (show OK3 _ _ _ _ _ from World.ownsRow.alloc Hown.out (.cells #[.int .i64 Ec, .bool true, .bool true, .int .i64 EC] 81))
    have hloc8 := Hloc.out.next (World.grownBy_alloc wr (.cells #[.int .i64 Ec, .bool true, .bool true, .int .i64 EC] 81) none) (fun _ h => by cases h)
    have s8 : (wr.alloc (.cells #[.int .i64 Ec, .bool true, .bool true, .int .i64 EC] 81)).heap.size = wr.heap.size + 1 := by simp
    have c80 := cell_of_row _ wr.heap.size 0 _ _ _ (heap_alloc_new wr (.cells #[.int .i64 Ec, .bool true, .bool true, .int .i64 EC] 81))
    have c82 := cell_of_row _ wr.heap.size 2 _ _ _ (heap_alloc_new wr (.cells #[.int .i64 Ec, .bool true, .bool true, .int .i64 EC] 81))
    generalize wr.alloc (.cells #[.int .i64 Ec, .bool true, .bool true, .int .i64 EC] 81) = W8 at *
    go_quiet (fail)
    have hloc9 := hloc8.next (grownBy_below (below_drewN W8 nq) none) (fun _ h => by cases h)
    have Hown9 := Lib.hid (OK3.keepw Hown8.out (below_drewN W8 nq))
    have s9 : (W8.drewN nq).heap.size = wr.heap.size + 1 := s8
    have c92 : (W8.drewN nq).cell? ⟨wr.heap.size, 2, none⟩ = some (.bool true) := c82
    clear s8 c80 c82 hloc8 Hown8
    generalize W8.drewN nq = W9 at *
    have Hloc9 := Lib.hid hloc9
    clear hloc9
    go_wp2_with (at_builtin; (refine wpList_append_k rfl (.tmp 34) (.tmp 39) 96 rfl 98 Tryz.undKs Tryz.infoK (w.heap.size + 2) u6 rfl (conTo cs k) ?_ ?_ (.slice (some ⟨wr.heap.size + 1, 0, none⟩) 1 1) rfl [((0 : Int), Ec, n1)] (wr.heap.size + 1 + 1) ?_ ?_ ?_; (exact World.ownsRow.alloc Hown9.out _); (simp; omega); (exact rs_lit3s (w := W9) s9 rfl rfl (by simp)); (rw [conTo_len (Nat.le_of_lt Hlt.out)]; have := Hlt.out; simp only [List.length_cons, List.length_nil]; omega); intro v' w' ho' hg'))
    have hloc2 := (Hloc9.out.next (World.grownBy_alloc _ _ none) (fun _ h => by cases h)).anyrow hg' (fun g e => (World.ownsRow.lt Hown9.out g e).1)
    go_roundw
    case rel => exact ⟨k + 1, Hlt.out, by go_num, by rw [HS.out, HC.out]; exact ho', hloc2⟩
    case measure => simp [intOf]; have := Hlt.out; omega
end Go.Proofs.YtfphlpglgcmljaaGreat
