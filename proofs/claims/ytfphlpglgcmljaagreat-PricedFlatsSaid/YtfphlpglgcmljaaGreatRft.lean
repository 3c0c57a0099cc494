/- The reference's Flat. -/
import Derived.Test.YtfphlpglgcmljaaGreatHof
import Derived.Test.YtfphlpglgcmljaaGreatPzc
namespace Go.Proofs.YtfphlpglgcmljaaGreat
open Go.RowKit
set_option linter.unusedVariables false

theorem flat_head {n i0 : Int} {ls : List Fl} {es : List Fe} (h : n < 0 ∨ 8 < n ∨ (ls.length : Int) < 1 ∨ 64 < (ls.length : Int) ∨ 200 < (es.length : Int) ∨ i0 < 0 ∨ (ls.length : Int) ≤ i0) : flatV n i0 ls es = 2 := by
  unfold flatV
  cases hb : flatB n i0 ls es with
  | false => rfl
  | true => unfold flatB btw at hb; simp only [Bool.and_eq_true, decide_eq_true_eq] at hb; omega
theorem flat_loc {n i0 : Int} {ls : List Fl} {es : List Fe} (h : ls.all (locB n) = false) : flatV n i0 ls es = 2 := by unfold flatV flatB; rw [h]; simp
theorem flat_edg {n i0 : Int} {ls : List Fl} {es : List Fe} (h : es.all (edgB n ((ls.length : Int) - 1)) = false) : flatV n i0 ls es = 2 := by unfold flatV flatB; rw [h]; simp
theorem flat_yes {n i0 : Int} {ls : List Fl} {es : List Fe} (h : ¬(n < 0 ∨ 8 < n ∨ (ls.length : Int) < 1 ∨ 64 < (ls.length : Int) ∨ 200 < (es.length : Int) ∨ i0 < 0 ∨ (ls.length : Int) ≤ i0)) (h1 : ls.all (locB n) = true) (h2 : es.all (edgB n ((ls.length : Int) - 1)) = true) : flatV n i0 ls es = 0 := by
  have hb : flatB n i0 ls es = true := by
    unfold flatB btw; rw [h1, h2]; simp only [Bool.and_eq_true, decide_eq_true_eq]
    refine ⟨⟨⟨⟨⟨⟨?_, ?_⟩, ⟨?_, ?_⟩⟩, ?_⟩, ⟨?_, ?_⟩⟩, trivial⟩, trivial⟩ <;> omega
  unfold flatV; rw [hb]; rfl
theorem loc_inv {n : Int} {x : Fl} (h : invB n x.cs = false) : locB n x = false := by unfold locB; rw [h]; rfl
theorem loc_rate {n : Int} {x : Fl} (h : x.rate < 0 ∨ 10000 < x.rate) : locB n x = false := by
  cases hb : locB n x with
  | false => rfl
  | true => unfold locB btw at hb; simp only [Bool.and_eq_true, decide_eq_true_eq] at hb; omega
theorem loc_yes {n : Int} {x : Fl} (h : invB n x.cs = true) (h2 : ¬(x.rate < 0 ∨ 10000 < x.rate)) : locB n x = true := by
  unfold locB btw; rw [h]; simp only [Bool.and_eq_true, decide_eq_true_eq]; exact ⟨trivial, by omega, by omega⟩
def EdgOut (L : Int) (x : Fe) : Prop := x.a < 0 ∨ L ≤ x.a ∨ x.b < 0 ∨ L ≤ x.b ∨ x.act < 0 ∨ 1000 < x.act ∨ x.kind < 0 ∨ 1 < x.kind ∨ x.cost < 0 ∨ 10000 < x.cost
theorem edg_out {n L : Int} {x : Fe} (h : EdgOut L x) : edgB n (L - 1) x = false := by
  cases hb : edgB n (L - 1) x with
  | false => rfl
  | true => unfold edgB btw at hb; unfold EdgOut at h; simp only [Bool.and_eq_true, decide_eq_true_eq] at hb; omega
theorem edg_con {n l : Int} {x : Fe} (h : cnsB n x.gs = false) : edgB n l x = false := by unfold edgB; rw [h]; simp
theorem edg_res {n l : Int} {x : Fe} (h : rssB n x.rs = false) : edgB n l x = false := by unfold edgB; rw [h]; simp
theorem edg_yes {n L : Int} {x : Fe} (h : ¬ EdgOut L x) (h1 : cnsB n x.gs = true) (h2 : rssB n x.rs = true) : edgB n (L - 1) x = true := by
  unfold EdgOut at h
  unfold edgB btw; rw [h1, h2]; simp only [Bool.and_eq_true, decide_eq_true_eq]
  refine ⟨⟨⟨⟨⟨⟨⟨?_, ?_⟩, ⟨?_, ?_⟩⟩, trivial⟩, trivial⟩, ⟨?_, ?_⟩⟩, ⟨?_, ?_⟩⟩, ⟨?_, ?_⟩⟩ <;> omega
set_option maxRecDepth 100000 in
set_option maxHeartbeats 8000000 in
theorem ref_flat (n i0 : Int) (lv ev : Value) (ls : List Fl) (es : List Fe) (w : World) (hl : LocsR w lv ls) (he : EdgsR w ev es) :
    Calls Tryz.prog 14 #[.agg #[.int .i64 n, .int .i64 i0, lv, ev]] w fun e w' => e = .returned (.int .i64 (flatV n i0 ls es)) ∧ Below w.heap.size w w' := by
  have Hl := Lib.hid hl
  have He := Lib.hid he
  obtain ⟨aol, capl, rfl, hlel, hcl⟩ := hl.1.open
  obtain ⟨aoe, cape, rfl, hlee, hce⟩ := he.1.open
  have HCl := Lib.hid hcl
  have HCe := Lib.hid hce
  have hloc := Loc.one w (.cells #[.int .i64 n, .int .i64 i0, .slice aol ls.length capl, .slice aoe es.length cape] 25) none
  clear hl he hcl hce
  go_enter Tryz.func14, Tryz.ntmps14
  by_cases h0 : n < 0
  · skip
    have HR := Lib.hid (show flatV n i0 ls es = 2 from flat_head (by omega))
    go_wp2_with fail
    go_ret
    exact ⟨ret_int HR.out.symm, below_grownBy hloc.grown⟩
  by_cases h1 : 8 < n
  · skip
    have HR := Lib.hid (show flatV n i0 ls es = 2 from flat_head (by omega))
    go_wp2_with fail
    go_ret
    exact ⟨ret_int HR.out.symm, below_grownBy hloc.grown⟩
  by_cases h2 : (ls.length : Int) < 1
  · skip
    have HR := Lib.hid (show flatV n i0 ls es = 2 from flat_head (by omega))
    go_wp2_with fail
    go_ret
    exact ⟨ret_int HR.out.symm, below_grownBy hloc.grown⟩
  by_cases h3 : 64 < (ls.length : Int)
  · skip
    have HR := Lib.hid (show flatV n i0 ls es = 2 from flat_head (by omega))
    go_wp2_with fail
    go_ret
    exact ⟨ret_int HR.out.symm, below_grownBy hloc.grown⟩
  by_cases h4 : 200 < (es.length : Int)
  · skip
    have HR := Lib.hid (show flatV n i0 ls es = 2 from flat_head (by omega))
    go_wp2_with fail
    go_ret
    exact ⟨ret_int HR.out.symm, below_grownBy hloc.grown⟩
  by_cases h5 : i0 < 0
  · skip
    have HR := Lib.hid (show flatV n i0 ls es = 2 from flat_head (by omega))
    go_wp2_with fail
    go_ret
    exact ⟨ret_int HR.out.symm, below_grownBy hloc.grown⟩
  by_cases h6 : (ls.length : Int) ≤ i0
  · skip
    have HR := Lib.hid (show flatV n i0 ls es = 2 from flat_head (by omega))
    go_wp2_with fail
    go_ret
    exact ⟨ret_int HR.out.symm, below_grownBy hloc.grown⟩
  have HH := Lib.hid (show ¬(n < 0 ∨ 8 < n ∨ (ls.length : Int) < 1 ∨ 64 < (ls.length : Int) ∨ 200 < (es.length : Int) ∨ i0 < 0 ∨ (ls.length : Int) ≤ i0) by omega)
  go_wp2_with fail
  go_loopw [3] (fun i wr => ∃ k : Nat, k ≤ ls.length ∧ i = .int .i64 k ∧ YesTo cdLoc (locB n) ls k ∧ Loc w wr none [.cells #[.int .i64 n, .int .i64 i0, .slice aol ls.length capl, .slice aoe es.length cape] 25]) (fun i _ => ls.length - (intOf i).toNat)
  case atStart => exact ⟨0, Nat.zero_le _, rfl, fun k hk => by omega, hloc⟩
  case round =>
    clear hloc
    obtain ⟨k, hk, rfl, hyes, hloc⟩ := hrel
    have Hyes := Lib.hid hyes
    have Hbel := Lib.hid (below_grownBy hloc.grown)
    clear hyes
    by_cases hlt : k < ls.length
    · have htk : decide ((k : Int) < (ls.length : Int)) = true := by simp; omega
      obtain ⟨b, off, rfl, hb, hc⟩ := HCl.out (by omega)
      have hmem := Lib.hid (ge_mem cdLoc hlt)
      obtain ⟨E, hE⟩ : ∃ E, ge cdLoc ls k = E := ⟨_, rfl⟩
      have x0 : wr.cell? ⟨b, off + k * 3, none⟩ = some (E.v) := by
        have h := ((bcell Hbel.out).1 b (off + (k * 3 + 0)) hb).trans (hc k 0 hlt (by decide))
        rw [hE] at h
        rw [show off + k * 3 = off + (k * 3 + 0) by omega]
        exact h
      have x1 : wr.cell? ⟨b, off + k * 3 + 1, none⟩ = some (.bool E.u) := by
        have h := ((bcell Hbel.out).1 b (off + (k * 3 + 1)) hb).trans (hc k 1 hlt (by decide))
        rw [hE] at h
        rw [show off + k * 3 + 1 = off + (k * 3 + 1) by omega]
        exact h
      have x2 : wr.cell? ⟨b, off + k * 3 + 2, none⟩ = some (.int .i64 E.rate) := by
        have h := ((bcell Hbel.out).1 b (off + (k * 3 + 2)) hb).trans (hc k 2 hlt (by decide))
        rw [hE] at h
        rw [show off + k * 3 + 2 = off + (k * 3 + 2) by omega]
        exact h
      have HNO := Lib.hid (fun (h : (locB n) E = false) => not_all_ge (c := cdLoc) (p := (locB n)) (xs := ls) (q := k) hlt (by rw [hE]; exact h))
      have HYE := Lib.hid (fun (h : (locB n) E = true) => Hyes.out.succ (by rw [hE]; exact h))
      rw [hE] at hmem
      have HX := Lib.hid (Hl.out.2 _ hmem.out)
      obtain ⟨aov, capv, hev, _, _⟩ := HX.out.open
      rw [hev] at HX x0
      clear hev
      have k0 : (k : Int) < ls.length := by omega
      have k1 : (0 : Int) ≤ (k : Int) := by omega
      clear hc hE hlt
      have z0 : wr.cell? ⟨w.heap.size, 0, none⟩ = some (.int .i64 n) := hloc.cell 0 rfl 0
      have z1 : wr.cell? ⟨w.heap.size, 1, none⟩ = some (.int .i64 i0) := hloc.cell 0 rfl 1
      have z2 : wr.cell? ⟨w.heap.size, 2, none⟩ = some (.slice (some ⟨b, off, none⟩) ls.length capl) := hloc.cell 0 rfl 2
      have z3 : wr.cell? ⟨w.heap.size, 3, none⟩ = some (.slice aoe es.length cape) := hloc.cell 0 rfl 3
      have hlb := Loc.one wr (.cells #[.slice aov E.cs.length capv, .bool E.u, .int .i64 E.rate] 73) none
      have hloca := hloc.next (World.grownBy_alloc wr (.cells #[.slice aov E.cs.length capv, .bool E.u, .int .i64 E.rate] 73) none) (fun _ h => by cases h)
      have a0 : (wr.alloc (.cells #[.slice aov E.cs.length capv, .bool E.u, .int .i64 E.rate] 73)).cell? ⟨w.heap.size, 0, none⟩ = some (.int .i64 n) := hloca.cell 0 rfl 0
      have a1 : (wr.alloc (.cells #[.slice aov E.cs.length capv, .bool E.u, .int .i64 E.rate] 73)).cell? ⟨w.heap.size, 1, none⟩ = some (.int .i64 i0) := hloca.cell 0 rfl 1
      have a2 : (wr.alloc (.cells #[.slice aov E.cs.length capv, .bool E.u, .int .i64 E.rate] 73)).cell? ⟨w.heap.size, 2, none⟩ = some (.slice (some ⟨b, off, none⟩) ls.length capl) := hloca.cell 0 rfl 2
      have a3 : (wr.alloc (.cells #[.slice aov E.cs.length capv, .bool E.u, .int .i64 E.rate] 73)).cell? ⟨w.heap.size, 3, none⟩ = some (.slice aoe es.length cape) := hloca.cell 0 rfl 3
      go_wp2_with fail
      refine (ref_invariant n _ E.cs _ (RX.keepb HX.out (below_grownBy hloca.grown))).mono ?_
      rintro e w1 ⟨rfl, hb1⟩
      have hloc1 := hloca.next (grownBy_below hb1 none) (fun _ h => by cases h)
      have hlb1 := hlb.next (grownBy_below hb1 none) (fun _ h => by cases h)
      have y2 : w1.cell? ⟨wr.heap.size, 2, none⟩ = some (.int .i64 E.rate) := hlb1.cell 0 rfl 2
      clear hb1 hlb hloca hloc z0 z1 z2 z3 a0 a1 a2 a3 x0 x1 x2
      cases hi : invB n E.cs with
      | false =>
        have HR := Lib.hid (show flatV n i0 ls es = 2 from flat_loc (HNO.out (loc_inv hi)))
        go_wp2_with fail
        go_ret
        exact ⟨ret_int HR.out.symm, below_grownBy hloc1.grown⟩
      | true =>
        by_cases g0 : E.rate < 0
        · skip
          have HR := Lib.hid (show flatV n i0 ls es = 2 from flat_loc (HNO.out (loc_rate (by omega))))
          go_wp2_with fail
          go_ret
          exact ⟨ret_int HR.out.symm, below_grownBy hloc1.grown⟩
        by_cases g1 : 10000 < E.rate
        · skip
          have HR := Lib.hid (show flatV n i0 ls es = 2 from flat_loc (HNO.out (loc_rate (by omega))))
          go_wp2_with fail
          go_ret
          exact ⟨ret_int HR.out.symm, below_grownBy hloc1.grown⟩
        have HQ := Lib.hid (HYE.out (loc_yes hi (by omega)))
        go_wp2_with fail
        go_roundw
        case rel => exact ⟨k + 1, by omega, by go_num, HQ.out, hloc1⟩
        case measure => simp [intOf]; omega
    · have htk : decide ((k : Int) < (ls.length : Int)) = false := by simp; omega
      have HLA := Lib.hid (YesTo.all (c := cdLoc) (p := locB n) (xs := ls) (by rw [show ls.length = k by omega]; exact Hyes.out))
      have z0 : wr.cell? ⟨w.heap.size, 0, none⟩ = some (.int .i64 n) := hloc.cell 0 rfl 0
      have z1 : wr.cell? ⟨w.heap.size, 1, none⟩ = some (.int .i64 i0) := hloc.cell 0 rfl 1
      have z2 : wr.cell? ⟨w.heap.size, 2, none⟩ = some (.slice aol ls.length capl) := hloc.cell 0 rfl 2
      have z3 : wr.cell? ⟨w.heap.size, 3, none⟩ = some (.slice aoe es.length cape) := hloc.cell 0 rfl 3
      go_wp2_with fail
      go_loopw [5] (fun i wr => ∃ k : Nat, k ≤ es.length ∧ i = .int .i64 k ∧ YesTo cdEdg (edgB n ((ls.length : Int) - 1)) es k ∧ Loc w wr none [.cells #[.int .i64 n, .int .i64 i0, .slice aol ls.length capl, .slice aoe es.length cape] 25]) (fun i _ => es.length - (intOf i).toNat)
      case atStart => exact ⟨0, Nat.zero_le _, rfl, fun k hk => by omega, hloc⟩
      case round =>
        clear z0 z1 z2 z3 Hyes htk hk Hbel
        try clear hlt
        clear hloc
        obtain ⟨k, hk, rfl, hyes, hloc⟩ := hrel
        have Hyes := Lib.hid hyes
        have Hbel := Lib.hid (below_grownBy hloc.grown)
        clear hyes
        by_cases hlt : k < es.length
        · have htk : decide ((k : Int) < (es.length : Int)) = true := by simp; omega
          obtain ⟨b, off, rfl, hb, hc⟩ := HCe.out (by omega)
          have hmem := Lib.hid (ge_mem cdEdg hlt)
          obtain ⟨E, hE⟩ : ∃ E, ge cdEdg es k = E := ⟨_, rfl⟩
          have x0 : wr.cell? ⟨b, off + k * 7, none⟩ = some (.int .i64 E.a) := by
            have h := ((bcell Hbel.out).1 b (off + (k * 7 + 0)) hb).trans (hc k 0 hlt (by decide))
            rw [hE] at h
            rw [show off + k * 7 = off + (k * 7 + 0) by omega]
            exact h
          have x1 : wr.cell? ⟨b, off + k * 7 + 1, none⟩ = some (.int .i64 E.b) := by
            have h := ((bcell Hbel.out).1 b (off + (k * 7 + 1)) hb).trans (hc k 1 hlt (by decide))
            rw [hE] at h
            rw [show off + k * 7 + 1 = off + (k * 7 + 1) by omega]
            exact h
          have x2 : wr.cell? ⟨b, off + k * 7 + 2, none⟩ = some (E.gv) := by
            have h := ((bcell Hbel.out).1 b (off + (k * 7 + 2)) hb).trans (hc k 2 hlt (by decide))
            rw [hE] at h
            rw [show off + k * 7 + 2 = off + (k * 7 + 2) by omega]
            exact h
          have x3 : wr.cell? ⟨b, off + k * 7 + 3, none⟩ = some (E.rv) := by
            have h := ((bcell Hbel.out).1 b (off + (k * 7 + 3)) hb).trans (hc k 3 hlt (by decide))
            rw [hE] at h
            rw [show off + k * 7 + 3 = off + (k * 7 + 3) by omega]
            exact h
          have x4 : wr.cell? ⟨b, off + k * 7 + 4, none⟩ = some (.int .i64 E.act) := by
            have h := ((bcell Hbel.out).1 b (off + (k * 7 + 4)) hb).trans (hc k 4 hlt (by decide))
            rw [hE] at h
            rw [show off + k * 7 + 4 = off + (k * 7 + 4) by omega]
            exact h
          have x5 : wr.cell? ⟨b, off + k * 7 + 5, none⟩ = some (.int .i64 E.kind) := by
            have h := ((bcell Hbel.out).1 b (off + (k * 7 + 5)) hb).trans (hc k 5 hlt (by decide))
            rw [hE] at h
            rw [show off + k * 7 + 5 = off + (k * 7 + 5) by omega]
            exact h
          have x6 : wr.cell? ⟨b, off + k * 7 + 6, none⟩ = some (.int .i64 E.cost) := by
            have h := ((bcell Hbel.out).1 b (off + (k * 7 + 6)) hb).trans (hc k 6 hlt (by decide))
            rw [hE] at h
            rw [show off + k * 7 + 6 = off + (k * 7 + 6) by omega]
            exact h
          have HNO := Lib.hid (fun (h : (edgB n ((ls.length : Int) - 1)) E = false) => not_all_ge (c := cdEdg) (p := (edgB n ((ls.length : Int) - 1))) (xs := es) (q := k) hlt (by rw [hE]; exact h))
          have HYE := Lib.hid (fun (h : (edgB n ((ls.length : Int) - 1)) E = true) => Hyes.out.succ (by rw [hE]; exact h))
          rw [hE] at hmem
          have HX := Lib.hid (He.out.2 _ hmem.out).1
          have HY := Lib.hid (He.out.2 _ hmem.out).2
          obtain ⟨aog, capg, hev, _, _⟩ := HX.out.open
          obtain ⟨aor, capr, hew, _, _⟩ := HY.out.open
          rw [hev] at HX x2
          rw [hew] at HY x3
          clear hev hew
          have k0 : (k : Int) < es.length := by omega
          have k1 : (0 : Int) ≤ (k : Int) := by omega
          clear hc hE hlt
          have z0 : wr.cell? ⟨w.heap.size, 0, none⟩ = some (.int .i64 n) := hloc.cell 0 rfl 0
          have z1 : wr.cell? ⟨w.heap.size, 1, none⟩ = some (.int .i64 i0) := hloc.cell 0 rfl 1
          have z2 : wr.cell? ⟨w.heap.size, 2, none⟩ = some (.slice aol ls.length capl) := hloc.cell 0 rfl 2
          have z3 : wr.cell? ⟨w.heap.size, 3, none⟩ = some (.slice (some ⟨b, off, none⟩) es.length cape) := hloc.cell 0 rfl 3
          have hlb := Loc.one wr (.cells #[.int .i64 E.a, .int .i64 E.b, .slice aog E.gs.length capg, .slice aor E.rs.length capr, .int .i64 E.act, .int .i64 E.kind, .int .i64 E.cost] 76) none
          have hloca := hloc.next (World.grownBy_alloc wr (.cells #[.int .i64 E.a, .int .i64 E.b, .slice aog E.gs.length capg, .slice aor E.rs.length capr, .int .i64 E.act, .int .i64 E.kind, .int .i64 E.cost] 76) none) (fun _ h => by cases h)
          have HOUT := Lib.hid (fun (h : EdgOut ls.length E) => HNO.out (edg_out h))
          have HIN := Lib.hid (fun (h : ¬ EdgOut ls.length E) h1 h2 => HYE.out (edg_yes h h1 h2))
          have a0 : (wr.alloc (.cells #[.int .i64 E.a, .int .i64 E.b, .slice aog E.gs.length capg, .slice aor E.rs.length capr, .int .i64 E.act, .int .i64 E.kind, .int .i64 E.cost] 76)).cell? ⟨w.heap.size, 0, none⟩ = some (.int .i64 n) := hloca.cell 0 rfl 0
          have a1 : (wr.alloc (.cells #[.int .i64 E.a, .int .i64 E.b, .slice aog E.gs.length capg, .slice aor E.rs.length capr, .int .i64 E.act, .int .i64 E.kind, .int .i64 E.cost] 76)).cell? ⟨w.heap.size, 1, none⟩ = some (.int .i64 i0) := hloca.cell 0 rfl 1
          have a2 : (wr.alloc (.cells #[.int .i64 E.a, .int .i64 E.b, .slice aog E.gs.length capg, .slice aor E.rs.length capr, .int .i64 E.act, .int .i64 E.kind, .int .i64 E.cost] 76)).cell? ⟨w.heap.size, 2, none⟩ = some (.slice aol ls.length capl) := hloca.cell 0 rfl 2
          have a3 : (wr.alloc (.cells #[.int .i64 E.a, .int .i64 E.b, .slice aog E.gs.length capg, .slice aor E.rs.length capr, .int .i64 E.act, .int .i64 E.kind, .int .i64 E.cost] 76)).cell? ⟨w.heap.size, 3, none⟩ = some (.slice (some ⟨b, off, none⟩) es.length cape) := hloca.cell 0 rfl 3
          by_cases g0 : E.a < 0
          · skip
            have HR := Lib.hid (show flatV n i0 ls es = 2 from flat_edg (HOUT.out (by unfold EdgOut; omega)))
            go_wp2_with fail
            go_ret
            exact ⟨ret_int HR.out.symm, below_grownBy hloca.grown⟩
          by_cases g1 : (ls.length : Int) ≤ E.a
          · skip
            have HR := Lib.hid (show flatV n i0 ls es = 2 from flat_edg (HOUT.out (by unfold EdgOut; omega)))
            go_wp2_with fail
            go_ret
            exact ⟨ret_int HR.out.symm, below_grownBy hloca.grown⟩
          by_cases g2 : E.b < 0
          · skip
            have HR := Lib.hid (show flatV n i0 ls es = 2 from flat_edg (HOUT.out (by unfold EdgOut; omega)))
            go_wp2_with fail
            go_ret
            exact ⟨ret_int HR.out.symm, below_grownBy hloca.grown⟩
          by_cases g3 : (ls.length : Int) ≤ E.b
          · skip
            have HR := Lib.hid (show flatV n i0 ls es = 2 from flat_edg (HOUT.out (by unfold EdgOut; omega)))
            go_wp2_with fail
            go_ret
            exact ⟨ret_int HR.out.symm, below_grownBy hloca.grown⟩
          go_wp2_with fail
          refine (ref_cons n _ E.gs _ (RX.keepb HX.out (below_grownBy hloca.grown))).mono ?_
          rintro e w1 ⟨rfl, hb1⟩
          have hloc1 := hloca.next (grownBy_below hb1 none) (fun _ h => by cases h)
          have hlb1 := hlb.next (grownBy_below hb1 none) (fun _ h => by cases h)
          clear hb1 hlb hloca hloc z0 z1 z2 z3 a0 a1 a2 a3 x0 x1 x2 x3 x4 x5 x6
          have y0 : w1.cell? ⟨wr.heap.size, 0, none⟩ = some (.int .i64 E.a) := hlb1.cell 0 rfl 0
          have y1 : w1.cell? ⟨wr.heap.size, 1, none⟩ = some (.int .i64 E.b) := hlb1.cell 0 rfl 1
          have y2 : w1.cell? ⟨wr.heap.size, 2, none⟩ = some (.slice aog E.gs.length capg) := hlb1.cell 0 rfl 2
          have y3 : w1.cell? ⟨wr.heap.size, 3, none⟩ = some (.slice aor E.rs.length capr) := hlb1.cell 0 rfl 3
          have y4 : w1.cell? ⟨wr.heap.size, 4, none⟩ = some (.int .i64 E.act) := hlb1.cell 0 rfl 4
          have y5 : w1.cell? ⟨wr.heap.size, 5, none⟩ = some (.int .i64 E.kind) := hlb1.cell 0 rfl 5
          have y6 : w1.cell? ⟨wr.heap.size, 6, none⟩ = some (.int .i64 E.cost) := hlb1.cell 0 rfl 6
          have z0 : w1.cell? ⟨w.heap.size, 0, none⟩ = some (.int .i64 n) := hloc1.cell 0 rfl 0
          have z1 : w1.cell? ⟨w.heap.size, 1, none⟩ = some (.int .i64 i0) := hloc1.cell 0 rfl 1
          have z2 : w1.cell? ⟨w.heap.size, 2, none⟩ = some (.slice aol ls.length capl) := hloc1.cell 0 rfl 2
          have z3 : w1.cell? ⟨w.heap.size, 3, none⟩ = some (.slice (some ⟨b, off, none⟩) es.length cape) := hloc1.cell 0 rfl 3
          cases hi : cnsB n E.gs with
          | false =>
            have HR := Lib.hid (show flatV n i0 ls es = 2 from flat_edg (HNO.out (edg_con hi)))
            go_wp2_with fail
            go_ret
            exact ⟨ret_int HR.out.symm, below_grownBy hloc1.grown⟩
          | true =>
            go_wp2_with fail
            refine (ref_resets n _ E.rs _ (RX.keepb HY.out (below_grownBy hloc1.grown))).mono ?_
            rintro e w2 ⟨rfl, hb1⟩
            have hloc2 := hloc1.next (grownBy_below hb1 none) (fun _ h => by cases h)
            have hlb2 := hlb1.next (grownBy_below hb1 none) (fun _ h => by cases h)
            clear hb1 hlb1 hloc1 z0 z1 z2 z3 y0 y1 y2 y3 y4 y5 y6
            have y0 : w2.cell? ⟨wr.heap.size, 0, none⟩ = some (.int .i64 E.a) := hlb2.cell 0 rfl 0
            have y1 : w2.cell? ⟨wr.heap.size, 1, none⟩ = some (.int .i64 E.b) := hlb2.cell 0 rfl 1
            have y2 : w2.cell? ⟨wr.heap.size, 2, none⟩ = some (.slice aog E.gs.length capg) := hlb2.cell 0 rfl 2
            have y3 : w2.cell? ⟨wr.heap.size, 3, none⟩ = some (.slice aor E.rs.length capr) := hlb2.cell 0 rfl 3
            have y4 : w2.cell? ⟨wr.heap.size, 4, none⟩ = some (.int .i64 E.act) := hlb2.cell 0 rfl 4
            have y5 : w2.cell? ⟨wr.heap.size, 5, none⟩ = some (.int .i64 E.kind) := hlb2.cell 0 rfl 5
            have y6 : w2.cell? ⟨wr.heap.size, 6, none⟩ = some (.int .i64 E.cost) := hlb2.cell 0 rfl 6
            have z0 : w2.cell? ⟨w.heap.size, 0, none⟩ = some (.int .i64 n) := hloc2.cell 0 rfl 0
            have z1 : w2.cell? ⟨w.heap.size, 1, none⟩ = some (.int .i64 i0) := hloc2.cell 0 rfl 1
            have z2 : w2.cell? ⟨w.heap.size, 2, none⟩ = some (.slice aol ls.length capl) := hloc2.cell 0 rfl 2
            have z3 : w2.cell? ⟨w.heap.size, 3, none⟩ = some (.slice (some ⟨b, off, none⟩) es.length cape) := hloc2.cell 0 rfl 3
            cases hj : rssB n E.rs with
            | false =>
              have HR := Lib.hid (show flatV n i0 ls es = 2 from flat_edg (HNO.out (edg_res hj)))
              go_wp2_with fail
              go_ret
              exact ⟨ret_int HR.out.symm, below_grownBy hloc2.grown⟩
            | true =>
              by_cases g4 : E.act < 0
              · skip
                have HR := Lib.hid (show flatV n i0 ls es = 2 from flat_edg (HOUT.out (by unfold EdgOut; omega)))
                go_wp2_with fail
                go_ret
                exact ⟨ret_int HR.out.symm, below_grownBy hloc2.grown⟩
              by_cases g5 : 1000 < E.act
              · skip
                have HR := Lib.hid (show flatV n i0 ls es = 2 from flat_edg (HOUT.out (by unfold EdgOut; omega)))
                go_wp2_with fail
                go_ret
                exact ⟨ret_int HR.out.symm, below_grownBy hloc2.grown⟩
              by_cases g6 : E.kind < 0
              · skip
                have HR := Lib.hid (show flatV n i0 ls es = 2 from flat_edg (HOUT.out (by unfold EdgOut; omega)))
                go_wp2_with fail
                go_ret
                exact ⟨ret_int HR.out.symm, below_grownBy hloc2.grown⟩
              by_cases g7 : 1 < E.kind
              · skip
                have HR := Lib.hid (show flatV n i0 ls es = 2 from flat_edg (HOUT.out (by unfold EdgOut; omega)))
                go_wp2_with fail
                go_ret
                exact ⟨ret_int HR.out.symm, below_grownBy hloc2.grown⟩
              by_cases g8 : E.cost < 0
              · skip
                have HR := Lib.hid (show flatV n i0 ls es = 2 from flat_edg (HOUT.out (by unfold EdgOut; omega)))
                go_wp2_with fail
                go_ret
                exact ⟨ret_int HR.out.symm, below_grownBy hloc2.grown⟩
              by_cases g9 : 10000 < E.cost
              · skip
                have HR := Lib.hid (show flatV n i0 ls es = 2 from flat_edg (HOUT.out (by unfold EdgOut; omega)))
                go_wp2_with fail
                go_ret
                exact ⟨ret_int HR.out.symm, below_grownBy hloc2.grown⟩
              have HQ := Lib.hid (HIN.out (by unfold EdgOut; omega) hi hj)
              go_wp2_with fail
              go_roundw
              case rel => exact ⟨k + 1, by omega, by go_num, HQ.out, hloc2⟩
              case measure => simp [intOf]; omega
        · have htk : decide ((k : Int) < (es.length : Int)) = false := by simp; omega
          have HR := Lib.hid (flat_yes (n := n) (i0 := i0) HH.out HLA.out (YesTo.all (c := cdEdg) (p := edgB n ((ls.length : Int) - 1)) (xs := es) (by rw [show es.length = k by omega]; exact Hyes.out)))
          have z0 : wr.cell? ⟨w.heap.size, 0, none⟩ = some (.int .i64 n) := hloc.cell 0 rfl 0
          have z1 : wr.cell? ⟨w.heap.size, 1, none⟩ = some (.int .i64 i0) := hloc.cell 0 rfl 1
          have z2 : wr.cell? ⟨w.heap.size, 2, none⟩ = some (.slice aol ls.length capl) := hloc.cell 0 rfl 2
          have z3 : wr.cell? ⟨w.heap.size, 3, none⟩ = some (.slice aoe es.length cape) := hloc.cell 0 rfl 3
          go_wp2_with fail
          go_ret
          exact ⟨ret_int HR.out.symm, below_grownBy hloc.grown⟩
end Go.Proofs.YtfphlpglgcmljaaGreat
