/- corner and cost, of both sides. -/
import Derived.Test.YtfphlpglgcmljaaGreatPzl
namespace Go.Proofs.YtfphlpglgcmljaaGreat
open Go.RowKit
set_option linter.unusedVariables false

theorem Tryz.infL64 : (Tryz.prog.info? 2).map (fun i => (i.zero, i.size, i.bytes)) = some (some (.int .i64 0), 1, 8) := by kernel_rfl
theorem Tryz.undL64 : Tryz.prog.underlying 33 = some (.slice 2) := by kernel_rfl
theorem rs_one2v (w : World) (u : Value) (e : Nat) : RS (w.heap.size + 1) (w.alloc (.cells #[u] e)) (.slice (some ⟨w.heap.size, 0, none⟩) 1 1) 1 [u] := rs_one w u e
/-- A call returns a list of its own. -/
def LP (t base : Nat) (ys : List Int) (e : Ending) (w' : World) : Prop := ∃ v', e = .returned v' ∧ OL t base w' v' ys
set_option maxRecDepth 100000 in
set_option maxHeartbeats 2000000 in
theorem prog_corner (N : Nat) (v : Value) (xs : List Int) (w : World) (hv : RL w.heap.size w v xs) (hok : OkZ N xs) :
    Calls Tryz.prog 76 #[.agg #[.int .i64 N, v]] w fun e w' => LP 2 w.heap.size (crTo N xs N) e w' ∧ Below w.heap.size w w' := by
  have hN : N ≤ 10 := by have := hok.hi; omega
  obtain ⟨ao, cap, rfl, hle, _⟩ := hv.open
  have Hv := Lib.hid hv
  have HOK := Lib.hid hok
  have Hloc := Lib.hid (Loc.one w (.cells #[.int .i64 N, .slice ao xs.length cap] 32) none)
  obtain ⟨i0, hi, hz0, hz1, hz2⟩ := info_parts Tryz.infL64
  have Hi := Lib.hid hi
  have Hz0 := Lib.hid hz0
  have Hz1 := Lib.hid hz1
  have Hz2 := Lib.hid hz2
  clear hv hok hi hz0 hz1 hz2
  go_enter Tryz.func76, Tryz.ntmps76
  go_wp2_with (refine wpList_make_full _ rfl (.tmp 7) (.tmp 7) 33 rfl (w.heap.size + 1) 2 i0 (.int .i64 0) 1 Tryz.undL64 Hi.out Hz0.out Hz1.out .i64 .i64 (N + 1) (N + 1) (N + 1) rfl rfl rfl rfl ?_ ?_ ?_ ?_; (rw [Hz2.out]; omega); (unfold maxLen; omega); (simp); (intro w1 hown1 hg1; have z0 : w1.cell? ⟨w.heap.size, 0, none⟩ = some (.int .i64 N) := (Hloc.out.next hg1 (fun _ h => by cases h)).cell 0 rfl 0))
  have hown1' : OL 2 (w.heap.size + 1) w1 (.slice (some ⟨w.heap.size + 1, 0, none⟩) (N + 1) (N + 1)) (crTo N xs 0) := by
    have e : (madeCells (Value.int .i64 0).cells ((N + 1) * 1)).toList = (crTo N xs 0).map (Value.int .i64) := by
      rw [Nat.mul_one]; show (madeCells #[Value.int .i64 0] (N + 1)).toList = _
      rw [toList_madeCells_one, crTo_zero, List.map_replicate]
    rw [e] at hown1
    unfold OL
    rw [crTo_len]
    simpa using hown1
  have hloc1 := Hloc.out.next hg1 (fun _ h => by cases h)
  have Hloc1 := Lib.hid hloc1
  have Hown1 := Lib.hid hown1'
  clear hown1 hg1 hown1' hloc1 z0
  generalize hG : w.heap.size + 1 = g at *
  go_loopw [4, 11] (fun _ i wr => ∃ k : Nat, k ≤ N ∧ i = .int .i64 k ∧ OL 2 g wr (.slice (some ⟨g, 0, none⟩) (N + 1) (N + 1)) (crTo N xs k) ∧ Loc w wr none [.cells #[.int .i64 N, .slice ao xs.length cap] 32]) (fun _ i _ => N - (intOf i).toNat)
  case atStart => exact ⟨0, Nat.zero_le _, rfl, Hown1.out, Hloc1.out⟩
  case round =>
    clear Hown1 Hloc1
    obtain ⟨k, hk, rfl, hown, hloc⟩ := hrel
    have Hown := Lib.hid hown
    clear hown
    by_cases hlt : k < N
    · have htk : decide ((k : Int) < (N : Int)) = true := by simp; omega
      have z0 : wr.cell? ⟨w.heap.size, 0, none⟩ = some (.int .i64 N) := hloc.cell 0 rfl 0
      have z1 : wr.cell? ⟨w.heap.size, 1, none⟩ = some (.slice ao xs.length cap) := hloc.cell 0 rfl 1
      have HC := Lib.hid (prog_low N _ ((k : Int) + 1) xs wr (Hv.out.keepb (below_grownBy hloc.grown)) HOK.out (by omega) (by omega))
      have HE := Lib.hid (show lowF N xs ((k : Int) + 1).toNat = lowF N xs (k + 1) by rw [show ((k : Int) + 1).toNat = k + 1 by omega])
      rw [HE.out] at HC
      have k0 : (k : Int) + 1 < (N : Int) + 1 := by omega
      have k1 : (0 : Int) ≤ (k : Int) + 1 := by omega
      have k2 : ((k : Int) + 1).toNat = k + 1 := by omega
      have HS := Lib.hid (crTo_succ (xs := xs) hlt)
      have Hlen := Lib.hid (crTo_len N xs k)
      generalize lowF N xs (k + 1) = L at HC HS
      go_wp2_with fail
      refine HC.out.mono ?_
      rintro e w2 ⟨rfl, hb2⟩
      have hloc2 := hloc.next (grownBy_below hb2 none) (fun _ h => by cases h)
      have hown2 := OL.keepb Hown.out hb2
      obtain ⟨x1, x2⟩ := ol_cell hown2 (k := k + 1) (by rw [Hlen.out]; omega)
      have Hst := Lib.hid (hown2.stored (by rw [Hlen.out]) (k + 1) L)
      have hgs : g < w2.heap.size := (World.ownsRow.lt hown2 g rfl).2
      clear hb2 hloc z0 z1 hown2
      go_wp2_with fail
      go_roundw
      case rel => exact ⟨k + 1, by omega, by go_num, by rw [HS.out]; exact Hst.out.1, hloc2.anyrow Hst.out.2 (fun g' e => by cases e; show w.heap.size + 1 ≤ g; omega)⟩
      case measure => simp [intOf]; omega
    · have htk : decide ((k : Int) < (N : Int)) = false := by simp; omega
      obtain rfl : k = N := by omega
      go_wp2_with fail
      go_ret
      exact ⟨⟨_, rfl, OL.mono Hown.out (by omega)⟩, below_grownBy hloc.grown⟩
set_option maxRecDepth 100000 in
set_option maxHeartbeats 2000000 in
theorem ref_corner (N : Nat) (v : Value) (xs : List Int) (w : World) (hv : RL w.heap.size w v xs) (hok : OkZ N xs) :
    Calls Tryz.prog 82 #[.agg #[.int .i64 N, v]] w fun e w' => LP 2 w.heap.size (crR N xs N) e w' ∧ Below w.heap.size w w' := by
  have hN : N ≤ 10 := by have := hok.hi; omega
  obtain ⟨ao, cap, rfl, hle, _⟩ := hv.open
  have Hv := Lib.hid hv
  have HOK := Lib.hid hok
  have hloc := Loc.one w (.cells #[.int .i64 N, .slice ao xs.length cap] 32) none
  obtain ⟨i0, hi, hz0, hz1, hz2⟩ := info_parts Tryz.infL64
  have Hi := Lib.hid hi
  have Hz0 := Lib.hid hz0
  have Hz1 := Lib.hid hz1
  have Hz2 := Lib.hid hz2
  clear hv hok hi hz0 hz1 hz2
  go_enter Tryz.func82, Tryz.ntmps82
  go_wp2_with fail
  go_loopw [3, 4] (fun o i wr => ∃ k : Nat, k ≤ N ∧ i = .int .i64 ((k : Int) + 1) ∧ OL 2 (w.heap.size + 1) wr o (crR N xs k) ∧ Loc w wr none [.cells #[.int .i64 N, .slice ao xs.length cap] 32]) (fun _ i _ => N + 1 - (intOf i).toNat)
  case atStart => exact ⟨0, Nat.zero_le _, rfl, OL.nil _ _ _, hloc⟩
  case round =>
    clear hloc
    obtain ⟨k, hk, rfl, hown, hloc⟩ := hrel
    have Hown := Lib.hid hown
    clear hown
    have z0 : wr.cell? ⟨w.heap.size, 0, none⟩ = some (.int .i64 N) := hloc.cell 0 rfl 0
    by_cases hlt : k < N
    · have htk : decide ((k : Int) + 1 ≤ (N : Int)) = true := by simp; omega
      have z1 : wr.cell? ⟨w.heap.size, 1, none⟩ = some (.slice ao xs.length cap) := hloc.cell 0 rfl 1
      have HC := Lib.hid (ref_low N _ ((k : Int) + 1) xs wr (Hv.out.keepb (below_grownBy hloc.grown)) HOK.out (by omega) (by omega))
      have HE := Lib.hid (show lowF N xs ((k : Int) + 1).toNat = lowF N xs (k + 1) by rw [show ((k : Int) + 1).toNat = k + 1 by omega])
      rw [HE.out] at HC
      have HS := Lib.hid (crR_succ N xs k)
      have Hlen := Lib.hid (crR_len N xs k)
      generalize lowF N xs (k + 1) = L at HC HS
      go_wp2_with (first
        | (go_at_call 69; refine HC.out.mono ?_; rintro e w2 ⟨rfl, hb2⟩; have hloc2 := hloc.next (grownBy_below hb2 none) (fun _ h => by cases h); have hown2 := OL.keepb Hown.out hb2; have hlocB := hloc2.next (World.grownBy_alloc w2 (.cells #[.int .i64 L] 2) none) (fun _ h => by cases h); have hownB := Lib.hid (World.ownsRow.alloc (show w2.ownsRow _ _ _ _ _ _ from hown2) (.cells #[.int .i64 L] 2)); rw [Hlen.out] at hownB; have hrl := Lib.hid (rs_one2v w2 (.int .i64 L) 2); have hWs : w.heap.size + 1 ≤ w2.heap.size := hloc2.size; clear hb2 hloc z0 z1 hown2)
        | (at_builtin; (refine wpList_append_rs rfl (.tmp 11) (.tmp 15) 33 rfl (w.heap.size + 1) 2 i0 (.int .i64 0) 1 8 Tryz.undL64 Hi.out Hz0.out Hz1.out Hz2.out rfl (by decide) u3 k ((crR N xs k).map (Value.int .i64)) rfl hownB.out (w2.heap.size + 1) (.slice (some ⟨w2.heap.size, 0, none⟩) 1 1) rfl 1 [.int .i64 L] hrl.out rfl ?_ ?_ ?_ ?_ ?_; (intro u hu; simp only [List.mem_cons, List.not_mem_nil, or_false] at hu; rcases hu with rfl; rfl); (unfold maxLen; omega); omega; (simp; omega); intro v' w' ho' hg')))
      go_roundw
      case rel => exact ⟨k + 1, by omega, by go_num, by rw [HS.out]; unfold OL; rw [List.length_append, Hlen.out, List.map_append]; exact ho', hlocB.anyrow hg' (fun g e => (World.ownsRow.lt hownB.out g e).1)⟩
      case measure => simp [intOf]; omega
    · have htk : decide ((k : Int) + 1 ≤ (N : Int)) = false := by simp; omega
      obtain rfl : k = N := by omega
      go_wp2_with fail
      go_ret
      exact ⟨⟨_, rfl, OL.mono Hown.out (by omega)⟩, below_grownBy hloc.grown⟩
set_option maxRecDepth 100000 in
set_option maxHeartbeats 4000000 in
theorem prog_cost (N : Nat) (c : Int) (v rv vv : Value) (xs rs vs : List Int) (w : World) (hv : RL w.heap.size w v xs) (hr : RL w.heap.size w rv rs) (hvv : RL w.heap.size w vv vs) (hok : OkZ N xs) (hlr : rs.length = N) (hlv : vs.length = N + 1) :
    Calls Tryz.prog 77 #[.agg #[.int .i64 N, v, .int .i64 c, rv], vv] w fun e w' => e = .returned (.int .i64 (cstTo N xs c rs (fun j => gi vs j) N)) ∧ Below w.heap.size w w' := by
  have hN : N ≤ 10 := by have := hok.hi; omega
  obtain ⟨ao, cap, rfl, hle, _⟩ := hv.open
  obtain ⟨aor, capr, rfl, hler, h0r⟩ := hr.open
  obtain ⟨aov, capv, rfl, hlev, h0v⟩ := hvv.open
  have hloc := Loc.one w (.cells #[.int .i64 N, .slice ao xs.length cap, .int .i64 c, .slice aor rs.length capr] 35) none
  have Hv := Lib.hid hv
  have HOK := Lib.hid hok
  have H0r := Lib.hid h0r
  have H0v := Lib.hid h0v
  have Hlr := Lib.hid hlr
  have Hlv := Lib.hid hlv
  clear hv hr hvv hok h0r h0v hlr hlv
  go_enter Tryz.func77, Tryz.ntmps77
  go_wp2_with fail
  go_loopw [5, 6, 7, 13] (fun s5 _ _ i wr => ∃ k : Nat, k ≤ N ∧ s5 = .int .i64 (cstTo N xs c rs (fun j => gi vs j) k) ∧ i = .int .i64 k ∧ Loc w wr none [.cells #[.int .i64 N, .slice ao xs.length cap, .int .i64 c, .slice aor rs.length capr] 35]) (fun _ _ _ i _ => N - (intOf i).toNat)
  case atStart => exact ⟨0, Nat.zero_le _, rfl, rfl, hloc⟩
  case round =>
    clear hloc
    obtain ⟨k, hk, rfl, rfl, hloc⟩ := hrel
    have z0 : wr.cell? ⟨w.heap.size, 0, none⟩ = some (.int .i64 N) := hloc.cell 0 rfl 0
    have z1 : wr.cell? ⟨w.heap.size, 1, none⟩ = some (.slice ao xs.length cap) := hloc.cell 0 rfl 1
    by_cases hlt : k < N
    · have htk : k < rs.length := by have := Hlr.out; omega
      obtain ⟨br, or', rfl, hbr, hcr⟩ := H0r.out (by have := Hlr.out; omega)
      obtain ⟨bv, ov, rfl, hbv, hcv⟩ := H0v.out (by have := Hlv.out; omega)
      have z3 : wr.cell? ⟨w.heap.size, 3, none⟩ = some (.slice (some ⟨br, or', none⟩) rs.length capr) := hloc.cell 0 rfl 3
      have r0 := ((bcell (below_grownBy hloc.grown)).1 _ _ hbr).trans (hcr k (by have := Hlr.out; omega))
      have v0 := ((bcell (below_grownBy hloc.grown)).1 _ _ hbv).trans (hcv (k + 1) (by have := Hlv.out; omega))
      have HC := Lib.hid (fun w' (hb : Below w.heap.size w w') => prog_low N _ ((k : Int) + 1) xs w' (Hv.out.keepb hb) HOK.out (by omega) (by omega))
      have HE := Lib.hid (show lowF N xs ((k : Int) + 1).toNat = lowF N xs (k + 1) by rw [show ((k : Int) + 1).toNat = k + 1 by omega])
      rw [HE.out] at HC
      have HT := Lib.hid (show cstTo N xs c rs (fun j => gi vs j) (k + 1) = IntKind.i64.wrap (cstTo N xs c rs (fun j => gi vs j) k + IntKind.i64.wrap (gi rs k * IntKind.i64.wrap (gi vs (k + 1) - lowF N xs (k + 1)))) from rfl)
      have k0 : (k : Int) < rs.length := by have := Hlr.out; omega
      have k3 : (k : Int) + 1 < vs.length := by have := Hlv.out; omega
      have k1 : (0 : Int) ≤ (k : Int) := by omega
      have k4 : (0 : Int) ≤ (k : Int) + 1 := by omega
      have k2 : ((k : Int) + 1).toNat = k + 1 := by omega
      have hw0 : IntKind.i64.wrap ((k : Int) + 1) = (k : Int) + 1 := IntWalk.i64_in _ (by omega)
      clear hcr hcv
      generalize lowF N xs (k + 1) = L at HC HT
      generalize gi rs k = R at *
      generalize gi vs (k + 1) = V at *
      generalize cstTo N xs c rs (fun j => gi vs j) k = C at HT ⊢
      obtain ⟨D, hD⟩ : ∃ D, IntKind.i64.wrap (V - L) = D := ⟨_, rfl⟩
      obtain ⟨M, hM⟩ : ∃ M, IntKind.i64.wrap (R * D) = M := ⟨_, rfl⟩
      obtain ⟨T, hT⟩ : ∃ T, IntKind.i64.wrap (C + M) = T := ⟨_, rfl⟩
      rw [hD, hM, hT] at HT
      have hD2 : wrap64 (V - L) = D := by rw [← hD, IntKind.wrap_i64]; unfold wrap64; omega
      have hM2 : wrap64 (R * D) = M := by rw [← hM, IntKind.wrap_i64]; unfold wrap64; omega
      have hT2 : wrap64 (C + M) = T := by rw [← hT, IntKind.wrap_i64]; unfold wrap64; omega
      go_upto_region 5 with fail
      go_region_held3 (fun w' => w'.cell? ⟨w.heap.size, 0, none⟩ = some (.int .i64 N) ∧ w'.cell? ⟨w.heap.size, 1, none⟩ = some (.slice ao xs.length cap) ∧ w'.cell? ⟨bv, ov + (k + 1), none⟩ = some (.int .i64 V))
        (first | exact ⟨by assumption, by assumption, by assumption⟩ | go_keep)
        (first
          | (go_at_call 59; refine (HC.out _ (below_grownBy (hloc.next (grownBy_drew wr none) (fun _ h => by cases h)).grown)).mono ?_; rintro e w2 ⟨rfl, hb2⟩; have q0 := keepb (show wr.drew.cell? _ = _ from z0) hb2; have q1 := keepb (show wr.drew.cell? _ = _ from z1) hb2; have q2 := keepb (show wr.drew.cell? _ = _ from v0) hb2))
      have hloc2 := hloc.next (grownBy_trans (grownBy_drew wr none) (grownBy_below hb2 none)) (fun _ h => by cases h)
      go_wp2_with fail
      go_roundw
      case rel => exact ⟨k + 1, by omega, by rw [HT.out], by go_num, hloc2⟩
      case measure => simp [intOf]; omega
    · have htk : ¬ k < rs.length := by have := Hlr.out; omega
      obtain rfl : k = N := by omega
      go_wp2_with fail
      go_ret
      exact ⟨rfl, below_grownBy hloc.grown⟩
set_option maxRecDepth 100000 in
set_option maxHeartbeats 4000000 in
theorem ref_cost (N : Nat) (c : Int) (v rv vv : Value) (xs rs vs : List Int) (w : World) (hv : RL w.heap.size w v xs) (hr : RL w.heap.size w rv rs) (hvv : RL w.heap.size w vv vs) (hok : OkZ N xs) (hlr : rs.length = N) (hlv : vs.length = N) :
    Calls Tryz.prog 83 #[.agg #[.int .i64 N, v, .int .i64 c, rv], vv] w fun e w' => e = .returned (.int .i64 (cstTo N xs c rs (fun j => gi vs (j - 1)) N)) ∧ Below w.heap.size w w' := by
  have hN : N ≤ 10 := by have := hok.hi; omega
  obtain ⟨ao, cap, rfl, hle, _⟩ := hv.open
  obtain ⟨aor, capr, rfl, hler, h0r⟩ := hr.open
  obtain ⟨aov, capv, rfl, hlev, h0v⟩ := hvv.open
  have hloc := Loc.one w (.cells #[.int .i64 N, .slice ao xs.length cap, .int .i64 c, .slice aor rs.length capr] 35) none
  have Hv := Lib.hid hv
  have HOK := Lib.hid hok
  have H0r := Lib.hid h0r
  have H0v := Lib.hid h0v
  have Hlr := Lib.hid hlr
  have Hlv := Lib.hid hlv
  clear hv hr hvv hok h0r h0v hlr hlv
  go_enter Tryz.func83, Tryz.ntmps83
  go_wp2_with fail
  go_loopw [5, 6] (fun s5 i wr => ∃ k : Nat, k ≤ N ∧ s5 = .int .i64 (cstTo N xs c rs (fun j => gi vs (j - 1)) k) ∧ i = .int .i64 k ∧ Loc w wr none [.cells #[.int .i64 N, .slice ao xs.length cap, .int .i64 c, .slice aor rs.length capr] 35]) (fun _ i _ => N - (intOf i).toNat)
  case atStart => exact ⟨0, Nat.zero_le _, rfl, rfl, hloc⟩
  case round =>
    clear hloc
    obtain ⟨k, hk, rfl, rfl, hloc⟩ := hrel
    have z0 : wr.cell? ⟨w.heap.size, 0, none⟩ = some (.int .i64 N) := hloc.cell 0 rfl 0
    have z1 : wr.cell? ⟨w.heap.size, 1, none⟩ = some (.slice ao xs.length cap) := hloc.cell 0 rfl 1
    by_cases hlt : k < N
    · have htk : k < vs.length := by have := Hlv.out; omega
      obtain ⟨br, or', rfl, hbr, hcr⟩ := H0r.out (by have := Hlr.out; omega)
      obtain ⟨bv, ov, rfl, hbv, hcv⟩ := H0v.out (by have := Hlv.out; omega)
      have z3 : wr.cell? ⟨w.heap.size, 3, none⟩ = some (.slice (some ⟨br, or', none⟩) rs.length capr) := hloc.cell 0 rfl 3
      have r0 := ((bcell (below_grownBy hloc.grown)).1 _ _ hbr).trans (hcr k (by have := Hlr.out; omega))
      have v0 := ((bcell (below_grownBy hloc.grown)).1 _ _ hbv).trans (hcv (k) (by have := Hlv.out; omega))
      have HC := Lib.hid (fun w' (hb : Below w.heap.size w w') => ref_low N _ ((k : Int) + 1) xs w' (Hv.out.keepb hb) HOK.out (by omega) (by omega))
      have HE := Lib.hid (show lowF N xs ((k : Int) + 1).toNat = lowF N xs (k + 1) by rw [show ((k : Int) + 1).toNat = k + 1 by omega])
      rw [HE.out] at HC
      have HT := Lib.hid (show cstTo N xs c rs (fun j => gi vs (j - 1)) (k + 1) = IntKind.i64.wrap (cstTo N xs c rs (fun j => gi vs (j - 1)) k + IntKind.i64.wrap (gi rs k * IntKind.i64.wrap (gi vs (k) - lowF N xs (k + 1)))) from rfl)
      have k0 : (k : Int) < rs.length := by have := Hlr.out; omega
      have k3 : (k : Int) < vs.length := by have := Hlv.out; omega
      have k1 : (0 : Int) ≤ (k : Int) := by omega
      have k4 : (0 : Int) ≤ (k : Int) + 1 := by omega
      have k2 : ((k : Int) + 1).toNat = k + 1 := by omega
      have hw0 : IntKind.i64.wrap ((k : Int) + 1) = (k : Int) + 1 := IntWalk.i64_in _ (by omega)
      clear hcr hcv
      generalize lowF N xs (k + 1) = L at HC HT
      generalize gi rs k = R at *
      generalize gi vs (k) = V at *
      generalize cstTo N xs c rs (fun j => gi vs (j - 1)) k = C at HT ⊢
      obtain ⟨D, hD⟩ : ∃ D, IntKind.i64.wrap (V - L) = D := ⟨_, rfl⟩
      obtain ⟨M, hM⟩ : ∃ M, IntKind.i64.wrap (R * D) = M := ⟨_, rfl⟩
      obtain ⟨T, hT⟩ : ∃ T, IntKind.i64.wrap (C + M) = T := ⟨_, rfl⟩
      rw [hD, hM, hT] at HT
      have hD2 : wrap64 (V - L) = D := by rw [← hD, IntKind.wrap_i64]; unfold wrap64; omega
      have hM2 : wrap64 (R * D) = M := by rw [← hM, IntKind.wrap_i64]; unfold wrap64; omega
      have hT2 : wrap64 (C + M) = T := by rw [← hT, IntKind.wrap_i64]; unfold wrap64; omega
      go_upto_region 5 with fail
      go_region_held3 (fun w' => w'.cell? ⟨w.heap.size, 0, none⟩ = some (.int .i64 N) ∧ w'.cell? ⟨w.heap.size, 1, none⟩ = some (.slice ao xs.length cap) ∧ w'.cell? ⟨bv, ov + k, none⟩ = some (.int .i64 V) ∧ w'.cell? ⟨w.heap.size, 3, none⟩ = some (.slice (some ⟨br, or', none⟩) rs.length capr) ∧ w'.cell? ⟨br, or' + k, none⟩ = some (.int .i64 R))
        (first | exact ⟨by assumption, by assumption, by assumption, by assumption, by assumption⟩ | go_keep)
        (first
          | (go_at_call 69; refine (HC.out _ (below_grownBy (hloc.next (grownBy_drew wr none) (fun _ h => by cases h)).grown)).mono ?_; rintro e w2 ⟨rfl, hb2⟩; have q0 := keepb (show wr.drew.cell? _ = _ from z0) hb2; have q1 := keepb (show wr.drew.cell? _ = _ from z1) hb2; have q2 := keepb (show wr.drew.cell? _ = _ from v0) hb2; have q3 := keepb (show wr.drew.cell? _ = _ from z3) hb2; have q4 := keepb (show wr.drew.cell? _ = _ from r0) hb2))
      have hloc2 := hloc.next (grownBy_trans (grownBy_drew wr none) (grownBy_below hb2 none)) (fun _ h => by cases h)
      go_wp2_with fail
      go_roundw
      case rel => exact ⟨k + 1, by omega, by rw [HT.out], by go_num, hloc2⟩
      case measure => simp [intOf]; omega
    · have htk : ¬ k < vs.length := by have := Hlv.out; omega
      obtain rfl : k = N := by omega
      go_wp2_with fail
      go_ret
      exact ⟨rfl, below_grownBy hloc.grown⟩
end Go.Proofs.YtfphlpglgcmljaaGreat
