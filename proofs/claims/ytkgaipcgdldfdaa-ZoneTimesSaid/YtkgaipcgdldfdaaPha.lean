/- The program's Has of whatever arguments. The program's Has. -/
import Derived.Test.YtkgaipcgdldfdaaSta
import Derived.Test.YtkgaipcgdldfdaaHas
namespace Go.Proofs.Ytkgaipcgdldfdaa
open Go.RowKit
set_option linter.unusedVariables false

theorem gq_ck {ps : List (Int × Int)} {k : Nat} : gq ((0, 1) :: ps) k = ck ps k := by
  unfold ck
  cases k with
  | zero => rfl
  | succ k => rw [if_neg (by omega)]; simp [gq]
theorem okP0 : okP (0, 1) = true := by decide
def AV (Q : List (Int × Int)) (q : Nat) : Prop := ∀ k, k < q → okP (gq Q k) = true
def AD (Q : List (Int × Int)) (q : Nat) : Prop := ∀ i j, i < q → j < i → (df Q i j).2 = 0
def RD (Q : List (Int × Int)) (i q : Nat) : Prop := ∀ j, j < q → (df Q i j).2 = 0
theorem AV.succ {Q : List (Int × Int)} {k : Nat} (h : AV Q k) (h' : okP (gq Q k) = true) : AV Q (k + 1) := fun m hm => by
  by_cases e : m = k
  · rw [e]; exact h'
  · exact h m (by omega)
theorem RD.succ {Q : List (Int × Int)} {i k : Nat} (h : RD Q i k) (h' : (df Q i k).2 = 0) : RD Q i (k + 1) := fun m hm => by
  by_cases e : m = k
  · rw [e]; exact h'
  · exact h m (by omega)
theorem AD.succ {Q : List (Int × Int)} {i : Nat} (h : AD Q i) (h' : RD Q i i) : AD Q (i + 1) := fun a b ha hb => by
  by_cases e : a = i
  · rw [e]; exact h' b (by omega)
  · exact h a b (by omega) hb
theorem okP_vr {p : Int × Int} (h : okP p = true) : vr p.1 p.2 = true ∧ 0 ≤ p.1 := by
  unfold okP at h; rw [Bool.and_eq_true, decide_eq_true_eq] at h; exact h
theorem vr_neg {c d : Int} (h : vr c d = true) : vr (-c) d = true := by
  rw [vr_iff] at *; rw [Int.natAbs_neg]; omega
theorem wrap_neg {c d : Int} (h : vr c d = true) : wrap64 (-c) = -c := by
  have := (vr_iff c d).1 h; unfold wrap64; omega
theorem sb_sub {a b c d : Int} (h1 : vr a b = true) (h2 : vr c d = true) : sbR a b c d = subR a b c d := by
  unfold subR
  rw [sbR_yes (by rw [h1, h2]; rfl), wrap_neg h2, addR_yes ⟨h1, vr_neg h2⟩]
  congr 1
  rw [Int.neg_mul]; omega
theorem mkR_err_neg (n d : Int) : (mkR (-n) d).2 = (mkR n d).2 := by
  unfold mkR
  rw [Int.natAbs_neg]
  split
  · rfl
  · split <;> rfl
theorem sb_symm {a b c d : Int} (h1 : vr a b = true) (h2 : vr c d = true) : (sbR a b c d).2 = (sbR c d a b).2 := by
  rw [sbR_yes (by rw [h1, h2]; rfl), sbR_yes (by rw [h1, h2]; rfl), ← mkR_err_neg, show -(a * d - c * b) = c * b - a * d by omega, Int.mul_comm b d]
theorem sb_self {a b : Int} (h1 : vr a b = true) : (sbR a b a b).2 = 0 := by
  rw [sbR_yes (by rw [h1]; rfl), Int.sub_self]
  have hb := (vr_iff a b).1 h1
  have hp : 0 < b * b := Int.mul_pos (by omega) (by omega)
  unfold mkR
  rw [if_neg (by omega), if_neg]
  intro h
  have hg : Nat.gcd (0 : Int).natAbs (b * b).natAbs = (b * b).natAbs := by simp
  rw [hg] at h
  have hz : (0 : Int).natAbs / (b * b).natAbs = 0 := by simp
  have ho : (b * b).natAbs / (b * b).natAbs = 1 := Nat.div_self (by omega)
  omega
/-- The differences of both sides. -/
theorem df_dif {ps : List (Int × Int)} {i j : Nat} (h1 : okP (ck ps i) = true) (h2 : okP (ck ps j) = true) : df ((0, 1) :: ps) i j = dif ps i j := by
  unfold df dif
  rw [gq_ck, gq_ck, sb_sub (okP_vr h1).1 (okP_vr h2).1]
theorem ck_all {ps : List (Int × Int)} (h : AllP ps ps.length) {i : Nat} (hi : i ≤ ps.length) : okP (ck ps i) = true := by
  unfold ck
  by_cases e : i = 0
  · rw [if_pos e]; exact okP0
  · rw [if_neg e]; exact h _ (by omega)
theorem av_all {ps : List (Int × Int)} (h : AV ((0, 1) :: ps) (ps.length + 1)) : AllP ps ps.length := fun k hk => by
  have := h (k + 1) (by omega)
  rwa [gq_ck, ck, if_neg (by omega), Nat.add_sub_cancel] at this
theorem ready_ok {N : Nat} {xs : List Int} {ps : List (Int × Int)} (hok : OkZ N xs) (hlen : ps.length = N) (h1 : AV ((0, 1) :: ps) (N + 1)) (h2 : AD ((0, 1) :: ps) (N + 1)) : readyF N xs ps = 0 := by
  subst hlen
  have hA := av_all h1
  refine readyF_ok ⟨hok, rfl⟩ hA (fun i j hi hj => ?_)
  have v1 := ck_all hA (show i ≤ ps.length by omega)
  have v2 := ck_all hA hj
  rw [← df_dif v1 v2]
  rcases Nat.lt_trichotomy i j with c | c | c
  · have e := sb_symm (okP_vr v1).1 (okP_vr v2).1
    unfold df
    rw [gq_ck, gq_ck, e]
    have := h2 j i (by omega) c
    unfold df at this
    rwa [gq_ck, gq_ck] at this
  · rw [c]
    unfold df
    rw [gq_ck]
    exact sb_self (okP_vr v2).1
  · exact h2 i j hi c
theorem ready_val {N : Nat} {xs : List Int} {ps : List (Int × Int)} (hlen : ps.length = N) {k : Nat} (hk : k ≤ N) (h : okP (gq ((0, 1) :: ps) k) = false) : readyF N xs ps = 2 := by
  refine readyF_val (fun hA => ?_)
  rw [gq_ck, ck_all hA (by omega)] at h
  cases h
theorem ready_rng {N : Nat} {xs : List Int} {ps : List (Int × Int)} (hok : OkZ N xs) (hlen : ps.length = N) (h1 : AV ((0, 1) :: ps) (N + 1)) {i j : Nat} (hi : i ≤ N) (hj : j < i) (h : (df ((0, 1) :: ps) i j).2 ≠ 0) : readyF N xs ps = 7 := by
  subst hlen
  have hA := av_all h1
  refine readyF_range ⟨hok, rfl⟩ hA (fun hD => h ?_)
  rw [df_dif (ck_all hA hi) (ck_all hA (by omega))]
  exact hD i j (by omega) (by omega)
theorem q_i64 {N : Nat} {ps : List (Int × Int)} (hlen : ps.length = N) (hI : ∀ k, k < ps.length → I64 (gq ps k).1) : ∀ k, k ≤ N → I64 (gq ((0, 1) :: ps) k).1 := fun k hk => by
  rw [gq_ck]
  unfold ck
  by_cases e : k = 0
  · rw [if_pos e]; unfold I64; omega
  · rw [if_neg e]; exact hI _ (by omega)
/-- What zone.at returns. -/
def AtPost (t base : Nat) (r : Int) (ps : List (Int × Int)) (e : Ending) (w' : World) : Prop := ∃ v', e = .returned (.tuple #[v', .int .i64 r]) ∧ (r = 0 → OQ t base w' v' ((0, 1) :: ps))
theorem AtPost.err {t base : Nat} {r x : Int} {ps : List (Int × Int)} {w' : World} {v : Value} (h : r = x) (hx : x ≠ 0) : AtPost t base r ps (.returned (.tuple #[v, .int .i64 x])) w' := by subst h; exact ⟨_, rfl, fun e => absurd e hx⟩
theorem AtPost.ok {t base : Nat} {r : Int} {ps : List (Int × Int)} {w' : World} {v : Value} (h : r = 0) (ho : OQ t base w' v ((0, 1) :: ps)) : AtPost t base r ps (.returned (.tuple #[v, .int .i64 0])) w' := by subst h; exact ⟨_, rfl, fun _ => ho⟩

set_option maxRecDepth 100000 in
set_option maxHeartbeats 8000000 in
theorem prog_at_fit (N : Nat) (v pv : Value) (xs : List Int) (ps : List (Int × Int)) (w : World) (hv : RL w.heap.size w v xs) (hp : RQ w.heap.size w pv ps) (hok : OkZ N xs) (hlen : ps.length = N) (hI : ∀ k, k < ps.length → I64 (gq ps k).1) :
    Calls Try.prog 81 #[.agg #[.int .i64 N, v], pv] w fun e w' => AtPost 48 w.heap.size (readyF N xs ps) ps e w' ∧ Below w.heap.size w w' := by
  have he := okErr_yes hok
  have hN : N ≤ 10 := by have := hok.hi; omega
  have HR0 := Lib.hid (fun h1 h2 => ready_ok (xs := xs) (ps := ps) hok hlen h1 h2)
  have HR2 := Lib.hid (fun k h1 h2 => ready_val (N := N) (xs := xs) (ps := ps) hlen (k := k) h1 h2)
  have HR7 := Lib.hid (fun i j h1 h2 h3 h4 => ready_rng (xs := xs) (ps := ps) hok hlen h1 (i := i) (j := j) h2 h3 h4)
  have HB := Lib.hid (q_i64 hlen hI)
  generalize readyF N xs ps = RE at *
  obtain ⟨aoz, capz, rfl, hlez, _⟩ := hv.open
  obtain ⟨ao, cap, rfl, hle, h0⟩ := hp.open
  have hloc0 := Loc.one w (.cells #[.int .i64 N, .slice aoz xs.length capz] 24) none
  have Hv0 := Lib.hid (hv.keepb (below_grownBy hloc0.grown))
  have Hp := Lib.hid hp
  have hl' : ((ps.length : Int) != (N : Int)) = false := by simp; omega
  have HlP := Lib.hid hlen
  clear hv hok hp h0 hI hlen
  obtain ⟨i0, hi, hz0, hz1, hz2⟩ := info_parts Try.infoQ
  have Hi := Lib.hid hi
  have Hz0 := Lib.hid hz0
  have Hz1 := Lib.hid hz1
  have Hz2 := Lib.hid hz2
  clear hi hz0 hz1 hz2
  go_enter Try.func81, Try.ntmps81
  go_wp2_with fail
  refine (prog_check N _ xs _ Hv0.out).mono ?_
  rw [he]
  rintro e w1 ⟨rfl, hb1⟩
  have hloc1 := hloc0.next (grownBy_below hb1 none) (fun _ h => by cases h)
  have c0 : w1.cell? ⟨w.heap.size, 0, none⟩ = some (.int .i64 N) := hloc1.cell 0 rfl 0
  have hs1 : w.heap.size + 1 ≤ w1.heap.size := hloc1.size
  have hloc2 := hloc1.next (World.grownBy_alloc w1 (.cells #[.int .i64 0, .int .i64 1] 48) none) (fun _ h => by cases h)
  have hown : OQ 48 (w.heap.size + 1) (w1.alloc (.cells #[.int .i64 0, .int .i64 1] 48)) (.slice (some ⟨w1.heap.size, 0, none⟩) 1 1) [(0, 1)] := World.ownsRow_lit w1 #[.int .i64 0, .int .i64 1] 1 hs1 (by unfold maxLen; omega) rfl
  have Hrs := Lib.hid (RS.keep Hp.out (below_grownBy hloc2.grown))
  have hnew1 : ∀ u ∈ ps.flatMap cells2, u.oneCell' = true := by
    intro u hu
    obtain ⟨c, _, hc⟩ := List.mem_flatMap.1 hu
    simp only [cells2, List.mem_cons, List.not_mem_nil, or_false] at hc
    rcases hc with rfl | rfl <;> rfl
  clear hb1 hloc0 he hloc1
  go_wp2_with (at_builtin; (refine wpList_append_rs2 rfl (.tmp 26) (.tmp 27) 90 45 rfl (w.heap.size + 1) 48 i0 (.agg #[.int .i64 0, .int .i64 0]) 2 16 Try.undPt Try.undRatios Hi.out Hz0.out Hz1.out Hz2.out rfl (by decide) (.slice (some ⟨w1.heap.size, 0, none⟩) 1 1) 1 ([(0, 1)].flatMap cells2) rfl hown w.heap.size (.slice ao ps.length cap) rfl ps.length (ps.flatMap cells2) Hrs.out (flat2_len ps) hnew1 ?_ ?_ ?_ ?_; (rw [HlP.out]; unfold maxLen; omega); (rw [HlP.out]; omega); (simp; omega); intro v' w2 ho2 hg2; rw [show 1 + ps.length = N + 1 by rw [HlP.out]; omega] at ho2; obtain ⟨g, cap2, rfl, hgb, hgs, hgc, hgm⟩ := own_form ho2 (by omega)))
  have hlocA := hloc2.anyrow hg2 (fun k e => by cases e; exact hs1)
  have hQl : ((0, 1) :: ps : List (Int × Int)).length = N + 1 := by rw [List.length_cons, HlP.out]
  have hownA : OQ 48 (w.heap.size + 1) w2 (.slice (some ⟨g, 0, none⟩) (N + 1) cap2) ((0, 1) :: ps) := by
    unfold OQ; rw [hQl]; exact ho2
  clear ho2 hg2 hloc2 hown c0 hs1
  generalize hQ : ((0, 1) :: ps : List (Int × Int)) = Q at *
  have HQ := Lib.hid hQ
  clear hQ
  go_loopw [31] (fun k wr => ∃ j : Nat, j ≤ N + 1 ∧ k = .int .i64 j ∧ AV Q j ∧ OQ 48 (w.heap.size + 1) wr (.slice (some ⟨g, 0, none⟩) (N + 1) cap2) Q ∧ Loc w wr none [.cells #[.int .i64 N, .slice aoz xs.length capz] 24]) (fun k _ => N + 1 - (intOf k).toNat)
  case atStart => exact ⟨0, by omega, rfl, fun k hk => by omega, hownA, hlocA⟩
  case round =>
    clear hownA hlocA
    obtain ⟨j, hj, rfl, hav, hown, hloc⟩ := hrel
    have HAV := Lib.hid hav
    clear hav
    by_cases hjl : j < N + 1
    · have hj1 : (j : Int) < (N : Int) + 1 := by omega
      obtain ⟨q0, q1⟩ := OQ.at hown (j := j) (by omega)
      have HBd := HB.out j (by omega)
      have Hown := Lib.hid hown
      have hAs := Lib.hid (fun h => AV.succ HAV.out (k := j) h)
      have hRb := Lib.hid (HR2.out j (by omega))
      generalize gq Q j = p at *
      obtain ⟨pn, pd⟩ := p
      simp only at q0 q1 HBd
      clear hown
      have hloc3 := hloc.next (World.grownBy_alloc wr (.cells #[.int .i64 pn, .int .i64 pd] 48) none) (fun _ h => by cases h)
      have hown3 := Lib.hid (World.ownsRow.alloc Hown.out (.cells #[.int .i64 pn, .int .i64 pd] 48))
      cases hV1 : vr pn pd with
      | false =>
        have hRE := Lib.hid (hRb.out (by simp [okP, hV1]))
        go_wp2_with (go_at_call 128; refine (pr_valid pn pd _ HBd.1 HBd.2).mono ?_; rw [hV1]; rintro e w8 ⟨rfl, hb8⟩; have x0 := keepb (cell_of_row _ wr.heap.size 0 _ _ _ (heap_alloc_new wr (.cells #[.int .i64 pn, .int .i64 pd] 48))) hb8)
        go_ret2
        exact ⟨AtPost.err hRE.out (by omega), below_grownBy (hloc3.next (grownBy_below hb8 none) (fun _ h => by cases h)).grown⟩
      | true =>
        by_cases hV2 : 0 ≤ pn
        · have hneg : decide (pn < 0) = false := by simpa using hV2
          have hAs2 := Lib.hid (hAs.out (by simp [okP, hV1, hV2]))
          clear hV2
          go_wp2_with (go_at_call 128; refine (pr_valid pn pd _ HBd.1 HBd.2).mono ?_; rw [hV1]; rintro e w8 ⟨rfl, hb8⟩; have x0 := keepb (cell_of_row _ wr.heap.size 0 _ _ _ (heap_alloc_new wr (.cells #[.int .i64 pn, .int .i64 pd] 48))) hb8)
          go_roundw
          case rel => exact ⟨j + 1, by omega, by go_num, hAs2.out, World.ownsRow.kept hown3.out (grownBy_below hb8 none) (.inr (fun e => by cases e)), hloc3.next (grownBy_below hb8 none) (fun _ h => by cases h)⟩
          case measure => simp [intOf]; omega
        · have hneg : decide (pn < 0) = true := by simpa using hV2
          have hRE := Lib.hid (hRb.out (by simp [okP, hV2]))
          clear hV2
          go_wp2_with (go_at_call 128; refine (pr_valid pn pd _ HBd.1 HBd.2).mono ?_; rw [hV1]; rintro e w8 ⟨rfl, hb8⟩; have x0 := keepb (cell_of_row _ wr.heap.size 0 _ _ _ (heap_alloc_new wr (.cells #[.int .i64 pn, .int .i64 pd] 48))) hb8)
          go_ret2
          exact ⟨AtPost.err hRE.out (by omega), below_grownBy (hloc3.next (grownBy_below hb8 none) (fun _ h => by cases h)).grown⟩
    · have htj : decide ((j : Int) < (N : Int) + 1) = false := by simp; omega
      have HAN := Lib.hid (show AV Q (N + 1) from fun k hk => HAV.out k (by omega))
      clear HAV
      go_wp2_with fail
      go_loopw [46] (fun k wr2 => ∃ i : Nat, i ≤ N + 1 ∧ k = .int .i64 i ∧ AD Q i ∧ OQ 48 (w.heap.size + 1) wr2 (.slice (some ⟨g, 0, none⟩) (N + 1) cap2) Q ∧ Loc w wr2 none [.cells #[.int .i64 N, .slice aoz xs.length capz] 24]) (fun k _ => N + 1 - (intOf k).toNat)
      case atStart => exact ⟨0, by omega, rfl, fun i j h1 h2 => by omega, hown, hloc⟩
      case round =>
        clear hown hloc htj hjl hj
        obtain ⟨i, hi, rfl, had, hown, hloc⟩ := hrel
        have HAD := Lib.hid had
        clear had
        by_cases hil : i < N + 1
        · have hi1 : (i : Int) < (N : Int) + 1 := by omega
          have hi0 : (0 : Int) ≤ (i : Int) := by omega
          have hi2 : (i : Int) ≤ (cap2 : Int) := by omega
          obtain ⟨q0, q1⟩ := OQ.at hown (j := i) (by omega)
          have HBd := Lib.hid (HB.out i (by omega))
          have Hown := Lib.hid hown
          generalize hp : gq Q i = p at *
          have Hpi := Lib.hid hp
          obtain ⟨pn, pd⟩ := p
          simp only at q0 q1
          clear hown hp
          have hloc3 := hloc.next (World.grownBy_alloc wr (.cells #[.int .i64 pn, .int .i64 pd] 48) none) (fun _ h => by cases h)
          have hown3 := Lib.hid (World.ownsRow.alloc Hown.out (.cells #[.int .i64 pn, .int .i64 pd] 48))
          have Hx := Lib.hid (heap_alloc_new wr (.cells #[.int .i64 pn, .int .i64 pd] 48))
          have hB : w.heap.size + 1 ≤ wr.heap.size := hloc.size
          go_wp2_with fail
          generalize hBB : wr.heap.size = B at *
          generalize wr.alloc (.cells #[.int .i64 pn, .int .i64 pd] 48) = W1 at *
          clear hloc Hown q0 q1
          go_loopw [55] (fun k wr3 => ∃ j : Nat, j ≤ i ∧ k = .int .i64 j ∧ RD Q i j ∧ wr3.heap[B]? = some (.cells #[.int .i64 pn, .int .i64 pd] 48 (0, 0)) ∧ OQ 48 (w.heap.size + 1) wr3 (.slice (some ⟨g, 0, none⟩) (N + 1) cap2) Q ∧ Loc w wr3 none [.cells #[.int .i64 N, .slice aoz xs.length capz] 24]) (fun k _ => i - (intOf k).toNat)
          case atStart => exact ⟨0, by omega, rfl, fun j hj => by omega, Hx.out, hown3.out, hloc3⟩
          case round =>
            clear hown3 hloc3 Hx
            obtain ⟨j, hj, rfl, hrd, hx, hown, hloc⟩ := hrel
            have HRD := Lib.hid hrd
            clear hrd
            by_cases hjl : j < i
            · have hj1 : (j : Int) < (i : Int) := by omega
              obtain ⟨q0, q1⟩ := OQ.at hown (j := j) (by omega)
              have hbd := HB.out j (by omega)
              have HDf := Lib.hid (show df Q i j = sbR (gq Q i).1 (gq Q i).2 (gq Q j).1 (gq Q j).2 from rfl)
              rw [Hpi.out] at HDf
              have HRs := Lib.hid (fun h => RD.succ HRD.out h)
              have HRb := Lib.hid (fun h => HR7.out i j HAN.out (by omega) hjl h)
              have Hown := Lib.hid hown
              generalize hp : gq Q j = p at *
              obtain ⟨rn, rd⟩ := p
              simp only at q0 q1 hbd HDf
              clear hown hp
              have bA : Below wr.heap.size wr (wr.alloc (.cells #[.int .i64 rn, .int .i64 rd] 48)) := (Below.refl _ _).alloc (Nat.le_refl _) _
              have hloc3 := hloc.next (World.grownBy_alloc wr (.cells #[.int .i64 rn, .int .i64 rd] 48) none) (fun _ h => by cases h)
              have hown3 := Lib.hid (World.ownsRow.alloc Hown.out (.cells #[.int .i64 rn, .int .i64 rd] 48))
              have hBs : B < wr.heap.size := (Array.getElem?_eq_some_iff.1 hx).1
              have hx2 := (bA.block B hBs).trans hx
              have x0 := cell_of_row _ B 0 _ _ _ hx2
              have x1 := cell_of_row _ B 1 _ _ _ hx2
              have hy := heap_alloc_new wr (.cells #[.int .i64 rn, .int .i64 rd] 48)
              have y0 := cell_of_row _ wr.heap.size 0 _ _ _ hy
              have y1 := cell_of_row _ wr.heap.size 1 _ _ _ hy
              generalize hR : sbR pn pd rn rd = R at *
              rw [HDf.out] at HRs HRb
              obtain ⟨⟨r1, r2⟩, re⟩ := R
              simp only at HRs HRb
              clear hx hloc Hown
              by_cases hre : re = 0
              case neg =>
                have hRE := Lib.hid (HRb.out hre)
                have hre2 : (re != 0) = true := by simpa using hre
                clear hre
                go_wp2_with (go_at_call 129; refine (pr_sub pn pd rn rd _ HBd.out hbd).mono ?_; rw [hR]; rintro e w8 ⟨rfl, hb8⟩)
                have hloc8 := hloc3.next (grownBy_below hb8 none) (fun _ h => by cases h)
                go_ret2
                exact ⟨AtPost.err hRE.out (by omega), below_grownBy (hloc8.next (World.grownBy_alloc w8 _ none) (fun _ h => by cases h)).grown⟩
              subst hre
              have HRs2 := Lib.hid (HRs.out rfl)
              go_wp2_with (go_at_call 129; refine (pr_sub pn pd rn rd _ HBd.out hbd).mono ?_; rw [hR]; rintro e w8 ⟨rfl, hb8⟩)
              have hloc8 := hloc3.next (grownBy_below hb8 none) (fun _ h => by cases h)
              have hown8 := World.ownsRow.kept hown3.out (grownBy_below hb8 none) (.inr (fun e => by cases e))
              have hx8 := (hb8.block B (show B < (wr.alloc (.cells #[.int .i64 rn, .int .i64 rd] 48)).heap.size by simp; omega)).trans hx2
              have hB8 : B < w8.heap.size := (Array.getElem?_eq_some_iff.1 hx8).1
              go_roundw
              case rel => exact ⟨j + 1, by omega, by go_num, HRs2.out, ((Below.refl w8.heap.size w8).alloc (Nat.le_refl _) _ |>.block B hB8).trans hx8, World.ownsRow.alloc hown8 _, hloc8.next (World.grownBy_alloc w8 _ none) (fun _ h => by cases h)⟩
              case measure => simp [intOf]; omega
            · have htj : decide ((j : Int) < (i : Int)) = false := by simp; omega
              have HADs := Lib.hid (AD.succ HAD.out (show RD Q i i from fun j' h => HRD.out j' (by omega)))
              go_wp2_with fail
              go_roundw
              case rel => exact ⟨i + 1, by omega, by go_num, HADs.out, hown, hloc⟩
              case measure => simp [intOf]; omega
        · have hti : decide ((i : Int) < (N : Int) + 1) = false := by simp; omega
          have hRE := Lib.hid (HR0.out HAN.out (fun a b h1 h2 => HAD.out a b (by omega) h2))
          go_wp2_with fail
          go_ret2
          exact ⟨AtPost.ok hRE.out (by rw [HQ.out]; exact OQ.mono (base' := w.heap.size + 1) hown (by omega)), below_grownBy hloc.grown⟩

set_option maxHeartbeats 2000000 in
theorem prog_at_no (n : Int) (v pv : Value) (xs : List Int) (ps : List (Int × Int)) (w : World) (hv : RL w.heap.size w v xs) (hp : RQ w.heap.size w pv ps) (hno : ¬ (OkZ n xs ∧ (ps.length : Int) = n)) :
    Calls Try.prog 81 #[.agg #[.int .i64 n, v], pv] w fun e w' => AtPost 48 w.heap.size (readyF n xs ps) ps e w' ∧ Below w.heap.size w w' := by
  have HRE := Lib.hid (readyF_fit hno)
  obtain ⟨aoz, capz, rfl, hlez, _⟩ := hv.open
  obtain ⟨ao, cap, rfl, hle, h0⟩ := hp.open
  have hloc0 := Loc.one w (.cells #[.int .i64 n, .slice aoz xs.length capz] 24) none
  have Hv0 := Lib.hid (hv.keepb (below_grownBy hloc0.grown))
  clear hv hp h0
  by_cases hok : OkZ n xs
  · have he := okErr_yes hok
    have hl' : ((ps.length : Int) != n) = true := by simpa using fun h => hno ⟨hok, h⟩
    clear hok hno
    go_enter Try.func81, Try.ntmps81
    go_wp2_with fail
    refine (prog_check n _ xs _ Hv0.out).mono ?_
    rw [he]
    rintro e w1 ⟨rfl, hb1⟩
    have hloc1 := hloc0.next (grownBy_below hb1 none) (fun _ h => by cases h)
    have c0 : w1.cell? ⟨w.heap.size, 0, none⟩ = some (.int .i64 n) := hloc1.cell 0 rfl 0
    go_wp2_with fail
    go_ret2
    exact ⟨AtPost.err HRE.out (by omega), below_grownBy hloc1.grown⟩
  · have he := okErr_no hok
    clear hok hno
    go_enter Try.func81, Try.ntmps81
    go_wp2_with fail
    refine (prog_check n _ xs _ Hv0.out).mono ?_
    rw [he]
    rintro e w1 ⟨rfl, hb1⟩
    have hloc1 := hloc0.next (grownBy_below hb1 none) (fun _ h => by cases h)
    go_wp2_with fail
    go_ret2
    exact ⟨AtPost.err HRE.out (by omega), below_grownBy hloc1.grown⟩
theorem prog_at (n : Int) (v pv : Value) (xs : List Int) (ps : List (Int × Int)) (w : World) (hv : RL w.heap.size w v xs) (hp : RQ w.heap.size w pv ps) (hI : ∀ k, k < ps.length → I64 (gq ps k).1) :
    Calls Try.prog 81 #[.agg #[.int .i64 n, v], pv] w fun e w' => AtPost 48 w.heap.size (readyF n xs ps) ps e w' ∧ Below w.heap.size w w' := by
  by_cases h : OkZ n xs ∧ (ps.length : Int) = n
  · obtain ⟨hok, rfl⟩ := h
    exact prog_at_fit ps.length v pv xs ps w hv hp hok rfl hI
  · exact prog_at_no n v pv xs ps w hv hp h
end Go.Proofs.Ytkgaipcgdldfdaa
namespace Go.Proofs.Ytkgaipcgdldfdaa
open Go.RowKit
set_option linter.unusedVariables false

theorem suTo_iff {N : Nat} {xs : List Int} {ps : List (Int × Int)} (hlen : ps.length = N) (hA : AllP ps ps.length) : SuTo N xs ((0, 1) :: ps) 0 (N + 1) ↔ AllM N xs ps (N + 1) := by
  have e : ∀ i j, i ≤ N → j ≤ N → pm N xs ((0, 1) :: ps) i j = mt N xs ps i j := fun i j hi hj => by
    unfold pm mt
    rw [df_dif (ck_all hA (by omega)) (ck_all hA (by omega))]
  constructor
  · intro h i j hi hj
    rw [← e i j (by omega) hj]
    exact h i (Nat.zero_le _) hi j (Nat.zero_le _) (by omega)
  · intro h i _ hi j _ hj
    rw [e i j (by omega) (by omega)]
    exact h i j hi (by omega)
set_option maxHeartbeats 2000000 in
theorem prog_has (n : Int) (v pv : Value) (xs : List Int) (ps : List (Int × Int)) (w : World) (hv : RL w.heap.size w v xs) (hp : RQ w.heap.size w pv ps) (hI : ∀ k, k < ps.length → I64 (gq ps k).1) :
    Calls Try.prog 32 #[.agg #[.int .i64 n, v], pv] w fun e w' => BE (hasF n xs ps) e ∧ Below w.heap.size w w' := by
  obtain ⟨aoz, capz, rfl, hlez, _⟩ := hv.open
  obtain ⟨ao, cap, rfl, hle, h0⟩ := hp.open
  have hloc0 := Loc.one w (.cells #[.int .i64 n, .slice aoz xs.length capz] 24) none
  have Hv0 := Lib.hid (hv.keepb (below_grownBy hloc0.grown))
  have Hp0 := Lib.hid (hp.keepb (below_grownBy hloc0.grown))
  have HI := Lib.hid hI
  clear hv hp h0 hI
  by_cases hr : readyF n xs ps = 0
  · obtain ⟨hfit, hall, hD⟩ := readyF_inv hr
    obtain ⟨hok, hlen⟩ := hfit
    have Hr := Lib.hid hr
    have Hn := Lib.hid hlen
    have HS := Lib.hid (suTo_iff (xs := xs) rfl hall)
    have HB := Lib.hid (q_i64 rfl HI.out)
    have HN := Lib.hid (show ps.length ≤ 10 by have := hok.hi; omega)
    have Hx := Lib.hid (show xs.length = (ps.length + 1) * (ps.length + 1) by have := hok.len; rw [← hlen, Int.toNat_natCast] at this; exact this)
    clear hr hok hlen hall hD
    go_enter Try.func32, Try.ntmps32
    go_wp2_with fail
    refine (prog_at n _ _ xs ps _ Hv0.out Hp0.out HI.out).mono ?_
    rw [Hr.out]
    rintro e w1 ⟨⟨v1, rfl, ho1⟩, hb1⟩
    have hloc1 := hloc0.next (grownBy_below hb1 none) (fun _ h => by cases h)
    have c0 : w1.cell? ⟨w.heap.size, 0, none⟩ = some (.int .i64 n) := hloc1.cell 0 rfl 0
    have c1 : w1.cell? ⟨w.heap.size, 1, none⟩ = some (.slice aoz xs.length capz) := hloc1.cell 0 rfl 1
    have HQ := Lib.hid (OQ.rq (ho1 rfl))
    have Hv1 := Lib.hid (Hv0.out.keepb hb1)
    have Hloc1 := Lib.hid hloc1
    clear ho1 hb1 hloc1 hloc0
    go_wp2_with fail
    have key := prog_suits ps.length 0 (.slice aoz xs.length capz) v1 xs ((0, 1) :: ps) w1 Hv1.out HQ.out Hx.out HN.out (by simp) HB.out (by omega)
    rw [Hn.out] at key
    refine key.mono ?_
    rintro e w2 ⟨⟨b, rfl, hb⟩, hb2⟩
    have Hb := Lib.hid hb
    clear hb key
    go_wp2_with fail
    go_ret2
    refine ⟨BE.of ?_, below_grownBy (Hloc1.out.next (grownBy_below hb2 none) (fun _ h => by cases h)).grown⟩
    have h1 := Hb.out
    rw [HS.out] at h1
    cases b with
    | true => exact hasF_in Hr.out (h1.1 rfl)
    | false => exact hasF_out Hr.out (fun h => by have := h1.2 h; cases this)
  · have hres := Lib.hid (hasF_no rfl hr)
    have Hne := Lib.hid hr
    have hne : (readyF n xs ps != 0) = true := by simpa using hr
    clear hr
    have HA := Lib.hid (prog_at n (.slice aoz xs.length capz) (.slice ao ps.length cap) xs ps)
    generalize readyF n xs ps = R at *
    go_enter Try.func32, Try.ntmps32
    go_wp2_with fail
    refine (HA.out _ Hv0.out Hp0.out HI.out).mono ?_
    rintro e w1 ⟨⟨v1, rfl, ho1⟩, hb1⟩
    have hloc1 := hloc0.next (grownBy_below hb1 none) (fun _ h => by cases h)
    clear ho1
    go_wp2_with fail
    go_ret2
    exact ⟨BE.of hres.out, below_grownBy hloc1.grown⟩
end Go.Proofs.Ytkgaipcgdldfdaa
