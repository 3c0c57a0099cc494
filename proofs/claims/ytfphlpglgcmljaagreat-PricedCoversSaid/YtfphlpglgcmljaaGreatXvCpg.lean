/- Part of the proof of priced_covers_proved: Cpg. -/
import Derived.Deep.RegionHeld3
import Derived.Test.YtfphlpglgcmljaaGreatXvCpe
namespace Go.Proofs.YtfphlpglgcmljaaGreat
open Go.RowKit
set_option linter.unusedVariables false
set_option linter.unusedSimpArgs false
set_option linter.unnecessarySimpa false
theorem own_row {e base g n : Nat} {w : World} {xs : List Int} (h : OL e base w (.slice (some ⟨g, 0, none⟩) n n) xs) (hx : xs.length = n) : w.heap[g]? = some (.cells (xs.map (Value.int .i64)).toArray e (0, 0)) := by
 rcases h.2 with ⟨h1, _⟩ | ⟨g', cap, cur, hv, hb, hg, hnc, hcm, hcs, ht⟩
 ·cases h1
 ·simp only [Value.slice.injEq, Option.some.injEq, Addr.mk.injEq, and_true] at hv
  obtain ⟨rfl, hv⟩ := hv
  rw [hg, ← ht]
  have : List.take (xs.length * 1) cur.toList = cur.toList := List.take_of_length_le (by rw [Array.length_toList]; omega)
  rw [this]
def ndK (rs : List Int) (k : Nat) : Nat → Int := fun j => if j = 0 then -sR rs k else if j ≤ k then gi rs (j - 1) else 0
theorem ndK_zero (rs : List Int) : ndK rs 0 = fun _ => 0 := by
 funext j
 unfold ndK
 by_cases c : j = 0
 ·rw [if_pos c]; rfl
 ·rw [if_neg c, if_neg (by omega)]
theorem ndK_next (rs : List Int) (k : Nat) : upI (upI (ndK rs k) (k + 1) (gi rs k)) 0 (-sR rs k - gi rs k) = ndK rs (k + 1) := by
 funext j
 unfold upI ndK
 by_cases c : j = 0
 ·rw [if_pos c, if_pos c]; show -sR rs k - gi rs k = -(sR rs k + gi rs k); omega
 ·rw [if_neg c, if_neg c, if_neg c]
  by_cases d : j = k + 1
  ·rw [if_pos d, if_pos (by omega), d, Nat.add_sub_cancel]
  ·rw [if_neg d]
   by_cases f : j ≤ k
   ·rw [if_pos f, if_pos (by omega)]
   ·rw [if_neg f, if_neg (by omega)]
theorem ndK_all (rs : List Int) {N j : Nat} (hj : j < N + 1) : ndK rs N j = ndF N rs j := by
 unfold ndK ndF
 by_cases c : j = 0
 ·rw [if_pos c, if_pos c]
 ·rw [if_neg c, if_neg c, if_pos (by omega)]
def fM (mo : Nat → Nat → Int) : Nat → Int := fun j => mo (j / 11) (j % 11)
theorem fM_at (mo : Nat → Nat → Int) {k i : Nat} (hi : i < 11) : fM mo (k * 11 + i) = mo k i := by
 unfold fM
 rw [show (k * 11 + i) / 11 = k by omega, show (k * 11 + i) % 11 = i by omega]
theorem fM_upd (mo : Nat → Nat → Int) {k i : Nat} (x : Int) (hi : i < 11) : upI (fM mo) (k * 11 + i) x = fM (upd2 mo k i x) := by
 funext j
 unfold upI fM upd2
 by_cases c : j = k * 11 + i
 ·rw [if_pos c, if_pos ⟨by omega, by omega⟩]
 ·rw [if_neg c, if_neg (fun q => c (by omega))]
theorem rd_row {X : World} {g n t : Nat} {V : Nat → Int} (h : X.heap[g]? = some (.cells (lV V n).toArray t (0, 0))) {j : Nat} (hj : j < n) : gi (rdI X g n) j = V j := by
 unfold gi rdI
 rw [List.getD_eq_getElem?_getD, List.getElem?_map, List.getElem?_range hj]
 show (match X.cell? ⟨g, j, none⟩ with | some (.int _ x) => x | _ => 0) = _
 rw [row_at h (lV_at V hj)]
theorem pos_congr {N : Nat} {f g : Nat → Int} (h : ∀ j, j < N + 1 → f j = g j) : posS N f = posS N g := sm_congr _ (fun j hj => by rw [h j hj])
theorem need_bd {N : Nat} {xs : List Int} {rs : List Int} {need : Nat → Int} {mo : Nat → Nat → Int} {c0 c : Int} (I : Inv N xs (ndF N rs) c0 need mo c) {k : Nat} (hk : k ≤ N) : -268435456 ≤ need k ∧ need k ≤ 268435456 := by
 have tot : sm need (N + 1) = 0 := by
  have q := I.flow (fun _ => 1)
  rw [sm2_congr (mo' := fun _ _ => 0) (w' := fun _ _ => 0) (fun k i _ _ => by show mo k i * (1 - 1) = 0 * 0; simp), sm2_zero] at q
  rw [sm_congr (f := fun i => need i * 1) (g := need) (N + 1) (fun i _ => by show need i * 1 = _; omega), sm_congr (f := fun i => ndF N rs i * 1) (g := ndF N rs) (N + 1) (fun i _ => by show ndF N rs i * 1 = _; omega), nd_sum] at q
  omega
 have b := I.bd k k (by omega) (by omega)
 have nn := I.nn k k (by omega) (by omega)
 have one : sm (fun j => if j = k then need k else ps (need j)) (N + 1) = posS N need + (need k - ps (need k)) := by
  have q := sm_one (f := fun j => ps (need j)) (g := fun j => if j = k then need k else ps (need j)) (k := k) (N + 1) (by omega) (fun i _ hne => by rw [if_neg hne])
  simp only [if_true] at q
  exact q
 have le := sm_le (f := need) (g := fun j => if j = k then need k else ps (need j)) (N + 1) (fun i _ => by
  show need i ≤ if i = k then need k else ps (need i)
  by_cases e : i = k
  ·subst e; rw [if_pos rfl]; omega
  ·rw [if_neg e]; exact (ps_nn _).2)
 have p := ps_nn (need k)
 have le2 : ps (need k) ≤ posS N need := by
  have z : sm (fun j => if j = k then ps (need k) else 0) (N + 1) = 0 + (ps (need k) - 0) := by
   have q := sm_one (f := fun _ => 0) (g := fun j => if j = k then ps (need k) else 0) (k := k) (N + 1) (by omega) (fun i _ hne => by rw [if_neg hne])
   rw [sm_zero] at q
   simp only [if_true] at q
   exact q
  have q := sm_le (f := fun j => if j = k then ps (need k) else 0) (g := fun j => ps (need j)) (N + 1) (fun i _ => by
   show (if i = k then ps (need k) else 0) ≤ ps (need i)
   by_cases e : i = k
   ·subst e; rw [if_pos rfl]; omega
   ·rw [if_neg e]; exact (ps_nn _).1)
  unfold posS
  omega
 by_cases c0 : 0 < need k
 ·have : ps (need k) = need k := by unfold ps; rw [if_pos c0]
  omega
 ·have : ps (need k) = 0 := by unfold ps; rw [if_neg c0]
  omega
theorem val_bd {N : Nat} {xs : List Int} {need0 need : Nat → Int} {mo : Nat → Nat → Int} {c0 c : Int} (hN : N ≤ 3) (hn : Near N xs) (I : Inv N xs need0 c0 need mo c) : -300000000000000000 ≤ c - c0 ∧ c - c0 ≤ 300000000000000000 := by
 have key : ∀ k i, k < N + 1 → i < N + 1 → -18014398509481984 ≤ mo k i * bF N xs k i ∧ mo k i * bF N xs k i ≤ 18014398509481984 := fun k i hk hi => by
  have nn := I.nn k i hk hi
  have b := I.bd k i hk hi
  have pn := pos_nn N need
  by_cases p : 0 < mo k i
  ·have nb := hn k i (by omega) (by omega) (I.sup k i hk hi p).1
   have h3 := mul_rng (A := 268435456) (B := 67108864) (a := mo k i) (b := bF N xs k i) (by omega) (by omega) nb.1 nb.2
   omega
  ·have e : mo k i = 0 := by omega
   rw [e, Int.zero_mul]; omega
 have up : sm2 (N + 1) mo (bF N xs) ≤ ((N + 1 : Nat) : Int) * (((N + 1 : Nat) : Int) * 18014398509481984) := sm_bd (N + 1) (fun k hk => sm_bd (N + 1) (fun i hi => (key k i hk hi).2))
 have dn : sm2 (N + 1) mo (fun k i => -bF N xs k i) ≤ ((N + 1 : Nat) : Int) * (((N + 1 : Nat) : Int) * 18014398509481984) := sm_bd (N + 1) (fun k hk => sm_bd (N + 1) (fun i hi => by
  show mo k i * -bF N xs k i ≤ _
  rw [Int.mul_neg]; have := (key k i hk hi).1; omega))
 rw [sm2_neg] at dn
 have hle : ((N + 1 : Nat) : Int) * (((N + 1 : Nat) : Int) * 18014398509481984) ≤ 288230376151711744 := by
  rcases (by omega : N = 0 ∨ N = 1 ∨ N = 2 ∨ N = 3) with rfl | rfl | rfl | rfl <;> decide
 have := I.cost
 omega
theorem c0T_bd {N : Nat} {xs : List Int} {c : Int} {rs : List Int} (hN : N ≤ 3) (hz : OkZ N xs) (hn : Near N xs) (hr : ∀ k, k < N → -33554432 ≤ gi rs k ∧ gi rs k ≤ 33554432) : ∀ k, k ≤ N → c - k * 2251799813685248 ≤ c0T N xs c rs k ∧ c0T N xs c rs k ≤ c + k * 2251799813685248
  | 0, _ => by show c - (0 : Nat) * _ ≤ c ∧ c ≤ _; simp
  | k + 1, hk => by
    have ih := c0T_bd (c := c) hN hz hn hr k (by omega)
    have h1 := hr k (by omega)
    have h2 : -67108864 ≤ lowF N xs (k + 1) ∧ lowF N xs (k + 1) ≤ 67108864 := by
      have n := hn 0 (k + 1) (Nat.zero_le _) hk (b_low hz hk).1
      unfold bF at n; unfold lowF; omega
    have h3 := mul_rng (A := 33554432) (B := 67108864) h1.1 h1.2 h2.1 h2.2
    show c - ((k + 1 : Nat) : Int) * _ ≤ c0T N xs c rs k - gi rs k * lowF N xs (k + 1) ∧ c0T N xs c rs k - gi rs k * lowF N xs (k + 1) ≤ _
    omega
theorem Inv.congr {N : Nat} {xs : List Int} {need0 need need' : Nat → Int} {mo : Nat → Nat → Int} {c0 c : Int} (I : Inv N xs need0 c0 need mo c) (h : ∀ k, k < N + 1 → need' k = need k) : Inv N xs need0 c0 need' mo c := by
 refine ⟨fun v => ?_, I.nn, I.sup, I.cost, I.pot, fun k hk => ?_, fun k i hk hi => ?_⟩
 ·rw [sm_congr (g := fun i => need i * v i) (N + 1) (fun i hi => by show need' i * v i = _; rw [h i hi])]; exact I.flow v
 ·rw [h k hk]; exact I.sgn k hk
 ·rw [pos_congr h]; exact I.bd k i hk hi
def lst (V : Nat → Int) (n : Nat) : List Int := (List.range n).map V
theorem lst_len (V : Nat → Int) (n : Nat) : (lst V n).length = n := by simp [lst]
theorem lst_at (V : Nat → Int) {n k : Nat} (hk : k < n) : gi (lst V n) k = V k := by unfold gi lst; rw [List.getD_eq_getElem?_getD, List.getElem?_map, List.getElem?_range hk]; rfl
theorem lst_gi {l : List Int} {n : Nat} (h : l.length = n) : lst (gi l) n = l := ext_gi (by rw [lst_len, h]) (fun k hk => by rw [lst_len] at hk; exact lst_at _ hk)
theorem rl_lst {X : World} {g n t : Nat} {V : Nat → Int} (hN : n ≤ 1000) (h : X.heap[g]? = some (.cells (lV V n).toArray t (0, 0))) : RL X.heap.size X (.slice (some ⟨g, 0, none⟩) n n) (lst V n) := by
 have e : (lst V n).map (Value.int .i64) = lV V n := by unfold lst lV; rw [List.map_map]; rfl
 unfold RL
 rw [lst_len, e]
 refine .inr ⟨g, 0, none, n, rfl, Nat.le_refl _, by unfold maxLen; omega, fun e => by subst e; rfl, fun _ => ⟨rfl, hp_lt3 h, fun k hk => ?_⟩⟩
 rw [Nat.zero_add, cell_of_row _ g k _ _ _ h]
 simp
theorem rl_gi {X : World} {g n t : Nat} {l : List Int} (hN : n ≤ 1000) (hl : l.length = n) (h : X.heap[g]? = some (.cells (lV (gi l) n).toArray t (0, 0))) : RL X.heap.size X (.slice (some ⟨g, 0, none⟩) n n) l := by
 have q := rl_lst hN h
 rwa [lst_gi hl] at q
theorem zc159_rep : Tryz.zeroCells159 = (List.replicate 121 (Value.int .i64 0)).toArray := by kernel_rfl
theorem zc159 : Tryz.zeroCells159 = (lV (fM (fun _ _ => 0)) 121).toArray := by
 have e : lV (fM (fun _ _ => 0)) 121 = List.replicate 121 (.int .i64 0) := lV_zero 121
 rw [e]; exact zc159_rep
theorem eql_nil (a : Option Addr) (l c : Nat) (w : World) : (binOp .eql 160 (.slice a l c) (.slice none 0 0)).run Tryz.prog w = .ok (.bool a.isNone) w := by
 simp only [binOp]
 simp [run_equal_slice_nil w 160 3 a l c Tryz.undInt]
theorem cell_of_heap {w w' : World} {b : Nat} (h : w'.heap[b]? = w.heap[b]?) (t : Nat) : w'.cell? ⟨b, t, none⟩ = w.cell? ⟨b, t, none⟩ := by unfold World.cell?; simp only [h]
theorem ents_zero : Enters Tryz.prog 146 := enters_of Tryz.func146 (by kernel_rfl) rfl
theorem test_zero (x : Int) (w : World) :
  Calls Tryz.prog 146 (#[encI64 x] ++ #[]) w fun e w' => e = .returned (.bool (decide (x = 0))) ∧ Below w.heap.size w w' := by
 show Calls Tryz.prog 146 #[.int .i64 x] w _
 go_enter Tryz.func146, Tryz.ntmps146
 by_cases h : x = 0
 ·have hb : (x == 0) = true := by simpa using h
  have hd : decide (x = 0) = true := by simpa using h
  rw [hd]
  clear h hd
  go_wp2_with fail
  go_ret
  exact ⟨rfl, Below.refl _ _⟩
 ·have hb : (x == 0) = false := by simpa using h
  have hd : decide (x = 0) = false := by simpa using h
  rw [hd]
  clear h hd
  go_wp2_with fail
  go_ret
  exact ⟨rfl, Below.refl _ _⟩
set_option maxRecDepth 100000 in
set_option maxHeartbeats 16000000 in
theorem prog_least23 (N : Nat) (c : Int) (v rv : Value) (xs rs : List Int) (w : World) (hv : RL w.heap.size w v xs) (hr : RL w.heap.size w rv rs) (hok : OkZ N xs) (hN : N ≤ 3) (hnear : Near N xs) (hlr : rs.length = N) (hrb : ∀ k, k < N → -33554432 ≤ gi rs k ∧ gi rs k ≤ 33554432) (hcb : -4611686018427387904 ≤ c ∧ c ≤ 4611686018427387904) :
  Calls Tryz.prog 95 #[.agg #[.int .i64 N, v], .int .i64 c, rv] w fun e w' => LeR (∀ u, PI N xs u → 0 ≤ cS N xs c rs u N) e ∧ Below w.heap.size w w' := by
 obtain ⟨ao, cap, rfl, hle, -⟩ := hv.open
 obtain ⟨aor, capr, rfl, hler, h0r⟩ := hr.open
 rw [hlr] at h0r
 obtain ⟨n, hn⟩ : ∃ n, n = N + 1 := ⟨_, rfl⟩
 have hn1 : n ≤ N + 1 := by omega
 have hn2 : N + 1 ≤ n := by omega
 have hnw : IntKind.i64.wrap ((N : Int) + 1) = (n : Int) := by rw [wr_id (by omega) (by omega)]; omega
 have Hn := Lib.hid hn
 have Hv := Lib.hid hv
 have Hr := Lib.hid hr
 have H0r := Lib.hid h0r
 have Hnear := Lib.hid hnear
 have Hrb := Lib.hid hrb
 have Hlr := Lib.hid hlr
 rw [hlr]
 clear hv hr hnear hrb hn h0r hlr hler
 have hloc := Loc.one w (.cells #[.int .i64 N, .slice ao xs.length cap] 32) none
 have hbw := below_grownBy hloc.grown
 have hqz : (w.alloc (.cells #[.int .i64 N, .slice ao xs.length cap] 32)).heap[w.heap.size]? = some (.cells #[.int .i64 N, .slice ao xs.length cap] 32 (0, 0)) := hloc.objs 0 (by simp)
 clear hloc
 go_enter Tryz.func95, Tryz.ntmps95
 go_upto_region 1 with fail
 generalize (w.alloc (.cells #[.int .i64 N, .slice ao xs.length cap] 32)) = X1 at *
 have HW := Lib.hid hbw
 have HBz := Lib.hid hqz
 clear hbw hqz
 obtain ⟨i0, hi, hz0, hz1, hz2⟩ := info_parts Tryz.infL64
 have Hi := Lib.hid hi
 have Hz0 := Lib.hid hz0
 have Hz1 := Lib.hid hz1
 have Hz2 := Lib.hid hz2
 have hzl := hp_lt3 HBz.out
 clear hi hz0 hz1 hz2
 have z0 : X1.cell? ⟨w.heap.size, 0, none⟩ = some (.int .i64 N) := cell_of_row _ (w.heap.size) 0 _ _ _ HBz.out
 go_upto_region 3 with (refine wpList_make_full _ rfl (.tmp 22) (.tmp 22) 33 rfl (w.heap.size + 1) 2 i0 (.int .i64 0) 1 Tryz.undL64 Hi.out Hz0.out Hz1.out .i64 .i64 n n n rfl rfl rfl rfl ?_ ?_ ?_ ?_; (rw [Hz2.out]; omega); (unfold maxLen; omega); omega; (intro w2 hown hg))
 have hown2 : OL 2 (w.heap.size + 1) w2 (.slice (some ⟨X1.heap.size, 0, none⟩) n n) (List.replicate n 0) := by
  have e : (madeCells (Value.int .i64 0).cells (n * 1)).toList = (List.replicate n (0 : Int)).map (Value.int .i64) := by
   rw [Nat.mul_one]; show (madeCells #[Value.int .i64 0] n).toList = _
   rw [toList_madeCells_one, List.map_replicate]
  rw [e] at hown
  unfold OL
  simpa using hown
 have hb := below_grownBy hg
 have hrow := own_row hown2 (by simp)
 rw [List.map_replicate, ← lV_zero, ← ndK_zero rs] at hrow
 have hgz : w.heap.size < X1.heap.size := hzl
 clear hown hown2 hg hzl z0
 replace HBz := Lib.hid (hp_keep4 HBz.out hb)
 replace HW := Lib.hid (bt HW.out hb)
 clear hb
 generalize X1.heap.size = gn at *
 have HBn := Lib.hid hrow
 clear hrow Hi Hz0 Hz1 Hz2
 go_wp2_with fail
 go_loopw [1, 26] (fun s1 s26 wr => ∃ k : Nat, k ≤ N ∧ s26 = .int .i64 k ∧ s1 = .int .i64 (c0T N xs c rs k) ∧ wr.heap[w.heap.size]? = some (.cells #[.int .i64 N, .slice ao xs.length cap] 32 (0, 0)) ∧ wr.heap[gn]? = some (.cells (lV (ndK rs k) n).toArray 2 (0, 0)) ∧ Below w.heap.size w wr) (fun _ s _ => N - (intOf s).toNat)
 case atStart => exact ⟨0, Nat.zero_le _, rfl, rfl, HBz.out, HBn.out, HW.out⟩
 case round => as_aux_lemma =>
  clear HBz HBn HW
  obtain ⟨k, hk, rfl, rfl, h1, h2, h3⟩ := hrel
  have HBz := Lib.hid h1
  have HBn := Lib.hid h2
  have HW := Lib.hid h3
  clear h1 h2 h3
  obtain ⟨wa, hwx⟩ : ∃ V, V = wr := ⟨_, rfl⟩
  subst hwx
  by_cases hkN : k < N
  ·have htk : decide ((k : Int) < (N : Int)) = true := by simp; omega
   obtain ⟨bc, oc, rfl, hbc, hcc⟩ := H0r.out (by omega)
   obtain ⟨x, hx⟩ : ∃ x, gi rs k = x := ⟨_, rfl⟩
   have c0 : wa.cell? ⟨bc, oc + k, none⟩ = some (.int .i64 x) := by
    rw [← hx]; exact ((bcell HW.out).1 bc (oc + k) hbc).trans (hcc k hkN)
   have hxb := Hrb.out k hkN
   rw [hx] at hxb
   have k0 : (k : Int) < (N : Int) := by omega
   have k00 : (0 : Int) ≤ (k : Int) := by omega
   obtain ⟨k1, hk1⟩ : ∃ k1, k1 = k + 1 := ⟨_, rfl⟩
   have hkw : IntKind.i64.wrap ((k : Int) + 1) = (k1 : Int) := by rw [wr_id (by omega) (by omega)]; omega
   have k1n : k1 < n := by omega
   have k10 : (k1 : Int) < (n : Int) := by omega
   have k11 : (0 : Int) ≤ (k1 : Int) := by omega
   have k12 : (k1 : Int) ≤ N := by omega
   have n00 : (0 : Int) < (n : Int) := by omega
   obtain ⟨s, hs⟩ : ∃ s, sR rs k = s := ⟨_, rfl⟩
   have hsb := sR_bd Hrb.out k (by omega)
   rw [hs] at hsb
   have hnw2 : IntKind.i64.wrap (-s - x) = -s - x := wr_id (by omega) (by omega)
   obtain ⟨lo, hlo⟩ : ∃ l, lowF N xs k1 = l := ⟨_, rfl⟩
   have hlb : -67108864 ≤ lo ∧ lo ≤ 67108864 := by
    have n := Hnear.out 0 k1 (Nat.zero_le _) (by omega) (b_low hok (by omega)).1
    rw [← hlo]; unfold bF at n; unfold lowF; omega
   obtain ⟨cc, hcc2⟩ : ∃ q, c0T N xs c rs k = q := ⟨_, rfl⟩
   have hcb2 := c0T_bd (c := c) hN hok Hnear.out Hrb.out k (by omega)
   rw [hcc2] at hcb2
   have hpr := mul_rng (A := 33554432) (B := 67108864) hxb.1 hxb.2 hlb.1 hlb.2
   obtain ⟨pr, hpre⟩ : ∃ q, x * lo = q := ⟨_, rfl⟩
   rw [hpre] at hpr
   have hpx : IntKind.i64.wrap (x * lo) = pr := by rw [hpre]; exact wr_id (by omega) (by omega)
   have hpx2 : wrap64 (x * lo) = pr := (wrap_w64 _).trans hpx
   have hcw : IntKind.i64.wrap (cc - pr) = cc - pr := wr_id (by omega) (by omega)
   have hcw2 : wrap64 (cc - pr) = cc - pr := (wrap_w64 _).trans hcw
   have HC1 := Lib.hid (show c0T N xs c rs (k + 1) = cc - pr by
    show c0T N xs c rs k - gi rs k * lowF N xs (k + 1) = _
    rw [hcc2, hx, ← hk1, hlo, hpre])
   rw [hcc2]
   have HLo := Lib.hid hlo
   have hf1 := row_fro (k := k1) HBn.out
   have hc1 : wa.cell? ⟨gn, k1, none⟩ = some (.int .i64 (ndK rs k k1)) := row_at HBn.out (lV_at _ k1n)
   have Hq1 := Lib.hid (show (wa.setCell ⟨gn, k1, none⟩ (.int .i64 x)).heap[gn]? = some (.cells (lV (upI (ndK rs k) k1 x) n).toArray 2 (0, 0)) by
    rw [← lV_set]; exact row_set (k := k1) (v := .int .i64 x) HBn.out)
   have hf2 := row_fro (k := 0) Hq1.out
   have hc2 : (wa.setCell ⟨gn, k1, none⟩ (.int .i64 x)).cell? ⟨gn, 0, none⟩ = some (.int .i64 (-s)) := by
    have q := row_at Hq1.out (lV_at (upI (ndK rs k) k1 x) (M := n) (k := 0) (by omega))
    rw [upI_ne (by omega)] at q
    unfold ndK at q
    rw [if_pos rfl, hs] at q
    exact q
   have HR1 := Lib.hid (show ((wa.setCell ⟨gn, k1, none⟩ (.int .i64 x)).setCell ⟨gn, 0, none⟩ (.int .i64 (-s - x))).heap[gn]? = some (.cells (lV (ndK rs (k + 1)) n).toArray 2 (0, 0)) by
    rw [← ndK_next, hx, hs, ← hk1, ← lV_set]; exact row_set (k := 0) (v := .int .i64 (-s - x)) Hq1.out)
   have HR2 := Lib.hid (show ((wa.setCell ⟨gn, k1, none⟩ (.int .i64 x)).setCell ⟨gn, 0, none⟩ (.int .i64 (-s - x))).heap[w.heap.size]? = _ from (st1k_ne (b := gn) (i := 0) (c := w.heap.size) (.int .i64 (-s - x)) (by omega)).trans ((st1k_ne (w := wa) (b := gn) (i := k1) (c := w.heap.size) (.int .i64 x) (by omega)).trans HBz.out))
   have HR3 := Lib.hid ((HW.out.setCell (p := ⟨gn, k1, none⟩) (by show w.heap.size ≤ gn; omega) (.int .i64 x)).setCell (p := ⟨gn, 0, none⟩) (by show w.heap.size ≤ gn; omega) (.int .i64 (-s - x)))
   have HXw := Lib.hid (show Below w.heap.size w ((wa.setCell ⟨gn, k1, none⟩ (.int .i64 x)).setCell ⟨gn, 0, none⟩ (.int .i64 (-s - x))) from HR3.out)
   have k1a : k1 ≤ k + 1 := by omega
   have k1b : k + 1 ≤ k1 := by omega
   clear hx hk1 hs hlo hcc2 hpre HBz HBn HW hcc
   go_upto_region 8 with fail
   generalize (wa.setCell ⟨gn, k1, none⟩ (.int .i64 x)).setCell ⟨gn, 0, none⟩ (.int .i64 (-s - x)) = wb at *
   clear c0 hf1 hc1 Hq1 hf2 hc2
   have z0 : wb.cell? ⟨w.heap.size, 0, none⟩ = some (.int .i64 N) := cell_of_row _ (w.heap.size) 0 _ _ _ HR2.out
   have z1 : wb.cell? ⟨w.heap.size, 1, none⟩ = some (.slice ao xs.length cap) := cell_of_row _ (w.heap.size) 1 _ _ _ HR2.out
   go_wp2_with fail
   refine (prog_low N _ (k1 : Int) xs _ (Hv.out.keepb HXw.out) hok k11 k12).mono ?_
   rintro e w3 ⟨rfl, hb⟩
   rw [Int.toNat_natCast, HLo.out]
   have HT1 := Lib.hid (hp_keep4 HR1.out hb)
   have HT2 := Lib.hid (hp_keep4 HR2.out hb)
   have HT3 := Lib.hid (bt HR3.out hb)
   clear HR1 HR2 HR3 HXw hb z0 z1
   go_wp2_with fail
   go_roundw
   case rel =>
    obtain rfl : k1 = k + 1 := by omega
    exact ⟨k + 1, by omega, by first | rfl | go_num, by rw [HC1.out], HT2.out, HT1.out, HT3.out⟩
   case measure => simp [intOf]; omega
  have htk : decide ((k : Int) < (N : Int)) = false := by simp; omega
  have hkE : k = N := by omega
  obtain ⟨c0, hc0⟩ : ∃ q, c0T N xs c rs k = q := ⟨_, rfl⟩
  have HC0 := Lib.hid (show c0T N xs c rs N = c0 by have q := hc0; rw [hkE] at q; exact q)
  have hc0b : -4700000000000000000 ≤ c0 ∧ c0 ≤ 4700000000000000000 := by
   have q := c0T_bd (c := c) hN hok Hnear.out Hrb.out N (Nat.le_refl _)
   rw [HC0.out] at q
   have : (N : Int) ≤ 3 := by omega
   omega
  rw [hc0]
  have HBn2 := Lib.hid (show wa.heap[gn]? = some (.cells (lV (ndF N rs) n).toArray 2 (0, 0)) by
   rw [lV_congr (U := ndK rs N) (fun j hj => (ndK_all rs (by omega)).symm)]; have q := HBn.out; rw [hkE] at q; exact q)
  clear HBn hc0 hkE
  have HBn := Lib.hid HBn2.out
  clear HBn2
  go_upto_region 10 with fail
  have hba := (Below.refl _ wa).alloc (Nat.le_refl _) (.cells Tryz.zeroCells159 159)
  have hrm := heap_alloc_new wa (.cells Tryz.zeroCells159 159)
  have hmbz : w.heap.size < wa.heap.size := hp_lt3 HBz.out
  have hmbn : gn < wa.heap.size := hp_lt3 HBn.out
  have hq1 := hp_keep4 HBz.out hba
  have hq2 := hp_keep4 HBn.out hba
  have hq3 := bt HW.out hba
  go_upto_region 11 with fail
  clear hba HBz HBn HW
  generalize hgen : wa.alloc (.cells Tryz.zeroCells159 159) = wb at *
  clear hgen
  generalize hgen : wa.heap.size = mb at *
  clear hgen
  rw [zc159] at hrm
  have HBz := Lib.hid hq1
  have HBn := Lib.hid hq2
  have HW := Lib.hid hq3
  have HBm := Lib.hid hrm
  have hmgn : mb ≠ gn := by omega
  clear hq1 hq2 hq3 hrm
  have HI0 := Lib.hid (show Inv N xs (ndF N rs) c0 (gi (lst (ndF N rs) n)) (fun _ _ => 0) c0 from (Inv.start c0 hN Hnear.out Hrb.out).congr (fun k hk => lst_at _ (by omega)))
  have HBn2 := Lib.hid (show wb.heap[gn]? = some (.cells (lV (gi (lst (ndF N rs) n)) n).toArray 2 (0, 0)) by
   rw [lV_congr (U := ndF N rs) (fun j hj => lst_at _ hj)]; exact HBn.out)
  clear HBn
  go_loopw [1] (fun s1 wr => ∃ (nl : List Int) (mo : Nat → Nat → Int) (cc : Int), nl.length = n ∧ s1 = .int .i64 cc ∧ Inv N xs (ndF N rs) c0 (gi nl) mo cc ∧ wr.heap[w.heap.size]? = some (.cells #[.int .i64 N, .slice ao xs.length cap] 32 (0, 0)) ∧ wr.heap[gn]? = some (.cells (lV (gi nl) n).toArray 2 (0, 0)) ∧ wr.heap[mb]? = some (.cells (lV (fM (mo)) 121).toArray 159 (0, 0)) ∧ Below w.heap.size w wr) (fun _ wr => (posS N (fun j => gi (rdI wr gn n) j)).toNat)
  case atStart => exact ⟨_, _, c0, lst_len _ _, rfl, HI0.out, HBz.out, HBn2.out, HBm.out, HW.out⟩
  case round => as_aux_lemma =>
   clear HBz HBn2 HBm HW HI0
   obtain ⟨nl, mo, cc, hnl, rfl, hI, h1, h2, h3, h4⟩ := hrel
   have HBz := Lib.hid h1
   have HBn := Lib.hid h2
   have HBm := Lib.hid h3
   have HW := Lib.hid h4
   have HI := Lib.hid hI
   have Hnl := Lib.hid hnl
   clear h1 h2 h3 h4 hI hnl
   obtain ⟨wc, hwx⟩ : ∃ V, V = wr := ⟨_, rfl⟩
   subst hwx
   obtain ⟨h, d, rk, hF⟩ := HI.out.fnd hN Hnear.out
   have HF := Lib.hid hF
   clear hF
   have hmbl := hp_lt3 HBm.out
   have HRl := Lib.hid (rl_gi (by omega) Hnl.out HBn.out)
   have HMc := Lib.hid (show ∀ k i, k ≤ N → i ≤ N → wc.cell? ⟨mb, k * 11 + i, none⟩ = some (.int .i64 (mo k i)) from fun k i hk hi => by
    have q := row_at HBm.out (lV_at (fM mo) (M := 121) (k := k * 11 + i) (by omega))
    rwa [fM_at mo (by omega)] at q)
   have HNb := Lib.hid (show ∀ k, k ≤ N → -1073741824 ≤ gi nl k ∧ gi nl k ≤ 1073741824 from fun k hk => by have := need_bd HI.out hk; omega)
   have HMb := Lib.hid (show ∀ k i, k ≤ N → i ≤ N → 0 ≤ mo k i ∧ mo k i ≤ 1073741824 from fun k i hk hi => by
    have a := HI.out.nn k i (by omega) (by omega)
    have b := HI.out.bd k i (by omega) (by omega)
    have c := pos_nn N (gi nl)
    omega)
   have HMe := Lib.hid (show (posS N (fun j => gi (rdI wc gn n) j)) = posS N (gi nl) from pos_congr (fun j hj => rd_row HBn.out (by omega)))
   have z0 : wc.cell? ⟨w.heap.size, 0, none⟩ = some (.int .i64 N) := cell_of_row _ (w.heap.size) 0 _ _ _ HBz.out
   have z1 : wc.cell? ⟨w.heap.size, 1, none⟩ = some (.slice ao xs.length cap) := cell_of_row _ (w.heap.size) 1 _ _ _ HBz.out
   go_wp2_with fail
   refine (prog_path N _ _ xs nl mb mo rk _ (Hv.out.keepb HW.out) HRl.out hmbl HMc.out hok hN Hnear.out (by rw [Hnl.out]; exact Hn.out) HNb.out HMb.out HF.out.rk).mono ?_
   rintro e w3 ⟨he, hb⟩
   have HBz3 := Lib.hid (hp_keep4 HBz.out hb)
   have HBn3 := Lib.hid (hp_keep4 HBn.out hb)
   have HBm3 := Lib.hid (hp_keep4 HBm.out hb)
   have HW3 := Lib.hid (bt HW.out hb)
   have hszz := hb.size
   clear z0 z1 HBz HBn HBm HW HMc HRl hb
   rcases he with ⟨hE, rfl⟩ | ⟨hE, L, g, cg, hL, hgb, hgl, hgc, rfl⟩
   ·have HE := Lib.hid hE
    clear hE
    have HRl3 := Lib.hid (rl_gi (by omega) Hnl.out HBn3.out)
    have hnil : ∀ w, (binOp .eql 160 (.slice none 0 0) (.slice none 0 0)).run Tryz.prog w = .ok (.bool true) w := fun w => eql_nil none 0 0 w
    go_wp2_with fail
    refine (holds_I64 _ _ nl (fun x => decide (x = 0)) _ (RL.re HRl3.out) ⟨_, _, rfl, ents_zero, fun x _ w'' hw => test_zero x w''⟩).mono ?_
    rintro e w4 ⟨rfl, hb⟩
    have HW4 := Lib.hid (bt HW3.out hb)
    clear hb HBz3 HBn3 HBm3 HW3 HRl3
    obtain ⟨ba, hba⟩ : ∃ b, nl.all (fun x => decide (x = 0)) = b := ⟨_, rfl⟩
    rw [hba]
    have HP := Lib.hid (show (ba = true ∧ 0 ≤ cc) ↔ ∀ u, PI N xs u → 0 ≤ cS N xs c rs u N by
     have hall : ba = true ↔ ∀ i, i ≤ N → gi nl i = 0 := by
      rw [← hba, List.all_eq_true]
      constructor
      ·intro q i hi
       have q2 := q (gi nl i) (by rw [gi_of (by rw [Hnl.out]; omega)]; exact List.getElem_mem _)
       simpa using q2
      ·intro q x hx
       obtain ⟨i, hi, rfl⟩ := List.getElem_of_mem hx
       have q2 := q i (by rw [Hnl.out] at hi; omega)
       rw [gi_of hi] at q2
       simpa using q2
     by_cases hz : ∀ i, i ≤ N → gi nl i = 0
     ·have q := HI.out.least hok Hnear.out hz
      constructor
      ·intro h u hu
       rw [cS_nd hu.1, HC0.out]
       exact q.1 h.2 u hu
      ·intro h
       refine ⟨hall.2 hz, q.2 (fun u hu => ?_)⟩
       have := h u hu
       rwa [cS_nd hu.1, HC0.out] at this
     ·have f := HI.out.falls hok Hnear.out HF.out HE.out hz
      constructor
      ·intro h; exact absurd (hall.1 h.1) hz
      ·intro h; exact absurd h (fall_no hok f))
    clear hba
    go_wp2_with fail
    go_ret2
    exact ⟨LeR.mk HP.out, HW4.out⟩
   ·skip
    obtain ⟨len, hlen⟩ : ∃ q, L.length = q := ⟨_, rfl⟩
    obtain ⟨wy, hwy⟩ : ∃ f : Nat → Nat, (fun t => nd L.reverse t / 2) = f := ⟨_, rfl⟩
    obtain ⟨amt, hamt⟩ : ∃ a, amT (gi nl) mo wy len ((len - 1) / 2) = a := ⟨_, rfl⟩
    obtain ⟨pr, hpr⟩ : ∃ q, (pthS N xs (gi nl) mo).1 (endT (gi nl) (pthS N xs (gi nl) mo).1 (N + 1)).toNat = q := ⟨_, rfl⟩
    obtain ⟨hWy, hLl⟩ := HF.out.way Hnear.out hE hL
    rw [hlen, hwy] at hWy
    rw [hlen] at hLl
    have HWc := Lib.hid (show ∀ t, t < len → w3.cell? ⟨g, t, none⟩ = some (.int .i64 ((wy t : Nat) : Int)) from fun t ht => by
     have q := hgc t (by rw [hlen]; exact ht)
     rw [q, ← hwy])
    have hAle := am_le (gi nl) mo wy len ((len - 1) / 2)
    have hApos := am_pos (need := gi nl) (mo := mo) hWy.fst.1 hWy.lst.1 ((len - 1) / 2) (fun t ht => (hWy.od (2 * t + 1) (by omega) (by omega)).1)
    rw [hamt] at hAle hApos
    have hA4 : ∀ t, t + 1 < len → t % 2 = 1 → amt ≤ mo (wy (t + 1)) (wy t) := fun t ht h1 => by
     have q := hAle.2.2 (t / 2) (by have := hWy.two; omega)
     rw [show 2 * (t / 2) + 2 = t + 1 by omega, show 2 * (t / 2) + 1 = t by omega] at q
     exact q
    have hSt := HI.out.step Hnear.out HF.out hWy (amt := amt) (by omega) hAle.1 hAle.2.1 hA4
    rw [hpr] at hSt
    have hprb : -19327352832 ≤ pr ∧ pr ≤ 19327352832 := by
     have q := HF.out.bd (endT (gi nl) (pthS N xs (gi nl) mo).1 (N + 1)).toNat
     rw [hpr] at q
     rcases q with q | q
     ·exfalso
      have g := hWy.gt (len - 1) (by have := hWy.two; omega)
      have l := hWy.lst.2
      rw [show (len - 1) % 2 = 1 by have := hWy.two; omega, ← l, hpr] at g
      omega
     ·exact q
    have hamb : 1 ≤ amt ∧ amt ≤ 268435456 := by
     have b := need_bd HI.out (hWy.le (len - 1) (by have := hWy.two; omega))
     omega
    have hprod := mul_rng (A := 19327352832) (B := 268435456) hprb.1 hprb.2 (show -268435456 ≤ amt by omega) hamb.2
    have hvb := val_bd hN Hnear.out hSt.1
    have HMv := Lib.hid (show ∀ s, s < len → ∀ k i, k ≤ N → i ≤ N → 0 ≤ movT wy amt mo s k i ∧ movT wy amt mo s k i ≤ 1073741824 from fun s hs k i hk hi => by
     have q := mov_bd (by omega) (n := N + 1) (fun t ht => by have := hWy.le t ht; omega) HI.out.nn hWy.dis hA4 s hs
     have a := q.1 k i (by omega) (by omega)
     have b := (q.2.2.1 k i).1
     have c := (HMb.out k i hk hi).2
     have d := HI.out.bd k i (by omega) (by omega)
     have e := pos_nn N (gi nl)
     omega)
    have HStp := Lib.hid hSt
    have HWy := Lib.hid hWy
    have hl2 := hWy.two.1
    have hl9 : len ≤ 9 := by omega
    have hgmb : mb < g := by omega
    have hggn : gn < g := by omega
    have hgw : w.heap.size < g := by omega
    obtain ⟨pa, hpa⟩ : ∃ q, pr * amt = q := ⟨_, rfl⟩
    rw [hpa] at hprod hvb
    have hpw : IntKind.i64.wrap (pr * amt) = pa := by rw [hpa]; exact wr_id (by omega) (by omega)
    have hpw2 : wrap64 (pr * amt) = pa := (wrap_w64 _).trans hpw
    have hcw : IntKind.i64.wrap (cc - pa) = cc - pa := wr_id (by omega) (by omega)
    have hcw2 : wrap64 (cc - pa) = cc - pa := (wrap_w64 _).trans hcw
    have HPa := Lib.hid hpa
    have hnil : ∀ w, (binOp .eql 160 (.slice (some ⟨g, 0, none⟩) len cg) (.slice none 0 0)).run Tryz.prog w = .ok (.bool false) w := fun w => eql_nil (some ⟨g, 0, none⟩) len cg w
    rw [hlen, hwy, hamt, hpr]
    obtain ⟨l1, hl1⟩ : ∃ l, l = len - 1 := ⟨_, rfl⟩
    have hl1w : IntKind.i64.wrap ((len : Int) - 1) = (l1 : Int) := by rw [wr_id (by omega) (by omega)]; omega
    have hl1a : l1 + 1 ≤ len := by omega
    have hl1b : len ≤ l1 + 1 := by omega
    clear hlen hwy hamt hpr hWy hLl hgc hAle hApos hA4 hSt hprb hprod hvb hpa hE hL hl1
    go_upto_region 13 with fail
    clear hnil
    go_wp2_with fail
    go_loopw [63] (fun s63 wr => ∃ s : Nat, s ≤ l1 ∧ s63 = .int .i64 s ∧ wr.heap[w.heap.size]? = some (.cells #[.int .i64 N, .slice ao xs.length cap] 32 (0, 0)) ∧ wr.heap[gn]? = some (.cells (lV (gi nl) n).toArray 2 (0, 0)) ∧ wr.heap[mb]? = some (.cells (lV (fM (movT wy amt mo s)) 121).toArray 159 (0, 0)) ∧ (∀ t, t < len → wr.cell? ⟨g, t, none⟩ = some (.int .i64 ((wy t : Nat) : Int))) ∧ Below w.heap.size w wr) (fun s _ => l1 - (intOf s).toNat)
    case atStart => exact ⟨0, Nat.zero_le _, rfl, HBz3.out, HBn3.out, HBm3.out, HWc.out, HW3.out⟩
    case round => as_aux_lemma =>
     clear HBz3 HBn3 HBm3 HWc HW3
     obtain ⟨s, hs, rfl, h1, h2, h3, h4, h5⟩ := hrel
     have HBz := Lib.hid h1
     have HBn := Lib.hid h2
     have HBm := Lib.hid h3
     have HWc := Lib.hid h4
     have HW := Lib.hid h5
     clear h1 h2 h3 h4 h5
     obtain ⟨wd, hwx⟩ : ∃ V, V = wr := ⟨_, rfl⟩
     subst hwx
     by_cases hsl : s < l1
     ·have hsd : decide ((s : Int) < (l1 : Int)) = true := by simp; omega
      obtain ⟨s1, hs1⟩ : ∃ q, q = s + 1 := ⟨_, rfl⟩
      have hs1w : IntKind.i64.wrap ((s : Int) + 1) = (s1 : Int) := by rw [wr_id (by omega) (by omega)]; omega
      obtain ⟨a, ha⟩ : ∃ q, wy s = q := ⟨_, rfl⟩
      obtain ⟨b, hb2⟩ : ∃ q, wy s1 = q := ⟨_, rfl⟩
      have haN : a ≤ N := by rw [← ha]; exact HWy.out.le s (by omega)
      have hbN : b ≤ N := by rw [← hb2]; exact HWy.out.le s1 (by omega)
      have d0 : wd.cell? ⟨g, s, none⟩ = some (.int .i64 (a : Int)) := by rw [← ha]; exact HWc.out s (by omega)
      have d1 : wd.cell? ⟨g, s1, none⟩ = some (.int .i64 (b : Int)) := by rw [← hb2]; exact HWc.out s1 (by omega)
      have c00 : (s : Int) < (len : Int) := by omega
      have c01 : (0 : Int) ≤ (s : Int) := by omega
      have c02 : (s1 : Int) < (len : Int) := by omega
      have c03 : (0 : Int) ≤ (s1 : Int) := by omega
      have a11 : (a : Int) < 11 := by omega
      have a00 : (0 : Int) ≤ (a : Int) := by omega
      have b11 : (b : Int) < 11 := by omega
      have b00 : (0 : Int) ≤ (b : Int) := by omega
      have HMs := Lib.hid (HMv.out s (by omega))
      have HSe := Lib.hid (show s % 2 = 0 → movT wy amt mo (s + 1) = upd2 (movT wy amt mo s) a b (movT wy amt mo s a b + amt) from fun q => by
       show (if s % 2 = 0 then _ else _) = _
       rw [if_pos q, ← hs1, ha, hb2])
      have HSo := Lib.hid (show ¬ s % 2 = 0 → movT wy amt mo (s + 1) = upd2 (movT wy amt mo s) b a (movT wy amt mo s b a - amt) from fun q => by
       show (if s % 2 = 0 then _ else _) = _
       rw [if_neg q, ← hs1, ha, hb2])
      have s1a : s1 ≤ s + 1 := by omega
      have s1b : s + 1 ≤ s1 := by omega
      clear ha hb2 hs1
      go_upto_region 16 with fail
      go_cut [17, 18] (fun s17 s18 wx => s17 = .int .i64 (a : Int) ∧ s18 = .int .i64 (b : Int) ∧ wx = wd.drew)
      case first => as_aux_lemma =>
       refine wp_region_noPanic ?_
       refine wp_region_held_drew (S := (fun w' => w'.cell? ⟨g, s, none⟩ = some (.int .i64 (a : Int)) ∧ w'.cell? ⟨g, s1, none⟩ = some (.int .i64 (b : Int)))) (by kernel_rfl) ⟨d0, d1⟩ (fun hHeld => ?_)
       refine wpAnyH_take (i := 0) (v := ?_) rfl (by kernel_rfl) (by kernel_rfl) (by kernel_rfl) (fun _ _ _ h => h) (Or.inl ⟨by rfl, ?_⟩) (by assumption) ?_
       rotate_left
       ·intro w hSw; (try dsimp only at hSw); go_simp; (try with_reducible rfl)
       try simp only [Act.put, List.getElem_toArray, List.getElem_cons_zero, List.setIfInBounds_toArray, List.set_cons_zero, List.set_cons_succ]
       refine wpAnyH_take (i := 1) (v := ?_) rfl (by kernel_rfl) (by kernel_rfl) (by kernel_rfl) (fun _ _ _ h => h) (Or.inl ⟨by rfl, ?_⟩) (by assumption) ?_
       rotate_left
       ·intro w hSw; (try dsimp only at hSw); go_simp; (try with_reducible rfl)
       try simp only [Act.put, List.getElem_toArray, List.getElem_cons_zero, List.getElem_cons_succ, List.setIfInBounds_toArray, List.set_cons_zero, List.set_cons_succ]
       refine wpAnyH_take (i := 2) (v := ?_) rfl (by kernel_rfl) (by kernel_rfl) (by kernel_rfl) (fun _ _ _ h => h) (Or.inl ⟨by rfl, ?_⟩) (by assumption) ?_
       rotate_left
       ·intro w hSw; (try dsimp only at hSw); go_simp; (try with_reducible rfl)
       try simp only [Act.put, List.getElem_toArray, List.getElem_cons_zero, List.getElem_cons_succ, List.setIfInBounds_toArray, List.set_cons_zero, List.set_cons_succ]
       refine wpAnyH_take (i := 3) (v := ?_) rfl (by kernel_rfl) (by kernel_rfl) (by kernel_rfl) (fun _ _ _ h => h) (Or.inl ⟨by rfl, ?_⟩) (by assumption) ?_
       rotate_left
       ·intro w hSw; (try dsimp only at hSw); go_simp; (try with_reducible rfl)
       try simp only [Act.put, List.getElem_toArray, List.getElem_cons_zero, List.getElem_cons_succ, List.setIfInBounds_toArray, List.set_cons_zero, List.set_cons_succ]
       refine wpAnyH_take (i := 4) (v := ?_) rfl (by kernel_rfl) (by kernel_rfl) (by kernel_rfl) (fun _ _ _ h => h) (Or.inl ⟨by rfl, ?_⟩) (by assumption) ?_
       rotate_left
       ·intro w hSw; (try dsimp only at hSw); go_simp; (try with_reducible rfl)
       try simp only [Act.put, List.getElem_toArray, List.getElem_cons_zero, List.getElem_cons_succ, List.setIfInBounds_toArray, List.set_cons_zero, List.set_cons_succ]
       refine wpAnyH_take (i := 5) (v := ?_) rfl (by kernel_rfl) (by kernel_rfl) (by kernel_rfl) (fun _ _ _ h => h) (Or.inl ⟨by rfl, ?_⟩) (by assumption) ?_
       rotate_left
       ·intro w hSw; (try dsimp only at hSw); go_simp; (try with_reducible rfl)
       try simp only [Act.put, List.getElem_toArray, List.getElem_cons_zero, List.getElem_cons_succ, List.setIfInBounds_toArray, List.set_cons_zero, List.set_cons_succ]
       refine wpAnyH_take (i := 6) (v := ?_) rfl (by kernel_rfl) (by kernel_rfl) (by kernel_rfl) (fun _ _ _ h => h) (Or.inl ⟨by rfl, ?_⟩) (by assumption) ?_
       rotate_left
       ·intro w hSw; (try dsimp only at hSw); go_simp; (try with_reducible rfl)
       try simp only [Act.put, List.getElem_toArray, List.getElem_cons_zero, List.getElem_cons_succ, List.setIfInBounds_toArray, List.set_cons_zero, List.set_cons_succ]
       try simp only [hs1w]
       refine wpAnyH_take (i := 7) (v := ?_) rfl (by kernel_rfl) (by kernel_rfl) (by kernel_rfl) (fun _ _ _ h => h) (Or.inl ⟨by rfl, ?_⟩) (by assumption) ?_
       rotate_left
       ·intro w hSw; (try dsimp only at hSw); go_simp; (try with_reducible rfl)
       try simp only [Act.put, List.getElem_toArray, List.getElem_cons_zero, List.getElem_cons_succ, List.setIfInBounds_toArray, List.set_cons_zero, List.set_cons_succ]
       refine wpAnyH_take (i := 8) (v := ?_) rfl (by kernel_rfl) (by kernel_rfl) (by kernel_rfl) (fun _ _ _ h => h) (Or.inl ⟨by rfl, ?_⟩) (by assumption) ?_
       rotate_left
       ·intro w hSw; (try dsimp only at hSw); go_simp; (try with_reducible rfl)
       try simp only [Act.put, List.getElem_toArray, List.getElem_cons_zero, List.getElem_cons_succ, List.setIfInBounds_toArray, List.set_cons_zero, List.set_cons_succ]
       refine wpAnyH_take (i := 9) (v := ?_) rfl (by kernel_rfl) (by kernel_rfl) (by kernel_rfl) (fun _ _ _ h => h) (Or.inl ⟨by rfl, ?_⟩) (by assumption) ?_
       rotate_left
       ·intro w hSw; (try dsimp only at hSw); go_simp; (try with_reducible rfl)
       try simp only [Act.put, List.getElem_toArray, List.getElem_cons_zero, List.getElem_cons_succ, List.setIfInBounds_toArray, List.set_cons_zero, List.set_cons_succ]
       refine wpAnyH_take (i := 10) (v := ?_) rfl (by kernel_rfl) (by kernel_rfl) (by kernel_rfl) (fun _ _ _ h => h) (Or.inl ⟨by rfl, ?_⟩) (by assumption) ?_
       rotate_left
       ·intro w hSw; (try dsimp only at hSw); go_simp; (try with_reducible rfl)
       try simp only [Act.put, List.getElem_toArray, List.getElem_cons_zero, List.getElem_cons_succ, List.setIfInBounds_toArray, List.set_cons_zero, List.set_cons_succ]
       refine wpAnyH_done (by kernel_rfl) ?_ _
       refine NoPanic.normal ?_
       go_wp2_with fail
       go_meet
       exact ⟨rfl, rfl, rfl⟩
      case rest => as_aux_lemma =>
       obtain ⟨rfl, rfl, hwc⟩ := hcut
       subst hwc
       have h1 : wd.drew.heap[w.heap.size]? = some (.cells #[.int .i64 N, .slice ao xs.length cap] 32 (0, 0)) := HBz.out
       have h2 : wd.drew.heap[gn]? = some (.cells (lV (gi nl) n).toArray 2 (0, 0)) := HBn.out
       have h3 : wd.drew.heap[mb]? = some (.cells (lV (fM (movT wy amt mo s)) 121).toArray 159 (0, 0)) := HBm.out
       have h4 : ∀ t, t < len → wd.drew.cell? ⟨g, t, none⟩ = some (.int .i64 ((wy t : Nat) : Int)) := HWc.out
       have h5 : Below w.heap.size w wd.drew := HW.out.drew
       clear d0 d1 HBz HBn HBm HWc HW
       generalize wd.drew = wd at *
       have HBz := Lib.hid h1
       have HBn := Lib.hid h2
       have HBm := Lib.hid h3
       have HWc := Lib.hid h4
       have HW := Lib.hid h5
       clear h1 h2 h3 h4 h5 hs1w
       have HPar := Lib.hid (tm_mod s 1)
       by_cases hpe : s % 2 = 0
       ·have hpb : ((s : Int) % 2 == 0) = true := by simp; omega
        obtain ⟨m, hm⟩ : ∃ q, movT wy amt mo s a b = q := ⟨_, rfl⟩
        have hmb2 := HMs.out a b (by omega) (by omega)
        rw [hm] at hmb2
        have hSn := HSe.out hpe
        rw [hm] at hSn
        obtain ⟨m2, hm2⟩ : ∃ q, q = m + amt := ⟨_, rfl⟩
        have hmw : IntKind.i64.wrap (m + amt) = m2 := by rw [wr_id (by omega) (by omega)]; exact hm2.symm
        obtain ⟨ix, hix⟩ : ∃ q, q = a * 11 + b := ⟨_, rfl⟩
        have hcm : wd.cell? ⟨mb, a * 11 + b, none⟩ = some (.int .i64 m) := by
         have q := row_at HBm.out (lV_at (fM (movT wy amt mo s)) (M := 121) (k := a * 11 + b) (by omega))
         rwa [fM_at _ (by omega), hm] at q
        have hfm : wd.frozen? ⟨mb, a * 11 + b, none⟩ = false := row_fro (k := a * 11 + b) HBm.out
        have HR1 := Lib.hid (show (wd.drew.setCell ⟨mb, a * 11 + b, none⟩ (.int .i64 m2)).heap[mb]? = some (.cells (lV (fM (movT wy amt mo (s + 1))) 121).toArray 159 (0, 0)) by
         rw [hSn, ← hm2, ← fM_upd _ _ (by omega), ← lV_set]; exact row_set (k := a * 11 + b) (v := .int .i64 m2) (show wd.drew.heap[mb]? = _ from HBm.out))
        have HR2 := Lib.hid (show (wd.drew.setCell ⟨mb, a * 11 + b, none⟩ (.int .i64 m2)).heap[gn]? = some (.cells (lV (gi nl) n).toArray 2 (0, 0)) from (st1k_ne (w := wd.drew) (b := mb) (i := a * 11 + b) (c := gn) (.int .i64 m2) (by omega)).trans HBn.out)
        have HR3 := Lib.hid (show (wd.drew.setCell ⟨mb, a * 11 + b, none⟩ (.int .i64 m2)).heap[w.heap.size]? = some (.cells #[.int .i64 N, .slice ao xs.length cap] 32 (0, 0)) from (st1k_ne (w := wd.drew) (b := mb) (i := a * 11 + b) (c := w.heap.size) (.int .i64 m2) (by omega)).trans HBz.out)
        have HR4 := Lib.hid (show Below w.heap.size w (wd.drew.setCell ⟨mb, a * 11 + b, none⟩ (.int .i64 m2)) from HW.out.drew.setCell (p := ⟨mb, a * 11 + b, none⟩) (by show w.heap.size ≤ mb; omega) (.int .i64 m2))
        have HR5 := Lib.hid (show ∀ t, t < len → (wd.drew.setCell ⟨mb, a * 11 + b, none⟩ (.int .i64 m2)).cell? ⟨g, t, none⟩ = some (.int .i64 ((wy t : Nat) : Int)) from fun t ht => by
         rw [← HWc.out t ht]
         exact cell_of_heap (st1k_ne (w := wd.drew) (b := mb) (i := a * 11 + b) (c := g) (.int .i64 m2) (by omega)) t)
        clear hm hSn hm2 hix HBz HBn HBm HWc HW HSe HSo HMs
        go_upto_region 18 with fail
        refine wp_region_noPanic ?_
        refine wp_region_U (S := (fun w' => w'.cell? ⟨mb, a * 11 + b, none⟩ = some (.int .i64 m))) (k := 9) (by kernel_rfl) hcm (fun hHeld => ?_)
        refine wpAnyU_take (i := 0) (v := ?_) rfl (by kernel_rfl) (by kernel_rfl) (by kernel_rfl) (by kernel_rfl) (by kernel_rfl) (by kernel_rfl) (fun _ _ _ h => h) (Or.inl ⟨by rfl, ?_⟩) (by assumption) ?_
        rotate_left
        ·intro w hSw; (try dsimp only at hSw); go_simp; (try with_reducible rfl)
        try simp only [Act.put, List.getElem_toArray, List.getElem_cons_zero, List.setIfInBounds_toArray, List.set_cons_zero, List.set_cons_succ]
        refine wpAnyU_take (i := 1) (v := ?_) rfl (by kernel_rfl) (by kernel_rfl) (by kernel_rfl) (by kernel_rfl) (by kernel_rfl) (by kernel_rfl) (fun _ _ _ h => h) (Or.inl ⟨by rfl, ?_⟩) (by assumption) ?_
        rotate_left
        ·intro w hSw; (try dsimp only at hSw); go_simp; (try with_reducible rfl)
        try simp only [Act.put, List.getElem_toArray, List.getElem_cons_zero, List.getElem_cons_succ, List.setIfInBounds_toArray, List.set_cons_zero, List.set_cons_succ]
        refine wpAnyU_take (i := 2) (v := ?_) rfl (by kernel_rfl) (by kernel_rfl) (by kernel_rfl) (by kernel_rfl) (by kernel_rfl) (by kernel_rfl) (fun _ _ _ h => h) (Or.inl ⟨by rfl, ?_⟩) (by assumption) ?_
        rotate_left
        ·intro w hSw; (try dsimp only at hSw); go_simp; (try with_reducible rfl)
        try simp only [Act.put, List.getElem_toArray, List.getElem_cons_zero, List.getElem_cons_succ, List.setIfInBounds_toArray, List.set_cons_zero, List.set_cons_succ]
        refine wpAnyU_take (i := 3) (v := ?_) rfl (by kernel_rfl) (by kernel_rfl) (by kernel_rfl) (by kernel_rfl) (by kernel_rfl) (by kernel_rfl) (fun _ _ _ h => h) (Or.inl ⟨by rfl, ?_⟩) (by assumption) ?_
        rotate_left
        ·intro w hSw; (try dsimp only at hSw); go_simp; (try with_reducible rfl)
        try simp only [Act.put, List.getElem_toArray, List.getElem_cons_zero, List.getElem_cons_succ, List.setIfInBounds_toArray, List.set_cons_zero, List.set_cons_succ]
        refine wpAnyU_take (i := 4) (v := ?_) rfl (by kernel_rfl) (by kernel_rfl) (by kernel_rfl) (by kernel_rfl) (by kernel_rfl) (by kernel_rfl) (fun _ _ _ h => h) (Or.inl ⟨by rfl, ?_⟩) (by assumption) ?_
        rotate_left
        ·intro w hSw; (try dsimp only at hSw); go_simp; (try with_reducible rfl)
        try simp only [Act.put, List.getElem_toArray, List.getElem_cons_zero, List.getElem_cons_succ, List.setIfInBounds_toArray, List.set_cons_zero, List.set_cons_succ]
        refine wpAnyU_take (i := 5) (v := ?_) rfl (by kernel_rfl) (by kernel_rfl) (by kernel_rfl) (by kernel_rfl) (by kernel_rfl) (by kernel_rfl) (fun _ _ _ h => h) (Or.inl ⟨by rfl, ?_⟩) (by assumption) ?_
        rotate_left
        ·intro w hSw; (try dsimp only at hSw); go_simp; (try with_reducible rfl)
        try simp only [Act.put, List.getElem_toArray, List.getElem_cons_zero, List.getElem_cons_succ, List.setIfInBounds_toArray, List.set_cons_zero, List.set_cons_succ]
        refine wpAnyU_take (i := 6) (v := ?_) rfl (by kernel_rfl) (by kernel_rfl) (by kernel_rfl) (by kernel_rfl) (by kernel_rfl) (by kernel_rfl) (fun _ _ _ h => h) (Or.inl ⟨by rfl, ?_⟩) (by assumption) ?_
        rotate_left
        ·intro w hSw; (try dsimp only at hSw); go_simp; (try with_reducible rfl)
        try simp only [Act.put, List.getElem_toArray, List.getElem_cons_zero, List.getElem_cons_succ, List.setIfInBounds_toArray, List.set_cons_zero, List.set_cons_succ]
        try simp only [hmw]
        refine wpAnyU_take (i := 7) (v := ?_) rfl (by kernel_rfl) (by kernel_rfl) (by kernel_rfl) (by kernel_rfl) (by kernel_rfl) (by kernel_rfl) (fun _ _ _ h => h) (Or.inl ⟨by rfl, ?_⟩) (by assumption) ?_
        rotate_left
        ·intro w hSw; (try dsimp only at hSw); go_simp; (try with_reducible rfl)
        try simp only [Act.put, List.getElem_toArray, List.getElem_cons_zero, List.getElem_cons_succ, List.setIfInBounds_toArray, List.set_cons_zero, List.set_cons_succ]
        refine wpAnyU_take (i := 8) (v := ?_) rfl (by kernel_rfl) (by kernel_rfl) (by kernel_rfl) (by kernel_rfl) (by kernel_rfl) (by kernel_rfl) (fun _ _ _ h => h) (Or.inl ⟨by rfl, ?_⟩) (by assumption) ?_
        rotate_left
        ·intro w hSw; (try dsimp only at hSw); go_simp; (try with_reducible rfl)
        try simp only [Act.put, List.getElem_toArray, List.getElem_cons_zero, List.getElem_cons_succ, List.setIfInBounds_toArray, List.set_cons_zero, List.set_cons_succ]
        refine wpAnyU_ready (rs := [9]) (by kernel_rfl) (by simp) ?_
        refine AllReadyU.past rfl (by kernel_rfl) (fun K hK => ?_) AllReadyU.nil
        go_simp
        refine hK.out _ _ ?_
        clear hK K
        try simp only [Act.put, List.getElem_toArray, List.getElem_cons_zero, List.getElem_cons_succ, List.setIfInBounds_toArray, List.set_cons_zero, List.set_cons_succ]
        refine wpAnyU_done (by kernel_rfl) ?_ _
        refine NoPanic.normal ?_
        clear hcm hfm
        go_wp2_with fail
        go_roundw
        case rel =>
         obtain rfl : s1 = s + 1 := by omega
         exact ⟨s + 1, by omega, by first | rfl | go_num, HR3.out, HR2.out, HR1.out, HR5.out, HR4.out⟩
        case measure => simp [intOf]; omega
       ·have hpb : ((s : Int) % 2 == 0) = false := by simp; omega
        obtain ⟨m, hm⟩ : ∃ q, movT wy amt mo s b a = q := ⟨_, rfl⟩
        have hmb2 := HMs.out b a (by omega) (by omega)
        rw [hm] at hmb2
        have hSn := HSo.out hpe
        rw [hm] at hSn
        obtain ⟨m2, hm2⟩ : ∃ q, q = m - amt := ⟨_, rfl⟩
        have hmw : IntKind.i64.wrap (m - amt) = m2 := by rw [wr_id (by omega) (by omega)]; exact hm2.symm
        obtain ⟨ix, hix⟩ : ∃ q, q = b * 11 + a := ⟨_, rfl⟩
        have hcm : wd.cell? ⟨mb, b * 11 + a, none⟩ = some (.int .i64 m) := by
         have q := row_at HBm.out (lV_at (fM (movT wy amt mo s)) (M := 121) (k := b * 11 + a) (by omega))
         rwa [fM_at _ (by omega), hm] at q
        have hfm : wd.frozen? ⟨mb, b * 11 + a, none⟩ = false := row_fro (k := b * 11 + a) HBm.out
        have HR1 := Lib.hid (show (wd.drew.setCell ⟨mb, b * 11 + a, none⟩ (.int .i64 m2)).heap[mb]? = some (.cells (lV (fM (movT wy amt mo (s + 1))) 121).toArray 159 (0, 0)) by
         rw [hSn, ← hm2, ← fM_upd _ _ (by omega), ← lV_set]; exact row_set (k := b * 11 + a) (v := .int .i64 m2) (show wd.drew.heap[mb]? = _ from HBm.out))
        have HR2 := Lib.hid (show (wd.drew.setCell ⟨mb, b * 11 + a, none⟩ (.int .i64 m2)).heap[gn]? = some (.cells (lV (gi nl) n).toArray 2 (0, 0)) from (st1k_ne (w := wd.drew) (b := mb) (i := b * 11 + a) (c := gn) (.int .i64 m2) (by omega)).trans HBn.out)
        have HR3 := Lib.hid (show (wd.drew.setCell ⟨mb, b * 11 + a, none⟩ (.int .i64 m2)).heap[w.heap.size]? = some (.cells #[.int .i64 N, .slice ao xs.length cap] 32 (0, 0)) from (st1k_ne (w := wd.drew) (b := mb) (i := b * 11 + a) (c := w.heap.size) (.int .i64 m2) (by omega)).trans HBz.out)
        have HR4 := Lib.hid (show Below w.heap.size w (wd.drew.setCell ⟨mb, b * 11 + a, none⟩ (.int .i64 m2)) from HW.out.drew.setCell (p := ⟨mb, b * 11 + a, none⟩) (by show w.heap.size ≤ mb; omega) (.int .i64 m2))
        have HR5 := Lib.hid (show ∀ t, t < len → (wd.drew.setCell ⟨mb, b * 11 + a, none⟩ (.int .i64 m2)).cell? ⟨g, t, none⟩ = some (.int .i64 ((wy t : Nat) : Int)) from fun t ht => by
         rw [← HWc.out t ht]
         exact cell_of_heap (st1k_ne (w := wd.drew) (b := mb) (i := b * 11 + a) (c := g) (.int .i64 m2) (by omega)) t)
        clear hm hSn hm2 hix HBz HBn HBm HWc HW HSe HSo HMs
        go_upto_region 19 with fail
        refine wp_region_noPanic ?_
        refine wp_region_U (S := (fun w' => w'.cell? ⟨mb, b * 11 + a, none⟩ = some (.int .i64 m))) (k := 9) (by kernel_rfl) hcm (fun hHeld => ?_)
        refine wpAnyU_take (i := 0) (v := ?_) rfl (by kernel_rfl) (by kernel_rfl) (by kernel_rfl) (by kernel_rfl) (by kernel_rfl) (by kernel_rfl) (fun _ _ _ h => h) (Or.inl ⟨by rfl, ?_⟩) (by assumption) ?_
        rotate_left
        ·intro w hSw; (try dsimp only at hSw); go_simp; (try with_reducible rfl)
        try simp only [Act.put, List.getElem_toArray, List.getElem_cons_zero, List.setIfInBounds_toArray, List.set_cons_zero, List.set_cons_succ]
        refine wpAnyU_take (i := 1) (v := ?_) rfl (by kernel_rfl) (by kernel_rfl) (by kernel_rfl) (by kernel_rfl) (by kernel_rfl) (by kernel_rfl) (fun _ _ _ h => h) (Or.inl ⟨by rfl, ?_⟩) (by assumption) ?_
        rotate_left
        ·intro w hSw; (try dsimp only at hSw); go_simp; (try with_reducible rfl)
        try simp only [Act.put, List.getElem_toArray, List.getElem_cons_zero, List.getElem_cons_succ, List.setIfInBounds_toArray, List.set_cons_zero, List.set_cons_succ]
        refine wpAnyU_take (i := 2) (v := ?_) rfl (by kernel_rfl) (by kernel_rfl) (by kernel_rfl) (by kernel_rfl) (by kernel_rfl) (by kernel_rfl) (fun _ _ _ h => h) (Or.inl ⟨by rfl, ?_⟩) (by assumption) ?_
        rotate_left
        ·intro w hSw; (try dsimp only at hSw); go_simp; (try with_reducible rfl)
        try simp only [Act.put, List.getElem_toArray, List.getElem_cons_zero, List.getElem_cons_succ, List.setIfInBounds_toArray, List.set_cons_zero, List.set_cons_succ]
        refine wpAnyU_take (i := 3) (v := ?_) rfl (by kernel_rfl) (by kernel_rfl) (by kernel_rfl) (by kernel_rfl) (by kernel_rfl) (by kernel_rfl) (fun _ _ _ h => h) (Or.inl ⟨by rfl, ?_⟩) (by assumption) ?_
        rotate_left
        ·intro w hSw; (try dsimp only at hSw); go_simp; (try with_reducible rfl)
        try simp only [Act.put, List.getElem_toArray, List.getElem_cons_zero, List.getElem_cons_succ, List.setIfInBounds_toArray, List.set_cons_zero, List.set_cons_succ]
        refine wpAnyU_take (i := 4) (v := ?_) rfl (by kernel_rfl) (by kernel_rfl) (by kernel_rfl) (by kernel_rfl) (by kernel_rfl) (by kernel_rfl) (fun _ _ _ h => h) (Or.inl ⟨by rfl, ?_⟩) (by assumption) ?_
        rotate_left
        ·intro w hSw; (try dsimp only at hSw); go_simp; (try with_reducible rfl)
        try simp only [Act.put, List.getElem_toArray, List.getElem_cons_zero, List.getElem_cons_succ, List.setIfInBounds_toArray, List.set_cons_zero, List.set_cons_succ]
        refine wpAnyU_take (i := 5) (v := ?_) rfl (by kernel_rfl) (by kernel_rfl) (by kernel_rfl) (by kernel_rfl) (by kernel_rfl) (by kernel_rfl) (fun _ _ _ h => h) (Or.inl ⟨by rfl, ?_⟩) (by assumption) ?_
        rotate_left
        ·intro w hSw; (try dsimp only at hSw); go_simp; (try with_reducible rfl)
        try simp only [Act.put, List.getElem_toArray, List.getElem_cons_zero, List.getElem_cons_succ, List.setIfInBounds_toArray, List.set_cons_zero, List.set_cons_succ]
        refine wpAnyU_take (i := 6) (v := ?_) rfl (by kernel_rfl) (by kernel_rfl) (by kernel_rfl) (by kernel_rfl) (by kernel_rfl) (by kernel_rfl) (fun _ _ _ h => h) (Or.inl ⟨by rfl, ?_⟩) (by assumption) ?_
        rotate_left
        ·intro w hSw; (try dsimp only at hSw); go_simp; (try with_reducible rfl)
        try simp only [Act.put, List.getElem_toArray, List.getElem_cons_zero, List.getElem_cons_succ, List.setIfInBounds_toArray, List.set_cons_zero, List.set_cons_succ]
        try simp only [hmw]
        refine wpAnyU_take (i := 7) (v := ?_) rfl (by kernel_rfl) (by kernel_rfl) (by kernel_rfl) (by kernel_rfl) (by kernel_rfl) (by kernel_rfl) (fun _ _ _ h => h) (Or.inl ⟨by rfl, ?_⟩) (by assumption) ?_
        rotate_left
        ·intro w hSw; (try dsimp only at hSw); go_simp; (try with_reducible rfl)
        try simp only [Act.put, List.getElem_toArray, List.getElem_cons_zero, List.getElem_cons_succ, List.setIfInBounds_toArray, List.set_cons_zero, List.set_cons_succ]
        refine wpAnyU_take (i := 8) (v := ?_) rfl (by kernel_rfl) (by kernel_rfl) (by kernel_rfl) (by kernel_rfl) (by kernel_rfl) (by kernel_rfl) (fun _ _ _ h => h) (Or.inl ⟨by rfl, ?_⟩) (by assumption) ?_
        rotate_left
        ·intro w hSw; (try dsimp only at hSw); go_simp; (try with_reducible rfl)
        try simp only [Act.put, List.getElem_toArray, List.getElem_cons_zero, List.getElem_cons_succ, List.setIfInBounds_toArray, List.set_cons_zero, List.set_cons_succ]
        refine wpAnyU_ready (rs := [9]) (by kernel_rfl) (by simp) ?_
        refine AllReadyU.past rfl (by kernel_rfl) (fun K hK => ?_) AllReadyU.nil
        go_simp
        refine hK.out _ _ ?_
        clear hK K
        try simp only [Act.put, List.getElem_toArray, List.getElem_cons_zero, List.getElem_cons_succ, List.setIfInBounds_toArray, List.set_cons_zero, List.set_cons_succ]
        refine wpAnyU_done (by kernel_rfl) ?_ _
        refine NoPanic.normal ?_
        clear hcm hfm
        go_wp2_with fail
        go_roundw
        case rel =>
         obtain rfl : s1 = s + 1 := by omega
         exact ⟨s + 1, by omega, by first | rfl | go_num, HR3.out, HR2.out, HR1.out, HR5.out, HR4.out⟩
        case measure => simp [intOf]; omega
     have hsd : decide ((s : Int) < (l1 : Int)) = false := by simp; omega
     obtain rfl : s = l1 := by omega
     clear hsd hsl hs
     obtain ⟨a, ha⟩ : ∃ q, wy 0 = q := ⟨_, rfl⟩
     obtain ⟨b, hb2⟩ : ∃ q, wy s = q := ⟨_, rfl⟩
     have hl1e : len - 1 = s := by omega
     have haN : a ≤ N := by rw [← ha]; exact HWy.out.le 0 (by omega)
     have hbN : b ≤ N := by rw [← hb2]; exact HWy.out.le s (by omega)
     have hf1 := HWy.out.fst.1
     have hf2 := HWy.out.lst.1
     rw [hl1e, hb2] at hf2
     rw [ha] at hf1
     have hab : a ≠ b := fun e => by rw [e] at hf1; omega
     have xb := need_bd HI.out haN
     have yb := need_bd HI.out hbN
     have HSt2 := Lib.hid HStp.out
     rw [hl1e, ha, hb2] at HSt2
     obtain ⟨x, hx⟩ : ∃ q, gi nl a = q := ⟨_, rfl⟩
     obtain ⟨y, hy⟩ : ∃ q, gi nl b = q := ⟨_, rfl⟩
     rw [hx] at xb hf1
     rw [hy] at yb hf2
     obtain ⟨x1, hx1⟩ : ∃ q, q = x + amt := ⟨_, rfl⟩
     obtain ⟨y1, hy1⟩ : ∃ q, q = y - amt := ⟨_, rfl⟩
     have hxw : IntKind.i64.wrap (x + amt) = x1 := by rw [wr_id (by omega) (by omega)]; exact hx1.symm
     have hyw : IntKind.i64.wrap (y - amt) = y1 := by rw [wr_id (by omega) (by omega)]; exact hy1.symm
     have han : a < n := by omega
     have hbn : b < n := by omega
     have d0 : wd.cell? ⟨g, 0, none⟩ = some (.int .i64 (a : Int)) := by rw [← ha]; exact HWc.out 0 (by omega)
     have d1 : wd.cell? ⟨gn, a, none⟩ = some (.int .i64 x) := by rw [← hx]; exact row_at HBn.out (lV_at _ han)
     have f1 : wd.frozen? ⟨gn, a, none⟩ = false := row_fro (k := a) HBn.out
     have hq : (wd.setCell ⟨gn, a, none⟩ (.int .i64 x1)).heap[gn]? = some (.cells (lV (upI (gi nl) a x1) n).toArray 2 (0, 0)) := by
      rw [← lV_set]; exact row_set (k := a) (v := .int .i64 x1) HBn.out
     have d2 : (wd.setCell ⟨gn, a, none⟩ (.int .i64 x1)).cell? ⟨g, s, none⟩ = some (.int .i64 (b : Int)) := by
      rw [← hb2, ← HWc.out s (by omega)]
      exact cell_of_heap (st1k_ne (w := wd) (b := gn) (i := a) (c := g) (.int .i64 x1) (by omega)) s
     have d3 : (wd.setCell ⟨gn, a, none⟩ (.int .i64 x1)).cell? ⟨gn, b, none⟩ = some (.int .i64 y) := by
      have q := row_at hq (lV_at _ hbn)
      rwa [upI_ne (fun e => hab e.symm), hy] at q
     have f3 : (wd.setCell ⟨gn, a, none⟩ (.int .i64 x1)).frozen? ⟨gn, b, none⟩ = false := row_fro (k := b) hq
     have HR1 := Lib.hid (show ((wd.setCell ⟨gn, a, none⟩ (.int .i64 x1)).setCell ⟨gn, b, none⟩ (.int .i64 y1)).heap[gn]? = some (.cells (lV (gi (lst (ndT (gi nl) a b amt) n)) n).toArray 2 (0, 0)) by
      rw [lV_congr (U := upI (upI (gi nl) a x1) b y1) (fun j hj => by
       rw [lst_at _ hj]
       unfold ndT
       rw [hx, ← hx1, upI_ne (fun e => hab e.symm), hy, ← hy1]), ← lV_set]
      exact row_set (k := b) (v := .int .i64 y1) hq)
     have HR2 := Lib.hid (show ((wd.setCell ⟨gn, a, none⟩ (.int .i64 x1)).setCell ⟨gn, b, none⟩ (.int .i64 y1)).heap[mb]? = some (.cells (lV (fM (movT wy amt mo s)) 121).toArray 159 (0, 0)) from (st1k_ne (b := gn) (i := b) (c := mb) (.int .i64 y1) (by omega)).trans ((st1k_ne (w := wd) (b := gn) (i := a) (c := mb) (.int .i64 x1) (by omega)).trans HBm.out))
     have HR3 := Lib.hid (show ((wd.setCell ⟨gn, a, none⟩ (.int .i64 x1)).setCell ⟨gn, b, none⟩ (.int .i64 y1)).heap[w.heap.size]? = some (.cells #[.int .i64 N, .slice ao xs.length cap] 32 (0, 0)) from (st1k_ne (b := gn) (i := b) (c := w.heap.size) (.int .i64 y1) (by omega)).trans ((st1k_ne (w := wd) (b := gn) (i := a) (c := w.heap.size) (.int .i64 x1) (by omega)).trans HBz.out))
     have HR4 := Lib.hid ((HW.out.setCell (p := ⟨gn, a, none⟩) (by show w.heap.size ≤ gn; omega) (.int .i64 x1)).setCell (p := ⟨gn, b, none⟩) (by show w.heap.size ≤ gn; omega) (.int .i64 y1))
     have HMr := Lib.hid (show (posS N (fun j => gi (rdI ((wd.setCell ⟨gn, a, none⟩ (.int .i64 x1)).setCell ⟨gn, b, none⟩ (.int .i64 y1)) gn n) j)).toNat < (posS N (fun j => gi (rdI wc gn n) j)).toNat by
      rw [HMe.out, pos_congr (f := fun j => gi (rdI ((wd.setCell ⟨gn, a, none⟩ (.int .i64 x1)).setCell ⟨gn, b, none⟩ (.int .i64 y1)) gn n) j) (g := ndT (gi nl) a b amt) (fun j hj => by
       show gi (rdI _ gn n) j = _
       rw [rd_row HR1.out (by omega), lst_at _ (by omega)])]
      have q := HSt2.out.2
      have p := pos_nn N (ndT (gi nl) a b amt)
      omega)
     have HI2 := Lib.hid (show Inv N xs (ndF N rs) c0 (gi (lst (ndT (gi nl) a b amt) n)) (movT wy amt mo s) (cc - pa) by
      rw [← HPa.out]
      exact HSt2.out.1.congr (fun k hk => lst_at _ (by omega)))
     have c00 : (0 : Int) < (len : Int) := by omega
     have c02 : (s : Int) < (len : Int) := by omega
     have c03 : (0 : Int) ≤ (s : Int) := by omega
     have a11 : (a : Int) < (n : Int) := by omega
     have a00 : (0 : Int) ≤ (a : Int) := by omega
     have b11 : (b : Int) < (n : Int) := by omega
     have b00 : (0 : Int) ≤ (b : Int) := by omega
     have hsd : decide ((s : Int) < (s : Int)) = false := by simp
     clear hx hy hx1 hy1 hq ha hb2 hl1e HBz HBn HBm HWc HW
     go_wp2_with fail
     go_roundw
     case rel => exact ⟨_, _, _, lst_len _ _, rfl, HI2.out, HR3.out, HR1.out, HR2.out, HR4.out⟩
     case measure => exact HMr.out
end Go.Proofs.YtfphlpglgcmljaaGreat
