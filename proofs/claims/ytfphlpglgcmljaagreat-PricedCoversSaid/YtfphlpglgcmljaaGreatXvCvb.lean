/- Part of the proof of priced_covers_proved: Pdd, Wtp, Wtq, Cva, Cvb. -/
import Derived.Laws.EntriesVeiled
import Derived.Shelf.Abstract
import Derived.Deep.RegionHeld3
import Derived.Deep.DeepCutAuto
import Derived.Test.YtfphlpglgcmljaaGreatXvPap
import Derived.Test.YtfphlpglgcmljaaGreatXvPzq
import Derived.Test.YtfphlpglgcmljaaGreatXvPct
import Derived.Test.YtfphlpglgcmljaaGreatXvPure
import Derived.Test.YtfphlpglgcmljaaGreatXvUpz
namespace Go.Proofs.YtfphlpglgcmljaaGreat
open Go.RowKit
set_option linter.unusedVariables false
structure Pz where
 n : Int
 zv : Value
 xs : List Int
 c : Int
 rv : Value
 rs : List Int
def cdPz : Cd Pz := ⟨4, fun x => [.int .i64 x.n, x.zv, .int .i64 x.c, x.rv], fun _ => rfl, ⟨0, .slice none 0 0, [], 0, .slice none 0 0, []⟩⟩
def pvOf (x : Pz) : Pv := ⟨x.n, x.xs, x.c, x.rs⟩
def LZ (w : World) (els : List Pz) : Prop := ∀ x, x ∈ els → OL 63 0 w x.zv x.xs ∧ OL 2 0 w x.rv x.rs
theorem own_apart {w : World} {b1 b2 e1 e2 s1 s2 n1 n2 : Nat} {v1 v2 : Value} {l1 l2 : List Value} (h1 : w.ownsRow b1 e1 s1 v1 n1 l1) (h2 : w.ownsRow b2 e2 s2 v2 n2 l2) (hne : e1 ≠ e2) : v1.ownBlock = none ∨ v1.ownBlock ≠ v2.ownBlock := by
 rcases h1.2 with ⟨rfl, _⟩ | ⟨g, cap, cur, rfl, _, hg, _⟩
 ·exact .inl rfl
 ·rcases h2.2 with ⟨rfl, _⟩ | ⟨g2, cap2, cur2, rfl, _, hg2, _⟩
  ·exact .inr (by simp [Value.ownBlock])
  ·refine .inr (fun e => ?_)
   have e' : some g = some g2 := e
   injection e' with e'
   subst e'
   rw [hg] at hg2
   injection hg2 with hg2
   injection hg2 with _ hg3
   exact hne hg3
theorem LZ.grown {w w' : World} {els : List Pz} {base : Nat} {v : Value} {n : Nat} {l : List Value} (h : LZ w els) (ho : w.ownsRow base 35 4 v n l) (hg : w.grownBy w' v.ownBlock) : LZ w' els := fun x hx =>
 ⟨OL.kept (h x hx).1 hg (own_apart (h x hx).1 ho (by decide)), OL.kept (h x hx).2 hg (own_apart (h x hx).2 ho (by decide))⟩
theorem LZ.keepb {w w' : World} {els : List Pz} (h : LZ w els) (hb : Below w.heap.size w w') : LZ w' els := fun x hx => ⟨OL.keepb (h x hx).1 hb, OL.keepb (h x hx).2 hb⟩
theorem LZ.nil (w : World) : LZ w [] := fun x hx => by cases hx
set_option linter.unusedVariables false
def GaP (base : Nat) (r : List Pv × Int) (e : Ending) (w' : World) : Prop := ∃ v' els, e = .returned (.tuple #[v', .int .i64 r.2]) ∧ OE cdPz 35 base w' v' els ∧ LZ w' els ∧ els.map pvOf = r.1
theorem GaP.ok {base : Nat} {r : List Pv × Int} {l : List Pv} {els : List Pz} {v' : Value} {w' : World} (h : r = (l, 0)) (h2 : OE cdPz 35 base w' v' els) (h3 : LZ w' els) (h4 : els.map pvOf = l) : GaP base r (.returned (.tuple #[v', .int .i64 0])) w' := by
 subst h; exact ⟨_, els, rfl, h2, h3, h4⟩
set_option linter.unusedVariables false
def hiF (N : Nat) (xs : List Int) (i : Nat) : Int := ent N xs i 0 / 2
set_option linter.unusedVariables false
end Go.Proofs.YtfphlpglgcmljaaGreat
namespace Go.Proofs.YtfphlpglgcmljaaGreat
open Go.RowKit
set_option linter.unusedVariables false
set_option linter.unusedVariables false
theorem hp_gr0 {w w' : World} {b base : Nat} {o : Obj} {row : Option Nat} (h : w.heap[b]? = some o) (hg : w.grownBy w' row) (hr : ∀ g, row = some g → base ≤ g) (hb : b < base) : w'.heap[b]? = some o :=
 (hg.block b (hp_lt3 h) (fun e => by have := hr b e.symm; omega)).trans h
theorem bw_gr0 {w X X' : World} {base : Nat} {row : Option Nat} (h : Below w.heap.size w X) (hg : X.grownBy X' row) (hr : ∀ g, row = some g → base ≤ g) (hn : w.heap.size ≤ base) : Below w.heap.size w X' :=
 h.grown hg h.size (fun g e => Nat.le_trans hn (hr g e))
set_option linter.unusedVariables false
theorem mul_rng {a b A B : Int} (h1 : -A ≤ a) (h2 : a ≤ A) (h3 : -B ≤ b) (h4 : b ≤ B) : -(A * B) ≤ a * b ∧ a * b ≤ A * B := by
 have hA : 0 ≤ A := by omega
 have hB : 0 ≤ B := by omega
 have ha : a.natAbs ≤ A.natAbs := by omega
 have hb : b.natAbs ≤ B.natAbs := by omega
 have h := Nat.mul_le_mul ha hb
 rw [← Int.natAbs_mul, ← Int.natAbs_mul] at h
 have := Int.mul_nonneg hA hB
 generalize a * b = X at *
 generalize A * B = Y at *
 omega
theorem mk_one {n : Int} (h : -2147483647 ≤ n) (h' : n ≤ 2147483647) : mkR n 1 = ((n, 1), 0) := by
 have e : Nat.gcd n.natAbs (1 : Int).natAbs = 1 := Nat.gcd_one_right _
 rw [mkR_ok (by decide) (by rw [e]; simp; omega), e]
 refine Prod.ext (Prod.ext ?_ rfl) rfl
 show (if (n < 0 ↔ (1 : Int) < 0) then ((n.natAbs / 1 : Nat) : Int) else -((n.natAbs / 1 : Nat) : Int)) = n
 rw [Nat.div_one]
 split
 ·rename_i c; have : ¬ n < 0 := fun hn => by have := c.1 hn; omega
  omega
 ·rename_i c; have : n < 0 := by
   by_cases hn : n < 0
   ·exact hn
   ·exact absurd ⟨fun h => absurd h hn, fun h => by omega⟩ c
  omega
theorem vr_one {n : Int} (h : -2147483647 ≤ n) (h' : n ≤ 2147483647) : vr n 1 = true := (vr_iff n 1).2 ⟨by decide, by decide, h, h', Nat.gcd_one_right _⟩
theorem sb_one {a b : Int} (h1 : -1000000 ≤ a) (h2 : a ≤ 1000000) (h3 : -1000000 ≤ b) (h4 : b ≤ 1000000) : sbR a 1 b 1 = ((a - b, 1), 0) := by
 rw [sbR_yes (by rw [vr_one (by omega) (by omega), vr_one (by omega) (by omega)]; rfl), show a * 1 - b * 1 = a - b by omega, show (1 : Int) * 1 = 1 from rfl]
 exact mk_one (by omega) (by omega)
theorem mul_one_r {a b : Int} (h1 : -100000 ≤ a) (h2 : a ≤ 100000) (h3 : -10000 ≤ b) (h4 : b ≤ 10000) : mulR a 1 b 1 = ((a * b, 1), 0) := by
 have h := mul_rng h1 h2 h3 h4
 rw [mulR_yes2 ⟨vr_one (by omega) (by omega), vr_one (by omega) (by omega)⟩, show (1 : Int) * 1 = 1 from rfl]
 exact mk_one (by omega) (by omega)
theorem add_one_r {a b : Int} (h1 : -1073741823 ≤ a) (h2 : a ≤ 1073741823) (h3 : -1073741823 ≤ b) (h4 : b ≤ 1073741823) : addR a 1 b 1 = ((a + b, 1), 0) := by
 rw [addR_yes ⟨vr_one (by omega) (by omega), vr_one (by omega) (by omega)⟩, show a * 1 + b * 1 = a + b by omega, show (1 : Int) * 1 = 1 from rfl]
 exact mk_one (by omega) (by omega)
def ipts (p : Nat → Int) (N : Nat) : List (Int × Int) := (List.range N).map fun k => (p (k + 1), (1 : Int))
theorem ipts_len (p : Nat → Int) (N : Nat) : (ipts p N).length = N := by simp [ipts]
theorem ipts_get (p : Nat → Int) {N k : Nat} (hk : k < N) : (ipts p N)[k]? = some (p (k + 1), 1) := by
 unfold ipts; rw [List.getElem?_map, List.getElem?_range hk]; rfl
theorem ipts_ge (p : Nat → Int) {N k : Nat} (hk : k < N) : ge cdRes (ipts p N) k = (p (k + 1), 1) := by
 unfold ge; rw [List.getD_eq_getElem?_getD, ipts_get p hk]; rfl
structure Sp9 (N : Nat) (p : Nat → Int) : Prop where
 z : p 0 = 0
 b : ∀ k, k ≤ N → -1000 ≤ p k ∧ p k ≤ 1000
def cS (N : Nat) (xs : List Int) (c : Int) (rs : List Int) (p : Nat → Int) : Nat → Int
 | 0 => c
 | k + 1 => cS N xs c rs p k + gi rs k * (p (k + 1) - lowF N xs (k + 1))
theorem cS_bd {N : Nat} {xs : List Int} {c : Int} {rs : List Int} {p : Nat → Int} {R D : Int} (hr : ∀ k, k < N → -R ≤ gi rs k ∧ gi rs k ≤ R) (hd : ∀ k, 1 ≤ k → k ≤ N → -D ≤ p k - lowF N xs k ∧ p k - lowF N xs k ≤ D) : ∀ k, k ≤ N → c - k * (R * D) ≤ cS N xs c rs p k ∧ cS N xs c rs p k ≤ c + k * (R * D)
  | 0, _ => by show c - (0 : Nat) * _ ≤ c ∧ c ≤ _; simp
  | k + 1, hk => by
    have ih := cS_bd (c := c) hr hd k (by omega)
    have h1 := hr k (by omega)
    have h2 := hd (k + 1) (by omega) hk
    have h3 := mul_rng h1.1 h1.2 h2.1 h2.2
    show c - ((k + 1 : Nat) : Int) * _ ≤ cS N xs c rs p k + gi rs k * (p (k + 1) - lowF N xs (k + 1)) ∧ cS N xs c rs p k + gi rs k * (p (k + 1) - lowF N xs (k + 1)) ≤ _
    rw [show ((k + 1 : Nat) : Int) * (R * D) = k * (R * D) + R * D by push_cast; rw [Int.add_mul, Int.one_mul]]
    generalize (k : Int) * (R * D) = X at *
    generalize gi rs k * (p (k + 1) - lowF N xs (k + 1)) = Y at *
    omega
theorem wr_id {x : Int} (h : -9223372036854775808 ≤ x) (h' : x ≤ 9223372036854775807) : IntKind.i64.wrap x = x := IntWalk.i64_in _ ⟨h, h'⟩
theorem at_int {N : Nat} {xs : List Int} {c : Int} {rs : List Int} {p : Nat → Int} (hN : N ≤ 3) (hz : pzB N xs c rs = true) (hp : Sp9 N p) (hc : -100000000 ≤ c ∧ c ≤ 100000000) (hr : ∀ k, k < N → -10000 ≤ gi rs k ∧ gi rs k ≤ 10000)
  (hl : ∀ k, 1 ≤ k → k ≤ N → -2000 ≤ lowF N xs k ∧ lowF N xs k ≤ 2000) : patF N xs c rs (ipts p N) = ((cS N xs c rs p N, 1), 0) := by
 have hlen := ipts_len p N
 have hd : ∀ k, 1 ≤ k → k ≤ N → -3000 ≤ p k - lowF N xs k ∧ p k - lowF N xs k ≤ 3000 := fun k h1 h2 => by have := hp.b k h2; have := hl k h1 h2; omega
 refine patF_ok ⟨hz, by rw [hlen], ?_⟩ ?_
 ·rw [List.all_eq_true]
  intro x hx
  unfold ipts at hx
  rw [List.mem_map] at hx
  obtain ⟨k, hk, rfl⟩ := hx
  rw [List.mem_range] at hk
  have := hp.b (k + 1) (by omega)
  exact vr_one (by omega) (by omega)
 ·rw [hlen, Int.toNat_natCast]
  have : ∀ k, k ≤ N → atTo N xs c rs (ipts p N) k = ((cS N xs c rs p k, 1), 0) := by
   intro k
   induction k with
   | zero => intro _; exact mk_one (by omega) (by omega)
   | succ k ih =>
    intro hk
    rw [atTo_next (ih (by omega)), ipts_ge p (by omega)]
    have b1 := hp.b (k + 1) hk
    have b2 := hl (k + 1) (by omega) hk
    have b3 := hr k (by omega)
    have b4 := hd (k + 1) (by omega) hk
    have b5 := mul_rng b3.1 b3.2 b4.1 b4.2
    have b6 := cS_bd (c := c) hr hd k (by omega)
    have b7 : (k : Int) ≤ 2 := by omega
    rw [at1_ok (f := (lowF N xs (k + 1), 1)) (m := (p (k + 1) - lowF N xs (k + 1), 1)) (q := (gi rs k, 1)) (y := (gi rs k * (p (k + 1) - lowF N xs (k + 1)), 1)) (mk_one (by omega) (by omega)) (sb_one (by omega) (by omega) (by omega) (by omega)) (mk_one (by omega) (by omega)) (mul_one_r (by omega) (by omega) (by omega) (by omega))]
    show addR (cS N xs c rs p k) 1 _ 1 = ((cS N xs c rs p k + _, 1), 0)
    generalize gi rs k * (p (k + 1) - lowF N xs (k + 1)) = Y at *
    exact add_one_r (by omega) (by omega) (by omega) (by omega)
  exact this N (Nat.le_refl _)
theorem Sn.E {N : Nat} {Y : Nat → Nat → Lm} {m : List Int} {R : Int} (h : Sn N Y m R) {k : Nat} (hk : k ≤ N) (hR' : R ≤ 1152921504606846976) {a b : Nat} (ha : a ≤ N) (hb : b ≤ N) : ent N (fwI N k m (N + 1)) a b = imin (ent N m a b) (lsum (ent N m a k) (ent N m k b)) := by
 have w : ∀ i j, i ≤ N → j ≤ N → Rg 1152921504606846976 (ent N m i j) := fun i j hi hj => by
  have := h.rg i j hi hj; unfold Rg at *; omega
 rw [fwI_ent h.len hk (h.diag k hk) (fun i hi => lsum1r (w i k hi hk)) (fun j hj => lsum1l (w k j hk hj)) (N + 1) (Nat.le_refl _) a b ha hb, if_pos (by omega)]
def Fn (B l : Int) : Prop := l = 1099511627776 ∨ (-B ≤ l ∧ l ≤ B)
theorem Fn.imin {B a b : Int} (ha : Fn B a) (hb : Fn B b) : Fn B (imin a b) := by rcases imin_eq a b with e | e <;> rw [e] <;> assumption
theorem Fn.mono {B B' l : Int} (h : Fn B l) (hb : B ≤ B') : Fn B' l := by unfold Fn at *; omega
theorem Fn.lsum {B a b : Int} (hB : B ≤ 100000000) (ha : Fn B a) (hb : Fn B b) : Fn (2 * B + 1) (lsum a b) := by
 by_cases e : a = 1099511627776 ∨ b = 1099511627776
 ·rw [lsum_nl a b e]; exact .inl rfl
 ·unfold Fn at *
  rw [lsum_fin (by omega) (by omega) (by omega) (by omega) (by omega) (by omega)]
  split <;> omega
def Sk (N : Nat) (B : Int) (cs : List K3) : Prop := ∀ q, q < cs.length → kOk N (gk cs q) = true ∧ -B ≤ (gk cs q).2.2 ∧ (gk cs q).2.2 ≤ B
def Mk (p : Nat → Int) (cs : List K3) : Prop := ∀ q, q < cs.length → 2 * (p (gk cs q).1.toNat - p (gk cs q).2.1.toNat) + 1 ≤ (gk cs q).2.2
theorem Sk.all {N : Nat} {B : Int} {cs : List K3} (h : Sk N B cs) : AllK N cs cs.length := fun q hq => (h q hq).1
set_option linter.unusedVariables false
structure SmZ (N : Nat) (xs : List Int) (c : Int) (rs : List Int) : Prop where
 pz : pzB N xs c rs = true
 ok : OkZ N xs
 n1 : 1 ≤ N
 n3 : N ≤ 3
 len : rs.length = N
 cb : -1000000 ≤ c ∧ c ≤ 1000000
 rb : ∀ k, k < N → -1000 ≤ gi rs k ∧ gi rs k ≤ 1000
 eb : ∀ i j, i ≤ N → j ≤ N → ent N xs i j = 1099511627776 ∨ (ent N xs i j % 2 = 1 ∧ -39 ≤ ent N xs i j ∧ ent N xs i j ≤ 41)
theorem SmZ.fn {N : Nat} {xs : List Int} {c : Int} {rs : List Int} (h : SmZ N xs c rs) {i j : Nat} (hi : i ≤ N) (hj : j ≤ N) : Fn 81 (ent N xs i j) := by
 rcases h.eb i j hi hj with e | e
 ·exact .inl e
 ·exact .inr ⟨by omega, by omega⟩
theorem col0_ge {N : Nat} {xs : List Int} (h : OkZ N xs) {k : Nat} (hk : k ≤ N) : 1 ≤ ent N xs k 0 := by
 have h1 := ent_tri h (Nat.zero_le N) (Nat.zero_le N) hk (i := 0) (j := 0)
 have h2 : ent N xs 0 0 = 1 := h.diagN (Nat.zero_le _)
 have h3 := ent_row h hk
 by_cases n : ent N xs k 0 = 1099511627776
 ·omega
 ·rw [h2, lsum_val (ent_vld h (Nat.zero_le _) hk) (ent_vld h hk (Nat.zero_le _)) (by omega) n] at h1
  split at h1 <;> omega
theorem SmZ.low {N : Nat} {xs : List Int} {c : Int} {rs : List Int} (h : SmZ N xs c rs) {i : Nat} (hi : i ≤ N) : ent N xs 0 i = -2 * lowF N xs i + 1 ∧ 0 ≤ lowF N xs i ∧ lowF N xs i ≤ 20 := by
 have e := h.eb 0 i (Nat.zero_le _) hi
 have r := ent_row h.ok hi
 unfold lowF; omega
theorem SmZ.high {N : Nat} {xs : List Int} {c : Int} {rs : List Int} (h : SmZ N xs c rs) {i : Nat} (hi : i ≤ N) (hf : ent N xs i 0 ≠ 1099511627776) : ent N xs i 0 = 2 * hiF N xs i + 1 ∧ 0 ≤ hiF N xs i ∧ hiF N xs i ≤ 20 := by
 have e := h.eb i 0 hi (Nat.zero_le _)
 have r := col0_ge h.ok hi
 unfold hiF; omega
def pv (vs : List Int) (d : Int) : Nat → Int := fun k => if k = 0 then 0 else gi vs (k - 1) - d
theorem pv_z (vs : List Int) (d : Int) : pv vs d 0 = 0 := rfl
theorem pv_s {vs : List Int} {d : Int} {k : Nat} (hk : 1 ≤ k) : pv vs d k = gi vs (k - 1) - d := by unfold pv; rw [if_neg (by omega)]
theorem pvd_at {vs : List Int} {d : Int} {k : Nat} (hk : 1 ≤ k) : pv vs d k = pv vs 0 k - d := by rw [pv_s hk, pv_s hk]; omega
def Vs (N : Nat) (vs : List Int) : Prop := vs.length = N ∧ ∀ k, k < N → 0 ≤ gi vs k ∧ gi vs k ≤ 60
theorem Vs.at {N : Nat} {vs : List Int} (h : Vs N vs) {k : Nat} (h1 : 1 ≤ k) (hk : k ≤ N) : 0 ≤ pv vs 0 k ∧ pv vs 0 k ≤ 60 := by
 rw [pv_s h1]; have := h.2 (k - 1) (by omega); omega
theorem Vs.sp {N : Nat} {vs : List Int} (h : Vs N vs) {d : Int} (h0 : 0 ≤ d) (h1 : d ≤ 60) : Sp9 N (pv vs d) :=
 ⟨rfl, fun k hk => by
  by_cases e : k = 0
  ·subst e; rw [pv_z]; omega
  ·rw [pvd_at (by omega)]; have := h.at (k := k) (by omega) hk; omega⟩
def sR (rs : List Int) : Nat → Int
 | 0 => 0
 | k + 1 => sR rs k + gi rs k
def dS (rs : List Int) (p q : Nat → Int) : Nat → Int
 | 0 => 0
 | k + 1 => dS rs p q k + gi rs k * (p (k + 1) - q (k + 1))
theorem cS_dS (N : Nat) (xs : List Int) (c : Int) (rs : List Int) (p : Nat → Int) : ∀ k, cS N xs c rs p k = c + dS rs p (lowF N xs) k
 | 0 => by show c = c + 0; omega
 | k + 1 => by show cS N xs c rs p k + _ = c + (dS rs p (lowF N xs) k + _); rw [cS_dS N xs c rs p k]; omega
theorem gk_app {cs : List K3} {x : K3} {q : Nat} (h : q < cs.length) : gk (cs ++ [x]) q = gk cs q := by
 unfold gk; rw [List.getD_eq_getElem?_getD, List.getElem?_append_left h, ← List.getD_eq_getElem?_getD]
theorem gk_last {cs : List K3} {x : K3} : gk (cs ++ [x]) cs.length = x := by
 unfold gk; rw [List.getD_eq_getElem?_getD, List.getElem?_append_right (Nat.le_refl _)]; simp
theorem Mk.app {p : Nat → Int} {cs : List K3} {x : K3} : Mk p (cs ++ [x]) ↔ Mk p cs ∧ 2 * (p x.1.toNat - p x.2.1.toNat) + 1 ≤ x.2.2 := by
 constructor
 ·intro h
  refine ⟨fun q hq => ?_, ?_⟩
  ·have := h q (by rw [List.length_append]; omega)
   rwa [gk_app hq] at this
  ·have := h cs.length (by rw [List.length_append]; simp)
   rwa [gk_last] at this
 ·intro ⟨h, k⟩ q hq
  rw [List.length_append] at hq
  by_cases e : q < cs.length
  ·rw [gk_app e]; exact h q e
  ·rw [show q = cs.length by simp at hq; omega, gk_last]; exact k
theorem Sk.app {N : Nat} {B : Int} {cs : List K3} {x : K3} (h : Sk N B cs) (k : kOk N x = true ∧ -B ≤ x.2.2 ∧ x.2.2 ≤ B) : Sk N B (cs ++ [x]) := by
 intro q hq
 rw [List.length_append] at hq
 by_cases e : q < cs.length
 ·rw [gk_app e]; exact h q e
 ·rw [show q = cs.length by simp at hq; omega, gk_last]; exact k
theorem Mk.nil (p : Nat → Int) : Mk p [] := fun q hq => absurd hq (by simp)
theorem Sk.nil (N : Nat) (B : Int) : Sk N B [] := fun q hq => absurd hq (by simp)
theorem argmax (Q : Nat → Prop) (f : Nat → Int) : ∀ N, (∃ a, 1 ≤ a ∧ a ≤ N ∧ Q a) → ∃ i, 1 ≤ i ∧ i ≤ N ∧ Q i ∧ ∀ j, 1 ≤ j → j ≤ N → Q j → f j ≤ f i
  | 0, ⟨a, h1, h2, _⟩ => by omega
  | N + 1, ⟨a, h1, h2, h3⟩ => by
    by_cases hp : ∃ a, 1 ≤ a ∧ a ≤ N ∧ Q a
    · obtain ⟨i, i1, i2, i3, i4⟩ := argmax Q f N hp
      by_cases hq : Q (N + 1) ∧ f i < f (N + 1)
      · refine ⟨N + 1, by omega, Nat.le_refl _, hq.1, fun j j1 j2 j3 => ?_⟩
        by_cases e : j = N + 1
        · rw [e]; exact Int.le_refl _
        · have := i4 j j1 (by omega) j3; omega
      · refine ⟨i, i1, by omega, i3, fun j j1 j2 j3 => ?_⟩
        by_cases e : j = N + 1
        · subst e
          by_cases h : f i < f (N + 1)
          · exact absurd ⟨j3, h⟩ hq
          · omega
        · exact i4 j j1 (by omega) j3
    · have e : a = N + 1 := by
        by_cases e : a = N + 1
        · exact e
        · exact absurd ⟨a, h1, by omega, h3⟩ hp
      subst e
      refine ⟨N + 1, by omega, Nat.le_refl _, h3, fun j j1 j2 j3 => ?_⟩
      by_cases e : j = N + 1
      · rw [e]; exact Int.le_refl _
      · exact absurd ⟨j, j1, by omega, j3⟩ hp
set_option linter.unusedVariables false
def bF (N : Nat) (xs : List Int) (i j : Nat) : Int := ent N xs i j / 2
def fnF (N : Nat) (xs : List Int) (i j : Nat) : Prop := ent N xs i j ≠ 1099511627776
theorem b_tri {N : Nat} {xs : List Int} (h : OkZ N xs) {i j k : Nat} (hi : i ≤ N) (hj : j ≤ N) (hk : k ≤ N) (h1 : fnF N xs i k) (h2 : fnF N xs k j) : fnF N xs i j ∧ bF N xs i j ≤ bF N xs i k + bF N xs k j := by
 have t := ent_tri h hi hj hk
 have v1 := ent_vld h hi hk
 have v2 := ent_vld h hk hj
 have v3 := ent_vld h hi hj
 unfold fnF at *
 unfold bF
 rw [lsum_val v1 v2 h1 h2] at t
 rw [vld_iff] at v1 v2 v3
 split at t <;> (constructor <;> omega)
theorem b_diag {N : Nat} {xs : List Int} (h : OkZ N xs) {i : Nat} (hi : i ≤ N) : fnF N xs i i ∧ bF N xs i i = 0 := by
 have e : ent N xs i i = 1 := h.diagN hi
 unfold fnF bF
 rw [e]; decide
theorem b_low {N : Nat} {xs : List Int} (h : OkZ N xs) {i : Nat} (hi : i ≤ N) : fnF N xs 0 i ∧ bF N xs 0 i ≤ 0 := by
 have := ent_row h hi
 unfold fnF bF; omega
def PI (N : Nat) (xs : List Int) (v : Nat → Int) : Prop := v 0 = 0 ∧ ∀ i j, i ≤ N → j ≤ N → fnF N xs i j → v i - v j ≤ bF N xs i j
theorem low_pi {N : Nat} {xs : List Int} (h : OkZ N xs) : PI N xs (fun i => -bF N xs 0 i) := by
 refine ⟨by show -bF N xs 0 0 = 0; rw [(b_diag h (Nat.zero_le N)).2]; rfl, fun i j hi hj hf => ?_⟩
 have := (b_tri h (Nat.zero_le N) hj hi (b_low h hi).1 hf).2
 show -bF N xs 0 i - -bF N xs 0 j ≤ _
 omega
def mv (v : Nat → Int) (a : Nat → Bool) (t : Int) : Nat → Int := fun i => if a i = true then v i else v i + t
def wU (rs : List Int) (a : Nat → Bool) : Nat → Int
 | 0 => 0
 | k + 1 => wU rs a k + if a (k + 1) = true then 0 else gi rs k
theorem dS_mv (rs : List Int) (v q : Nat → Int) (a : Nat → Bool) (t : Int) : ∀ k, dS rs (mv v a t) q k = dS rs v q k + t * wU rs a k
 | 0 => by show (0 : Int) = 0 + t * 0; omega
 | k + 1 => by
  show dS rs (mv v a t) q k + gi rs k * (mv v a t (k + 1) - q (k + 1)) = (dS rs v q k + gi rs k * (v (k + 1) - q (k + 1))) + t * (wU rs a k + _)
  rw [dS_mv rs v q a t k, Int.mul_add]
  unfold mv
  by_cases h : a (k + 1) = true
  ·rw [if_pos h, if_pos h, Int.mul_zero]; omega
  ·rw [if_neg h, if_neg h, show v (k + 1) + t - q (k + 1) = (v (k + 1) - q (k + 1)) + t by omega, Int.mul_add, Int.mul_comm (gi rs k) t]; omega
theorem cS_mv {N : Nat} {xs : List Int} {c : Int} {rs : List Int} (v : Nat → Int) (a : Nat → Bool) (t : Int) : cS N xs c rs (mv v a t) N = cS N xs c rs v N + t * wU rs a N := by
 rw [cS_dS, cS_dS, dS_mv]; omega
def Fall (N : Nat) (xs : List Int) (rs : List Int) : Prop := ∃ a : Nat → Bool, a 0 = true ∧ (∀ i j, i ≤ N → j ≤ N → a i = false → a j = true → ¬ fnF N xs i j) ∧ wU rs a N < 0
theorem fall_end {N : Nat} {xs : List Int} {c : Int} {rs : List Int} (hf : Fall N xs rs) {v : Nat → Int} (hv : PI N xs v) : ∃ u, PI N xs u ∧ cS N xs c rs u N < 0 := by
 obtain ⟨a, h0, h1, h2⟩ := hf
 obtain ⟨t, ht⟩ : ∃ t : Int, 0 ≤ t ∧ cS N xs c rs v N < t := ⟨(cS N xs c rs v N).natAbs + 1, by omega, by omega⟩
 refine ⟨mv v a t, ⟨?_, fun i j hi hj hf => ?_⟩, ?_⟩
 ·unfold mv; rw [if_pos h0]; exact hv.1
 ·have k := hv.2 i j hi hj hf
  unfold mv
  cases ai : a i with
  | true =>
   cases aj : a j with
   | true => simpa using k
   | false => simp; omega
  | false =>
   cases aj : a j with
   | true => exact absurd hf (h1 i j hi hj ai aj)
   | false => simp; omega
 ·rw [cS_mv]
  have := Int.mul_nonneg (a := t) (b := -1 - wU rs a N) ht.1 (by omega)
  rw [Int.mul_sub, Int.mul_neg, Int.mul_one] at this
  omega
def cntA (a : Nat → Bool) : Nat → Nat
 | 0 => 0
 | k + 1 => cntA a k + if a k = true then 1 else 0
theorem cnt_le (a : Nat → Bool) : ∀ k, cntA a k ≤ k
 | 0 => Nat.le_refl _
 | k + 1 => by have := cnt_le a k; unfold cntA; split <;> omega
def put1 (a : Nat → Bool) (i : Nat) : Nat → Bool := fun k => if k = i then true else a k
theorem cnt_put {a : Nat → Bool} {i : Nat} (h : a i = false) : ∀ k, cntA (put1 a i) k = cntA a k + if i < k then 1 else 0
  | 0 => by rw [if_neg (by omega)]; rfl
  | k + 1 => by
    show cntA (put1 a i) k + (if put1 a i k = true then 1 else 0) = (cntA a k + (if a k = true then 1 else 0)) + if i < k + 1 then 1 else 0
    rw [cnt_put h k]
    by_cases e : k = i
    · subst e
      have e1 : put1 a k k = true := by unfold put1; rw [if_pos rfl]
      rw [e1, h, if_neg (show ¬ k < k by omega), if_pos (show k < k + 1 by omega)]; simp
    · have e1 : put1 a i k = a k := by unfold put1; rw [if_neg e]
      rw [e1]
      by_cases c : i < k
      · rw [if_pos c, if_pos (show i < k + 1 by omega)]; omega
      · rw [if_neg c, if_neg (show ¬ i < k + 1 by omega)]; omega
theorem cnt_full {a : Nat → Bool} : ∀ k, cntA a k = k → ∀ i, i < k → a i = true
  | 0, _, i, hi => by omega
  | k + 1, h, i, hi => by
    have c := cnt_le a k
    unfold cntA at h
    split at h
    · rename_i e
      by_cases q : i = k
      · subst q; exact e
      · exact cnt_full k (by omega) i (by omega)
    · omega
def Tight (N : Nat) (xs : List Int) (v : Nat → Int) (i j : Nat) (up : Bool) : Prop := if up = true then fnF N xs i j ∧ v i - v j = bF N xs i j else fnF N xs j i ∧ v j - v i = bF N xs j i
structure Tree (N : Nat) (xs : List Int) (v : Nat → Int) (a : Nat → Bool) (par : Nat → Nat) (up : Nat → Bool) (dep : Nat → Nat) : Prop where
 z : a 0 = true
 d0 : dep 0 = 0
 h : ∀ i, 1 ≤ i → i ≤ N → a i = true → par i ≤ N ∧ par i ≠ i ∧ a (par i) = true ∧ dep (par i) < dep i ∧ dep i < cntA a (N + 1) ∧ Tight N xs v i (par i) (up i)
theorem Tree.more {N : Nat} {xs : List Int} {v v' : Nat → Int} {a : Nat → Bool} {par : Nat → Nat} {up : Nat → Bool} {dep : Nat → Nat} (T : Tree N xs v a par up dep) (hv : ∀ i, a i = true → v' i = v i) {i j : Nat} {b : Bool} (hi : i ≤ N) (hj : j ≤ N) (ai : a i = false) (aj : a j = true)
  (ht : Tight N xs v' i j b) (hd : ∀ k, k ≤ N → a k = true → dep k < cntA a (N + 1)) : ∃ par' up' dep', Tree N xs v' (put1 a i) par' up' dep' ∧ ∀ k, k ≤ N → put1 a i k = true → dep' k < cntA (put1 a i) (N + 1) := by
 have i0 : i ≠ 0 := fun e => by subst e; rw [T.z] at ai; cases ai
 have ij : j ≠ i := fun e => by subst e; rw [aj] at ai; cases ai
 have hc : cntA (put1 a i) (N + 1) = cntA a (N + 1) + 1 := by rw [cnt_put ai, if_pos (by omega)]
 refine ⟨fun k => if k = i then j else par k, fun k => if k = i then b else up k, fun k => if k = i then cntA a (N + 1) else dep k, ⟨?_, ?_, fun k h1 hk hp => ?_⟩, fun k hk hp => ?_⟩
 ·unfold put1; rw [if_neg (fun e => i0 e.symm)]; exact T.z
 ·show (if 0 = i then _ else _) = 0; rw [if_neg (fun e => i0 e.symm)]; exact T.d0
 ·by_cases e : k = i
  ·subst e
   simp only [if_true]
   refine ⟨hj, ij, by unfold put1; rw [if_neg ij]; exact aj, ?_, by omega, ht⟩
   rw [if_neg ij]; exact hd j hj aj
  ·have ak : a k = true := by unfold put1 at hp; rw [if_neg e] at hp; exact hp
   obtain ⟨p1, p2, p3, p4, p5, p6⟩ := T.h k h1 hk ak
   have pi : par k ≠ i := fun c => by rw [c] at p3; rw [p3] at ai; cases ai
   simp only [if_neg e]
   refine ⟨p1, p2, by unfold put1; rw [if_neg pi]; exact p3, by rw [if_neg pi]; exact p4, by omega, ?_⟩
   unfold Tight at p6 ⊢
   rw [hv k ak, hv (par k) p3]; exact p6
 ·show (if k = i then _ else _) < _
  split
  ·omega
  ·rename_i e
   have ak : a k = true := by unfold put1 at hp; rw [if_neg e] at hp; exact hp
   have := hd k hk ak; omega
theorem arg2 (N : Nat) (Q : Nat → Nat → Prop) (f : Nat → Nat → Int) (h : ∃ i j, i ≤ N ∧ j ≤ N ∧ Q i j) : ∃ i j, i ≤ N ∧ j ≤ N ∧ Q i j ∧ ∀ i' j', i' ≤ N → j' ≤ N → Q i' j' → f i j ≤ f i' j' := by
 have key := argmax (fun p => (p - 1) / (N + 1) ≤ N ∧ Q ((p - 1) / (N + 1)) ((p - 1) % (N + 1))) (fun p => -f ((p - 1) / (N + 1)) ((p - 1) % (N + 1))) ((N + 1) * (N + 1))
 have enc : ∀ i j, i ≤ N → j ≤ N → (i * (N + 1) + j + 1 - 1) / (N + 1) = i ∧ (i * (N + 1) + j + 1 - 1) % (N + 1) = j ∧ i * (N + 1) + j + 1 ≤ (N + 1) * (N + 1) := fun i j hi hj => by
  rw [Nat.add_sub_cancel]
  refine ⟨by rw [Nat.mul_comm, Nat.mul_add_div (by omega), Nat.div_eq_of_lt (by omega)]; omega, by rw [Nat.mul_comm, Nat.mul_add_mod, Nat.mod_eq_of_lt (by omega)], ?_⟩
  have := idx_lt N i j hi hj
  omega
 obtain ⟨i, j, hi, hj, hq⟩ := h
 obtain ⟨e1, e2, e3⟩ := enc i j hi hj
 obtain ⟨p, p1, p2, ⟨p3, p4⟩, p5⟩ := key ⟨i * (N + 1) + j + 1, by omega, e3, by rw [e1]; exact hi, by rw [e1, e2]; exact hq⟩
 refine ⟨(p - 1) / (N + 1), (p - 1) % (N + 1), p3, by have := Nat.mod_lt (p - 1) (show 0 < N + 1 by omega); omega, p4, fun i' j' hi' hj' hq' => ?_⟩
 obtain ⟨e1, e2, e3⟩ := enc i' j' hi' hj'
 have := p5 (i' * (N + 1) + j' + 1) (by omega) e3 ⟨by rw [e1]; exact hi', by rw [e1, e2]; exact hq'⟩
 rw [e1, e2] at this
 omega
theorem anchor {N : Nat} {xs : List Int} {c : Int} {rs : List Int} (h : OkZ N xs) (hnf : ¬ Fall N xs rs) {v : Nat → Int} {a : Nat → Bool} {par : Nat → Nat} {up : Nat → Bool} {dep : Nat → Nat} (hv : PI N xs v) (T : Tree N xs v a par up dep) (hd : ∀ k, k ≤ N → a k = true → dep k < cntA a (N + 1))
  {m : Nat} (hm : m ≤ N) (am : a m = false) : ∃ v' i par' up' dep', i ≤ N ∧ a i = false ∧ PI N xs v' ∧ cS N xs c rs v' N ≤ cS N xs c rs v N ∧ Tree N xs v' (put1 a i) par' up' dep' ∧ ∀ k, k ≤ N → put1 a i k = true → dep' k < cntA (put1 a i) (N + 1) := by
 by_cases hw : wU rs a N < 0
 ·-- up
  have ex : ∃ i j, i ≤ N ∧ j ≤ N ∧ (a i = false ∧ a j = true ∧ fnF N xs i j) := by
   refine Classical.byContradiction fun hn => hnf ⟨a, T.z, fun i j hi hj ai aj hf => hn ⟨i, j, hi, hj, ai, aj, hf⟩, hw⟩
  obtain ⟨i, j, hi, hj, ⟨ai, aj, hf⟩, mn⟩ := arg2 N _ (fun i j => bF N xs i j - (v i - v j)) ex
  have t0 := hv.2 i j hi hj hf
  obtain ⟨t, ht⟩ : ∃ t, t = bF N xs i j - (v i - v j) := ⟨_, rfl⟩
  refine ⟨mv v a t, i, ?_⟩
  have keep : ∀ k, a k = true → mv v a t k = v k := fun k hk => by unfold mv; rw [if_pos hk]
  have move : ∀ k, a k = false → mv v a t k = v k + t := fun k hk => by unfold mv; rw [if_neg (by rw [hk]; simp)]
  obtain ⟨par', up', dep', T', hd'⟩ := T.more (v' := mv v a t) (b := true) keep hi hj ai aj (by unfold Tight; rw [if_pos rfl, move i ai, keep j aj]; exact ⟨hf, by omega⟩) hd
  refine ⟨par', up', dep', hi, ai, ⟨by rw [keep 0 T.z]; exact hv.1, fun x y hx hy hxy => ?_⟩, ?_, T', hd'⟩
  ·have k := hv.2 x y hx hy hxy
   cases ax : a x with
   | true =>
    rw [keep x ax]
    cases ay : a y with
    | true => rw [keep y ay]; exact k
    | false => rw [move y ay]; omega
   | false =>
    rw [move x ax]
    cases ay : a y with
    | true => rw [keep y ay]; have := mn x y hx hy ⟨ax, ay, hxy⟩; omega
    | false => rw [move y ay]; omega
  ·rw [cS_mv]
   have := Int.mul_nonneg (a := t) (b := -wU rs a N) (by omega) (by omega)
   rw [Int.mul_neg] at this; omega
 ·-- down
  have ex : ∃ j i, j ≤ N ∧ i ≤ N ∧ (a i = false ∧ a j = true ∧ fnF N xs j i) := ⟨0, m, Nat.zero_le _, hm, am, T.z, (b_low h hm).1⟩
  obtain ⟨j, i, hj, hi, ⟨ai, aj, hf⟩, mn⟩ := arg2 N _ (fun j i => bF N xs j i - (v j - v i)) ex
  have t0 := hv.2 j i hj hi hf
  obtain ⟨t, ht⟩ : ∃ t, t = (v j - v i) - bF N xs j i := ⟨_, rfl⟩
  refine ⟨mv v a t, i, ?_⟩
  have keep : ∀ k, a k = true → mv v a t k = v k := fun k hk => by unfold mv; rw [if_pos hk]
  have move : ∀ k, a k = false → mv v a t k = v k + t := fun k hk => by unfold mv; rw [if_neg (by rw [hk]; simp)]
  obtain ⟨par', up', dep', T', hd'⟩ := T.more (v' := mv v a t) (b := false) keep hi hj ai aj (by unfold Tight; rw [if_neg (by simp), move i ai, keep j aj]; exact ⟨hf, by omega⟩) hd
  refine ⟨par', up', dep', hi, ai, ⟨by rw [keep 0 T.z]; exact hv.1, fun x y hx hy hxy => ?_⟩, ?_, T', hd'⟩
  ·have k := hv.2 x y hx hy hxy
   cases ax : a x with
   | true =>
    rw [keep x ax]
    cases ay : a y with
    | true => rw [keep y ay]; exact k
    | false => rw [move y ay]; have := mn x y hx hy ⟨ay, ax, hxy⟩; omega
   | false =>
    rw [move x ax]
    cases ay : a y with
    | true => rw [keep y ay]; omega
    | false => rw [move y ay]; omega
  ·rw [cS_mv]
   have := Int.mul_nonneg (a := -t) (b := wU rs a N) (by omega) (by omega)
   rw [Int.neg_mul] at this; omega
theorem to_corner {N : Nat} {xs : List Int} {c : Int} {rs : List Int} (h : OkZ N xs) (hnf : ¬ Fall N xs rs) {v : Nat → Int} (hv : PI N xs v) : ∃ u par up dep, PI N xs u ∧ cS N xs c rs u N ≤ cS N xs c rs v N ∧ Tree N xs u (fun _ => true) par up dep ∧ ∀ k, k ≤ N → dep k ≤ N := by
  have key : ∀ n (v : Nat → Int) (a : Nat → Bool) par up dep, N + 1 - cntA a (N + 1) ≤ n → PI N xs v → Tree N xs v a par up dep → (∀ k, k ≤ N → a k = true → dep k < cntA a (N + 1)) →
      ∃ u a' par up dep, PI N xs u ∧ cS N xs c rs u N ≤ cS N xs c rs v N ∧ Tree N xs u a' par up dep ∧ (∀ k, k ≤ N → a' k = true → dep k < cntA a' (N + 1)) ∧ ∀ k, k ≤ N → a' k = true := by
    intro n
    induction n with
    | zero =>
      intro v a par up dep hn hv T hd
      have := cnt_le a (N + 1)
      exact ⟨v, a, par, up, dep, hv, Int.le_refl _, T, hd, fun k hk => cnt_full (N + 1) (by omega) k (by omega)⟩
    | succ n ih =>
      intro v a par up dep hn hv T hd
      by_cases hall : ∀ k, k ≤ N → a k = true
      · exact ⟨v, a, par, up, dep, hv, Int.le_refl _, T, hd, hall⟩
      · obtain ⟨m, hm⟩ := Classical.not_forall.1 hall
        obtain ⟨hm1, hm2⟩ := Classical.not_imp.1 hm
        obtain ⟨v', i, par', up', dep', hi, ai, hv', hc, T', hd'⟩ := anchor (c := c) h hnf hv T hd hm1 (by simpa using hm2)
        have e : cntA (put1 a i) (N + 1) = cntA a (N + 1) + 1 := by rw [cnt_put ai, if_pos (by omega)]
        obtain ⟨u, a', p, q, r, h1, h2, h3⟩ := ih v' (put1 a i) par' up' dep' (by omega) hv' T' hd'
        exact ⟨u, a', p, q, r, h1, Int.le_trans h2 hc, h3⟩
  have c1 : ∀ k, cntA (fun k => decide (k = 0)) (k + 1) = 1 := by
    intro k
    induction k with
    | zero => rfl
    | succ k ih => show cntA _ (k + 1) + _ = 1; rw [ih]; simp
  obtain ⟨u, a', par, up, dep, h1, h2, h3, h4, h5⟩ := key (N + 1) v (fun k => decide (k = 0)) (fun _ => 0) (fun _ => true) (fun _ => 0) (by omega) hv ⟨rfl, rfl, fun i h1 h2 h3 => by simp at h3; omega⟩ (fun k hk _ => by rw [c1]; omega)
  refine ⟨u, par, up, dep, h1, h2, ⟨rfl, h3.d0, fun i i1 i2 _ => ?_⟩, fun k hk => ?_⟩
  · obtain ⟨p1, p2, p3, p4, p5, p6⟩ := h3.h i i1 i2 (h5 i i2)
    have := cnt_le a' (N + 1)
    have e : cntA (fun _ => true) (N + 1) = N + 1 := by
      have : ∀ k, cntA (fun _ => true) k = k := by
        intro k
        induction k with
        | zero => rfl
        | succ k ih => show cntA _ k + 1 = k + 1; rw [ih]
      exact this _
    exact ⟨p1, p2, rfl, p4, by rw [e]; omega, p6⟩
  · have := h4 k hk (h5 k hk)
    have := cnt_le a' (N + 1)
    omega
set_option linter.unusedVariables false
def fnB (N : Nat) (xs : List Int) (i j : Nat) : Bool := decide (ent N xs i j ≠ 1099511627776)
theorem fnB_iff {N : Nat} {xs : List Int} {i j : Nat} : fnB N xs i j = true ↔ fnF N xs i j := by unfold fnB fnF; simp
def upI (f : Nat → Int) (i : Nat) (x : Int) : Nat → Int := fun k => if k = i then x else f k
def upB (f : Nat → Bool) (i : Nat) (x : Bool) : Nat → Bool := fun k => if k = i then x else f k
theorem upI_same (f : Nat → Int) (i : Nat) (x : Int) : upI f i x i = x := by unfold upI; rw [if_pos rfl]
theorem upI_ne {f : Nat → Int} {i k : Nat} {x : Int} (h : k ≠ i) : upI f i x k = f k := by unfold upI; rw [if_neg h]
theorem upB_same (f : Nat → Bool) (i : Nat) (x : Bool) : upB f i x i = x := by unfold upB; rw [if_pos rfl]
theorem upB_ne {f : Nat → Bool} {i k : Nat} {x : Bool} (h : k ≠ i) : upB f i x k = f k := by unfold upB; rw [if_neg h]
def cnStep (N : Nat) (xs : List Int) (dg : Nat → Nat) (s : (Nat → Int) × (Nat → Bool)) (i : Nat) : (Nat → Int) × (Nat → Bool) :=
 if dg i % (N + 1) = i ∨ (0 < dg i % (N + 1) ∧ s.2 (dg i % (N + 1)) = false) then s
 else if dg i ≤ N then (upI s.1 i ((if 0 < dg i % (N + 1) then s.1 (dg i % (N + 1)) else 0) + bF N xs i (dg i % (N + 1))), upB s.2 i (fnB N xs i (dg i % (N + 1))))
 else (upI s.1 i ((if 0 < dg i % (N + 1) then s.1 (dg i % (N + 1)) else 0) - bF N xs (dg i % (N + 1)) i), upB s.2 i (fnB N xs (dg i % (N + 1)) i))
def cnI (N : Nat) (xs : List Int) (dg : Nat → Nat) (s : (Nat → Int) × (Nat → Bool)) : Nat → (Nat → Int) × (Nat → Bool)
 | 0 => s
 | i + 1 => cnStep N xs dg (cnI N xs dg s i) (i + 1)
def cnR (N : Nat) (xs : List Int) (dg : Nat → Nat) : Nat → (Nat → Int) × (Nat → Bool)
 | 0 => (fun _ => 0, fun _ => false)
 | r + 1 => cnI N xs dg (cnR N xs dg r) N
def Near (N : Nat) (xs : List Int) : Prop := ∀ i j, i ≤ N → j ≤ N → fnF N xs i j → -67108864 ≤ bF N xs i j ∧ bF N xs i j ≤ 67108864
def Kb (N : Nat) (s : (Nat → Int) × (Nat → Bool)) (B : Int) : Prop := ∀ i, 1 ≤ i → i ≤ N → s.2 i = true → -B ≤ s.1 i ∧ s.1 i ≤ B
theorem Kb.step {N : Nat} {xs : List Int} {dg : Nat → Nat} {s : (Nat → Int) × (Nat → Bool)} {B : Int} (hB : 0 ≤ B) (hn : Near N xs) (h : Kb N s B) {i : Nat} (hi : i ≤ N) : Kb N (cnStep N xs dg s i) (B + 67108864) := by
 have hj : dg i % (N + 1) ≤ N := by have := Nat.mod_lt (dg i) (show 0 < N + 1 by omega); omega
 unfold cnStep
 split
 ·intro k k1 k2 k3; have := h k k1 k2 k3; omega
 ·rename_i c
  have at0 : -B ≤ (if 0 < dg i % (N + 1) then s.1 (dg i % (N + 1)) else 0) ∧ (if 0 < dg i % (N + 1) then s.1 (dg i % (N + 1)) else 0) ≤ B := by
   by_cases e : 0 < dg i % (N + 1)
   ·rw [if_pos e]
    exact h _ (by omega) hj (by
     cases hk : s.2 (dg i % (N + 1)) with
     | true => rfl
     | false => exact absurd (.inr ⟨e, hk⟩) c)
   ·rw [if_neg e]; omega
  split
  ·intro k k1 k2 k3
   by_cases e : k = i
   ·subst e
    simp only [upB_same] at k3
    simp only [upI_same]
    have := hn _ _ k2 hj (fnB_iff.1 k3)
    omega
   ·simp only [upB_ne e] at k3
    simp only [upI_ne e]
    have := h k k1 k2 k3; omega
  ·intro k k1 k2 k3
   by_cases e : k = i
   ·subst e
    simp only [upB_same] at k3
    simp only [upI_same]
    have := hn _ _ hj k2 (fnB_iff.1 k3)
    omega
   ·simp only [upB_ne e] at k3
    simp only [upI_ne e]
    have := h k k1 k2 k3; omega
theorem Kb.inner {N : Nat} {xs : List Int} {dg : Nat → Nat} {s : (Nat → Int) × (Nat → Bool)} {B : Int} (hB : 0 ≤ B) (hn : Near N xs) (h : Kb N s B) : ∀ i, i ≤ N → Kb N (cnI N xs dg s i) (B + i * 67108864)
  | 0, _ => by
    have e : Kb N s (B + ((0 : Nat) : Int) * 67108864) := by intro k k1 k2 k3; have := h k k1 k2 k3; omega
    exact e
  | i + 1, hi => by
    have q := (Kb.inner (dg := dg) hB hn h i (by omega)).step (dg := dg) (by omega) hn hi
    have e : Kb N (cnStep N xs dg (cnI N xs dg s i) (i + 1)) (B + ((i + 1 : Nat) : Int) * 67108864) := by intro k k1 k2 k3; have := q k k1 k2 k3; omega
    exact e
theorem Kb.all {N : Nat} {xs : List Int} {dg : Nat → Nat} (hN : N ≤ 3) (hn : Near N xs) : ∀ r, r ≤ N → Kb N (cnR N xs dg r) (r * 201326592)
  | 0, _ => by intro k k1 k2 k3; cases k3
  | r + 1, hr => by
    have q := Kb.inner (dg := dg) (by omega) hn (Kb.all (dg := dg) hN hn r (by omega)) N (Nat.le_refl _)
    have e : Kb N (cnI N xs dg (cnR N xs dg r) N) (((r + 1 : Nat) : Int) * 201326592) := by intro k k1 k2 k3; have := q k k1 k2 k3; omega
    exact e
theorem corner_ok {N : Nat} {xs : List Int} {u : Nat → Int} {par : Nat → Nat} {up : Nat → Bool} {dep : Nat → Nat} {dg : Nat → Nat} (hu : u 0 = 0) (T : Tree N xs u (fun _ => true) par up dep) (hd : ∀ k, k ≤ N → dep k ≤ N) (hg : ∀ i, 1 ≤ i → i ≤ N → dg i = if up i = true then par i else par i + (N + 1)) :
    ∀ i, 1 ≤ i → i ≤ N → (cnR N xs dg N).2 i = true ∧ (cnR N xs dg N).1 i = u i := by
  have hmod : ∀ i, 1 ≤ i → i ≤ N → dg i % (N + 1) = par i := fun i h1 h2 => by
    obtain ⟨p1, _⟩ := T.h i h1 h2 rfl
    rw [hg i h1 h2]
    split
    · exact Nat.mod_eq_of_lt (by omega)
    · rw [Nat.add_mod_right]; exact Nat.mod_eq_of_lt (by omega)
  have step : ∀ (s : (Nat → Int) × (Nat → Bool)) r i, i + 1 ≤ N → (∀ k, 1 ≤ k → k ≤ N → s.2 k = true → s.1 k = u k) → (∀ k, 1 ≤ k → k ≤ N → (dep k ≤ r ∨ (k ≤ i ∧ dep k ≤ r + 1)) → s.2 k = true) →
      (∀ k, 1 ≤ k → k ≤ N → (cnStep N xs dg s (i + 1)).2 k = true → (cnStep N xs dg s (i + 1)).1 k = u k) ∧ (∀ k, 1 ≤ k → k ≤ N → (dep k ≤ r ∨ (k ≤ i + 1 ∧ dep k ≤ r + 1)) → (cnStep N xs dg s (i + 1)).2 k = true) := by
    intro s r i hi h1 h2
    obtain ⟨p1, p2, _, p4, _, p6⟩ := T.h (i + 1) (by omega) hi rfl
    have hm := hmod (i + 1) (by omega) hi
    have hgi := hg (i + 1) (by omega) hi
    unfold cnStep
    rw [hm]
    by_cases c : par (i + 1) = i + 1 ∨ (0 < par (i + 1) ∧ s.2 (par (i + 1)) = false)
    · rw [if_pos c]
      refine ⟨h1, fun k k1 k2 k3 => ?_⟩
      by_cases e : k = i + 1
      · subst e
        rcases c with c | ⟨c1, c2⟩
        · exact absurd c p2
        · have := h2 (par (i + 1)) (by omega) p1 (.inl (by omega))
          rw [c2] at this; cases this
      · exact h2 k k1 k2 (k3.elim (fun q => .inl q) (fun q => .inr ⟨by omega, q.2⟩))
    · rw [if_neg c]
      have at0 : (if 0 < par (i + 1) then s.1 (par (i + 1)) else 0) = u (par (i + 1)) := by
        by_cases e : 0 < par (i + 1)
        · rw [if_pos e]
          exact h1 _ (by omega) p1 (by
            cases hk : s.2 (par (i + 1)) with
            | true => rfl
            | false => exact absurd (.inr ⟨e, hk⟩) c)
        · rw [if_neg e, show par (i + 1) = 0 by omega, hu]
      rw [at0]
      have fin : ∀ (x : Int) (b : Bool), x = u (i + 1) → b = true → (∀ k, 1 ≤ k → k ≤ N → upB s.2 (i + 1) b k = true → upI s.1 (i + 1) x k = u k) ∧ (∀ k, 1 ≤ k → k ≤ N → (dep k ≤ r ∨ (k ≤ i + 1 ∧ dep k ≤ r + 1)) → upB s.2 (i + 1) b k = true) := by
        intro x b hx hb
        refine ⟨fun k k1 k2 k3 => ?_, fun k k1 k2 k3 => ?_⟩
        · by_cases e : k = i + 1
          · subst e; rw [upI_same]; exact hx
          · rw [upI_ne e]; rw [upB_ne e] at k3; exact h1 k k1 k2 k3
        · by_cases e : k = i + 1
          · subst e; rw [upB_same]; exact hb
          · rw [upB_ne e]; exact h2 k k1 k2 (k3.elim (fun q => .inl q) (fun q => .inr ⟨by omega, q.2⟩))
      unfold Tight at p6
      by_cases hup : up (i + 1) = true
      · rw [if_pos hup] at p6 hgi
        rw [hgi, if_pos p1]
        exact fin _ _ (by omega) (fnB_iff.2 p6.1)
      · rw [if_neg hup] at p6 hgi
        rw [hgi, if_neg (by omega)]
        exact fin _ _ (by omega) (fnB_iff.2 p6.1)
  have inner : ∀ (s : (Nat → Int) × (Nat → Bool)) r, (∀ k, 1 ≤ k → k ≤ N → s.2 k = true → s.1 k = u k) → (∀ k, 1 ≤ k → k ≤ N → dep k ≤ r → s.2 k = true) → ∀ i, i ≤ N →
      (∀ k, 1 ≤ k → k ≤ N → (cnI N xs dg s i).2 k = true → (cnI N xs dg s i).1 k = u k) ∧ (∀ k, 1 ≤ k → k ≤ N → (dep k ≤ r ∨ (k ≤ i ∧ dep k ≤ r + 1)) → (cnI N xs dg s i).2 k = true) := by
    intro s r h1 h2 i
    induction i with
    | zero => intro _; exact ⟨h1, fun k k1 k2 k3 => h2 k k1 k2 (by omega)⟩
    | succ i ih => intro hi; obtain ⟨a, b⟩ := ih (by omega); exact step _ r i hi a b
  have all : ∀ r, (∀ k, 1 ≤ k → k ≤ N → (cnR N xs dg r).2 k = true → (cnR N xs dg r).1 k = u k) ∧ (∀ k, 1 ≤ k → k ≤ N → dep k ≤ r → (cnR N xs dg r).2 k = true) := by
    intro r
    induction r with
    | zero =>
      refine ⟨(fun k k1 k2 k3 => by cases k3), fun k k1 k2 k3 => ?_⟩
      obtain ⟨_, _, _, p4, _⟩ := T.h k k1 k2 rfl
      omega
    | succ r ih =>
      obtain ⟨a, b⟩ := inner _ r ih.1 ih.2 N (Nat.le_refl _)
      exact ⟨a, fun k k1 k2 k3 => b k k1 k2 (.inr ⟨k2, k3⟩)⟩
  intro i h1 h2
  obtain ⟨a, b⟩ := all N
  have k := b i h1 h2 (hd i h2)
  exact ⟨k, a i h1 h2 k⟩
def vl (M : Int) : List Int → Int
 | [] => 0
 | x :: l => x + M * vl M l
def Dig (M : Int) (l : List Int) : Prop := ∀ x, x ∈ l → 0 ≤ x ∧ x < M
theorem vl_nonneg {M : Int} (hM : 0 ≤ M) : ∀ l, Dig M l → 0 ≤ vl M l
  | [], _ => Int.le_refl _
  | x :: l, h => by
    have a := h x (.head _)
    have b := Int.mul_nonneg hM (vl_nonneg hM l (fun y hy => h y (.tail _ hy)))
    show 0 ≤ x + M * vl M l
    omega
theorem vl_inj {M : Int} (hM : 1 ≤ M) : ∀ (l l' : List Int), Dig M l → Dig M l' → l.length = l'.length → vl M l = vl M l' → l = l'
  | [], [], _, _, _, _ => rfl
  | x :: l, y :: l', h, h', hl, hv => by
    have a := h x (.head _)
    have b := h' y (.head _)
    have e : x + M * vl M l = y + M * vl M l' := hv
    have m1 : (x + M * vl M l) % M = x := by rw [Int.add_mul_emod_self_left]; exact Int.emod_eq_of_lt a.1 a.2
    have m2 : (y + M * vl M l') % M = y := by rw [Int.add_mul_emod_self_left]; exact Int.emod_eq_of_lt b.1 b.2
    have exy : x = y := by rw [← m1, ← m2, e]
    subst exy
    have e2 : M * vl M l = M * vl M l' := by omega
    have e3 := Int.eq_of_mul_eq_mul_left (by omega) e2
    rw [vl_inj hM l l' (fun z hz => h z (.tail _ hz)) (fun z hz => h' z (.tail _ hz)) (by simpa using hl) e3]
  | [], _ :: _, _, _, hl, _ => by simp at hl
  | _ :: _, [], _, _, hl, _ => by simp at hl
theorem vl_carry {M : Int} : ∀ (i : Nat) (l : List Int), vl M (List.replicate i (M - 1) ++ l) + 1 = vl M (List.replicate i 0 ++ l) + M ^ i
  | 0, l => by simp
  | i + 1, l => by
    show (M - 1) + M * vl M (List.replicate i (M - 1) ++ l) + 1 = 0 + M * vl M (List.replicate i 0 ++ l) + M ^ (i + 1)
    have := vl_carry (M := M) i l
    have e : vl M (List.replicate i (M - 1) ++ l) = vl M (List.replicate i 0 ++ l) + M ^ i - 1 := by omega
    rw [e, Int.mul_sub, Int.mul_add, Int.pow_succ, Int.mul_comm (M ^ i) M]
    omega
theorem vl_inc {M : Int} : ∀ (i : Nat) (x : Int) (l : List Int), vl M (List.replicate i 0 ++ (x + 1) :: l) = vl M (List.replicate i 0 ++ x :: l) + M ^ i
 | 0, x, l => by show (x + 1) + _ = (x + _) + M ^ 0; rw [Int.pow_zero]; omega
 | i + 1, x, l => by
  show 0 + M * vl M (List.replicate i 0 ++ (x + 1) :: l) = 0 + M * vl M (List.replicate i 0 ++ x :: l) + M ^ (i + 1)
  rw [vl_inc i x l, Int.mul_add, Int.pow_succ, Int.mul_comm (M ^ i) M]; omega
end Go.Proofs.YtfphlpglgcmljaaGreat
