/- Part of the proof of priced_covers_proved: Psl, Wtb, Cvc. -/
import Derived.Deep.RegionHeld3
import Derived.Test.YtfphlpglgcmljaaGreatXvCvb
import Derived.Test.YtfphlpglgcmljaaGreatXvPla
import Derived.Test.YtfphlpglgcmljaaGreatXvSta
import Derived.Test.YtfphlpglgcmljaaGreatXvPap
import Derived.Test.YtfphlpglgcmljaaGreatXvQ
import Derived.Test.YtfphlpglgcmljaaGreatXvRat
import Derived.Test.YtfphlpglgcmljaaGreatXvInc
import Derived.Test.YtfphlpglgcmljaaGreatXvBox
namespace Go.Proofs.YtfphlpglgcmljaaGreat
open Go.RowKit
set_option linter.unusedVariables false
def LR (w : World) (els : List Pz) : Prop := ∀ x, x ∈ els → RL w.heap.size w x.zv x.xs ∧ RL w.heap.size w x.rv x.rs
theorem LR.keepb {w w' : World} {els : List Pz} (h : LR w els) (hb : Below w.heap.size w w') : LR w' els := fun x hx => ⟨(h x hx).1.keepb hb, (h x hx).2.keepb hb⟩
theorem LZ.lr {w : World} {els : List Pz} (h : LZ w els) : LR w els := fun x hx => ⟨OL.rl (h x hx).1, OL.rl (h x hx).2⟩
def GR (r : List Pv) (v : Value) (w : World) : Prop := ∃ els, RX cdPz w.heap.size w v els ∧ LR w els ∧ els.map pvOf = r
theorem GR.keepb {r : List Pv} {v : Value} {w w' : World} (h : GR r v w) (hb : Below w.heap.size w w') : GR r v w' := by
 obtain ⟨els, h1, h2, h3⟩ := h
 exact ⟨els, h1.keepb hb, h2.keepb hb, h3⟩
theorem GaP.gr {base : Nat} {r : List Pv × Int} {e : Ending} {w' : World} (h : GaP base r e w') : ∃ v', e = .returned (.tuple #[v', .int .i64 r.2]) ∧ GR r.1 v' w' := by
 obtain ⟨v', els, h1, h2, h3, h4⟩ := h
 exact ⟨v', h1, els, OE.re (by decide) h2, h3.lr, h4⟩
set_option linter.unusedVariables false
def Mn (S : Int → Prop) (r : Int × Bool) : Prop := (r = (0, false) ∧ ∀ x, ¬ S x) ∨ (r.2 = true ∧ S r.1 ∧ ∀ x, S x → r.1 ≤ x)
theorem Mn.none : Mn (fun _ => False) (0, false) := .inl ⟨rfl, fun _ h => h⟩
theorem Mn.congr {S S' : Int → Prop} {r : Int × Bool} (h : Mn S r) (e : ∀ x, S x ↔ S' x) : Mn S' r := by
 rcases h with ⟨h1, h2⟩ | ⟨h1, h2, h3⟩
 ·exact .inl ⟨h1, fun x k => h2 x ((e x).2 k)⟩
 ·exact .inr ⟨h1, (e _).1 h2, fun x k => h3 x ((e x).2 k)⟩
theorem Mn.step {S : Int → Prop} {r : Int × Bool} (h : Mn S r) (x : Int) : Mn (fun y => S y ∨ y = x) (if r.2 = false ∨ x < r.1 then (x, true) else r) := by
 rcases h with ⟨h1, h2⟩ | ⟨h1, h2, h3⟩
 ·subst h1
  rw [if_pos (.inl rfl)]
  exact .inr ⟨rfl, .inr rfl, fun y hy => by
   rcases hy with hy | hy
   ·exact absurd hy (h2 y)
   ·rw [hy]; exact Int.le_refl _⟩
 ·by_cases c : x < r.1
  ·rw [if_pos (.inr c)]
   exact .inr ⟨rfl, .inr rfl, fun y hy => by
    rcases hy with hy | hy
    ·exact Int.le_trans (Int.le_of_lt c) (h3 y hy)
    ·rw [hy]; exact Int.le_refl _⟩
  ·rw [if_neg (by rw [h1]; simp; omega)]
   exact .inr ⟨h1, .inl h2, fun y hy => by
    rcases hy with hy | hy
    ·exact h3 y hy
    ·rw [hy]; omega⟩
theorem Mn.eq {S S' : Int → Prop} {r r' : Int × Bool} (h : Mn S r) (h' : Mn S' r') (h1 : ∀ x, S x → S' x) (h2 : ∀ y, S' y → ∃ x, S x ∧ x ≤ y) : r = r' := by
 rcases h with ⟨e, n⟩ | ⟨e, s, m⟩
 ·rcases h' with ⟨e', n'⟩ | ⟨e', s', m'⟩
  ·rw [e, e']
  ·obtain ⟨x, hx, _⟩ := h2 _ s'
   exact absurd hx (n x)
 ·rcases h' with ⟨e', n'⟩ | ⟨e', s', m'⟩
  ·exact absurd (h1 _ s) (n' _)
  ·obtain ⟨x, hx, hl⟩ := h2 _ s'
   have a := m x hx
   have b := m' _ (h1 _ s)
   exact Prod.ext (by omega) (by rw [e, e'])
theorem SmZ.at {N : Nat} {xs : List Int} {c : Int} {rs : List Int} (hz : SmZ N xs c rs) {p : Nat → Int} (hp : Sp9 N p) : patF N xs c rs (ipts p N) = ((cS N xs c rs p N, 1), 0) ∧ -10000000 ≤ cS N xs c rs p N ∧ cS N xs c rs p N ≤ 10000000 := by
 have cb := hz.cb
 have n3 := hz.n3
 have hd : ∀ k, 1 ≤ k → k ≤ N → -1020 ≤ p k - lowF N xs k ∧ p k - lowF N xs k ≤ 1020 := fun k h1 h2 => by have := hp.b k h2; have := hz.low h2; omega
 have b := cS_bd (c := c) hz.rb hd N (Nat.le_refl _)
 have hN : (N : Int) ≤ 3 := by omega
 exact ⟨at_int n3 hz.pz hp (by omega) (fun k hk => by have := hz.rb k hk; omega) (fun k h1 h2 => by have := hz.low h2; omega), by omega, by omega⟩
set_option linter.unusedVariables false
def dgL (ch : List Int) : Nat → Nat := fun i => (gi ch (i - 1)).toNat
def cornV (N : Nat) (xs ch : List Int) : Nat → Int := fun i => if i = 0 then 0 else (cnR N xs (dgL ch) N).1 i
def CorOk (N : Nat) (xs ch : List Int) : Prop := (∀ i, 1 ≤ i → i ≤ N → (cnR N xs (dgL ch) N).2 i = true) ∧ PI N xs (cornV N xs ch)
def Cho (N : Nat) (ch : List Int) : Prop := ch.length = N ∧ Dig (2 * N + 2) ch
theorem PI.congr {N : Nat} {xs : List Int} {u v : Nat → Int} (h : PI N xs u) (e : ∀ i, i ≤ N → v i = u i) : PI N xs v := ⟨by rw [e 0 (Nat.zero_le _)]; exact h.1, fun i j hi hj hf => by rw [e i hi, e j hj]; exact h.2 i j hi hj hf⟩
theorem cS_congr {N : Nat} {xs : List Int} {c : Int} {rs : List Int} {u v : Nat → Int} : ∀ k, (∀ i, 1 ≤ i → i ≤ k → v i = u i) → cS N xs c rs v k = cS N xs c rs u k
 | 0, _ => rfl
 | k + 1, h => by
  show cS N xs c rs v k + _ = cS N xs c rs u k + _
  rw [cS_congr k (fun i h1 h2 => h i h1 (by omega)), h (k + 1) (by omega) (Nat.le_refl _)]
theorem tree_choice {N : Nat} {xs : List Int} {u : Nat → Int} {par : Nat → Nat} {up : Nat → Bool} {dep : Nat → Nat} (hu : PI N xs u) (T : Tree N xs u (fun _ => true) par up dep) (hd : ∀ k, k ≤ N → dep k ≤ N) : ∃ ch, Cho N ch ∧ CorOk N xs ch ∧ ∀ i, i ≤ N → cornV N xs ch i = u i := by
 obtain ⟨d, hdd⟩ : ∃ d : Nat → Nat, d = fun i => if up i = true then par i else par i + (N + 1) := ⟨_, rfl⟩
 have hch : ∀ i, 1 ≤ i → i ≤ N → dgL ((List.range N).map fun k => ((d (k + 1) : Nat) : Int)) i = if up i = true then par i else par i + (N + 1) := fun i h1 h2 => by
  unfold dgL
  have e : gi ((List.range N).map fun k => ((d (k + 1) : Nat) : Int)) (i - 1) = ((d i : Nat) : Int) := by
   unfold gi
   rw [List.getD_eq_getElem?_getD, List.getElem?_map, List.getElem?_range (by omega)]
   show ((d (i - 1 + 1) : Nat) : Int) = _
   rw [show i - 1 + 1 = i by omega]
  rw [e, Int.toNat_natCast, hdd]
 have C := corner_ok hu.1 T hd hch
 have V : ∀ i, i ≤ N → cornV N xs ((List.range N).map fun k => ((d (k + 1) : Nat) : Int)) i = u i := fun i hi => by
  unfold cornV
  split
  ·rename_i e; subst e; exact hu.1.symm
  ·exact (C i (by omega) hi).2
 refine ⟨_, ⟨by simp, fun x hx => ?_⟩, ⟨fun i h1 h2 => (C i h1 h2).1, hu.congr V⟩, V⟩
 rw [List.mem_map] at hx
 obtain ⟨k, hk, rfl⟩ := hx
 rw [List.mem_range] at hk
 obtain ⟨p1, _⟩ := T.h (k + 1) (by omega) (by omega) rfl
 rw [hdd]
 simp only
 split <;> omega
theorem corners_all {N : Nat} {xs : List Int} {c : Int} {rs : List Int} (h : OkZ N xs) (hnf : ¬ Fall N xs rs) {r : Int × Bool} (hr : Mn (fun y => ∃ ch, Cho N ch ∧ CorOk N xs ch ∧ y = cS N xs c rs (cornV N xs ch) N) r) : r.2 = true ∧ (0 ≤ r.1 ↔ ∀ v, PI N xs v → 0 ≤ cS N xs c rs v N) := by
 have low : ∀ v, PI N xs v → ∃ ch, Cho N ch ∧ CorOk N xs ch ∧ cS N xs c rs (cornV N xs ch) N ≤ cS N xs c rs v N := fun v hv => by
  obtain ⟨u, par, up, dep, h1, h2, h3, h4⟩ := to_corner (c := c) h hnf hv
  obtain ⟨ch, c1, c2, c3⟩ := tree_choice h1 h3 h4
  exact ⟨ch, c1, c2, by rw [cS_congr N (fun i _ hi => c3 i hi)]; exact h2⟩
 rcases hr with ⟨_, hn⟩ | ⟨hf, ⟨ch, a1, a2, a3⟩, hm⟩
 ·obtain ⟨ch, c1, c2, _⟩ := low _ (low_pi h)
  exact absurd ⟨ch, c1, c2, rfl⟩ (hn _)
 ·refine ⟨hf, fun h0 v hv => ?_, fun ha => by rw [a3]; exact ha _ a2.2⟩
  obtain ⟨ch', c1, c2, c3⟩ := low v hv
  have := hm _ ⟨ch', c1, c2, rfl⟩
  omega
theorem fall_no {N : Nat} {xs : List Int} {c : Int} {rs : List Int} (h : OkZ N xs) (hf : Fall N xs rs) : ¬ ∀ v, PI N xs v → 0 ≤ cS N xs c rs v N := fun ha => by
 obtain ⟨u, h1, h2⟩ := fall_end (c := c) hf (low_pi h)
 have := ha u h1
 omega
theorem cho_next {N : Nat} {xs : List Int} {c : Int} {rs : List Int} {ch : List Int} (hc : Cho N ch) {r : Int × Bool} (hr : Mn (fun y => ∃ ch', Cho N ch' ∧ vl (2 * N + 2) ch' < vl (2 * N + 2) ch ∧ CorOk N xs ch' ∧ y = cS N xs c rs (cornV N xs ch') N) r) :
  Mn (fun y => ∃ ch', Cho N ch' ∧ vl (2 * N + 2) ch' < vl (2 * N + 2) ch + 1 ∧ CorOk N xs ch' ∧ y = cS N xs c rs (cornV N xs ch') N) (open Classical in if CorOk N xs ch then (if r.2 = false ∨ cS N xs c rs (cornV N xs ch) N < r.1 then (cS N xs c rs (cornV N xs ch) N, true) else r) else r) := by
 have same : ∀ ch', Cho N ch' → vl (2 * N + 2) ch' < vl (2 * N + 2) ch + 1 → vl (2 * N + 2) ch' < vl (2 * N + 2) ch ∨ ch' = ch := fun ch' h1 h2 => by
  by_cases e : vl (2 * N + 2) ch' < vl (2 * N + 2) ch
  ·exact .inl e
  ·exact .inr (vl_inj (by omega) ch' ch h1.2 hc.2 (by rw [h1.1, hc.1]) (by omega))
 split
 ·rename_i ok
  refine (hr.step _).congr (fun y => ⟨?_, ?_⟩)
  ·rintro (⟨ch', a, b, d, e⟩ | e)
   ·exact ⟨ch', a, by omega, d, e⟩
   ·exact ⟨ch, hc, by omega, ok, e⟩
  ·rintro ⟨ch', a, b, d, e⟩
   rcases same ch' a b with q | rfl
   ·exact .inl ⟨ch', a, q, d, e⟩
   ·exact .inr e
 ·rename_i ok
  refine hr.congr (fun y => ⟨fun ⟨ch', a, b, d, e⟩ => ⟨ch', a, by omega, d, e⟩, fun ⟨ch', a, b, d, e⟩ => ?_⟩)
  rcases same ch' a b with q | rfl
  ·exact ⟨ch', a, q, d, e⟩
  ·exact absurd d ok
theorem vl_lt {M : Int} (hM : 1 ≤ M) : ∀ l, Dig M l → vl M l < M ^ l.length
  | [], _ => by show (0 : Int) < M ^ 0; rw [Int.pow_zero]; decide
  | x :: l, h => by
    have a := h x (.head _)
    have b := vl_lt hM l (fun y hy => h y (.tail _ hy))
    have c := Int.mul_le_mul_of_nonneg_left (show vl M l ≤ M ^ l.length - 1 by omega) (show 0 ≤ M by omega)
    rw [Int.mul_sub, Int.mul_one] at c
    show x + M * vl M l < M ^ (l.length + 1)
    rw [Int.pow_succ, Int.mul_comm (M ^ l.length) M]
    omega
end Go.Proofs.YtfphlpglgcmljaaGreat
