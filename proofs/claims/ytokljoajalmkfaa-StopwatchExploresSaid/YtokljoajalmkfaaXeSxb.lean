/- Part of the proof of stopwatch_explores_proved: Sxb. -/
import Derived.WalkLawsBesides
import Derived.WalkSpells
import Derived.Laws.StructEq
import Derived.Laws.Tables
import Derived.Test.YtokljoajalmkfaaXeSxa
namespace Go.Proofs.Ytokljoajalmkfaa
open Go Go.RowKit
set_option linter.unusedVariables false
set_option linter.unusedSimpArgs false
set_option linter.unnecessarySimpa false
theorem dec_no {p : Prop} {i : Decidable p} (h : @decide p i = false) : ¬ p := by
 cases i with
 | isTrue q => cases h
 | isFalse q => exact q
theorem dec_yes {p : Prop} {i : Decidable p} (h : @decide p i = true) : p := by
 cases i with
 | isTrue q => exact q
 | isFalse q => cases h
def Yd (P : Program) (S : World → Prop) (n : Nat) (ds : List Deferred) (K : Kn) (o : Oper) (v : Value) : Prop := ∀ a w, Kw n ds K a → S w → (execOp a.eval o).run P w = .ok (.value v) w
def Gd (ops : Array Oper) (n : Nat) (ds : List Deferred) (K : Kn) (o : Oper) (b : Bool) : Prop := ∀ a, Kw n ds K a → Region.wanted o (yielded ops a.tmps) = b
theorem Gd.g0 {ops : Array Oper} {n : Nat} {ds : List Deferred} {K : Kn} {o : Oper} (h : o.guard = none) : Gd ops n ds K o true := fun a _ => by simp [Region.wanted, h]
theorem Gd.gs {ops : Array Oper} {n : Nat} {ds : List Deferred} {K : Kn} {o : Oper} {j dj : Nat} {want b : Bool} (h : o.guard = some (j, want)) (hj : (ops[j]?).bind (·.dst) = some dj) (hb : look K dj = some (.bool b)) : Gd ops n ds K o (b == want) := fun a ha => by
 have := ha.has dj _ hb
 simp only [Region.wanted, h, yielded, hj, Option.bind_some, this]
 cases b <;> cases want <;> rfl
theorem Gd.und {ops : Array Oper} {n : Nat} {ds : List Deferred} {K : Kn} {o : Oper} {j dj : Nat} {want : Bool} (h : o.guard = some (j, want)) (hj : (ops[j]?).bind (·.dst) = some dj) (hb : look K dj = some undef) : Gd ops n ds K o false := fun a ha => by
 have := ha.has dj _ hb
 simp only [Region.wanted, h, yielded, hj, Option.bind_some, this]
 rfl
theorem Gd.yes {ops : Array Oper} {n : Nat} {ds : List Deferred} {K : Kn} {o : Oper} {j dj : Nat} {want : Bool} (h : o.guard = some (j, want)) (hj : (ops[j]?).bind (·.dst) = some dj) (hb : look K dj = some (.bool want)) : Gd ops n ds K o true := by
 have := Gd.gs h hj hb (n := n) (ds := ds)
 simpa using this
theorem Gd.no {ops : Array Oper} {n : Nat} {ds : List Deferred} {K : Kn} {o : Oper} {j dj : Nat} {want b : Bool} (h : o.guard = some (j, want)) (hj : (ops[j]?).bind (·.dst) = some dj) (hb : look K dj = some (.bool b)) (e : (b == want) = false) : Gd ops n ds K o false := by
 have := Gd.gs h hj hb (n := n) (ds := ds)
 rw [e] at this; exact this
section
variable {P : Program} {ops : Array Oper} {N : Act → World → Prop} {n : Nat} {ds : List Deferred} {l : List Oper} {K : Kn} {S : World → Prop} {o : Oper}
theorem SL.val {d : Nat} {v : Value} (hd : o.dst = some d) (hn : (Nat.blt d n) = true) (hg : Gd ops n ds K o true) (hv : Yd P S n ds K o v) (h : SL P ops N n ds l ((d, v) :: K) S) : SL P ops N n ds (o :: l) K S := fun a w ha hw => by
 have e := hv a w ha hw
 have hlt : d < n := by simpa [Nat.blt_eq] using hn
 show oneW P ops o (seqW P ops N l) a w
 unfold oneW opW
 rw [if_pos (hg a ha), e, hd]
 exact h _ _ (ha.put hlt v) hw
theorem SL.unw {d : Nat} (hd : o.dst = some d) (hn : (Nat.blt d n) = true) (hg : Gd ops n ds K o false) (h : SL P ops N n ds l ((d, undef) :: K) S) : SL P ops N n ds (o :: l) K S := fun a w ha hw => by
 have hlt : d < n := by simpa [Nat.blt_eq] using hn
 show oneW P ops o (seqW P ops N l) a w
 unfold oneW
 rw [if_neg (by rw [hg a ha]; decide), hd]
 exact h _ _ (ha.put hlt undef) hw
theorem SL.split {dj : Nat} {b : Bool} (hb : look K dj = some (.bool b)) (ht : b = true → SL P ops N n ds l ((dj, .bool true) :: K) S) (hf : b = false → SL P ops N n ds l ((dj, .bool false) :: K) S) : SL P ops N n ds l K S := by
 have key : ∀ b', b = b' → Sub K ((dj, .bool b') :: K) := fun b' e t v hv => by
  rw [look_cons] at hv
  by_cases q : dj = t
  ·subst q; rw [if_pos rfl] at hv; rw [hb, e]; exact hv
  ·rw [if_neg q] at hv; exact hv
 cases h : b with
 | true => exact (ht h).conseq (key _ h) (fun _ hw => hw)
 | false => exact (hf h).conseq (key _ h) (fun _ hw => hw)
theorem SL.splitD {dj : Nat} {p : Prop} [Decidable p] (hb : look K dj = some (.bool (decide p))) (ht : p → SL P ops N n ds l ((dj, .bool true) :: K) S) (hf : ¬ p → SL P ops N n ds l ((dj, .bool false) :: K) S) : SL P ops N n ds l K S :=
 SL.split hb (fun h => ht (of_decide_eq_true h)) (fun h => hf (of_decide_eq_false h))
end
section
variable {P : Program} {S : World → Prop} {n : Nat} {ds : List Deferred} {K : Kn} {dst : Option Nat} {ty : Nat} {pos : String} {af : Array Edge} {g : Option (Nat × Bool)}
theorem Yd.move {x : Operand} {v : Value} (hx : opd K x = some v) : Yd P S n ds K ⟨dst, .move x, ty, pos, af, g⟩ v := fun a w ha _ => by
 simp [execOp, ha.eval hx]
theorem Yd.assign {x : Operand} {v : Value} (hx : opd K x = some v) : Yd P S n ds K ⟨dst, .assign x, ty, pos, af, g⟩ v := fun a w ha _ => by
 simp [execOp, ha.eval hx]
theorem Yd.pickT {c x y : Operand} {v : Value} (hc : opd K c = some (.bool true)) (hx : opd K x = some v) : Yd P S n ds K ⟨dst, .pick c x y, ty, pos, af, g⟩ v := fun a w ha _ => by
 simp [execOp, ha.eval hc, ha.eval hx, asBool]
theorem Yd.pickF {c x y : Operand} {v : Value} (hc : opd K c = some (.bool false)) (hy : opd K y = some v) : Yd P S n ds K ⟨dst, .pick c x y, ty, pos, af, g⟩ v := fun a w ha _ => by
 simp [execOp, ha.eval hc, ha.eval hy, asBool]
theorem Yd.pickB {c x y : Operand} {b : Bool} {u v : Value} (hc : opd K c = some (.bool b)) (hx : opd K x = some u) (hy : opd K y = some v) : Yd P S n ds K ⟨dst, .pick c x y, ty, pos, af, g⟩ (if b = true then u else v) := fun a w ha _ => by
 simp [execOp, ha.eval hc, ha.eval hx, ha.eval hy, asBool]
/-! numbers -/
theorem Yd.bin {op : BinOp} {t t2 : Nat} {x y : Operand} {k : IntKind} {i j : Int} {v : Value} (hx : opd K x = some (.int k i)) (hy : opd K y = some (.int k j)) (hv : ∀ w, (binOp op t (.int k i) (.int k j)).run P w = .ok v w) : Yd P S n ds K ⟨dst, .binOp op t x y t2, ty, pos, af, g⟩ v := fun a w ha _ => by
 simp only [execOp, ha.eval hx, ha.eval hy, eqGuard_at_int, Sem.run_bind, Sem.run_pure, Result.andThen_ok, hv]
theorem Yd.lss {t t2 : Nat} {x y : Operand} {k : IntKind} {i j : Int} (hx : opd K x = some (.int k i)) (hy : opd K y = some (.int k j)) : Yd P S n ds K ⟨dst, .binOp .lss t x y t2, ty, pos, af, g⟩ (.bool (decide (i < j))) := Yd.bin hx hy fun w => by simp [binOp, Op.intCmp]
theorem Yd.leq {t t2 : Nat} {x y : Operand} {k : IntKind} {i j : Int} (hx : opd K x = some (.int k i)) (hy : opd K y = some (.int k j)) : Yd P S n ds K ⟨dst, .binOp .leq t x y t2, ty, pos, af, g⟩ (.bool (decide (i ≤ j))) := Yd.bin hx hy fun w => by simp [binOp, Op.intCmp]
theorem Yd.gtr {t t2 : Nat} {x y : Operand} {k : IntKind} {i j : Int} (hx : opd K x = some (.int k i)) (hy : opd K y = some (.int k j)) : Yd P S n ds K ⟨dst, .binOp .gtr t x y t2, ty, pos, af, g⟩ (.bool (decide (j < i))) := Yd.bin hx hy fun w => by simp [binOp, Op.intCmp]
theorem Yd.geq {t t2 : Nat} {x y : Operand} {k : IntKind} {i j : Int} (hx : opd K x = some (.int k i)) (hy : opd K y = some (.int k j)) : Yd P S n ds K ⟨dst, .binOp .geq t x y t2, ty, pos, af, g⟩ (.bool (decide (j ≤ i))) := Yd.bin hx hy fun w => by simp [binOp, Op.intCmp]
theorem Yd.eql {t t2 : Nat} {x y : Operand} {k : IntKind} {i j : Int} (hx : opd K x = some (.int k i)) (hy : opd K y = some (.int k j)) : Yd P S n ds K ⟨dst, .binOp .eql t x y t2, ty, pos, af, g⟩ (.bool (decide (i = j))) := Yd.bin hx hy fun w => by
 have : (i == j) = decide (i = j) := by by_cases h : i = j <;> simp [h]
 simp [binOp, Op.intCmp, this]
theorem Yd.neq {t t2 : Nat} {x y : Operand} {k : IntKind} {i j : Int} (hx : opd K x = some (.int k i)) (hy : opd K y = some (.int k j)) : Yd P S n ds K ⟨dst, .binOp .neq t x y t2, ty, pos, af, g⟩ (.bool (decide (i ≠ j))) := Yd.bin hx hy fun w => by
 have : (i != j) = decide (i ≠ j) := by by_cases h : i = j <;> simp [h]
 simp [binOp, Op.intCmp, this]
theorem Yd.addW {t t2 : Nat} {x y : Operand} {k : IntKind} {i j : Int} (hx : opd K x = some (.int k i)) (hy : opd K y = some (.int k j)) : Yd P S n ds K ⟨dst, .binOp .add t x y t2, ty, pos, af, g⟩ (.int k (k.wrap (i + j))) := Yd.bin hx hy fun w => by simp [binOp, Op.intArith]
theorem Yd.subW {t t2 : Nat} {x y : Operand} {k : IntKind} {i j : Int} (hx : opd K x = some (.int k i)) (hy : opd K y = some (.int k j)) : Yd P S n ds K ⟨dst, .binOp .sub t x y t2, ty, pos, af, g⟩ (.int k (k.wrap (i - j))) := Yd.bin hx hy fun w => by simp [binOp, Op.intArith]
theorem Yd.mulW {t t2 : Nat} {x y : Operand} {k : IntKind} {i j : Int} (hx : opd K x = some (.int k i)) (hy : opd K y = some (.int k j)) : Yd P S n ds K ⟨dst, .binOp .mul t x y t2, ty, pos, af, g⟩ (.int k (k.wrap (i * j))) := Yd.bin hx hy fun w => by simp [binOp, Op.intArith]
theorem Yd.add {t t2 : Nat} {x y : Operand} {i j : Int} (hx : opd K x = some (.int .i64 i)) (hy : opd K y = some (.int .i64 j)) (hb : -9223372036854775808 ≤ i + j ∧ i + j ≤ 9223372036854775807) : Yd P S n ds K ⟨dst, .binOp .add t x y t2, ty, pos, af, g⟩ (.int .i64 (i + j)) := by
 have h := Yd.addW (P := P) (S := S) (n := n) (ds := ds) (dst := dst) (ty := ty) (pos := pos) (af := af) (g := g) (t := t) (t2 := t2) hx hy
 rw [IntWalk.i64_in _ hb] at h; exact h
theorem Yd.sub {t t2 : Nat} {x y : Operand} {i j : Int} (hx : opd K x = some (.int .i64 i)) (hy : opd K y = some (.int .i64 j)) (hb : -9223372036854775808 ≤ i - j ∧ i - j ≤ 9223372036854775807) : Yd P S n ds K ⟨dst, .binOp .sub t x y t2, ty, pos, af, g⟩ (.int .i64 (i - j)) := by
 have h := Yd.subW (P := P) (S := S) (n := n) (ds := ds) (dst := dst) (ty := ty) (pos := pos) (af := af) (g := g) (t := t) (t2 := t2) hx hy
 rw [IntWalk.i64_in _ hb] at h; exact h
theorem Yd.mul {t t2 : Nat} {x y : Operand} {i j : Int} (hx : opd K x = some (.int .i64 i)) (hy : opd K y = some (.int .i64 j)) (hb : -9223372036854775808 ≤ i * j ∧ i * j ≤ 9223372036854775807) : Yd P S n ds K ⟨dst, .binOp .mul t x y t2, ty, pos, af, g⟩ (.int .i64 (i * j)) := by
 have h := Yd.mulW (P := P) (S := S) (n := n) (ds := ds) (dst := dst) (ty := ty) (pos := pos) (af := af) (g := g) (t := t) (t2 := t2) hx hy
 rw [IntWalk.i64_in _ hb] at h; exact h
theorem Yd.inc {t t2 : Nat} {x : Operand} {k : Nat} (hx : opd K x = some (.int .i64 (k : Int))) (hb : k < 9223372036854775807) : Yd P S n ds K ⟨dst, .binOp .add t x (.const (.int .i64 1)) t2, ty, pos, af, g⟩ (.int .i64 ((k + 1 : Nat) : Int)) := by
 have h := Yd.add (P := P) (S := S) (n := n) (ds := ds) (dst := dst) (ty := ty) (pos := pos) (af := af) (g := g) (t := t) (t2 := t2) hx (y := .const (.int .i64 1)) rfl (by omega)
 exact h
theorem Yd.mulC (c : Nat) {t t2 : Nat} {x y : Operand} {k : Nat} (hx : opd K x = some (.int .i64 (c : Int))) (hy : opd K y = some (.int .i64 (k : Int))) (hb : c * k ≤ 9223372036854775807) : Yd P S n ds K ⟨dst, .binOp .mul t x y t2, ty, pos, af, g⟩ (.int .i64 ((c * k : Nat) : Int)) := by
 have h := Yd.mul (P := P) (S := S) (n := n) (ds := ds) (dst := dst) (ty := ty) (pos := pos) (af := af) (g := g) (t := t) (t2 := t2) hx hy (by rw [← Int.natCast_mul]; omega)
 rw [← Int.natCast_mul] at h; exact h
theorem Yd.subC (c : Nat) {t t2 : Nat} {x y : Operand} {k : Nat} (hx : opd K x = some (.int .i64 (k : Int))) (hy : opd K y = some (.int .i64 (c : Int))) (hb : c ≤ k) (hk : k ≤ 9223372036854775807) : Yd P S n ds K ⟨dst, .binOp .sub t x y t2, ty, pos, af, g⟩ (.int .i64 ((k - c : Nat) : Int)) := by
 have h := Yd.sub (P := P) (S := S) (n := n) (ds := ds) (dst := dst) (ty := ty) (pos := pos) (af := af) (g := g) (t := t) (t2 := t2) hx hy (by omega)
 rw [← Int.ofNat_sub hb] at h; exact h
theorem Yd.addK {t t2 : Nat} {x y : Operand} {k : IntKind} {i j : Int} (hx : opd K x = some (.int k i)) (hy : opd K y = some (.int k j)) (hb : k.wrap (i + j) = i + j) : Yd P S n ds K ⟨dst, .binOp .add t x y t2, ty, pos, af, g⟩ (.int k (i + j)) := by
 have h := Yd.addW (P := P) (S := S) (n := n) (ds := ds) (dst := dst) (ty := ty) (pos := pos) (af := af) (g := g) (t := t) (t2 := t2) hx hy
 rw [hb] at h; exact h
theorem Yd.subK {t t2 : Nat} {x y : Operand} {k : IntKind} {i j : Int} (hx : opd K x = some (.int k i)) (hy : opd K y = some (.int k j)) (hb : k.wrap (i - j) = i - j) : Yd P S n ds K ⟨dst, .binOp .sub t x y t2, ty, pos, af, g⟩ (.int k (i - j)) := by
 have h := Yd.subW (P := P) (S := S) (n := n) (ds := ds) (dst := dst) (ty := ty) (pos := pos) (af := af) (g := g) (t := t) (t2 := t2) hx hy
 rw [hb] at h; exact h
theorem Yd.bitsW {op : BinOp} {t t2 : Nat} {x y : Operand} {k : IntKind} {i j r : Int} (hx : opd K x = some (.int k i)) (hy : opd K y = some (.int k j)) (hop : (op matches .and | .or | .xor | .andNot) = true) (hr : bits op k i j = r) : Yd P S n ds K ⟨dst, .binOp op t x y t2, ty, pos, af, g⟩ (.int k r) := Yd.bin hx hy fun w => by
 subst hr
 cases op <;> first | (simp at hop; done) | (simp [binOp, go_sem])
theorem Yd.shr {t t2 : Nat} {x y : Operand} {k yk : IntKind} {i j : Int} (hx : opd K x = some (.int k i)) (hy : opd K y = some (.int yk j)) (hj : 0 ≤ j) : Yd P S n ds K ⟨dst, .binOp .shr t x y t2, ty, pos, af, g⟩ (.int k (i / 2 ^ min j.toNat k.bits)) := fun a w ha _ => by
 simp only [execOp, ha.eval hx, ha.eval hy, eqGuard_at_int, Sem.run_bind, Sem.run_pure, Result.andThen_ok, binOp, shift_shr_any _ _ _ _ hj]
theorem Yd.shl {t t2 : Nat} {x y : Operand} {k yk : IntKind} {i j : Int} (hx : opd K x = some (.int k i)) (hy : opd K y = some (.int yk j)) (hj : 0 ≤ j) : Yd P S n ds K ⟨dst, .binOp .shl t x y t2, ty, pos, af, g⟩ (.int k (k.wrap (i * 2 ^ min j.toNat k.bits))) := fun a w ha _ => by
 simp only [execOp, ha.eval hx, ha.eval hy, eqGuard_at_int, Sem.run_bind, Sem.run_pure, Result.andThen_ok, binOp, Op.shift, if_neg (show ¬ j < 0 by omega)]
theorem Yd.not {t : Nat} {x : Operand} {b : Bool} (hx : opd K x = some (.bool b)) : Yd P S n ds K ⟨dst, .unOp .not t x, ty, pos, af, g⟩ (.bool (!b)) := fun a w ha _ => by
 simp [execOp, ha.eval hx, Op.unary]
def intK (P : Program) (t : Nat) : Option IntKind := match P.underlying t with
 | some (.int k) => some k
 | _ => none
theorem Yd.conv {src dt : Nat} {x : Operand} {k q : IntKind} {i : Int} (hx : opd K x = some (.int k i)) (hs : (P.underlying src).isSome = true) (hd : intK P dt = some q) : Yd P S n ds K ⟨dst, .convert src dt x, ty, pos, af, g⟩ (.int q (q.wrap i)) := fun a w ha _ => by
 obtain ⟨u, hu⟩ := Option.isSome_iff_exists.1 hs
 have hd' : P.underlying dt = some (.int q) := by
  unfold intK at hd
  split at hd
  ·rename_i h; injection hd with hd; rw [h, hd]
  ·cases hd
 simp [execOp, ha.eval hx, convert, run_underlying hu, run_underlying hd', Conv.intToInt]
theorem Yd.convK {src dt : Nat} {x : Operand} {k q : IntKind} {i : Int} (hx : opd K x = some (.int k i)) (hs : (P.underlying src).isSome = true) (hd : intK P dt = some q) (hb : q.wrap i = i) : Yd P S n ds K ⟨dst, .convert src dt x, ty, pos, af, g⟩ (.int q i) := by
 have h := Yd.conv (P := P) (S := S) (n := n) (ds := ds) (dst := dst) (ty := ty) (pos := pos) (af := af) (g := g) hx hs hd
 rw [hb] at h; exact h
/-! truth values, strings, nil -/
theorem Yd.eqlB {t t2 : Nat} {x y : Operand} {b c : Bool} (hx : opd K x = some (.bool b)) (hy : opd K y = some (.bool c)) (ht : P.underlying t = some .bool) : Yd P S n ds K ⟨dst, .binOp .eql t x y t2, ty, pos, af, g⟩ (.bool (b == c)) := fun a w ha _ => by
 simp only [execOp, ha.eval hx, ha.eval hy, eqGuard_at_bool, Sem.run_bind, Sem.run_pure, Result.andThen_ok, run_eql_bool w t b c ht]
theorem bytes_eq (s u : ByteArray) : (s.toList == u.toList) = decide (s = u) := by
 by_cases h : s = u
 ·simp [h]
 ·rw [decide_eq_false h]
  have : s.toList ≠ u.toList := fun e => h (by
   rw [ByteArray.toList_eq, ByteArray.toList_eq] at e
   exact ByteArray.ext (Array.toList_inj.mp e))
  simpa using this
theorem Yd.eqlS {t t2 : Nat} {x y : Operand} {b c : ByteArray} (hx : opd K x = some (.string b)) (hy : opd K y = some (.string c)) : Yd P S n ds K ⟨dst, .binOp .eql t x y t2, ty, pos, af, g⟩ (.bool (decide (b = c))) := fun a w ha _ => by
 simp only [execOp, ha.eval hx, ha.eval hy, eqGuard_at_string, Sem.run_bind, Sem.run_pure, Result.andThen_ok, binOp_string_eql, bytes_eq]
def isSl (P : Program) (t : Nat) : Bool := match P.underlying t with
 | some (.slice _) => true
 | _ => false
theorem isSl_is {t : Nat} (h : isSl P t = true) : ∃ e, P.underlying t = some (.slice e) := by
 unfold isSl at h
 split at h
 ·rename_i e hu; exact ⟨e, hu⟩
 ·cases h
/-! parts, addresses -/
theorem Yd.extract {x : Operand} {i : Nat} {vs : List Value} {v : Value} (hx : opd K x = some (.tuple vs.toArray)) (hv : vs[i]? = some v) : Yd P S n ds K ⟨dst, .extract x i, ty, pos, af, g⟩ v := fun a w ha _ => by
 simp [execOp, ha.eval hx, Instr.extract, hv]
theorem Yd.nilCheck {x : Operand} {ad : Addr} (hx : opd K x = some (.pointer (some ad))) : Yd P S n ds K ⟨dst, .nilCheck x, ty, pos, af, g⟩ (.pointer (some ad)) := fun a w ha _ => by
 simp [execOp, ha.eval hx]
theorem add_at (b o k : Nat) : (⟨b, o, none⟩ : Addr).add k = ⟨b, o + k, none⟩ := by unfold Addr.add; split <;> simp_all
def fldO (P : Program) (s f : Nat) : Option Nat :=
 match P.underlying s with
 | some (.struct fs) => match fs[f]? with
  | some f => match P.info? f.type with
   | some i => if i.size = 0 then none else some f.offset
   | none => none
  | none => none
 | _ => none
theorem Yd.fieldAddr {s f : Nat} {x : Operand} {b o k : Nat} (hx : opd K x = some (.pointer (some ⟨b, o, none⟩))) (hf : fldO P s f = some k) : Yd P S n ds K ⟨dst, .fieldAddr s x f, ty, pos, af, g⟩ (.pointer (some ⟨b, o + k, none⟩)) := fun a w ha _ => by
 unfold fldO at hf
 split at hf
 ·rename_i fs hu
  split at hf
  ·rename_i q hq
   split at hf
   ·rename_i i hi
    split at hf
    ·cases hf
    ·rename_i h0
     injection hf with hf
     simp [execOp, ha.eval hx, Instr.fieldAt, run_underlying hu, hq, Instr.sureAddr, fieldPlace, sizeOf, typeInfo, hi, h0, add_at, hf]
   ·cases hf
  ·cases hf
 ·cases hf
def slSz (P : Program) (t : Nat) : Option Nat := match P.underlying t with
 | some (.slice e) => match P.info? e with
  | some i => some i.size
  | none => none
 | _ => none
theorem slSz_is {t k : Nat} (h : slSz P t = some k) : ∃ e i, P.underlying t = some (.slice e) ∧ P.info? e = some i ∧ i.size = k := by
 unfold slSz at h
 split at h
 ·rename_i e hu
  split at h
  ·rename_i i hi; injection h with h; exact ⟨e, i, hu, hi, h⟩
  ·cases h
 ·cases h
def arSz (P : Program) (t : Nat) : Option (Nat × Nat) := match P.underlying t with
 | some (.array m e) => match P.info? e with
  | some i => some (m, i.size)
  | none => none
 | _ => none
theorem arSz_is {t m k : Nat} (h : arSz P t = some (m, k)) : ∃ e i, P.underlying t = some (.array m e) ∧ P.info? e = some i ∧ i.size = k := by
 unfold arSz at h
 split at h
 ·rename_i m' e hu
  split at h
  ·rename_i i hi; injection h with h; injection h with h1 h2; subst h1; exact ⟨e, i, hu, hi, h2⟩
  ·cases h
 ·cases h
theorem Yd.indexSl {t : Nat} {x y : Operand} {b o m c e : Nat} {q : IntKind} {i : Int} (hx : opd K x = some (.slice (some ⟨b, o, none⟩) m c)) (hy : opd K y = some (.int q i)) (ht : slSz P t = some e) (hi : 0 ≤ i ∧ i < (m : Int)) : Yd P S n ds K ⟨dst, .indexAddr t x y, ty, pos, af, g⟩ (.pointer (some ⟨b, o + i.toNat * e, none⟩)) := fun a w ha _ => by
 obtain ⟨el, inf, hu, hi2, he⟩ := slSz_is ht
 simp [execOp, ha.eval hx, ha.eval hy, Instr.indexAt, run_underlying hu, asIntOf, hi.1, hi.2, sizeOf, typeInfo, hi2, he, add_at]
theorem Yd.indexSlN {t : Nat} {x y : Operand} {b o m c e : Nat} {q : IntKind} {i : Nat} (hx : opd K x = some (.slice (some ⟨b, o, none⟩) m c)) (hy : opd K y = some (.int q (i : Int))) (ht : slSz P t = some e) (hi : i < m) : Yd P S n ds K ⟨dst, .indexAddr t x y, ty, pos, af, g⟩ (.pointer (some ⟨b, o + i * e, none⟩)) :=
 Yd.indexSl (i := (i : Int)) hx hy ht ⟨by omega, by omega⟩
theorem Yd.indexAr {t : Nat} {x y : Operand} {b o m e : Nat} {q : IntKind} {i : Int} (hx : opd K x = some (.pointer (some ⟨b, o, none⟩))) (hy : opd K y = some (.int q i)) (ht : arSz P t = some (m, e)) (hi : 0 ≤ i ∧ i < (m : Int)) : Yd P S n ds K ⟨dst, .indexAddr t x y, ty, pos, af, g⟩ (.pointer (some ⟨b, o + i.toNat * e, none⟩)) := fun a w ha _ => by
 obtain ⟨el, inf, hu, hi2, he⟩ := arSz_is ht
 simp [execOp, ha.eval hx, ha.eval hy, Instr.indexAt, run_underlying hu, asIntOf, hi.1, hi.2, sizeOf, typeInfo, hi2, he, add_at, Instr.sureAddr]
theorem Yd.indexArN {t : Nat} {x y : Operand} {b o m e : Nat} {q : IntKind} {i : Nat} (hx : opd K x = some (.pointer (some ⟨b, o, none⟩))) (hy : opd K y = some (.int q (i : Int))) (ht : arSz P t = some (m, e)) (hi : i < m) : Yd P S n ds K ⟨dst, .indexAddr t x y, ty, pos, af, g⟩ (.pointer (some ⟨b, o + i * e, none⟩)) :=
 Yd.indexAr (i := (i : Int)) hx hy ht ⟨by omega, by omega⟩
def isStr (P : Program) (t : Nat) : Bool := match P.underlying t with
 | some .string => true
 | _ => false
theorem isStr_is {t : Nat} (h : isStr P t = true) : P.underlying t = some .string := by
 unfold isStr at h
 split at h
 ·rename_i hu; exact hu
 ·cases h
theorem Yd.lenSl {t : Nat} {x : Operand} {a0 : Option Addr} {m c : Nat} (hx : opd K x = some (.slice a0 m c)) (ht : isSl P t = true) : Yd P S n ds K ⟨dst, .call { callee := .builtin .len, args := #[x], argTypes := #[t] }, ty, pos, af, g⟩ (.int .i64 (m : Int)) := fun a w ha _ => by
 obtain ⟨e, he⟩ := isSl_is ht
 simp [execOp, resolve, invoke, builtin, ha.eval hx, Builtin.len_, run_underlying he, goInt]
theorem Yd.lenS {t : Nat} {x : Operand} {s : ByteArray} (hx : opd K x = some (.string s)) (ht : isStr P t = true) : Yd P S n ds K ⟨dst, .call { callee := .builtin .len, args := #[x], argTypes := #[t] }, ty, pos, af, g⟩ (.int .i64 (s.size : Int)) := fun a w ha _ => by
 simp [execOp, resolve, invoke, builtin, ha.eval hx, Builtin.len_, run_underlying (isStr_is ht), goInt]
theorem Yd.min2 {t t2 : Nat} {x y : Operand} {k : IntKind} {i j : Int} (hx : opd K x = some (.int k i)) (hy : opd K y = some (.int k j)) : Yd P S n ds K ⟨dst, .call { callee := .builtin .min, args := #[x, y], argTypes := #[t, t2] }, ty, pos, af, g⟩ (.int k (min i j)) := fun a w ha _ => by
 have e : (if j < i then j else i) = min i j := by rw [Int.min_def]; split <;> split <;> omega
 simp [execOp, resolve, invoke, builtin, ha.eval hx, ha.eval hy, run_min_int2, e]
theorem Yd.max2 {t t2 : Nat} {x y : Operand} {k : IntKind} {i j : Int} (hx : opd K x = some (.int k i)) (hy : opd K y = some (.int k j)) : Yd P S n ds K ⟨dst, .call { callee := .builtin .max, args := #[x, y], argTypes := #[t, t2] }, ty, pos, af, g⟩ (.int k (max i j)) := fun a w ha _ => by
 have e : (if i < j then j else i) = max i j := by rw [Int.max_def]; split <;> split <;> omega
 simp [execOp, resolve, invoke, builtin, ha.eval hx, ha.eval hy, run_max_int2, e]
/-! values made -/
def opds (K : Kn) : List Operand → Option (List Value)
 | [] => some []
 | x :: xs => match opd K x, opds K xs with
  | some v, some vs => some (v :: vs)
  | _, _ => none
theorem Kw.evals {a : Act} (ha : Kw n ds K a) : ∀ {xs : List Operand} {vs : List Value}, opds K xs = some vs → xs.map a.eval = vs
 | [], vs, h => by cases h; rfl
 | x :: xs, vs, h => by
  unfold opds at h
  split at h
  ·rename_i v us h1 h2
   injection h with h
   rw [List.map_cons, ha.eval h1, ha.evals h2, h]
  ·cases h
theorem Yd.makeFunc {f : Fn} {xs ys : List Operand} {us vs : List Value} (hx : opds K xs = some us) (hy : opds K ys = some vs) : Yd P S n ds K ⟨dst, .makeFunc f xs.toArray ys.toArray, ty, pos, af, g⟩ (.func f us.toArray vs.toArray) := fun a w ha _ => by
 simp [execOp, Instr.makeFunc, ha.evals hx, ha.evals hy]
def opdp (K : Kn) : List (Nat × Operand) → Option (List (Nat × Value))
 | [] => some []
 | (i, x) :: xs => match opd K x, opdp K xs with
  | some v, some vs => some ((i, v) :: vs)
  | _, _ => none
theorem Kw.evalp {a : Act} (ha : Kw n ds K a) : ∀ {xs : List (Nat × Operand)} {vs : List (Nat × Value)}, opdp K xs = some vs → xs.map (fun p => (p.1, a.eval p.2)) = vs
 | [], vs, h => by cases h; rfl
 | (i, x) :: xs, vs, h => by
  unfold opdp at h
  split at h
  ·rename_i v us h1 h2
   injection h with h
   rw [List.map_cons, ha.eval h1, ha.evalp h2, h]
  ·cases h
theorem Yd.build {t : Nat} {ps : List (Nat × Operand)} {vs : List (Nat × Value)} {cs : Array Value} (hp : opdp K ps = some vs) (hb : P.built t vs = some cs) : Yd P S n ds K ⟨dst, .build t ps.toArray, ty, pos, af, g⟩ (.agg cs) := fun a w ha _ => by
 have e : (ps.toArray.map fun p => (p.1, a.eval p.2)) = vs.toArray := by rw [List.map_toArray, ha.evalp hp]
 have := run_build (P := P) w t vs.toArray cs hb
 show ((do pure (.value (← Instr.build t (ps.toArray.map fun p => (p.1, a.eval p.2)))) : Sem Next)).run P w = _
 rw [e]
 simp only [Sem.run_bind, this, Result.andThen_ok, Sem.run_pure]
theorem Yd.byteAt {t : Nat} {x y : Operand} {s : ByteArray} {q : IntKind} {i : Nat} (hx : opd K x = some (.string s)) (hy : opd K y = some (.int q (i : Int))) (ht : isStr P t = true) (hi : i < s.size) : Yd P S n ds K ⟨dst, .index t x y, ty, pos, af, g⟩ (.int .u8 ((s[i]'hi).toNat : Int)) := fun a w ha _ => by
 have := run_index_string (P := P) (w := w) t s q (i : Int) (isStr_is ht)
 rw [dif_pos ⟨by omega, by omega⟩] at this
 simp only [execOp, ha.eval hx, ha.eval hy, Sem.run_bind, this, Result.andThen_ok, Sem.run_pure]
 rfl
theorem slE_of {t k : Nat} (h : slSz P t = some k) : ∃ e, P.underlying t = some (.slice e) ∧ P.elem t = e ∧ ∀ w, (sizeOf (P.elem t)).run P w = .ok k w := by
 obtain ⟨e, i, hu, hi, hk⟩ := slSz_is h
 have he : P.elem t = e := by simp [Program.elem, hu]
 exact ⟨e, hu, he, fun w => by rw [he]; simp [sizeOf, typeInfo, hi, hk]⟩
theorem Yd.sliceH {t e m c : Nat} {x y : Operand} {a0 : Option Addr} {q : IntKind} {h : Nat} (hx : opd K x = some (.slice a0 m c)) (hy : opd K y = some (.int q (h : Int))) (ht : slSz P t = some e) (hh : h ≤ c) : Yd P S n ds K ⟨dst, .slice t x none (some y) none, ty, pos, af, g⟩ (.slice a0 h c) := fun a w ha _ => by
 obtain ⟨el, hu, he, hs⟩ := slE_of ht
 have hu' : P.underlying t = some (.slice (P.elem t)) := by rw [he]; exact hu
 have := run_slice_h (P := P) w t a0 m c hu' q (h : Int) (by omega) (by omega)
 simp only [execOp, ha.eval hx, ha.eval hy, Option.map_none, Option.map_some, run_sliceAt_slice w t _ _ _ _ hu', Sem.run_bind, this, hs, Result.andThen_ok, Sem.run_pure]
 simp [sliced]
 cases a0 <;> simp [Addr.add]
end
end Go.Proofs.Ytokljoajalmkfaa
