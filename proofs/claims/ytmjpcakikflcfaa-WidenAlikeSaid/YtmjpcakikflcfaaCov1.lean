/- Contracts of the law's helpers: common, scaled. -/
import Derived.Test.YtmjpcakikflcfaaQ
import Derived.Test.YtmjpcakikflcfaaWid8
import Derived.Test.YtmjpcakikflcfaaGrowP
import Derived.IntWalk
namespace Go.Proofs.Ytmjpcakikflcfaa
open Go.RowKit
set_option linter.unusedVariables false

/-- The values have denominators that divide c, and numerators from 0 to 2^20. -/
def Com (ps : List (Int × Int)) (q : Nat) (c : Nat) : Prop := ∀ k, k < q → 1 ≤ (gq ps k).2 ∧ (gq ps k).2 ∣ (c : Int) ∧ 0 ≤ (gq ps k).1 ∧ (gq ps k).1 ≤ 1048576
theorem Com.step {ps : List (Int × Int)} {q c c' : Nat} (h : Com ps q c) (hd : c ∣ c') (h1 : 1 ≤ (gq ps q).2) (h2 : (gq ps q).2 ∣ (c' : Int)) (h3 : 0 ≤ (gq ps q).1) (h4 : (gq ps q).1 ≤ 1048576) : Com ps (q + 1) c' := fun k hk => by
  by_cases e : k = q
  · subst e; exact ⟨h1, h2, h3, h4⟩
  · obtain ⟨a, b, c0, d⟩ := h k (by omega)
    exact ⟨a, Int.dvd_trans b (Int.natCast_dvd_natCast.2 hd), c0, d⟩
theorem ret_i64n {a b : Int} (h : a = b) : Ending.returned (.int .i64 a) = .returned (.int .i64 b) := by rw [h]
set_option maxRecDepth 100000 in
set_option maxHeartbeats 2000000 in
theorem law_common (v : Value) (ps : List (Int × Int)) (w : World) (hv : RQ w.heap.size w v ps) :
    Calls Try.prog 15 #[v] w fun e w' => (∃ c : Nat, e = .returned (.int .i64 c) ∧ (c = 0 ∨ (1 ≤ c ∧ c ≤ 500 ∧ Com ps ps.length c))) ∧ Below w.heap.size w w' := by
  obtain ⟨ao, cap, rfl, hle, h0⟩ := hv.open
  have H0 := Lib.hid h0
  clear hv h0
  go_enter Try.func15, Try.ntmps15
  go_wp2_with fail
  go_loopw [3, 4, 5, 6] (fun c i _ _ wr => ∃ B q : Nat, q ≤ ps.length ∧ i = .int .i64 q ∧ c = .int .i64 B ∧ 1 ≤ B ∧ B ≤ 500 ∧ Com ps q B ∧ Below w.heap.size w wr) (fun _ i _ _ _ => ps.length - (intOf i).toNat)
  case atStart => exact ⟨1, 0, by omega, rfl, rfl, by omega, by omega, fun _ h => by omega, Below.refl _ _⟩
  case round =>
    obtain ⟨B, q, hq, rfl, rfl, hB1, hB2, hcom, hbw⟩ := hrel
    have Hcom := Lib.hid hcom
    clear hcom
    by_cases hlt : q < ps.length
    · obtain ⟨b, off, rfl, hb, hc⟩ := H0.out (by omega)
      obtain ⟨x1, x2⟩ := hc q hlt
      have y1 := ((bcell hbw).1 _ _ hb).trans x1
      have y2 := ((bcell hbw).1 _ _ hb).trans x2
      have y4 : (q : Int) < ps.length := by omega
      clear hc
      generalize hG : gq ps q = p at y1 y2 x1 x2
      obtain ⟨a, d⟩ := p
      have HG := Lib.hid hG
      clear hG
      by_cases hg : 1 ≤ d ∧ d ≤ 500 ∧ 0 ≤ a ∧ a ≤ 1048576
      · obtain ⟨g1, g2, g3, g4⟩ := hg
        have f1 : decide (d < 1) = false := by simp; omega
        have f2 : decide (500 < d) = false := by simp; omega
        have f3 : decide (a < 0) = false := by simp; omega
        have f4 : decide (1048576 < a) = false := by simp; omega
        obtain ⟨D, rfl⟩ : ∃ D : Nat, d = D := ⟨d.toNat, by omega⟩
        go_wp2_with fail
        go_quiet (fail)
        go_wp2_with fail
        go_loopw [5, 6] (fun x y wr2 => ∃ P Q : Nat, x = .int .i64 P ∧ y = .int .i64 Q ∧ P ≤ 500 ∧ Q ≤ 500 ∧ Nat.gcd P Q = Nat.gcd B D ∧ Below w.heap.size w wr2) (fun _ y _ => (intOf y).toNat)
        case atStart => exact ⟨B, D, rfl, rfl, hB2, by omega, rfl, bdn hbw _⟩
        case round =>
          clear y1 y2
          obtain ⟨P, Q, rfl, rfl, hP, hQ, hgc, hbw2⟩ := hrel
          have Hgc := Lib.hid hgc
          clear hgc
          by_cases hQ0 : Q = 0
          · subst hQ0
            have hPg : P = Nat.gcd B D := by have := Hgc.out; rwa [Nat.gcd_zero_right] at this
            have hPB : P ∣ B := hPg ▸ Nat.gcd_dvd_left B D
            have hPD : P ∣ D := hPg ▸ Nat.gcd_dvd_right B D
            have hP0 : 0 < P := hPg ▸ Nat.gcd_pos_of_pos_left _ (by omega)
            obtain ⟨e1, he1⟩ := hPB
            obtain ⟨e2, he2⟩ := hPD
            have hdv : B / P = e1 := by rw [he1, Nat.mul_div_cancel_left _ hP0]
            have hle1 : e1 ≤ 500 := by rw [← hdv]; exact Nat.le_trans (Nat.div_le_self _ _) hB2
            have hmul : e1 * D ≤ 500 * 500 := Nat.mul_le_mul hle1 (by omega)
            have hpos : 0 < e1 * D := by
              refine Nat.mul_pos ?_ (by omega)
              rcases Nat.eq_zero_or_pos e1 with h | h
              · subst h; omega
              · exact h
            have hst := Lib.hid (show Com ps (q + 1) (e1 * D) from Hcom.out.step (c' := e1 * D) ⟨e2, by rw [he2, he1, ← Nat.mul_assoc, Nat.mul_comm e1 P]⟩ (by rw [HG.out]; exact g1) (by rw [HG.out]; exact Int.natCast_dvd_natCast.2 ⟨e1, Nat.mul_comm _ _⟩) (by rw [HG.out]; exact g3) (by rw [HG.out]; exact g4))
            have y2 := ((bcell hbw2).1 _ _ hb).trans x2
            have z1 : ((B : Nat) : Int).tdiv (P : Int) = (e1 : Int) := by rw [show ((B : Nat) : Int).tdiv (P : Int) = ((B / P : Nat) : Int) from rfl, hdv]
            have z2 : (e1 : Int) * (D : Int) = ((e1 * D : Nat) : Int) := by push_cast; rfl
            have z3 : ¬ ((P : Int) = 0) := by omega
            have hD1 : 1 ≤ D := by omega
            clear he1 he2 hdv hPg
            generalize hE : e1 * D = E at *
            have z4 : IntKind.i64.wrap (E : Int) = (E : Int) := IntWalk.i64_in _ (by omega)
            by_cases hE5 : 500 < E
            · have z5 : decide ((500 : Int) < (E : Int)) = true := by simp; omega
              clear hE
              go_wp2_with fail
              go_quiet (fail)
              go_wp2_with fail
              go_ret
              exact ⟨⟨0, rfl, .inl rfl⟩, bdn hbw2 _⟩
            · have z5 : decide ((500 : Int) < (E : Int)) = false := by simp; omega
              clear hE
              go_wp2_with fail
              go_quiet (fail)
              go_wp2_with fail
              go_roundw
              case rel => exact ⟨E, q + 1, by omega, by go_num, rfl, by omega, by omega, hst.out, bdn hbw2 _⟩
              case measure => simp [intOf]; omega
          · have b1 : ((Q : Int) != 0) = true := by simp; omega
            have b2 : ¬ ((Q : Int) = 0) := by omega
            have b3 := Lib.hid (show Nat.gcd Q (P % Q) = Nat.gcd B D by rw [← Hgc.out, Nat.gcd_comm P Q, Nat.gcd_rec Q P, Nat.gcd_comm])
            have b4 := Nat.mod_lt P (show 0 < Q by omega)
            have z1 : ((P : Nat) : Int).tmod (Q : Int) = ((P % Q : Nat) : Int) := rfl
            generalize hM : P % Q = M at *
            clear hM
            go_wp2_with fail
            go_quiet (fail)
            go_roundw
            case rel => exact ⟨_, _, _, _, _, _, _, _, ⟨Q, M, rfl, rfl, hQ, by omega, b3.out, bdn hbw2 _⟩, rfl⟩
            case measure => simp [intOf]; omega
      · by_cases f1c : d < 1
        · have f1 : decide (d < 1) = true := by simpa using f1c
          go_wp2_with fail
          go_ret
          exact ⟨⟨0, rfl, .inl rfl⟩, hbw⟩
        · have f1 : decide (d < 1) = false := by simpa using f1c
          by_cases f2c : 500 < d
          · have f2 : decide (500 < d) = true := by simpa using f2c
            go_wp2_with fail
            go_ret
            exact ⟨⟨0, rfl, .inl rfl⟩, hbw⟩
          · have f2 : decide (500 < d) = false := by simpa using f2c
            by_cases f3c : a < 0
            · have f3 : decide (a < 0) = true := by simpa using f3c
              go_wp2_with fail
              go_ret
              exact ⟨⟨0, rfl, .inl rfl⟩, hbw⟩
            · have f3 : decide (a < 0) = false := by simpa using f3c
              have f4 : decide (1048576 < a) = true := by simp; omega
              go_wp2_with fail
              go_ret
              exact ⟨⟨0, rfl, .inl rfl⟩, hbw⟩
    · have hd : decide ((q : Int) < (ps.length : Int)) = false := by simp; omega
      have hres := Lib.hid (show Com ps ps.length B from fun k hk => Hcom.out k (by omega))
      go_wp2_with fail
      go_ret
      exact ⟨⟨B, rfl, .inr ⟨hB1, hB2, hres.out⟩⟩, hbw⟩
end Go.Proofs.Ytmjpcakikflcfaa
