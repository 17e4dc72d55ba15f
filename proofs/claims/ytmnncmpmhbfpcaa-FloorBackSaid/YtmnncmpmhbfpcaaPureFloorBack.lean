/- FloorBack, plainly. -/
import Derived.Test.YtmnncmpmhbfpcaaP2
import Derived.Test.YtmnncmpmhbfpcaaE
namespace Go.Proofs.Ytmnncmpmhbfpcaa.P
set_option linter.unusedVariables false
set_option linter.unusedSimpArgs false
open Go.RowKit Go.Proofs.YtmnncmpmhbfpcaaW.PrintWords Go.Proofs.YtmnncmpmhbfpcaaW.PrintLast Go.Proofs.YtmnncmpmhbfpcaaW.PrintMore
open Go.Proofs.Ytmnncmpmhbfpcaa.A Go.Proofs.Ytmnncmpmhbfpcaa.H Go.Proofs.Ytmnncmpmhbfpcaa.B Go.Proofs.Ytmnncmpmhbfpcaa.S Go.Proofs.Ytmnncmpmhbfpcaa.C Go.Proofs.Ytmnncmpmhbfpcaa.D Go.Proofs.Ytmnncmpmhbfpcaa.E

theorem back_last (k : Nat) (d : Int) (ok before : Bool) (h1 : ok = true → 0 ≤ d ∧ d < 6) (h2 : before = true → 0 ≤ d ∧ d < 6) : taquinlaw07_FloorBack.j2 (k + 1 + 1) d true ok before = some true := by
  rw [taquinlaw07_FloorBack.j2]
  by_cases c1 : d < 0
  · rw [if_pos c1, taquinlaw07_FloorBack.j3]
    have e1 : ok = false := by cases ok <;> simp_all <;> omega
    have e2 : before = false := by cases before <;> simp_all <;> omega
    subst e1 e2
    have := opp_out (d := d) (by omega)
    simp [floor_Opposite.f, this]
  · rw [if_neg c1, taquinlaw07_FloorBack.j3]
    by_cases c2 : d ≥ 6
    · have e1 : ok = false := by cases ok <;> simp_all <;> omega
      have e2 : before = false := by cases before <;> simp_all <;> omega
      subst e1 e2
      have := opp_out (d := d) (by omega)
      simp [floor_Opposite.f, this, c2]
    · have := opp_steps (d := d) (by omega) (by omega)
      simp [floor_Opposite.f, this.2.2.2.2.2.1, this.2.2.2.2.2.2.1, c2]
theorem back_mid {W H D : Int} {K O : List Int} (G : Good W H D K O) (k : Nat) (c d : Int) (ok : Bool) (h1 : ok = true → 0 ≤ d ∧ d < 6) : taquinlaw07_FloorBack.j1 (k + 1 + 1 + 1) c d true ok W H D K O = some true := by
  rw [taquinlaw07_FloorBack.j1]
  obtain ⟨r, hb, hr⟩ := beside_total G c (oppI d)
  rw [back_good G (k + 1) hb]
  by_cases hk : 0 ≤ r ∧ okM K O r c d
  · rw [if_pos hk]
    obtain ⟨c0, c1, r1, d0, d1, _, hb2⟩ := beside_back G hb hk.1
    have hd : 0 ≤ d ∧ d < 6 := by
      refine Decidable.byContradiction fun hh => ?_
      rw [opp_out hh] at d0
      omega
    rw [(opp_steps hd.1 hd.2).2.2.2.2.2.1] at hb2
    have hn := next_good G (k + 1) hb2
    rw [if_pos ⟨c0, hk.2⟩] at hn
    simp [hn, back_last k d ok true h1 (fun _ => hd)]
  · rw [if_neg hk]
    simp [back_last k d ok false h1 (fun h => by cases h)]
theorem floorBack_pure (W H D : Int) (K O : List Int) (c d : Int) (hd : -9223372036854775808 ≤ d ∧ d ≤ 9223372036854775807) : ∃ k, taquinlaw07_FloorBack.f k W H D K O c d = some true := by
  refine ⟨5000 + 1 + 1 + 1 + 1, ?_⟩
  unfold taquinlaw07_FloorBack.f
  rw [small_at (by omega)]
  obtain ⟨b, hb, hb2⟩ := fair_said W H D K O 300 (5000 + 1 + 1 + 1 + 1) (by omega) (by omega)
  rw [hb]
  simp only [Option.bind_some]
  cases b with
  | false => simp
  | true =>
    have G := (hb2.1 rfl).1
    clear hb hb2
    generalize 5000 = k
    rw [if_pos rfl]
    obtain ⟨r, hr, hr2⟩ := beside_total G c d
    rw [next_good G (k + 1 + 1 + 1) hr]
    simp only [Option.bind_some]
    by_cases hk : 0 ≤ r ∧ okM K O c r d
    · rw [if_pos hk]
      obtain ⟨c0, c1, r1, d0, d1, hne, hb2⟩ := beside_back G hr hk.1
      have hback : floor_Back.f (k + 1 + 1 + 1) W H D K O r d = some (c, true) := by
        rw [back_good G (k + 1 + 1) hb2, if_pos ⟨c0, hk.2⟩]
      have hw : IntKind.u64.wrap d = d := by
        show d % 18446744073709551616 = d
        omega
      have hnO := G.nO
      have k1 : ¬ (rd K c = 0) := hk.2.1
      have k2 : ¬ (rd K r = 0) := hk.2.2.1
      have k3 : ¬ (Go.bits .and .i64 (shr .i64 (rd O c) d) 1 = 0) := hk.2.2.2.1
      have hj0 : taquinlaw07_FloorBack.j0 (k + 1 + 1 + 1 + 1) c d true r true false W H D K O = some true := by
        rw [taquinlaw07_FloorBack.j0]
        rw [if_neg (by decide), hback]
        simp only [Option.bind_some, hw]
        rw [if_pos trivial, if_pos trivial, if_pos c0, if_pos c1, if_neg k1, if_pos hk.1, if_pos r1, if_neg k2, if_pos (by omega), if_pos d0, if_neg k3, if_neg hne]
        exact back_mid G k c d true (fun _ => ⟨d0, d1⟩)
      rw [if_pos rfl, if_neg (by omega), if_neg (by omega), if_neg (by show ¬ r < 0; omega), if_neg (by show ¬ r ≥ _; omega), if_neg (by omega), decide_eq_false (by omega)]
      exact hj0
    · rw [if_neg hk, if_neg (by decide)]
      exact back_mid G (k + 1) c d false (fun h => by cases h)
end Go.Proofs.Ytmnncmpmhbfpcaa.P
