/- BatteryAges: costs grow with the tick and the load, are positive just for the acts other than charging, and are at most Worst, which is at most 21. Conditions: none beyond those of the statement. -/
import Derived.Test.YtkhehmmdlnebnaaB2
import Derived.Test.YtkhehmmdlnebnaaM
namespace Go.Proofs.Ytkhehmmdlnebnaa.Pure
set_option linter.unusedVariables false
set_option linter.unusedSimpArgs false
open Go.RowKit Go.Proofs.Ytkhehmmdlnebnaa.B Go.Proofs.YtkhehmmdlnebnaaW.PrintWords Go.Proofs.YtkhehmmdlnebnaaW.PrintLast
open Go.Proofs.YtkhehmmdlnebnaaW.PrintMore Go.Proofs.Ytkhehmmdlnebnaa.H Go.Proofs.Ytkhehmmdlnebnaa.M

theorem ages_loop (x2 x10 x11 x12 : Int) (x3 : Bool) (hx2 : isI x2) (h12 : x12 = costI x10 x2 x3) (h10 : isI x10) (d : Nat) : ∀ (k : Nat) (x14 : Bool) (x15 : Int), 0 ≤ x15 → x15 + d = 10 → (x14 = true ∨ x15 ≤ 5) → d + 11 < k →
    taquinlaw13_BatteryAges.l0 k x2 x3 true x10 x11 x12 x14 x15 = some true := by
  induction d with
  | zero =>
    intro k x14 x15 h0 hd h14 hk
    obtain ⟨k, rfl⟩ : ∃ m, k = m + 1 := ⟨k - 1, by omega⟩
    have e14 : x14 = true := by
      rcases h14 with h | h
      · exact h
      · omega
    subst e14
    simp only [taquinlaw13_BatteryAges.l0]
    rw [if_neg (by omega)]
    by_cases hn : x10 < 0
    · rw [if_pos hn]
      rfl
    · rw [if_neg hn]
      by_cases hm : x10 > 20000
      · rw [if_pos hm]
        rfl
      · rw [if_neg hm, cost_f hx2]
        have ht : Int.tmod x10 1000 = x10 % 1000 := Int.tmod_eq_emod_of_nonneg (by omega)
        have hw : wrap64 (x10 - Int.tmod x10 1000) = x10 - x10 % 1000 := by
          rw [ht]
          unfold wrap64
          omega
        have ha : ageI (x10 - x10 % 1000) = ageI x10 := by
          unfold ageI
          repeat' split
          all_goals omega
        have hc : costI (x10 - x10 % 1000) x2 x3 = x12 := by
          rw [h12, costI_cst, costI_cst, ha]
        rw [hw, hc]
        simp
  | succ d ih =>
    intro k x14 x15 h0 hd h14 hk
    obtain ⟨k, rfl⟩ : ∃ m, k = m + 1 := ⟨k - 1, by omega⟩
    have hw : wrap64 (x15 + 1) = x15 + 1 := by unfold wrap64; omega
    simp only [taquinlaw13_BatteryAges.l0]
    rw [if_pos (by omega), hw]
    cases x14 with
    | true =>
      rw [if_pos rfl]
      exact ih k true (x15 + 1) (by omega) (by omega) (.inl rfl) (by omega)
    | false =>
      rw [if_neg (by decide), cost_f (isI_small h0 (by omega))]
      simp only [Option.bind_some]
      rw [worst_is k (by omega) x11]
      simp only [Option.bind_some]
      refine ih k _ (x15 + 1) (by omega) (by omega) ?_ (by omega)
      by_cases h5 : x15 = 5
      · subst h5
        left
        simp
      · right
        rcases h14 with h | h
        · cases h
        · omega

theorem BatteryAges : taquinlaw13_BatteryAges.Pure := by
  intro a0 a1 a2 a3 w0 w1 w2
  have i0 := isI_wf w0
  have i1 := isI_wf w1
  have i2 := isI_wf w2
  have hle : mn a0 a1 ≤ mx a0 a1 := by unfold mn mx; repeat' split <;> omega
  have iE : isI (mn a0 a1) := by unfold mn; split <;> assumption
  obtain ⟨E, hE⟩ : ∃ E, mn a0 a1 = E := ⟨_, rfl⟩
  obtain ⟨L, hL⟩ : ∃ L, mx a0 a1 = L := ⟨_, rfl⟩
  rw [hE] at hle iE
  rw [hL] at hle
  have c1 := cost_later a2 a3 hle
  have c2 := cost_laden E a2
  have c3 := cost_worst E a2 a3
  have c4 := costI_range E a2 a3
  have c5 := cost_pos E a2 a3
  have c6 := cost_later 5 true hle
  have c7 := costI_range L 5 true
  refine ⟨64, ?_⟩
  unfold taquinlaw13_BatteryAges.f
  rw [small_true 64 (by omega), hE, hL]
  simp only [Option.bind_some]
  rw [cost_f i2, cost_f i2]
  simp only [Option.bind_some]
  rw [if_neg (by omega), cost_f i2, cost_f i2]
  simp only [Option.bind_some]
  rw [if_neg (by omega), worst_is 64 (by omega)]
  simp only [Option.bind_some]
  rw [if_neg (by omega), decide_eq_false (by omega)]
  rw [show (64 : Nat) = 63 + 1 from rfl, taquinlaw13_BatteryAges.j0, if_neg (by decide)]
  have key : ∀ b : Bool, (b = true ↔ 0 < costI E a2 a3) → taquinlaw13_BatteryAges.j1 63 a2 a3 true E L (costI E a2 a3) b = some true := by
    intro b hb
    rw [show (63 : Nat) = 62 + 1 from rfl, taquinlaw13_BatteryAges.j1]
    have e : ((decide (costI E a2 a3 > 0)) != b) = false := by
      cases b <;> simp at hb ⊢ <;> omega
    rw [e, if_neg (by decide), worst_is 62 (by omega), worst_is 62 (by omega)]
    simp only [Option.bind_some]
    rw [if_neg (by omega), decide_eq_false (by omega), show (62 : Nat) = 61 + 1 from rfl, taquinlaw13_BatteryAges.j2, if_neg (by decide)]
    exact ages_loop a2 E L _ a3 i2 rfl iE 10 61 false 0 (by omega) (by omega) (.inr (by omega)) (by omega)
  by_cases h0 : a2 ≥ 0
  · rw [if_pos h0]
    by_cases h1 : a2 < 10
    · rw [if_pos h1]
      refine key _ ?_
      rw [c5]
      simp
      omega
    · rw [if_neg h1]
      refine key _ ?_
      rw [c5]
      simp
      omega
  · rw [if_neg h0]
    refine key _ ?_
    rw [c5]
    simp
    omega

end Go.Proofs.Ytkhehmmdlnebnaa.Pure
