/- Plain facts on costs; what Worst and the examples come to. -/
import Derived.Test.YtkhehmmdlnebnaaB1
namespace Go.Proofs.Ytkhehmmdlnebnaa.M
set_option linter.unusedVariables false
set_option linter.unusedSimpArgs false
open Go.RowKit Go.Proofs.YtkhehmmdlnebnaaW.PrintWords Go.Proofs.YtkhehmmdlnebnaaW.PrintLast Go.Proofs.YtkhehmmdlnebnaaW.PrintMore
open Go.Proofs.Ytkhehmmdlnebnaa.H Go.Proofs.Ytkhehmmdlnebnaa.B

theorem ageI_mono {s t : Int} (h : s ≤ t) : ageI s ≤ ageI t := by
  unfold ageI
  repeat' split
  all_goals omega

theorem baseI_load (a : Int) (l : Bool) : baseI a false ≤ baseI a l ∧ baseI a l ≤ baseI a true := by
  unfold baseI
  cases l <;> simp <;> (repeat' split) <;> omega
theorem baseI_pos (a : Int) (l : Bool) : 0 < baseI a l ↔ (0 ≤ a ∧ a < 10 ∧ a ≠ 9) := by
  unfold baseI
  cases l <;> simp <;> (repeat' split) <;> omega

/-- The cost of a base at an age. -/
def cst (b q : Int) : Int := (b * (10 + q) + 9) / 10
theorem costI_cst (t a : Int) (l : Bool) : costI t a l = cst (baseI a l) (ageI t) := rfl
theorem cst_mono {b b' q q' : Int} (h0 : 0 ≤ b) (hb : b ≤ b') (hq0 : 0 ≤ q) (hq : q ≤ q') : cst b q ≤ cst b' q' := by
  unfold cst
  have h1 : b * (10 + q) ≤ b' * (10 + q') := Int.mul_le_mul hb (by omega) (by omega) (by omega)
  omega
theorem cst_pos {b q : Int} (hb : 0 ≤ b) (hq : 0 ≤ q) : 0 < cst b q ↔ 0 < b := by
  unfold cst
  constructor
  · intro h
    rcases Int.lt_or_eq_of_le hb with h1 | h1
    · exact h1
    · subst h1
      simp at h
  · intro h
    have h1 : 1 * (10 + q) ≤ b * (10 + q) := Int.mul_le_mul (by omega) (by omega) (by omega) (by omega)
    omega

theorem cost_later {s t : Int} (a : Int) (l : Bool) (h : s ≤ t) : costI s a l ≤ costI t a l :=
  cst_mono (baseI_range a l).1 (Int.le_refl _) (ageI_range s).1 (ageI_mono h)
theorem cost_laden (t a : Int) : costI t a false ≤ costI t a true :=
  cst_mono (baseI_range a false).1 (baseI_load a true).1 (ageI_range t).1 (Int.le_refl _)
theorem cost_worst (t a : Int) (l : Bool) : costI t a l ≤ costI t 5 true :=
  cst_mono (b' := baseI 5 true) (baseI_range a l).1 (baseI_range a l).2 (ageI_range t).1 (Int.le_refl _)
theorem cost_pos (t a : Int) (l : Bool) : 0 < costI t a l ↔ (0 ≤ a ∧ a < 10 ∧ a ≠ 9) := by
  rw [costI_cst, cst_pos (baseI_range a l).1 (ageI_range t).1, baseI_pos]

theorem isI_small {a : Int} (h0 : 0 ≤ a) (h1 : a ≤ 9) : isI a := by
  unfold isI
  omega
theorem cost_f {t a : Int} {l : Bool} (h : isI a) : battery_Cost.f t a l = some (costI t a l) := by
  unfold battery_Cost.f
  rw [if_pos h]

theorem small_true (k : Nat) (h : 1 ≤ k) : taquinlaw13_small.f k = some true := by
  obtain ⟨k, rfl⟩ : ∃ m, k = m + 1 := ⟨k - 1, by omega⟩
  have h1 : battery_Cost.f 0 5 true = some 7 := by decide +kernel
  have h2 : battery_Cost.f 20000 5 true = some 21 := by decide +kernel
  have h3 : battery_Cost.f 1000 0 false = some 2 := by decide +kernel
  have h4 : battery_Cost.f 999 0 false = some 1 := by decide +kernel
  have h5 : battery_Sum.f 0 [7, 1, 8] false = some 8 := by decide +kernel
  have h6 : battery_After.f 5 999990 9 false = some (1000000, 0) := by decide +kernel
  unfold taquinlaw13_small.f
  rw [h1]
  simp only [Option.bind_some, if_true]
  rw [h2]
  simp only [Option.bind_some, taquinlaw13_small.j0]
  rw [h3]
  simp only [Option.bind_some, if_true]
  rw [h4]
  simp only [Option.bind_some]
  rw [h5]
  simp only [Option.bind_some]
  rw [h6]
  rfl

theorem worst_step (k : Nat) (t acc i : Int) (h0 : 0 ≤ i) (h1 : i < 10) : battery_Worst.l0 (k + 1) t acc i = battery_Worst.l0 k t (mx acc (costI t i true)) (i + 1) := by
  have hw : wrap64 (i + 1) = i + 1 := by unfold wrap64; omega
  simp only [battery_Worst.l0]
  rw [if_pos h1, cost_f (isI_small h0 (by omega))]
  simp only [Option.bind_some]
  rw [hw]
theorem worst_loop (t M : Int) (hM : ∀ a, costI t a true ≤ M) (d : Nat) : ∀ (k : Nat) (acc i : Int), 0 ≤ i → i + d = 10 → acc ≤ M → (acc = M ∨ ∃ j, i ≤ j ∧ j < 10 ∧ costI t j true = M) → d < k →
    battery_Worst.l0 k t acc i = some M := by
  induction d with
  | zero =>
    intro k acc i h0 hi ha ho hk
    obtain ⟨k, rfl⟩ : ∃ m, k = m + 1 := ⟨k - 1, by omega⟩
    simp only [battery_Worst.l0]
    rw [if_neg (by omega)]
    rcases ho with rfl | ⟨j, _, _, _⟩
    · rfl
    · omega
  | succ d ih =>
    intro k acc i h0 hi ha ho hk
    obtain ⟨k, rfl⟩ : ∃ m, k = m + 1 := ⟨k - 1, by omega⟩
    rw [worst_step k t acc i h0 (by omega)]
    have hc := hM i
    refine ih k _ _ (by omega) (by omega) (by unfold mx; split <;> omega) ?_ (by omega)
    rcases ho with rfl | ⟨j, h1, h2, h3⟩
    · left
      unfold mx
      split <;> omega
    · by_cases e : j = i
      · subst e
        left
        unfold mx
        split <;> omega
      · exact .inr ⟨j, by omega, h2, h3⟩
theorem worst_is (k : Nat) (h : 11 ≤ k) (t : Int) : battery_Worst.f k t = some (costI t 5 true) := by
  unfold battery_Worst.f
  exact worst_loop t _ (fun a => cost_worst t a true) 10 k 0 0 (by omega) (by omega) (costI_range t 5 true).1 (.inr ⟨5, by omega, by omega, rfl⟩) (by omega)
end Go.Proofs.Ytkhehmmdlnebnaa.M
