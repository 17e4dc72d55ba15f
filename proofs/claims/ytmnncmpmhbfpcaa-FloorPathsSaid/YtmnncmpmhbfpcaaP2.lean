/- The examples of the laws of chapter 7, and what 'fair' says. -/
import Derived.Test.YtmnncmpmhbfpcaaP1
import Derived.Test.YtmnncmpmhbfpcaaD
namespace Go.Proofs.Ytmnncmpmhbfpcaa.P
set_option linter.unusedVariables false
set_option linter.unusedSimpArgs false
open Go.RowKit Go.Proofs.YtmnncmpmhbfpcaaW.PrintWords Go.Proofs.YtmnncmpmhbfpcaaW.PrintLast Go.Proofs.YtmnncmpmhbfpcaaW.PrintMore
open Go.Proofs.Ytmnncmpmhbfpcaa.A Go.Proofs.Ytmnncmpmhbfpcaa.H Go.Proofs.Ytmnncmpmhbfpcaa.B Go.Proofs.Ytmnncmpmhbfpcaa.S Go.Proofs.Ytmnncmpmhbfpcaa.C Go.Proofs.Ytmnncmpmhbfpcaa.D

set_option maxRecDepth 100000 in
theorem small_holds : taquinlaw07_small.f 100 = some true := by decide +kernel
theorem small_at {k : Nat} (hk : 100 ≤ k) : taquinlaw07_small.f k = some true := at_rounds (g := fun k => taquinlaw07_small.f k) taquinlaw07_small.mono hk small_holds

theorem right_loop {W H D : Int} {K O : List Int} (hO : O.length = K.length) (hn : K.length ≤ 4096) : ∀ (m i k : Nat), i + m = K.length → m + 1 ≤ k → ∃ b, taquinref07_Right.l0 k (K.length : Int) (i : Int) W H D K O = some b ∧ (b = true ↔ ∀ j, i ≤ j → j < K.length → (0 ≤ K.getD j 0 ∧ K.getD j 0 < 7) ∧ (0 ≤ O.getD j 0 ∧ O.getD j 0 ≤ 63)) := by
  intro m
  induction m with
  | zero =>
    intro i k hi hk
    obtain ⟨k, rfl⟩ : ∃ j, k = j + 1 := ⟨k - 1, by omega⟩
    unfold taquinref07_Right.l0
    rw [if_neg (by omega)]
    exact ⟨true, rfl, fun _ j h1 h2 => by omega, fun _ => rfl⟩
  | succ m ih =>
    intro i k hi hk
    obtain ⟨k, rfl⟩ : ∃ j, k = j + 1 := ⟨k - 1, by omega⟩
    obtain ⟨b, hb, hb2⟩ := ih (i + 1) k (by omega) (by omega)
    unfold taquinref07_Right.l0
    have hrd : ∀ l : List Int, rd l (i : Int) = l.getD i 0 := fun l => by unfold rd; rw [Int.toNat_natCast]
    rw [if_pos (by omega), if_pos (by omega), if_pos (by omega), hrd, hrd]
    by_cases c1 : K.getD i 0 < 0
    · rw [if_pos c1]
      exact ⟨false, rfl, (fun h => by cases h), fun h => by have := h i (Nat.le_refl _) (by omega); omega⟩
    rw [if_neg c1]
    by_cases c2 : K.getD i 0 ≥ 7
    · rw [if_pos c2]
      exact ⟨false, rfl, (fun h => by cases h), fun h => by have := h i (Nat.le_refl _) (by omega); omega⟩
    rw [if_neg c2, if_pos (by omega)]
    by_cases c3 : O.getD i 0 < 0
    · rw [if_pos c3]
      exact ⟨false, rfl, (fun h => by cases h), fun h => by have := h i (Nat.le_refl _) (by omega); omega⟩
    rw [if_neg c3]
    by_cases c4 : O.getD i 0 > 63
    · rw [if_pos c4]
      exact ⟨false, rfl, (fun h => by cases h), fun h => by have := h i (Nat.le_refl _) (by omega); omega⟩
    rw [if_neg c4, show wrap64 ((i : Int) + 1) = ((i + 1 : Nat) : Int) by rw [wsm _ (by omega) (by omega)]; rfl]
    refine ⟨b, hb, fun h j h1 h2 => ?_, fun h => hb2.2 fun j h1 h2 => h j (by omega) h2⟩
    by_cases hj : j = i
    · subst hj
      exact ⟨⟨by omega, by omega⟩, by omega, by omega⟩
    · exact hb2.1 h j (by omega) h2
/-- What taquinref07.Right says, at enough rounds. -/
theorem right_said (W H D : Int) (K O : List Int) (k : Nat) (hk : 4200 ≤ k) (hlen : K.length ≤ 4611686018427387904) : ∃ b, taquinref07_Right.f k W H D K O = some b ∧ (b = true ↔ Good W H D K O) := by
  obtain ⟨k, rfl⟩ : ∃ j, k = (j + 1) + 1 := ⟨k - 2, by omega⟩
  have hj : taquinref07_Right.j0 (k + 1 + 1) true W H D K O = some false := rfl
  unfold taquinref07_Right.f
  by_cases c1 : W < 1
  · rw [if_pos c1, hj]; exact ⟨false, rfl, (fun h => by cases h), fun G => by have := G.w1; omega⟩
  rw [if_neg c1]
  by_cases c2 : H < 1
  · rw [if_pos c2, hj]; exact ⟨false, rfl, (fun h => by cases h), fun G => by have := G.h1; omega⟩
  rw [if_neg c2]
  by_cases c3 : D < 1
  · rw [if_pos c3, hj]; exact ⟨false, rfl, (fun h => by cases h), fun G => by have := G.d1; omega⟩
  rw [if_neg c3]
  by_cases c4 : D > 4
  · rw [if_pos c4, hj]; exact ⟨false, rfl, (fun h => by cases h), fun G => by have := G.d2; omega⟩
  rw [if_neg c4]
  by_cases c5 : W > 4096
  · rw [if_pos c5, hj]; exact ⟨false, rfl, (fun h => by cases h), fun G => by have := G.w2; omega⟩
  rw [if_neg c5]
  by_cases c6 : H > 4096
  · rw [decide_eq_true c6, hj]; exact ⟨false, rfl, (fun h => by cases h), fun G => by have := G.h2; omega⟩
  rw [decide_eq_false c6]
  have w1 := Int.mul_le_mul (show W ≤ 4096 by omega) (show H ≤ 4096 by omega) (by omega) (by omega)
  have w2 := Int.mul_le_mul (show 1 ≤ W by omega) (show 1 ≤ H by omega) (by omega) (by omega)
  have w3 := Int.mul_le_mul w1 (show D ≤ 4 by omega) (by omega) (by omega)
  have w4 := Int.mul_le_mul w2 (show 1 ≤ D by omega) (by omega) (by omega)
  have e : wrap64 (wrap64 (W * H) * D) = W * H * D := by rw [wsm (W * H) (by omega) (by omega), wsm _ (by omega) (by omega)]
  have hj1 : taquinref07_Right.j1 (k + 1) (W * H * D) true W H D K O = some false := rfl
  rw [taquinref07_Right.j0]
  rw [if_neg (by decide), e]
  by_cases c7 : W * H * D > 4096
  · rw [if_pos c7, hj1]; exact ⟨false, rfl, (fun h => by cases h), fun G => by have := G.n; have := G.n2; omega⟩
  rw [if_neg c7]
  by_cases c8 : (K.length : Int) = W * H * D
  · rw [if_pos c8]
    by_cases c9 : (O.length : Int) = W * H * D
    · rw [show ((O.length : Int) != W * H * D) = false by simp [c9]]
      rw [taquinref07_Right.j1]
      rw [if_neg (by decide), ← c8]
      obtain ⟨b, hb, hb2⟩ := right_loop (W := W) (H := H) (D := D) (K := K) (O := O) (by omega) (by omega) K.length 0 k (by omega) (by omega)
      refine ⟨b, hb, fun h => ?_, fun G => hb2.2 fun j _ h2 => ⟨G.k j h2, G.o j h2⟩⟩
      have h3 := hb2.1 h
      exact ⟨by omega, by omega, by omega, by omega, by omega, by omega, c8.symm, by omega, by omega, fun i hi => (h3 i (Nat.zero_le _) hi).1, fun i hi => (h3 i (Nat.zero_le _) hi).2⟩
    · rw [show ((O.length : Int) != W * H * D) = true by simp [c9], hj1]; exact ⟨false, rfl, (fun h => by cases h), fun G => by have := G.n; have := G.nO; omega⟩
  · rw [if_neg c8, hj1]; exact ⟨false, rfl, (fun h => by cases h), fun G => by have := G.n; omega⟩
theorem fair_said (W H D : Int) (K O : List Int) (m : Int) (k : Nat) (hk : 4200 ≤ k) (hm : m ≤ 4611686018427387904) : ∃ b, taquinlaw07_fair.f k W H D K O m = some b ∧ (b = true ↔ Good W H D K O ∧ (K.length : Int) ≤ m) := by
  unfold taquinlaw07_fair.f taquinref07_Few.f
  by_cases c1 : (K.length : Int) ≤ m
  · obtain ⟨b, hb, hb2⟩ := right_said W H D K O k hk (by omega)
    rw [if_pos c1]
    simp only [Option.bind_some]
    by_cases c2 : (O.length : Int) ≤ m
    · rw [decide_eq_true c2, if_pos rfl, hb]
      exact ⟨b, rfl, fun h => ⟨hb2.1 h, c1⟩, fun h => hb2.2 h.1⟩
    · rw [decide_eq_false c2, if_neg (by decide)]
      exact ⟨false, rfl, (fun h => by cases h), fun h => by have := h.1.nO; omega⟩
  · rw [if_neg c1]
    exact ⟨false, rfl, (fun h => by cases h), fun h => absurd h.2 c1⟩
end Go.Proofs.Ytmnncmpmhbfpcaa.P
