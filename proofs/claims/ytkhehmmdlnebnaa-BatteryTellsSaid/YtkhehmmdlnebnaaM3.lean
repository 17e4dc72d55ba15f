/- What taquinref13.Acts comes to, and small facts for the laws' own loops. -/
import Derived.Test.YtkhehmmdlnebnaaM2
import Derived.Test.YtkhehmmdlnebnaaB2
namespace Go.Proofs.Ytkhehmmdlnebnaa.M
set_option linter.unusedVariables false
set_option linter.unusedSimpArgs false
open Go.RowKit Go.Proofs.YtkhehmmdlnebnaaW.PrintWords Go.Proofs.YtkhehmmdlnebnaaW.PrintLast Go.Proofs.YtkhehmmdlnebnaaW.PrintMore
open Go.Proofs.Ytkhehmmdlnebnaa.H Go.Proofs.Ytkhehmmdlnebnaa.B

theorem act_is (a : Int) : taquinref13_Act.f a = some (decide (0 ≤ a ∧ a < 10)) := by
  unfold taquinref13_Act.f
  by_cases h : a ≥ 0
  · rw [if_pos h]
    congr 1
    simp
    omega
  · rw [if_neg h]
    congr 1
    symm
    simp
    omega
theorem rd_eq (xs : List Int) (i : Nat) : rd xs i = xs.getD i 0 := by simp [rd]

theorem acts_loop (xs : List Int) (n : Nat) (hn : n ≤ 1000) (d : Nat) : ∀ (k i : Nat), i + d = n → 2 * d + 2 ≤ k →
    ∃ b, taquinref13_Acts.l0 k xs n i = some b ∧ (b = true → xs.length ≤ n ∧ ∀ j, i ≤ j → j < xs.length → 0 ≤ xs.getD j 0 ∧ xs.getD j 0 < 10) := by
  induction d with
  | zero =>
    intro k i hi hk
    obtain ⟨k, rfl⟩ : ∃ m, k = m + 2 := ⟨k - 2, by omega⟩
    have h1 : ¬ ((i : Int) < (n : Int)) := by omega
    refine ⟨decide ((xs.length : Int) ≤ n), ?_, fun h => ?_⟩
    · rw [show k + 2 = (k + 1) + 1 from rfl, taquinref13_Acts.l0, decide_eq_false h1]
      split <;> rw [taquinref13_Acts.j1, if_neg (by decide)]
    · have h2 := of_decide_eq_true h
      exact ⟨by omega, fun j hj hl => by omega⟩
  | succ d ih =>
    intro k i hi hk
    obtain ⟨k, rfl⟩ : ∃ m, k = m + 2 := ⟨k - 2, by omega⟩
    rw [show k + 2 = (k + 1) + 1 from rfl, taquinref13_Acts.l0]
    by_cases hl : i < xs.length
    · rw [if_pos (by omega), decide_eq_true (by omega), taquinref13_Acts.j1, if_pos rfl, if_pos (by omega), if_pos (by omega), act_is, rd_eq]
      simp only [Option.bind_some]
      by_cases hv : 0 ≤ xs.getD i 0 ∧ xs.getD i 0 < 10
      · rw [decide_eq_true hv, if_pos rfl]
        obtain ⟨b, h1, h2⟩ := ih k (i + 1) (by omega) (by omega)
        refine ⟨b, ?_, fun h => ?_⟩
        · rw [w64 (by omega) (by omega)]
          exact h1
        · obtain ⟨h3, h4⟩ := h2 h
          refine ⟨h3, fun j hj hjl => ?_⟩
          by_cases e : j = i
          · subst e; exact hv
          · exact h4 j (by omega) hjl
      · rw [decide_eq_false hv, if_neg (by decide)]
        exact ⟨false, rfl, fun h => by cases h⟩
    · rw [if_neg (by omega), taquinref13_Acts.j1, if_neg (by decide)]
      refine ⟨_, rfl, fun h => ?_⟩
      have h2 := of_decide_eq_true h
      exact ⟨by omega, fun j hj hjl => by omega⟩

theorem acts_is (xs : List Int) (n : Nat) (hn : n ≤ 1000) : ∃ b, (∀ k, 2 * n + 2 ≤ k → taquinref13_Acts.f k xs n = some b) ∧ (b = true → xs.length ≤ n ∧ ∀ a ∈ xs, 0 ≤ a ∧ a < 10) := by
  obtain ⟨b, h1, h2⟩ := acts_loop xs n hn n (2 * n + 2) 0 (by omega) (Nat.le_refl _)
  have hm : ∀ j k, taquinref13_Acts.l0 k xs n 0 = some b → taquinref13_Acts.l0 (k + j) xs n 0 = some b := by
    intro j
    induction j with
    | zero => intro k h; exact h
    | succ j ih => intro k h; exact (taquinref13_Acts.mono_l (k + j)).1 _ _ _ _ (ih k h)
  refine ⟨b, fun k hk => ?_, fun h => ?_⟩
  · have := hm (k - (2 * n + 2)) (2 * n + 2) h1
    rw [show 2 * n + 2 + (k - (2 * n + 2)) = k by omega] at this
    exact this
  · obtain ⟨h3, h4⟩ := h2 h
    refine ⟨h3, fun a ha => ?_⟩
    obtain ⟨j, hj, rfl⟩ := List.getElem_of_mem ha
    have := h4 j (by omega) hj
    simpa [List.getD_eq_getElem?_getD, hj] using this

theorem all_isI {xs : List Int} (h : ∀ x ∈ xs, (Lit.int .i64 x).wf = true) : ∀ a ∈ xs, isI a := fun a ha => isI_wf (h a ha)
theorem sum_f {t : Int} {xs : List Int} {l : Bool} (h : ∀ a ∈ xs, isI a) (hn : xs.length ≤ 1000) : battery_Sum.f t xs l = some (sumZ (stepsL t 0 xs l)) := by
  unfold battery_Sum.f
  rw [if_pos h, sumL_sumZ (by rw [stepsL_length]; exact hn)]
theorem run_f {t c : Int} {xs : List Int} {l : Bool} (h : ∀ a ∈ xs, isI a) : battery_Run.f t c xs l = some (runL (stepsL t 0 xs l) c 0) := by
  unfold battery_Run.f
  rw [if_pos h]
end Go.Proofs.Ytkhehmmdlnebnaa.M
