/- What the functions of taquinref13 come to. -/
import Derived.Test.YtkhehmmdlnebnaaM4
import Derived.Test.YtkhehmmdlnebnaaB6
import Derived.Test.YtkhehmmdlnebnaaB7
namespace Go.Proofs.Ytkhehmmdlnebnaa.M
set_option linter.unusedVariables false
set_option linter.unusedSimpArgs false
open Go.RowKit Go.Proofs.YtkhehmmdlnebnaaW.PrintWords Go.Proofs.YtkhehmmdlnebnaaW.PrintLast Go.Proofs.YtkhehmmdlnebnaaW.PrintMore
open Go.Proofs.Ytkhehmmdlnebnaa.H Go.Proofs.Ytkhehmmdlnebnaa.B

theorem refBase_is (a : Int) (l : Bool) (k : Nat) (hk : 3 ≤ k) : taquinref13_Base.f k a l = some (baseI a l) := by
  obtain ⟨k, rfl⟩ : ∃ m, k = m + 3 := ⟨k - 3, by omega⟩
  have w1 : wrap64 (5 + 2) = 7 := w64 (by omega) (by omega)
  have w2 : wrap64 (2 + 2) = 4 := w64 (by omega) (by omega)
  unfold taquinref13_Base.f
  rw [show k + 3 = ((k + 1) + 1) + 1 from rfl]
  simp only [taquinref13_Base.j0, taquinref13_Base.j1, taquinref13_Base.j2, w1, w2]
  unfold baseI
  by_cases h0 : a = 0
  · subst h0; simp
  by_cases h8 : a = 8
  · subst h8; simp
  by_cases h7 : a = 7
  · subst h7; simp
  by_cases hl : a < 1
  · simp [h0, h8, h7, hl, show a ≠ 1 by omega, show a ≠ 2 by omega, show a ≠ 3 by omega, show a ≠ 4 by omega, show a ≠ 5 by omega, show a ≠ 6 by omega]
  by_cases hg : a ≥ 7
  · simp [h0, h8, h7, hl, hg, show a ≠ 1 by omega, show a ≠ 2 by omega, show a ≠ 3 by omega, show a ≠ 4 by omega, show a ≠ 5 by omega, show a ≠ 6 by omega]
  have : a = 1 ∨ a = 2 ∨ a = 3 ∨ a = 4 ∨ a = 5 ∨ a = 6 := by omega
  rcases this with rfl | rfl | rfl | rfl | rfl | rfl <;> cases l <;> simp

theorem refAge_is (t : Int) : taquinref13_Age.f t = some (ageI t) := by
  unfold taquinref13_Age.f ageI
  by_cases h : t < 0
  · rw [if_pos h, if_pos h]; rfl
  · rw [if_neg h, if_neg h]
    by_cases h2 : t > 20000
    · rw [if_pos h2, if_pos h2]; rfl
    · rw [if_neg h2, if_neg h2, Int.tdiv_eq_ediv_of_nonneg (by omega), w64 (by omega) (by omega)]

theorem refCost_is (t a : Int) (l : Bool) (k : Nat) (hk : 3 ≤ k) : taquinref13_Cost.f k t a l = some (costI t a l) := by
  have h1 := baseI_range a l
  have h2 := ageI_range t
  unfold taquinref13_Cost.f
  rw [refBase_is a l k hk, refAge_is]
  simp only [Option.bind_some]
  have h3 : 0 ≤ baseI a l * (10 + ageI t) := Int.mul_nonneg h1.1 (by omega)
  have h4 : baseI a l * (10 + ageI t) ≤ 7 * 30 := Int.mul_le_mul h1.2 (by omega) (by omega) (by omega)
  rw [w64 (n := 10 + ageI t) (by omega) (by omega), w64 (n := baseI a l * (10 + ageI t)) h3 (by omega)]
  unfold costI
  generalize baseI a l * (10 + ageI t) = x at *
  rw [Int.tmod_eq_emod_of_nonneg h3, Int.tdiv_eq_ediv_of_nonneg h3, w64 (n := x / 10) (by omega) (by omega), w64 (n := x / 10 + 1) (by omega) (by omega)]
  split
  · congr 1; omega
  · congr 1; omega

theorem refWorst_is (t : Int) (k : Nat) (hk : 3 ≤ k) : taquinref13_Worst.f k t = some (costI t 5 true) := by
  unfold taquinref13_Worst.f
  rw [refCost_is t 5 true k hk]
  rfl

theorem refLaden_is (a : Int) (l : Bool) : taquinref13_Laden.f a l = some (ladenI a l) := by
  unfold taquinref13_Laden.f ladenI
  by_cases h7 : a = 7
  · subst h7; simp
  · rw [if_neg h7]
    by_cases h8 : a = 8
    · subst h8; simp
    · rw [if_neg h8]; simp [h7, h8]

theorem refSpend_is (c x : Int) (hx : isI x) (k : Nat) (hk : 1 ≤ k) : taquinref13_Spend.f k c x = some (spendI c x) := by
  obtain ⟨k, rfl⟩ : ∃ m, k = m + 1 := ⟨k - 1, by omega⟩
  unfold taquinref13_Spend.f
  have bad : ∀ h : ¬ (0 ≤ c ∧ c ≤ 1000000) ∨ x < 0, taquinref13_Spend.j0 (k + 1) c x true = some (spendI c x) := fun h => by
    rw [taquinref13_Spend.j0, if_pos rfl]
    unfold spendI
    rw [if_pos h]
  by_cases h0 : c < 0
  · rw [if_pos h0]; exact bad (.inl (by omega))
  rw [if_neg h0]
  by_cases h1 : c > 1000000
  · rw [if_pos h1]; exact bad (.inl (by omega))
  rw [if_neg h1]
  by_cases h2 : x < 0
  · rw [decide_eq_true h2]; exact bad (.inr h2)
  have e : spendI c x = if c < x then (c, 16) else (c - x, 0) := by unfold spendI; rw [if_neg (by omega)]
  rw [decide_eq_false h2, taquinref13_Spend.j0, if_neg (by decide), e]
  by_cases h3 : c < x
  · rw [if_pos h3, if_pos h3]
  · rw [if_neg h3, if_neg h3, w64 (by omega) (by omega)]

theorem refAfter_is (t c a : Int) (l : Bool) (k : Nat) (hk : 5 ≤ k) : taquinref13_After.f k t c a l = some (afterI t c a l) := by
  obtain ⟨k, rfl⟩ : ∃ m, k = m + 1 := ⟨k - 1, by omega⟩
  unfold taquinref13_After.f
  have bad : ∀ h : ¬ (0 ≤ c ∧ c ≤ 1000000) ∨ a < 0 ∨ 10 ≤ a, taquinref13_After.j0 (k + 1) t c a l true = some (afterI t c a l) := fun h => by
    rw [taquinref13_After.j0, if_pos rfl]
    unfold afterI
    rw [if_pos h]
  by_cases h0 : c < 0
  · rw [if_pos h0]; exact bad (.inl (by omega))
  rw [if_neg h0]
  by_cases h1 : c > 1000000
  · rw [if_pos h1]; exact bad (.inl (by omega))
  rw [if_neg h1, act_is]
  simp only [Option.bind_some]
  by_cases ha : 0 ≤ a ∧ a < 10
  · have hc := costI_range t a l
    have e : afterI t c a l = if a = 9 then ((if 1000000 < c + 20 then 1000000 else c + 20), 0) else spendI c (costI t a l) := by unfold afterI; rw [if_neg (by omega)]
    rw [decide_eq_true ha, Bool.not_true, taquinref13_After.j0, if_neg (by decide), e]
    by_cases h9 : a = 9
    · rw [if_pos h9, if_pos h9]
      by_cases h3 : c > 999980
      · rw [if_pos h3, if_pos (by omega)]
      · rw [if_neg h3, if_neg (by omega), w64 (by omega) (by omega)]
    · rw [if_neg h9, if_neg h9, refCost_is t a l k (by omega)]
      simp only [Option.bind_some]
      rw [refSpend_is c _ (by unfold isI; omega) k (by omega)]
      rfl
  · rw [decide_eq_false ha]
    exact bad (.inr (by omega))

theorem refRun_loop (t : Int) (h0 : 0 ≤ t) (h1 : t ≤ 20000) (xs : List Int) (hn : xs.length ≤ 100) (d : Nat) : ∀ (k : Nat) (c : Int) (l : Bool) (i : Nat), i + d = xs.length → d + 6 < k →
    taquinref13_Run.l0 k t c xs l i = some (runL (stepsL t i (xs.drop i) l) c i) := by
  induction d with
  | zero =>
    intro k c l i hi hk
    obtain ⟨k, rfl⟩ : ∃ m, k = m + 1 := ⟨k - 1, by omega⟩
    have : i = xs.length := by omega
    subst this
    rw [taquinref13_Run.l0, if_neg (by omega), List.drop_length]
    rfl
  | succ d ih =>
    intro k c l i hi hk
    obtain ⟨k, rfl⟩ : ∃ m, k = m + 1 := ⟨k - 1, by omega⟩
    have hl : i < xs.length := by omega
    have hg : xs[i]?.getD 0 = xs.getD i 0 := by simp
    rw [taquinref13_Run.l0, if_pos (by omega), if_pos (by omega), rd_eq, refAfter_is _ _ _ _ k (by omega), stepsL_cons hl, runL_cons, hg, w64 (n := t + (i : Int)) (by omega) (by omega), w64 (n := (i : Int) + 1) (by omega) (by omega), refLaden_is]
    simp only [Option.bind_some]
    split
    · exact ih k _ _ (i + 1) (by omega) (by omega)
    · rfl

theorem refRun_is (t c : Int) (xs : List Int) (l : Bool) (h0 : 0 ≤ t) (h1 : t ≤ 20000) (hn : xs.length ≤ 100) (k : Nat) (hk : 110 ≤ k) : taquinref13_Run.f k t c xs l = some (runL (stepsL t 0 xs l) c 0) :=
  refRun_loop t h0 h1 xs hn xs.length k c l 0 (by omega) (by omega)

theorem refSum_loop (t : Int) (h0 : 0 ≤ t) (h1 : t ≤ 20000) (xs : List Int) (hn : xs.length ≤ 100) (d : Nat) : ∀ (k : Nat) (s : Int) (l : Bool) (i : Nat), i + d = xs.length → d + 6 < k →
    taquinref13_Sum.l0 k t xs l s i = some (List.foldl (fun s (x : Stp) => wrap64 (s + costI x.1 x.2.1 x.2.2)) s (stepsL t i (xs.drop i) l)) := by
  induction d with
  | zero =>
    intro k s l i hi hk
    obtain ⟨k, rfl⟩ : ∃ m, k = m + 1 := ⟨k - 1, by omega⟩
    have : i = xs.length := by omega
    subst this
    rw [taquinref13_Sum.l0, if_neg (by omega), List.drop_length]
    rfl
  | succ d ih =>
    intro k s l i hi hk
    obtain ⟨k, rfl⟩ : ∃ m, k = m + 1 := ⟨k - 1, by omega⟩
    have hl : i < xs.length := by omega
    have hg : xs[i]?.getD 0 = xs.getD i 0 := by simp
    rw [taquinref13_Sum.l0, if_pos (by omega), if_pos (by omega), rd_eq, refCost_is _ _ _ k (by omega), stepsL_cons hl, List.foldl_cons, hg, w64 (n := t + (i : Int)) (by omega) (by omega), w64 (n := (i : Int) + 1) (by omega) (by omega), refLaden_is]
    simp only [Option.bind_some]
    exact ih k _ _ (i + 1) (by omega) (by omega)

theorem refSum_is (t : Int) (xs : List Int) (l : Bool) (h0 : 0 ≤ t) (h1 : t ≤ 20000) (hn : xs.length ≤ 100) (k : Nat) (hk : 110 ≤ k) : taquinref13_Sum.f k t xs l = some (sumL (stepsL t 0 xs l)) :=
  refSum_loop t h0 h1 xs hn xs.length k 0 l 0 (by omega) (by omega)

theorem refTicks_loop (t : Int) (h0 : 0 ≤ t) (h1 : t ≤ 20000) (d : Nat) : ∀ (k : Nat) (c n : Int), 0 ≤ c → c ≤ 1000000 → 0 ≤ n → n + d = 20000 → d + 4 < k → taquinref13_Ticks.l0 k t c n = some (tk t d c n) := by
  induction d with
  | zero =>
    intro k c n hc0 hc1 hn hd hk
    obtain ⟨k, rfl⟩ : ∃ m, k = m + 1 := ⟨k - 1, by omega⟩
    rw [taquinref13_Ticks.l0, if_neg (by omega), tk]
  | succ d ih =>
    intro k c n hc0 hc1 hn hd hk
    obtain ⟨k, rfl⟩ : ∃ m, k = m + 1 := ⟨k - 1, by omega⟩
    have hcr := costI_range (t + n) 0 false
    rw [taquinref13_Ticks.l0, if_pos (by omega), w64 (n := t + n) (by omega) (by omega), w64 (n := n + 1) (by omega) (by omega), refCost_is _ _ _ k (by omega), tk]
    simp only [Option.bind_some]
    by_cases h : c < costI (t + n) 0 false
    · rw [if_neg (by omega), if_pos h]
    · rw [if_pos (by omega), if_neg h, w64 (by omega) (by omega)]
      exact ih k _ _ (by omega) (by omega) (by omega) (by omega) (by omega)

theorem refTicks_is (t c : Int) (h0 : 0 ≤ t) (h1 : t ≤ 20000) (k : Nat) (hk : 20010 ≤ k) : taquinref13_Ticks.f k t c = battery_Ticks.f k t c := by
  obtain ⟨k, rfl⟩ : ∃ m, k = m + 1 := ⟨k - 1, by omega⟩
  unfold taquinref13_Ticks.f
  by_cases hc0 : c < 0
  · rw [if_pos hc0, taquinref13_Ticks.j0, if_pos rfl, ticks_none (by omega) (k + 1) (by omega)]
  rw [if_neg hc0]
  by_cases hc1 : c > 1000000
  · rw [decide_eq_true hc1, taquinref13_Ticks.j0, if_pos rfl, ticks_none (by omega) (k + 1) (by omega)]
  · rw [decide_eq_false hc1, taquinref13_Ticks.j0, if_neg (by decide), ticks_is h0 h1 (by omega) (by omega) (k + 1) (by omega)]
    exact refTicks_loop t h0 h1 20000 k c 0 (by omega) (by omega) (by omega) (by omega) (by omega)
end Go.Proofs.Ytkhehmmdlnebnaa.M
