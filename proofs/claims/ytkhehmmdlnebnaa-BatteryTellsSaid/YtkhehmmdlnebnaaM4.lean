/- What Ticks comes to. -/
import Derived.Test.YtkhehmmdlnebnaaM3
import Derived.Test.YtkhehmmdlnebnaaB4
namespace Go.Proofs.Ytkhehmmdlnebnaa.M
set_option linter.unusedVariables false
set_option linter.unusedSimpArgs false
open Go.RowKit Go.Proofs.YtkhehmmdlnebnaaW.PrintWords Go.Proofs.YtkhehmmdlnebnaaW.PrintLast Go.Proofs.YtkhehmmdlnebnaaW.PrintMore
open Go.Proofs.Ytkhehmmdlnebnaa.H Go.Proofs.Ytkhehmmdlnebnaa.B

/-- How long a charge lasts for staying, from the n-th tick on, d ticks at the most. -/
def tk (t : Int) : Nat → Int → Int → Int
  | 0, _, n => n
  | d + 1, c, n => if c < costI (t + n) 0 false then n else tk t d (c - costI (t + n) 0 false) (n + 1)
theorem tk_range (t : Int) (d : Nat) : ∀ (c n : Int), n ≤ tk t d c n ∧ tk t d c n ≤ n + d := by
  induction d with
  | zero => intro c n; simp [tk]
  | succ d ih =>
    intro c n
    rw [tk]
    split
    · omega
    · have := ih (c - costI (t + n) 0 false) (n + 1)
      omega
theorem tk_mono (t : Int) (d : Nat) : ∀ (c c' n : Int), c ≤ c' → tk t d c n ≤ tk t d c' n := by
  induction d with
  | zero => intro c c' n h; exact Int.le_refl _
  | succ d ih =>
    intro c c' n h
    rw [tk, tk]
    split
    · split
      · omega
      · have := (tk_range t d (c' - costI (t + n) 0 false) (n + 1)).1
        omega
    · rw [if_neg (by omega)]
      exact ih _ _ _ (by omega)

theorem after_f {t c a : Int} {l : Bool} (h : isI a) : battery_After.f t c a l = some (afterI t c a l) := by
  unfold battery_After.f
  rw [if_pos h]
theorem stay_cost (t : Int) (l : Bool) : costI t 0 l = costI t 0 false := by cases l <;> rfl
theorem after_stay {t c : Int} {l : Bool} (h0 : 0 ≤ c) (h1 : c ≤ 1000000) : afterI t c 0 l = if c < costI t 0 false then (c, 16) else (c - costI t 0 false, 0) := by
  rw [after_ok h0 h1 (by omega) (by omega), if_neg (by omega), stay_cost]

theorem ticks_loop (t : Int) (h0 : 0 ≤ t) (h1 : t ≤ 20000) (d : Nat) : ∀ (k : Nat) (c n : Int), 0 ≤ c → c ≤ 1000000 → 0 ≤ n → n + d = 20000 → d < k → battery_Ticks.l0 k t c n = some (tk t d c n) := by
  induction d with
  | zero =>
    intro k c n hc0 hc1 hn hd hk
    obtain ⟨k, rfl⟩ : ∃ m, k = m + 1 := ⟨k - 1, by omega⟩
    rw [battery_Ticks.l0, if_neg (by omega), tk]
  | succ d ih =>
    intro k c n hc0 hc1 hn hd hk
    obtain ⟨k, rfl⟩ : ∃ m, k = m + 1 := ⟨k - 1, by omega⟩
    have hcr := costI_range (t + n) 0 false
    rw [battery_Ticks.l0, if_pos (by omega), w64 (n := t + n) (by omega) (by omega), w64 (n := n + 1) (by omega) (by omega), after_f (isI_small (by omega) (by omega)), after_stay hc0 hc1, tk]
    by_cases h : c < costI (t + n) 0 false
    · rw [if_pos h, if_pos h]
      rfl
    · rw [if_neg h, if_neg h]
      simp only [Option.bind_some, if_true]
      exact ih k _ _ (by omega) (by omega) (by omega) (by omega) (by omega)
theorem ticks_is {t c : Int} (h0 : 0 ≤ t) (h1 : t ≤ 20000) (hc0 : 0 ≤ c) (hc1 : c ≤ 1000000) (k : Nat) (hk : 20000 < k) : battery_Ticks.f k t c = some (tk t 20000 c 0) :=
  ticks_loop t h0 h1 20000 k c 0 hc0 hc1 (by omega) (by omega) hk
theorem ticks_none {t c : Int} (h : ¬ (0 ≤ c ∧ c ≤ 1000000)) (k : Nat) (hk : 1 ≤ k) : battery_Ticks.f k t c = some 0 := by
  obtain ⟨k, rfl⟩ : ∃ m, k = m + 1 := ⟨k - 1, by omega⟩
  unfold battery_Ticks.f
  rw [battery_Ticks.l0, if_pos (by omega), after_f (isI_small (by omega) (by omega))]
  unfold afterI
  rw [if_pos (.inl h)]
  rfl
end Go.Proofs.Ytkhehmmdlnebnaa.M
