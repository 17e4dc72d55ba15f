/- BatteryStays: a robot can stay for exactly as many ticks as Ticks says; with more charge not shorter; after a tick of charging not shorter. Conditions: those of the statement (a tick from 0 to MaxTicks). -/
import Derived.Test.YtkhehmmdlnebnaaB5
import Derived.Test.YtkhehmmdlnebnaaM4
namespace Go.Proofs.Ytkhehmmdlnebnaa.Pure
set_option linter.unusedVariables false
set_option linter.unusedSimpArgs false
open Go.RowKit Go.Proofs.Ytkhehmmdlnebnaa.B Go.Proofs.YtkhehmmdlnebnaaW.PrintWords Go.Proofs.YtkhehmmdlnebnaaW.PrintLast
open Go.Proofs.YtkhehmmdlnebnaaW.PrintMore Go.Proofs.Ytkhehmmdlnebnaa.H Go.Proofs.Ytkhehmmdlnebnaa.M

theorem stays_loop (x0 x1 x6 : Int) (h0 : 0 ≤ x0) (h1 : x0 ≤ 20000) (K : Nat) (hend : ∀ k, K ≤ k → taquinlaw13_BatteryStays.j4 k x0 x1 true x6 false = some true) (d : Nat) :
    ∀ (k : Nat) (c i : Int), 0 ≤ c → c ≤ 1000000 → 0 ≤ i → i + d = 20000 → tk x0 d c i = x6 → K + d < k → taquinlaw13_BatteryStays.l0 k x0 x1 true x6 c i = some true := by
  induction d with
  | zero =>
    intro k c i hc0 hc1 hi hd ht hk
    obtain ⟨k, rfl⟩ : ∃ m, k = m + 1 := ⟨k - 1, by omega⟩
    rw [tk] at ht
    rw [taquinlaw13_BatteryStays.l0, if_neg (by omega), after_f (isI_small (by omega) (by omega))]
    simp only [Option.bind_some]
    rw [decide_eq_false (by omega)]
    split <;> exact hend k (by omega)
  | succ d ih =>
    intro k c i hc0 hc1 hi hd ht hk
    obtain ⟨k, rfl⟩ : ∃ m, k = m + 1 := ⟨k - 1, by omega⟩
    have hcr := costI_range (x0 + i) 0 false
    rw [tk] at ht
    rw [taquinlaw13_BatteryStays.l0]
    by_cases h : c < costI (x0 + i) 0 false
    · rw [if_pos h] at ht
      subst ht
      rw [if_neg (by omega), w64 (n := x0 + i) (by omega) (by omega), after_f (isI_small (by omega) (by omega)), after_stay hc0 hc1, if_pos h]
      simp only [Option.bind_some]
      rw [decide_eq_true (by omega), if_neg (by decide)]
      exact hend k (by omega)
    · rw [if_neg h] at ht
      have hge := (tk_range x0 d (c - costI (x0 + i) 0 false) (i + 1)).1
      rw [if_pos (by omega), w64 (n := x0 + i) (by omega) (by omega), w64 (n := i + 1) (by omega) (by omega), after_f (isI_small (by omega) (by omega)), after_stay hc0 hc1, if_neg h]
      simp only [Option.bind_some, if_true]
      exact ih k _ _ (by omega) (by omega) (by omega) (by omega) ht (by omega)

theorem BatteryStays : taquinlaw13_BatteryStays.Pure := by
  intro a0 a1 w0 w1
  have i1 := isI_wf w1
  refine ⟨60000, ?_⟩
  have stop : ∀ k, taquinlaw13_BatteryStays.j0 (k + 1) a0 a1 true true = some true := fun k => by rw [taquinlaw13_BatteryStays.j0, if_pos rfl]
  unfold taquinlaw13_BatteryStays.f
  rw [small_true 60000 (by omega)]
  simp only [Option.bind_some]
  rw [show (60000 : Nat) = 59999 + 1 from rfl]
  by_cases c0 : a0 < 0
  · rw [if_pos c0, stop]
  rw [if_neg c0]
  by_cases c1 : a0 > 20000
  · rw [decide_eq_true c1, stop]
  rw [decide_eq_false c1, taquinlaw13_BatteryStays.j0, if_neg (by decide)]
  by_cases hch : 0 ≤ a1 ∧ a1 ≤ 1000000
  · obtain ⟨hc0, hc1⟩ := hch
    rw [ticks_is (by omega) (by omega) hc0 hc1 59999 (by omega)]
    simp only [Option.bind_some]
    have hr := tk_range a0 20000 a1 0
    have hm1 := tk_mono a0 20000 a1 (if 1000000 < a1 + 20 then 1000000 else a1 + 20) 0 (by split <;> omega)
    have hm2 := tk_mono a0 20000 a1 (a1 + 1) 0 (by omega)
    rw [if_neg (by omega), decide_eq_false (by omega), show (59999 : Nat) = 59998 + 1 from rfl, taquinlaw13_BatteryStays.j1, if_neg (by decide), if_neg (by omega), decide_eq_false (by omega),
      show (59998 : Nat) = 59997 + 1 from rfl, taquinlaw13_BatteryStays.j2, if_neg (by decide)]
    refine stays_loop a0 a1 _ (by omega) (by omega) 20003 ?_ 20000 59997 a1 0 hc0 hc1 (by omega) (by omega) rfl (by omega)
    intro k hk
    obtain ⟨k, rfl⟩ : ∃ m, k = m + 1 := ⟨k - 1, by omega⟩
    rw [taquinlaw13_BatteryStays.j4, if_neg (by decide), after_f (isI_small (by omega) (by omega)), after_ok hc0 hc1 (by omega) (by omega), if_pos rfl]
    simp only [Option.bind_some, if_true]
    rw [if_pos (by split <;> omega), ticks_is (by omega) (by omega) (by split <;> omega) (by split <;> omega) k (by omega)]
    simp only [Option.bind_some]
    rw [if_pos hm1]
    by_cases he : a1 = 1000000
    · rw [if_pos he]
    · rw [if_neg he, w64 (by omega) (by omega), ticks_is (by omega) (by omega) (by omega) (by omega) k (by omega)]
      simp only [Option.bind_some]
      rw [decide_eq_true hm2]
  · rw [ticks_none hch 59999 (by omega)]
    simp only [Option.bind_some]
    have fin : taquinlaw13_BatteryStays.j1 59999 a0 a1 true 0 true = some true := by
      rw [show (59999 : Nat) = 59998 + 1 from rfl, taquinlaw13_BatteryStays.j1, if_pos rfl, if_pos rfl]
      rfl
    by_cases hn : a1 < 0
    · rw [if_pos hn]
      exact fin
    · rw [if_neg hn, decide_eq_true (by omega)]
      exact fin

end Go.Proofs.Ytkhehmmdlnebnaa.Pure
