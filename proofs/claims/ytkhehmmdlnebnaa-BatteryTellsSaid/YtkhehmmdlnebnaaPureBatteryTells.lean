/- BatteryTells: every function of battery answers as the reference does. Conditions: those of the statement (at most 100 acts; for Run, Sum and Ticks a tick from 0 to MaxTicks). -/
import Derived.Test.YtkhehmmdlnebnaaB8
import Derived.Test.YtkhehmmdlnebnaaM5
namespace Go.Proofs.Ytkhehmmdlnebnaa.Pure
set_option linter.unusedVariables false
set_option linter.unusedSimpArgs false
open Go.RowKit Go.Proofs.Ytkhehmmdlnebnaa.B Go.Proofs.YtkhehmmdlnebnaaW.PrintWords Go.Proofs.YtkhehmmdlnebnaaW.PrintLast
open Go.Proofs.YtkhehmmdlnebnaaW.PrintMore Go.Proofs.Ytkhehmmdlnebnaa.H Go.Proofs.Ytkhehmmdlnebnaa.M

theorem base_f {a : Int} {l : Bool} (h : isI a) : battery_Base.f a l = some (baseI a l) := by
  unfold battery_Base.f
  rw [if_pos h]

theorem BatteryTells : taquinlaw13_BatteryTells.Pure := by
  intro a0 a1 a2 a3 a4 l5 w0 w1 w2 w3 _ _ w5
  have i2 := isI_wf w2
  have i3 := isI_wf w3
  have hI := all_isI w5
  refine ⟨30000, ?_⟩
  unfold taquinlaw13_BatteryTells.f
  rw [small_true 30000 (by omega)]
  simp only [Option.bind_some]
  by_cases hn : (l5.length : Int) > 100
  · rw [if_pos hn]
  rw [if_neg hn, base_f i3, refBase_is a3 a4 30000 (by omega), cost_f i3, refCost_is a0 a3 a4 30000 (by omega), worst_is 30000 (by omega), refWorst_is a0 30000 (by omega), refLaden_is]
  simp only [Option.bind_some, if_true, battery_Laden.f, bne_self_eq_false]
  rw [show (30000 : Nat) = 29999 + 1 from rfl, taquinlaw13_BatteryTells.j0, if_neg (by decide), refSpend_is a1 a2 i2 29999 (by omega), after_f i3, refAfter_is a0 a1 a3 a4 29999 (by omega)]
  simp only [Option.bind_some, if_true, battery_Spend.f, bne_self_eq_false]
  rw [show (29999 : Nat) = 29998 + 1 from rfl, taquinlaw13_BatteryTells.j1, if_neg (by decide)]
  have stop : taquinlaw13_BatteryTells.j2 29998 a0 a1 a4 l5 true true = some true := by
    rw [show (29998 : Nat) = 29997 + 1 from rfl, taquinlaw13_BatteryTells.j2, if_pos rfl]
  by_cases c0 : a0 < 0
  · rw [if_pos c0, stop]
  rw [if_neg c0]
  by_cases c1 : a0 > 20000
  · rw [decide_eq_true c1, stop]
  have hk : (20001 : Nat) ≤ 29997 := by omega
  rw [decide_eq_false c1, show (29998 : Nat) = 29997 + 1 from rfl, taquinlaw13_BatteryTells.j2, if_neg (by decide), run_f hI, refRun_is a0 a1 l5 a4 (by omega) (by omega) (by omega) 29997 (by omega)]
  simp only [Option.bind_some, if_true]
  rw [sum_f hI (by omega), refSum_is a0 l5 a4 (by omega) (by omega) (by omega) 29997 (by omega), sumL_sumZ (by rw [stepsL_length]; omega), refTicks_is a0 a1 (by omega) (by omega) 29997 (by omega)]
  simp only [Option.bind_some, if_true]
  by_cases hc : 0 ≤ a1 ∧ a1 ≤ 1000000
  · rw [ticks_is (by omega) (by omega) hc.1 hc.2 29997 (by omega)]
    simp only [Option.bind_some, beq_self_eq_true]
  · rw [ticks_none hc 29997 (by omega)]
    simp only [Option.bind_some, beq_self_eq_true]

end Go.Proofs.Ytkhehmmdlnebnaa.Pure
