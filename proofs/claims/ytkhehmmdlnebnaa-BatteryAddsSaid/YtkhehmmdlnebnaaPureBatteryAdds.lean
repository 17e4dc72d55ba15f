/- BatteryAdds: the sum of two lists of acts, one after the other, is the sum of the first and that of the second, later and laden as the first leaves it; so is what is left of a charge. Conditions: those of the statement. -/
import Derived.Test.YtkhehmmdlnebnaaB4
import Derived.Test.YtkhehmmdlnebnaaM3
namespace Go.Proofs.Ytkhehmmdlnebnaa.Pure
set_option linter.unusedVariables false
set_option linter.unusedSimpArgs false
open Go.RowKit Go.Proofs.Ytkhehmmdlnebnaa.B Go.Proofs.YtkhehmmdlnebnaaW.PrintWords Go.Proofs.YtkhehmmdlnebnaaW.PrintLast
open Go.Proofs.YtkhehmmdlnebnaaW.PrintMore Go.Proofs.Ytkhehmmdlnebnaa.H Go.Proofs.Ytkhehmmdlnebnaa.M

theorem adds_loop (x0 x1 : Int) (xs ys : List Int) (x4 : Bool) (hn : xs.length ≤ 100) (d : Nat) : ∀ (k i : Nat), i + d = xs.length → d < k →
    ∃ k', k = k' + d + 1 ∧ taquinlaw13_BatteryAdds.l0 k x0 x1 xs ys x4 true (ladenAll (xs.take i) x4) i =
      taquinlaw13_BatteryAdds.l0 (k' + 1) x0 x1 xs ys x4 true (ladenAll xs x4) (xs.length : Int) := by
  induction d with
  | zero =>
    intro k i hi hk
    obtain ⟨k, rfl⟩ : ∃ m, k = m + 1 := ⟨k - 1, by omega⟩
    refine ⟨k, rfl, ?_⟩
    have : i = xs.length := by omega
    subst this
    rw [List.take_length]
  | succ d ih =>
    intro k i hi hk
    obtain ⟨k, rfl⟩ : ∃ m, k = m + 1 := ⟨k - 1, by omega⟩
    obtain ⟨k', e, h⟩ := ih k (i + 1) (by omega) (by omega)
    refine ⟨k', by omega, ?_⟩
    rw [← h]
    have hl : i < xs.length := by omega
    have e2 : ladenI (xs.getD i 0) (ladenAll (xs.take i) x4) = ladenAll (xs.take (i + 1)) x4 := by
      unfold ladenAll
      rw [List.take_succ_eq_append_getElem hl, List.foldl_append, List.getD_eq_getElem?_getD, List.getElem?_eq_getElem hl]
      rfl
    rw [taquinlaw13_BatteryAdds.l0, if_pos (by omega), if_pos (by omega), rd_eq, w64 (n := (i : Int) + 1) (by omega) (by omega)]
    unfold battery_Laden.f
    simp only [Option.bind_some]
    rw [e2]
    rfl

theorem BatteryAdds : taquinlaw13_BatteryAdds.Pure := by
  intro a0 a1 l2 l3 a4 w0 w1 _ _ w2 _ _ w3
  have hI2 := all_isI w2
  have hI3 := all_isI w3
  obtain ⟨b2, hacts2, hb2⟩ := acts_is l2 100 (by omega)
  obtain ⟨b3, hacts3, hb3⟩ := acts_is l3 100 (by omega)
  have hA2 : ∀ k, 202 ≤ k → taquinref13_Acts.f k l2 100 = some b2 := hacts2
  have hA3 : ∀ k, 202 ≤ k → taquinref13_Acts.f k l3 100 = some b3 := hacts3
  have stop : taquinlaw13_BatteryAdds.j0 700 a0 a1 l2 l3 a4 true true = some true := by
    rw [show (700 : Nat) = 699 + 1 from rfl, taquinlaw13_BatteryAdds.j0, if_pos rfl]
  refine ⟨700, ?_⟩
  unfold taquinlaw13_BatteryAdds.f
  rw [small_true 700 (by omega)]
  simp only [Option.bind_some]
  by_cases c0 : a0 < 0
  · rw [if_pos c0, stop]
  rw [if_neg c0]
  by_cases c1 : a0 > 19900
  · rw [if_pos c1, stop]
  rw [if_neg c1, hA2 700 (by omega)]
  simp only [Option.bind_some]
  cases b2 with
  | false => rw [if_neg (by decide), stop]
  | true =>
  rw [if_pos rfl, hA3 700 (by omega)]
  simp only [Option.bind_some]
  cases b3 with
  | false => exact stop
  | true =>
    obtain ⟨hn2, hv2⟩ := hb2 rfl
    obtain ⟨hn3, hv3⟩ := hb3 rfl
    have hIb : ∀ a ∈ l2 ++ l3, isI a := fun a ha => (List.mem_append.1 ha).elim (hI2 a) (hI3 a)
    rw [Bool.not_true, show (700 : Nat) = 699 + 1 from rfl, taquinlaw13_BatteryAdds.j0, if_neg (by decide)]
    obtain ⟨k', ek, hloop⟩ := adds_loop a0 a1 l2 l3 a4 hn2 l2.length 699 0 (by omega) (by omega)
    have hloop' : taquinlaw13_BatteryAdds.l0 699 a0 a1 l2 l3 a4 true a4 0 = _ := hloop
    rw [hloop', taquinlaw13_BatteryAdds.l0, if_neg (by omega)]
    simp only [Option.bind_some]
    rw [if_pos (by simp only [List.length_nil]; omega)]
    simp only [List.nil_append]
    rw [if_pos (by omega), sum_f hIb (by rw [List.length_append]; omega), sum_f hI2 (by omega), sum_f hI3 (by omega)]
    simp only [Option.bind_some]
    have hst : stepsL a0 0 (l2 ++ l3) a4 = stepsL a0 0 l2 a4 ++ stepsL (wrap64 (a0 + (l2.length : Int))) 0 l3 (ladenAll l2 a4) := by
      rw [stepsL_append, stepsL_shift]
    have hw : wrap64 (a0 + (l2.length : Int)) = a0 + (l2.length : Int) := by unfold wrap64; omega
    rw [hw] at hst ⊢
    have r2 := sumZ_range (stepsL a0 0 l2 a4)
    have r3 := sumZ_range (stepsL (a0 + (l2.length : Int)) 0 l3 (ladenAll l2 a4))
    rw [stepsL_length] at r2 r3
    rw [hst, sumZ_append, w64 (n := _ + _) (by omega) (by omega), if_pos rfl, run_f hIb, run_f hI2]
    simp only [Option.bind_some]
    rw [hst, runL_append _ _ a1 0 (by omega) (by rw [stepsL_length]; omega), stepsL_length]
    have hdn := runL_done (stepsL a0 0 l2 a4) a1 0 (by omega) (by rw [stepsL_length]; omega)
    rw [stepsL_length] at hdn
    generalize hR : runL (stepsL a0 0 l2 a4) a1 0 = R at *
    obtain ⟨x, m⟩ := R
    simp only at hdn ⊢
    by_cases hm : m < (l2.length : Int)
    · have hne : ¬ (m = 0 + (l2.length : Int)) := by omega
      rw [if_pos hm]
      simp only [if_neg hne, if_true, beq_self_eq_true]
    · rw [if_neg hm]
      have em : m = (l2.length : Int) := by omega
      have hpe : m = 0 + (l2.length : Int) := by omega
      rw [run_f hI3]
      simp only [Option.bind_some]
      have hs := runL_shift (stepsL (a0 + (l2.length : Int)) 0 l3 (ladenAll l2 a4)) x 0 (l2.length : Int) (by omega) (by omega) (by rw [stepsL_length]; omega)
      have hd3 := runL_done (stepsL (a0 + (l2.length : Int)) 0 l3 (ladenAll l2 a4)) x 0 (by omega) (by rw [stepsL_length]; omega)
      rw [stepsL_length] at hd3
      rw [if_pos hpe, hs]
      simp only [if_true]
      rw [w64 (by omega) (by omega), em, Int.add_comm, beq_self_eq_true]

end Go.Proofs.Ytkhehmmdlnebnaa.Pure
