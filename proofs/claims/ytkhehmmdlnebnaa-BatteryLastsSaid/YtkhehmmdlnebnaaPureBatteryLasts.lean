/- BatteryLasts: without charging a charge is enough for acts exactly if it is at least their sum, and what is left is the difference; with charging no charge leaves its bounds. Conditions: those of the statement (at most 200 actions, a tick and a charge in their bounds). -/
import Derived.Test.YtkhehmmdlnebnaaB3
import Derived.Test.YtkhehmmdlnebnaaM3
namespace Go.Proofs.Ytkhehmmdlnebnaa.Pure
set_option linter.unusedVariables false
set_option linter.unusedSimpArgs false
open Go.RowKit Go.Proofs.Ytkhehmmdlnebnaa.B Go.Proofs.YtkhehmmdlnebnaaW.PrintWords Go.Proofs.YtkhehmmdlnebnaaW.PrintLast
open Go.Proofs.YtkhehmmdlnebnaaW.PrintMore Go.Proofs.Ytkhehmmdlnebnaa.H Go.Proofs.Ytkhehmmdlnebnaa.M

theorem charges_take_succ (xs : List Int) (i : Nat) (h : i < xs.length) : charges (xs.take (i + 1)) = charges (xs.take i) + if xs.getD i 0 = 9 then 1 else 0 := by
  unfold charges
  rw [List.take_succ_eq_append_getElem h, List.filter_append, List.length_append, List.getD_eq_getElem?_getD, List.getElem?_eq_getElem h]
  by_cases e : xs[i] = 9 <;> simp [e]

/-- The law's first loop counts the charges; then the tests follow. -/
theorem lasts_loop (x0 x1 x10 x11 x12 : Int) (xs : List Int) (x3 : Bool) (hn : xs.length ≤ 200) (d : Nat) : ∀ (k i : Nat), i + d = xs.length → d < k →
    ∃ k', k = k' + d + 1 ∧ taquinlaw13_BatteryLasts.l0 k x0 x1 xs x3 true x10 x11 x12 (charges (xs.take i)) i =
      taquinlaw13_BatteryLasts.l0 (k' + 1) x0 x1 xs x3 true x10 x11 x12 (charges xs) (xs.length : Int) := by
  induction d with
  | zero =>
    intro k i hi hk
    obtain ⟨k, rfl⟩ : ∃ m, k = m + 1 := ⟨k - 1, by omega⟩
    refine ⟨k, rfl, ?_⟩
    have : i = xs.length := by omega
    subst this
    rw [List.take_length]
  | succ d ih =>
    intro k i hi hk
    obtain ⟨k, rfl⟩ : ∃ m, k = m + 1 := ⟨k - 1, by omega⟩
    obtain ⟨k', e, h⟩ := ih k (i + 1) (by omega) (by omega)
    refine ⟨k', by omega, ?_⟩
    rw [← h]
    have hc := charges_nonneg (xs.take i)
    have hb : charges (xs.take i) ≤ 200 := by
      unfold charges
      have h1 := List.length_filter_le (fun a => decide (a = 9)) (xs.take i)
      have h2 := List.length_take_le i xs
      have h3 : (xs.take i).length ≤ xs.length := by simp; omega
      omega
    rw [taquinlaw13_BatteryLasts.l0, if_pos (by omega), if_pos (by omega), rd_eq, charges_take_succ xs i (by omega), w64 (n := (i : Int) + 1) (by omega) (by omega)]
    by_cases e9 : xs.getD i 0 = 9
    · rw [if_pos e9, if_pos e9, w64 (by omega) (by omega)]
      rfl
    · rw [if_neg e9, if_neg e9, Int.add_zero]
      rfl

/-- The law's second loop: who is laden behind the acts that were done. -/
theorem lasts_laden (x0 : Int) (xs : List Int) (x10 : Int) (m : Nat) (x3 : Bool) (hm : m < xs.length) (hn : xs.length ≤ 200) (h0 : 0 ≤ x0) (h1 : x0 ≤ 20000) (hv : ∀ a ∈ xs, isI a)
    (hlt : x10 < costI (wrap64 (x0 + (m : Int))) (xs.getD m 0) (ladenAll (xs.take m) x3)) (d : Nat) : ∀ (k i : Nat), i + d = m → d < k →
    taquinlaw13_BatteryLasts.l1 k x0 xs true x10 m (ladenAll (xs.take i) x3) i = some true := by
  induction d with
  | zero =>
    intro k i hi hk
    obtain ⟨k, rfl⟩ : ∃ j, k = j + 1 := ⟨k - 1, by omega⟩
    have : i = m := by omega
    subst this
    have hI : isI (xs.getD i 0) := by
      rw [List.getD_eq_getElem?_getD, List.getElem?_eq_getElem hm]
      exact hv _ (List.getElem_mem hm)
    rw [taquinlaw13_BatteryLasts.l1, if_neg (by omega), if_pos rfl, if_pos (by omega), if_pos (by omega), rd_eq, cost_f hI]
    simp only [Option.bind_some]
    rw [decide_eq_true hlt]
  | succ d ih =>
    intro k i hi hk
    obtain ⟨k, rfl⟩ : ∃ j, k = j + 1 := ⟨k - 1, by omega⟩
    have hl : i < xs.length := by omega
    rw [taquinlaw13_BatteryLasts.l1, if_pos (by omega), if_pos (by omega), if_pos (by omega), rd_eq, w64 (by omega) (by omega)]
    unfold battery_Laden.f
    simp only [Option.bind_some]
    have e : ladenI (xs.getD i 0) (ladenAll (xs.take i) x3) = ladenAll (xs.take (i + 1)) x3 := by
      unfold ladenAll
      rw [List.take_succ_eq_append_getElem hl, List.foldl_append, List.getD_eq_getElem?_getD, List.getElem?_eq_getElem hl]
      rfl
    rw [e]
    exact ih k (i + 1) (by omega) (by omega)

theorem charges_zero {xs : List Int} (h : ¬ charges xs > 0) : ∀ a ∈ xs, a ≠ 9 := by
  intro a ha e
  subst e
  have : (9 : Int) ∈ xs.filter fun a => decide (a = 9) := by simp [ha]
  have := List.length_pos_of_mem this
  unfold charges at h
  omega

theorem BatteryLasts : taquinlaw13_BatteryLasts.Pure := by
  intro a0 a1 l2 a3 w0 w1 _ _ w2
  have hI := all_isI w2
  obtain ⟨b, hacts, hb⟩ := acts_is l2 200 (by omega)
  have hA : ∀ k, 402 ≤ k → taquinref13_Acts.f k l2 200 = some b := hacts
  have stop : taquinlaw13_BatteryLasts.j0 700 a0 a1 l2 a3 true true = some true := by
    rw [show (700 : Nat) = 699 + 1 from rfl, taquinlaw13_BatteryLasts.j0, if_pos rfl]
  refine ⟨700, ?_⟩
  unfold taquinlaw13_BatteryLasts.f
  rw [small_true 700 (by omega)]
  simp only [Option.bind_some]
  by_cases c0 : a0 < 0
  · rw [if_pos c0, stop]
  rw [if_neg c0]
  by_cases c1 : a0 > 20000
  · rw [if_pos c1, stop]
  rw [if_neg c1]
  by_cases c2 : a1 < 0
  · rw [if_pos c2, stop]
  rw [if_neg c2]
  by_cases c3 : a1 > 1000000
  · rw [if_pos c3, stop]
  rw [if_neg c3, hA 700 (by omega)]
  simp only [Option.bind_some]
  cases b with
  | false => exact stop
  | true =>
    obtain ⟨hn, hv⟩ := hb rfl
    rw [Bool.not_true, show (700 : Nat) = 699 + 1 from rfl, taquinlaw13_BatteryLasts.j0, if_neg (by decide), run_f hI, sum_f hI (by omega)]
    simp only [Option.bind_some]
    have hbd := run_bounds a0 l2 hv 0 a3 a1 0 (by omega) (by omega) (by omega) (by omega)
    have hdn := runL_done (stepsL a0 0 l2 a3) a1 0 (by omega) (by rw [stepsL_length]; omega)
    rw [stepsL_length] at hdn
    have hch := charges_nonneg l2
    have hch2 : charges l2 ≤ 200 := by
      unfold charges
      have := List.length_filter_le (fun a => decide (a = 9)) l2
      omega
    obtain ⟨k', ek, hloop⟩ := lasts_loop a0 a1 (runL (stepsL a0 0 l2 a3) a1 0).1 (runL (stepsL a0 0 l2 a3) a1 0).2 (sumZ (stepsL a0 0 l2 a3)) l2 a3 hn l2.length 699 0 (by omega) (by omega)
    have hloop' : taquinlaw13_BatteryLasts.l0 699 a0 a1 l2 a3 true (runL (stepsL a0 0 l2 a3) a1 0).1 (runL (stepsL a0 0 l2 a3) a1 0).2 (sumZ (stepsL a0 0 l2 a3)) 0 0 = _ := hloop
    rw [hloop']
    have hk' : 400 ≤ k' := by omega
    clear hloop hloop' ek
    obtain ⟨k', rfl⟩ : ∃ j, k' = j + 400 := ⟨k' - 400, by omega⟩
    rw [taquinlaw13_BatteryLasts.l0, if_neg (by omega), if_neg (by omega), if_neg (by omega), if_neg (by omega), if_neg (by omega), w64 (n := charges l2 * 20) (by omega) (by omega), w64 (n := a1 + charges l2 * 20) (by omega) (by omega), decide_eq_false (by omega),
      show k' + 400 = (k' + 399) + 1 from rfl, taquinlaw13_BatteryLasts.j2, if_neg (by decide)]
    by_cases hz : charges l2 > 0
    · rw [if_pos hz]
    rw [if_neg hz]
    have h9 := charges_zero hz
    obtain ⟨m, hm, hr, hiff, hlt⟩ := run_exact a0 l2 (fun a ha => ⟨(hv a ha).1, (hv a ha).2, h9 a ha⟩) 0 a3 a1 0 (by omega) (by omega) (by omega)
    rw [show (((0 : Nat)) : Int) = 0 from rfl] at hr
    rw [hr]
    simp only [Nat.zero_add]
    simp only [Nat.zero_add] at hlt
    have hs1 := sumZ_range (stepsL a0 0 (l2.take m) a3)
    have hs2 := sumZ_range (stepsL a0 0 l2 a3)
    rw [stepsL_length] at hs1 hs2
    have htl : (l2.take m).length = m := by simp; omega
    rw [htl] at hs1
    have etest : ((((m : Int)) == (l2.length : Int)) != (decide (a1 ≥ sumZ (stepsL a0 0 l2 a3)))) = false := by
      by_cases e : m = l2.length
      · have h1 := hiff.1 e
        rw [beq_iff_eq.2 (by omega), decide_eq_true (by omega)]
        rfl
      · have h1 : ¬ sumZ (stepsL a0 0 l2 a3) ≤ a1 := fun h => e (hiff.2 h)
        rw [beq_eq_false_iff_ne.2 (by omega), decide_eq_false (by omega)]
        rfl
    rw [etest, if_neg (by decide), if_pos (by omega), if_pos (by omega), Int.toNat_natCast, sum_f (fun a ha => hI a (List.mem_of_mem_take ha)) (by omega)]
    simp only [Option.bind_some]
    have hw : wrap64 (a1 - sumZ (stepsL a0 0 (l2.take m) a3)) = a1 - sumZ (stepsL a0 0 (l2.take m) a3) := by unfold wrap64; omega
    rw [hw, bne_self_eq_false, show k' + 399 = (k' + 398) + 1 from rfl, taquinlaw13_BatteryLasts.j3, if_neg (by decide)]
    by_cases e : m = l2.length
    · subst e
      rw [if_pos rfl, if_pos rfl, List.take_length]
      have hw2 : wrap64 (a1 - sumZ (stepsL a0 0 l2 a3)) = a1 - sumZ (stepsL a0 0 l2 a3) := by unfold wrap64; omega
      rw [hw2, beq_self_eq_true]
    · rw [if_neg (by omega)]
      exact lasts_laden a0 l2 _ m a3 (by omega) hn (by omega) (by omega) hI (hlt (by omega)) m (k' + 398) 0 (by omega) (by omega)

end Go.Proofs.Ytkhehmmdlnebnaa.Pure
