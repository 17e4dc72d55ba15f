/- Written by a program of this session (driver.py, over the kit's printer): Lean functions for functions of the given program, and their contracts; not trusted, Lean checks it. -/
import Derived.Test.YtkhehmmdlnebnaaB0
import Derived.Test.YtkhehmmdlnebnaaB1
import Derived.Test.YtkhehmmdlnebnaaB4
import Derived.Test.YtkhehmmdlnebnaaB6
import Derived.Test.YtkhehmmdlnebnaaB7
namespace Go.Proofs.Ytkhehmmdlnebnaa.B
open Go.Proofs.Ytkhehmmdlnebnaa.H
open Go.RowKit Go.Proofs.YtkhehmmdlnebnaaW.PrintWords Go.Proofs.YtkhehmmdlnebnaaW.PrintLast Go.Proofs.YtkhehmmdlnebnaaW.PrintMore
attribute [local go_sem] max2_int min2_int max_two min_two max_three min_three max_four min_four   -- for this text's walks alone
set_option linter.unusedVariables false
set_option linter.unusedSimpArgs false

/-! ### taquinlaw13_BatteryTells: function 7 -/
mutual
def taquinlaw13_BatteryTells.j0 : Nat → Int → Int → Int → Int → Bool → List Int → Bool → Bool → Option (Bool)
  | 0, _, _, _, _, _, _, _, _ => none
  | k + 1, x0, x1, x2, x3, x4, x5, x13, x64 => if x64 = true then (some false) else ((battery_Spend.f x1 x2).bind fun bt206 => ((taquinref13_Spend.f k x1 x2).bind fun bt208 => ((battery_After.f x0 x1 x3 x4).bind fun bt210 => ((taquinref13_After.f k x0 x1 x3 x4).bind fun bt212 => (if bt206.1 = bt208.1 then (if bt206.2 = bt208.2 then (if bt210.1 = bt212.1 then (taquinlaw13_BatteryTells.j1 k x0 x1 x4 x5 x13 (bt210.2 != bt212.2)) else (taquinlaw13_BatteryTells.j1 k x0 x1 x4 x5 x13 true)) else (taquinlaw13_BatteryTells.j1 k x0 x1 x4 x5 x13 true)) else (taquinlaw13_BatteryTells.j1 k x0 x1 x4 x5 x13 true))))))
def taquinlaw13_BatteryTells.j1 : Nat → Int → Int → Bool → List Int → Bool → Bool → Option (Bool)
  | 0, _, _, _, _, _, _ => none
  | k + 1, x0, x1, x4, x5, x13, x110 => if x110 = true then (some false) else (if x0 < 0 then (taquinlaw13_BatteryTells.j2 k x0 x1 x4 x5 x13 true) else (taquinlaw13_BatteryTells.j2 k x0 x1 x4 x5 x13 (decide (x0 > 20000))))
def taquinlaw13_BatteryTells.j2 : Nat → Int → Int → Bool → List Int → Bool → Bool → Option (Bool)
  | 0, _, _, _, _, _, _ => none
  | k + 1, x0, x1, x4, x5, x13, x116 => if x116 = true then (some x13) else ((battery_Run.f x0 x1 x5 x4).bind fun bt214 => ((taquinref13_Run.f k x0 x1 x5 x4).bind fun bt216 => (if x13 = true then (if bt214.1 = bt216.1 then (if bt214.2 = bt216.2 then ((battery_Sum.f x0 x5 x4).bind fun t218 => ((taquinref13_Sum.f k x0 x5 x4).bind fun t219 => (if t218 = t219 then ((battery_Ticks.f k x0 x1).bind fun t220 => ((taquinref13_Ticks.f k x0 x1).bind fun t221 => (some (t220 == t221)))) else (some false)))) else (some false)) else (some false)) else (some false))))
end
def taquinlaw13_BatteryTells.f (k : Nat) (a0 : Int) (a1 : Int) (a2 : Int) (a3 : Int) (a4 : Bool) (l5 : List Int) : Option (Bool) := (taquinlaw13_small.f k).bind fun t197 => (if (l5.length : Int) > 100 then (some t197) else ((battery_Base.f a3 a4).bind fun t198 => ((taquinref13_Base.f k a3 a4).bind fun t199 => (if t198 = t199 then ((battery_Cost.f a0 a3 a4).bind fun t200 => ((taquinref13_Cost.f k a0 a3 a4).bind fun t201 => (if t200 = t201 then ((battery_Worst.f k a0).bind fun t202 => ((taquinref13_Worst.f k a0).bind fun t203 => (if t202 = t203 then ((battery_Laden.f a3 a4).bind fun t204 => ((taquinref13_Laden.f a3 a4).bind fun t205 => (taquinlaw13_BatteryTells.j0 k a0 a1 a2 a3 a4 l5 t197 (t204 != t205)))) else (taquinlaw13_BatteryTells.j0 k a0 a1 a2 a3 a4 l5 t197 true)))) else (taquinlaw13_BatteryTells.j0 k a0 a1 a2 a3 a4 l5 t197 true)))) else (taquinlaw13_BatteryTells.j0 k a0 a1 a2 a3 a4 l5 t197 true)))))
theorem taquinlaw13_BatteryTells.mono_l : ∀ k, (∀ y0 y1 y2 y3 y4 y5 y6 y7, LeO (taquinlaw13_BatteryTells.j0 k y0 y1 y2 y3 y4 y5 y6 y7) (taquinlaw13_BatteryTells.j0 (k + 1) y0 y1 y2 y3 y4 y5 y6 y7)) ∧ (∀ y0 y1 y2 y3 y4 y5, LeO (taquinlaw13_BatteryTells.j1 k y0 y1 y2 y3 y4 y5) (taquinlaw13_BatteryTells.j1 (k + 1) y0 y1 y2 y3 y4 y5)) ∧ (∀ y0 y1 y2 y3 y4 y5, LeO (taquinlaw13_BatteryTells.j2 k y0 y1 y2 y3 y4 y5) (taquinlaw13_BatteryTells.j2 (k + 1) y0 y1 y2 y3 y4 y5))
  | 0 => ⟨fun _ _ _ _ _ _ _ _ r h => by simp [taquinlaw13_BatteryTells.j0] at h, fun _ _ _ _ _ _ r h => by simp [taquinlaw13_BatteryTells.j1] at h, fun _ _ _ _ _ _ r h => by simp [taquinlaw13_BatteryTells.j2] at h⟩
  | k + 1 => by
    obtain ⟨ih0, ih1, ih2⟩ := taquinlaw13_BatteryTells.mono_l k
    refine ⟨?_, ?_, ?_⟩
    · intro y0 y1 y2 y3 y4 y5 y6 y7
      unfold taquinlaw13_BatteryTells.j0
      repeat' first
      | (with_reducible exact ih0 _ _ _ _ _ _ _ _)
      | (with_reducible exact ih1 _ _ _ _ _ _)
      | (with_reducible exact ih2 _ _ _ _ _ _)
      | (with_reducible exact battery_Ticks.mono _ _ _)
      | (with_reducible exact battery_Worst.mono _ _)
      | (with_reducible exact taquinlaw13_small.mono _)
      | (with_reducible exact taquinref13_After.mono _ _ _ _ _)
      | (with_reducible exact taquinref13_Base.mono _ _ _)
      | (with_reducible exact taquinref13_Cost.mono _ _ _ _)
      | (with_reducible exact taquinref13_Run.mono _ _ _ _ _)
      | (with_reducible exact taquinref13_Spend.mono _ _ _)
      | (with_reducible exact taquinref13_Sum.mono _ _ _ _)
      | (with_reducible exact taquinref13_Ticks.mono _ _ _)
      | (with_reducible exact taquinref13_Worst.mono _ _)
      | (with_reducible exact LeO.refl _)
      | (with_reducible exact LeO.none _)
      | (with_reducible refine LeO.ite ?_ ?_)
      | (with_reducible refine LeO.bind ?_ (fun _ => ?_))
      | exact ih0 _ _ _ _ _ _ _ _
      | exact ih1 _ _ _ _ _ _
      | exact ih2 _ _ _ _ _ _
      | exact battery_Ticks.mono _ _ _
      | exact battery_Worst.mono _ _
      | exact taquinlaw13_small.mono _
      | exact taquinref13_After.mono _ _ _ _ _
      | exact taquinref13_Base.mono _ _ _
      | exact taquinref13_Cost.mono _ _ _ _
      | exact taquinref13_Run.mono _ _ _ _ _
      | exact taquinref13_Spend.mono _ _ _
      | exact taquinref13_Sum.mono _ _ _ _
      | exact taquinref13_Ticks.mono _ _ _
      | exact taquinref13_Worst.mono _ _
      | exact LeO.none _
      | refine LeO.ite ?_ ?_
      | refine LeO.bind ?_ (fun _ => ?_)
    · intro y0 y1 y2 y3 y4 y5
      unfold taquinlaw13_BatteryTells.j1
      repeat' first
      | (with_reducible exact ih0 _ _ _ _ _ _ _ _)
      | (with_reducible exact ih1 _ _ _ _ _ _)
      | (with_reducible exact ih2 _ _ _ _ _ _)
      | (with_reducible exact battery_Ticks.mono _ _ _)
      | (with_reducible exact battery_Worst.mono _ _)
      | (with_reducible exact taquinlaw13_small.mono _)
      | (with_reducible exact taquinref13_After.mono _ _ _ _ _)
      | (with_reducible exact taquinref13_Base.mono _ _ _)
      | (with_reducible exact taquinref13_Cost.mono _ _ _ _)
      | (with_reducible exact taquinref13_Run.mono _ _ _ _ _)
      | (with_reducible exact taquinref13_Spend.mono _ _ _)
      | (with_reducible exact taquinref13_Sum.mono _ _ _ _)
      | (with_reducible exact taquinref13_Ticks.mono _ _ _)
      | (with_reducible exact taquinref13_Worst.mono _ _)
      | (with_reducible exact LeO.refl _)
      | (with_reducible exact LeO.none _)
      | (with_reducible refine LeO.ite ?_ ?_)
      | (with_reducible refine LeO.bind ?_ (fun _ => ?_))
      | exact ih0 _ _ _ _ _ _ _ _
      | exact ih1 _ _ _ _ _ _
      | exact ih2 _ _ _ _ _ _
      | exact battery_Ticks.mono _ _ _
      | exact battery_Worst.mono _ _
      | exact taquinlaw13_small.mono _
      | exact taquinref13_After.mono _ _ _ _ _
      | exact taquinref13_Base.mono _ _ _
      | exact taquinref13_Cost.mono _ _ _ _
      | exact taquinref13_Run.mono _ _ _ _ _
      | exact taquinref13_Spend.mono _ _ _
      | exact taquinref13_Sum.mono _ _ _ _
      | exact taquinref13_Ticks.mono _ _ _
      | exact taquinref13_Worst.mono _ _
      | exact LeO.none _
      | refine LeO.ite ?_ ?_
      | refine LeO.bind ?_ (fun _ => ?_)
    · intro y0 y1 y2 y3 y4 y5
      unfold taquinlaw13_BatteryTells.j2
      repeat' first
      | (with_reducible exact ih0 _ _ _ _ _ _ _ _)
      | (with_reducible exact ih1 _ _ _ _ _ _)
      | (with_reducible exact ih2 _ _ _ _ _ _)
      | (with_reducible exact battery_Ticks.mono _ _ _)
      | (with_reducible exact battery_Worst.mono _ _)
      | (with_reducible exact taquinlaw13_small.mono _)
      | (with_reducible exact taquinref13_After.mono _ _ _ _ _)
      | (with_reducible exact taquinref13_Base.mono _ _ _)
      | (with_reducible exact taquinref13_Cost.mono _ _ _ _)
      | (with_reducible exact taquinref13_Run.mono _ _ _ _ _)
      | (with_reducible exact taquinref13_Spend.mono _ _ _)
      | (with_reducible exact taquinref13_Sum.mono _ _ _ _)
      | (with_reducible exact taquinref13_Ticks.mono _ _ _)
      | (with_reducible exact taquinref13_Worst.mono _ _)
      | (with_reducible exact LeO.refl _)
      | (with_reducible exact LeO.none _)
      | (with_reducible refine LeO.ite ?_ ?_)
      | (with_reducible refine LeO.bind ?_ (fun _ => ?_))
      | exact ih0 _ _ _ _ _ _ _ _
      | exact ih1 _ _ _ _ _ _
      | exact ih2 _ _ _ _ _ _
      | exact battery_Ticks.mono _ _ _
      | exact battery_Worst.mono _ _
      | exact taquinlaw13_small.mono _
      | exact taquinref13_After.mono _ _ _ _ _
      | exact taquinref13_Base.mono _ _ _
      | exact taquinref13_Cost.mono _ _ _ _
      | exact taquinref13_Run.mono _ _ _ _ _
      | exact taquinref13_Spend.mono _ _ _
      | exact taquinref13_Sum.mono _ _ _ _
      | exact taquinref13_Ticks.mono _ _ _
      | exact taquinref13_Worst.mono _ _
      | exact LeO.none _
      | refine LeO.ite ?_ ?_
      | refine LeO.bind ?_ (fun _ => ?_)
theorem taquinlaw13_BatteryTells.mono : ∀ a0 a1 a2 a3 a4 a5 k, LeO (taquinlaw13_BatteryTells.f k a0 a1 a2 a3 a4 a5) (taquinlaw13_BatteryTells.f (k + 1) a0 a1 a2 a3 a4 a5) := by
  intro a0 a1 a2 a3 a4 a5 k
  obtain ⟨ih0, ih1, ih2⟩ := taquinlaw13_BatteryTells.mono_l k
  unfold taquinlaw13_BatteryTells.f
  repeat' first
      | (with_reducible exact ih0 _ _ _ _ _ _ _ _)
      | (with_reducible exact ih1 _ _ _ _ _ _)
      | (with_reducible exact ih2 _ _ _ _ _ _)
      | (with_reducible exact battery_Ticks.mono _ _ _)
      | (with_reducible exact battery_Worst.mono _ _)
      | (with_reducible exact taquinlaw13_small.mono _)
      | (with_reducible exact taquinref13_After.mono _ _ _ _ _)
      | (with_reducible exact taquinref13_Base.mono _ _ _)
      | (with_reducible exact taquinref13_Cost.mono _ _ _ _)
      | (with_reducible exact taquinref13_Run.mono _ _ _ _ _)
      | (with_reducible exact taquinref13_Spend.mono _ _ _)
      | (with_reducible exact taquinref13_Sum.mono _ _ _ _)
      | (with_reducible exact taquinref13_Ticks.mono _ _ _)
      | (with_reducible exact taquinref13_Worst.mono _ _)
      | (with_reducible exact LeO.refl _)
      | (with_reducible exact LeO.none _)
      | (with_reducible refine LeO.ite ?_ ?_)
      | (with_reducible refine LeO.bind ?_ (fun _ => ?_))
      | exact ih0 _ _ _ _ _ _ _ _
      | exact ih1 _ _ _ _ _ _
      | exact ih2 _ _ _ _ _ _
      | exact battery_Ticks.mono _ _ _
      | exact battery_Worst.mono _ _
      | exact taquinlaw13_small.mono _
      | exact taquinref13_After.mono _ _ _ _ _
      | exact taquinref13_Base.mono _ _ _
      | exact taquinref13_Cost.mono _ _ _ _
      | exact taquinref13_Run.mono _ _ _ _ _
      | exact taquinref13_Spend.mono _ _ _
      | exact taquinref13_Sum.mono _ _ _ _
      | exact taquinref13_Ticks.mono _ _ _
      | exact taquinref13_Worst.mono _ _
      | exact LeO.none _
      | refine LeO.ite ?_ ?_
      | refine LeO.bind ?_ (fun _ => ?_)
set_option maxHeartbeats 8000000 in
set_option maxRecDepth 100000 in
theorem taquinlaw13_BatteryTells.calls (k : Nat) (a0 : Int) (a1 : Int) (a2 : Int) (a3 : Int) (a4 : Bool) (A5 : Option Addr) (c5 : Nat) (l5 : List Int) (r : Bool) (w : World) (hr5 : Kd.C (Kd.int .i64) w A5 l5.length l5) (hc5 : l5.length ≤ c5) (h : taquinlaw13_BatteryTells.f k a0 a1 a2 a3 a4 l5 = some r) :
    Calls Try.prog 7 #[.int .i64 a0, .int .i64 a1, .int .i64 a2, .int .i64 a3, .bool a4, .slice A5 l5.length c5] w fun e w' => e = .returned (.bool r) ∧ Below w.heap.size w w' := by
  have HR5 := Aside0.mk hr5
  have HC5 := Aside0.mk hc5
  clear hr5 hc5
  have HB := Aside0.mk (Below.refl w.heap.size w)
  have H : ((taquinlaw13_small.f k).bind fun t197 => (if (l5.length : Int) > 100 then (some t197) else ((battery_Base.f a3 a4).bind fun t198 => ((taquinref13_Base.f k a3 a4).bind fun t199 => (if t198 = t199 then ((battery_Cost.f a0 a3 a4).bind fun t200 => ((taquinref13_Cost.f k a0 a3 a4).bind fun t201 => (if t200 = t201 then ((battery_Worst.f k a0).bind fun t202 => ((taquinref13_Worst.f k a0).bind fun t203 => (if t202 = t203 then ((battery_Laden.f a3 a4).bind fun t204 => ((taquinref13_Laden.f a3 a4).bind fun t205 => (taquinlaw13_BatteryTells.j0 k a0 a1 a2 a3 a4 l5 t197 (t204 != t205)))) else (taquinlaw13_BatteryTells.j0 k a0 a1 a2 a3 a4 l5 t197 true)))) else (taquinlaw13_BatteryTells.j0 k a0 a1 a2 a3 a4 l5 t197 true)))) else (taquinlaw13_BatteryTells.j0 k a0 a1 a2 a3 a4 l5 t197 true)))))) = some r := h
  clear h
  replace H := Option.bind_eq_some_iff.mp H
  obtain ⟨t197, A70, H⟩ := H
  replace H : (if (l5.length : Int) > 100 then (some t197) else ((battery_Base.f a3 a4).bind fun t198 => ((taquinref13_Base.f k a3 a4).bind fun t199 => (if t198 = t199 then ((battery_Cost.f a0 a3 a4).bind fun t200 => ((taquinref13_Cost.f k a0 a3 a4).bind fun t201 => (if t200 = t201 then ((battery_Worst.f k a0).bind fun t202 => ((taquinref13_Worst.f k a0).bind fun t203 => (if t202 = t203 then ((battery_Laden.f a3 a4).bind fun t204 => ((taquinref13_Laden.f a3 a4).bind fun t205 => (taquinlaw13_BatteryTells.j0 k a0 a1 a2 a3 a4 l5 t197 (t204 != t205)))) else (taquinlaw13_BatteryTells.j0 k a0 a1 a2 a3 a4 l5 t197 true)))) else (taquinlaw13_BatteryTells.j0 k a0 a1 a2 a3 a4 l5 t197 true)))) else (taquinlaw13_BatteryTells.j0 k a0 a1 a2 a3 a4 l5 t197 true))))) = some r := H
  have A7 := Aside0.mk A70
  clear A70
  by_cases c8 : (l5.length : Int) > 100
  · rw [if_pos c8] at H
    have c8b0 : decide (100 < (l5.length : Int)) = true := decide_eq_true c8
    have c8b1 : decide (100 < l5.length) = true := decide_eq_true (by omega)
    clear c8
    obtain rfl := Option.some.inj H
    go_enter Try.func7, Try.ntmps7
    go_wp2_with (first | ((with_reducible refine gate_callee (f := 8) rfl ?_); refine goesL_ (some 26) rfl rfl Try.func8 (by kernel_rfl) rfl #[] rfl (by (try simp only [List.map_toArray, List.map_cons, List.map_nil]); first | done | rfl | (simp only [List.length_drop, List.length_take]; rfl)) ?_; (with_reducible refine (taquinlaw13_small.calls k  t197 _ A7.out).mono ?_); rintro e w9 ⟨rfl, hb⟩; refine ⟨_, rfl, ?_⟩; have n0_ := Aside0.mk (below_step (by repeat (first | (with_reducible first | exact HB.out | apply below_alloc | apply pw_below_drewN | apply below_drew1) | exact HB.out)) hb); clear HB; have HB := n0_; clear n0_; (try clear hb); (try clear hb2); (try clear hk); (try clear hi)))
    go_ret
    exact ⟨by first | rfl | (simp [errW_none, errW_some] <;> rfl) | (simp [*, errW_none, errW_some] <;> rfl), by repeat (first | (with_reducible first | exact HB.out | apply below_alloc | apply pw_below_drewN | apply below_drew1) | exact HB.out)⟩
  · rw [if_neg c8] at H
    have c8b0 : decide (100 < (l5.length : Int)) = false := decide_eq_false c8
    have c8b1 : decide (100 < l5.length) = false := decide_eq_false (by omega)
    clear c8
    have HC10 := Aside0.mk H
    clear H
    go_enter Try.func7, Try.ntmps7
    go_upto_region 4 with (first | ((with_reducible refine gate_callee (f := 8) rfl ?_); refine goesL_ (some 26) rfl rfl Try.func8 (by kernel_rfl) rfl #[] rfl (by (try simp only [List.map_toArray, List.map_cons, List.map_nil]); first | done | rfl | (simp only [List.length_drop, List.length_take]; rfl)) ?_; (with_reducible refine (taquinlaw13_small.calls k  t197 _ A7.out).mono ?_); rintro e w11 ⟨rfl, hb⟩; refine ⟨_, rfl, ?_⟩; have n0_ := Aside0.mk (below_step (by repeat (first | (with_reducible first | exact HB.out | apply below_alloc | apply pw_below_drewN | apply below_drew1) | exact HB.out)) hb); clear HB; have HB := n0_; clear n0_; (try clear hb); (try clear hb2); (try clear hk); (try clear hi)))
    (try simp only [Act.put, List.setIfInBounds_toArray, List.set_cons_zero, List.set_cons_succ])
    go_cut [64] (fun v64 wc => ∃ (kq : Nat) (x64_9 : Bool), v64 = .bool x64_9 ∧ Aside0 (taquinlaw13_BatteryTells.j0 kq a0 a1 a2 a3 a4 l5 t197 x64_9 = some r) ∧ Aside0 (kq ≤ k) ∧ Aside0 (Below w.heap.size w wc))
    case first =>
      have H := HC10.out
      clear HC10
      replace H := Option.bind_eq_some_iff.mp H
      obtain ⟨t198, A120, H⟩ := H
      replace H : ((taquinref13_Base.f k a3 a4).bind fun t199 => (if t198 = t199 then ((battery_Cost.f a0 a3 a4).bind fun t200 => ((taquinref13_Cost.f k a0 a3 a4).bind fun t201 => (if t200 = t201 then ((battery_Worst.f k a0).bind fun t202 => ((taquinref13_Worst.f k a0).bind fun t203 => (if t202 = t203 then ((battery_Laden.f a3 a4).bind fun t204 => ((taquinref13_Laden.f a3 a4).bind fun t205 => (taquinlaw13_BatteryTells.j0 k a0 a1 a2 a3 a4 l5 t197 (t204 != t205)))) else (taquinlaw13_BatteryTells.j0 k a0 a1 a2 a3 a4 l5 t197 true)))) else (taquinlaw13_BatteryTells.j0 k a0 a1 a2 a3 a4 l5 t197 true)))) else (taquinlaw13_BatteryTells.j0 k a0 a1 a2 a3 a4 l5 t197 true))) = some r := H
      have A12 := Aside0.mk A120
      clear A120
      replace H := Option.bind_eq_some_iff.mp H
      obtain ⟨t199, A130, H⟩ := H
      replace H : (if t198 = t199 then ((battery_Cost.f a0 a3 a4).bind fun t200 => ((taquinref13_Cost.f k a0 a3 a4).bind fun t201 => (if t200 = t201 then ((battery_Worst.f k a0).bind fun t202 => ((taquinref13_Worst.f k a0).bind fun t203 => (if t202 = t203 then ((battery_Laden.f a3 a4).bind fun t204 => ((taquinref13_Laden.f a3 a4).bind fun t205 => (taquinlaw13_BatteryTells.j0 k a0 a1 a2 a3 a4 l5 t197 (t204 != t205)))) else (taquinlaw13_BatteryTells.j0 k a0 a1 a2 a3 a4 l5 t197 true)))) else (taquinlaw13_BatteryTells.j0 k a0 a1 a2 a3 a4 l5 t197 true)))) else (taquinlaw13_BatteryTells.j0 k a0 a1 a2 a3 a4 l5 t197 true)) = some r := H
      have A13 := Aside0.mk A130
      clear A130
      by_cases c14 : t198 = t199
      · rw [if_pos c14] at H
        have c14b0 : (t198 == t199) = true := beq_iff_eq.mpr c14
        have c14b1 : (t198 != t199) = false := bne_eq_false_iff_eq.mpr c14
        clear c14
        (first | rw [c14b0] | (simp only [i64_w, i32_w]; rw [c14b0]) | skip)
        replace H := Option.bind_eq_some_iff.mp H
        obtain ⟨t200, A150, H⟩ := H
        replace H : ((taquinref13_Cost.f k a0 a3 a4).bind fun t201 => (if t200 = t201 then ((battery_Worst.f k a0).bind fun t202 => ((taquinref13_Worst.f k a0).bind fun t203 => (if t202 = t203 then ((battery_Laden.f a3 a4).bind fun t204 => ((taquinref13_Laden.f a3 a4).bind fun t205 => (taquinlaw13_BatteryTells.j0 k a0 a1 a2 a3 a4 l5 t197 (t204 != t205)))) else (taquinlaw13_BatteryTells.j0 k a0 a1 a2 a3 a4 l5 t197 true)))) else (taquinlaw13_BatteryTells.j0 k a0 a1 a2 a3 a4 l5 t197 true))) = some r := H
        have A15 := Aside0.mk A150
        clear A150
        replace H := Option.bind_eq_some_iff.mp H
        obtain ⟨t201, A160, H⟩ := H
        replace H : (if t200 = t201 then ((battery_Worst.f k a0).bind fun t202 => ((taquinref13_Worst.f k a0).bind fun t203 => (if t202 = t203 then ((battery_Laden.f a3 a4).bind fun t204 => ((taquinref13_Laden.f a3 a4).bind fun t205 => (taquinlaw13_BatteryTells.j0 k a0 a1 a2 a3 a4 l5 t197 (t204 != t205)))) else (taquinlaw13_BatteryTells.j0 k a0 a1 a2 a3 a4 l5 t197 true)))) else (taquinlaw13_BatteryTells.j0 k a0 a1 a2 a3 a4 l5 t197 true)) = some r := H
        have A16 := Aside0.mk A160
        clear A160
        by_cases c17 : t200 = t201
        · rw [if_pos c17] at H
          have c17b0 : (t200 == t201) = true := beq_iff_eq.mpr c17
          have c17b1 : (t200 != t201) = false := bne_eq_false_iff_eq.mpr c17
          clear c17
          replace H := Option.bind_eq_some_iff.mp H
          obtain ⟨t202, A180, H⟩ := H
          replace H : ((taquinref13_Worst.f k a0).bind fun t203 => (if t202 = t203 then ((battery_Laden.f a3 a4).bind fun t204 => ((taquinref13_Laden.f a3 a4).bind fun t205 => (taquinlaw13_BatteryTells.j0 k a0 a1 a2 a3 a4 l5 t197 (t204 != t205)))) else (taquinlaw13_BatteryTells.j0 k a0 a1 a2 a3 a4 l5 t197 true))) = some r := H
          have A18 := Aside0.mk A180
          clear A180
          replace H := Option.bind_eq_some_iff.mp H
          obtain ⟨t203, A190, H⟩ := H
          replace H : (if t202 = t203 then ((battery_Laden.f a3 a4).bind fun t204 => ((taquinref13_Laden.f a3 a4).bind fun t205 => (taquinlaw13_BatteryTells.j0 k a0 a1 a2 a3 a4 l5 t197 (t204 != t205)))) else (taquinlaw13_BatteryTells.j0 k a0 a1 a2 a3 a4 l5 t197 true)) = some r := H
          have A19 := Aside0.mk A190
          clear A190
          by_cases c20 : t202 = t203
          · rw [if_pos c20] at H
            have c20b0 : (t202 == t203) = true := beq_iff_eq.mpr c20
            have c20b1 : (t202 != t203) = false := bne_eq_false_iff_eq.mpr c20
            clear c20
            replace H := Option.bind_eq_some_iff.mp H
            obtain ⟨t204, A210, H⟩ := H
            replace H : ((taquinref13_Laden.f a3 a4).bind fun t205 => (taquinlaw13_BatteryTells.j0 k a0 a1 a2 a3 a4 l5 t197 (t204 != t205))) = some r := H
            have A21 := Aside0.mk A210
            clear A210
            replace H := Option.bind_eq_some_iff.mp H
            obtain ⟨t205, A220, H⟩ := H
            replace H : (taquinlaw13_BatteryTells.j0 k a0 a1 a2 a3 a4 l5 t197 (t204 != t205)) = some r := H
            have A22 := Aside0.mk A220
            clear A220
            have H' := Aside0.mk H
            clear H
            go_wp2_with (first | ((with_reducible refine gate_callee (f := 17) rfl ?_); refine goesL_ (some 33) rfl rfl Try.func17 (by kernel_rfl) rfl #[.int .i64 a3, .bool a4] rfl (by (try simp only [List.map_toArray, List.map_cons, List.map_nil]); first | done | rfl | (simp only [List.length_drop, List.length_take]; rfl)) ?_; (with_reducible refine (battery_Base.calls a3 a4 t198 _ A12.out).mono ?_); rintro e w' ⟨rfl, ⟨nd, rfl⟩⟩; refine ⟨_, rfl, ?_⟩) | ((with_reducible refine gate_callee (f := 18) rfl ?_); refine goesL_ (some 36) rfl rfl Try.func18 (by kernel_rfl) rfl #[.int .i64 a3, .bool a4] rfl (by (try simp only [List.map_toArray, List.map_cons, List.map_nil]); first | done | rfl | (simp only [List.length_drop, List.length_take]; rfl)) ?_; (with_reducible refine (taquinref13_Base.calls k a3 a4 t199 _ A13.out).mono ?_); rintro e w' ⟨rfl, ⟨nd, rfl⟩⟩; refine ⟨_, rfl, ?_⟩) | (go_at_call 9; (with_reducible refine (battery_Cost.calls a0 a3 a4 t200 _ A15.out).mono ?_); rintro e w' ⟨rfl, ⟨nd, rfl⟩⟩) | (go_at_call 19; (with_reducible refine (taquinref13_Cost.calls k a0 a3 a4 t201 _ A16.out).mono ?_); rintro e w' ⟨rfl, ⟨nd, rfl⟩⟩) | (go_at_call 10; (with_reducible refine (battery_Worst.calls k a0 t202 _ A18.out).mono ?_); rintro e w23 ⟨rfl, hb⟩; have n0_ := Aside0.mk (below_step (by repeat (first | (with_reducible first | exact HB.out | apply below_alloc | apply pw_below_drewN | apply below_drew1) | exact HB.out)) hb); clear HB; have HB := n0_; clear n0_; (try clear hb); (try clear hb2); (try clear hk); (try clear hi)) | (go_at_call 20; (with_reducible refine (taquinref13_Worst.calls k a0 t203 _ A19.out).mono ?_); rintro e w' ⟨rfl, ⟨nd, rfl⟩⟩) | (go_at_call 14; (with_reducible refine (battery_Laden.calls a3 a4 t204 _ A21.out).mono ?_); rintro e w' ⟨rfl, ⟨nd, rfl⟩⟩) | (go_at_call 21; (with_reducible refine (taquinref13_Laden.calls a3 a4 t205 _ A22.out).mono ?_); rintro e w' ⟨rfl, ⟨nd, rfl⟩⟩))
            go_meet
            case rel => exact ⟨_, ((t204 != t205)), (by first | rfl | (simp; done) | (simp [*]; done)), H', ⟨by first | omega | exact Nat.le_refl _⟩, ⟨by repeat (first | (with_reducible first | exact HB.out | apply below_alloc | apply pw_below_drewN | apply below_drew1) | exact HB.out)⟩⟩
          · rw [if_neg c20] at H
            have c20b0 : (t202 == t203) = false := beq_eq_false_iff_ne.mpr c20
            have c20b1 : (t202 != t203) = true := bne_iff_ne.mpr c20
            have H' := Aside0.mk H
            clear H
            go_wp2_with (first | ((with_reducible refine gate_callee (f := 17) rfl ?_); refine goesL_ (some 33) rfl rfl Try.func17 (by kernel_rfl) rfl #[.int .i64 a3, .bool a4] rfl (by (try simp only [List.map_toArray, List.map_cons, List.map_nil]); first | done | rfl | (simp only [List.length_drop, List.length_take]; rfl)) ?_; (with_reducible refine (battery_Base.calls a3 a4 t198 _ A12.out).mono ?_); rintro e w' ⟨rfl, ⟨nd, rfl⟩⟩; refine ⟨_, rfl, ?_⟩) | ((with_reducible refine gate_callee (f := 18) rfl ?_); refine goesL_ (some 36) rfl rfl Try.func18 (by kernel_rfl) rfl #[.int .i64 a3, .bool a4] rfl (by (try simp only [List.map_toArray, List.map_cons, List.map_nil]); first | done | rfl | (simp only [List.length_drop, List.length_take]; rfl)) ?_; (with_reducible refine (taquinref13_Base.calls k a3 a4 t199 _ A13.out).mono ?_); rintro e w' ⟨rfl, ⟨nd, rfl⟩⟩; refine ⟨_, rfl, ?_⟩) | (go_at_call 9; (with_reducible refine (battery_Cost.calls a0 a3 a4 t200 _ A15.out).mono ?_); rintro e w' ⟨rfl, ⟨nd, rfl⟩⟩) | (go_at_call 19; (with_reducible refine (taquinref13_Cost.calls k a0 a3 a4 t201 _ A16.out).mono ?_); rintro e w' ⟨rfl, ⟨nd, rfl⟩⟩) | (go_at_call 10; (with_reducible refine (battery_Worst.calls k a0 t202 _ A18.out).mono ?_); rintro e w24 ⟨rfl, hb⟩; have n0_ := Aside0.mk (below_step (by repeat (first | (with_reducible first | exact HB.out | apply below_alloc | apply pw_below_drewN | apply below_drew1) | exact HB.out)) hb); clear HB; have HB := n0_; clear n0_; (try clear hb); (try clear hb2); (try clear hk); (try clear hi)) | (go_at_call 20; (with_reducible refine (taquinref13_Worst.calls k a0 t203 _ A19.out).mono ?_); rintro e w' ⟨rfl, ⟨nd, rfl⟩⟩))
            go_meet
            case rel => exact ⟨_, (true), (by first | rfl | (simp; done) | (simp [*]; done)), H', ⟨by first | omega | exact Nat.le_refl _⟩, ⟨by repeat (first | (with_reducible first | exact HB.out | apply below_alloc | apply pw_below_drewN | apply below_drew1) | exact HB.out)⟩⟩
        · rw [if_neg c17] at H
          have c17b0 : (t200 == t201) = false := beq_eq_false_iff_ne.mpr c17
          have c17b1 : (t200 != t201) = true := bne_iff_ne.mpr c17
          have H' := Aside0.mk H
          clear H
          go_wp2_with (first | ((with_reducible refine gate_callee (f := 17) rfl ?_); refine goesL_ (some 33) rfl rfl Try.func17 (by kernel_rfl) rfl #[.int .i64 a3, .bool a4] rfl (by (try simp only [List.map_toArray, List.map_cons, List.map_nil]); first | done | rfl | (simp only [List.length_drop, List.length_take]; rfl)) ?_; (with_reducible refine (battery_Base.calls a3 a4 t198 _ A12.out).mono ?_); rintro e w' ⟨rfl, ⟨nd, rfl⟩⟩; refine ⟨_, rfl, ?_⟩) | ((with_reducible refine gate_callee (f := 18) rfl ?_); refine goesL_ (some 36) rfl rfl Try.func18 (by kernel_rfl) rfl #[.int .i64 a3, .bool a4] rfl (by (try simp only [List.map_toArray, List.map_cons, List.map_nil]); first | done | rfl | (simp only [List.length_drop, List.length_take]; rfl)) ?_; (with_reducible refine (taquinref13_Base.calls k a3 a4 t199 _ A13.out).mono ?_); rintro e w' ⟨rfl, ⟨nd, rfl⟩⟩; refine ⟨_, rfl, ?_⟩) | (go_at_call 9; (with_reducible refine (battery_Cost.calls a0 a3 a4 t200 _ A15.out).mono ?_); rintro e w' ⟨rfl, ⟨nd, rfl⟩⟩) | (go_at_call 19; (with_reducible refine (taquinref13_Cost.calls k a0 a3 a4 t201 _ A16.out).mono ?_); rintro e w' ⟨rfl, ⟨nd, rfl⟩⟩))
          go_meet
          case rel => exact ⟨_, (true), (by first | rfl | (simp; done) | (simp [*]; done)), H', ⟨by first | omega | exact Nat.le_refl _⟩, ⟨by repeat (first | (with_reducible first | exact HB.out | apply below_alloc | apply pw_below_drewN | apply below_drew1) | exact HB.out)⟩⟩
      · rw [if_neg c14] at H
        have c14b0 : (t198 == t199) = false := beq_eq_false_iff_ne.mpr c14
        have c14b1 : (t198 != t199) = true := bne_iff_ne.mpr c14
        (first | rw [c14b0] | (simp only [i64_w, i32_w]; rw [c14b0]) | skip)
        have H' := Aside0.mk H
        clear H
        go_wp2_with (first | ((with_reducible refine gate_callee (f := 17) rfl ?_); refine goesL_ (some 33) rfl rfl Try.func17 (by kernel_rfl) rfl #[.int .i64 a3, .bool a4] rfl (by (try simp only [List.map_toArray, List.map_cons, List.map_nil]); first | done | rfl | (simp only [List.length_drop, List.length_take]; rfl)) ?_; (with_reducible refine (battery_Base.calls a3 a4 t198 _ A12.out).mono ?_); rintro e w' ⟨rfl, ⟨nd, rfl⟩⟩; refine ⟨_, rfl, ?_⟩) | ((with_reducible refine gate_callee (f := 18) rfl ?_); refine goesL_ (some 36) rfl rfl Try.func18 (by kernel_rfl) rfl #[.int .i64 a3, .bool a4] rfl (by (try simp only [List.map_toArray, List.map_cons, List.map_nil]); first | done | rfl | (simp only [List.length_drop, List.length_take]; rfl)) ?_; (with_reducible refine (taquinref13_Base.calls k a3 a4 t199 _ A13.out).mono ?_); rintro e w' ⟨rfl, ⟨nd, rfl⟩⟩; refine ⟨_, rfl, ?_⟩))
        go_meet
        case rel => exact ⟨_, (true), (by first | rfl | (simp; done) | (simp [*]; done)), H', ⟨by first | omega | exact Nat.le_refl _⟩, ⟨by repeat (first | (with_reducible first | exact HB.out | apply below_alloc | apply pw_below_drewN | apply below_drew1) | exact HB.out)⟩⟩
    case rest =>
      clear HC10
      try clear c1
      try clear c2
      try clear p2
      try clear c5
      try clear c7
      try clear c8
      try clear c8b0
      try clear c8b1
      try clear c14
      try clear c14b0
      try clear c14b1
      try clear c17
      try clear c17b0
      try clear c17b1
      try clear c18
      try clear c20
      try clear c20b0
      try clear c20b1
      obtain ⟨kq, x64_9, rfl, HA, HJ9, HB⟩ := hcut
      cases kq with
      | zero => exact absurd HA.out (by simp [taquinlaw13_BatteryTells.j0])
      | succ kj9 =>
        have H := HA.out
        clear HA
        simp only [taquinlaw13_BatteryTells.j0] at H
        by_cases c25 : x64_9 = true
        · subst c25
          have H1 : (some false) = some r := by rw [if_pos rfl] at H; exact H
          clear H
          have H := H1
          clear H1
          obtain rfl := Option.some.inj H
          go_wp2
          go_ret
          exact ⟨by first | rfl | (simp [errW_none, errW_some] <;> rfl) | (simp [*, errW_none, errW_some] <;> rfl), by repeat (first | (with_reducible first | exact HB.out | apply below_alloc | apply pw_below_drewN | apply below_drew1) | exact HB.out)⟩
        · replace c25 := Bool.eq_false_iff.mpr c25
          subst c25
          have H1 : ((battery_Spend.f a1 a2).bind fun bt206 => ((taquinref13_Spend.f kj9 a1 a2).bind fun bt208 => ((battery_After.f a0 a1 a3 a4).bind fun bt210 => ((taquinref13_After.f kj9 a0 a1 a3 a4).bind fun bt212 => (if bt206.1 = bt208.1 then (if bt206.2 = bt208.2 then (if bt210.1 = bt212.1 then (taquinlaw13_BatteryTells.j1 kj9 a0 a1 a4 l5 t197 (bt210.2 != bt212.2)) else (taquinlaw13_BatteryTells.j1 kj9 a0 a1 a4 l5 t197 true)) else (taquinlaw13_BatteryTells.j1 kj9 a0 a1 a4 l5 t197 true)) else (taquinlaw13_BatteryTells.j1 kj9 a0 a1 a4 l5 t197 true)))))) = some r := by rw [if_neg (show ¬ (false = true) by decide)] at H; exact H
          clear H
          have H := H1
          clear H1
          replace H := Option.bind_eq_some_iff.mp H
          obtain ⟨⟨t206, t207⟩, A260, H⟩ := H
          replace H : ((taquinref13_Spend.f kj9 a1 a2).bind fun bt208 => ((battery_After.f a0 a1 a3 a4).bind fun bt210 => ((taquinref13_After.f kj9 a0 a1 a3 a4).bind fun bt212 => (if t206 = bt208.1 then (if t207 = bt208.2 then (if bt210.1 = bt212.1 then (taquinlaw13_BatteryTells.j1 kj9 a0 a1 a4 l5 t197 (bt210.2 != bt212.2)) else (taquinlaw13_BatteryTells.j1 kj9 a0 a1 a4 l5 t197 true)) else (taquinlaw13_BatteryTells.j1 kj9 a0 a1 a4 l5 t197 true)) else (taquinlaw13_BatteryTells.j1 kj9 a0 a1 a4 l5 t197 true))))) = some r := H
          have A26 := Aside0.mk A260
          clear A260
          replace H := Option.bind_eq_some_iff.mp H
          obtain ⟨⟨t208, t209⟩, A270, H⟩ := H
          replace H : ((battery_After.f a0 a1 a3 a4).bind fun bt210 => ((taquinref13_After.f kj9 a0 a1 a3 a4).bind fun bt212 => (if t206 = t208 then (if t207 = t209 then (if bt210.1 = bt212.1 then (taquinlaw13_BatteryTells.j1 kj9 a0 a1 a4 l5 t197 (bt210.2 != bt212.2)) else (taquinlaw13_BatteryTells.j1 kj9 a0 a1 a4 l5 t197 true)) else (taquinlaw13_BatteryTells.j1 kj9 a0 a1 a4 l5 t197 true)) else (taquinlaw13_BatteryTells.j1 kj9 a0 a1 a4 l5 t197 true)))) = some r := H
          have A27 := Aside0.mk A270
          clear A270
          replace H := Option.bind_eq_some_iff.mp H
          obtain ⟨⟨t210, t211⟩, A280, H⟩ := H
          replace H : ((taquinref13_After.f kj9 a0 a1 a3 a4).bind fun bt212 => (if t206 = t208 then (if t207 = t209 then (if t210 = bt212.1 then (taquinlaw13_BatteryTells.j1 kj9 a0 a1 a4 l5 t197 (t211 != bt212.2)) else (taquinlaw13_BatteryTells.j1 kj9 a0 a1 a4 l5 t197 true)) else (taquinlaw13_BatteryTells.j1 kj9 a0 a1 a4 l5 t197 true)) else (taquinlaw13_BatteryTells.j1 kj9 a0 a1 a4 l5 t197 true))) = some r := H
          have A28 := Aside0.mk A280
          clear A280
          replace H := Option.bind_eq_some_iff.mp H
          obtain ⟨⟨t212, t213⟩, A290, H⟩ := H
          replace H : (if t206 = t208 then (if t207 = t209 then (if t210 = t212 then (taquinlaw13_BatteryTells.j1 kj9 a0 a1 a4 l5 t197 (t211 != t213)) else (taquinlaw13_BatteryTells.j1 kj9 a0 a1 a4 l5 t197 true)) else (taquinlaw13_BatteryTells.j1 kj9 a0 a1 a4 l5 t197 true)) else (taquinlaw13_BatteryTells.j1 kj9 a0 a1 a4 l5 t197 true)) = some r := H
          have A29 := Aside0.mk A290
          clear A290
          have HC30 := Aside0.mk H
          clear H
          go_upto_region 10 with (first | ((with_reducible refine gate_callee (f := 22) rfl ?_); refine goesL_ (some 68) rfl rfl Try.func22 (by kernel_rfl) rfl #[.int .i64 a1, .int .i64 a2] rfl (by (try simp only [List.map_toArray, List.map_cons, List.map_nil]); first | done | rfl | (simp only [List.length_drop, List.length_take]; rfl)) ?_; (with_reducible refine (battery_Spend.calls a1 a2 t206 t207 _ A26.out).mono ?_); rintro e w' ⟨rfl, ⟨nd, rfl⟩⟩; refine ⟨_, rfl, ?_⟩) | ((with_reducible refine gate_callee (f := 23) rfl ?_); refine goesL_ (some 74) rfl rfl Try.func23 (by kernel_rfl) rfl #[.int .i64 a1, .int .i64 a2] rfl (by (try simp only [List.map_toArray, List.map_cons, List.map_nil]); first | done | rfl | (simp only [List.length_drop, List.length_take]; rfl)) ?_; (with_reducible refine (taquinref13_Spend.calls kj9 a1 a2 t208 t209 _ A27.out).mono ?_); rintro e w' ⟨rfl, ⟨nd, rfl⟩⟩; refine ⟨_, rfl, ?_⟩) | ((with_reducible refine gate_callee (f := 16) rfl ?_); refine goesL_ (some 82) rfl rfl Try.func16 (by kernel_rfl) rfl #[.int .i64 a0, .int .i64 a1, .int .i64 a3, .bool a4] rfl (by (try simp only [List.map_toArray, List.map_cons, List.map_nil]); first | done | rfl | (simp only [List.length_drop, List.length_take]; rfl)) ?_; (with_reducible refine (battery_After.calls a0 a1 a3 a4 t210 t211 _ A28.out).mono ?_); rintro e w' ⟨rfl, ⟨nd, rfl⟩⟩; refine ⟨_, rfl, ?_⟩) | ((with_reducible refine gate_callee (f := 24) rfl ?_); refine goesL_ (some 90) rfl rfl Try.func24 (by kernel_rfl) rfl #[.int .i64 a0, .int .i64 a1, .int .i64 a3, .bool a4] rfl (by (try simp only [List.map_toArray, List.map_cons, List.map_nil]); first | done | rfl | (simp only [List.length_drop, List.length_take]; rfl)) ?_; (with_reducible refine (taquinref13_After.calls kj9 a0 a1 a3 a4 t212 t213 _ A29.out).mono ?_); rintro e w' ⟨rfl, ⟨nd, rfl⟩⟩; refine ⟨_, rfl, ?_⟩))
          (try simp only [Act.put, List.setIfInBounds_toArray, List.set_cons_zero, List.set_cons_succ])
          go_cut [110] (fun v110 wc => ∃ (kq : Nat) (x110_29 : Bool), v110 = .bool x110_29 ∧ Aside0 (taquinlaw13_BatteryTells.j1 kq a0 a1 a4 l5 t197 x110_29 = some r) ∧ Aside0 (kq ≤ kj9) ∧ Aside0 (Below w.heap.size w wc))
          case first =>
            have H := HC30.out
            clear HC30
            by_cases c31 : t206 = t208
            · rw [if_pos c31] at H
              have c31b0 : (t206 == t208) = true := beq_iff_eq.mpr c31
              have c31b1 : (t206 != t208) = false := bne_eq_false_iff_eq.mpr c31
              clear c31
              (first | rw [c31b0] | (simp only [i64_w, i32_w]; rw [c31b0]) | skip)
              by_cases c32 : t207 = t209
              · rw [if_pos c32] at H
                have c32b0 : (t207 == t209) = true := beq_iff_eq.mpr c32
                have c32b1 : (t207 != t209) = false := bne_eq_false_iff_eq.mpr c32
                clear c32
                by_cases c33 : t210 = t212
                · rw [if_pos c33] at H
                  have c33b0 : (t210 == t212) = true := beq_iff_eq.mpr c33
                  have c33b1 : (t210 != t212) = false := bne_eq_false_iff_eq.mpr c33
                  clear c33
                  have H' := Aside0.mk H
                  clear H
                  go_wp2
                  go_meet
                  case rel => exact ⟨_, ((t211 != t213)), (by first | rfl | (simp; done) | (simp [*]; done)), H', ⟨by have := HJ9.out; first | omega | exact Nat.le_refl _⟩, ⟨by repeat (first | (with_reducible first | exact HB.out | apply below_alloc | apply pw_below_drewN | apply below_drew1) | exact HB.out)⟩⟩
                · rw [if_neg c33] at H
                  have c33b0 : (t210 == t212) = false := beq_eq_false_iff_ne.mpr c33
                  have c33b1 : (t210 != t212) = true := bne_iff_ne.mpr c33
                  have H' := Aside0.mk H
                  clear H
                  go_wp2
                  go_meet
                  case rel => exact ⟨_, (true), (by first | rfl | (simp; done) | (simp [*]; done)), H', ⟨by have := HJ9.out; first | omega | exact Nat.le_refl _⟩, ⟨by repeat (first | (with_reducible first | exact HB.out | apply below_alloc | apply pw_below_drewN | apply below_drew1) | exact HB.out)⟩⟩
              · rw [if_neg c32] at H
                have c32b0 : (t207 == t209) = false := beq_eq_false_iff_ne.mpr c32
                have c32b1 : (t207 != t209) = true := bne_iff_ne.mpr c32
                have H' := Aside0.mk H
                clear H
                go_wp2
                go_meet
                case rel => exact ⟨_, (true), (by first | rfl | (simp; done) | (simp [*]; done)), H', ⟨by have := HJ9.out; first | omega | exact Nat.le_refl _⟩, ⟨by repeat (first | (with_reducible first | exact HB.out | apply below_alloc | apply pw_below_drewN | apply below_drew1) | exact HB.out)⟩⟩
            · rw [if_neg c31] at H
              have c31b0 : (t206 == t208) = false := beq_eq_false_iff_ne.mpr c31
              have c31b1 : (t206 != t208) = true := bne_iff_ne.mpr c31
              (first | rw [c31b0] | (simp only [i64_w, i32_w]; rw [c31b0]) | skip)
              have H' := Aside0.mk H
              clear H
              go_wp2
              go_meet
              case rel => exact ⟨_, (true), (by first | rfl | (simp; done) | (simp [*]; done)), H', ⟨by have := HJ9.out; first | omega | exact Nat.le_refl _⟩, ⟨by repeat (first | (with_reducible first | exact HB.out | apply below_alloc | apply pw_below_drewN | apply below_drew1) | exact HB.out)⟩⟩
          case rest =>
            clear HC30
            try clear c1
            try clear c2
            try clear p2
            try clear c3
            try clear c5
            try clear c7
            try clear c8
            try clear c8b0
            try clear c8b1
            try clear c14
            try clear c14b0
            try clear c14b1
            try clear c16
            try clear c17
            try clear c17b0
            try clear c17b1
            try clear c18
            try clear c20
            try clear c20b0
            try clear c20b1
            try clear c22
            try clear c23
            try clear c24
            try clear c25
            try clear c31
            try clear c31b0
            try clear c31b1
            try clear c32
            try clear c32b0
            try clear c32b1
            try clear c33
            try clear c33b0
            try clear c33b1
            try clear p2
            obtain ⟨kq, x110_29, rfl, HA, HJ29, HB⟩ := hcut
            cases kq with
            | zero => exact absurd HA.out (by simp [taquinlaw13_BatteryTells.j1])
            | succ kj29 =>
              have H := HA.out
              clear HA
              simp only [taquinlaw13_BatteryTells.j1] at H
              by_cases c34 : x110_29 = true
              · subst c34
                have H1 : (some false) = some r := by rw [if_pos rfl] at H; exact H
                clear H
                have H := H1
                clear H1
                obtain rfl := Option.some.inj H
                go_wp2
                go_ret
                exact ⟨by first | rfl | (simp [errW_none, errW_some] <;> rfl) | (simp [*, errW_none, errW_some] <;> rfl), by repeat (first | (with_reducible first | exact HB.out | apply below_alloc | apply pw_below_drewN | apply below_drew1) | exact HB.out)⟩
              · replace c34 := Bool.eq_false_iff.mpr c34
                subst c34
                have H1 : (if a0 < 0 then (taquinlaw13_BatteryTells.j2 kj29 a0 a1 a4 l5 t197 true) else (taquinlaw13_BatteryTells.j2 kj29 a0 a1 a4 l5 t197 (decide (a0 > 20000)))) = some r := by rw [if_neg (show ¬ (false = true) by decide)] at H; exact H
                clear H
                have H := H1
                clear H1
                have HC35 := Aside0.mk H
                clear H
                go_upto_region 12 with (fail)
                go_cut [116] (fun v116 wc => ∃ (kq : Nat) (x116_34 : Bool), v116 = .bool x116_34 ∧ Aside0 (taquinlaw13_BatteryTells.j2 kq a0 a1 a4 l5 t197 x116_34 = some r) ∧ Aside0 (kq ≤ kj29) ∧ Aside0 (Below w.heap.size w wc))
                case first =>
                  have H := HC35.out
                  clear HC35
                  by_cases c36 : a0 < 0
                  · rw [if_pos c36] at H
                    have c36b0 : decide (a0 < 0) = true := decide_eq_true c36
                    clear c36
                    (first | rw [c36b0] | (simp only [i64_w, i32_w]; rw [c36b0]) | skip)
                    have H' := Aside0.mk H
                    clear H
                    go_wp2
                    go_meet
                    case rel => exact ⟨_, (true), (by first | rfl | (simp; done) | (simp [*]; done)), H', ⟨by have := HJ9.out; have := HJ29.out; first | omega | exact Nat.le_refl _⟩, ⟨by repeat (first | (with_reducible first | exact HB.out | apply below_alloc | apply pw_below_drewN | apply below_drew1) | exact HB.out)⟩⟩
                  · rw [if_neg c36] at H
                    have c36b0 : decide (a0 < 0) = false := decide_eq_false c36
                    clear c36
                    (first | rw [c36b0] | (simp only [i64_w, i32_w]; rw [c36b0]) | skip)
                    have H' := Aside0.mk H
                    clear H
                    go_wp2
                    go_meet
                    case rel => exact ⟨_, (decide (a0 > 20000)), (by first | rfl | (simp; done) | (simp [*]; done)), H', ⟨by have := HJ9.out; have := HJ29.out; first | omega | exact Nat.le_refl _⟩, ⟨by repeat (first | (with_reducible first | exact HB.out | apply below_alloc | apply pw_below_drewN | apply below_drew1) | exact HB.out)⟩⟩
                case rest =>
                  clear HC35
                  try clear c1
                  try clear c2
                  try clear p2
                  try clear c3
                  try clear c5
                  try clear c7
                  try clear c8
                  try clear c8b0
                  try clear c8b1
                  try clear c14
                  try clear c14b0
                  try clear c14b1
                  try clear c16
                  try clear c17
                  try clear c17b0
                  try clear c17b1
                  try clear c18
                  try clear c20
                  try clear c20b0
                  try clear c20b1
                  try clear c22
                  try clear c23
                  try clear c24
                  try clear c25
                  try clear c31
                  try clear c31b0
                  try clear c31b1
                  try clear c32
                  try clear c32b0
                  try clear c32b1
                  try clear c33
                  try clear c33b0
                  try clear c33b1
                  try clear c34
                  try clear c36
                  try clear c36b0
                  try clear p2
                  obtain ⟨kq, x116_34, rfl, HA, HJ34, HB⟩ := hcut
                  cases kq with
                  | zero => exact absurd HA.out (by simp [taquinlaw13_BatteryTells.j2])
                  | succ kj34 =>
                    have H := HA.out
                    clear HA
                    simp only [taquinlaw13_BatteryTells.j2] at H
                    by_cases c37 : x116_34 = true
                    · subst c37
                      have H1 : (some t197) = some r := by rw [if_pos rfl] at H; exact H
                      clear H
                      have H := H1
                      clear H1
                      obtain rfl := Option.some.inj H
                      go_wp2
                      go_ret
                      exact ⟨by first | rfl | (simp [errW_none, errW_some] <;> rfl) | (simp [*, errW_none, errW_some] <;> rfl), by repeat (first | (with_reducible first | exact HB.out | apply below_alloc | apply pw_below_drewN | apply below_drew1) | exact HB.out)⟩
                    · replace c37 := Bool.eq_false_iff.mpr c37
                      subst c37
                      have H1 : ((battery_Run.f a0 a1 l5 a4).bind fun bt214 => ((taquinref13_Run.f kj34 a0 a1 l5 a4).bind fun bt216 => (if t197 = true then (if bt214.1 = bt216.1 then (if bt214.2 = bt216.2 then ((battery_Sum.f a0 l5 a4).bind fun t218 => ((taquinref13_Sum.f kj34 a0 l5 a4).bind fun t219 => (if t218 = t219 then ((battery_Ticks.f kj34 a0 a1).bind fun t220 => ((taquinref13_Ticks.f kj34 a0 a1).bind fun t221 => (some (t220 == t221)))) else (some false)))) else (some false)) else (some false)) else (some false)))) = some r := by rw [if_neg (show ¬ (false = true) by decide)] at H; exact H
                      clear H
                      have H := H1
                      clear H1
                      replace H := Option.bind_eq_some_iff.mp H
                      obtain ⟨⟨t214, t215⟩, A380, H⟩ := H
                      replace H : ((taquinref13_Run.f kj34 a0 a1 l5 a4).bind fun bt216 => (if t197 = true then (if t214 = bt216.1 then (if t215 = bt216.2 then ((battery_Sum.f a0 l5 a4).bind fun t218 => ((taquinref13_Sum.f kj34 a0 l5 a4).bind fun t219 => (if t218 = t219 then ((battery_Ticks.f kj34 a0 a1).bind fun t220 => ((taquinref13_Ticks.f kj34 a0 a1).bind fun t221 => (some (t220 == t221)))) else (some false)))) else (some false)) else (some false)) else (some false))) = some r := H
                      have A38 := Aside0.mk A380
                      clear A380
                      replace H := Option.bind_eq_some_iff.mp H
                      obtain ⟨⟨t216, t217⟩, A390, H⟩ := H
                      replace H : (if t197 = true then (if t214 = t216 then (if t215 = t217 then ((battery_Sum.f a0 l5 a4).bind fun t218 => ((taquinref13_Sum.f kj34 a0 l5 a4).bind fun t219 => (if t218 = t219 then ((battery_Ticks.f kj34 a0 a1).bind fun t220 => ((taquinref13_Ticks.f kj34 a0 a1).bind fun t221 => (some (t220 == t221)))) else (some false)))) else (some false)) else (some false)) else (some false)) = some r := H
                      have A39 := Aside0.mk A390
                      clear A390
                      by_cases c40 : t197 = true
                      · subst c40
                        have H1 : (if t214 = t216 then (if t215 = t217 then ((battery_Sum.f a0 l5 a4).bind fun t218 => ((taquinref13_Sum.f kj34 a0 l5 a4).bind fun t219 => (if t218 = t219 then ((battery_Ticks.f kj34 a0 a1).bind fun t220 => ((taquinref13_Ticks.f kj34 a0 a1).bind fun t221 => (some (t220 == t221)))) else (some false)))) else (some false)) else (some false)) = some r := by rw [if_pos rfl] at H; exact H
                        clear H
                        have H := H1
                        clear H1
                        by_cases c41 : t214 = t216
                        · rw [if_pos c41] at H
                          have c41b0 : (t214 == t216) = true := beq_iff_eq.mpr c41
                          have c41b1 : (t214 != t216) = false := bne_eq_false_iff_eq.mpr c41
                          clear c41
                          by_cases c42 : t215 = t217
                          · rw [if_pos c42] at H
                            have c42b0 : (t215 == t217) = true := beq_iff_eq.mpr c42
                            have c42b1 : (t215 != t217) = false := bne_eq_false_iff_eq.mpr c42
                            clear c42
                            replace H := Option.bind_eq_some_iff.mp H
                            obtain ⟨t218, A430, H⟩ := H
                            replace H : ((taquinref13_Sum.f kj34 a0 l5 a4).bind fun t219 => (if t218 = t219 then ((battery_Ticks.f kj34 a0 a1).bind fun t220 => ((taquinref13_Ticks.f kj34 a0 a1).bind fun t221 => (some (t220 == t221)))) else (some false))) = some r := H
                            have A43 := Aside0.mk A430
                            clear A430
                            replace H := Option.bind_eq_some_iff.mp H
                            obtain ⟨t219, A440, H⟩ := H
                            replace H : (if t218 = t219 then ((battery_Ticks.f kj34 a0 a1).bind fun t220 => ((taquinref13_Ticks.f kj34 a0 a1).bind fun t221 => (some (t220 == t221)))) else (some false)) = some r := H
                            have A44 := Aside0.mk A440
                            clear A440
                            by_cases c45 : t218 = t219
                            · rw [if_pos c45] at H
                              have c45b0 : (t218 == t219) = true := beq_iff_eq.mpr c45
                              have c45b1 : (t218 != t219) = false := bne_eq_false_iff_eq.mpr c45
                              clear c45
                              replace H := Option.bind_eq_some_iff.mp H
                              obtain ⟨t220, A460, H⟩ := H
                              replace H : ((taquinref13_Ticks.f kj34 a0 a1).bind fun t221 => (some (t220 == t221))) = some r := H
                              have A46 := Aside0.mk A460
                              clear A460
                              replace H := Option.bind_eq_some_iff.mp H
                              obtain ⟨t221, A470, H⟩ := H
                              replace H : (some (t220 == t221)) = some r := H
                              have A47 := Aside0.mk A470
                              clear A470
                              obtain rfl := Option.some.inj H
                              go_wp2_with (first | ((with_reducible refine gate_callee (f := 12) rfl ?_); refine goesL_ (some 123) rfl rfl Try.func12 (by kernel_rfl) rfl #[.int .i64 a0, .int .i64 a1, .slice A5 l5.length c5, .bool a4] rfl (by (try simp only [List.map_toArray, List.map_cons, List.map_nil]); first | done | rfl | (simp only [List.length_drop, List.length_take]; rfl)) ?_; (with_reducible refine (battery_Run.calls a0 a1 _ _ l5 a4 t214 t215 _ ?side1 ?side2 A38.out).mono ?_); (case side1 => repeat (first | exact (Kd.C_below HR5.out HB.out) | (with_reducible refine Kd.C_alloc ?_ _) | (with_reducible refine Kd.C_drewN ?_ _) | (with_reducible refine Kd.C_drew ?_))); (case side2 => exact HC5.out); rintro e w48 ⟨rfl, hb⟩; refine ⟨_, rfl, ?_⟩; have n0_ := Aside0.mk (below_step (by repeat (first | (with_reducible first | exact HB.out | apply below_alloc | apply pw_below_drewN | apply below_drew1) | exact HB.out)) hb); clear HB; have HB := n0_; clear n0_; (try clear hb); (try clear hb2); (try clear hk); (try clear hi)) | ((with_reducible refine gate_callee (f := 25) rfl ?_); refine goesL_ (some 131) rfl rfl Try.func25 (by kernel_rfl) rfl #[.int .i64 a0, .int .i64 a1, .slice A5 l5.length c5, .bool a4] rfl (by (try simp only [List.map_toArray, List.map_cons, List.map_nil]); first | done | rfl | (simp only [List.length_drop, List.length_take]; rfl)) ?_; (with_reducible refine (taquinref13_Run.calls kj34 a0 a1 _ _ l5 a4 t216 t217 _ ?side1 ?side2 A39.out).mono ?_); (case side1 => repeat (first | exact (Kd.C_below HR5.out HB.out) | (with_reducible refine Kd.C_alloc ?_ _) | (with_reducible refine Kd.C_drewN ?_ _) | (with_reducible refine Kd.C_drew ?_))); (case side2 => exact HC5.out); rintro e w' ⟨rfl, ⟨nd, rfl⟩⟩; refine ⟨_, rfl, ?_⟩) | (go_at_call 13; (with_reducible refine (battery_Sum.calls a0 _ _ l5 a4 t218 _ ?side1 ?side2 A43.out).mono ?_); (case side1 => repeat (first | exact (Kd.C_below HR5.out (by repeat (first | (with_reducible first | exact HB.out | apply below_alloc | apply pw_below_drewN | apply below_drew1) | exact HB.out))) | (with_reducible refine Kd.C_alloc ?_ _) | (with_reducible refine Kd.C_drewN ?_ _) | (with_reducible refine Kd.C_drew ?_))); (case side2 => exact HC5.out); rintro e w49 ⟨rfl, hb⟩; have n0_ := Aside0.mk (below_step (by repeat (first | (with_reducible first | exact HB.out | apply below_alloc | apply pw_below_drewN | apply below_drew1) | exact HB.out)) hb); clear HB; have HB := n0_; clear n0_; (try clear hb); (try clear hb2); (try clear hk); (try clear hi)) | (go_at_call 26; (with_reducible refine (taquinref13_Sum.calls kj34 a0 _ _ l5 a4 t219 _ ?side1 ?side2 A44.out).mono ?_); (case side1 => repeat (first | exact (Kd.C_below HR5.out HB.out) | (with_reducible refine Kd.C_alloc ?_ _) | (with_reducible refine Kd.C_drewN ?_ _) | (with_reducible refine Kd.C_drew ?_))); (case side2 => exact HC5.out); rintro e w' ⟨rfl, ⟨nd, rfl⟩⟩) | (go_at_call 15; (with_reducible refine (battery_Ticks.calls kj34 a0 a1 t220 _ A46.out).mono ?_); rintro e w' ⟨rfl, ⟨nd, rfl⟩⟩) | (go_at_call 27; (with_reducible refine (taquinref13_Ticks.calls kj34 a0 a1 t221 _ A47.out).mono ?_); rintro e w' ⟨rfl, ⟨nd, rfl⟩⟩))
                              go_ret
                              exact ⟨by first | rfl | (simp [errW_none, errW_some] <;> rfl) | (simp [*, errW_none, errW_some] <;> rfl), by repeat (first | (with_reducible first | exact HB.out | apply below_alloc | apply pw_below_drewN | apply below_drew1) | exact HB.out)⟩
                            · rw [if_neg c45] at H
                              have c45b0 : (t218 == t219) = false := beq_eq_false_iff_ne.mpr c45
                              have c45b1 : (t218 != t219) = true := bne_iff_ne.mpr c45
                              obtain rfl := Option.some.inj H
                              go_wp2_with (first | ((with_reducible refine gate_callee (f := 12) rfl ?_); refine goesL_ (some 123) rfl rfl Try.func12 (by kernel_rfl) rfl #[.int .i64 a0, .int .i64 a1, .slice A5 l5.length c5, .bool a4] rfl (by (try simp only [List.map_toArray, List.map_cons, List.map_nil]); first | done | rfl | (simp only [List.length_drop, List.length_take]; rfl)) ?_; (with_reducible refine (battery_Run.calls a0 a1 _ _ l5 a4 t214 t215 _ ?side1 ?side2 A38.out).mono ?_); (case side1 => repeat (first | exact (Kd.C_below HR5.out HB.out) | (with_reducible refine Kd.C_alloc ?_ _) | (with_reducible refine Kd.C_drewN ?_ _) | (with_reducible refine Kd.C_drew ?_))); (case side2 => exact HC5.out); rintro e w50 ⟨rfl, hb⟩; refine ⟨_, rfl, ?_⟩; have n0_ := Aside0.mk (below_step (by repeat (first | (with_reducible first | exact HB.out | apply below_alloc | apply pw_below_drewN | apply below_drew1) | exact HB.out)) hb); clear HB; have HB := n0_; clear n0_; (try clear hb); (try clear hb2); (try clear hk); (try clear hi)) | ((with_reducible refine gate_callee (f := 25) rfl ?_); refine goesL_ (some 131) rfl rfl Try.func25 (by kernel_rfl) rfl #[.int .i64 a0, .int .i64 a1, .slice A5 l5.length c5, .bool a4] rfl (by (try simp only [List.map_toArray, List.map_cons, List.map_nil]); first | done | rfl | (simp only [List.length_drop, List.length_take]; rfl)) ?_; (with_reducible refine (taquinref13_Run.calls kj34 a0 a1 _ _ l5 a4 t216 t217 _ ?side1 ?side2 A39.out).mono ?_); (case side1 => repeat (first | exact (Kd.C_below HR5.out HB.out) | (with_reducible refine Kd.C_alloc ?_ _) | (with_reducible refine Kd.C_drewN ?_ _) | (with_reducible refine Kd.C_drew ?_))); (case side2 => exact HC5.out); rintro e w' ⟨rfl, ⟨nd, rfl⟩⟩; refine ⟨_, rfl, ?_⟩) | (go_at_call 13; (with_reducible refine (battery_Sum.calls a0 _ _ l5 a4 t218 _ ?side1 ?side2 A43.out).mono ?_); (case side1 => repeat (first | exact (Kd.C_below HR5.out (by repeat (first | (with_reducible first | exact HB.out | apply below_alloc | apply pw_below_drewN | apply below_drew1) | exact HB.out))) | (with_reducible refine Kd.C_alloc ?_ _) | (with_reducible refine Kd.C_drewN ?_ _) | (with_reducible refine Kd.C_drew ?_))); (case side2 => exact HC5.out); rintro e w51 ⟨rfl, hb⟩; have n0_ := Aside0.mk (below_step (by repeat (first | (with_reducible first | exact HB.out | apply below_alloc | apply pw_below_drewN | apply below_drew1) | exact HB.out)) hb); clear HB; have HB := n0_; clear n0_; (try clear hb); (try clear hb2); (try clear hk); (try clear hi)) | (go_at_call 26; (with_reducible refine (taquinref13_Sum.calls kj34 a0 _ _ l5 a4 t219 _ ?side1 ?side2 A44.out).mono ?_); (case side1 => repeat (first | exact (Kd.C_below HR5.out HB.out) | (with_reducible refine Kd.C_alloc ?_ _) | (with_reducible refine Kd.C_drewN ?_ _) | (with_reducible refine Kd.C_drew ?_))); (case side2 => exact HC5.out); rintro e w' ⟨rfl, ⟨nd, rfl⟩⟩))
                              go_ret
                              exact ⟨by first | rfl | (simp [errW_none, errW_some] <;> rfl) | (simp [*, errW_none, errW_some] <;> rfl), by repeat (first | (with_reducible first | exact HB.out | apply below_alloc | apply pw_below_drewN | apply below_drew1) | exact HB.out)⟩
                          · rw [if_neg c42] at H
                            have c42b0 : (t215 == t217) = false := beq_eq_false_iff_ne.mpr c42
                            have c42b1 : (t215 != t217) = true := bne_iff_ne.mpr c42
                            obtain rfl := Option.some.inj H
                            go_wp2_with (first | ((with_reducible refine gate_callee (f := 12) rfl ?_); refine goesL_ (some 123) rfl rfl Try.func12 (by kernel_rfl) rfl #[.int .i64 a0, .int .i64 a1, .slice A5 l5.length c5, .bool a4] rfl (by (try simp only [List.map_toArray, List.map_cons, List.map_nil]); first | done | rfl | (simp only [List.length_drop, List.length_take]; rfl)) ?_; (with_reducible refine (battery_Run.calls a0 a1 _ _ l5 a4 t214 t215 _ ?side1 ?side2 A38.out).mono ?_); (case side1 => repeat (first | exact (Kd.C_below HR5.out HB.out) | (with_reducible refine Kd.C_alloc ?_ _) | (with_reducible refine Kd.C_drewN ?_ _) | (with_reducible refine Kd.C_drew ?_))); (case side2 => exact HC5.out); rintro e w52 ⟨rfl, hb⟩; refine ⟨_, rfl, ?_⟩; have n0_ := Aside0.mk (below_step (by repeat (first | (with_reducible first | exact HB.out | apply below_alloc | apply pw_below_drewN | apply below_drew1) | exact HB.out)) hb); clear HB; have HB := n0_; clear n0_; (try clear hb); (try clear hb2); (try clear hk); (try clear hi)) | ((with_reducible refine gate_callee (f := 25) rfl ?_); refine goesL_ (some 131) rfl rfl Try.func25 (by kernel_rfl) rfl #[.int .i64 a0, .int .i64 a1, .slice A5 l5.length c5, .bool a4] rfl (by (try simp only [List.map_toArray, List.map_cons, List.map_nil]); first | done | rfl | (simp only [List.length_drop, List.length_take]; rfl)) ?_; (with_reducible refine (taquinref13_Run.calls kj34 a0 a1 _ _ l5 a4 t216 t217 _ ?side1 ?side2 A39.out).mono ?_); (case side1 => repeat (first | exact (Kd.C_below HR5.out HB.out) | (with_reducible refine Kd.C_alloc ?_ _) | (with_reducible refine Kd.C_drewN ?_ _) | (with_reducible refine Kd.C_drew ?_))); (case side2 => exact HC5.out); rintro e w' ⟨rfl, ⟨nd, rfl⟩⟩; refine ⟨_, rfl, ?_⟩))
                            go_ret
                            exact ⟨by first | rfl | (simp [errW_none, errW_some] <;> rfl) | (simp [*, errW_none, errW_some] <;> rfl), by repeat (first | (with_reducible first | exact HB.out | apply below_alloc | apply pw_below_drewN | apply below_drew1) | exact HB.out)⟩
                        · rw [if_neg c41] at H
                          have c41b0 : (t214 == t216) = false := beq_eq_false_iff_ne.mpr c41
                          have c41b1 : (t214 != t216) = true := bne_iff_ne.mpr c41
                          obtain rfl := Option.some.inj H
                          go_wp2_with (first | ((with_reducible refine gate_callee (f := 12) rfl ?_); refine goesL_ (some 123) rfl rfl Try.func12 (by kernel_rfl) rfl #[.int .i64 a0, .int .i64 a1, .slice A5 l5.length c5, .bool a4] rfl (by (try simp only [List.map_toArray, List.map_cons, List.map_nil]); first | done | rfl | (simp only [List.length_drop, List.length_take]; rfl)) ?_; (with_reducible refine (battery_Run.calls a0 a1 _ _ l5 a4 t214 t215 _ ?side1 ?side2 A38.out).mono ?_); (case side1 => repeat (first | exact (Kd.C_below HR5.out HB.out) | (with_reducible refine Kd.C_alloc ?_ _) | (with_reducible refine Kd.C_drewN ?_ _) | (with_reducible refine Kd.C_drew ?_))); (case side2 => exact HC5.out); rintro e w53 ⟨rfl, hb⟩; refine ⟨_, rfl, ?_⟩; have n0_ := Aside0.mk (below_step (by repeat (first | (with_reducible first | exact HB.out | apply below_alloc | apply pw_below_drewN | apply below_drew1) | exact HB.out)) hb); clear HB; have HB := n0_; clear n0_; (try clear hb); (try clear hb2); (try clear hk); (try clear hi)) | ((with_reducible refine gate_callee (f := 25) rfl ?_); refine goesL_ (some 131) rfl rfl Try.func25 (by kernel_rfl) rfl #[.int .i64 a0, .int .i64 a1, .slice A5 l5.length c5, .bool a4] rfl (by (try simp only [List.map_toArray, List.map_cons, List.map_nil]); first | done | rfl | (simp only [List.length_drop, List.length_take]; rfl)) ?_; (with_reducible refine (taquinref13_Run.calls kj34 a0 a1 _ _ l5 a4 t216 t217 _ ?side1 ?side2 A39.out).mono ?_); (case side1 => repeat (first | exact (Kd.C_below HR5.out HB.out) | (with_reducible refine Kd.C_alloc ?_ _) | (with_reducible refine Kd.C_drewN ?_ _) | (with_reducible refine Kd.C_drew ?_))); (case side2 => exact HC5.out); rintro e w' ⟨rfl, ⟨nd, rfl⟩⟩; refine ⟨_, rfl, ?_⟩))
                          go_ret
                          exact ⟨by first | rfl | (simp [errW_none, errW_some] <;> rfl) | (simp [*, errW_none, errW_some] <;> rfl), by repeat (first | (with_reducible first | exact HB.out | apply below_alloc | apply pw_below_drewN | apply below_drew1) | exact HB.out)⟩
                      · replace c40 := Bool.eq_false_iff.mpr c40
                        subst c40
                        have H1 : (some false) = some r := by rw [if_neg (show ¬ (false = true) by decide)] at H; exact H
                        clear H
                        have H := H1
                        clear H1
                        obtain rfl := Option.some.inj H
                        go_wp2_with (first | ((with_reducible refine gate_callee (f := 12) rfl ?_); refine goesL_ (some 123) rfl rfl Try.func12 (by kernel_rfl) rfl #[.int .i64 a0, .int .i64 a1, .slice A5 l5.length c5, .bool a4] rfl (by (try simp only [List.map_toArray, List.map_cons, List.map_nil]); first | done | rfl | (simp only [List.length_drop, List.length_take]; rfl)) ?_; (with_reducible refine (battery_Run.calls a0 a1 _ _ l5 a4 t214 t215 _ ?side1 ?side2 A38.out).mono ?_); (case side1 => repeat (first | exact (Kd.C_below HR5.out HB.out) | (with_reducible refine Kd.C_alloc ?_ _) | (with_reducible refine Kd.C_drewN ?_ _) | (with_reducible refine Kd.C_drew ?_))); (case side2 => exact HC5.out); rintro e w54 ⟨rfl, hb⟩; refine ⟨_, rfl, ?_⟩; have n0_ := Aside0.mk (below_step (by repeat (first | (with_reducible first | exact HB.out | apply below_alloc | apply pw_below_drewN | apply below_drew1) | exact HB.out)) hb); clear HB; have HB := n0_; clear n0_; (try clear hb); (try clear hb2); (try clear hk); (try clear hi)) | ((with_reducible refine gate_callee (f := 25) rfl ?_); refine goesL_ (some 131) rfl rfl Try.func25 (by kernel_rfl) rfl #[.int .i64 a0, .int .i64 a1, .slice A5 l5.length c5, .bool a4] rfl (by (try simp only [List.map_toArray, List.map_cons, List.map_nil]); first | done | rfl | (simp only [List.length_drop, List.length_take]; rfl)) ?_; (with_reducible refine (taquinref13_Run.calls kj34 a0 a1 _ _ l5 a4 t216 t217 _ ?side1 ?side2 A39.out).mono ?_); (case side1 => repeat (first | exact (Kd.C_below HR5.out HB.out) | (with_reducible refine Kd.C_alloc ?_ _) | (with_reducible refine Kd.C_drewN ?_ _) | (with_reducible refine Kd.C_drew ?_))); (case side2 => exact HC5.out); rintro e w' ⟨rfl, ⟨nd, rfl⟩⟩; refine ⟨_, rfl, ?_⟩))
                        go_ret
                        exact ⟨by first | rfl | (simp [errW_none, errW_some] <;> rfl) | (simp [*, errW_none, errW_some] <;> rfl), by repeat (first | (with_reducible first | exact HB.out | apply below_alloc | apply pw_below_drewN | apply below_drew1) | exact HB.out)⟩

/-- THE ONE PURE STATEMENT of taquinlaw13_BatteryTells: yours. -/
def taquinlaw13_BatteryTells.Pure : Prop := ∀ (a0 : Int) (a1 : Int) (a2 : Int) (a3 : Int) (a4 : Bool) (l5 : List Int), (Lit.int .i64 a0).wf = true → (Lit.int .i64 a1).wf = true → (Lit.int .i64 a2).wf = true → (Lit.int .i64 a3).wf = true → l5.length ≤ maxLen → l5.length * 8 ≤ 140737488351232 → (∀ x ∈ l5, (Lit.int .i64 x).wf = true) → ∃ k, taquinlaw13_BatteryTells.f k a0 a1 a2 a3 a4 l5 = some true
theorem taquinlaw13_BatteryTells.walk (P : taquinlaw13_BatteryTells.Pure) (a0 : Int) (a1 : Int) (a2 : Int) (a3 : Int) (a4 : Bool) (a5 : Option Addr) (len5 cap5 : Nat) (z5 : List Int) (w : World) (w0 : (Lit.int .i64 a0).wf = true) (w1 : (Lit.int .i64 a1).wf = true) (w2 : (Lit.int .i64 a2).wf = true) (w3 : (Lit.int .i64 a3).wf = true) (w5 : (a5 = none ∧ len5 = 0 ∧ cap5 = 0 ∧ z5 = []) ∨ ∃ x, a5 = some x ∧ len5 ≤ cap5 ∧ cap5 ≤ maxLen ∧ z5.length = cap5 ∧ (∀ i, i < z5.length → w.cell? (x.add i) = some (.int .i64 (z5.getD i 0))) ∧ ∀ n ∈ z5, (Lit.int .i64 n).wf = true) (y5 : len5 * 8 ≤ 140737488351232) :
    Calls Try.prog 7 #[.int .i64 a0, .int .i64 a1, .int .i64 a2, .int .i64 a3, .bool a4, .slice a5 len5 cap5] w fun e w' => e = .returned (.bool true) ∧ Below w.heap.size w w' := by
  obtain ⟨l5, rfl, hr5, hm5, hw5, hc5⟩ := ReadsInt.ofRowC w5
  obtain ⟨k, h⟩ := P a0 a1 a2 a3 a4 l5 w0 w1 w2 w3 hm5 y5 hw5
  refine (taquinlaw13_BatteryTells.calls k a0 a1 a2 a3 a4 _ _ l5 true w (Kd.C_of_reads (d := (0 : Int)) (h1 := fun _ => rfl) hr5) hc5 h).mono ?_
  rintro e w' ⟨rfl, hd⟩
  exact ⟨rfl, hd⟩

end Go.Proofs.Ytkhehmmdlnebnaa.B
