/- Written by a program of this session (driver.py, over the kit's printer): Lean functions for functions of the given program, and their contracts; not trusted, Lean checks it. -/
import Derived.Test.YtkhehmmdlnebnaaB0
import Derived.Test.YtkhehmmdlnebnaaB1
import Derived.Test.YtkhehmmdlnebnaaB2
namespace Go.Proofs.Ytkhehmmdlnebnaa.B
open Go.Proofs.Ytkhehmmdlnebnaa.H
open Go.RowKit Go.Proofs.YtkhehmmdlnebnaaW.PrintWords Go.Proofs.YtkhehmmdlnebnaaW.PrintLast Go.Proofs.YtkhehmmdlnebnaaW.PrintMore
attribute [local go_sem] max2_int min2_int max_two min_two max_three min_three max_four min_four   -- for this text's walks alone
set_option linter.unusedVariables false
set_option linter.unusedSimpArgs false

/-! ### taquinlaw13_BatteryLasts: function 4 -/
mutual
def taquinlaw13_BatteryLasts.j0 : Nat → Int → Int → List Int → Bool → Bool → Bool → Option (Bool)
  | 0, _, _, _, _, _, _ => none
  | k + 1, x0, x1, x2, x3, x9, x36 => if x36 = true then (some x9) else ((battery_Run.f x0 x1 x2 x3).bind fun bt134 => ((battery_Sum.f x0 x2 x3).bind fun t136 => (taquinlaw13_BatteryLasts.l0 k x0 x1 x2 x3 x9 bt134.1 bt134.2 t136 0 0)))
def taquinlaw13_BatteryLasts.l0 : Nat → Int → Int → List Int → Bool → Bool → Int → Int → Int → Int → Int → Option (Bool)
  | 0, _, _, _, _, _, _, _, _, _, _ => none
  | k + 1, x0, x1, x2, x3, x9, x10, x11, x12, x13, x14 => if x14 < (x2.length : Int) then (if 0 ≤ x14 then (if (rd x2 x14) = 9 then (taquinlaw13_BatteryLasts.l0 k x0 x1 x2 x3 x9 x10 x11 x12 (wrap64 (x13 + 1)) (wrap64 (x14 + 1))) else (taquinlaw13_BatteryLasts.l0 k x0 x1 x2 x3 x9 x10 x11 x12 x13 (wrap64 (x14 + 1)))) else (none)) else (if x11 < 0 then (taquinlaw13_BatteryLasts.j2 k x0 x1 x2 x3 x9 x10 x11 x12 x13 true) else (if x11 > (x2.length : Int) then (taquinlaw13_BatteryLasts.j2 k x0 x1 x2 x3 x9 x10 x11 x12 x13 true) else (if x10 < 0 then (taquinlaw13_BatteryLasts.j2 k x0 x1 x2 x3 x9 x10 x11 x12 x13 true) else (if x10 > 1000000 then (taquinlaw13_BatteryLasts.j2 k x0 x1 x2 x3 x9 x10 x11 x12 x13 true) else (taquinlaw13_BatteryLasts.j2 k x0 x1 x2 x3 x9 x10 x11 x12 x13 (decide (x10 > (wrap64 (x1 + (wrap64 (x13 * 20)))))))))))
def taquinlaw13_BatteryLasts.j2 : Nat → Int → Int → List Int → Bool → Bool → Int → Int → Int → Int → Bool → Option (Bool)
  | 0, _, _, _, _, _, _, _, _, _, _ => none
  | k + 1, x0, x1, x2, x3, x9, x10, x11, x12, x13, x86 => if x86 = true then (some false) else (if x13 > 0 then (some x9) else (if ((x11 == (x2.length : Int)) != (decide (x1 ≥ x12))) = true then (taquinlaw13_BatteryLasts.j3 k x0 x1 x2 x3 x9 x10 x11 x12 true) else (if 0 ≤ x11 then (if x11 ≤ (x2.length : Int) then ((battery_Sum.f x0 (x2.take (x11 : Int).toNat) x3).bind fun t139 => (taquinlaw13_BatteryLasts.j3 k x0 x1 x2 x3 x9 x10 x11 x12 (x10 != (wrap64 (x1 - t139))))) else (none)) else (none))))
def taquinlaw13_BatteryLasts.j3 : Nat → Int → Int → List Int → Bool → Bool → Int → Int → Int → Bool → Option (Bool)
  | 0, _, _, _, _, _, _, _, _, _ => none
  | k + 1, x0, x1, x2, x3, x9, x10, x11, x12, x109 => if x109 = true then (some false) else (if x11 = (x2.length : Int) then (if x9 = true then (some (x10 == (wrap64 (x1 - x12)))) else (some false)) else (taquinlaw13_BatteryLasts.l1 k x0 x2 x9 x10 x11 x3 0))
def taquinlaw13_BatteryLasts.l1 : Nat → Int → List Int → Bool → Int → Int → Bool → Int → Option (Bool)
  | 0, _, _, _, _, _, _, _ => none
  | k + 1, x0, x2, x9, x10, x11, x15, x16 => if x16 < x11 then (if 0 ≤ x16 then (if x16 < (x2.length : Int) then ((battery_Laden.f (rd x2 x16) x15).bind fun t141 => (taquinlaw13_BatteryLasts.l1 k x0 x2 x9 x10 x11 t141 (wrap64 (x16 + 1)))) else (none)) else (none)) else (if x9 = true then (if 0 ≤ x11 then (if x11 < (x2.length : Int) then ((battery_Cost.f (wrap64 (x0 + x11)) (rd x2 x11) x15).bind fun t143 => (some (decide (x10 < t143)))) else (none)) else (none)) else (some false))
end
def taquinlaw13_BatteryLasts.f (k : Nat) (a0 : Int) (a1 : Int) (l2 : List Int) (a3 : Bool) : Option (Bool) := (taquinlaw13_small.f k).bind fun t132 => (if a0 < 0 then (taquinlaw13_BatteryLasts.j0 k a0 a1 l2 a3 t132 true) else (if a0 > 20000 then (taquinlaw13_BatteryLasts.j0 k a0 a1 l2 a3 t132 true) else (if a1 < 0 then (taquinlaw13_BatteryLasts.j0 k a0 a1 l2 a3 t132 true) else (if a1 > 1000000 then (taquinlaw13_BatteryLasts.j0 k a0 a1 l2 a3 t132 true) else ((taquinref13_Acts.f k l2 200).bind fun t133 => (taquinlaw13_BatteryLasts.j0 k a0 a1 l2 a3 t132 (!t133)))))))
theorem taquinlaw13_BatteryLasts.mono_l : ∀ k, (∀ y0 y1 y2 y3 y4 y5, LeO (taquinlaw13_BatteryLasts.j0 k y0 y1 y2 y3 y4 y5) (taquinlaw13_BatteryLasts.j0 (k + 1) y0 y1 y2 y3 y4 y5)) ∧ (∀ y0 y1 y2 y3 y4 y5 y6 y7 y8 y9, LeO (taquinlaw13_BatteryLasts.l0 k y0 y1 y2 y3 y4 y5 y6 y7 y8 y9) (taquinlaw13_BatteryLasts.l0 (k + 1) y0 y1 y2 y3 y4 y5 y6 y7 y8 y9)) ∧ (∀ y0 y1 y2 y3 y4 y5 y6 y7 y8 y9, LeO (taquinlaw13_BatteryLasts.j2 k y0 y1 y2 y3 y4 y5 y6 y7 y8 y9) (taquinlaw13_BatteryLasts.j2 (k + 1) y0 y1 y2 y3 y4 y5 y6 y7 y8 y9)) ∧ (∀ y0 y1 y2 y3 y4 y5 y6 y7 y8, LeO (taquinlaw13_BatteryLasts.j3 k y0 y1 y2 y3 y4 y5 y6 y7 y8) (taquinlaw13_BatteryLasts.j3 (k + 1) y0 y1 y2 y3 y4 y5 y6 y7 y8)) ∧ (∀ y0 y1 y2 y3 y4 y5 y6, LeO (taquinlaw13_BatteryLasts.l1 k y0 y1 y2 y3 y4 y5 y6) (taquinlaw13_BatteryLasts.l1 (k + 1) y0 y1 y2 y3 y4 y5 y6))
  | 0 => ⟨fun _ _ _ _ _ _ r h => by simp [taquinlaw13_BatteryLasts.j0] at h, fun _ _ _ _ _ _ _ _ _ _ r h => by simp [taquinlaw13_BatteryLasts.l0] at h, fun _ _ _ _ _ _ _ _ _ _ r h => by simp [taquinlaw13_BatteryLasts.j2] at h, fun _ _ _ _ _ _ _ _ _ r h => by simp [taquinlaw13_BatteryLasts.j3] at h, fun _ _ _ _ _ _ _ r h => by simp [taquinlaw13_BatteryLasts.l1] at h⟩
  | k + 1 => by
    obtain ⟨ih0, ih1, ih2, ih3, ih4⟩ := taquinlaw13_BatteryLasts.mono_l k
    refine ⟨?_, ?_, ?_, ?_, ?_⟩
    · intro y0 y1 y2 y3 y4 y5
      unfold taquinlaw13_BatteryLasts.j0
      repeat' first
      | (with_reducible exact ih0 _ _ _ _ _ _)
      | (with_reducible exact ih1 _ _ _ _ _ _ _ _ _ _)
      | (with_reducible exact ih2 _ _ _ _ _ _ _ _ _ _)
      | (with_reducible exact ih3 _ _ _ _ _ _ _ _ _)
      | (with_reducible exact ih4 _ _ _ _ _ _ _)
      | (with_reducible exact taquinlaw13_small.mono _)
      | (with_reducible exact taquinref13_Acts.mono _ _ _)
      | (with_reducible exact LeO.refl _)
      | (with_reducible exact LeO.none _)
      | (with_reducible refine LeO.ite ?_ ?_)
      | (with_reducible refine LeO.bind ?_ (fun _ => ?_))
      | exact ih0 _ _ _ _ _ _
      | exact ih1 _ _ _ _ _ _ _ _ _ _
      | exact ih2 _ _ _ _ _ _ _ _ _ _
      | exact ih3 _ _ _ _ _ _ _ _ _
      | exact ih4 _ _ _ _ _ _ _
      | exact taquinlaw13_small.mono _
      | exact taquinref13_Acts.mono _ _ _
      | exact LeO.none _
      | refine LeO.ite ?_ ?_
      | refine LeO.bind ?_ (fun _ => ?_)
    · intro y0 y1 y2 y3 y4 y5 y6 y7 y8 y9
      unfold taquinlaw13_BatteryLasts.l0
      repeat' first
      | (with_reducible exact ih0 _ _ _ _ _ _)
      | (with_reducible exact ih1 _ _ _ _ _ _ _ _ _ _)
      | (with_reducible exact ih2 _ _ _ _ _ _ _ _ _ _)
      | (with_reducible exact ih3 _ _ _ _ _ _ _ _ _)
      | (with_reducible exact ih4 _ _ _ _ _ _ _)
      | (with_reducible exact taquinlaw13_small.mono _)
      | (with_reducible exact taquinref13_Acts.mono _ _ _)
      | (with_reducible exact LeO.refl _)
      | (with_reducible exact LeO.none _)
      | (with_reducible refine LeO.ite ?_ ?_)
      | (with_reducible refine LeO.bind ?_ (fun _ => ?_))
      | exact ih0 _ _ _ _ _ _
      | exact ih1 _ _ _ _ _ _ _ _ _ _
      | exact ih2 _ _ _ _ _ _ _ _ _ _
      | exact ih3 _ _ _ _ _ _ _ _ _
      | exact ih4 _ _ _ _ _ _ _
      | exact taquinlaw13_small.mono _
      | exact taquinref13_Acts.mono _ _ _
      | exact LeO.none _
      | refine LeO.ite ?_ ?_
      | refine LeO.bind ?_ (fun _ => ?_)
    · intro y0 y1 y2 y3 y4 y5 y6 y7 y8 y9
      unfold taquinlaw13_BatteryLasts.j2
      repeat' first
      | (with_reducible exact ih0 _ _ _ _ _ _)
      | (with_reducible exact ih1 _ _ _ _ _ _ _ _ _ _)
      | (with_reducible exact ih2 _ _ _ _ _ _ _ _ _ _)
      | (with_reducible exact ih3 _ _ _ _ _ _ _ _ _)
      | (with_reducible exact ih4 _ _ _ _ _ _ _)
      | (with_reducible exact taquinlaw13_small.mono _)
      | (with_reducible exact taquinref13_Acts.mono _ _ _)
      | (with_reducible exact LeO.refl _)
      | (with_reducible exact LeO.none _)
      | (with_reducible refine LeO.ite ?_ ?_)
      | (with_reducible refine LeO.bind ?_ (fun _ => ?_))
      | exact ih0 _ _ _ _ _ _
      | exact ih1 _ _ _ _ _ _ _ _ _ _
      | exact ih2 _ _ _ _ _ _ _ _ _ _
      | exact ih3 _ _ _ _ _ _ _ _ _
      | exact ih4 _ _ _ _ _ _ _
      | exact taquinlaw13_small.mono _
      | exact taquinref13_Acts.mono _ _ _
      | exact LeO.none _
      | refine LeO.ite ?_ ?_
      | refine LeO.bind ?_ (fun _ => ?_)
    · intro y0 y1 y2 y3 y4 y5 y6 y7 y8
      unfold taquinlaw13_BatteryLasts.j3
      repeat' first
      | (with_reducible exact ih0 _ _ _ _ _ _)
      | (with_reducible exact ih1 _ _ _ _ _ _ _ _ _ _)
      | (with_reducible exact ih2 _ _ _ _ _ _ _ _ _ _)
      | (with_reducible exact ih3 _ _ _ _ _ _ _ _ _)
      | (with_reducible exact ih4 _ _ _ _ _ _ _)
      | (with_reducible exact taquinlaw13_small.mono _)
      | (with_reducible exact taquinref13_Acts.mono _ _ _)
      | (with_reducible exact LeO.refl _)
      | (with_reducible exact LeO.none _)
      | (with_reducible refine LeO.ite ?_ ?_)
      | (with_reducible refine LeO.bind ?_ (fun _ => ?_))
      | exact ih0 _ _ _ _ _ _
      | exact ih1 _ _ _ _ _ _ _ _ _ _
      | exact ih2 _ _ _ _ _ _ _ _ _ _
      | exact ih3 _ _ _ _ _ _ _ _ _
      | exact ih4 _ _ _ _ _ _ _
      | exact taquinlaw13_small.mono _
      | exact taquinref13_Acts.mono _ _ _
      | exact LeO.none _
      | refine LeO.ite ?_ ?_
      | refine LeO.bind ?_ (fun _ => ?_)
    · intro y0 y1 y2 y3 y4 y5 y6
      unfold taquinlaw13_BatteryLasts.l1
      repeat' first
      | (with_reducible exact ih0 _ _ _ _ _ _)
      | (with_reducible exact ih1 _ _ _ _ _ _ _ _ _ _)
      | (with_reducible exact ih2 _ _ _ _ _ _ _ _ _ _)
      | (with_reducible exact ih3 _ _ _ _ _ _ _ _ _)
      | (with_reducible exact ih4 _ _ _ _ _ _ _)
      | (with_reducible exact taquinlaw13_small.mono _)
      | (with_reducible exact taquinref13_Acts.mono _ _ _)
      | (with_reducible exact LeO.refl _)
      | (with_reducible exact LeO.none _)
      | (with_reducible refine LeO.ite ?_ ?_)
      | (with_reducible refine LeO.bind ?_ (fun _ => ?_))
      | exact ih0 _ _ _ _ _ _
      | exact ih1 _ _ _ _ _ _ _ _ _ _
      | exact ih2 _ _ _ _ _ _ _ _ _ _
      | exact ih3 _ _ _ _ _ _ _ _ _
      | exact ih4 _ _ _ _ _ _ _
      | exact taquinlaw13_small.mono _
      | exact taquinref13_Acts.mono _ _ _
      | exact LeO.none _
      | refine LeO.ite ?_ ?_
      | refine LeO.bind ?_ (fun _ => ?_)
theorem taquinlaw13_BatteryLasts.mono : ∀ a0 a1 a2 a3 k, LeO (taquinlaw13_BatteryLasts.f k a0 a1 a2 a3) (taquinlaw13_BatteryLasts.f (k + 1) a0 a1 a2 a3) := by
  intro a0 a1 a2 a3 k
  obtain ⟨ih0, ih1, ih2, ih3, ih4⟩ := taquinlaw13_BatteryLasts.mono_l k
  unfold taquinlaw13_BatteryLasts.f
  repeat' first
      | (with_reducible exact ih0 _ _ _ _ _ _)
      | (with_reducible exact ih1 _ _ _ _ _ _ _ _ _ _)
      | (with_reducible exact ih2 _ _ _ _ _ _ _ _ _ _)
      | (with_reducible exact ih3 _ _ _ _ _ _ _ _ _)
      | (with_reducible exact ih4 _ _ _ _ _ _ _)
      | (with_reducible exact taquinlaw13_small.mono _)
      | (with_reducible exact taquinref13_Acts.mono _ _ _)
      | (with_reducible exact LeO.refl _)
      | (with_reducible exact LeO.none _)
      | (with_reducible refine LeO.ite ?_ ?_)
      | (with_reducible refine LeO.bind ?_ (fun _ => ?_))
      | exact ih0 _ _ _ _ _ _
      | exact ih1 _ _ _ _ _ _ _ _ _ _
      | exact ih2 _ _ _ _ _ _ _ _ _ _
      | exact ih3 _ _ _ _ _ _ _ _ _
      | exact ih4 _ _ _ _ _ _ _
      | exact taquinlaw13_small.mono _
      | exact taquinref13_Acts.mono _ _ _
      | exact LeO.none _
      | refine LeO.ite ?_ ?_
      | refine LeO.bind ?_ (fun _ => ?_)
set_option maxHeartbeats 8000000 in
set_option maxRecDepth 100000 in
theorem taquinlaw13_BatteryLasts.calls (k : Nat) (a0 : Int) (a1 : Int) (A2 : Option Addr) (c2 : Nat) (l2 : List Int) (a3 : Bool) (r : Bool) (w : World) (hr2 : Kd.C (Kd.int .i64) w A2 l2.length l2) (hc2 : l2.length ≤ c2) (h : taquinlaw13_BatteryLasts.f k a0 a1 l2 a3 = some r) :
    Calls Try.prog 4 #[.int .i64 a0, .int .i64 a1, .slice A2 l2.length c2, .bool a3] w fun e w' => e = .returned (.bool r) ∧ Below w.heap.size w w' := by
  have HR2 := Aside0.mk hr2
  have HC2 := Aside0.mk hc2
  clear hr2 hc2
  have HB := Aside0.mk (Below.refl w.heap.size w)
  have H : ((taquinlaw13_small.f k).bind fun t132 => (if a0 < 0 then (taquinlaw13_BatteryLasts.j0 k a0 a1 l2 a3 t132 true) else (if a0 > 20000 then (taquinlaw13_BatteryLasts.j0 k a0 a1 l2 a3 t132 true) else (if a1 < 0 then (taquinlaw13_BatteryLasts.j0 k a0 a1 l2 a3 t132 true) else (if a1 > 1000000 then (taquinlaw13_BatteryLasts.j0 k a0 a1 l2 a3 t132 true) else ((taquinref13_Acts.f k l2 200).bind fun t133 => (taquinlaw13_BatteryLasts.j0 k a0 a1 l2 a3 t132 (!t133)))))))) = some r := h
  clear h
  replace H := Option.bind_eq_some_iff.mp H
  obtain ⟨t132, A50, H⟩ := H
  replace H : (if a0 < 0 then (taquinlaw13_BatteryLasts.j0 k a0 a1 l2 a3 t132 true) else (if a0 > 20000 then (taquinlaw13_BatteryLasts.j0 k a0 a1 l2 a3 t132 true) else (if a1 < 0 then (taquinlaw13_BatteryLasts.j0 k a0 a1 l2 a3 t132 true) else (if a1 > 1000000 then (taquinlaw13_BatteryLasts.j0 k a0 a1 l2 a3 t132 true) else ((taquinref13_Acts.f k l2 200).bind fun t133 => (taquinlaw13_BatteryLasts.j0 k a0 a1 l2 a3 t132 (!t133))))))) = some r := H
  have A5 := Aside0.mk A50
  clear A50
  have HC6 := Aside0.mk H
  clear H
  go_enter Try.func4, Try.ntmps4
  go_upto_region 2 with (first | ((with_reducible refine gate_callee (f := 8) rfl ?_); refine goesL_ (some 17) rfl rfl Try.func8 (by kernel_rfl) rfl #[] rfl (by (try simp only [List.map_toArray, List.map_cons, List.map_nil]); first | done | rfl | (simp only [List.length_drop, List.length_take]; rfl)) ?_; (with_reducible refine (taquinlaw13_small.calls k  t132 _ A5.out).mono ?_); rintro e w7 ⟨rfl, hb⟩; refine ⟨_, rfl, ?_⟩; have n0_ := Aside0.mk (below_step (by repeat (first | (with_reducible first | exact HB.out | apply below_alloc | apply pw_below_drewN | apply below_drew1) | exact HB.out)) hb); clear HB; have HB := n0_; clear n0_; (try clear hb); (try clear hb2); (try clear hk); (try clear hi)))
  (try simp only [Act.put, List.setIfInBounds_toArray, List.set_cons_zero, List.set_cons_succ])
  go_cut [36] (fun v36 wc => ∃ (kq : Nat) (x36_5 : Bool), v36 = .bool x36_5 ∧ Aside0 (taquinlaw13_BatteryLasts.j0 kq a0 a1 l2 a3 t132 x36_5 = some r) ∧ Aside0 (kq ≤ k) ∧ Aside0 (Below w.heap.size w wc))
  case first =>
    have H := HC6.out
    clear HC6
    by_cases c8 : a0 < 0
    · rw [if_pos c8] at H
      have c8b0 : decide (a0 < 0) = true := decide_eq_true c8
      clear c8
      (first | rw [c8b0] | (simp only [i64_w, i32_w]; rw [c8b0]) | skip)
      have H' := Aside0.mk H
      clear H
      go_wp2
      go_meet
      case rel => exact ⟨_, (true), (by first | rfl | (simp; done) | (simp [*]; done)), H', ⟨by first | omega | exact Nat.le_refl _⟩, ⟨by repeat (first | (with_reducible first | exact HB.out | apply below_alloc | apply pw_below_drewN | apply below_drew1) | exact HB.out)⟩⟩
    · rw [if_neg c8] at H
      have c8b0 : decide (a0 < 0) = false := decide_eq_false c8
      clear c8
      (first | rw [c8b0] | (simp only [i64_w, i32_w]; rw [c8b0]) | skip)
      by_cases c9 : a0 > 20000
      · rw [if_pos c9] at H
        have c9b0 : decide (20000 < a0) = true := decide_eq_true c9
        clear c9
        have H' := Aside0.mk H
        clear H
        go_wp2
        go_meet
        case rel => exact ⟨_, (true), (by first | rfl | (simp; done) | (simp [*]; done)), H', ⟨by first | omega | exact Nat.le_refl _⟩, ⟨by repeat (first | (with_reducible first | exact HB.out | apply below_alloc | apply pw_below_drewN | apply below_drew1) | exact HB.out)⟩⟩
      · rw [if_neg c9] at H
        have c9b0 : decide (20000 < a0) = false := decide_eq_false c9
        clear c9
        by_cases c10 : a1 < 0
        · rw [if_pos c10] at H
          have c10b0 : decide (a1 < 0) = true := decide_eq_true c10
          clear c10
          have H' := Aside0.mk H
          clear H
          go_wp2
          go_meet
          case rel => exact ⟨_, (true), (by first | rfl | (simp; done) | (simp [*]; done)), H', ⟨by first | omega | exact Nat.le_refl _⟩, ⟨by repeat (first | (with_reducible first | exact HB.out | apply below_alloc | apply pw_below_drewN | apply below_drew1) | exact HB.out)⟩⟩
        · rw [if_neg c10] at H
          have c10b0 : decide (a1 < 0) = false := decide_eq_false c10
          clear c10
          by_cases c11 : a1 > 1000000
          · rw [if_pos c11] at H
            have c11b0 : decide (1000000 < a1) = true := decide_eq_true c11
            clear c11
            have H' := Aside0.mk H
            clear H
            go_wp2
            go_meet
            case rel => exact ⟨_, (true), (by first | rfl | (simp; done) | (simp [*]; done)), H', ⟨by first | omega | exact Nat.le_refl _⟩, ⟨by repeat (first | (with_reducible first | exact HB.out | apply below_alloc | apply pw_below_drewN | apply below_drew1) | exact HB.out)⟩⟩
          · rw [if_neg c11] at H
            have c11b0 : decide (1000000 < a1) = false := decide_eq_false c11
            clear c11
            replace H := Option.bind_eq_some_iff.mp H
            obtain ⟨t133, A120, H⟩ := H
            replace H : (taquinlaw13_BatteryLasts.j0 k a0 a1 l2 a3 t132 (!t133)) = some r := H
            have A12 := Aside0.mk A120
            clear A120
            have H' := Aside0.mk H
            clear H
            go_wp2_with (first | (go_at_call 11; (with_reducible refine (taquinref13_Acts.calls k _ _ l2 200 t133 _ ?side1 ?side2 A12.out).mono ?_); (case side1 => repeat (first | exact (Kd.C_below HR2.out HB.out) | (with_reducible refine Kd.C_alloc ?_ _) | (with_reducible refine Kd.C_drewN ?_ _) | (with_reducible refine Kd.C_drew ?_))); (case side2 => exact HC2.out); rintro e w' ⟨rfl, ⟨nd, rfl⟩⟩))
            go_meet
            case rel => exact ⟨_, (!t133), (by first | rfl | (simp; done) | (simp [*]; done)), H', ⟨by first | omega | exact Nat.le_refl _⟩, ⟨by repeat (first | (with_reducible first | exact HB.out | apply below_alloc | apply pw_below_drewN | apply below_drew1) | exact HB.out)⟩⟩
  case rest =>
    clear HC6
    try clear c1
    try clear c2
    try clear p2
    try clear c4
    try clear c8
    try clear c8b0
    try clear c9
    try clear c9b0
    try clear c10
    try clear c10b0
    try clear c11
    try clear c11b0
    obtain ⟨kq, x36_5, rfl, HA, HJ5, HB⟩ := hcut
    cases kq with
    | zero => exact absurd HA.out (by simp [taquinlaw13_BatteryLasts.j0])
    | succ kj5 =>
      have H := HA.out
      clear HA
      simp only [taquinlaw13_BatteryLasts.j0] at H
      by_cases c13 : x36_5 = true
      · subst c13
        have H1 : (some t132) = some r := by rw [if_pos rfl] at H; exact H
        clear H
        have H := H1
        clear H1
        obtain rfl := Option.some.inj H
        go_wp2
        go_ret
        exact ⟨by first | rfl | (simp [errW_none, errW_some] <;> rfl) | (simp [*, errW_none, errW_some] <;> rfl), by repeat (first | (with_reducible first | exact HB.out | apply below_alloc | apply pw_below_drewN | apply below_drew1) | exact HB.out)⟩
      · replace c13 := Bool.eq_false_iff.mpr c13
        subst c13
        have H1 : ((battery_Run.f a0 a1 l2 a3).bind fun bt134 => ((battery_Sum.f a0 l2 a3).bind fun t136 => (taquinlaw13_BatteryLasts.l0 kj5 a0 a1 l2 a3 t132 bt134.1 bt134.2 t136 0 0))) = some r := by rw [if_neg (show ¬ (false = true) by decide)] at H; exact H
        clear H
        have H := H1
        clear H1
        replace H := Option.bind_eq_some_iff.mp H
        obtain ⟨⟨t134, t135⟩, A140, H⟩ := H
        replace H : ((battery_Sum.f a0 l2 a3).bind fun t136 => (taquinlaw13_BatteryLasts.l0 kj5 a0 a1 l2 a3 t132 t134 t135 t136 0 0)) = some r := H
        have A14 := Aside0.mk A140
        clear A140
        replace H := Option.bind_eq_some_iff.mp H
        obtain ⟨t136, A150, H⟩ := H
        replace H : (taquinlaw13_BatteryLasts.l0 kj5 a0 a1 l2 a3 t132 t134 t135 t136 0 0) = some r := H
        have A15 := Aside0.mk A150
        clear A150
        have H' := Aside0.mk H
        clear H
        go_wp2_with (first | ((with_reducible refine gate_callee (f := 12) rfl ?_); refine goesL_ (some 43) rfl rfl Try.func12 (by kernel_rfl) rfl #[.int .i64 a0, .int .i64 a1, .slice A2 l2.length c2, .bool a3] rfl (by (try simp only [List.map_toArray, List.map_cons, List.map_nil]); first | done | rfl | (simp only [List.length_drop, List.length_take]; rfl)) ?_; (with_reducible refine (battery_Run.calls a0 a1 _ _ l2 a3 t134 t135 _ ?side1 ?side2 A14.out).mono ?_); (case side1 => repeat (first | exact (Kd.C_below HR2.out HB.out) | (with_reducible refine Kd.C_alloc ?_ _) | (with_reducible refine Kd.C_drewN ?_ _) | (with_reducible refine Kd.C_drew ?_))); (case side2 => exact HC2.out); rintro e w16 ⟨rfl, hb⟩; refine ⟨_, rfl, ?_⟩; have n0_ := Aside0.mk (below_step (by repeat (first | (with_reducible first | exact HB.out | apply below_alloc | apply pw_below_drewN | apply below_drew1) | exact HB.out)) hb); clear HB; have HB := n0_; clear n0_; (try clear hb); (try clear hb2); (try clear hk); (try clear hi)) | ((with_reducible refine gate_callee (f := 13) rfl ?_); refine goesL_ (some 49) rfl rfl Try.func13 (by kernel_rfl) rfl #[.int .i64 a0, .slice A2 l2.length c2, .bool a3] rfl (by (try simp only [List.map_toArray, List.map_cons, List.map_nil]); first | done | rfl | (simp only [List.length_drop, List.length_take]; rfl)) ?_; (with_reducible refine (battery_Sum.calls a0 _ _ l2 a3 t136 _ ?side1 ?side2 A15.out).mono ?_); (case side1 => repeat (first | exact (Kd.C_below HR2.out HB.out) | (with_reducible refine Kd.C_alloc ?_ _) | (with_reducible refine Kd.C_drewN ?_ _) | (with_reducible refine Kd.C_drew ?_))); (case side2 => exact HC2.out); rintro e w17 ⟨rfl, hb⟩; refine ⟨_, rfl, ?_⟩; have n0_ := Aside0.mk (below_step (by repeat (first | (with_reducible first | exact HB.out | apply below_alloc | apply pw_below_drewN | apply below_drew1) | exact HB.out)) hb); clear HB; have HB := n0_; clear n0_; (try clear hb); (try clear hb2); (try clear hk); (try clear hi)))
        go_loopg [13, 14] kj5 (fun kq v13 v14 w' => ∃ (x13_2 : Int) (x14_2 : Int), v13 = .int .i64 x13_2 ∧ v14 = .int .i64 x14_2 ∧ Aside0 (taquinlaw13_BatteryLasts.l0 kq a0 a1 l2 a3 t132 t134 t135 t136 x13_2 x14_2 = some r) ∧ Aside0 (kq ≤ kj5) ∧ Aside0 (Below w.heap.size w w'))
        case atStart => exact ⟨(0), (0), (by first | rfl | (simp; done) | (simp [*]; done)), (by first | rfl | (simp; done) | (simp [*]; done)), H', ⟨Nat.le_refl _⟩, ⟨by repeat (first | (with_reducible first | exact HB.out | apply below_alloc | apply pw_below_drewN | apply below_drew1) | exact HB.out)⟩⟩
        case round =>
          clear H'
          try clear c1
          try clear c2
          try clear p2
          try clear c4
          try clear c8
          try clear c8b0
          try clear c9
          try clear c9b0
          try clear c10
          try clear c10b0
          try clear c11
          try clear c11b0
          try clear c12
          try clear c13
          try clear p2
          obtain ⟨x13_2, x14_2, rfl, rfl, HA, HK2, HB⟩ := hrel
          cases gk with
          | zero => exact absurd HA.out (by simp [taquinlaw13_BatteryLasts.l0])
          | succ k2 =>
            have H := HA.out
            clear HA
            simp only [taquinlaw13_BatteryLasts.l0] at H
            by_cases c18 : x14_2 < (l2.length : Int)
            · rw [if_pos c18] at H
              have c18b0 : decide (x14_2 < (l2.length : Int)) = true := decide_eq_true c18
              clear c18
              by_cases c19 : 0 ≤ x14_2
              · rw [if_pos c19] at H
                have c19b0 : decide (0 ≤ x14_2) = true := decide_eq_true c19
                clear c19
                by_cases c20 : (rd l2 x14_2) = 9
                · rw [if_pos c20] at H
                  have c20b0 : ((rd l2 x14_2) == 9) = true := beq_iff_eq.mpr c20
                  have c20b1 : ((rd l2 x14_2) != 9) = false := bne_eq_false_iff_eq.mpr c20
                  clear c20
                  have H' := Aside0.mk H
                  clear H
                  have p137 : 0 ≤ (x14_2 : Int) := of_decide_eq_true (by first | (with_reducible assumption) | assumption)
                  have q137 : x14_2 < (l2.length : Int) := of_decide_eq_true (by first | (with_reducible assumption) | assumption)
                  obtain ⟨ad137, e137, hx137_0⟩ := Kd.at_int HR2.out x14_2 p137 q137
                  cases e137
                  replace hx137_0 := (HB.out.cell (World.block_lt_of_cell? w _ hx137_0)).trans hx137_0
                  replace p137 := eq_true p137
                  replace q137 := eq_true q137
                  go_wp2
                  go_roundg k2
                  case measure => have := HJ5.out; have := HK2.out; omega
                  case rel => exact ⟨(wrap64 (x13_2 + 1)), (wrap64 (x14_2 + 1)), (by first | rfl | (simp; done) | (simp [*]; done)), (by first | rfl | (simp; done) | (simp [*]; done)), H', ⟨by have := HJ5.out; have := HK2.out; omega⟩, ⟨by repeat (first | (with_reducible first | exact HB.out | apply below_alloc | apply pw_below_drewN | apply below_drew1) | exact HB.out)⟩⟩
                · rw [if_neg c20] at H
                  have c20b0 : ((rd l2 x14_2) == 9) = false := beq_eq_false_iff_ne.mpr c20
                  have c20b1 : ((rd l2 x14_2) != 9) = true := bne_iff_ne.mpr c20
                  have H' := Aside0.mk H
                  clear H
                  have p137 : 0 ≤ (x14_2 : Int) := of_decide_eq_true (by first | (with_reducible assumption) | assumption)
                  have q137 : x14_2 < (l2.length : Int) := of_decide_eq_true (by first | (with_reducible assumption) | assumption)
                  obtain ⟨ad137, e137, hx137_0⟩ := Kd.at_int HR2.out x14_2 p137 q137
                  cases e137
                  replace hx137_0 := (HB.out.cell (World.block_lt_of_cell? w _ hx137_0)).trans hx137_0
                  replace p137 := eq_true p137
                  replace q137 := eq_true q137
                  go_wp2
                  go_roundg k2
                  case measure => have := HJ5.out; have := HK2.out; omega
                  case rel => exact ⟨(x13_2), (wrap64 (x14_2 + 1)), (by first | rfl | (simp; done) | (simp [*]; done)), (by first | rfl | (simp; done) | (simp [*]; done)), H', ⟨by have := HJ5.out; have := HK2.out; omega⟩, ⟨by repeat (first | (with_reducible first | exact HB.out | apply below_alloc | apply pw_below_drewN | apply below_drew1) | exact HB.out)⟩⟩
              · rw [if_neg c19] at H
                exact absurd H (by simp)
            · rw [if_neg c18] at H
              have c18b0 : decide (x14_2 < (l2.length : Int)) = false := decide_eq_false c18
              clear c18
              have HC21 := Aside0.mk H
              clear H
              go_upto_region 12 with (fail)
              go_cut [86] (fun v86 wc => ∃ (kq : Nat) (x86_20 : Bool), v86 = .bool x86_20 ∧ Aside0 (taquinlaw13_BatteryLasts.j2 kq a0 a1 l2 a3 t132 t134 t135 t136 x13_2 x86_20 = some r) ∧ Aside0 (kq ≤ k2) ∧ Aside0 (Below w.heap.size w wc))
              case first =>
                have H := HC21.out
                clear HC21
                by_cases c22 : t135 < 0
                · rw [if_pos c22] at H
                  have c22b0 : decide (t135 < 0) = true := decide_eq_true c22
                  clear c22
                  (first | rw [c22b0] | (simp only [i64_w, i32_w]; rw [c22b0]) | skip)
                  have H' := Aside0.mk H
                  clear H
                  go_wp2
                  go_meet
                  case rel => exact ⟨_, (true), (by first | rfl | (simp; done) | (simp [*]; done)), H', ⟨by have := HJ5.out; have := HK2.out; first | omega | exact Nat.le_refl _⟩, ⟨by repeat (first | (with_reducible first | exact HB.out | apply below_alloc | apply pw_below_drewN | apply below_drew1) | exact HB.out)⟩⟩
                · rw [if_neg c22] at H
                  have c22b0 : decide (t135 < 0) = false := decide_eq_false c22
                  clear c22
                  (first | rw [c22b0] | (simp only [i64_w, i32_w]; rw [c22b0]) | skip)
                  by_cases c23 : t135 > (l2.length : Int)
                  · rw [if_pos c23] at H
                    have c23b0 : decide ((l2.length : Int) < t135) = true := decide_eq_true c23
                    clear c23
                    have H' := Aside0.mk H
                    clear H
                    go_wp2
                    go_meet
                    case rel => exact ⟨_, (true), (by first | rfl | (simp; done) | (simp [*]; done)), H', ⟨by have := HJ5.out; have := HK2.out; first | omega | exact Nat.le_refl _⟩, ⟨by repeat (first | (with_reducible first | exact HB.out | apply below_alloc | apply pw_below_drewN | apply below_drew1) | exact HB.out)⟩⟩
                  · rw [if_neg c23] at H
                    have c23b0 : decide ((l2.length : Int) < t135) = false := decide_eq_false c23
                    clear c23
                    by_cases c24 : t134 < 0
                    · rw [if_pos c24] at H
                      have c24b0 : decide (t134 < 0) = true := decide_eq_true c24
                      clear c24
                      have H' := Aside0.mk H
                      clear H
                      go_wp2
                      go_meet
                      case rel => exact ⟨_, (true), (by first | rfl | (simp; done) | (simp [*]; done)), H', ⟨by have := HJ5.out; have := HK2.out; first | omega | exact Nat.le_refl _⟩, ⟨by repeat (first | (with_reducible first | exact HB.out | apply below_alloc | apply pw_below_drewN | apply below_drew1) | exact HB.out)⟩⟩
                    · rw [if_neg c24] at H
                      have c24b0 : decide (t134 < 0) = false := decide_eq_false c24
                      clear c24
                      by_cases c25 : t134 > 1000000
                      · rw [if_pos c25] at H
                        have c25b0 : decide (1000000 < t134) = true := decide_eq_true c25
                        clear c25
                        have H' := Aside0.mk H
                        clear H
                        go_wp2
                        go_meet
                        case rel => exact ⟨_, (true), (by first | rfl | (simp; done) | (simp [*]; done)), H', ⟨by have := HJ5.out; have := HK2.out; first | omega | exact Nat.le_refl _⟩, ⟨by repeat (first | (with_reducible first | exact HB.out | apply below_alloc | apply pw_below_drewN | apply below_drew1) | exact HB.out)⟩⟩
                      · rw [if_neg c25] at H
                        have c25b0 : decide (1000000 < t134) = false := decide_eq_false c25
                        clear c25
                        have H' := Aside0.mk H
                        clear H
                        go_wp2
                        go_meet
                        case rel => exact ⟨_, (decide (t134 > (wrap64 (a1 + (wrap64 (x13_2 * 20)))))), (by first | rfl | (simp; done) | (simp [*]; done)), H', ⟨by have := HJ5.out; have := HK2.out; first | omega | exact Nat.le_refl _⟩, ⟨by repeat (first | (with_reducible first | exact HB.out | apply below_alloc | apply pw_below_drewN | apply below_drew1) | exact HB.out)⟩⟩
              case rest =>
                clear HC21
                try clear c1
                try clear p1
                try clear q1
                try clear hx1
                try clear c2
                try clear p2
                try clear c4
                try clear p6
                try clear c8
                try clear c8b0
                try clear c9
                try clear c9b0
                try clear c10
                try clear c10b0
                try clear c11
                try clear c11b0
                try clear c12
                try clear c13
                try clear p13
                try clear q13
                try clear hx13
                try clear c18
                try clear c18b0
                try clear c19
                try clear c19b0
                try clear c20
                try clear c20b0
                try clear c20b1
                try clear c22
                try clear c22b0
                try clear c23
                try clear c23b0
                try clear c24
                try clear c24b0
                try clear c25
                try clear c25b0
                try clear hx137_0
                try clear p137
                try clear p2
                try clear q137
                obtain ⟨kq, x86_20, rfl, HA, HJ20, HB⟩ := hcut
                cases kq with
                | zero => exact absurd HA.out (by simp [taquinlaw13_BatteryLasts.j2])
                | succ kj20 =>
                  have H := HA.out
                  clear HA
                  simp only [taquinlaw13_BatteryLasts.j2] at H
                  by_cases c26 : x86_20 = true
                  · subst c26
                    have H1 : (some false) = some r := by rw [if_pos rfl] at H; exact H
                    clear H
                    have H := H1
                    clear H1
                    obtain rfl := Option.some.inj H
                    go_wp2
                    go_ret
                    exact ⟨by first | rfl | (simp [errW_none, errW_some] <;> rfl) | (simp [*, errW_none, errW_some] <;> rfl), by repeat (first | (with_reducible first | exact HB.out | apply below_alloc | apply pw_below_drewN | apply below_drew1) | exact HB.out)⟩
                  · replace c26 := Bool.eq_false_iff.mpr c26
                    subst c26
                    have H1 : (if x13_2 > 0 then (some t132) else (if ((t135 == (l2.length : Int)) != (decide (a1 ≥ t136))) = true then (taquinlaw13_BatteryLasts.j3 kj20 a0 a1 l2 a3 t132 t134 t135 t136 true) else (if 0 ≤ t135 then (if t135 ≤ (l2.length : Int) then ((battery_Sum.f a0 (l2.take (t135 : Int).toNat) a3).bind fun t139 => (taquinlaw13_BatteryLasts.j3 kj20 a0 a1 l2 a3 t132 t134 t135 t136 (t134 != (wrap64 (a1 - t139))))) else (none)) else (none)))) = some r := by rw [if_neg (show ¬ (false = true) by decide)] at H; exact H
                    clear H
                    have H := H1
                    clear H1
                    by_cases c27 : x13_2 > 0
                    · rw [if_pos c27] at H
                      have c27b0 : decide (0 < x13_2) = true := decide_eq_true c27
                      clear c27
                      obtain rfl := Option.some.inj H
                      go_wp2
                      go_ret
                      exact ⟨by first | rfl | (simp [errW_none, errW_some] <;> rfl) | (simp [*, errW_none, errW_some] <;> rfl), by repeat (first | (with_reducible first | exact HB.out | apply below_alloc | apply pw_below_drewN | apply below_drew1) | exact HB.out)⟩
                    · rw [if_neg c27] at H
                      have c27b0 : decide (0 < x13_2) = false := decide_eq_false c27
                      clear c27
                      have HC28 := Aside0.mk H
                      clear H
                      go_upto_region 16 with (fail)
                      go_cut [109] (fun v109 wc => ∃ (kq : Nat) (x109_27 : Bool), v109 = .bool x109_27 ∧ Aside0 (taquinlaw13_BatteryLasts.j3 kq a0 a1 l2 a3 t132 t134 t135 t136 x109_27 = some r) ∧ Aside0 (kq ≤ kj20) ∧ Aside0 (Below w.heap.size w wc))
                      case first =>
                        have H := HC28.out
                        clear HC28
                        by_cases c29 : ((t135 == (l2.length : Int)) != (decide (a1 ≥ t136))) = true
                        · rw [if_pos c29] at H
                          have c29b0 : ((t135 == (l2.length : Int)) != (decide (a1 ≥ t136))) = true := c29
                          (try (have c29b1 : decide ((t135 == (l2.length : Int)) = (decide (a1 ≥ t136))) = false := by simpa using c29))
                          (try (have c29b2 : ((t135 == (l2.length : Int)) == (decide (a1 ≥ t136))) = false := by simpa using c29))
                          (try (have c29b3 : ¬ ((t135 == (l2.length : Int)) = (decide (a1 ≥ t136))) := by simpa using c29))
                          clear c29
                          (first | rw [c29b0] | (simp only [i64_w, i32_w]; rw [c29b0]) | skip)
                          have H' := Aside0.mk H
                          clear H
                          go_wp2
                          go_meet
                          case rel => exact ⟨_, (true), (by first | rfl | (simp; done) | (simp [*]; done)), H', ⟨by have := HJ5.out; have := HK2.out; have := HJ20.out; first | omega | exact Nat.le_refl _⟩, ⟨by repeat (first | (with_reducible first | exact HB.out | apply below_alloc | apply pw_below_drewN | apply below_drew1) | exact HB.out)⟩⟩
                        · rw [if_neg c29] at H
                          have c29b0 : ((t135 == (l2.length : Int)) != (decide (a1 ≥ t136))) = false := by simpa using c29
                          (try (have c29b1 : decide ((t135 == (l2.length : Int)) = (decide (a1 ≥ t136))) = true := by simpa using c29))
                          (try (have c29b2 : ((t135 == (l2.length : Int)) == (decide (a1 ≥ t136))) = true := by simpa using c29))
                          clear c29
                          (first | rw [c29b0] | (simp only [i64_w, i32_w]; rw [c29b0]) | skip)
                          by_cases c30 : 0 ≤ t135
                          · rw [if_pos c30] at H
                            have c30b0 := eq_true c30
                            have c30b1 : decide (0 ≤ t135) = true := decide_eq_true c30
                            clear c30
                            by_cases c31 : t135 ≤ (l2.length : Int)
                            · rw [if_pos c31] at H
                              have c31b0 := eq_true c31
                              have c31b1 : decide (t135 ≤ (l2.length : Int)) = true := decide_eq_true c31
                              clear c31
                              replace H := Option.bind_eq_some_iff.mp H
                              obtain ⟨t139, A320, H⟩ := H
                              replace H : (taquinlaw13_BatteryLasts.j3 kj20 a0 a1 l2 a3 t132 t134 t135 t136 (t134 != (wrap64 (a1 - t139)))) = some r := H
                              have A32 := Aside0.mk A320
                              clear A320
                              have H' := Aside0.mk H
                              clear H
                              obtain ⟨i033, hi033, _, hsz33, _⟩ := info_parts info3
                              obtain ⟨hcut33, hA33, hC33⟩ := print_take_of (P := Try.prog) (Value.int .i64) 0 26 3 .i64 Try.underlying26 hi033 hsz33 A2 c2 l2 t135 (of_decide_eq_true (by first | (with_reducible assumption) | assumption)) (of_decide_eq_true (by first | (with_reducible assumption) | assumption)) HC2.out
                              have HR138 := Aside0.mk (Kd.C_of_reads (h1 := fun _ => rfl) (hA33 _ (Kd.reads_of_C HR2.out)))
                              have HC138 := Aside0.mk hC33
                              clear hA33 hC33 hi033 hsz33
                              have e_ : (l2.take (t135 : Int).toNat).length = (t135 : Int).toNat := by (have h_ : t135 ≤ (l2.length : Int) := of_decide_eq_true (by first | (with_reducible assumption) | assumption)); rw [List.length_take]; omega
                              have C_ := Aside0.mk (fun (W : World) (hs1 : _) (hs2 : _) => battery_Sum.calls a0 A2 c2 (l2.take (t135 : Int).toNat) a3 t139 W hs1 hs2 A32.out)
                              rw [e_] at C_ HR138 HC138
                              clear e_
                              go_wp2_with (first | (go_at_call 13; (with_reducible refine (C_.out _ ?side1 ?side2).mono ?_); (case side1 => repeat (first | exact (Kd.C_below HR138.out HB.out) | (with_reducible refine Kd.C_alloc ?_ _) | (with_reducible refine Kd.C_drewN ?_ _) | (with_reducible refine Kd.C_drew ?_))); (case side2 => exact HC138.out); rintro e w34 ⟨rfl, hb⟩; have n0_ := Aside0.mk (below_step (by repeat (first | (with_reducible first | exact HB.out | apply below_alloc | apply pw_below_drewN | apply below_drew1) | exact HB.out)) hb); clear HB; have HB := n0_; clear n0_; (try clear hb); (try clear hb2); (try clear hk); (try clear hi)))
                              go_meet
                              case rel => exact ⟨_, ((t134 != (wrap64 (a1 - t139)))), (by first | rfl | (simp; done) | (simp [*]; done)), H', ⟨by have := HJ5.out; have := HK2.out; have := HJ20.out; first | omega | exact Nat.le_refl _⟩, ⟨by repeat (first | (with_reducible first | exact HB.out | apply below_alloc | apply pw_below_drewN | apply below_drew1) | exact HB.out)⟩⟩
                            · rw [if_neg c31] at H
                              exact absurd H (by simp)
                          · rw [if_neg c30] at H
                            exact absurd H (by simp)
                      case rest =>
                        clear HC28
                        try clear c1
                        try clear p1
                        try clear q1
                        try clear hx1
                        try clear c2
                        try clear p2
                        try clear c3
                        try clear c4
                        try clear p6
                        try clear c8
                        try clear c8b0
                        try clear c9
                        try clear c9b0
                        try clear c10
                        try clear c10b0
                        try clear c11
                        try clear c11b0
                        try clear c12
                        try clear c13
                        try clear p13
                        try clear q13
                        try clear hx13
                        try clear c18
                        try clear c18b0
                        try clear c19
                        try clear c19b0
                        try clear c20
                        try clear c20b0
                        try clear c20b1
                        try clear c22
                        try clear c22b0
                        try clear c23
                        try clear c23b0
                        try clear c24
                        try clear c24b0
                        try clear c25
                        try clear c25b0
                        try clear c26
                        try clear c27
                        try clear c27b0
                        try clear c29
                        try clear c29b0
                        try clear c29b1
                        try clear c29b2
                        try clear c30
                        try clear c30b0
                        try clear c30b1
                        try clear c31
                        try clear c31b0
                        try clear c31b1
                        try clear hx137_0
                        try clear p1
                        try clear p13
                        try clear p137
                        try clear p2
                        try clear p6
                        try clear q1
                        try clear q13
                        try clear q137
                        obtain ⟨kq, x109_27, rfl, HA, HJ27, HB⟩ := hcut
                        cases kq with
                        | zero => exact absurd HA.out (by simp [taquinlaw13_BatteryLasts.j3])
                        | succ kj27 =>
                          have H := HA.out
                          clear HA
                          simp only [taquinlaw13_BatteryLasts.j3] at H
                          by_cases c35 : x109_27 = true
                          · subst c35
                            have H1 : (some false) = some r := by rw [if_pos rfl] at H; exact H
                            clear H
                            have H := H1
                            clear H1
                            obtain rfl := Option.some.inj H
                            go_wp2
                            go_ret
                            exact ⟨by first | rfl | (simp [errW_none, errW_some] <;> rfl) | (simp [*, errW_none, errW_some] <;> rfl), by repeat (first | (with_reducible first | exact HB.out | apply below_alloc | apply pw_below_drewN | apply below_drew1) | exact HB.out)⟩
                          · replace c35 := Bool.eq_false_iff.mpr c35
                            subst c35
                            have H1 : (if t135 = (l2.length : Int) then (if t132 = true then (some (t134 == (wrap64 (a1 - t136)))) else (some false)) else (taquinlaw13_BatteryLasts.l1 kj27 a0 l2 t132 t134 t135 a3 0)) = some r := by rw [if_neg (show ¬ (false = true) by decide)] at H; exact H
                            clear H
                            have H := H1
                            clear H1
                            by_cases c36 : t135 = (l2.length : Int)
                            · rw [if_pos c36] at H
                              have c36b0 : (t135 == (l2.length : Int)) = true := beq_iff_eq.mpr c36
                              have c36b1 : (t135 != (l2.length : Int)) = false := bne_eq_false_iff_eq.mpr c36
                              clear c36
                              by_cases c37 : t132 = true
                              · subst c37
                                have H1 : (some (t134 == (wrap64 (a1 - t136)))) = some r := by rw [if_pos rfl] at H; exact H
                                clear H
                                have H := H1
                                clear H1
                                obtain rfl := Option.some.inj H
                                go_wp2
                                go_ret
                                exact ⟨by first | rfl | (simp [errW_none, errW_some] <;> rfl) | (simp [*, errW_none, errW_some] <;> rfl), by repeat (first | (with_reducible first | exact HB.out | apply below_alloc | apply pw_below_drewN | apply below_drew1) | exact HB.out)⟩
                              · replace c37 := Bool.eq_false_iff.mpr c37
                                subst c37
                                have H1 : (some false) = some r := by rw [if_neg (show ¬ (false = true) by decide)] at H; exact H
                                clear H
                                have H := H1
                                clear H1
                                obtain rfl := Option.some.inj H
                                go_wp2
                                go_ret
                                exact ⟨by first | rfl | (simp [errW_none, errW_some] <;> rfl) | (simp [*, errW_none, errW_some] <;> rfl), by repeat (first | (with_reducible first | exact HB.out | apply below_alloc | apply pw_below_drewN | apply below_drew1) | exact HB.out)⟩
                            · rw [if_neg c36] at H
                              have c36b0 : (t135 == (l2.length : Int)) = false := beq_eq_false_iff_ne.mpr c36
                              have c36b1 : (t135 != (l2.length : Int)) = true := bne_iff_ne.mpr c36
                              have H' := Aside0.mk H
                              clear H
                              go_wp2
                              go_loopg [15, 16] kj27 (fun kq v15 v16 w' => ∃ (x15_5 : Bool) (x16_5 : Int), v15 = .bool x15_5 ∧ v16 = .int .i64 x16_5 ∧ Aside0 (taquinlaw13_BatteryLasts.l1 kq a0 l2 t132 t134 t135 x15_5 x16_5 = some r) ∧ Aside0 (kq ≤ kj27) ∧ Aside0 (Below w.heap.size w w'))
                              case atStart => exact ⟨(a3), (0), (by first | rfl | (simp; done) | (simp [*]; done)), (by first | rfl | (simp; done) | (simp [*]; done)), H', ⟨Nat.le_refl _⟩, ⟨by repeat (first | (with_reducible first | exact HB.out | apply below_alloc | apply pw_below_drewN | apply below_drew1) | exact HB.out)⟩⟩
                              case round =>
                                clear H'
                                try clear c1
                                try clear p1
                                try clear q1
                                try clear hx1
                                try clear c2
                                try clear p2
                                try clear c3
                                try clear c4
                                try clear p6
                                try clear c8
                                try clear c8b0
                                try clear c9
                                try clear c9b0
                                try clear c10
                                try clear c10b0
                                try clear c11
                                try clear c11b0
                                try clear c12
                                try clear c13
                                try clear p13
                                try clear q13
                                try clear hx13
                                try clear c18
                                try clear c18b0
                                try clear c19
                                try clear c19b0
                                try clear c20
                                try clear c20b0
                                try clear c20b1
                                try clear c22
                                try clear c22b0
                                try clear c23
                                try clear c23b0
                                try clear c24
                                try clear c24b0
                                try clear c25
                                try clear c25b0
                                try clear c26
                                try clear c27
                                try clear c27b0
                                try clear c29
                                try clear c29b0
                                try clear c29b1
                                try clear c29b2
                                try clear c30
                                try clear c30b0
                                try clear c30b1
                                try clear c31
                                try clear c31b0
                                try clear c31b1
                                try clear c35
                                try clear c36
                                try clear c36b0
                                try clear c36b1
                                try clear c37
                                try clear hx137_0
                                try clear p1
                                try clear p13
                                try clear p137
                                try clear p2
                                try clear p6
                                try clear q1
                                try clear q13
                                try clear q137
                                obtain ⟨x15_5, x16_5, rfl, rfl, HA, HK5, HB⟩ := hrel
                                cases gk with
                                | zero => exact absurd HA.out (by simp [taquinlaw13_BatteryLasts.l1])
                                | succ k5 =>
                                  have H := HA.out
                                  clear HA
                                  simp only [taquinlaw13_BatteryLasts.l1] at H
                                  by_cases c38 : x16_5 < t135
                                  · rw [if_pos c38] at H
                                    have c38b0 : decide (x16_5 < t135) = true := decide_eq_true c38
                                    clear c38
                                    by_cases c39 : 0 ≤ x16_5
                                    · rw [if_pos c39] at H
                                      have c39b0 : decide (0 ≤ x16_5) = true := decide_eq_true c39
                                      clear c39
                                      by_cases c40 : x16_5 < (l2.length : Int)
                                      · rw [if_pos c40] at H
                                        have c40b0 : decide (x16_5 < (l2.length : Int)) = true := decide_eq_true c40
                                        clear c40
                                        replace H := Option.bind_eq_some_iff.mp H
                                        obtain ⟨t141, A410, H⟩ := H
                                        replace H : (taquinlaw13_BatteryLasts.l1 k5 a0 l2 t132 t134 t135 t141 (wrap64 (x16_5 + 1))) = some r := H
                                        have A41 := Aside0.mk A410
                                        clear A410
                                        have H' := Aside0.mk H
                                        clear H
                                        have p140 : 0 ≤ (x16_5 : Int) := of_decide_eq_true (by first | (with_reducible assumption) | assumption)
                                        have q140 : x16_5 < (l2.length : Int) := of_decide_eq_true (by first | (with_reducible assumption) | assumption)
                                        obtain ⟨ad140, e140, hx140_0⟩ := Kd.at_int HR2.out x16_5 p140 q140
                                        cases e140
                                        replace hx140_0 := (HB.out.cell (World.block_lt_of_cell? w _ hx140_0)).trans hx140_0
                                        replace p140 := eq_true p140
                                        replace q140 := eq_true q140
                                        go_wp2_with (first | ((with_reducible refine gate_callee (f := 14) rfl ?_); refine goesL_ (some 133) rfl rfl Try.func14 (by kernel_rfl) rfl #[.int .i64 (rd l2 x16_5), .bool x15_5] rfl (by (try simp only [List.map_toArray, List.map_cons, List.map_nil]); first | done | rfl | (simp only [List.length_drop, List.length_take]; rfl)) ?_; (with_reducible refine (battery_Laden.calls (rd l2 x16_5) x15_5 t141 _ A41.out).mono ?_); rintro e w' ⟨rfl, ⟨nd, rfl⟩⟩; refine ⟨_, rfl, ?_⟩))
                                        go_roundg k5
                                        case measure => have := HJ5.out; have := HK2.out; have := HJ20.out; have := HJ27.out; have := HK5.out; omega
                                        case rel => exact ⟨(t141), (wrap64 (x16_5 + 1)), (by first | rfl | (simp; done) | (simp [*]; done)), (by first | rfl | (simp; done) | (simp [*]; done)), H', ⟨by have := HJ5.out; have := HK2.out; have := HJ20.out; have := HJ27.out; have := HK5.out; omega⟩, ⟨by repeat (first | (with_reducible first | exact HB.out | apply below_alloc | apply pw_below_drewN | apply below_drew1) | exact HB.out)⟩⟩
                                      · rw [if_neg c40] at H
                                        exact absurd H (by simp)
                                    · rw [if_neg c39] at H
                                      exact absurd H (by simp)
                                  · rw [if_neg c38] at H
                                    have c38b0 : decide (x16_5 < t135) = false := decide_eq_false c38
                                    clear c38
                                    by_cases c42 : t132 = true
                                    · subst c42
                                      have H1 : (if 0 ≤ t135 then (if t135 < (l2.length : Int) then ((battery_Cost.f (wrap64 (a0 + t135)) (rd l2 t135) x15_5).bind fun t143 => (some (decide (t134 < t143)))) else (none)) else (none)) = some r := by rw [if_pos rfl] at H; exact H
                                      clear H
                                      have H := H1
                                      clear H1
                                      by_cases c43 : 0 ≤ t135
                                      · rw [if_pos c43] at H
                                        have c43b0 : decide (0 ≤ t135) = true := decide_eq_true c43
                                        clear c43
                                        by_cases c44 : t135 < (l2.length : Int)
                                        · rw [if_pos c44] at H
                                          have c44b0 : decide (t135 < (l2.length : Int)) = true := decide_eq_true c44
                                          clear c44
                                          replace H := Option.bind_eq_some_iff.mp H
                                          obtain ⟨t143, A450, H⟩ := H
                                          replace H : (some (decide (t134 < t143))) = some r := H
                                          have A45 := Aside0.mk A450
                                          clear A450
                                          obtain rfl := Option.some.inj H
                                          have p142 : 0 ≤ (t135 : Int) := of_decide_eq_true (by first | (with_reducible assumption) | assumption)
                                          have q142 : t135 < (l2.length : Int) := of_decide_eq_true (by first | (with_reducible assumption) | assumption)
                                          obtain ⟨ad142, e142, hx142_0⟩ := Kd.at_int HR2.out t135 p142 q142
                                          cases e142
                                          replace hx142_0 := (HB.out.cell (World.block_lt_of_cell? w _ hx142_0)).trans hx142_0
                                          replace p142 := eq_true p142
                                          replace q142 := eq_true q142
                                          go_wp2_with (first | (go_at_call 9; (with_reducible refine (battery_Cost.calls (wrap64 (a0 + t135)) (rd l2 t135) x15_5 t143 _ A45.out).mono ?_); rintro e w' ⟨rfl, ⟨nd, rfl⟩⟩))
                                          go_ret
                                          exact ⟨by first | rfl | (simp [errW_none, errW_some] <;> rfl) | (simp [*, errW_none, errW_some] <;> rfl), by repeat (first | (with_reducible first | exact HB.out | apply below_alloc | apply pw_below_drewN | apply below_drew1) | exact HB.out)⟩
                                        · rw [if_neg c44] at H
                                          exact absurd H (by simp)
                                      · rw [if_neg c43] at H
                                        exact absurd H (by simp)
                                    · replace c42 := Bool.eq_false_iff.mpr c42
                                      subst c42
                                      have H1 : (some false) = some r := by rw [if_neg (show ¬ (false = true) by decide)] at H; exact H
                                      clear H
                                      have H := H1
                                      clear H1
                                      obtain rfl := Option.some.inj H
                                      go_wp2
                                      go_ret
                                      exact ⟨by first | rfl | (simp [errW_none, errW_some] <;> rfl) | (simp [*, errW_none, errW_some] <;> rfl), by repeat (first | (with_reducible first | exact HB.out | apply below_alloc | apply pw_below_drewN | apply below_drew1) | exact HB.out)⟩

/-- THE ONE PURE STATEMENT of taquinlaw13_BatteryLasts: yours. -/
def taquinlaw13_BatteryLasts.Pure : Prop := ∀ (a0 : Int) (a1 : Int) (l2 : List Int) (a3 : Bool), (Lit.int .i64 a0).wf = true → (Lit.int .i64 a1).wf = true → l2.length ≤ maxLen → l2.length * 8 ≤ 140737488351232 → (∀ x ∈ l2, (Lit.int .i64 x).wf = true) → ∃ k, taquinlaw13_BatteryLasts.f k a0 a1 l2 a3 = some true
theorem taquinlaw13_BatteryLasts.walk (P : taquinlaw13_BatteryLasts.Pure) (a0 : Int) (a1 : Int) (a2 : Option Addr) (len2 cap2 : Nat) (z2 : List Int) (a3 : Bool) (w : World) (w0 : (Lit.int .i64 a0).wf = true) (w1 : (Lit.int .i64 a1).wf = true) (w2 : (a2 = none ∧ len2 = 0 ∧ cap2 = 0 ∧ z2 = []) ∨ ∃ x, a2 = some x ∧ len2 ≤ cap2 ∧ cap2 ≤ maxLen ∧ z2.length = cap2 ∧ (∀ i, i < z2.length → w.cell? (x.add i) = some (.int .i64 (z2.getD i 0))) ∧ ∀ n ∈ z2, (Lit.int .i64 n).wf = true) (y2 : len2 * 8 ≤ 140737488351232) :
    Calls Try.prog 4 #[.int .i64 a0, .int .i64 a1, .slice a2 len2 cap2, .bool a3] w fun e w' => e = .returned (.bool true) ∧ Below w.heap.size w w' := by
  obtain ⟨l2, rfl, hr2, hm2, hw2, hc2⟩ := ReadsInt.ofRowC w2
  obtain ⟨k, h⟩ := P a0 a1 l2 a3 w0 w1 hm2 y2 hw2
  refine (taquinlaw13_BatteryLasts.calls k a0 a1 _ _ l2 a3 true w (Kd.C_of_reads (d := (0 : Int)) (h1 := fun _ => rfl) hr2) hc2 h).mono ?_
  rintro e w' ⟨rfl, hd⟩
  exact ⟨rfl, hd⟩

end Go.Proofs.Ytkhehmmdlnebnaa.B
