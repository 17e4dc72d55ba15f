/- Written by a program of this session (driver.py, over the kit's printer): Lean functions for functions of the given program, and their contracts; not trusted, Lean checks it. -/
import Derived.Test.YtkhehmmdlnebnaaB0
import Derived.Test.YtkhehmmdlnebnaaB1
namespace Go.Proofs.Ytkhehmmdlnebnaa.B
open Go.Proofs.Ytkhehmmdlnebnaa.H
open Go.RowKit Go.Proofs.YtkhehmmdlnebnaaW.PrintWords Go.Proofs.YtkhehmmdlnebnaaW.PrintLast Go.Proofs.YtkhehmmdlnebnaaW.PrintMore
attribute [local go_sem] max2_int min2_int max_two min_two max_three min_three max_four min_four   -- for this text's walks alone
set_option linter.unusedVariables false
set_option linter.unusedSimpArgs false

/-! ### taquinlaw13_BatteryAges: function 3 -/
mutual
def taquinlaw13_BatteryAges.j0 : Nat → Int → Bool → Bool → Int → Int → Int → Bool → Option (Bool)
  | 0, _, _, _, _, _, _, _ => none
  | k + 1, x2, x3, x9, x10, x11, x12, x51 => if x51 = true then (some false) else (if x2 ≥ 0 then (if x2 < 10 then (taquinlaw13_BatteryAges.j1 k x2 x3 x9 x10 x11 x12 (x2 != 9)) else (taquinlaw13_BatteryAges.j1 k x2 x3 x9 x10 x11 x12 false)) else (taquinlaw13_BatteryAges.j1 k x2 x3 x9 x10 x11 x12 false))
def taquinlaw13_BatteryAges.j1 : Nat → Int → Bool → Bool → Int → Int → Int → Bool → Option (Bool)
  | 0, _, _, _, _, _, _, _ => none
  | k + 1, x2, x3, x9, x10, x11, x12, x13 => if ((decide (x12 > 0)) != x13) = true then (taquinlaw13_BatteryAges.j2 k x2 x3 x9 x10 x11 x12 true) else ((battery_Worst.f k x10).bind fun t124 => ((battery_Worst.f k x11).bind fun t125 => (if t124 > t125 then (taquinlaw13_BatteryAges.j2 k x2 x3 x9 x10 x11 x12 true) else ((battery_Worst.f k x11).bind fun t126 => (taquinlaw13_BatteryAges.j2 k x2 x3 x9 x10 x11 x12 (decide (t126 > 21)))))))
def taquinlaw13_BatteryAges.j2 : Nat → Int → Bool → Bool → Int → Int → Int → Bool → Option (Bool)
  | 0, _, _, _, _, _, _, _ => none
  | k + 1, x2, x3, x9, x10, x11, x12, x77 => if x77 = true then (some false) else (taquinlaw13_BatteryAges.l0 k x2 x3 x9 x10 x11 x12 false 0)
def taquinlaw13_BatteryAges.l0 : Nat → Int → Bool → Bool → Int → Int → Int → Bool → Int → Option (Bool)
  | 0, _, _, _, _, _, _, _, _ => none
  | k + 1, x2, x3, x9, x10, x11, x12, x14, x15 => if x15 < 10 then (if x14 = true then (taquinlaw13_BatteryAges.l0 k x2 x3 x9 x10 x11 x12 true (wrap64 (x15 + 1))) else ((battery_Cost.f x11 x15 true).bind fun t127 => ((battery_Worst.f k x11).bind fun t128 => (taquinlaw13_BatteryAges.l0 k x2 x3 x9 x10 x11 x12 (t127 == t128) (wrap64 (x15 + 1)))))) else (if x10 < 0 then (if x9 = true then (some x14) else (some false)) else (if x10 > 20000 then (if x9 = true then (some x14) else (some false)) else (if x9 = true then (if x14 = true then ((battery_Cost.f (wrap64 (x10 - (Int.tmod x10 1000))) x2 x3).bind fun t129 => (some (t129 == x12))) else (some false)) else (some false))))
end
def taquinlaw13_BatteryAges.f (k : Nat) (a0 : Int) (a1 : Int) (a2 : Int) (a3 : Bool) : Option (Bool) := (taquinlaw13_small.f k).bind fun t118 => ((battery_Cost.f (mn a0 a1) a2 a3).bind fun t119 => ((battery_Cost.f (mx a0 a1) a2 a3).bind fun t120 => (if t119 > t120 then (taquinlaw13_BatteryAges.j0 k a2 a3 t118 (mn a0 a1) (mx a0 a1) t119 true) else ((battery_Cost.f (mn a0 a1) a2 false).bind fun t121 => ((battery_Cost.f (mn a0 a1) a2 true).bind fun t122 => (if t121 > t122 then (taquinlaw13_BatteryAges.j0 k a2 a3 t118 (mn a0 a1) (mx a0 a1) t119 true) else ((battery_Worst.f k (mn a0 a1)).bind fun t123 => (if t119 > t123 then (taquinlaw13_BatteryAges.j0 k a2 a3 t118 (mn a0 a1) (mx a0 a1) t119 true) else (taquinlaw13_BatteryAges.j0 k a2 a3 t118 (mn a0 a1) (mx a0 a1) t119 (decide (t119 < 0)))))))))))
theorem taquinlaw13_BatteryAges.mono_l : ∀ k, (∀ y0 y1 y2 y3 y4 y5 y6, LeO (taquinlaw13_BatteryAges.j0 k y0 y1 y2 y3 y4 y5 y6) (taquinlaw13_BatteryAges.j0 (k + 1) y0 y1 y2 y3 y4 y5 y6)) ∧ (∀ y0 y1 y2 y3 y4 y5 y6, LeO (taquinlaw13_BatteryAges.j1 k y0 y1 y2 y3 y4 y5 y6) (taquinlaw13_BatteryAges.j1 (k + 1) y0 y1 y2 y3 y4 y5 y6)) ∧ (∀ y0 y1 y2 y3 y4 y5 y6, LeO (taquinlaw13_BatteryAges.j2 k y0 y1 y2 y3 y4 y5 y6) (taquinlaw13_BatteryAges.j2 (k + 1) y0 y1 y2 y3 y4 y5 y6)) ∧ (∀ y0 y1 y2 y3 y4 y5 y6 y7, LeO (taquinlaw13_BatteryAges.l0 k y0 y1 y2 y3 y4 y5 y6 y7) (taquinlaw13_BatteryAges.l0 (k + 1) y0 y1 y2 y3 y4 y5 y6 y7))
  | 0 => ⟨fun _ _ _ _ _ _ _ r h => by simp [taquinlaw13_BatteryAges.j0] at h, fun _ _ _ _ _ _ _ r h => by simp [taquinlaw13_BatteryAges.j1] at h, fun _ _ _ _ _ _ _ r h => by simp [taquinlaw13_BatteryAges.j2] at h, fun _ _ _ _ _ _ _ _ r h => by simp [taquinlaw13_BatteryAges.l0] at h⟩
  | k + 1 => by
    obtain ⟨ih0, ih1, ih2, ih3⟩ := taquinlaw13_BatteryAges.mono_l k
    refine ⟨?_, ?_, ?_, ?_⟩
    · intro y0 y1 y2 y3 y4 y5 y6
      unfold taquinlaw13_BatteryAges.j0
      repeat' first
      | (with_reducible exact ih0 _ _ _ _ _ _ _)
      | (with_reducible exact ih1 _ _ _ _ _ _ _)
      | (with_reducible exact ih2 _ _ _ _ _ _ _)
      | (with_reducible exact ih3 _ _ _ _ _ _ _ _)
      | (with_reducible exact battery_Worst.mono _ _)
      | (with_reducible exact taquinlaw13_small.mono _)
      | (with_reducible exact LeO.refl _)
      | (with_reducible exact LeO.none _)
      | (with_reducible refine LeO.ite ?_ ?_)
      | (with_reducible refine LeO.bind ?_ (fun _ => ?_))
      | exact ih0 _ _ _ _ _ _ _
      | exact ih1 _ _ _ _ _ _ _
      | exact ih2 _ _ _ _ _ _ _
      | exact ih3 _ _ _ _ _ _ _ _
      | exact battery_Worst.mono _ _
      | exact taquinlaw13_small.mono _
      | exact LeO.none _
      | refine LeO.ite ?_ ?_
      | refine LeO.bind ?_ (fun _ => ?_)
    · intro y0 y1 y2 y3 y4 y5 y6
      unfold taquinlaw13_BatteryAges.j1
      repeat' first
      | (with_reducible exact ih0 _ _ _ _ _ _ _)
      | (with_reducible exact ih1 _ _ _ _ _ _ _)
      | (with_reducible exact ih2 _ _ _ _ _ _ _)
      | (with_reducible exact ih3 _ _ _ _ _ _ _ _)
      | (with_reducible exact battery_Worst.mono _ _)
      | (with_reducible exact taquinlaw13_small.mono _)
      | (with_reducible exact LeO.refl _)
      | (with_reducible exact LeO.none _)
      | (with_reducible refine LeO.ite ?_ ?_)
      | (with_reducible refine LeO.bind ?_ (fun _ => ?_))
      | exact ih0 _ _ _ _ _ _ _
      | exact ih1 _ _ _ _ _ _ _
      | exact ih2 _ _ _ _ _ _ _
      | exact ih3 _ _ _ _ _ _ _ _
      | exact battery_Worst.mono _ _
      | exact taquinlaw13_small.mono _
      | exact LeO.none _
      | refine LeO.ite ?_ ?_
      | refine LeO.bind ?_ (fun _ => ?_)
    · intro y0 y1 y2 y3 y4 y5 y6
      unfold taquinlaw13_BatteryAges.j2
      repeat' first
      | (with_reducible exact ih0 _ _ _ _ _ _ _)
      | (with_reducible exact ih1 _ _ _ _ _ _ _)
      | (with_reducible exact ih2 _ _ _ _ _ _ _)
      | (with_reducible exact ih3 _ _ _ _ _ _ _ _)
      | (with_reducible exact battery_Worst.mono _ _)
      | (with_reducible exact taquinlaw13_small.mono _)
      | (with_reducible exact LeO.refl _)
      | (with_reducible exact LeO.none _)
      | (with_reducible refine LeO.ite ?_ ?_)
      | (with_reducible refine LeO.bind ?_ (fun _ => ?_))
      | exact ih0 _ _ _ _ _ _ _
      | exact ih1 _ _ _ _ _ _ _
      | exact ih2 _ _ _ _ _ _ _
      | exact ih3 _ _ _ _ _ _ _ _
      | exact battery_Worst.mono _ _
      | exact taquinlaw13_small.mono _
      | exact LeO.none _
      | refine LeO.ite ?_ ?_
      | refine LeO.bind ?_ (fun _ => ?_)
    · intro y0 y1 y2 y3 y4 y5 y6 y7
      unfold taquinlaw13_BatteryAges.l0
      repeat' first
      | (with_reducible exact ih0 _ _ _ _ _ _ _)
      | (with_reducible exact ih1 _ _ _ _ _ _ _)
      | (with_reducible exact ih2 _ _ _ _ _ _ _)
      | (with_reducible exact ih3 _ _ _ _ _ _ _ _)
      | (with_reducible exact battery_Worst.mono _ _)
      | (with_reducible exact taquinlaw13_small.mono _)
      | (with_reducible exact LeO.refl _)
      | (with_reducible exact LeO.none _)
      | (with_reducible refine LeO.ite ?_ ?_)
      | (with_reducible refine LeO.bind ?_ (fun _ => ?_))
      | exact ih0 _ _ _ _ _ _ _
      | exact ih1 _ _ _ _ _ _ _
      | exact ih2 _ _ _ _ _ _ _
      | exact ih3 _ _ _ _ _ _ _ _
      | exact battery_Worst.mono _ _
      | exact taquinlaw13_small.mono _
      | exact LeO.none _
      | refine LeO.ite ?_ ?_
      | refine LeO.bind ?_ (fun _ => ?_)
theorem taquinlaw13_BatteryAges.mono : ∀ a0 a1 a2 a3 k, LeO (taquinlaw13_BatteryAges.f k a0 a1 a2 a3) (taquinlaw13_BatteryAges.f (k + 1) a0 a1 a2 a3) := by
  intro a0 a1 a2 a3 k
  obtain ⟨ih0, ih1, ih2, ih3⟩ := taquinlaw13_BatteryAges.mono_l k
  unfold taquinlaw13_BatteryAges.f
  repeat' first
      | (with_reducible exact ih0 _ _ _ _ _ _ _)
      | (with_reducible exact ih1 _ _ _ _ _ _ _)
      | (with_reducible exact ih2 _ _ _ _ _ _ _)
      | (with_reducible exact ih3 _ _ _ _ _ _ _ _)
      | (with_reducible exact battery_Worst.mono _ _)
      | (with_reducible exact taquinlaw13_small.mono _)
      | (with_reducible exact LeO.refl _)
      | (with_reducible exact LeO.none _)
      | (with_reducible refine LeO.ite ?_ ?_)
      | (with_reducible refine LeO.bind ?_ (fun _ => ?_))
      | exact ih0 _ _ _ _ _ _ _
      | exact ih1 _ _ _ _ _ _ _
      | exact ih2 _ _ _ _ _ _ _
      | exact ih3 _ _ _ _ _ _ _ _
      | exact battery_Worst.mono _ _
      | exact taquinlaw13_small.mono _
      | exact LeO.none _
      | refine LeO.ite ?_ ?_
      | refine LeO.bind ?_ (fun _ => ?_)
set_option maxHeartbeats 8000000 in
set_option maxRecDepth 100000 in
theorem taquinlaw13_BatteryAges.calls (k : Nat) (a0 : Int) (a1 : Int) (a2 : Int) (a3 : Bool) (r : Bool) (w : World) (h : taquinlaw13_BatteryAges.f k a0 a1 a2 a3 = some r) :
    Calls Try.prog 3 #[.int .i64 a0, .int .i64 a1, .int .i64 a2, .bool a3] w fun e w' => e = .returned (.bool r) ∧ Below w.heap.size w w' := by
  have HB := Aside0.mk (Below.refl w.heap.size w)
  have H : ((taquinlaw13_small.f k).bind fun t118 => ((battery_Cost.f (mn a0 a1) a2 a3).bind fun t119 => ((battery_Cost.f (mx a0 a1) a2 a3).bind fun t120 => (if t119 > t120 then (taquinlaw13_BatteryAges.j0 k a2 a3 t118 (mn a0 a1) (mx a0 a1) t119 true) else ((battery_Cost.f (mn a0 a1) a2 false).bind fun t121 => ((battery_Cost.f (mn a0 a1) a2 true).bind fun t122 => (if t121 > t122 then (taquinlaw13_BatteryAges.j0 k a2 a3 t118 (mn a0 a1) (mx a0 a1) t119 true) else ((battery_Worst.f k (mn a0 a1)).bind fun t123 => (if t119 > t123 then (taquinlaw13_BatteryAges.j0 k a2 a3 t118 (mn a0 a1) (mx a0 a1) t119 true) else (taquinlaw13_BatteryAges.j0 k a2 a3 t118 (mn a0 a1) (mx a0 a1) t119 (decide (t119 < 0)))))))))))) = some r := h
  clear h
  replace H := Option.bind_eq_some_iff.mp H
  obtain ⟨t118, A50, H⟩ := H
  replace H : ((battery_Cost.f (mn a0 a1) a2 a3).bind fun t119 => ((battery_Cost.f (mx a0 a1) a2 a3).bind fun t120 => (if t119 > t120 then (taquinlaw13_BatteryAges.j0 k a2 a3 t118 (mn a0 a1) (mx a0 a1) t119 true) else ((battery_Cost.f (mn a0 a1) a2 false).bind fun t121 => ((battery_Cost.f (mn a0 a1) a2 true).bind fun t122 => (if t121 > t122 then (taquinlaw13_BatteryAges.j0 k a2 a3 t118 (mn a0 a1) (mx a0 a1) t119 true) else ((battery_Worst.f k (mn a0 a1)).bind fun t123 => (if t119 > t123 then (taquinlaw13_BatteryAges.j0 k a2 a3 t118 (mn a0 a1) (mx a0 a1) t119 true) else (taquinlaw13_BatteryAges.j0 k a2 a3 t118 (mn a0 a1) (mx a0 a1) t119 (decide (t119 < 0))))))))))) = some r := H
  have A5 := Aside0.mk A50
  clear A50
  obtain ⟨ji6, hji6⟩ : ∃ j_ : Int, (mn a0 a1) = j_ := ⟨_, rfl⟩
  replace H : ((battery_Cost.f (ji6) a2 a3).bind fun t119 => ((battery_Cost.f (mx a0 a1) a2 a3).bind fun t120 => (if t119 > t120 then (taquinlaw13_BatteryAges.j0 k a2 a3 t118 ji6 (mx a0 a1) t119 true) else ((battery_Cost.f (ji6) a2 false).bind fun t121 => ((battery_Cost.f (ji6) a2 true).bind fun t122 => (if t121 > t122 then (taquinlaw13_BatteryAges.j0 k a2 a3 t118 ji6 (mx a0 a1) t119 true) else ((battery_Worst.f k (ji6)).bind fun t123 => (if t119 > t123 then (taquinlaw13_BatteryAges.j0 k a2 a3 t118 ji6 (mx a0 a1) t119 true) else (taquinlaw13_BatteryAges.j0 k a2 a3 t118 ji6 (mx a0 a1) t119 (decide (t119 < 0))))))))))) = some r := by first | (rw [hji6] at H; exact H) | (simp only [hji6] at H ⊢; exact H)
  (try rw [hji6] at A5)
  have hji6_ : (if a1 < a0 then a1 else a0) = ji6 := hji6
  obtain ⟨ji7, hji7⟩ : ∃ j_ : Int, (mx a0 a1) = j_ := ⟨_, rfl⟩
  replace H : ((battery_Cost.f (ji6) a2 a3).bind fun t119 => ((battery_Cost.f (ji7) a2 a3).bind fun t120 => (if t119 > t120 then (taquinlaw13_BatteryAges.j0 k a2 a3 t118 ji6 ji7 t119 true) else ((battery_Cost.f (ji6) a2 false).bind fun t121 => ((battery_Cost.f (ji6) a2 true).bind fun t122 => (if t121 > t122 then (taquinlaw13_BatteryAges.j0 k a2 a3 t118 ji6 ji7 t119 true) else ((battery_Worst.f k (ji6)).bind fun t123 => (if t119 > t123 then (taquinlaw13_BatteryAges.j0 k a2 a3 t118 ji6 ji7 t119 true) else (taquinlaw13_BatteryAges.j0 k a2 a3 t118 ji6 ji7 t119 (decide (t119 < 0))))))))))) = some r := by first | (rw [hji7] at H; exact H) | (simp only [hji7] at H ⊢; exact H)
  (try rw [hji7] at A5)
  have hji7_ : (if a0 < a1 then a1 else a0) = ji7 := hji7
  replace H := Option.bind_eq_some_iff.mp H
  obtain ⟨t119, A80, H⟩ := H
  replace H : ((battery_Cost.f (ji7) a2 a3).bind fun t120 => (if t119 > t120 then (taquinlaw13_BatteryAges.j0 k a2 a3 t118 ji6 ji7 t119 true) else ((battery_Cost.f (ji6) a2 false).bind fun t121 => ((battery_Cost.f (ji6) a2 true).bind fun t122 => (if t121 > t122 then (taquinlaw13_BatteryAges.j0 k a2 a3 t118 ji6 ji7 t119 true) else ((battery_Worst.f k (ji6)).bind fun t123 => (if t119 > t123 then (taquinlaw13_BatteryAges.j0 k a2 a3 t118 ji6 ji7 t119 true) else (taquinlaw13_BatteryAges.j0 k a2 a3 t118 ji6 ji7 t119 (decide (t119 < 0)))))))))) = some r := H
  have A8 := Aside0.mk A80
  clear A80
  have HC9 := Aside0.mk H
  clear H
  go_enter Try.func3, Try.ntmps3
  go_upto_region 5 with (first | ((with_reducible refine gate_callee (f := 8) rfl ?_); refine goesL_ (some 16) rfl rfl Try.func8 (by kernel_rfl) rfl #[] rfl (by (try simp only [List.map_toArray, List.map_cons, List.map_nil]); first | done | rfl | (simp only [List.length_drop, List.length_take]; rfl)) ?_; (with_reducible refine (taquinlaw13_small.calls k  t118 _ A5.out).mono ?_); rintro e w10 ⟨rfl, hb⟩; refine ⟨_, rfl, ?_⟩; have n0_ := Aside0.mk (below_step (by repeat (first | (with_reducible first | exact HB.out | apply below_alloc | apply pw_below_drewN | apply below_drew1) | exact HB.out)) hb); clear HB; have HB := n0_; clear n0_; (try clear hb); (try clear hb2); (try clear hk); (try clear hi)) | ((with_reducible refine gate_callee (f := 9) rfl ?_); refine goesL_ (some 26) rfl rfl Try.func9 (by kernel_rfl) rfl #[.int .i64 ji6, .int .i64 a2, .bool a3] rfl (by (try simp only [List.map_toArray, List.map_cons, List.map_nil]); first | done | (simp only [hji6]; rfl) | rfl | (simp only [List.length_drop, List.length_take]; rfl)) ?_; (with_reducible refine (battery_Cost.calls ji6 a2 a3 t119 _ A8.out).mono ?_); rintro e w' ⟨rfl, ⟨nd, rfl⟩⟩; refine ⟨_, rfl, ?_⟩))
  (try simp only [Act.put, List.setIfInBounds_toArray, List.set_cons_zero, List.set_cons_succ])
  go_cut [51] (fun v51 wc => ∃ (kq : Nat) (x51_8 : Bool), v51 = .bool x51_8 ∧ Aside0 (taquinlaw13_BatteryAges.j0 kq a2 a3 t118 ji6 ji7 t119 x51_8 = some r) ∧ Aside0 (kq ≤ k) ∧ Aside0 (Below w.heap.size w wc))
  case first =>
    have H := HC9.out
    clear HC9
    replace H := Option.bind_eq_some_iff.mp H
    obtain ⟨t120, A110, H⟩ := H
    replace H : (if t119 > t120 then (taquinlaw13_BatteryAges.j0 k a2 a3 t118 ji6 ji7 t119 true) else ((battery_Cost.f (ji6) a2 false).bind fun t121 => ((battery_Cost.f (ji6) a2 true).bind fun t122 => (if t121 > t122 then (taquinlaw13_BatteryAges.j0 k a2 a3 t118 ji6 ji7 t119 true) else ((battery_Worst.f k (ji6)).bind fun t123 => (if t119 > t123 then (taquinlaw13_BatteryAges.j0 k a2 a3 t118 ji6 ji7 t119 true) else (taquinlaw13_BatteryAges.j0 k a2 a3 t118 ji6 ji7 t119 (decide (t119 < 0))))))))) = some r := H
    have A11 := Aside0.mk A110
    clear A110
    by_cases c12 : t119 > t120
    · rw [if_pos c12] at H
      have c12b0 : decide (t120 < t119) = true := decide_eq_true c12
      clear c12
      (first | rw [c12b0] | (simp only [i64_w, i32_w]; rw [c12b0]) | skip)
      have H' := Aside0.mk H
      clear H
      go_wp2_with (first | ((with_reducible refine gate_callee (f := 9) rfl ?_); refine goesL_ (some 31) rfl rfl Try.func9 (by kernel_rfl) rfl #[.int .i64 ji7, .int .i64 a2, .bool a3] rfl (by (try simp only [List.map_toArray, List.map_cons, List.map_nil]); first | done | (simp only [hji7]; rfl) | rfl | (simp only [List.length_drop, List.length_take]; rfl)) ?_; (with_reducible refine (battery_Cost.calls ji7 a2 a3 t120 _ A11.out).mono ?_); rintro e w' ⟨rfl, ⟨nd, rfl⟩⟩; refine ⟨_, rfl, ?_⟩))
      go_meet
      case rel => exact ⟨_, (true), (by first | rfl | (simp; done) | (simp [*]; done)), H', ⟨by first | omega | exact Nat.le_refl _⟩, ⟨by repeat (first | (with_reducible first | exact HB.out | apply below_alloc | apply pw_below_drewN | apply below_drew1) | exact HB.out)⟩⟩
    · rw [if_neg c12] at H
      have c12b0 : decide (t120 < t119) = false := decide_eq_false c12
      clear c12
      (first | rw [c12b0] | (simp only [i64_w, i32_w]; rw [c12b0]) | skip)
      replace H := Option.bind_eq_some_iff.mp H
      obtain ⟨t121, A130, H⟩ := H
      replace H : ((battery_Cost.f (ji6) a2 true).bind fun t122 => (if t121 > t122 then (taquinlaw13_BatteryAges.j0 k a2 a3 t118 ji6 ji7 t119 true) else ((battery_Worst.f k (ji6)).bind fun t123 => (if t119 > t123 then (taquinlaw13_BatteryAges.j0 k a2 a3 t118 ji6 ji7 t119 true) else (taquinlaw13_BatteryAges.j0 k a2 a3 t118 ji6 ji7 t119 (decide (t119 < 0))))))) = some r := H
      have A13 := Aside0.mk A130
      clear A130
      replace H := Option.bind_eq_some_iff.mp H
      obtain ⟨t122, A140, H⟩ := H
      replace H : (if t121 > t122 then (taquinlaw13_BatteryAges.j0 k a2 a3 t118 ji6 ji7 t119 true) else ((battery_Worst.f k (ji6)).bind fun t123 => (if t119 > t123 then (taquinlaw13_BatteryAges.j0 k a2 a3 t118 ji6 ji7 t119 true) else (taquinlaw13_BatteryAges.j0 k a2 a3 t118 ji6 ji7 t119 (decide (t119 < 0)))))) = some r := H
      have A14 := Aside0.mk A140
      clear A140
      by_cases c15 : t121 > t122
      · rw [if_pos c15] at H
        have c15b0 : decide (t122 < t121) = true := decide_eq_true c15
        clear c15
        have H' := Aside0.mk H
        clear H
        go_wp2_with (first | ((with_reducible refine gate_callee (f := 9) rfl ?_); refine goesL_ (some 31) rfl rfl Try.func9 (by kernel_rfl) rfl #[.int .i64 ji7, .int .i64 a2, .bool a3] rfl (by (try simp only [List.map_toArray, List.map_cons, List.map_nil]); first | done | (simp only [hji7]; rfl) | rfl | (simp only [List.length_drop, List.length_take]; rfl)) ?_; (with_reducible refine (battery_Cost.calls ji7 a2 a3 t120 _ A11.out).mono ?_); rintro e w' ⟨rfl, ⟨nd, rfl⟩⟩; refine ⟨_, rfl, ?_⟩) | (go_at_call 9; (with_reducible refine (battery_Cost.calls ji6 a2 false t121 _ A13.out).mono ?_); rintro e w' ⟨rfl, ⟨nd, rfl⟩⟩) | (go_at_call 9; (with_reducible refine (battery_Cost.calls ji6 a2 true t122 _ A14.out).mono ?_); rintro e w' ⟨rfl, ⟨nd, rfl⟩⟩))
        go_meet
        case rel => exact ⟨_, (true), (by first | rfl | (simp; done) | (simp [*]; done)), H', ⟨by first | omega | exact Nat.le_refl _⟩, ⟨by repeat (first | (with_reducible first | exact HB.out | apply below_alloc | apply pw_below_drewN | apply below_drew1) | exact HB.out)⟩⟩
      · rw [if_neg c15] at H
        have c15b0 : decide (t122 < t121) = false := decide_eq_false c15
        clear c15
        replace H := Option.bind_eq_some_iff.mp H
        obtain ⟨t123, A160, H⟩ := H
        replace H : (if t119 > t123 then (taquinlaw13_BatteryAges.j0 k a2 a3 t118 ji6 ji7 t119 true) else (taquinlaw13_BatteryAges.j0 k a2 a3 t118 ji6 ji7 t119 (decide (t119 < 0)))) = some r := H
        have A16 := Aside0.mk A160
        clear A160
        by_cases c17 : t119 > t123
        · rw [if_pos c17] at H
          have c17b0 : decide (t123 < t119) = true := decide_eq_true c17
          clear c17
          have H' := Aside0.mk H
          clear H
          go_wp2_with (first | ((with_reducible refine gate_callee (f := 9) rfl ?_); refine goesL_ (some 31) rfl rfl Try.func9 (by kernel_rfl) rfl #[.int .i64 ji7, .int .i64 a2, .bool a3] rfl (by (try simp only [List.map_toArray, List.map_cons, List.map_nil]); first | done | (simp only [hji7]; rfl) | rfl | (simp only [List.length_drop, List.length_take]; rfl)) ?_; (with_reducible refine (battery_Cost.calls ji7 a2 a3 t120 _ A11.out).mono ?_); rintro e w' ⟨rfl, ⟨nd, rfl⟩⟩; refine ⟨_, rfl, ?_⟩) | (go_at_call 9; (with_reducible refine (battery_Cost.calls ji6 a2 false t121 _ A13.out).mono ?_); rintro e w' ⟨rfl, ⟨nd, rfl⟩⟩) | (go_at_call 9; (with_reducible refine (battery_Cost.calls ji6 a2 true t122 _ A14.out).mono ?_); rintro e w' ⟨rfl, ⟨nd, rfl⟩⟩) | (go_at_call 10; (with_reducible refine (battery_Worst.calls k ji6 t123 _ A16.out).mono ?_); rintro e w18 ⟨rfl, hb⟩; have n0_ := Aside0.mk (below_step (by repeat (first | (with_reducible first | exact HB.out | apply below_alloc | apply pw_below_drewN | apply below_drew1) | exact HB.out)) hb); clear HB; have HB := n0_; clear n0_; (try clear hb); (try clear hb2); (try clear hk); (try clear hi)))
          go_meet
          case rel => exact ⟨_, (true), (by first | rfl | (simp; done) | (simp [*]; done)), H', ⟨by first | omega | exact Nat.le_refl _⟩, ⟨by repeat (first | (with_reducible first | exact HB.out | apply below_alloc | apply pw_below_drewN | apply below_drew1) | exact HB.out)⟩⟩
        · rw [if_neg c17] at H
          have c17b0 : decide (t123 < t119) = false := decide_eq_false c17
          clear c17
          have H' := Aside0.mk H
          clear H
          go_wp2_with (first | ((with_reducible refine gate_callee (f := 9) rfl ?_); refine goesL_ (some 31) rfl rfl Try.func9 (by kernel_rfl) rfl #[.int .i64 ji7, .int .i64 a2, .bool a3] rfl (by (try simp only [List.map_toArray, List.map_cons, List.map_nil]); first | done | (simp only [hji7]; rfl) | rfl | (simp only [List.length_drop, List.length_take]; rfl)) ?_; (with_reducible refine (battery_Cost.calls ji7 a2 a3 t120 _ A11.out).mono ?_); rintro e w' ⟨rfl, ⟨nd, rfl⟩⟩; refine ⟨_, rfl, ?_⟩) | (go_at_call 9; (with_reducible refine (battery_Cost.calls ji6 a2 false t121 _ A13.out).mono ?_); rintro e w' ⟨rfl, ⟨nd, rfl⟩⟩) | (go_at_call 9; (with_reducible refine (battery_Cost.calls ji6 a2 true t122 _ A14.out).mono ?_); rintro e w' ⟨rfl, ⟨nd, rfl⟩⟩) | (go_at_call 10; (with_reducible refine (battery_Worst.calls k ji6 t123 _ A16.out).mono ?_); rintro e w19 ⟨rfl, hb⟩; have n0_ := Aside0.mk (below_step (by repeat (first | (with_reducible first | exact HB.out | apply below_alloc | apply pw_below_drewN | apply below_drew1) | exact HB.out)) hb); clear HB; have HB := n0_; clear n0_; (try clear hb); (try clear hb2); (try clear hk); (try clear hi)))
          go_meet
          case rel => exact ⟨_, (decide (t119 < 0)), (by first | rfl | (simp; done) | (simp [*]; done)), H', ⟨by first | omega | exact Nat.le_refl _⟩, ⟨by repeat (first | (with_reducible first | exact HB.out | apply below_alloc | apply pw_below_drewN | apply below_drew1) | exact HB.out)⟩⟩
  case rest =>
    clear HC9
    try clear c1
    try clear p2
    try clear c3
    try clear c8
    try clear c9
    try clear c12
    try clear c12b0
    try clear c15
    try clear c15b0
    try clear c17
    try clear c17b0
    obtain ⟨kq, x51_8, rfl, HA, HJ8, HB⟩ := hcut
    cases kq with
    | zero => exact absurd HA.out (by simp [taquinlaw13_BatteryAges.j0])
    | succ kj8 =>
      have H := HA.out
      clear HA
      simp only [taquinlaw13_BatteryAges.j0] at H
      by_cases c20 : x51_8 = true
      · subst c20
        have H1 : (some false) = some r := by rw [if_pos rfl] at H; exact H
        clear H
        have H := H1
        clear H1
        obtain rfl := Option.some.inj H
        go_wp2
        go_ret
        exact ⟨by first | rfl | (simp [errW_none, errW_some] <;> rfl) | (simp only [← hji6, ← hji7]; first | rfl | (simp [errW_none, errW_some] <;> rfl)) | (simp [*, errW_none, errW_some] <;> rfl), by repeat (first | (with_reducible first | exact HB.out | apply below_alloc | apply pw_below_drewN | apply below_drew1) | exact HB.out)⟩
      · replace c20 := Bool.eq_false_iff.mpr c20
        subst c20
        have H1 : (if a2 ≥ 0 then (if a2 < 10 then (taquinlaw13_BatteryAges.j1 kj8 a2 a3 t118 ji6 ji7 t119 (a2 != 9)) else (taquinlaw13_BatteryAges.j1 kj8 a2 a3 t118 ji6 ji7 t119 false)) else (taquinlaw13_BatteryAges.j1 kj8 a2 a3 t118 ji6 ji7 t119 false)) = some r := by rw [if_neg (show ¬ (false = true) by decide)] at H; exact H
        clear H
        have H := H1
        clear H1
        have HC21 := Aside0.mk H
        clear H
        go_upto_region 7 with (fail)
        go_cut [13] (fun v13 wc => ∃ (kq : Nat) (x13_20 : Bool), v13 = .bool x13_20 ∧ Aside0 (taquinlaw13_BatteryAges.j1 kq a2 a3 t118 ji6 ji7 t119 x13_20 = some r) ∧ Aside0 (kq ≤ kj8) ∧ Aside0 (Below w.heap.size w wc))
        case first =>
          have H := HC21.out
          clear HC21
          by_cases c22 : a2 ≥ 0
          · rw [if_pos c22] at H
            have c22b0 : decide (0 ≤ a2) = true := decide_eq_true c22
            clear c22
            (first | rw [c22b0] | (simp only [i64_w, i32_w]; rw [c22b0]) | skip)
            by_cases c23 : a2 < 10
            · rw [if_pos c23] at H
              have c23b0 : decide (a2 < 10) = true := decide_eq_true c23
              clear c23
              have H' := Aside0.mk H
              clear H
              go_wp2
              go_meet
              case rel => exact ⟨_, ((a2 != 9)), (by first | rfl | (simp; done) | (simp [*]; done)), H', ⟨by have := HJ8.out; first | omega | exact Nat.le_refl _⟩, ⟨by repeat (first | (with_reducible first | exact HB.out | apply below_alloc | apply pw_below_drewN | apply below_drew1) | exact HB.out)⟩⟩
            · rw [if_neg c23] at H
              have c23b0 : decide (a2 < 10) = false := decide_eq_false c23
              clear c23
              have H' := Aside0.mk H
              clear H
              go_wp2
              go_meet
              case rel => exact ⟨_, (false), (by first | rfl | (simp; done) | (simp [*]; done)), H', ⟨by have := HJ8.out; first | omega | exact Nat.le_refl _⟩, ⟨by repeat (first | (with_reducible first | exact HB.out | apply below_alloc | apply pw_below_drewN | apply below_drew1) | exact HB.out)⟩⟩
          · rw [if_neg c22] at H
            have c22b0 : decide (0 ≤ a2) = false := decide_eq_false c22
            clear c22
            (first | rw [c22b0] | (simp only [i64_w, i32_w]; rw [c22b0]) | skip)
            have H' := Aside0.mk H
            clear H
            go_wp2
            go_meet
            case rel => exact ⟨_, (false), (by first | rfl | (simp; done) | (simp [*]; done)), H', ⟨by have := HJ8.out; first | omega | exact Nat.le_refl _⟩, ⟨by repeat (first | (with_reducible first | exact HB.out | apply below_alloc | apply pw_below_drewN | apply below_drew1) | exact HB.out)⟩⟩
        case rest =>
          clear HC21
          try clear c1
          try clear c2
          try clear p2
          try clear c3
          try clear c8
          try clear c9
          try clear c12
          try clear c12b0
          try clear c15
          try clear c15b0
          try clear c17
          try clear c17b0
          try clear c20
          try clear c22
          try clear c22b0
          try clear c23
          try clear c23b0
          try clear p2
          obtain ⟨kq, x13_20, rfl, HA, HJ20, HB⟩ := hcut
          cases kq with
          | zero => exact absurd HA.out (by simp [taquinlaw13_BatteryAges.j1])
          | succ kj20 =>
            have H := HA.out
            clear HA
            simp only [taquinlaw13_BatteryAges.j1] at H
            have HC24 := Aside0.mk H
            clear H
            go_upto_region 8 with (fail)
            go_cut [77] (fun v77 wc => ∃ (kq : Nat) (x77_23 : Bool), v77 = .bool x77_23 ∧ Aside0 (taquinlaw13_BatteryAges.j2 kq a2 a3 t118 ji6 ji7 t119 x77_23 = some r) ∧ Aside0 (kq ≤ kj20) ∧ Aside0 (Below w.heap.size w wc))
            case first =>
              have H := HC24.out
              clear HC24
              by_cases c25 : ((decide (t119 > 0)) != x13_20) = true
              · rw [if_pos c25] at H
                have c25b0 : ((decide (t119 > 0)) != x13_20) = true := c25
                (try (have c25b1 : decide ((decide (t119 > 0)) = x13_20) = false := by simpa using c25))
                (try (have c25b2 : ((decide (t119 > 0)) == x13_20) = false := by simpa using c25))
                (try (have c25b3 : ¬ ((decide (t119 > 0)) = x13_20) := by simpa using c25))
                clear c25
                (first | rw [c25b0] | (simp only [i64_w, i32_w]; rw [c25b0]) | skip)
                have H' := Aside0.mk H
                clear H
                go_wp2
                go_meet
                case rel => exact ⟨_, (true), (by first | rfl | (simp; done) | (simp [*]; done)), H', ⟨by have := HJ8.out; have := HJ20.out; first | omega | exact Nat.le_refl _⟩, ⟨by repeat (first | (with_reducible first | exact HB.out | apply below_alloc | apply pw_below_drewN | apply below_drew1) | exact HB.out)⟩⟩
              · rw [if_neg c25] at H
                have c25b0 : ((decide (t119 > 0)) != x13_20) = false := by simpa using c25
                (try (have c25b1 : decide ((decide (t119 > 0)) = x13_20) = true := by simpa using c25))
                (try (have c25b2 : ((decide (t119 > 0)) == x13_20) = true := by simpa using c25))
                clear c25
                (first | rw [c25b0] | (simp only [i64_w, i32_w]; rw [c25b0]) | skip)
                replace H := Option.bind_eq_some_iff.mp H
                obtain ⟨t124, A260, H⟩ := H
                replace H : ((battery_Worst.f kj20 ji7).bind fun t125 => (if t124 > t125 then (taquinlaw13_BatteryAges.j2 kj20 a2 a3 t118 ji6 ji7 t119 true) else ((battery_Worst.f kj20 ji7).bind fun t126 => (taquinlaw13_BatteryAges.j2 kj20 a2 a3 t118 ji6 ji7 t119 (decide (t126 > 21)))))) = some r := H
                have A26 := Aside0.mk A260
                clear A260
                replace H := Option.bind_eq_some_iff.mp H
                obtain ⟨t125, A270, H⟩ := H
                replace H : (if t124 > t125 then (taquinlaw13_BatteryAges.j2 kj20 a2 a3 t118 ji6 ji7 t119 true) else ((battery_Worst.f kj20 ji7).bind fun t126 => (taquinlaw13_BatteryAges.j2 kj20 a2 a3 t118 ji6 ji7 t119 (decide (t126 > 21))))) = some r := H
                have A27 := Aside0.mk A270
                clear A270
                by_cases c28 : t124 > t125
                · rw [if_pos c28] at H
                  have c28b0 : decide (t125 < t124) = true := decide_eq_true c28
                  clear c28
                  have H' := Aside0.mk H
                  clear H
                  go_wp2_with (first | (go_at_call 10; (with_reducible refine (battery_Worst.calls kj20 ji6 t124 _ A26.out).mono ?_); rintro e w29 ⟨rfl, hb⟩; have n0_ := Aside0.mk (below_step (by repeat (first | (with_reducible first | exact HB.out | apply below_alloc | apply pw_below_drewN | apply below_drew1) | exact HB.out)) hb); clear HB; have HB := n0_; clear n0_; (try clear hb); (try clear hb2); (try clear hk); (try clear hi)) | (go_at_call 10; (with_reducible refine (battery_Worst.calls kj20 ji7 t125 _ A27.out).mono ?_); rintro e w30 ⟨rfl, hb⟩; have n0_ := Aside0.mk (below_step (by repeat (first | (with_reducible first | exact HB.out | apply below_alloc | apply pw_below_drewN | apply below_drew1) | exact HB.out)) hb); clear HB; have HB := n0_; clear n0_; (try clear hb); (try clear hb2); (try clear hk); (try clear hi)))
                  go_meet
                  case rel => exact ⟨_, (true), (by first | rfl | (simp; done) | (simp [*]; done)), H', ⟨by have := HJ8.out; have := HJ20.out; first | omega | exact Nat.le_refl _⟩, ⟨by repeat (first | (with_reducible first | exact HB.out | apply below_alloc | apply pw_below_drewN | apply below_drew1) | exact HB.out)⟩⟩
                · rw [if_neg c28] at H
                  have c28b0 : decide (t125 < t124) = false := decide_eq_false c28
                  clear c28
                  replace H := Option.bind_eq_some_iff.mp H
                  obtain ⟨t126, A310, H⟩ := H
                  have E_A31 : t125 = t126 := Option.some.inj (A27.out.symm.trans A310)
                  subst E_A31
                  replace H : (taquinlaw13_BatteryAges.j2 kj20 a2 a3 t118 ji6 ji7 t119 (decide (t125 > 21))) = some r := H
                  have A31 := Aside0.mk A310
                  clear A310
                  have H' := Aside0.mk H
                  clear H
                  go_wp2_with (first | (go_at_call 10; (with_reducible refine (battery_Worst.calls kj20 ji6 t124 _ A26.out).mono ?_); rintro e w32 ⟨rfl, hb⟩; have n0_ := Aside0.mk (below_step (by repeat (first | (with_reducible first | exact HB.out | apply below_alloc | apply pw_below_drewN | apply below_drew1) | exact HB.out)) hb); clear HB; have HB := n0_; clear n0_; (try clear hb); (try clear hb2); (try clear hk); (try clear hi)) | (go_at_call 10; (with_reducible refine (battery_Worst.calls kj20 ji7 t125 _ A27.out).mono ?_); rintro e w33 ⟨rfl, hb⟩; have n0_ := Aside0.mk (below_step (by repeat (first | (with_reducible first | exact HB.out | apply below_alloc | apply pw_below_drewN | apply below_drew1) | exact HB.out)) hb); clear HB; have HB := n0_; clear n0_; (try clear hb); (try clear hb2); (try clear hk); (try clear hi)) | (go_at_call 10; (with_reducible refine (battery_Worst.calls kj20 ji7 t125 _ A31.out).mono ?_); rintro e w34 ⟨rfl, hb⟩; have n0_ := Aside0.mk (below_step (by repeat (first | (with_reducible first | exact HB.out | apply below_alloc | apply pw_below_drewN | apply below_drew1) | exact HB.out)) hb); clear HB; have HB := n0_; clear n0_; (try clear hb); (try clear hb2); (try clear hk); (try clear hi)))
                  go_meet
                  case rel => exact ⟨_, (decide (t125 > 21)), (by first | rfl | (simp; done) | (simp [*]; done)), H', ⟨by have := HJ8.out; have := HJ20.out; first | omega | exact Nat.le_refl _⟩, ⟨by repeat (first | (with_reducible first | exact HB.out | apply below_alloc | apply pw_below_drewN | apply below_drew1) | exact HB.out)⟩⟩
            case rest =>
              clear HC24
              try clear c1
              try clear c2
              try clear p2
              try clear c3
              try clear c8
              try clear c9
              try clear c12
              try clear c12b0
              try clear c15
              try clear c15b0
              try clear c17
              try clear c17b0
              try clear c20
              try clear c22
              try clear c22b0
              try clear c23
              try clear c23b0
              try clear c25
              try clear c25b0
              try clear c25b1
              try clear c25b2
              try clear c28
              try clear c28b0
              try clear p2
              obtain ⟨kq, x77_23, rfl, HA, HJ23, HB⟩ := hcut
              cases kq with
              | zero => exact absurd HA.out (by simp [taquinlaw13_BatteryAges.j2])
              | succ kj23 =>
                have H := HA.out
                clear HA
                simp only [taquinlaw13_BatteryAges.j2] at H
                by_cases c35 : x77_23 = true
                · subst c35
                  have H1 : (some false) = some r := by rw [if_pos rfl] at H; exact H
                  clear H
                  have H := H1
                  clear H1
                  obtain rfl := Option.some.inj H
                  go_wp2
                  go_ret
                  exact ⟨by first | rfl | (simp [errW_none, errW_some] <;> rfl) | (simp only [← hji6, ← hji7]; first | rfl | (simp [errW_none, errW_some] <;> rfl)) | (simp [*, errW_none, errW_some] <;> rfl), by repeat (first | (with_reducible first | exact HB.out | apply below_alloc | apply pw_below_drewN | apply below_drew1) | exact HB.out)⟩
                · replace c35 := Bool.eq_false_iff.mpr c35
                  subst c35
                  have H1 : (taquinlaw13_BatteryAges.l0 kj23 a2 a3 t118 ji6 ji7 t119 false 0) = some r := by rw [if_neg (show ¬ (false = true) by decide)] at H; exact H
                  clear H
                  have H := H1
                  clear H1
                  have H' := Aside0.mk H
                  clear H
                  go_wp2
                  go_loopg [14, 15] kj23 (fun kq v14 v15 w' => ∃ (x14_4 : Bool) (x15_4 : Int), v14 = .bool x14_4 ∧ v15 = .int .i64 x15_4 ∧ Aside0 (taquinlaw13_BatteryAges.l0 kq a2 a3 t118 ji6 ji7 t119 x14_4 x15_4 = some r) ∧ Aside0 (kq ≤ kj23) ∧ Aside0 (Below w.heap.size w w'))
                  case atStart => exact ⟨(false), (0), (by first | rfl | (simp; done) | (simp [*]; done)), (by first | rfl | (simp; done) | (simp [*]; done)), H', ⟨Nat.le_refl _⟩, ⟨by repeat (first | (with_reducible first | exact HB.out | apply below_alloc | apply pw_below_drewN | apply below_drew1) | exact HB.out)⟩⟩
                  case round =>
                    clear H'
                    try clear c1
                    try clear c2
                    try clear p2
                    try clear c3
                    try clear c8
                    try clear c9
                    try clear c12
                    try clear c12b0
                    try clear c15
                    try clear c15b0
                    try clear c17
                    try clear c17b0
                    try clear c20
                    try clear c22
                    try clear c22b0
                    try clear c23
                    try clear c23b0
                    try clear c25
                    try clear c25b0
                    try clear c25b1
                    try clear c25b2
                    try clear c28
                    try clear c28b0
                    try clear c35
                    try clear p2
                    obtain ⟨x14_4, x15_4, rfl, rfl, HA, HK4, HB⟩ := hrel
                    cases gk with
                    | zero => exact absurd HA.out (by simp [taquinlaw13_BatteryAges.l0])
                    | succ k4 =>
                      have H := HA.out
                      clear HA
                      simp only [taquinlaw13_BatteryAges.l0] at H
                      by_cases c36 : x15_4 < 10
                      · rw [if_pos c36] at H
                        have c36b0 : decide (x15_4 < 10) = true := decide_eq_true c36
                        clear c36
                        by_cases c37 : x14_4 = true
                        · subst c37
                          have H1 : (taquinlaw13_BatteryAges.l0 k4 a2 a3 t118 ji6 ji7 t119 true (wrap64 (x15_4 + 1))) = some r := by rw [if_pos rfl] at H; exact H
                          clear H
                          have H := H1
                          clear H1
                          have H' := Aside0.mk H
                          clear H
                          go_wp2
                          go_roundg k4
                          case measure => have := HJ8.out; have := HJ20.out; have := HJ23.out; have := HK4.out; omega
                          case rel => exact ⟨(true), (wrap64 (x15_4 + 1)), (by first | rfl | (simp; done) | (simp [*]; done)), (by first | rfl | (simp; done) | (simp [*]; done)), H', ⟨by have := HJ8.out; have := HJ20.out; have := HJ23.out; have := HK4.out; omega⟩, ⟨by repeat (first | (with_reducible first | exact HB.out | apply below_alloc | apply pw_below_drewN | apply below_drew1) | exact HB.out)⟩⟩
                        · replace c37 := Bool.eq_false_iff.mpr c37
                          subst c37
                          have H1 : ((battery_Cost.f ji7 x15_4 true).bind fun t127 => ((battery_Worst.f k4 ji7).bind fun t128 => (taquinlaw13_BatteryAges.l0 k4 a2 a3 t118 ji6 ji7 t119 (t127 == t128) (wrap64 (x15_4 + 1))))) = some r := by rw [if_neg (show ¬ (false = true) by decide)] at H; exact H
                          clear H
                          have H := H1
                          clear H1
                          replace H := Option.bind_eq_some_iff.mp H
                          obtain ⟨t127, A380, H⟩ := H
                          replace H : ((battery_Worst.f k4 ji7).bind fun t128 => (taquinlaw13_BatteryAges.l0 k4 a2 a3 t118 ji6 ji7 t119 (t127 == t128) (wrap64 (x15_4 + 1)))) = some r := H
                          have A38 := Aside0.mk A380
                          clear A380
                          replace H := Option.bind_eq_some_iff.mp H
                          obtain ⟨t128, A390, H⟩ := H
                          replace H : (taquinlaw13_BatteryAges.l0 k4 a2 a3 t118 ji6 ji7 t119 (t127 == t128) (wrap64 (x15_4 + 1))) = some r := H
                          have A39 := Aside0.mk A390
                          clear A390
                          have H' := Aside0.mk H
                          clear H
                          go_wp2_with (first | (go_at_call 9; (with_reducible refine (battery_Cost.calls ji7 x15_4 true t127 _ A38.out).mono ?_); rintro e w' ⟨rfl, ⟨nd, rfl⟩⟩) | (go_at_call 10; (with_reducible refine (battery_Worst.calls k4 ji7 t128 _ A39.out).mono ?_); rintro e w40 ⟨rfl, hb⟩; have n0_ := Aside0.mk (below_step (by repeat (first | (with_reducible first | exact HB.out | apply below_alloc | apply pw_below_drewN | apply below_drew1) | exact HB.out)) hb); clear HB; have HB := n0_; clear n0_; (try clear hb); (try clear hb2); (try clear hk); (try clear hi)))
                          go_roundg k4
                          case measure => have := HJ8.out; have := HJ20.out; have := HJ23.out; have := HK4.out; omega
                          case rel => exact ⟨((t127 == t128)), (wrap64 (x15_4 + 1)), (by first | rfl | (simp; done) | (simp [*]; done)), (by first | rfl | (simp; done) | (simp [*]; done)), H', ⟨by have := HJ8.out; have := HJ20.out; have := HJ23.out; have := HK4.out; omega⟩, ⟨by repeat (first | (with_reducible first | exact HB.out | apply below_alloc | apply pw_below_drewN | apply below_drew1) | exact HB.out)⟩⟩
                      · rw [if_neg c36] at H
                        have c36b0 : decide (x15_4 < 10) = false := decide_eq_false c36
                        clear c36
                        by_cases c41 : ji6 < 0
                        · rw [if_pos c41] at H
                          have c41b0 : decide (ji6 < 0) = true := decide_eq_true c41
                          clear c41
                          by_cases c42 : t118 = true
                          · subst c42
                            have H1 : (some x14_4) = some r := by rw [if_pos rfl] at H; exact H
                            clear H
                            have H := H1
                            clear H1
                            obtain rfl := Option.some.inj H
                            go_wp2
                            go_ret
                            exact ⟨by first | rfl | (simp [errW_none, errW_some] <;> rfl) | (simp only [← hji6, ← hji7]; first | rfl | (simp [errW_none, errW_some] <;> rfl)) | (simp [*, errW_none, errW_some] <;> rfl), by repeat (first | (with_reducible first | exact HB.out | apply below_alloc | apply pw_below_drewN | apply below_drew1) | exact HB.out)⟩
                          · replace c42 := Bool.eq_false_iff.mpr c42
                            subst c42
                            have H1 : (some false) = some r := by rw [if_neg (show ¬ (false = true) by decide)] at H; exact H
                            clear H
                            have H := H1
                            clear H1
                            obtain rfl := Option.some.inj H
                            go_wp2
                            go_ret
                            exact ⟨by first | rfl | (simp [errW_none, errW_some] <;> rfl) | (simp only [← hji6, ← hji7]; first | rfl | (simp [errW_none, errW_some] <;> rfl)) | (simp [*, errW_none, errW_some] <;> rfl), by repeat (first | (with_reducible first | exact HB.out | apply below_alloc | apply pw_below_drewN | apply below_drew1) | exact HB.out)⟩
                        · rw [if_neg c41] at H
                          have c41b0 : decide (ji6 < 0) = false := decide_eq_false c41
                          clear c41
                          by_cases c43 : ji6 > 20000
                          · rw [if_pos c43] at H
                            have c43b0 : decide (20000 < ji6) = true := decide_eq_true c43
                            clear c43
                            by_cases c44 : t118 = true
                            · subst c44
                              have H1 : (some x14_4) = some r := by rw [if_pos rfl] at H; exact H
                              clear H
                              have H := H1
                              clear H1
                              obtain rfl := Option.some.inj H
                              go_wp2
                              go_ret
                              exact ⟨by first | rfl | (simp [errW_none, errW_some] <;> rfl) | (simp only [← hji6, ← hji7]; first | rfl | (simp [errW_none, errW_some] <;> rfl)) | (simp [*, errW_none, errW_some] <;> rfl), by repeat (first | (with_reducible first | exact HB.out | apply below_alloc | apply pw_below_drewN | apply below_drew1) | exact HB.out)⟩
                            · replace c44 := Bool.eq_false_iff.mpr c44
                              subst c44
                              have H1 : (some false) = some r := by rw [if_neg (show ¬ (false = true) by decide)] at H; exact H
                              clear H
                              have H := H1
                              clear H1
                              obtain rfl := Option.some.inj H
                              go_wp2
                              go_ret
                              exact ⟨by first | rfl | (simp [errW_none, errW_some] <;> rfl) | (simp only [← hji6, ← hji7]; first | rfl | (simp [errW_none, errW_some] <;> rfl)) | (simp [*, errW_none, errW_some] <;> rfl), by repeat (first | (with_reducible first | exact HB.out | apply below_alloc | apply pw_below_drewN | apply below_drew1) | exact HB.out)⟩
                          · rw [if_neg c43] at H
                            have c43b0 : decide (20000 < ji6) = false := decide_eq_false c43
                            clear c43
                            by_cases c45 : t118 = true
                            · subst c45
                              have H1 : (if x14_4 = true then ((battery_Cost.f (wrap64 (ji6 - (Int.tmod ji6 1000))) a2 a3).bind fun t129 => (some (t129 == t119))) else (some false)) = some r := by rw [if_pos rfl] at H; exact H
                              clear H
                              have H := H1
                              clear H1
                              by_cases c46 : x14_4 = true
                              · subst c46
                                have H1 : ((battery_Cost.f (wrap64 (ji6 - (Int.tmod ji6 1000))) a2 a3).bind fun t129 => (some (t129 == t119))) = some r := by rw [if_pos rfl] at H; exact H
                                clear H
                                have H := H1
                                clear H1
                                replace H := Option.bind_eq_some_iff.mp H
                                obtain ⟨t129, A470, H⟩ := H
                                replace H : (some (t129 == t119)) = some r := H
                                have A47 := Aside0.mk A470
                                clear A470
                                obtain rfl := Option.some.inj H
                                go_wp2_with (first | (go_at_call 9; (with_reducible refine (battery_Cost.calls (wrap64 (ji6 - (Int.tmod ji6 1000))) a2 a3 t129 _ A47.out).mono ?_); rintro e w' ⟨rfl, ⟨nd, rfl⟩⟩))
                                go_ret
                                exact ⟨by first | rfl | (simp [errW_none, errW_some] <;> rfl) | (simp only [← hji6, ← hji7]; first | rfl | (simp [errW_none, errW_some] <;> rfl)) | (simp [*, errW_none, errW_some] <;> rfl), by repeat (first | (with_reducible first | exact HB.out | apply below_alloc | apply pw_below_drewN | apply below_drew1) | exact HB.out)⟩
                              · replace c46 := Bool.eq_false_iff.mpr c46
                                subst c46
                                have H1 : (some false) = some r := by rw [if_neg (show ¬ (false = true) by decide)] at H; exact H
                                clear H
                                have H := H1
                                clear H1
                                obtain rfl := Option.some.inj H
                                go_wp2
                                go_ret
                                exact ⟨by first | rfl | (simp [errW_none, errW_some] <;> rfl) | (simp only [← hji6, ← hji7]; first | rfl | (simp [errW_none, errW_some] <;> rfl)) | (simp [*, errW_none, errW_some] <;> rfl), by repeat (first | (with_reducible first | exact HB.out | apply below_alloc | apply pw_below_drewN | apply below_drew1) | exact HB.out)⟩
                            · replace c45 := Bool.eq_false_iff.mpr c45
                              subst c45
                              have H1 : (some false) = some r := by rw [if_neg (show ¬ (false = true) by decide)] at H; exact H
                              clear H
                              have H := H1
                              clear H1
                              obtain rfl := Option.some.inj H
                              go_wp2
                              go_ret
                              exact ⟨by first | rfl | (simp [errW_none, errW_some] <;> rfl) | (simp only [← hji6, ← hji7]; first | rfl | (simp [errW_none, errW_some] <;> rfl)) | (simp [*, errW_none, errW_some] <;> rfl), by repeat (first | (with_reducible first | exact HB.out | apply below_alloc | apply pw_below_drewN | apply below_drew1) | exact HB.out)⟩

/-- THE ONE PURE STATEMENT of taquinlaw13_BatteryAges: yours. -/
def taquinlaw13_BatteryAges.Pure : Prop := ∀ (a0 : Int) (a1 : Int) (a2 : Int) (a3 : Bool), (Lit.int .i64 a0).wf = true → (Lit.int .i64 a1).wf = true → (Lit.int .i64 a2).wf = true → ∃ k, taquinlaw13_BatteryAges.f k a0 a1 a2 a3 = some true
theorem taquinlaw13_BatteryAges.walk (P : taquinlaw13_BatteryAges.Pure) (a0 : Int) (a1 : Int) (a2 : Int) (a3 : Bool) (w : World) (w0 : (Lit.int .i64 a0).wf = true) (w1 : (Lit.int .i64 a1).wf = true) (w2 : (Lit.int .i64 a2).wf = true) :
    Calls Try.prog 3 #[.int .i64 a0, .int .i64 a1, .int .i64 a2, .bool a3] w fun e w' => e = .returned (.bool true) ∧ Below w.heap.size w w' := by
  obtain ⟨k, h⟩ := P a0 a1 a2 a3 w0 w1 w2
  refine (taquinlaw13_BatteryAges.calls k a0 a1 a2 a3 true w h).mono ?_
  rintro e w' ⟨rfl, hd⟩
  exact ⟨rfl, hd⟩

/-! ### taquinref13_Act: function 28 -/
def taquinref13_Act.f (a0 : Int) : Option (Bool) := if a0 ≥ 0 then (some (decide (a0 < 10))) else (some false)
set_option maxHeartbeats 8000000 in
set_option maxRecDepth 100000 in
theorem taquinref13_Act.calls (a0 : Int) (r : Bool) (w : World) (h : taquinref13_Act.f a0 = some r) :
    Calls Try.prog 28 #[.int .i64 a0] w fun e w' => e = .returned (.bool r) ∧ Drawn0 w w' := by
  have H : (if a0 ≥ 0 then (some (decide (a0 < 10))) else (some false)) = some r := h
  clear h
  by_cases c2 : a0 ≥ 0
  · rw [if_pos c2] at H
    have c2b0 : decide (0 ≤ a0) = true := decide_eq_true c2
    clear c2
    obtain rfl := Option.some.inj H
    go_enter Try.func28, Try.ntmps28
    go_wp2
    go_ret
    exact ⟨by first | rfl | (simp; done) | (simp [*]; done), by repeat (first | exact Drawn0.refl _ | apply Drawn0.step)⟩
  · rw [if_neg c2] at H
    have c2b0 : decide (0 ≤ a0) = false := decide_eq_false c2
    clear c2
    obtain rfl := Option.some.inj H
    go_enter Try.func28, Try.ntmps28
    go_wp2
    go_ret
    exact ⟨by first | rfl | (simp; done) | (simp [*]; done), by repeat (first | exact Drawn0.refl _ | apply Drawn0.step)⟩

/-! ### taquinref13_Acts: function 11 -/
mutual
def taquinref13_Acts.l0 : Nat → List Int → Int → Int → Option (Bool)
  | 0, _, _, _ => none
  | k + 1, x0, x1, x5 => if x5 < (x0.length : Int) then (taquinref13_Acts.j1 k x0 x1 x5 (decide (x5 < x1))) else (taquinref13_Acts.j1 k x0 x1 x5 false)
def taquinref13_Acts.j1 : Nat → List Int → Int → Int → Bool → Option (Bool)
  | 0, _, _, _, _ => none
  | k + 1, x0, x1, x5, x14 => if x14 = true then (if 0 ≤ x5 then (if x5 < (x0.length : Int) then ((taquinref13_Act.f (rd x0 x5)).bind fun t131 => (if t131 = true then (taquinref13_Acts.l0 k x0 x1 (wrap64 (x5 + 1))) else (some false))) else (none)) else (none)) else (some (decide ((x0.length : Int) ≤ x1)))
end
def taquinref13_Acts.f (k : Nat) (l0 : List Int) (a1 : Int) : Option (Bool) := taquinref13_Acts.l0 k l0 a1 0
theorem taquinref13_Acts.mono_l : ∀ k, (∀ y0 y1 y2, LeO (taquinref13_Acts.l0 k y0 y1 y2) (taquinref13_Acts.l0 (k + 1) y0 y1 y2)) ∧ (∀ y0 y1 y2 y3, LeO (taquinref13_Acts.j1 k y0 y1 y2 y3) (taquinref13_Acts.j1 (k + 1) y0 y1 y2 y3))
  | 0 => ⟨fun _ _ _ r h => by simp [taquinref13_Acts.l0] at h, fun _ _ _ _ r h => by simp [taquinref13_Acts.j1] at h⟩
  | k + 1 => by
    obtain ⟨ih0, ih1⟩ := taquinref13_Acts.mono_l k
    refine ⟨?_, ?_⟩
    · intro y0 y1 y2
      unfold taquinref13_Acts.l0
      repeat' first
      | (with_reducible exact ih0 _ _ _)
      | (with_reducible exact ih1 _ _ _ _)
      | (with_reducible exact LeO.refl _)
      | (with_reducible exact LeO.none _)
      | (with_reducible refine LeO.ite ?_ ?_)
      | (with_reducible refine LeO.bind ?_ (fun _ => ?_))
      | exact ih0 _ _ _
      | exact ih1 _ _ _ _
      | exact LeO.none _
      | refine LeO.ite ?_ ?_
      | refine LeO.bind ?_ (fun _ => ?_)
    · intro y0 y1 y2 y3
      unfold taquinref13_Acts.j1
      repeat' first
      | (with_reducible exact ih0 _ _ _)
      | (with_reducible exact ih1 _ _ _ _)
      | (with_reducible exact LeO.refl _)
      | (with_reducible exact LeO.none _)
      | (with_reducible refine LeO.ite ?_ ?_)
      | (with_reducible refine LeO.bind ?_ (fun _ => ?_))
      | exact ih0 _ _ _
      | exact ih1 _ _ _ _
      | exact LeO.none _
      | refine LeO.ite ?_ ?_
      | refine LeO.bind ?_ (fun _ => ?_)
theorem taquinref13_Acts.mono : ∀ a0 a1 k, LeO (taquinref13_Acts.f k a0 a1) (taquinref13_Acts.f (k + 1) a0 a1) := by
  intro a0 a1 k
  obtain ⟨ih0, ih1⟩ := taquinref13_Acts.mono_l k
  unfold taquinref13_Acts.f
  repeat' first
      | (with_reducible exact ih0 _ _ _)
      | (with_reducible exact ih1 _ _ _ _)
      | (with_reducible exact LeO.refl _)
      | (with_reducible exact LeO.none _)
      | (with_reducible refine LeO.ite ?_ ?_)
      | (with_reducible refine LeO.bind ?_ (fun _ => ?_))
      | exact ih0 _ _ _
      | exact ih1 _ _ _ _
      | exact LeO.none _
      | refine LeO.ite ?_ ?_
      | refine LeO.bind ?_ (fun _ => ?_)
set_option maxHeartbeats 8000000 in
set_option maxRecDepth 100000 in
theorem taquinref13_Acts.calls (k : Nat) (A0 : Option Addr) (c0 : Nat) (l0 : List Int) (a1 : Int) (r : Bool) (w : World) (hr0 : Kd.C (Kd.int .i64) w A0 l0.length l0) (hc0 : l0.length ≤ c0) (h : taquinref13_Acts.f k l0 a1 = some r) :
    Calls Try.prog 11 #[.slice A0 l0.length c0, .int .i64 a1] w fun e w' => e = .returned (.bool r) ∧ Drawn0 w w' := by
  have HR0 := Aside0.mk hr0
  have HC0 := Aside0.mk hc0
  clear hr0 hc0
  have H : (taquinref13_Acts.l0 k l0 a1 0) = some r := h
  clear h
  have H' := Aside0.mk H
  clear H
  go_enter Try.func11, Try.ntmps11
  go_wp2
  go_loopg [5] k (fun kq v5 w' => ∃ (x5_1 : Int), v5 = .int .i64 x5_1 ∧ Aside0 (taquinref13_Acts.l0 kq l0 a1 x5_1 = some r) ∧ Aside0 (kq ≤ k) ∧ Drawn0 w w')
  case atStart => exact ⟨(0), (by first | rfl | (simp; done) | (simp [*]; done)), H', ⟨Nat.le_refl _⟩, by repeat (first | exact Drawn0.refl _ | apply Drawn0.step)⟩
  case round =>
    clear H'
    try clear c1
    try clear p2
    obtain ⟨x5_1, rfl, HA, HK1, ⟨m1, rfl⟩⟩ := hrel
    cases gk with
    | zero => exact absurd HA.out (by simp [taquinref13_Acts.l0])
    | succ k1 =>
      have H := HA.out
      clear HA
      simp only [taquinref13_Acts.l0] at H
      have HC3 := Aside0.mk H
      clear H
      go_upto_region 2 with (fail)
      go_cut [14] (fun v14 wc => ∃ (kq : Nat) (x14_2 : Bool), v14 = .bool x14_2 ∧ Aside0 (taquinref13_Acts.j1 kq l0 a1 x5_1 x14_2 = some r) ∧ Aside0 (kq ≤ k1) ∧ Drawn0 w wc)
      case first =>
        have H := HC3.out
        clear HC3
        by_cases c4 : x5_1 < (l0.length : Int)
        · rw [if_pos c4] at H
          have c4b0 : decide (x5_1 < (l0.length : Int)) = true := decide_eq_true c4
          clear c4
          (first | rw [c4b0] | (simp only [i64_w, i32_w]; rw [c4b0]) | skip)
          have H' := Aside0.mk H
          clear H
          go_wp2
          go_meet
          case rel => exact ⟨_, (decide (x5_1 < a1)), (by first | rfl | (simp; done) | (simp [*]; done)), H', ⟨by have := HK1.out; first | omega | exact Nat.le_refl _⟩, by repeat (first | exact Drawn0.refl _ | apply Drawn0.step)⟩
        · rw [if_neg c4] at H
          have c4b0 : decide (x5_1 < (l0.length : Int)) = false := decide_eq_false c4
          clear c4
          (first | rw [c4b0] | (simp only [i64_w, i32_w]; rw [c4b0]) | skip)
          have H' := Aside0.mk H
          clear H
          go_wp2
          go_meet
          case rel => exact ⟨_, (false), (by first | rfl | (simp; done) | (simp [*]; done)), H', ⟨by have := HK1.out; first | omega | exact Nat.le_refl _⟩, by repeat (first | exact Drawn0.refl _ | apply Drawn0.step)⟩
      case rest =>
        clear HC3
        try clear c1
        try clear p2
        try clear c4
        try clear c4b0
        try clear p2
        obtain ⟨kq, x14_2, rfl, HA, HJ2, ⟨mc2, rfl⟩⟩ := hcut
        cases kq with
        | zero => exact absurd HA.out (by simp [taquinref13_Acts.j1])
        | succ kj2 =>
          have H := HA.out
          clear HA
          simp only [taquinref13_Acts.j1] at H
          by_cases c5 : x14_2 = true
          · subst c5
            have H1 : (if 0 ≤ x5_1 then (if x5_1 < (l0.length : Int) then ((taquinref13_Act.f (rd l0 x5_1)).bind fun t131 => (if t131 = true then (taquinref13_Acts.l0 kj2 l0 a1 (wrap64 (x5_1 + 1))) else (some false))) else (none)) else (none)) = some r := by rw [if_pos rfl] at H; exact H
            clear H
            have H := H1
            clear H1
            by_cases c6 : 0 ≤ x5_1
            · rw [if_pos c6] at H
              have c6b0 : decide (0 ≤ x5_1) = true := decide_eq_true c6
              clear c6
              by_cases c7 : x5_1 < (l0.length : Int)
              · rw [if_pos c7] at H
                have c7b0 : decide (x5_1 < (l0.length : Int)) = true := decide_eq_true c7
                clear c7
                replace H := Option.bind_eq_some_iff.mp H
                obtain ⟨t131, A80, H⟩ := H
                replace H : (if t131 = true then (taquinref13_Acts.l0 kj2 l0 a1 (wrap64 (x5_1 + 1))) else (some false)) = some r := H
                have A8 := Aside0.mk A80
                clear A80
                by_cases c9 : t131 = true
                · subst c9
                  have H1 : (taquinref13_Acts.l0 kj2 l0 a1 (wrap64 (x5_1 + 1))) = some r := by rw [if_pos rfl] at H; exact H
                  clear H
                  have H := H1
                  clear H1
                  have H' := Aside0.mk H
                  clear H
                  have p130 : 0 ≤ (x5_1 : Int) := of_decide_eq_true (by first | (with_reducible assumption) | assumption)
                  have q130 : x5_1 < (l0.length : Int) := of_decide_eq_true (by first | (with_reducible assumption) | assumption)
                  obtain ⟨ad130, e130, hx130_0⟩ := Kd.at_int HR0.out x5_1 p130 q130
                  cases e130
                  replace p130 := eq_true p130
                  replace q130 := eq_true q130
                  go_wp2_with (first | ((with_reducible refine gate_callee (f := 28) rfl ?_); refine goesL_ (some 21) rfl rfl Try.func28 (by kernel_rfl) rfl #[.int .i64 (rd l0 x5_1)] rfl (by (try simp only [List.map_toArray, List.map_cons, List.map_nil]); first | done | rfl | (simp only [List.length_drop, List.length_take]; rfl)) ?_; (with_reducible refine (taquinref13_Act.calls (rd l0 x5_1) true _ A8.out).mono ?_); rintro e w' ⟨rfl, ⟨nd, rfl⟩⟩; refine ⟨_, rfl, ?_⟩))
                  go_roundg kj2
                  case measure => have := HK1.out; have := HJ2.out; omega
                  case rel => exact ⟨(wrap64 (x5_1 + 1)), (by first | rfl | (simp; done) | (simp [*]; done)), H', ⟨by have := HK1.out; have := HJ2.out; omega⟩, by repeat (first | exact Drawn0.refl _ | apply Drawn0.step)⟩
                · replace c9 := Bool.eq_false_iff.mpr c9
                  subst c9
                  have H1 : (some false) = some r := by rw [if_neg (show ¬ (false = true) by decide)] at H; exact H
                  clear H
                  have H := H1
                  clear H1
                  obtain rfl := Option.some.inj H
                  have p130 : 0 ≤ (x5_1 : Int) := of_decide_eq_true (by first | (with_reducible assumption) | assumption)
                  have q130 : x5_1 < (l0.length : Int) := of_decide_eq_true (by first | (with_reducible assumption) | assumption)
                  obtain ⟨ad130, e130, hx130_0⟩ := Kd.at_int HR0.out x5_1 p130 q130
                  cases e130
                  replace p130 := eq_true p130
                  replace q130 := eq_true q130
                  go_wp2_with (first | ((with_reducible refine gate_callee (f := 28) rfl ?_); refine goesL_ (some 21) rfl rfl Try.func28 (by kernel_rfl) rfl #[.int .i64 (rd l0 x5_1)] rfl (by (try simp only [List.map_toArray, List.map_cons, List.map_nil]); first | done | rfl | (simp only [List.length_drop, List.length_take]; rfl)) ?_; (with_reducible refine (taquinref13_Act.calls (rd l0 x5_1) false _ A8.out).mono ?_); rintro e w' ⟨rfl, ⟨nd, rfl⟩⟩; refine ⟨_, rfl, ?_⟩))
                  go_ret
                  exact ⟨by first | rfl | (simp; done) | (simp [*]; done), by repeat (first | exact Drawn0.refl _ | apply Drawn0.step)⟩
              · rw [if_neg c7] at H
                exact absurd H (by simp)
            · rw [if_neg c6] at H
              exact absurd H (by simp)
          · replace c5 := Bool.eq_false_iff.mpr c5
            subst c5
            have H1 : (some (decide ((l0.length : Int) ≤ a1))) = some r := by rw [if_neg (show ¬ (false = true) by decide)] at H; exact H
            clear H
            have H := H1
            clear H1
            obtain rfl := Option.some.inj H
            go_wp2
            go_ret
            exact ⟨by first | rfl | (simp; done) | (simp [*]; done), by repeat (first | exact Drawn0.refl _ | apply Drawn0.step)⟩

end Go.Proofs.Ytkhehmmdlnebnaa.B
