/- RegionParts: part 3 of 4: the texts of this claim, merged, without what they do not name (by pack.py, a program of this session). -/
import Derived.Test.YtmnncmpmhbfpcaaZp2
section
namespace Go.Proofs.Ytmnncmpmhbfpcaa.V
open Go.Proofs.Ytmnncmpmhbfpcaa.A
open Go.Proofs.Ytmnncmpmhbfpcaa.H
open Go.Proofs.Ytmnncmpmhbfpcaa.B
open Go.Proofs.Ytmnncmpmhbfpcaa.S
open Go.Proofs.Ytmnncmpmhbfpcaa.C
open Go.Proofs.Ytmnncmpmhbfpcaa.D
open Go.RowKit Go.Proofs.YtmnncmpmhbfpcaaW.PrintWords Go.Proofs.YtmnncmpmhbfpcaaW.PrintLast Go.Proofs.YtmnncmpmhbfpcaaW.PrintMore
attribute [local go_sem] max2_int min2_int max_two min_two max_three min_three max_four min_four   -- for this text's walks alone
set_option linter.unusedVariables false
set_option linter.unusedSimpArgs false
def region_Right.l0 : Nat → List Int → List Int → Int → Int → Option (Bool)
  | 0, _, _, _, _ => none
  | k + 1, x0, x5, x6, x7 => if x7 < x6 then (if 0 ≤ x7 then (if x7 < (x5.length : Int) then ((region_isCell.f (rd x5 x7)).bind fun t144 => (if t144 = true then (if x7 > 0 then (if 0 ≤ (wrap64 (x7 - 1)) then (if (wrap64 (x7 - 1)) < (x0.length : Int) then (if (rd x0 (wrap64 (x7 - 1))) ≥ (rd x5 x7) then (some false) else (region_Right.l0 k x0 x5 x6 (wrap64 (x7 + 1)))) else (none)) else (none)) else (region_Right.l0 k x0 x5 x6 (wrap64 (x7 + 1)))) else (some false))) else (none)) else (none)) else (some true)
def region_Right.f (k : Nat) (l0 : List Int) : Option (Bool) := region_Right.l0 k l0 l0 (l0.length : Int) 0
set_option maxHeartbeats 8000000 in
set_option maxRecDepth 100000 in
theorem region_Right.calls (k : Nat) (A0 : Option Addr) (c0 : Nat) (l0 : List Int) (r : Bool) (w : World) (hr0 : Kd.C (Kd.int .i64) w A0 l0.length l0) (hc0 : l0.length ≤ c0) (h : region_Right.f k l0 = some r) :
    Calls Try.prog 40 #[.slice A0 l0.length c0] w fun e w' => e = .returned (.bool r) ∧ Drawn0 w w' := by
  have HR0 := Aside0.mk hr0
  have HC0 := Aside0.mk hc0
  clear hr0 hc0
  have H : (region_Right.l0 k l0 l0 (l0.length : Int) 0) = some r := h
  clear h
  have H' := Aside0.mk H
  clear H
  go_enter Try.func40, Try.ntmps40
  go_wp2
  go_loopg [7] k (fun kq v7 w' => ∃ (x7_1 : Int), v7 = .int .i64 x7_1 ∧ Aside0 (region_Right.l0 kq l0 l0 (l0.length : Int) x7_1 = some r) ∧ Aside0 (kq ≤ k) ∧ Drawn0 w w')
  case atStart => exact ⟨(0), (by first | rfl | (simp; done) | (simp [*]; done)), H', ⟨Nat.le_refl _⟩, by repeat (first | exact Drawn0.refl _ | apply Drawn0.step)⟩
  case round =>
    clear H'
    obtain ⟨x7_1, rfl, HA, HK1, ⟨m1, rfl⟩⟩ := hrel
    cases gk with
    | zero => exact absurd HA.out (by simp [region_Right.l0])
    | succ k1 =>
      have H := HA.out
      clear HA
      simp only [region_Right.l0] at H
      by_cases c2 : x7_1 < (l0.length : Int)
      · rw [if_pos c2] at H
        have c2b0 : decide (x7_1 < (l0.length : Int)) = true := decide_eq_true c2
        clear c2
        by_cases c3 : 0 ≤ x7_1
        · rw [if_pos c3] at H
          have c3b0 : decide (0 ≤ x7_1) = true := decide_eq_true c3
          clear c3
          by_cases c4 : x7_1 < (l0.length : Int)
          · rw [if_pos c4] at H
            have c4b0 : decide (x7_1 < (l0.length : Int)) = true := decide_eq_true c4
            clear c4
            replace H := Option.bind_eq_some_iff.mp H
            obtain ⟨t144, A50, H⟩ := H
            replace H : (if t144 = true then (if x7_1 > 0 then (if 0 ≤ (wrap64 (x7_1 - 1)) then (if (wrap64 (x7_1 - 1)) < (l0.length : Int) then (if (rd l0 (wrap64 (x7_1 - 1))) ≥ (rd l0 x7_1) then (some false) else (region_Right.l0 k1 l0 l0 (l0.length : Int) (wrap64 (x7_1 + 1)))) else (none)) else (none)) else (region_Right.l0 k1 l0 l0 (l0.length : Int) (wrap64 (x7_1 + 1)))) else (some false)) = some r := H
            have A5 := Aside0.mk A50
            clear A50
            by_cases c6 : t144 = true
            · subst c6
              have H1 : (if x7_1 > 0 then (if 0 ≤ (wrap64 (x7_1 - 1)) then (if (wrap64 (x7_1 - 1)) < (l0.length : Int) then (if (rd l0 (wrap64 (x7_1 - 1))) ≥ (rd l0 x7_1) then (some false) else (region_Right.l0 k1 l0 l0 (l0.length : Int) (wrap64 (x7_1 + 1)))) else (none)) else (none)) else (region_Right.l0 k1 l0 l0 (l0.length : Int) (wrap64 (x7_1 + 1)))) = some r := by rw [if_pos rfl] at H; exact H
              clear H
              have H := H1
              clear H1
              by_cases c7 : x7_1 > 0
              · rw [if_pos c7] at H
                have c7b0 : decide (0 < x7_1) = true := decide_eq_true c7
                clear c7
                obtain ⟨ji8, hji8⟩ : ∃ j_ : Int, (wrap64 (x7_1 - 1)) = j_ := ⟨_, rfl⟩
                replace H : (if 0 ≤ (ji8) then (if (ji8) < (l0.length : Int) then (if (rd l0 (ji8)) ≥ (rd l0 x7_1) then (some false) else (region_Right.l0 k1 l0 l0 (l0.length : Int) (wrap64 (x7_1 + 1)))) else (none)) else (none)) = some r := by first | (rw [hji8] at H; exact H) | (simp only [hji8] at H ⊢; exact H)
                (try rw [hji8] at A5)
                have hji8w : (IntKind.i64.wrap (x7_1 - 1)) = ji8 := (i64_w _).trans hji8
                by_cases c9 : 0 ≤ (ji8)
                · rw [if_pos c9] at H
                  have c9b0 : decide (0 ≤ (ji8)) = true := decide_eq_true c9
                  clear c9
                  by_cases c10 : (ji8) < (l0.length : Int)
                  · rw [if_pos c10] at H
                    have c10b0 : decide ((ji8) < (l0.length : Int)) = true := decide_eq_true c10
                    clear c10
                    by_cases c11 : (rd l0 (ji8)) ≥ (rd l0 x7_1)
                    · rw [if_pos c11] at H
                      have c11b0 : decide ((rd l0 x7_1) ≤ (rd l0 (ji8))) = true := decide_eq_true c11
                      clear c11
                      obtain rfl := Option.some.inj H
                      have p143 : 0 ≤ (x7_1 : Int) := of_decide_eq_true (by first | (with_reducible assumption) | assumption)
                      have q143 : x7_1 < (l0.length : Int) := of_decide_eq_true (by first | (with_reducible assumption) | assumption)
                      obtain ⟨ad143, e143, hx143_0⟩ := Kd.at_int HR0.out x7_1 p143 q143
                      cases e143
                      replace p143 := eq_true p143
                      replace q143 := eq_true q143
                      go_wp2_with (first | ((with_reducible refine gate_callee (f := 72) rfl ?_); refine goesL_ (some 13) rfl rfl Try.func72 (by kernel_rfl) rfl #[.int .i64 (rd l0 x7_1)] rfl (by (try simp only [List.map_toArray, List.map_cons, List.map_nil]); first | done | rfl | (simp only [List.length_drop, List.length_take]; rfl)) ?_; (with_reducible refine (region_isCell.calls (rd l0 x7_1) true _ A5.out).mono ?_); rintro e w' ⟨rfl, ⟨nd, rfl⟩⟩; refine ⟨_, rfl, ?_⟩; have p145 : 0 ≤ ((ji8) : Int) := of_decide_eq_true (by first | (with_reducible assumption) | assumption); have q145 : (ji8) < (l0.length : Int) := of_decide_eq_true (by first | (with_reducible assumption) | assumption); obtain ⟨ad145, e145, hx145_0⟩ := Kd.at_int HR0.out (ji8) p145 q145; obtain rfl : ad143 = ad145 := (by injection e145); replace p145 := eq_true p145; replace q145 := eq_true q145))
                      go_ret
                      exact ⟨by first | rfl | (simp; done) | (simp only [← hji8] <;> (first | rfl | simp)) | (simp [*]; done), by repeat (first | exact Drawn0.refl _ | apply Drawn0.step)⟩
                    · rw [if_neg c11] at H
                      have c11b0 : decide ((rd l0 x7_1) ≤ (rd l0 (ji8))) = false := decide_eq_false c11
                      clear c11
                      have H' := Aside0.mk H
                      clear H
                      have p143 : 0 ≤ (x7_1 : Int) := of_decide_eq_true (by first | (with_reducible assumption) | assumption)
                      have q143 : x7_1 < (l0.length : Int) := of_decide_eq_true (by first | (with_reducible assumption) | assumption)
                      obtain ⟨ad143, e143, hx143_0⟩ := Kd.at_int HR0.out x7_1 p143 q143
                      cases e143
                      replace p143 := eq_true p143
                      replace q143 := eq_true q143
                      go_wp2_with (first | ((with_reducible refine gate_callee (f := 72) rfl ?_); refine goesL_ (some 13) rfl rfl Try.func72 (by kernel_rfl) rfl #[.int .i64 (rd l0 x7_1)] rfl (by (try simp only [List.map_toArray, List.map_cons, List.map_nil]); first | done | rfl | (simp only [List.length_drop, List.length_take]; rfl)) ?_; (with_reducible refine (region_isCell.calls (rd l0 x7_1) true _ A5.out).mono ?_); rintro e w' ⟨rfl, ⟨nd, rfl⟩⟩; refine ⟨_, rfl, ?_⟩; have p145 : 0 ≤ ((ji8) : Int) := of_decide_eq_true (by first | (with_reducible assumption) | assumption); have q145 : (ji8) < (l0.length : Int) := of_decide_eq_true (by first | (with_reducible assumption) | assumption); obtain ⟨ad145, e145, hx145_0⟩ := Kd.at_int HR0.out (ji8) p145 q145; obtain rfl : ad143 = ad145 := (by injection e145); replace p145 := eq_true p145; replace q145 := eq_true q145))
                      go_roundg k1
                      case measure => have := HK1.out; omega
                      case rel => exact ⟨(wrap64 (x7_1 + 1)), (by first | rfl | (simp; done) | (simp [*]; done)), H', ⟨by have := HK1.out; omega⟩, by repeat (first | exact Drawn0.refl _ | apply Drawn0.step)⟩
                  · rw [if_neg c10] at H
                    exact absurd H (by simp)
                · rw [if_neg c9] at H
                  exact absurd H (by simp)
              · rw [if_neg c7] at H
                have c7b0 : decide (0 < x7_1) = false := decide_eq_false c7
                clear c7
                have H' := Aside0.mk H
                clear H
                have p143 : 0 ≤ (x7_1 : Int) := of_decide_eq_true (by first | (with_reducible assumption) | assumption)
                have q143 : x7_1 < (l0.length : Int) := of_decide_eq_true (by first | (with_reducible assumption) | assumption)
                obtain ⟨ad143, e143, hx143_0⟩ := Kd.at_int HR0.out x7_1 p143 q143
                cases e143
                replace p143 := eq_true p143
                replace q143 := eq_true q143
                go_wp2_with (first | ((with_reducible refine gate_callee (f := 72) rfl ?_); refine goesL_ (some 13) rfl rfl Try.func72 (by kernel_rfl) rfl #[.int .i64 (rd l0 x7_1)] rfl (by (try simp only [List.map_toArray, List.map_cons, List.map_nil]); first | done | rfl | (simp only [List.length_drop, List.length_take]; rfl)) ?_; (with_reducible refine (region_isCell.calls (rd l0 x7_1) true _ A5.out).mono ?_); rintro e w' ⟨rfl, ⟨nd, rfl⟩⟩; refine ⟨_, rfl, ?_⟩))
                go_roundg k1
                case measure => have := HK1.out; omega
                case rel => exact ⟨(wrap64 (x7_1 + 1)), (by first | rfl | (simp; done) | (simp [*]; done)), H', ⟨by have := HK1.out; omega⟩, by repeat (first | exact Drawn0.refl _ | apply Drawn0.step)⟩
            · replace c6 := Bool.eq_false_iff.mpr c6
              subst c6
              have H1 : (some false) = some r := by rw [if_neg (show ¬ (false = true) by decide)] at H; exact H
              clear H
              have H := H1
              clear H1
              obtain rfl := Option.some.inj H
              have p143 : 0 ≤ (x7_1 : Int) := of_decide_eq_true (by first | (with_reducible assumption) | assumption)
              have q143 : x7_1 < (l0.length : Int) := of_decide_eq_true (by first | (with_reducible assumption) | assumption)
              obtain ⟨ad143, e143, hx143_0⟩ := Kd.at_int HR0.out x7_1 p143 q143
              cases e143
              replace p143 := eq_true p143
              replace q143 := eq_true q143
              go_wp2_with (first | ((with_reducible refine gate_callee (f := 72) rfl ?_); refine goesL_ (some 13) rfl rfl Try.func72 (by kernel_rfl) rfl #[.int .i64 (rd l0 x7_1)] rfl (by (try simp only [List.map_toArray, List.map_cons, List.map_nil]); first | done | rfl | (simp only [List.length_drop, List.length_take]; rfl)) ?_; (with_reducible refine (region_isCell.calls (rd l0 x7_1) false _ A5.out).mono ?_); rintro e w' ⟨rfl, ⟨nd, rfl⟩⟩; refine ⟨_, rfl, ?_⟩))
              go_ret
              exact ⟨by first | rfl | (simp; done) | (simp [*]; done), by repeat (first | exact Drawn0.refl _ | apply Drawn0.step)⟩
          · rw [if_neg c4] at H
            exact absurd H (by simp)
        · rw [if_neg c3] at H
          exact absurd H (by simp)
      · rw [if_neg c2] at H
        have c2b0 : decide (x7_1 < (l0.length : Int)) = false := decide_eq_false c2
        clear c2
        obtain rfl := Option.some.inj H
        go_wp2
        go_ret
        exact ⟨by first | rfl | (simp; done) | (simp [*]; done), by repeat (first | exact Drawn0.refl _ | apply Drawn0.step)⟩
def taquinlaw08_fits.f (k : Nat) (a0_0 : Int) (a0_1 : Int) (a0_2 : Int) (l0_3 : List Int) (l0_4 : List Int) (l1 : List Int) (a2 : Int) : Option (Bool) := (taquinref07_Few.f a0_0 a0_1 a0_2 l0_3 l0_4 a2).bind fun t147 => (if t147 = true then ((floor_Right.f k a0_0 a0_1 a0_2 l0_3 l0_4).bind fun t148 => (if t148 = true then (if (l1.length : Int) ≤ 200 then ((region_Right.f k l1).bind fun t149 => (some t149)) else (some false)) else (some false))) else (some false))
set_option maxHeartbeats 8000000 in
set_option maxRecDepth 100000 in
theorem taquinlaw08_fits.calls (k : Nat) (a0_0 : Int) (a0_1 : Int) (a0_2 : Int) (A0_3 : Option Addr) (c0_3 : Nat) (l0_3 : List Int) (A0_4 : Option Addr) (c0_4 : Nat) (l0_4 : List Int) (A1 : Option Addr) (c1 : Nat) (l1 : List Int) (a2 : Int) (r : Bool) (w : World) (hr0_3 : Kd.C (Kd.int .i64) w A0_3 l0_3.length l0_3) (hc0_3 : l0_3.length ≤ c0_3) (hr0_4 : Kd.C (Kd.int .i64) w A0_4 l0_4.length l0_4) (hc0_4 : l0_4.length ≤ c0_4) (hr1 : Kd.C (Kd.int .i64) w A1 l1.length l1) (hc1 : l1.length ≤ c1) (h : taquinlaw08_fits.f k a0_0 a0_1 a0_2 l0_3 l0_4 l1 a2 = some r) :
    Calls Try.prog 37 #[.agg #[.int .i64 a0_0, .int .i64 a0_1, .int .i64 a0_2, .slice A0_3 l0_3.length c0_3, .slice A0_4 l0_4.length c0_4], .slice A1 l1.length c1, .int .i64 a2] w fun e w' => e = .returned (.bool r) ∧ Below w.heap.size w w' := by
  have hu24 := Try.underlying24
  have HR0_3 := Aside0.mk hr0_3
  have HC0_3 := Aside0.mk hc0_3
  clear hr0_3 hc0_3
  have HR0_4 := Aside0.mk hr0_4
  have HC0_4 := Aside0.mk hc0_4
  clear hr0_4 hc0_4
  have HR1 := Aside0.mk hr1
  have HC1 := Aside0.mk hc1
  clear hr1 hc1
  have HB := Aside0.mk (Below.refl w.heap.size w)
  have H : ((taquinref07_Few.f a0_0 a0_1 a0_2 l0_3 l0_4 a2).bind fun t147 => (if t147 = true then ((floor_Right.f k a0_0 a0_1 a0_2 l0_3 l0_4).bind fun t148 => (if t148 = true then (if (l1.length : Int) ≤ 200 then ((region_Right.f k l1).bind fun t149 => (some t149)) else (some false)) else (some false))) else (some false))) = some r := h
  clear h
  replace H := Option.bind_eq_some_iff.mp H
  obtain ⟨t147, A40, H⟩ := H
  replace H : (if t147 = true then ((floor_Right.f k a0_0 a0_1 a0_2 l0_3 l0_4).bind fun t148 => (if t148 = true then (if (l1.length : Int) ≤ 200 then ((region_Right.f k l1).bind fun t149 => (some t149)) else (some false)) else (some false))) else (some false)) = some r := H
  have A4 := Aside0.mk A40
  clear A40
  by_cases c5 : t147 = true
  · subst c5
    have H1 : ((floor_Right.f k a0_0 a0_1 a0_2 l0_3 l0_4).bind fun t148 => (if t148 = true then (if (l1.length : Int) ≤ 200 then ((region_Right.f k l1).bind fun t149 => (some t149)) else (some false)) else (some false))) = some r := by rw [if_pos rfl] at H; exact H
    clear H
    have H := H1
    clear H1
    replace H := Option.bind_eq_some_iff.mp H
    obtain ⟨t148, A60, H⟩ := H
    replace H : (if t148 = true then (if (l1.length : Int) ≤ 200 then ((region_Right.f k l1).bind fun t149 => (some t149)) else (some false)) else (some false)) = some r := H
    have A6 := Aside0.mk A60
    clear A60
    by_cases c7 : t148 = true
    · subst c7
      have H1 : (if (l1.length : Int) ≤ 200 then ((region_Right.f k l1).bind fun t149 => (some t149)) else (some false)) = some r := by rw [if_pos rfl] at H; exact H
      clear H
      have H := H1
      clear H1
      by_cases c8 : (l1.length : Int) ≤ 200
      · rw [if_pos c8] at H
        have c8b0 : decide ((l1.length : Int) ≤ 200) = true := decide_eq_true c8
        have c8b1 : decide (l1.length ≤ 200) = true := decide_eq_true (by omega)
        clear c8
        replace H := Option.bind_eq_some_iff.mp H
        obtain ⟨t149, A90, H⟩ := H
        replace H : (some t149) = some r := H
        have A9 := Aside0.mk A90
        clear A90
        obtain rfl := Option.some.inj H
        go_enter Try.func37, Try.ntmps37
        go_wp2_with (first | ((with_reducible refine gate_dst (N := 3) rfl ?_); (try (refine gate_guard (by rfl) ?_; dsimp only)); refine box_event ?hg (N := 3) ?hd (cs := #[.int .i64 a0_0, .int .i64 a0_1, .int .i64 a0_2, .slice A0_3 l0_3.length c0_3, .slice A0_4 l0_4.length c0_4]) (t := 24) ?hr ?_; (case hd => rfl); (case hg => rfl); (case hr => first | (go_simp; done) | (go_simp; rfl)); intro gb146 hg w10 hbox hb; have n0_ := Aside0.mk (below_step (by repeat (first | (with_reducible first | exact HB.out | apply below_alloc | apply pw_below_drewN | apply below_drew1) | exact HB.out)) hb); have n1_ := Aside0.mk (hbox); have n2_ := Aside0.mk ((by rw [hg]; exact (below_size (by repeat (first | (with_reducible first | exact HB.out | apply below_alloc | apply pw_below_drewN | apply below_drew1) | exact HB.out))) : w.heap.size ≤ gb146)); have n3_ := Aside0.mk ((by rw [hg]; exact (below_size (by repeat (first | (with_reducible first | exact HB.out | apply below_alloc | apply pw_below_drewN | apply below_drew1) | exact HB.out))) : w.heap.size ≤ gb146)); clear HB; have HB := n0_; have BK146 := n1_; have GW146 := n2_; have GE146 := n3_; clear n0_ n1_ n2_ n3_; clear hb hbox hg; have hcz11_0 : w10.cell? ⟨gb146, 0, none⟩ = some (.int .i64 a0_0) := (blk_cell BK146.out 0).trans rfl; have hcz11_1 : w10.cell? ⟨gb146, 1, none⟩ = some (.int .i64 a0_1) := (blk_cell BK146.out 1).trans rfl; have hcz11_2 : w10.cell? ⟨gb146, 2, none⟩ = some (.int .i64 a0_2) := (blk_cell BK146.out 2).trans rfl; have hcz11_3 : w10.cell? ⟨gb146, 3, none⟩ = some (.slice A0_3 l0_3.length c0_3) := (blk_cell BK146.out 3).trans rfl; have hcz11_4 : w10.cell? ⟨gb146, 4, none⟩ = some (.slice A0_4 l0_4.length c0_4) := (blk_cell BK146.out 4).trans rfl; have hfz11_0 := blk_frozen BK146.out 0; have hfz11_1 := blk_frozen BK146.out 1; have hfz11_2 := blk_frozen BK146.out 2; have hfz11_3 := blk_frozen BK146.out 3; have hfz11_4 := blk_frozen BK146.out 4) | ((with_reducible refine gate_callee (f := 21) rfl ?_); refine goesL_ (some 9) rfl rfl Try.func21 (by kernel_rfl) rfl #[.agg #[.int .i64 a0_0, .int .i64 a0_1, .int .i64 a0_2, .slice A0_3 l0_3.length c0_3, .slice A0_4 l0_4.length c0_4], .int .i64 a2] rfl (by (try simp only [List.map_toArray, List.map_cons, List.map_nil]); first | done | rfl | (simp only [List.length_drop, List.length_take]; rfl)) ?_; (with_reducible refine (taquinref07_Few.calls a0_0 a0_1 a0_2 _ _ l0_3 _ _ l0_4 a2 true _ ?side1 ?side2 ?side3 ?side4 A4.out).mono ?_); (case side1 => repeat (first | exact (Kd.C_below HR0_3.out HB.out) | (with_reducible refine Kd.C_alloc ?_ _) | (with_reducible refine Kd.C_drewN ?_ _) | (with_reducible refine Kd.C_drew ?_))); (case side2 => exact HC0_3.out); (case side3 => repeat (first | exact (Kd.C_below HR0_4.out HB.out) | (with_reducible refine Kd.C_alloc ?_ _) | (with_reducible refine Kd.C_drewN ?_ _) | (with_reducible refine Kd.C_drew ?_))); (case side4 => exact HC0_4.out); rintro e w12 ⟨rfl, hb⟩; refine ⟨_, rfl, ?_⟩; have n0_ := Aside0.mk (blk_below (g := gb146) (o := .cells #[.int .i64 a0_0, .int .i64 a0_1, .int .i64 a0_2, .slice A0_3 l0_3.length c0_3, .slice A0_4 l0_4.length c0_4] 24 (0, 0)) (by (with_reducible repeat (first | refine blk_drewN ?_ _ | refine blk_drew ?_ | refine blk_alloc ?_ _)); exact BK146.out) hb); have n1_ := Aside0.mk (below_step (by repeat (first | (with_reducible first | exact HB.out | apply below_alloc | apply pw_below_drewN | apply below_drew1 | refine below_set ?_ GE146.out) | exact HB.out)) hb); clear BK146; clear HB; have BK146 := n0_; have HB := n1_; clear n0_ n1_; (try clear hb); (try clear hb2); (try clear hk); (try clear hi); have hcz13_0 : w12.cell? ⟨gb146, 0, none⟩ = some (.int .i64 a0_0) := (blk_cell BK146.out 0).trans rfl; have hcz13_1 : w12.cell? ⟨gb146, 1, none⟩ = some (.int .i64 a0_1) := (blk_cell BK146.out 1).trans rfl; have hcz13_2 : w12.cell? ⟨gb146, 2, none⟩ = some (.int .i64 a0_2) := (blk_cell BK146.out 2).trans rfl; have hcz13_3 : w12.cell? ⟨gb146, 3, none⟩ = some (.slice A0_3 l0_3.length c0_3) := (blk_cell BK146.out 3).trans rfl; have hcz13_4 : w12.cell? ⟨gb146, 4, none⟩ = some (.slice A0_4 l0_4.length c0_4) := (blk_cell BK146.out 4).trans rfl; have hfz13_0 := blk_frozen BK146.out 0; have hfz13_1 := blk_frozen BK146.out 1; have hfz13_2 := blk_frozen BK146.out 2; have hfz13_3 := blk_frozen BK146.out 3; have hfz13_4 := blk_frozen BK146.out 4) | (go_at_call 22; (with_reducible refine (floor_Right.calls k a0_0 a0_1 a0_2 _ _ l0_3 _ _ l0_4 true _ ?side1 ?side2 ?side3 ?side4 A6.out).mono ?_); (case side1 => repeat (first | exact (Kd.C_below HR0_3.out HB.out) | (with_reducible refine Kd.C_alloc ?_ _) | (with_reducible refine Kd.C_drewN ?_ _) | (with_reducible refine Kd.C_drew ?_))); (case side2 => exact HC0_3.out); (case side3 => repeat (first | exact (Kd.C_below HR0_4.out HB.out) | (with_reducible refine Kd.C_alloc ?_ _) | (with_reducible refine Kd.C_drewN ?_ _) | (with_reducible refine Kd.C_drew ?_))); (case side4 => exact HC0_4.out); rintro e w14 ⟨rfl, hb⟩; have n0_ := Aside0.mk (blk_below (g := gb146) (o := .cells #[.int .i64 a0_0, .int .i64 a0_1, .int .i64 a0_2, .slice A0_3 l0_3.length c0_3, .slice A0_4 l0_4.length c0_4] 24 (0, 0)) (by (with_reducible repeat (first | refine blk_drewN ?_ _ | refine blk_drew ?_ | refine blk_alloc ?_ _)); exact BK146.out) hb); have n1_ := Aside0.mk (below_step (by repeat (first | (with_reducible first | exact HB.out | apply below_alloc | apply pw_below_drewN | apply below_drew1 | refine below_set ?_ GE146.out) | exact HB.out)) hb); clear BK146; clear HB; have BK146 := n0_; have HB := n1_; clear n0_ n1_; (try clear hb); (try clear hb2); (try clear hk); (try clear hi)) | (go_at_call 40; (with_reducible refine (region_Right.calls k _ _ l1 t149 _ ?side1 ?side2 A9.out).mono ?_); (case side1 => repeat (first | exact (Kd.C_below HR1.out HB.out) | (with_reducible refine Kd.C_alloc ?_ _) | (with_reducible refine Kd.C_drewN ?_ _) | (with_reducible refine Kd.C_drew ?_))); (case side2 => exact HC1.out); rintro e w' ⟨rfl, ⟨nd, rfl⟩⟩))
        go_ret
        exact ⟨by first | rfl | (simp [errW_none, errW_some] <;> rfl) | (simp [*, errW_none, errW_some] <;> rfl), by repeat (first | (with_reducible first | exact HB.out | apply below_alloc | apply pw_below_drewN | apply below_drew1 | refine below_set ?_ GE146.out) | exact HB.out)⟩
      · rw [if_neg c8] at H
        have c8b0 : decide ((l1.length : Int) ≤ 200) = false := decide_eq_false c8
        have c8b1 : decide (l1.length ≤ 200) = false := decide_eq_false (by omega)
        clear c8
        obtain rfl := Option.some.inj H
        go_enter Try.func37, Try.ntmps37
        go_wp2_with (first | ((with_reducible refine gate_dst (N := 3) rfl ?_); (try (refine gate_guard (by rfl) ?_; dsimp only)); refine box_event ?hg (N := 3) ?hd (cs := #[.int .i64 a0_0, .int .i64 a0_1, .int .i64 a0_2, .slice A0_3 l0_3.length c0_3, .slice A0_4 l0_4.length c0_4]) (t := 24) ?hr ?_; (case hd => rfl); (case hg => rfl); (case hr => first | (go_simp; done) | (go_simp; rfl)); intro gb146 hg w15 hbox hb; have n0_ := Aside0.mk (below_step (by repeat (first | (with_reducible first | exact HB.out | apply below_alloc | apply pw_below_drewN | apply below_drew1) | exact HB.out)) hb); have n1_ := Aside0.mk (hbox); have n2_ := Aside0.mk ((by rw [hg]; exact (below_size (by repeat (first | (with_reducible first | exact HB.out | apply below_alloc | apply pw_below_drewN | apply below_drew1) | exact HB.out))) : w.heap.size ≤ gb146)); have n3_ := Aside0.mk ((by rw [hg]; exact (below_size (by repeat (first | (with_reducible first | exact HB.out | apply below_alloc | apply pw_below_drewN | apply below_drew1) | exact HB.out))) : w.heap.size ≤ gb146)); clear HB; have HB := n0_; have BK146 := n1_; have GW146 := n2_; have GE146 := n3_; clear n0_ n1_ n2_ n3_; clear hb hbox hg; have hcz16_0 : w15.cell? ⟨gb146, 0, none⟩ = some (.int .i64 a0_0) := (blk_cell BK146.out 0).trans rfl; have hcz16_1 : w15.cell? ⟨gb146, 1, none⟩ = some (.int .i64 a0_1) := (blk_cell BK146.out 1).trans rfl; have hcz16_2 : w15.cell? ⟨gb146, 2, none⟩ = some (.int .i64 a0_2) := (blk_cell BK146.out 2).trans rfl; have hcz16_3 : w15.cell? ⟨gb146, 3, none⟩ = some (.slice A0_3 l0_3.length c0_3) := (blk_cell BK146.out 3).trans rfl; have hcz16_4 : w15.cell? ⟨gb146, 4, none⟩ = some (.slice A0_4 l0_4.length c0_4) := (blk_cell BK146.out 4).trans rfl; have hfz16_0 := blk_frozen BK146.out 0; have hfz16_1 := blk_frozen BK146.out 1; have hfz16_2 := blk_frozen BK146.out 2; have hfz16_3 := blk_frozen BK146.out 3; have hfz16_4 := blk_frozen BK146.out 4) | ((with_reducible refine gate_callee (f := 21) rfl ?_); refine goesL_ (some 9) rfl rfl Try.func21 (by kernel_rfl) rfl #[.agg #[.int .i64 a0_0, .int .i64 a0_1, .int .i64 a0_2, .slice A0_3 l0_3.length c0_3, .slice A0_4 l0_4.length c0_4], .int .i64 a2] rfl (by (try simp only [List.map_toArray, List.map_cons, List.map_nil]); first | done | rfl | (simp only [List.length_drop, List.length_take]; rfl)) ?_; (with_reducible refine (taquinref07_Few.calls a0_0 a0_1 a0_2 _ _ l0_3 _ _ l0_4 a2 true _ ?side1 ?side2 ?side3 ?side4 A4.out).mono ?_); (case side1 => repeat (first | exact (Kd.C_below HR0_3.out HB.out) | (with_reducible refine Kd.C_alloc ?_ _) | (with_reducible refine Kd.C_drewN ?_ _) | (with_reducible refine Kd.C_drew ?_))); (case side2 => exact HC0_3.out); (case side3 => repeat (first | exact (Kd.C_below HR0_4.out HB.out) | (with_reducible refine Kd.C_alloc ?_ _) | (with_reducible refine Kd.C_drewN ?_ _) | (with_reducible refine Kd.C_drew ?_))); (case side4 => exact HC0_4.out); rintro e w17 ⟨rfl, hb⟩; refine ⟨_, rfl, ?_⟩; have n0_ := Aside0.mk (blk_below (g := gb146) (o := .cells #[.int .i64 a0_0, .int .i64 a0_1, .int .i64 a0_2, .slice A0_3 l0_3.length c0_3, .slice A0_4 l0_4.length c0_4] 24 (0, 0)) (by (with_reducible repeat (first | refine blk_drewN ?_ _ | refine blk_drew ?_ | refine blk_alloc ?_ _)); exact BK146.out) hb); have n1_ := Aside0.mk (below_step (by repeat (first | (with_reducible first | exact HB.out | apply below_alloc | apply pw_below_drewN | apply below_drew1 | refine below_set ?_ GE146.out) | exact HB.out)) hb); clear BK146; clear HB; have BK146 := n0_; have HB := n1_; clear n0_ n1_; (try clear hb); (try clear hb2); (try clear hk); (try clear hi); have hcz18_0 : w17.cell? ⟨gb146, 0, none⟩ = some (.int .i64 a0_0) := (blk_cell BK146.out 0).trans rfl; have hcz18_1 : w17.cell? ⟨gb146, 1, none⟩ = some (.int .i64 a0_1) := (blk_cell BK146.out 1).trans rfl; have hcz18_2 : w17.cell? ⟨gb146, 2, none⟩ = some (.int .i64 a0_2) := (blk_cell BK146.out 2).trans rfl; have hcz18_3 : w17.cell? ⟨gb146, 3, none⟩ = some (.slice A0_3 l0_3.length c0_3) := (blk_cell BK146.out 3).trans rfl; have hcz18_4 : w17.cell? ⟨gb146, 4, none⟩ = some (.slice A0_4 l0_4.length c0_4) := (blk_cell BK146.out 4).trans rfl; have hfz18_0 := blk_frozen BK146.out 0; have hfz18_1 := blk_frozen BK146.out 1; have hfz18_2 := blk_frozen BK146.out 2; have hfz18_3 := blk_frozen BK146.out 3; have hfz18_4 := blk_frozen BK146.out 4) | (go_at_call 22; (with_reducible refine (floor_Right.calls k a0_0 a0_1 a0_2 _ _ l0_3 _ _ l0_4 true _ ?side1 ?side2 ?side3 ?side4 A6.out).mono ?_); (case side1 => repeat (first | exact (Kd.C_below HR0_3.out HB.out) | (with_reducible refine Kd.C_alloc ?_ _) | (with_reducible refine Kd.C_drewN ?_ _) | (with_reducible refine Kd.C_drew ?_))); (case side2 => exact HC0_3.out); (case side3 => repeat (first | exact (Kd.C_below HR0_4.out HB.out) | (with_reducible refine Kd.C_alloc ?_ _) | (with_reducible refine Kd.C_drewN ?_ _) | (with_reducible refine Kd.C_drew ?_))); (case side4 => exact HC0_4.out); rintro e w19 ⟨rfl, hb⟩; have n0_ := Aside0.mk (blk_below (g := gb146) (o := .cells #[.int .i64 a0_0, .int .i64 a0_1, .int .i64 a0_2, .slice A0_3 l0_3.length c0_3, .slice A0_4 l0_4.length c0_4] 24 (0, 0)) (by (with_reducible repeat (first | refine blk_drewN ?_ _ | refine blk_drew ?_ | refine blk_alloc ?_ _)); exact BK146.out) hb); have n1_ := Aside0.mk (below_step (by repeat (first | (with_reducible first | exact HB.out | apply below_alloc | apply pw_below_drewN | apply below_drew1 | refine below_set ?_ GE146.out) | exact HB.out)) hb); clear BK146; clear HB; have BK146 := n0_; have HB := n1_; clear n0_ n1_; (try clear hb); (try clear hb2); (try clear hk); (try clear hi)))
        go_ret
        exact ⟨by first | rfl | (simp [errW_none, errW_some] <;> rfl) | (simp [*, errW_none, errW_some] <;> rfl), by repeat (first | (with_reducible first | exact HB.out | apply below_alloc | apply pw_below_drewN | apply below_drew1 | refine below_set ?_ GE146.out) | exact HB.out)⟩
    · replace c7 := Bool.eq_false_iff.mpr c7
      subst c7
      have H1 : (some false) = some r := by rw [if_neg (show ¬ (false = true) by decide)] at H; exact H
      clear H
      have H := H1
      clear H1
      obtain rfl := Option.some.inj H
      go_enter Try.func37, Try.ntmps37
      go_wp2_with (first | ((with_reducible refine gate_dst (N := 3) rfl ?_); (try (refine gate_guard (by rfl) ?_; dsimp only)); refine box_event ?hg (N := 3) ?hd (cs := #[.int .i64 a0_0, .int .i64 a0_1, .int .i64 a0_2, .slice A0_3 l0_3.length c0_3, .slice A0_4 l0_4.length c0_4]) (t := 24) ?hr ?_; (case hd => rfl); (case hg => rfl); (case hr => first | (go_simp; done) | (go_simp; rfl)); intro gb146 hg w20 hbox hb; have n0_ := Aside0.mk (below_step (by repeat (first | (with_reducible first | exact HB.out | apply below_alloc | apply pw_below_drewN | apply below_drew1) | exact HB.out)) hb); have n1_ := Aside0.mk (hbox); have n2_ := Aside0.mk ((by rw [hg]; exact (below_size (by repeat (first | (with_reducible first | exact HB.out | apply below_alloc | apply pw_below_drewN | apply below_drew1) | exact HB.out))) : w.heap.size ≤ gb146)); have n3_ := Aside0.mk ((by rw [hg]; exact (below_size (by repeat (first | (with_reducible first | exact HB.out | apply below_alloc | apply pw_below_drewN | apply below_drew1) | exact HB.out))) : w.heap.size ≤ gb146)); clear HB; have HB := n0_; have BK146 := n1_; have GW146 := n2_; have GE146 := n3_; clear n0_ n1_ n2_ n3_; clear hb hbox hg; have hcz21_0 : w20.cell? ⟨gb146, 0, none⟩ = some (.int .i64 a0_0) := (blk_cell BK146.out 0).trans rfl; have hcz21_1 : w20.cell? ⟨gb146, 1, none⟩ = some (.int .i64 a0_1) := (blk_cell BK146.out 1).trans rfl; have hcz21_2 : w20.cell? ⟨gb146, 2, none⟩ = some (.int .i64 a0_2) := (blk_cell BK146.out 2).trans rfl; have hcz21_3 : w20.cell? ⟨gb146, 3, none⟩ = some (.slice A0_3 l0_3.length c0_3) := (blk_cell BK146.out 3).trans rfl; have hcz21_4 : w20.cell? ⟨gb146, 4, none⟩ = some (.slice A0_4 l0_4.length c0_4) := (blk_cell BK146.out 4).trans rfl; have hfz21_0 := blk_frozen BK146.out 0; have hfz21_1 := blk_frozen BK146.out 1; have hfz21_2 := blk_frozen BK146.out 2; have hfz21_3 := blk_frozen BK146.out 3; have hfz21_4 := blk_frozen BK146.out 4) | ((with_reducible refine gate_callee (f := 21) rfl ?_); refine goesL_ (some 9) rfl rfl Try.func21 (by kernel_rfl) rfl #[.agg #[.int .i64 a0_0, .int .i64 a0_1, .int .i64 a0_2, .slice A0_3 l0_3.length c0_3, .slice A0_4 l0_4.length c0_4], .int .i64 a2] rfl (by (try simp only [List.map_toArray, List.map_cons, List.map_nil]); first | done | rfl | (simp only [List.length_drop, List.length_take]; rfl)) ?_; (with_reducible refine (taquinref07_Few.calls a0_0 a0_1 a0_2 _ _ l0_3 _ _ l0_4 a2 true _ ?side1 ?side2 ?side3 ?side4 A4.out).mono ?_); (case side1 => repeat (first | exact (Kd.C_below HR0_3.out HB.out) | (with_reducible refine Kd.C_alloc ?_ _) | (with_reducible refine Kd.C_drewN ?_ _) | (with_reducible refine Kd.C_drew ?_))); (case side2 => exact HC0_3.out); (case side3 => repeat (first | exact (Kd.C_below HR0_4.out HB.out) | (with_reducible refine Kd.C_alloc ?_ _) | (with_reducible refine Kd.C_drewN ?_ _) | (with_reducible refine Kd.C_drew ?_))); (case side4 => exact HC0_4.out); rintro e w22 ⟨rfl, hb⟩; refine ⟨_, rfl, ?_⟩; have n0_ := Aside0.mk (blk_below (g := gb146) (o := .cells #[.int .i64 a0_0, .int .i64 a0_1, .int .i64 a0_2, .slice A0_3 l0_3.length c0_3, .slice A0_4 l0_4.length c0_4] 24 (0, 0)) (by (with_reducible repeat (first | refine blk_drewN ?_ _ | refine blk_drew ?_ | refine blk_alloc ?_ _)); exact BK146.out) hb); have n1_ := Aside0.mk (below_step (by repeat (first | (with_reducible first | exact HB.out | apply below_alloc | apply pw_below_drewN | apply below_drew1 | refine below_set ?_ GE146.out) | exact HB.out)) hb); clear BK146; clear HB; have BK146 := n0_; have HB := n1_; clear n0_ n1_; (try clear hb); (try clear hb2); (try clear hk); (try clear hi); have hcz23_0 : w22.cell? ⟨gb146, 0, none⟩ = some (.int .i64 a0_0) := (blk_cell BK146.out 0).trans rfl; have hcz23_1 : w22.cell? ⟨gb146, 1, none⟩ = some (.int .i64 a0_1) := (blk_cell BK146.out 1).trans rfl; have hcz23_2 : w22.cell? ⟨gb146, 2, none⟩ = some (.int .i64 a0_2) := (blk_cell BK146.out 2).trans rfl; have hcz23_3 : w22.cell? ⟨gb146, 3, none⟩ = some (.slice A0_3 l0_3.length c0_3) := (blk_cell BK146.out 3).trans rfl; have hcz23_4 : w22.cell? ⟨gb146, 4, none⟩ = some (.slice A0_4 l0_4.length c0_4) := (blk_cell BK146.out 4).trans rfl; have hfz23_0 := blk_frozen BK146.out 0; have hfz23_1 := blk_frozen BK146.out 1; have hfz23_2 := blk_frozen BK146.out 2; have hfz23_3 := blk_frozen BK146.out 3; have hfz23_4 := blk_frozen BK146.out 4) | (go_at_call 22; (with_reducible refine (floor_Right.calls k a0_0 a0_1 a0_2 _ _ l0_3 _ _ l0_4 false _ ?side1 ?side2 ?side3 ?side4 A6.out).mono ?_); (case side1 => repeat (first | exact (Kd.C_below HR0_3.out HB.out) | (with_reducible refine Kd.C_alloc ?_ _) | (with_reducible refine Kd.C_drewN ?_ _) | (with_reducible refine Kd.C_drew ?_))); (case side2 => exact HC0_3.out); (case side3 => repeat (first | exact (Kd.C_below HR0_4.out HB.out) | (with_reducible refine Kd.C_alloc ?_ _) | (with_reducible refine Kd.C_drewN ?_ _) | (with_reducible refine Kd.C_drew ?_))); (case side4 => exact HC0_4.out); rintro e w24 ⟨rfl, hb⟩; have n0_ := Aside0.mk (blk_below (g := gb146) (o := .cells #[.int .i64 a0_0, .int .i64 a0_1, .int .i64 a0_2, .slice A0_3 l0_3.length c0_3, .slice A0_4 l0_4.length c0_4] 24 (0, 0)) (by (with_reducible repeat (first | refine blk_drewN ?_ _ | refine blk_drew ?_ | refine blk_alloc ?_ _)); exact BK146.out) hb); have n1_ := Aside0.mk (below_step (by repeat (first | (with_reducible first | exact HB.out | apply below_alloc | apply pw_below_drewN | apply below_drew1 | refine below_set ?_ GE146.out) | exact HB.out)) hb); clear BK146; clear HB; have BK146 := n0_; have HB := n1_; clear n0_ n1_; (try clear hb); (try clear hb2); (try clear hk); (try clear hi)))
      go_ret
      exact ⟨by first | rfl | (simp [errW_none, errW_some] <;> rfl) | (simp [*, errW_none, errW_some] <;> rfl), by repeat (first | (with_reducible first | exact HB.out | apply below_alloc | apply pw_below_drewN | apply below_drew1 | refine below_set ?_ GE146.out) | exact HB.out)⟩
  · replace c5 := Bool.eq_false_iff.mpr c5
    subst c5
    have H1 : (some false) = some r := by rw [if_neg (show ¬ (false = true) by decide)] at H; exact H
    clear H
    have H := H1
    clear H1
    obtain rfl := Option.some.inj H
    go_enter Try.func37, Try.ntmps37
    go_wp2_with (first | ((with_reducible refine gate_dst (N := 3) rfl ?_); (try (refine gate_guard (by rfl) ?_; dsimp only)); refine box_event ?hg (N := 3) ?hd (cs := #[.int .i64 a0_0, .int .i64 a0_1, .int .i64 a0_2, .slice A0_3 l0_3.length c0_3, .slice A0_4 l0_4.length c0_4]) (t := 24) ?hr ?_; (case hd => rfl); (case hg => rfl); (case hr => first | (go_simp; done) | (go_simp; rfl)); intro gb146 hg w25 hbox hb; have n0_ := Aside0.mk (below_step (by repeat (first | (with_reducible first | exact HB.out | apply below_alloc | apply pw_below_drewN | apply below_drew1) | exact HB.out)) hb); have n1_ := Aside0.mk (hbox); have n2_ := Aside0.mk ((by rw [hg]; exact (below_size (by repeat (first | (with_reducible first | exact HB.out | apply below_alloc | apply pw_below_drewN | apply below_drew1) | exact HB.out))) : w.heap.size ≤ gb146)); have n3_ := Aside0.mk ((by rw [hg]; exact (below_size (by repeat (first | (with_reducible first | exact HB.out | apply below_alloc | apply pw_below_drewN | apply below_drew1) | exact HB.out))) : w.heap.size ≤ gb146)); clear HB; have HB := n0_; have BK146 := n1_; have GW146 := n2_; have GE146 := n3_; clear n0_ n1_ n2_ n3_; clear hb hbox hg; have hcz26_0 : w25.cell? ⟨gb146, 0, none⟩ = some (.int .i64 a0_0) := (blk_cell BK146.out 0).trans rfl; have hcz26_1 : w25.cell? ⟨gb146, 1, none⟩ = some (.int .i64 a0_1) := (blk_cell BK146.out 1).trans rfl; have hcz26_2 : w25.cell? ⟨gb146, 2, none⟩ = some (.int .i64 a0_2) := (blk_cell BK146.out 2).trans rfl; have hcz26_3 : w25.cell? ⟨gb146, 3, none⟩ = some (.slice A0_3 l0_3.length c0_3) := (blk_cell BK146.out 3).trans rfl; have hcz26_4 : w25.cell? ⟨gb146, 4, none⟩ = some (.slice A0_4 l0_4.length c0_4) := (blk_cell BK146.out 4).trans rfl; have hfz26_0 := blk_frozen BK146.out 0; have hfz26_1 := blk_frozen BK146.out 1; have hfz26_2 := blk_frozen BK146.out 2; have hfz26_3 := blk_frozen BK146.out 3; have hfz26_4 := blk_frozen BK146.out 4) | ((with_reducible refine gate_callee (f := 21) rfl ?_); refine goesL_ (some 9) rfl rfl Try.func21 (by kernel_rfl) rfl #[.agg #[.int .i64 a0_0, .int .i64 a0_1, .int .i64 a0_2, .slice A0_3 l0_3.length c0_3, .slice A0_4 l0_4.length c0_4], .int .i64 a2] rfl (by (try simp only [List.map_toArray, List.map_cons, List.map_nil]); first | done | rfl | (simp only [List.length_drop, List.length_take]; rfl)) ?_; (with_reducible refine (taquinref07_Few.calls a0_0 a0_1 a0_2 _ _ l0_3 _ _ l0_4 a2 false _ ?side1 ?side2 ?side3 ?side4 A4.out).mono ?_); (case side1 => repeat (first | exact (Kd.C_below HR0_3.out HB.out) | (with_reducible refine Kd.C_alloc ?_ _) | (with_reducible refine Kd.C_drewN ?_ _) | (with_reducible refine Kd.C_drew ?_))); (case side2 => exact HC0_3.out); (case side3 => repeat (first | exact (Kd.C_below HR0_4.out HB.out) | (with_reducible refine Kd.C_alloc ?_ _) | (with_reducible refine Kd.C_drewN ?_ _) | (with_reducible refine Kd.C_drew ?_))); (case side4 => exact HC0_4.out); rintro e w27 ⟨rfl, hb⟩; refine ⟨_, rfl, ?_⟩; have n0_ := Aside0.mk (blk_below (g := gb146) (o := .cells #[.int .i64 a0_0, .int .i64 a0_1, .int .i64 a0_2, .slice A0_3 l0_3.length c0_3, .slice A0_4 l0_4.length c0_4] 24 (0, 0)) (by (with_reducible repeat (first | refine blk_drewN ?_ _ | refine blk_drew ?_ | refine blk_alloc ?_ _)); exact BK146.out) hb); have n1_ := Aside0.mk (below_step (by repeat (first | (with_reducible first | exact HB.out | apply below_alloc | apply pw_below_drewN | apply below_drew1 | refine below_set ?_ GE146.out) | exact HB.out)) hb); clear BK146; clear HB; have BK146 := n0_; have HB := n1_; clear n0_ n1_; (try clear hb); (try clear hb2); (try clear hk); (try clear hi)))
    go_ret
    exact ⟨by first | rfl | (simp [errW_none, errW_some] <;> rfl) | (simp [*, errW_none, errW_some] <;> rfl), by repeat (first | (with_reducible first | exact HB.out | apply below_alloc | apply pw_below_drewN | apply below_drew1 | refine below_set ?_ GE146.out) | exact HB.out)⟩
end Go.Proofs.Ytmnncmpmhbfpcaa.V
end
section
namespace Go.Proofs.Ytmnncmpmhbfpcaa.V
open Go.Proofs.Ytmnncmpmhbfpcaa.A
open Go.Proofs.Ytmnncmpmhbfpcaa.H
open Go.Proofs.Ytmnncmpmhbfpcaa.B
open Go.Proofs.Ytmnncmpmhbfpcaa.S
open Go.Proofs.Ytmnncmpmhbfpcaa.C
open Go.Proofs.Ytmnncmpmhbfpcaa.D
open Go.RowKit Go.Proofs.YtmnncmpmhbfpcaaW.PrintWords Go.Proofs.YtmnncmpmhbfpcaaW.PrintLast Go.Proofs.YtmnncmpmhbfpcaaW.PrintMore
attribute [local go_sem] max2_int min2_int max_two min_two max_three min_three max_four min_four   -- for this text's walks alone
set_option linter.unusedVariables false
set_option linter.unusedSimpArgs false
end Go.Proofs.Ytmnncmpmhbfpcaa.V
end
section
namespace Go.Proofs.Ytmnncmpmhbfpcaa.U
set_option linter.unusedVariables false
set_option linter.unusedSimpArgs false
open Go.RowKit Go.Proofs.YtmnncmpmhbfpcaaW.PrintWords Go.Proofs.YtmnncmpmhbfpcaaW.PrintLast Go.Proofs.YtmnncmpmhbfpcaaW.PrintMore
open Go.Proofs.Ytmnncmpmhbfpcaa.A Go.Proofs.Ytmnncmpmhbfpcaa.H Go.Proofs.Ytmnncmpmhbfpcaa.B Go.Proofs.Ytmnncmpmhbfpcaa.S Go.Proofs.Ytmnncmpmhbfpcaa.P Go.Proofs.Ytmnncmpmhbfpcaa.V
def Asc (l : List Int) : Prop := ∀ i j : Nat, i < j → j < l.length → l.getD i 0 < l.getD j 0
theorem less_said (a b : Int) : cmp_Less_int.f a b = some (decide (a < b)) := by
  unfold cmp_Less_int.f cmp_isNaN_int.f
  simp
theorem bs_mid (i j : Nat) (hj : i + j ≤ 2000000) : wrap64 ((IntKind.u64.wrap (wrap64 ((i : Int) + j))) / 2) = (((i + j) / 2 : Nat) : Int) := by
  rw [wsm ((i : Int) + j) (by omega) (by omega)]
  have : IntKind.u64.wrap ((i : Int) + j) = (i : Int) + j := by
    simp [IntKind.wrap, IntKind.signed, IntKind.bits]
    omega
  rw [this, wsm _ (by omega) (by omega)]
  omega
theorem bs_end (l : List Int) (t : Int) (ha : Asc l) (i k : Nat) (h1 : ∀ x, x < i → l.getD x 0 < t) (h2 : ∀ x, i ≤ x → x < l.length → t ≤ l.getD x 0) :
    ∃ r, slices_BinarySearch_int_int.l0 (k + 1) l t (l.length : Int) (i : Int) (i : Int) = some r ∧ (r.2 = true ↔ ∃ x, x < l.length ∧ l.getD x 0 = t) := by
  rw [slices_BinarySearch_int_int.l0, if_neg (by omega)]
  by_cases hi : i < l.length
  · rw [if_pos (by omega), if_pos (by omega), if_pos (by omega), rd_nat]
    by_cases e : l.getD i 0 = t
    · rw [if_pos e]
      exact ⟨_, rfl, fun _ => ⟨i, hi, e⟩, fun _ => rfl⟩
    · rw [if_neg e]
      refine ⟨((i : Int), false), by simp [slices_isNaN_int.f], ?_⟩
      constructor
      · intro h; cases h
      · rintro ⟨x, hx, hxt⟩
        exfalso
        by_cases hxi : x < i
        · have := h1 x hxi
          omega
        · by_cases hxe : x = i
          · subst hxe
            exact e hxt
          · have h3 := ha i x (by omega) hx
            have h4 := h2 i (Nat.le_refl _) hi
            omega
  · rw [if_neg (by omega)]
    refine ⟨_, rfl, ?_⟩
    constructor
    · intro h; cases h
    · rintro ⟨x, hx, hxt⟩
      have := h1 x (by omega)
      omega
theorem asc_le {l : List Int} (ha : Asc l) {i j : Nat} (hij : i ≤ j) (hj : j < l.length) : l.getD i 0 ≤ l.getD j 0 := by
  by_cases e : i = j
  · subst e
    exact Int.le_refl _
  · have := ha i j (by omega) hj
    omega
theorem bs_loop (l : List Int) (t : Int) (ha : Asc l) (hl : l.length ≤ 1000000) : ∀ (m i j k : Nat), j - i ≤ m → i ≤ j → j ≤ l.length → m + 2 ≤ k → (∀ x, x < i → l.getD x 0 < t) → (∀ x, j ≤ x → x < l.length → t ≤ l.getD x 0) →
    ∃ r, slices_BinarySearch_int_int.l0 k l t (l.length : Int) (i : Int) (j : Int) = some r ∧ (r.2 = true ↔ ∃ x, x < l.length ∧ l.getD x 0 = t) := by
  intro m
  induction m with
  | zero =>
    intro i j k hm hij hjl hk h1 h2
    obtain ⟨k, rfl⟩ : ∃ q, k = q + 1 := ⟨k - 1, by omega⟩
    obtain rfl : i = j := by omega
    exact bs_end l t ha i k h1 h2
  | succ m ih =>
    intro i j k hm hij hjl hk h1 h2
    obtain ⟨k, rfl⟩ : ∃ q, k = q + 1 := ⟨k - 1, by omega⟩
    by_cases hlt : i < j
    · have HMID := Lib.hid (bs_mid i j (by omega))
      rw [slices_BinarySearch_int_int.l0, if_pos (by omega), HMID.out, if_pos (by omega), if_pos (by omega), rd_nat, less_said]
      simp only [Option.bind_some]
      obtain ⟨h, hh⟩ : ∃ h, (i + j) / 2 = h := ⟨_, rfl⟩
      have hi1 : i ≤ h := by omega
      have hi2 : h < j := by omega
      rw [hh]
      by_cases e : l.getD h 0 < t
      · have HUP : Hid (wrap64 ((h : Int) + 1) = ((h + 1 : Nat) : Int)) := Lib.hid (by rw [wsm _ (by omega) (by omega)]; rfl)
        rw [decide_eq_true e, if_pos rfl, HUP.out]
        refine ih (h + 1) j k (by omega) (by omega) hjl (by omega) (fun x hx => ?_) h2
        have := asc_le ha (show x ≤ h by omega) (by omega)
        omega
      · rw [decide_eq_false e, if_neg (by simp)]
        refine ih i h k (by omega) hi1 (by omega) (by omega) h1 (fun x hx hxl => ?_)
        have := asc_le ha hx hxl
        omega
    · obtain rfl : i = j := by omega
      exact bs_end l t ha i k h1 h2
end Go.Proofs.Ytmnncmpmhbfpcaa.U
end
section
namespace Go.Proofs.Ytmnncmpmhbfpcaa.U
set_option linter.unusedVariables false
set_option linter.unusedSimpArgs false
open Go.RowKit Go.Proofs.YtmnncmpmhbfpcaaW.PrintWords Go.Proofs.YtmnncmpmhbfpcaaW.PrintLast Go.Proofs.YtmnncmpmhbfpcaaW.PrintMore
open Go.Proofs.Ytmnncmpmhbfpcaa.A Go.Proofs.Ytmnncmpmhbfpcaa.H Go.Proofs.Ytmnncmpmhbfpcaa.B Go.Proofs.Ytmnncmpmhbfpcaa.S Go.Proofs.Ytmnncmpmhbfpcaa.P Go.Proofs.Ytmnncmpmhbfpcaa.V
def T46 : Bool × List (List Nat × List Nat) := (true, [([], []), ([0], [0]), ([1], [1]), ([2], [2]), ([3], [3]), ([3], [3]), ([3], [3]), ([6, 3], [3, 6]), ([7, 3], [3, 7]), ([4, 5, 8, 3, 3], [3, 4, 5, 8]), ([3], [3]), ([9, 10, 9, 3], [3, 9, 10]), ([3, 11], [3, 11]), ([12, 11, 0, 1, 2, 3, 4, 5, 6, 7, 8, 9, 10, 11, 12], [12])])
def B46 : List Nat := [0, 1, 3, 7, 15, 15, 15, 79, 207, 511, 15, 2047, 4095, 8191]
theorem tab46 : rtab .any (opsOf Try.f46 1) = T46 := by kernel_rfl
theorem bits46 : waitsOk T46.2 B46 = true := by kernel_rfl
set_option maxRecDepth 100000 in
set_option maxHeartbeats 8000000 in
theorem ulinked_nil (a0_0 : Int) (a0_1 : Int) (a0_2 : Int) (A0_3 : Option Addr) (c0_3 : Nat) (l0_3 : List Int) (A0_4 : Option Addr) (c0_4 : Nat) (l0_4 : List Int) (A1 : Option Addr) (c1 : Nat) (l1 : List Int) (w : World) (hp : l1.length = 0) :
    Calls Try.prog 46 #[.agg #[.int .i64 a0_0, .int .i64 a0_1, .int .i64 a0_2, .slice A0_3 l0_3.length c0_3, .slice A0_4 l0_4.length c0_4], .slice A1 l1.length c1] w fun e w' => e = .returned (.bool true) ∧ Below w.heap.size w w' := by
  have HB0 := Lib.hid ((Below.refl w.heap.size w).alloc (Nat.le_refl _) (.cells #[.int .i64 a0_0, .int .i64 a0_1, .int .i64 a0_2, .slice A0_3 l0_3.length c0_3, .slice A0_4 l0_4.length c0_4] 24))
  rw [hp]
  go_enter Try.func46, Try.ntmps46
  go_upto_region 1 with (fail)
  go_quiet (fail)
  go_wp2_with fail
  go_ret
  exact ⟨rfl, pw_below_drewN HB0.out _⟩
set_option maxRecDepth 100000 in
set_option maxHeartbeats 8000000 in
theorem ulinked (a0_0 : Int) (a0_1 : Int) (a0_2 : Int) (A0_3 : Option Addr) (c0_3 : Nat) (l0_3 : List Int) (A0_4 : Option Addr) (c0_4 : Nat) (l0_4 : List Int) (A1 : Option Addr) (c1 : Nat) (l1 : List Int) (w : World) (hr1 : Kd.C (Kd.int .i64) w A1 l1.length l1) (hc1 : l1.length ≤ c1) (hp : 0 < l1.length) (a2 : Int) (ha2 : l1.getD 0 0 = a2) (p : List Int)
    (HP : Hid (∀ W, Below w.heap.size w W → Calls Try.prog 75 #[.agg #[.int .i64 a0_0, .int .i64 a0_1, .int .i64 a0_2, .slice A0_3 l0_3.length c0_3, .slice A0_4 l0_4.length c0_4], .slice A1 l1.length c1, .int .i64 a2] W fun e w' => ∃ v0, e = .returned v0 ∧ Kd.R (Kd.int .i64) 3 w' W.heap.size (fun _ => True) v0 p ∧ Below W.heap.size W w')) (g : Bool) (hsame : region_Same.f 5000 p l1 = some g) :
    Calls Try.prog 46 #[.agg #[.int .i64 a0_0, .int .i64 a0_1, .int .i64 a0_2, .slice A0_3 l0_3.length c0_3, .slice A0_4 l0_4.length c0_4], .slice A1 l1.length c1] w fun e w' => e = .returned (.bool g) ∧ Below w.heap.size w w' := by
  have HR1 := Lib.hid hr1
  obtain ⟨ad, rfl, hadlt, hcell⟩ := reads_at hr1 hp
  have hck0 : w.cell? ad = some (.int .i64 a2) := by
    have h := hcell 0 hp
    rw [show ad.add 0 = ad by unfold Addr.add; simp, ← List.getD_eq_getElem?_getD, ha2] at h
    exact h
  have HCK := Lib.hid hck0
  have HF0 := Lib.hid (FBox.new w #[.int .i64 a0_0, .int .i64 a0_1, .int .i64 a0_2, .slice A0_3 l0_3.length c0_3, .slice A0_4 l0_4.length c0_4])
  have HB0 := Lib.hid ((Below.refl w.heap.size w).alloc (Nat.le_refl _) (.cells #[.int .i64 a0_0, .int .i64 a0_1, .int .i64 a0_2, .slice A0_3 l0_3.length c0_3, .slice A0_4 l0_4.length c0_4] 24))
  clear hcell hck0
  go_enter Try.func46, Try.ntmps46
  go_upto_region 1 with (fail)
  have hb := below_drew1 (Below.refl (w.alloc (.cells #[.int .i64 a0_0, .int .i64 a0_1, .int .i64 a0_2, .slice A0_3 l0_3.length c0_3, .slice A0_4 l0_4.length c0_4] 24)).heap.size (w.alloc (.cells #[.int .i64 a0_0, .int .i64 a0_1, .int .i64 a0_2, .slice A0_3 l0_3.length c0_3, .slice A0_4 l0_4.length c0_4] 24)))
  have HB1 := Lib.hid (HB0.out.trans (hb.mono HB0.out.size))
  have HF1 := Lib.hid (HF0.out.below hb (by simp))
  clear hb HB0 HF0
  have hck : (w.alloc (.cells #[.int .i64 a0_0, .int .i64 a0_1, .int .i64 a0_2, .slice A0_3 l0_3.length c0_3, .slice A0_4 l0_4.length c0_4] 24)).drew.cell? ad = some (.int .i64 a2) := (HB1.out.cell (p := ad) hadlt).trans HCK.out
  obtain ⟨e0, e1, e2, e3, e4⟩ := HF1.out.cells
  refine start_ (n := 14) (S := fun w' => w'.cell? ⟨w.heap.size, 0, none⟩ = some (.int .i64 a0_0) ∧ w'.cell? ⟨w.heap.size, 1, none⟩ = some (.int .i64 a0_1) ∧ w'.cell? ⟨w.heap.size, 2, none⟩ = some (.int .i64 a0_2) ∧ w'.cell? ⟨w.heap.size, 3, none⟩ = some (.slice A0_3 l0_3.length c0_3) ∧ w'.cell? ⟨w.heap.size, 4, none⟩ = some (.slice A0_4 l0_4.length c0_4) ∧ w'.cell? ad = some (.int .i64 a2)) (ds := []) #[false, false, false, false, false, false, false, false, false, false, false, false, false, false] (by kernel_rfl) rfl rfl ⟨e0, e1, e2, e3, e4, hck⟩ (fun hHeld => ?_); refine with_tabW tab46 bits46 (fun HT_ HW_ => ?_)
  clear e0 e1 e2 e3 e4 hck
  generalize (w.alloc (.cells #[.int .i64 a0_0, .int .i64 a0_1, .int .i64 a0_2, .slice A0_3 l0_3.length c0_3, .slice A0_4 l0_4.length c0_4] 24)).drew = w1 at HB1 HF1 hHeld ⊢
  have z1 : ((l1.length : Int) == 0) = false := by rw [beq_eq_false_iff_ne]; omega
  have z2 : decide ((l1.length : Int) = 0) = false := decide_eq_false (by omega)
  have z3 : ((0 : Int) < (l1.length : Int)) = True := eq_true (by omega)
  have z4 : (l1.length = 0) = False := eq_false (by omega)
  have z5 : (l1 = []) = False := eq_false (fun e => by rw [e] at hp; simp at hp)
  have z6 : (0 < l1.length) = True := eq_true hp
  refine pure_ (i := 0) (N := some 5) (v := ?_) (a' := ?_) #[true, false, false, false, false, false, false, false, false, false, false, false, false, false] rfl rfl (any_of HT_.out (by kernel_rfl)) (fun _ _ _ h => h) (Or.inl ⟨by rfl, ?_⟩) ?_ ?_
  rotate_left
  · intro w'
    go_simp
    with_reducible rfl
  rotate_left
  · simp only [Act.put, List.setIfInBounds_toArray, List.set_cons_zero, List.set_cons_succ, i64_w, i32_w]
    rfl
  refine pure_ (i := 1) (N := some 6) (v := ?_) (a' := ?_) #[true, true, false, false, false, false, false, false, false, false, false, false, false, false] rfl rfl (any_of HT_.out (by kernel_rfl)) (fun _ _ _ h => h) (Or.inl ⟨by rfl, ?_⟩) ?_ ?_
  rotate_left
  · intro w'
    go_simp
    with_reducible rfl
  rotate_left
  · simp only [Act.put, List.setIfInBounds_toArray, List.set_cons_zero, List.set_cons_succ, i64_w, i32_w]
    rfl
  refine pure_ (i := 2) (N := some 7) (v := ?_) (a' := ?_) #[true, true, true, false, false, false, false, false, false, false, false, false, false, false] rfl rfl (any_of HT_.out (by kernel_rfl)) (fun _ _ _ h => h) (Or.inl ⟨by rfl, ?_⟩) ?_ ?_
  rotate_left
  · intro w'
    go_simp
    with_reducible rfl
  rotate_left
  · simp only [Act.put, List.setIfInBounds_toArray, List.set_cons_zero, List.set_cons_succ, i64_w, i32_w]
    rfl
  refine pure_ (i := 3) (N := some 8) (v := ?_) (a' := ?_) #[true, true, true, true, false, false, false, false, false, false, false, false, false, false] rfl rfl (any_of HT_.out (by kernel_rfl)) (fun _ _ _ h => h) (Or.inl ⟨by rfl, ?_⟩) ?_ ?_
  rotate_left
  · intro w'
    go_simp
    with_reducible rfl
  rotate_left
  · simp only [Act.put, List.setIfInBounds_toArray, List.set_cons_zero, List.set_cons_succ, i64_w, i32_w]
    rfl
  refine pure_ (i := 5) (N := some 10) (v := ?_) (a' := ?_) #[true, true, true, true, false, true, false, false, false, false, false, false, false, false] rfl rfl (any_of HT_.out (by kernel_rfl)) (fun _ _ _ h => h) (Or.inl ⟨by rfl, ?_⟩) ?_ ?_
  rotate_left
  · intro w'
    go_simp
    with_reducible rfl
  rotate_left
  · simp only [Act.put, List.setIfInBounds_toArray, List.set_cons_zero, List.set_cons_succ, i64_w, i32_w]
    rfl
  refine pure_ (i := 6) (N := some 11) (v := ?_) (a' := ?_) #[true, true, true, true, false, true, true, false, false, false, false, false, false, false] rfl rfl (any_of HT_.out (by kernel_rfl)) (fun _ _ _ h => h) (Or.inl ⟨by rfl, ?_⟩) ?_ ?_
  rotate_left
  · intro w'
    go_simp
    with_reducible rfl
  rotate_left
  · simp only [Act.put, List.setIfInBounds_toArray, List.set_cons_zero, List.set_cons_succ, i64_w, i32_w]
    rfl
  refine pure_ (i := 7) (N := some 12) (v := ?_) (a' := ?_) #[true, true, true, true, false, true, true, true, false, false, false, false, false, false] rfl rfl (any_of HT_.out (by kernel_rfl)) (fun _ _ _ h => h) (Or.inl ⟨by rfl, ?_⟩) ?_ ?_
  rotate_left
  · intro w'
    go_simp
    with_reducible rfl
  rotate_left
  · simp only [Act.put, List.setIfInBounds_toArray, List.set_cons_zero, List.set_cons_succ, i64_w, i32_w]
    rfl
  refine pure_ (i := 10) (N := some 15) (v := ?_) (a' := ?_) #[true, true, true, true, false, true, true, true, false, false, true, false, false, false] rfl rfl (any_of HT_.out (by kernel_rfl)) (fun _ _ _ h => h) (Or.inl ⟨by rfl, ?_⟩) ?_ ?_
  rotate_left
  · intro w'
    go_simp
    with_reducible rfl
  rotate_left
  · simp only [Act.put, List.setIfInBounds_toArray, List.set_cons_zero, List.set_cons_succ, i64_w, i32_w]
    rfl
  refine take_ (i := 4) (N := some 9) (v := ?_) (a' := ?_) #[true, true, true, true, true, true, true, true, false, false, true, false, false, false] rfl rfl (take_ofW HT_.out HW_.out (by kernel_rfl)) (fun _ _ _ h => h) (Or.inl ⟨by rfl, ?_⟩) hHeld ?_ ?_
  rotate_left
  · rintro w' ⟨s0, s1, s2, s3, s4, s5⟩
    go_simp
    with_reducible rfl
  rotate_left
  · simp only [Act.put, List.setIfInBounds_toArray, List.set_cons_zero, List.set_cons_succ, i64_w, i32_w]
    rfl
  refine take_ (i := 8) (N := some 13) (v := ?_) (a' := ?_) #[true, true, true, true, true, true, true, true, true, false, true, false, false, false] rfl rfl (take_ofW HT_.out HW_.out (by kernel_rfl)) (fun _ _ _ h => h) (Or.inl ⟨by rfl, ?_⟩) hHeld ?_ ?_
  rotate_left
  · rintro w' ⟨s0, s1, s2, s3, s4, s5⟩
    go_simp
    with_reducible rfl
  rotate_left
  · simp only [Act.put, List.setIfInBounds_toArray, List.set_cons_zero, List.set_cons_succ, i64_w, i32_w]
    rfl
  refine one_ (i := 9) (N := some 14) #[true, true, true, true, true, true, true, true, true, true, true, false, false, false] rfl rfl (one_of HT_.out (by kernel_rfl)) (by decide) (fun K hK => ?_)
  refine goes_ Try.func75 (by kernel_rfl) rfl #[.agg #[.int .i64 a0_0, .int .i64 a0_1, .int .i64 a0_2, .slice A0_3 l0_3.length c0_3, .slice A0_4 l0_4.length c0_4], .slice (some ad) l1.length c1, .int .i64 a2] (by rfl) rfl rfl (by (try simp only [List.map_toArray, List.map_cons, List.map_nil]); first | done | rfl) ?_
  refine (HP.out _ HB1.out).mono ?_
  rintro e w2 ⟨v, rfl, hR, hb⟩
  refine ⟨_, rfl, ?_⟩
  clear hHeld
  have HB2 := Lib.hid (HB1.out.trans (hb.mono HB1.out.size))
  have HF2 := Lib.hid (HF1.out.below hb HF1.out.lt)
  clear hb HB1 HF1
  obtain ⟨Ap, cp, rfl⟩ := Kd.R_slice hR
  have HCp := Lib.hid (Kd.R_reads' hR).2.2
  have hcp := (Kd.R_reads' hR).2.1
  clear hR
  obtain ⟨e0, e1, e2, e3, e4⟩ := HF2.out.cells
  have hck : w2.cell? ad = some (.int .i64 a2) := (HB2.out.cell (p := ad) hadlt).trans HCK.out
  refine hK.out _ _ ⟨e0, e1, e2, e3, e4, hck⟩ (fun hHeld => ?_)
  clear e0 e1 e2 e3 e4 hck
  clear hK K
  refine norm_ (a' := ?_) ?_ ?_
  rotate_left
  · show Act.put _ (some 14) _ = _
    simp only [Act.put, List.setIfInBounds_toArray, List.set_cons_zero, List.set_cons_succ, i64_w, i32_w]
    rfl
  refine one_ (i := 11) (N := some 16) #[true, true, true, true, true, true, true, true, true, true, true, true, false, false] rfl rfl (one_of HT_.out (by kernel_rfl)) (by decide) (fun K hK => ?_)
  refine goes_ Try.func48 (by kernel_rfl) rfl #[.slice Ap p.length cp, .slice (some ad) l1.length c1] (by rfl) rfl rfl (by (try simp only [List.map_toArray, List.map_cons, List.map_nil]); first | done | rfl) ?_
  refine (region_Same.calls 5000 Ap cp p (some ad) c1 l1 g _ HCp.out hcp (Kd.C_below HR1.out HB2.out) hc1 hsame).mono ?_
  rintro e w' ⟨rfl, ⟨nd, rfl⟩⟩
  refine ⟨_, rfl, ?_⟩
  clear hHeld
  have hb := pw_below_drewN (Below.refl w2.heap.size w2) nd
  have HB3 := Lib.hid (HB2.out.trans (hb.mono HB2.out.size))
  have HF3 := Lib.hid (HF2.out.below hb HF2.out.lt)
  generalize w2.drewN nd = w3 at HB3 HF3 ⊢
  clear hb
  obtain ⟨e0, e1, e2, e3, e4⟩ := HF3.out.cells
  have hck : w3.cell? ad = some (.int .i64 a2) := (HB3.out.cell (p := ad) hadlt).trans HCK.out
  refine hK.out _ _ ⟨e0, e1, e2, e3, e4, hck⟩ (fun hHeld => ?_)
  clear e0 e1 e2 e3 e4 hck
  clear hK K
  refine norm_ (a' := ?_) ?_ ?_
  rotate_left
  · show Act.put _ (some 16) _ = _
    simp only [Act.put, List.setIfInBounds_toArray, List.set_cons_zero, List.set_cons_succ, i64_w, i32_w]
    rfl
  refine pure_ (i := 12) (N := some 17) (v := ?_) (a' := ?_) #[true, true, true, true, true, true, true, true, true, true, true, true, true, false] rfl rfl (any_of HT_.out (by kernel_rfl)) (fun _ _ _ h => h) (Or.inl ⟨by rfl, ?_⟩) ?_ ?_
  rotate_left
  · intro w'
    go_simp
    with_reducible rfl
  rotate_left
  · simp only [Act.put, List.setIfInBounds_toArray, List.set_cons_zero, List.set_cons_succ, i64_w, i32_w]
    rfl
  refine pure_ (i := 13) (N := some 4) (v := ?_) (a' := ?_) #[true, true, true, true, true, true, true, true, true, true, true, true, true, true] rfl rfl (any_of HT_.out (by kernel_rfl)) (fun _ _ _ h => h) (Or.inl ⟨by rfl, ?_⟩) ?_ ?_
  rotate_left
  · intro w'
    go_simp
    with_reducible rfl
  rotate_left
  · simp only [Act.put, List.setIfInBounds_toArray, List.set_cons_zero, List.set_cons_succ, i64_w, i32_w]
    rfl
  refine done_ (done_of HT_.out (by kernel_rfl)) ?_
  clear HT_ HW_ hHeld
  go_wp2_with fail
  go_ret
  exact ⟨rfl, HB3.out⟩
end Go.Proofs.Ytmnncmpmhbfpcaa.U
end
section
namespace Go.Proofs.Ytmnncmpmhbfpcaa.Seq
set_option linter.unusedVariables false
set_option linter.unusedSimpArgs false
open Go Go.RowKit
def AbI {β : Type} (St : Nat → Prop) (B : Nat) (I : β → World → Prop) : Prop :=
  ∀ s A C row, I s A → A.grownBy C row → (∀ r, row = some r → St r ∨ (B ≤ r ∧ ∃ o : Obj, A.heap[r]? = some o ∧ o.isCells = false)) → I s C
theorem AbI.own {β : Type} {St : Nat → Prop} {B : Nat} {I : β → World → Prop} (h : AbI St B I) : OwnFrom B I :=
  fun s A C row hs hg hr => h s A C row hs hg (fun r e => .inr (hr r e))
def AbS {β : Type} (St : Nat → Prop) (B : Nat) (J : β → World → Prop) : Prop :=
  ∀ s A C row, J s A → A.grownBy C row → (∀ r, row = some r → St r ∨ (B ≤ r ∧ ∃ o : Obj, A.heap[r]? = some o ∧ o.isWalk = true)) → J s C
def SeqS {α : Type} (F : Fence) (n : Nat) (P : Program) (g : Nat) (lb : Array Value) (encs : α → Array Value) (Kp : World → World → Prop) (full : List α) (St : Nat → Prop) (w : World) : Prop :=
  ∀ (l : Nat) (J Jx : List α → World → Prop) (W : World), Below w.heap.size w W → AbS St W.heap.size J → AbS St W.heap.size Jx →
    (∀ pre x W1, J pre W1 → (pre ++ [x]) <+: full → YieldAt F (n - 1) P l (encs x) W1 fun e W' =>
      (e = .returned (.bool true) ∧ J (pre ++ [x]) W' ∧ Kp W1 W') ∨ (e = .returned (.bool false) ∧ Jx (pre ++ [x]) W')) →
    J [] W →
    CallsIn F n P g (#[.func (.yield l) #[] #[]] ++ lb) W fun e W' => (∃ v, e = .returned v) ∧ (J full W' ∨ (∃ pre, pre <+: full ∧ Jx pre W'))
variable {F : Fence} {n : Nat} {P : Program}
theorem wpIn_rangeFunc_S {α : Type} {g : Operand} {ps : Array Tmp} {assign body : Code} {Q : Exit → Act → World → Prop} {a : Act} {w : World}
    (hro : F.round = none) (h1 : 1 ≤ n) {gf : Nat} {lb : Array Value} (hg : a.eval g = .func (.func gf) #[] lb) (hFg : F.fn gf) (eg : ∀ args w, (callFunc gf args).run P w = .ok (.enter gf args) w)
    {encs : α → Array Value} {Kp : World → World → Prop} {full : List α} {w0 : World} {St : Nat → Prop} (hSt : ∀ r, St r → r < w.heap.size) (hseq : SeqS F (n - 1) P gf lb encs Kp full St w0)
    (hKt : ∀ {A B C : World}, Kp A B → Kp B C → Kp A C) (hKb : ∀ (W : World) (l : Nat) (o o' : Obj), w.heap.size ≤ l → W.heap[l]? = some o → o.isCells = false → o.isWalk = false → Kp W (W.putObj l o')) (hb0 : Below w0.heap.size w0 w) (hps : ∀ x, (encs x).size = ps.size)
    (I : List α → World → Prop) (Ix : Code → List α → World → Prop) (hI0 : AbI St w.heap.size I) (hIx0 : ∀ c, AbI St w.heap.size (Ix c)) (h0 : I [] w) (Ax : α → Act → World → Prop) (hAx : ∀ x a', OwnFrom w.heap.size (fun (_ : Unit) W => Ax x a' W))
    (hassign : ∀ (l : Nat) (pre : List α) (x : α) (W : World) (K : Act → World → Prop), I pre W → (∀ a' W', KeepsFrom w.heap.size W W' → Kp W W' → I pre W' → Ax x a' W' → K a' W') →
      assign.wpIn (F.inRound l) (n - 1 - 1) P (Exit.then K (fun _ _ _ => False)) { tmps := (ps.zip (encs x)).foldl (fun t (p, v) => t.setIfInBounds p v) a.tmps, defers := [] } W)
    (hbody : ∀ (l : Nat) (pre : List α) (x : α) (a' : Act) (W : World), w.heap.size ≤ l → (∃ r, W.heap[l]? = some (.loop r)) → I pre W → Ax x a' W → (pre ++ [x]) <+: full → body.wpIn (F.inRound l) (n - 1 - 1) P (ownPostG w.heap.size Kp I Ix (pre ++ [x]) W) a' W)
    (hdone : ∀ (D : Nat) (W : World), w.heap.size ≤ D → I full W → W.heap[D]? = some (.deferred (some [])) → Q .normal { a with defers := { target := .collected D, args := #[] } :: a.defers } W)
    (hstop : ∀ (D : Nat) (c : Code) (pre : List α) (W : World), w.heap.size ≤ D → pre <+: full → Ix c pre W → W.heap[D]? = some (.deferred (some [])) → c.wpIn F n P Q { a with defers := { target := .collected D, args := #[] } :: a.defers } W) :
    (Code.rangeFunc g ps assign body).wpIn F n P Q a w := by
  have hI : OwnFrom w.heap.size I := hI0.own
  have hIx : ∀ c, OwnFrom w.heap.size (Ix c) := fun c => (hIx0 c).own
  refine wpIn_rangeFunc ?_
  intro fn hfn
  rw [hro]
  obtain ⟨rec, hrec⟩ : ∃ rec : LoopState → Option Code → Loop, rec = fun st pe => { state := st, pending := pe, fn, tmps := a.tmps, params := ps, assign, body, defers := w.heap.size } := ⟨_, rfl⟩
  obtain ⟨W1, hW1⟩ : ∃ W1, (w.alloc (.deferred (some []))).alloc (.loop (rec .ready none)) = W1 := ⟨_, rfl⟩
  have hL1 : W1.heap[w.heap.size + 1]? = some (.loop (rec .ready none)) := by
    rw [← hW1]; have := World.alloc_heap_new (w.alloc (.deferred (some []))) (.loop (rec .ready none)); rwa [World.size_alloc] at this
  have hK1 : W1.heap[w.heap.size]? = some (.deferred (some [])) := by
    rw [← hW1]; exact (Below.heap_alloc _ _ _ (by simp)).trans (World.alloc_heap_new w _)
  have hI1 : I [] W1 := by rw [← hW1]; exact hI.alloc _ (hI.alloc _ h0)
  have hb1 : Below w0.heap.size w0 W1 := by
    rw [← hW1]; exact hb0.trans ((((Below.refl _ w).alloc (Nat.le_refl _) _).alloc (by simp) _).mono hb0.size)
  refine ⟨w.heap.size + 1, [{ target := .collected w.heap.size, args := #[] }], W1, { target := .fn (.func gf) lb, args := #[.func (.yield (w.heap.size + 1)) #[] #[]] }, W1, gf,
    #[.func (.yield (w.heap.size + 1)) #[] #[]] ++ lb, W1, ?_, ?_, ?_, ?_, fun _ => h1, ?_⟩
  · rw [← hW1, hrec]; exact run_enterLoop_outer _ _ _ _ _
  · simp only [resolve, hg]
    simp [go_sem]
  · intro f' hf'; simp [Target.leads] at hf'; subst hf'; exact hFg
  · simp [invoke, go_sem, eg]
  · -- THE ITERATOR's CONTRACT, AT THE CALLER's INVARIANT WITH THE TWO FACTS OF BOOK-KEEPING BESIDE IT
    have hnw : ∀ {A : World} {row : Option Nat}, (∀ r, row = some r → St r ∨ (W1.heap.size ≤ r ∧ ∃ o : Obj, A.heap[r]? = some o ∧ o.isWalk = true)) → (∀ r, row = some r → St r ∨ (w.heap.size ≤ r ∧ ∃ o : Obj, A.heap[r]? = some o ∧ o.isCells = false)) :=
      fun hr r e => (hr r e).imp id (fun ⟨hB, o, ho, hw⟩ => ⟨by rw [← hW1] at hB; simp at hB; omega, o, ho, Obj.not_cells_of_walk hw⟩)
    have hbk : ∀ {A C : World} {row : Option Nat} {k : Nat} {o : Obj}, A.grownBy C row → (∀ r, row = some r → St r ∨ (W1.heap.size ≤ r ∧ ∃ o : Obj, A.heap[r]? = some o ∧ o.isWalk = true)) → w.heap.size ≤ k → A.heap[k]? = some o → o.isWalk = false → C.heap[k]? = some o :=
      fun {A C row k o} hg hr hk ho hw => (hg.block k (Array.getElem?_eq_some_iff.1 ho).1 (fun e => by
        rcases hr k e.symm with h | ⟨_, o', ho', hw'⟩
        · have := hSt k h
          omega
        · rw [ho] at ho'; cases ho'; rw [hw] at hw'; cases hw')).trans ho
    refine (hseq (w.heap.size + 1)
      (fun pre W => I pre W ∧ W.heap[w.heap.size + 1]? = some (.loop (rec .ready none)) ∧ W.heap[w.heap.size]? = some (.deferred (some [])))
      (fun pre W => ∃ c, Ix c pre W ∧ W.heap[w.heap.size + 1]? = some (.loop (rec .done (some c))) ∧ W.heap[w.heap.size]? = some (.deferred (some [])))
      W1 hb1
      (fun s A B row hs hg' hr => ⟨hI0 s A B row hs.1 hg' (hnw hr), hbk hg' hr (by omega) hs.2.1 rfl, hbk hg' hr (Nat.le_refl _) hs.2.2 rfl⟩)
      (fun s A B row hs hg' hr => by
        obtain ⟨c, hc, hl, hk⟩ := hs
        exact ⟨c, hIx0 c s A B row hc hg' (hnw hr), hbk hg' hr (by omega) hl rfl, hbk hg' hr (Nat.le_refl _) hk rfl⟩)
      ?_ ⟨hI1, hL1, hK1⟩).mono ?_
    · -- ONE ROUND
      rintro pre x W ⟨hi, hl, hk⟩ hlen
      have hlt : w.heap.size + 1 < W.heap.size := (Array.getElem?_eq_some_iff.1 hl).1
      have hy := run_yield (P := P) (args := encs x) hl (by rw [hrec]; exact hps x)
      rw [hrec] at hy
      refine ⟨fn, _, assign, body, hy, roundIn_of_wpIn hfn (hassign _ pre x W _ hi ?_)⟩
      clear hy
      intro a' Wa hkfa hkpa hia hax
      -- THE ASSIGN CODE MAY HAVE LAID BLOCKS (a loop variable that an inner function captures is boxed): the two blocks of book-keeping lie as they lay
      replace hl := hkfa.same _ _ (by omega) hl rfl
      replace hk := hkfa.same _ _ (Nat.le_refl _) hk rfl
      replace hlt : w.heap.size + 1 < Wa.heap.size := (Array.getElem?_eq_some_iff.1 hl).1
      replace hi := hia
      clear hia
      revert hkpa hkfa
      generalize W = Wb
      intro hkfa hkpa
      obtain ⟨W, rfl⟩ : ∃ W, W = Wa := ⟨_, rfl⟩
      refine ⟨_, run_beginRound hl (by rw [hrec]), ?_⟩
      have hl2 : (W.putObj (w.heap.size + 1) (.loop { rec .ready none with state := .busy })).heap[w.heap.size + 1]? = some (.loop { rec .ready none with state := .busy }) := World.putObj_heap_same hlt
      have hk2 : (W.putObj (w.heap.size + 1) (.loop { rec .ready none with state := .busy })).heap[w.heap.size]? = some (.deferred (some [])) := (World.putObj_heap_other (by omega)).trans hk
      have hw2 : Kp W (W.putObj (w.heap.size + 1) (.loop { rec .ready none with state := .busy })) := hKb _ _ _ _ (by omega) hl rfl rfl
      refine wpIn_mono (hbody _ pre x a' _ (by omega) ⟨_, hl2⟩ (hI.putObj _ hi (by omega) hl rfl) ((hAx x a').putObj (s := ()) _ hax (by omega) hl rfl) hlen) ?_
      have fin : ∀ (jump : Option Code) (W3 : World), KeepsFrom w.heap.size (W.putObj (w.heap.size + 1) (.loop { rec .ready none with state := .busy })) W3 →
          (Instr.endRound (w.heap.size + 1) jump).run P W3 = .ok (.bool jump.isNone) (W3.putObj (w.heap.size + 1) (.loop (rec (if jump.isNone then .ready else .done) jump))) ∧
          W3.heap[w.heap.size + 1]? = some (.loop { rec .ready none with state := .busy }) ∧
          (W3.putObj (w.heap.size + 1) (.loop (rec (if jump.isNone then .ready else .done) jump))).heap[w.heap.size + 1]? = some (.loop (rec (if jump.isNone then .ready else .done) jump)) ∧
          (W3.putObj (w.heap.size + 1) (.loop (rec (if jump.isNone then .ready else .done) jump))).heap[w.heap.size]? = some (.deferred (some [])) := fun jump W3 hk3 => by
        have hl3 := hk3.same _ _ (by omega) hl2 rfl
        have := run_endRound (P := P) jump hl3
        rw [hrec] at this ⊢
        exact ⟨this, by rw [hrec] at hl3; exact hl3, World.putObj_heap_same (Array.getElem?_eq_some_iff.1 hl3).1, (World.putObj_heap_other (by omega)).trans (hk3.same _ _ (Nat.le_refl _) hk2 rfl)⟩
      rintro e a3 W3 hp
      cases e with
      | normal =>
        obtain ⟨hk3, hkp3, hi3⟩ := hp
        obtain ⟨hr, hl3, hl4, hk4⟩ := fin none W3 hk3
        exact ⟨_, _, hr, .inl ⟨rfl, ⟨hI.putObj _ hi3 (by omega) hl3 rfl, hl4, hk4⟩, hKt hkpa (hKt (hKt hw2 hkp3) (hKb _ _ _ _ (by omega) hl3 rfl rfl))⟩⟩
      | ret =>
        obtain ⟨hk3, hi3⟩ := hp
        obtain ⟨hr, hl3, hl4, hk4⟩ := fin (some .ret) W3 hk3
        exact ⟨_, _, hr, .inr ⟨rfl, .ret, (hIx _).putObj _ hi3 (by omega) hl3 rfl, hl4, hk4⟩⟩
      | exit id =>
        obtain ⟨hk3, hi3⟩ := hp
        obtain ⟨hr, hl3, hl4, hk4⟩ := fin (some (.exit id)) W3 hk3
        exact ⟨_, _, hr, .inr ⟨rfl, .exit id, (hIx _).putObj _ hi3 (by omega) hl3 rfl, hl4, hk4⟩⟩
      | goto t =>
        obtain ⟨hk3, hi3⟩ := hp
        obtain ⟨hr, hl3, hl4, hk4⟩ := fin (some (.goto t)) W3 hk3
        exact ⟨_, _, hr, .inr ⟨rfl, .goto t, (hIx _).putObj _ hi3 (by omega) hl3 rfl, hl4, hk4⟩⟩
      | panic ch => exact hp.elim
      | outgrown => exact hp.elim
    · -- BEHIND THE ITERATOR
      rintro e W2 ⟨⟨v, rfl⟩, (⟨hi, hl, hk⟩ | ⟨pre, hSp, c, hi, hl, hk⟩)⟩
      · exact ⟨none, _, by have := run_endLoop (P := P) hl (by rw [hrec]; simp); rw [hrec] at this; exact this, hdone _ _ (Nat.le_refl _) (hI.putObj _ hi (by omega) hl rfl) ((World.putObj_heap_other (by omega)).trans hk)⟩
      · exact ⟨some c, _, by have := run_endLoop (P := P) hl (by rw [hrec]; simp); rw [hrec] at this; exact this, hstop _ c pre _ (Nat.le_refl _) hSp ((hIx c).putObj _ hi (by omega) hl rfl) ((World.putObj_heap_other (by omega)).trans hk)⟩
def noDefer (ops : Array Oper) : Bool := ops.toList.all fun o => match o.op with
  | .defer _ => false
  | _ => true
theorem noDefer_at {ops : Array Oper} (h : noDefer ops = true) {i : Nat} {o : Oper} (hi : ops[i]? = some o) : ∀ c, o.op ≠ .defer c := by
  intro c hc
  have hm : o ∈ ops.toList := by
    rw [Array.mem_toList_iff]
    exact Array.mem_of_getElem? hi
  have := List.all_eq_true.1 h o hm
  rw [hc] at this
  cases this
theorem operIn_of_wp {lp m : Nat} {o : Oper} {a : Act} {w : World} {K : Act → World → Prop} {Q : Exit → Act → World → Prop} (hd : ∀ c, o.op ≠ .defer c) (h : o.wp P a w K Q) :
    o.wpIn (Fence.wide.inRound lp) m P a w K Q := by
  refine ⟨fun _ _ => trivial, ?_⟩
  rw [show (Fence.wide.inRound lp).round = some lp from rfl, Oper.semAt_some lp _ _ hd]
  unfold Oper.wp at h
  generalize (execOp a.eval o).run P w = r at *
  cases r with
  | ok x w' =>
    cases x <;> simp only [Oper.upon, Oper.uponIn] at h ⊢
    all_goals first
      | exact h
      | exact ⟨(by intro hh; cases hh), CallsIn.inRound lp (callsIn_wide.2 h)⟩
      | exact ⟨(by intro hh; cases hh), fun c cs hr => by
          obtain ⟨v, w'', hR, hs⟩ := h c cs
          exact ⟨v, w'', hR, (stepsIn_wide (P := P)).2 hs⟩⟩
  | halt x w' => cases x <;> simp only [Oper.upon, Oper.uponIn] at h ⊢ <;> exact h
end Go.Proofs.Ytmnncmpmhbfpcaa.Seq
end
section
namespace Go.Proofs.Ytmnncmpmhbfpcaa.X
set_option linter.unusedVariables false
set_option linter.unusedSimpArgs false
open Go.RowKit Go.Shelf Go.Proofs.YtmnncmpmhbfpcaaW.PrintWords Go.Proofs.YtmnncmpmhbfpcaaW.PrintLast Go.Proofs.YtmnncmpmhbfpcaaW.PrintMore
open Go.Proofs.Ytmnncmpmhbfpcaa.Seq Go.Proofs.Ytmnncmpmhbfpcaa.H Go.Proofs.Ytmnncmpmhbfpcaa.S
attribute [local go_sem] Oper.semAt_some
abbrev Mst := Int × Bool × Bool
def encM (x : Mst) : Array Value := #[.int .i64 x.1, .agg #[.bool x.2.1, .bool x.2.2]]
def mergeL : Nat → List Int → List Int → List Mst
  | 0, _, _ => []
  | k + 1, [], [] => []
  | k + 1, x :: a, [] => (x, true, false) :: mergeL k a []
  | k + 1, [], y :: b => (y, false, true) :: mergeL k [] b
  | k + 1, x :: a, y :: b => if x < y then (x, true, false) :: mergeL k a (y :: b) else if x = y then (x, true, true) :: mergeL k a b else (y, false, true) :: mergeL k (x :: a) b
structure KeepX (Wr : Nat → Prop) (n₀ : Nat) (W W' : World) : Prop where
  size : W.heap.size ≤ W'.heap.size
  same : ∀ k, k < n₀ → ¬ Wr k → W'.heap[k]? = W.heap[k]?
theorem KeepX.refl (Wr : Nat → Prop) (n₀ : Nat) (W : World) : KeepX Wr n₀ W W := ⟨Nat.le_refl _, fun _ _ _ => rfl⟩
theorem KeepX.trans {Wr : Nat → Prop} {n₀ : Nat} {A B C : World} (h : KeepX Wr n₀ A B) (k : KeepX Wr n₀ B C) : KeepX Wr n₀ A C :=
  ⟨Nat.le_trans h.size k.size, fun i hi hw => (k.same i hi hw).trans (h.same i hi hw)⟩
theorem KeepX.more {Wr Wr' : Nat → Prop} {n₀ : Nat} {A B : World} (h : KeepX Wr n₀ A B) (hw : ∀ k, Wr k → Wr' k) : KeepX Wr' n₀ A B :=
  ⟨h.size, fun i hi hn => h.same i hi (fun e => hn (hw i e))⟩
theorem KeepX.cell {Wr : Nat → Prop} {n₀ : Nat} {A B : World} (h : KeepX Wr n₀ A B) {p : Addr} (hp : p.block < n₀) (hw : ¬ Wr p.block) : B.cell? p = A.cell? p := World.cell?_of_block (h.same _ hp hw)
theorem KeepX.frozen {Wr : Nat → Prop} {n₀ : Nat} {A B : World} (h : KeepX Wr n₀ A B) {p : Addr} (hp : p.block < n₀) (hw : ¬ Wr p.block) : B.frozen? p = A.frozen? p := World.frozen?_of_block (h.same _ hp hw)
theorem KeepX.setCell {Wr : Nat → Prop} {n₀ : Nat} {A B : World} (h : KeepX Wr n₀ A B) {p : Addr} (hp : Wr p.block) (v : Value) : KeepX Wr n₀ A (B.setCell p v) :=
  ⟨by simpa [World.setCell] using h.size, fun k hk hw => (Below.heap_setCell B p v k (fun e => hw (e ▸ hp))).trans (h.same k hk hw)⟩
theorem KeepX.alloc {Wr : Nat → Prop} {n₀ : Nat} {A B : World} (h : KeepX Wr n₀ A B) (hB : n₀ ≤ B.heap.size) (o : Obj) : KeepX Wr n₀ A (B.alloc o) :=
  ⟨Nat.le_trans h.size (by simp), fun k hk hw => (Below.heap_alloc B o k (by omega)).trans (h.same k hk hw)⟩
theorem KeepX.drew {Wr : Nat → Prop} {n₀ : Nat} {A B : World} (h : KeepX Wr n₀ A B) : KeepX Wr n₀ A B.drew := ⟨h.size, h.same⟩
theorem KeepX.drewN {Wr : Nat → Prop} {n₀ : Nat} {A B : World} (h : KeepX Wr n₀ A B) (m : Nat) : KeepX Wr n₀ A (B.drewN m) := ⟨h.size, h.same⟩
def RdK (Wr : Nat → Prop) (n₀ : Nat) (W : World) (v : Value) (xs : List Int) : Prop :=
  ∃ A c, v = .slice A xs.length c ∧ xs.length ≤ c ∧ ∀ W', KeepX Wr n₀ W W' → Kd.C (Kd.int .i64) W' A xs.length xs
section
variable {Wr : Nat → Prop} {n₀ : Nat} {W W1 : World} {v : Value} {xs : List Int}
theorem RdK.keep (h : RdK Wr n₀ W v xs) (hk : KeepX Wr n₀ W W1) : RdK Wr n₀ W1 v xs := by
  obtain ⟨A, c, h1, h2, h3⟩ := h
  exact ⟨A, c, h1, h2, fun W' h' => h3 W' (hk.trans h')⟩
theorem RdK.start {A : Option Addr} {c : Nat} (hr : Kd.C (Kd.int .i64) W A xs.length xs) (hc : xs.length ≤ c) (hb : ∀ ad : Addr, A = some ad → 0 < xs.length → ad.block < n₀ ∧ ¬ Wr ad.block) : RdK Wr n₀ W (.slice A xs.length c) xs := by
  refine ⟨A, c, rfl, hc, fun W' hk => ?_⟩
  obtain ⟨r1, r2, r3⟩ := Kd.reads_of_C (d := (0 : Int)) (h1 := fun _ => rfl) hr
  refine Kd.C_of_reads (d := (0 : Int)) (h1 := fun _ => rfl) ⟨r1, r2, fun hp => ?_⟩
  obtain ⟨ad, e, hcell⟩ := r3 hp
  have hbb := hb ad e hp
  exact ⟨ad, e, fun j hj => (hk.cell (p := ad.add j) (by rw [block_of_add']; exact hbb.1) (by rw [block_of_add']; exact hbb.2)).trans (hcell j hj)⟩
theorem RdK.nil (h : RdK Wr n₀ W v []) : ∃ A c, v = .slice A 0 c := by
  obtain ⟨A, c, h1, _⟩ := h
  exact ⟨A, c, h1⟩
theorem RdK.cons {x : Int} {q : List Int} (h : RdK Wr n₀ W v (x :: q)) :
    ∃ ad c A' c', v = .slice (some ad) (q.length + 1) c ∧ W.cell? ad = some (.int .i64 x) ∧ q.length + 1 ≤ c ∧
      (∀ W, (Instr.slice 22 (.slice (some ad) (q.length + 1) c) (some (.int .i64 1)) none none).run Try.prog W = .ok (.slice A' q.length c') W) ∧ RdK Wr n₀ W (.slice A' q.length c') q := by
  obtain ⟨A, c, rfl, hc, hC⟩ := h
  obtain ⟨ad, rfl, _, hcell⟩ := reads_at (hC W (KeepX.refl _ _ _)) (by simp)
  have h0 := hcell 0 (by simp)
  obtain ⟨i3, hi3, hsz⟩ : ∃ i, Try.prog.info? 3 = some i ∧ i.size = 1 := by
    have := tinfo3
    cases h : Try.prog.info? 3 with
    | none => rw [h] at this; cases this
    | some i =>
      rw [h] at this
      simp only [Option.map_some, Option.some.injEq, Prod.mk.injEq] at this
      exact ⟨i, rfl, this.2.1⟩
  have hc' : q.length + 1 ≤ c := by simpa using hc
  have hcut := cut_from (P := Try.prog) 22 3 .i64 Try.underlying22 hi3 1 hsz (some ad) (q.length + 1) c 1 (by omega) (by omega)
  have hz : ad.add 0 = ad := by
    unfold Addr.add
    split <;> simp_all
  rw [hz] at h0
  refine ⟨ad, c, _, _, rfl, by simpa using h0, hc', hcut, ?_⟩
  refine ⟨_, c - 1, rfl, by omega, fun W' hk => ?_⟩
  exact Kd.C_drop (c := c) (hC W' hk) (m := 1) (by simp) hc
end
end Go.Proofs.Ytmnncmpmhbfpcaa.X
end
section
namespace Go.Proofs.Ytmnncmpmhbfpcaa.X
set_option linter.unusedVariables false
set_option linter.unusedSimpArgs false
open Go.RowKit Go.Shelf Go.Proofs.YtmnncmpmhbfpcaaW.PrintWords Go.Proofs.YtmnncmpmhbfpcaaW.PrintLast Go.Proofs.YtmnncmpmhbfpcaaW.PrintMore
open Go.Proofs.Ytmnncmpmhbfpcaa.Seq Go.Proofs.Ytmnncmpmhbfpcaa.H Go.Proofs.Ytmnncmpmhbfpcaa.S
attribute [local go_sem] Oper.semAt_some
def Wr2 (Wr : Nat → Prop) (bA bB : Nat) (k : Nat) : Prop := Wr k ∨ k = bA ∨ k = bB
structure Turn (bA bB : Nat) (W W3 : World) : Prop where
  os : W3.os = W.os
  tape : W3.tape = W.tape
  output : W3.output = W.output
  size : W.heap.size ≤ W3.heap.size
  same : ∀ k, k ≠ bA → k ≠ bB → W3.heap[k]? = W.heap[k]?
theorem Turn.refl (bA bB : Nat) (W : World) : Turn bA bB W W := ⟨rfl, rfl, rfl, Nat.le_refl _, fun _ _ _ => rfl⟩
theorem Turn.drewN {bA bB : Nat} {W W3 : World} (h : Turn bA bB W W3) (m : Nat) : Turn bA bB W (W3.drewN m) := ⟨h.os, h.tape, h.output, h.size, h.same⟩
theorem Turn.drew {bA bB : Nat} {W W3 : World} (h : Turn bA bB W W3) : Turn bA bB W W3.drew := ⟨h.os, h.tape, h.output, h.size, h.same⟩
theorem Turn.set {bA bB : Nat} {W W3 : World} (h : Turn bA bB W W3) {b : Nat} (hb : b = bA ∨ b = bB) (v : Value) : Turn bA bB W (W3.setCell ⟨b, 0, none⟩ v) :=
  ⟨h.os, h.tape, h.output, by simpa [World.setCell] using h.size, fun k h1 h2 => (Below.heap_setCell W3 ⟨b, 0, none⟩ v k (by show k ≠ b; rcases hb with rfl | rfl <;> assumption)).trans (h.same k h1 h2)⟩
theorem Turn.keep {bA bB n₀ : Nat} {Wr : Nat → Prop} {W W3 : World} (h : Turn bA bB W W3) : KeepX (Wr2 Wr bA bB) n₀ W W3 :=
  ⟨h.size, fun k _ hk => h.same k (fun e => hk (.inr (.inl e))) (fun e => hk (.inr (.inr e)))⟩
section
variable {bA bB B : Nat} {J : List Mst → World → Prop} (hJ : AbS (fun r => r = bA ∨ r = bB) B J) {pre : List Mst} {W : World}
include hJ
theorem j_drewN (hj : J pre W) (m : Nat) : J pre (W.drewN m) := hJ pre W _ none hj ⟨rfl, rfl, rfl, Nat.le_refl _, fun _ _ _ => rfl⟩ (fun r e => by cases e)
theorem j_drew (hj : J pre W) : J pre W.drew := hJ pre W _ none hj ⟨rfl, rfl, rfl, Nat.le_refl _, fun _ _ _ => rfl⟩ (fun r e => by cases e)
theorem j_set (hj : J pre W) {b : Nat} (hb : b = bA ∨ b = bB) (v : Value) : J pre (W.setCell ⟨b, 0, none⟩ v) :=
  hJ pre W _ (some b) hj ⟨rfl, rfl, rfl, by simp [World.setCell], fun k _ hk => Below.heap_setCell W ⟨b, 0, none⟩ v k (fun e => hk (by rw [e]))⟩ (fun r e => by cases e; exact .inl hb)
end
set_option maxRecDepth 100000 in
set_option maxHeartbeats 8000000 in
theorem merged_in (n : Nat) (hn : 3 ≤ n) (lp bA bB n₀ : Nat) (Wr : Nat → Prop) (xs0 ys0 : List Int) (va0 vb0 : Value) (hmax : xs0.length + ys0.length ≤ 1000000)
    (hA : bA < n₀ ∧ ¬ Wr bA ∧ bA ≠ bB) (hB : bB < n₀ ∧ ¬ Wr bB)
    (J Jx : List Mst → World → Prop) (W : World) (hJ : AbS (fun r => r = bA ∨ r = bB) W.heap.size J)
    (hY : ∀ pre x W1, J pre W1 → (pre ++ [x]) <+: mergeL (xs0.length + ys0.length) xs0 ys0 → YieldAt Fence.wide (n - 1) Try.prog lp (encM x) W1 fun e W' =>
      (e = .returned (.bool true) ∧ J (pre ++ [x]) W' ∧ KeepX Wr n₀ W1 W') ∨ (e = .returned (.bool false) ∧ Jx (pre ++ [x]) W'))
    (cA : Boxed W bA 22 va0) (cB : Boxed W bB 22 vb0) (rA : RdK (Wr2 Wr bA bB) n₀ W va0 xs0) (rB : RdK (Wr2 Wr bA bB) n₀ W vb0 ys0) (h0 : J [] W) :
    CallsIn Fence.wide n Try.prog 92 (#[.func (.yield lp) #[] #[], .pointer (some ⟨bA, 0, none⟩), .pointer (some ⟨bB, 0, none⟩)]) W fun e W' =>
      (∃ v, e = .returned v) ∧ (J (mergeL (xs0.length + ys0.length) xs0 ys0) W' ∨ (∃ pre, pre <+: mergeL (xs0.length + ys0.length) xs0 ys0 ∧ Jx pre W')) := by
  have h1n : 1 ≤ n := by omega
  have hmx : Try.prog.follows .mixedOrders = true := by kernel_rfl
  have HC := Lib.hid (And.intro cA cB)
  have HR := Lib.hid (And.intro rA rB)
  clear cA cB rA rB
  refine callsIn_of_wp Try.func92 rfl trivial ?_ rfl
  simp only [Try.ntmps92, List.size_toArray, List.length_cons, List.length_nil, Nat.reduceAdd, Nat.reduceSub, Array.replicate_succ, Array.replicate_zero, List.push_toArray, List.append_toArray, List.nil_append, List.cons_append]
  gi_wp2
  gi_loopg [] (xs0.length + ys0.length + 1) (fun k wr => ∃ (j : Nat) (xs ys : List Int) (va vb : Value) (pre : List Mst), k = j + 1 ∧ xs.length + ys.length ≤ j ∧ j ≤ 1000000 ∧ J pre wr ∧ Hid (mergeL (xs0.length + ys0.length) xs0 ys0 = pre ++ mergeL j xs ys) ∧
      Hid (Boxed wr bA 22 va) ∧ Hid (Boxed wr bB 22 vb) ∧ Hid (RdK (Wr2 Wr bA bB) n₀ wr va xs) ∧ Hid (RdK (Wr2 Wr bA bB) n₀ wr vb ys))
  case atStart => exact ⟨_, xs0, ys0, va0, vb0, [], rfl, Nat.le_refl _, hmax, h0, Lib.hid (by simp), Lib.hid HC.out.1, Lib.hid HC.out.2, Lib.hid HR.out.1, Lib.hid HR.out.2⟩
  case round =>
    obtain ⟨j, xs, ys, va, vb, pre, hgk, hle, hj6, hJs, HF, HBA, HBB, HRA, HRB⟩ := hrel
    subst hgk
    cases xs with
    | nil =>
      cases ys with
      | nil =>
        obtain ⟨A1, k1, e1⟩ := HRA.out.nil
        obtain ⟨A2, k2, e2⟩ := HRB.out.nil
        subst e1 e2
        have c1 := HBA.out.cell
        have c2 := HBB.out.cell
        have hd : mergeL (xs0.length + ys0.length) xs0 ys0 = pre := by
          rw [HF.out]
          cases j <;> simp [mergeL]
        have hJ2 : J (mergeL (xs0.length + ys0.length) xs0 ys0) wr := by rw [hd]; exact hJs
        clear hd hJs hY
        gi_wp2
        go_end0
        exact ⟨⟨_, rfl⟩, .inl hJ2⟩
      | cons y ys =>
        obtain ⟨j, rfl⟩ : ∃ i, j = i + 1 := ⟨j - 1, by simp at hle; omega⟩
        obtain ⟨A1, k1, e1⟩ := HRA.out.nil
        obtain ⟨ay, ky, ay', ky', e2, cy, kyl, sy, ry⟩ := HRB.out.cons
        subst e1 e2
        have c1 := HBA.out.cell
        have c2 := HBB.out.cell
        have HFF : Hid (mergeL (xs0.length + ys0.length) xs0 ys0 = (pre ++ [(y, false, true)]) ++ mergeL j ([]) (ys)) := Lib.hid (by rw [HF.out]; simp [mergeL])
        have SY := Lib.hid sy
        have HRY := Lib.hid ry
        have KY := Lib.hid kyl
        have r1 : ((ys.length : Int) + 1 == 0) = false := by rw [beq_eq_false_iff_ne]; omega
        have r2 : decide ((ys.length : Int) + 1 = 0) = false := decide_eq_false (by omega)
        have r3 : ((ys.length : Int) + 1 = 0) = False := eq_false (by omega)
        have r4 : decide ((ys.length : Int) + 1 > 0) = true := decide_eq_true (by omega)
        have r5 : (0 < (ys.length : Int) + 1) = True := eq_true (by omega)
        have HLE := Lib.hid hle
        have HJ6 : Hid (j ≤ 1000000) := Lib.hid (by omega)
        have hly : ys.length ≤ 1000000 := by simp at hle; omega
        gi_wp2
        clear hle hmax hj6 kyl sy ry hly
        refine wpIn_wide.2 ?_
        go_quiet (fail)
        gi_wp2
        have c1n : (wr.drewN nq).cell? ⟨bA, 0, none⟩ = some (.slice A1 0 k1) := c1
        have c2n : (wr.drewN nq).cell? ⟨bB, 0, none⟩ = some (.slice (some ay) (ys.length + 1) ky) := c2
        have cyn : (wr.drewN nq).cell? ay = some (.int .i64 y) := cy
        obtain ⟨W1, hW1⟩ : ∃ W1, wr.drewN nq = W1 := ⟨_, rfl⟩
        rw [hW1] at c1n c2n cyn ⊢
        have HW1 := Lib.hid hW1
        clear hW1 c1 c2 cy
        have c1 := c1n
        have c2 := c2n
        clear c1n c2n
        have cy := cyn
        clear cyn
        refine wpIn_wide.2 ?_
        go_quiet (fail)
        gi_wp2
        have c1n : (W1.drewN nq).cell? ⟨bA, 0, none⟩ = some (.slice A1 0 k1) := c1
        have c2n : (W1.drewN nq).cell? ⟨bB, 0, none⟩ = some (.slice (some ay) (ys.length + 1) ky) := c2
        have cyn : (W1.drewN nq).cell? ay = some (.int .i64 y) := cy
        obtain ⟨W2, hW2⟩ : ∃ W2, W1.drewN nq = W2 := ⟨_, rfl⟩
        rw [hW2] at c1n c2n cyn ⊢
        have HW2 := Lib.hid hW2
        clear hW2 c1 c2 cy
        have c1 := c1n
        have c2 := c2n
        clear c1n c2n
        have cy := cyn
        clear cyn
        have tn : Turn bA bB wr W2 := by
          rw [← HW2.out, ← HW1.out]
          exact ((Turn.refl bA bB wr).drewN _).drewN _
        have hJ2 : J pre W2 := by
          rw [← HW2.out, ← HW1.out]
          exact j_drewN hJ (j_drewN hJ hJs _) _
        have hA2 : Boxed W2 bA 22 (.slice A1 0 k1) := by
          rw [← HW2.out, ← HW1.out]
          exact HBA.out
        have hB2 : Boxed W2 bB 22 (.slice (some ay) (ys.length + 1) ky) := by
          rw [← HW2.out, ← HW1.out]
          exact HBB.out
        have HS2 := Lib.hid (And.intro tn (And.intro hJ2 (And.intro hA2 hB2)))
        clear tn hJ2 hA2 hB2 c1 c2
        have c2 := HS2.out.2.2.2.cell
        have f2 := HS2.out.2.2.2.frozen
        have sy := SY.out
        have kyl := KY.out
        refine wpIn_wide.2 ?_
        go_region
        have HS4 : Hid (Turn bA bB wr (W2.setCell ⟨bB, 0, none⟩ (.slice ay' ys.length ky')).drew ∧ J pre (W2.setCell ⟨bB, 0, none⟩ (.slice ay' ys.length ky')).drew ∧ Boxed (W2.setCell ⟨bB, 0, none⟩ (.slice ay' ys.length ky')).drew bA 22 (.slice A1 0 k1) ∧ Boxed (W2.setCell ⟨bB, 0, none⟩ (.slice ay' ys.length ky')).drew bB 22 (.slice ay' ys.length ky')) := Lib.hid ⟨(HS2.out.1.set (.inr rfl) _).drew, j_drew hJ (j_set hJ HS2.out.2.1 (.inr rfl) _), (Below.heap_setCell W2 ⟨bB, 0, none⟩ _ bA (by intro e; exact hA.2.2 e)).trans HS2.out.2.2.1, Boxed.set (W := W2) (v := (.slice (some ay) (ys.length + 1) ky)) _ HS2.out.2.2.2⟩
        clear c2 f2 sy kyl cy HS2
        generalize (W2.setCell ⟨bB, 0, none⟩ (.slice ay' ys.length ky')).drew = W4 at HS4 ⊢
        have HRA3 := Lib.hid (HRA.out.keep HS4.out.1.keep)
        have HRB3 := Lib.hid (HRY.out.keep HS4.out.1.keep)
        obtain ⟨fn, tmps, assign, body, hy, hR⟩ := hY pre (y, false, true) W4 HS4.out.2.1 ⟨_, HFF.out.symm⟩
        clear hY r1 r2 r3 r4 r5
        simp only [encM] at hy
        gi_wp2
        refine hR.mono ?_
        clear hy hR
        rintro e W9 (⟨rfl, hJ4, hk4⟩ | ⟨rfl, hJx4⟩)
        · have hkm : KeepX (Wr2 Wr bA bB) n₀ W4 W9 := hk4.more (fun _ h => .inl h)
          have HK := Lib.hid (And.intro hk4 hkm)
          clear hk4 hkm
          gi_wp2
          gi_roundg (j + 1)
          case measure => omega
          case rel =>
            exact ⟨j, [], ys, _, _, pre ++ [(y, false, true)], rfl, by have := HLE.out; simp at this ⊢; omega, HJ6.out, hJ4, HFF, Lib.hid ((HK.out.1.same bA hA.1 hA.2.1).trans HS4.out.2.2.1), Lib.hid ((HK.out.1.same bB hB.1 hB.2).trans HS4.out.2.2.2), Lib.hid (HRA3.out.keep HK.out.2), Lib.hid (HRB3.out.keep HK.out.2)⟩
        · gi_wp2
          refine bodyPost_ret (results_none rfl _ _ _) rfl ?_
          exact ⟨⟨_, rfl⟩, .inr ⟨_, ⟨_, HFF.out.symm⟩, hJx4⟩⟩
    | cons x xs =>
      cases ys with
      | nil =>
        obtain ⟨j, rfl⟩ : ∃ i, j = i + 1 := ⟨j - 1, by simp at hle; omega⟩
        obtain ⟨ax, kx, ax', kx', e1, cx, kxl, sx, rx⟩ := HRA.out.cons
        obtain ⟨A2, k2, e2⟩ := HRB.out.nil
        subst e1 e2
        have c1 := HBA.out.cell
        have c2 := HBB.out.cell
        have HFF : Hid (mergeL (xs0.length + ys0.length) xs0 ys0 = (pre ++ [(x, true, false)]) ++ mergeL j (xs) ([])) := Lib.hid (by rw [HF.out]; simp [mergeL])
        have SX := Lib.hid sx
        have HRX := Lib.hid rx
        have KX := Lib.hid kxl
        have q1 : ((xs.length : Int) + 1 == 0) = false := by rw [beq_eq_false_iff_ne]; omega
        have q2 : decide ((xs.length : Int) + 1 = 0) = false := decide_eq_false (by omega)
        have q3 : ((xs.length : Int) + 1 = 0) = False := eq_false (by omega)
        have q4 : decide ((xs.length : Int) + 1 > 0) = true := decide_eq_true (by omega)
        have q5 : (0 < (xs.length : Int) + 1) = True := eq_true (by omega)
        have HLE := Lib.hid hle
        have HJ6 : Hid (j ≤ 1000000) := Lib.hid (by omega)
        have hlx : xs.length ≤ 1000000 := by simp at hle; omega
        gi_wp2
        clear hle hmax hj6 kxl sx rx hlx
        refine wpIn_wide.2 ?_
        go_quiet (fail)
        gi_wp2
        have c1n : (wr.drewN nq).cell? ⟨bA, 0, none⟩ = some (.slice (some ax) (xs.length + 1) kx) := c1
        have c2n : (wr.drewN nq).cell? ⟨bB, 0, none⟩ = some (.slice A2 0 k2) := c2
        have cxn : (wr.drewN nq).cell? ax = some (.int .i64 x) := cx
        obtain ⟨W1, hW1⟩ : ∃ W1, wr.drewN nq = W1 := ⟨_, rfl⟩
        rw [hW1] at c1n c2n cxn ⊢
        have HW1 := Lib.hid hW1
        clear hW1 c1 c2 cx
        have c1 := c1n
        have c2 := c2n
        clear c1n c2n
        have cx := cxn
        clear cxn
        refine wpIn_wide.2 ?_
        go_quiet (fail)
        gi_wp2
        have c1n : (W1.drewN nq).cell? ⟨bA, 0, none⟩ = some (.slice (some ax) (xs.length + 1) kx) := c1
        have c2n : (W1.drewN nq).cell? ⟨bB, 0, none⟩ = some (.slice A2 0 k2) := c2
        have cxn : (W1.drewN nq).cell? ax = some (.int .i64 x) := cx
        obtain ⟨W2, hW2⟩ : ∃ W2, W1.drewN nq = W2 := ⟨_, rfl⟩
        rw [hW2] at c1n c2n cxn ⊢
        have HW2 := Lib.hid hW2
        clear hW2 c1 c2 cx
        have c1 := c1n
        have c2 := c2n
        clear c1n c2n
        have cx := cxn
        clear cxn
        have tn : Turn bA bB wr W2 := by
          rw [← HW2.out, ← HW1.out]
          exact ((Turn.refl bA bB wr).drewN _).drewN _
        have hJ2 : J pre W2 := by
          rw [← HW2.out, ← HW1.out]
          exact j_drewN hJ (j_drewN hJ hJs _) _
        have hA2 : Boxed W2 bA 22 (.slice (some ax) (xs.length + 1) kx) := by
          rw [← HW2.out, ← HW1.out]
          exact HBA.out
        have hB2 : Boxed W2 bB 22 (.slice A2 0 k2) := by
          rw [← HW2.out, ← HW1.out]
          exact HBB.out
        have HS2 := Lib.hid (And.intro tn (And.intro hJ2 (And.intro hA2 hB2)))
        clear tn hJ2 hA2 hB2 c1 c2
        have c1 := HS2.out.2.2.1.cell
        have f1 := HS2.out.2.2.1.frozen
        have sx := SX.out
        have kxl := KX.out
        refine wpIn_wide.2 ?_
        go_region
        have HS3 : Hid (Turn bA bB wr (W2.setCell ⟨bA, 0, none⟩ (.slice ax' xs.length kx')).drew ∧ J pre (W2.setCell ⟨bA, 0, none⟩ (.slice ax' xs.length kx')).drew ∧ Boxed (W2.setCell ⟨bA, 0, none⟩ (.slice ax' xs.length kx')).drew bA 22 (.slice ax' xs.length kx') ∧ Boxed (W2.setCell ⟨bA, 0, none⟩ (.slice ax' xs.length kx')).drew bB 22 (.slice A2 0 k2)) := Lib.hid ⟨(HS2.out.1.set (.inl rfl) _).drew, j_drew hJ (j_set hJ HS2.out.2.1 (.inl rfl) _), Boxed.set (W := W2) (v := (.slice (some ax) (xs.length + 1) kx)) _ HS2.out.2.2.1, (Below.heap_setCell W2 ⟨bA, 0, none⟩ _ bB (by intro e; exact hA.2.2 e.symm)).trans HS2.out.2.2.2⟩
        clear c1 f1 sx kxl cx HS2
        generalize (W2.setCell ⟨bA, 0, none⟩ (.slice ax' xs.length kx')).drew = W3 at HS3 ⊢
        have HRA3 := Lib.hid (HRX.out.keep HS3.out.1.keep)
        have HRB3 := Lib.hid (HRB.out.keep HS3.out.1.keep)
        obtain ⟨fn, tmps, assign, body, hy, hR⟩ := hY pre (x, true, false) W3 HS3.out.2.1 ⟨_, HFF.out.symm⟩
        clear hY q1 q2 q3 q4 q5
        simp only [encM] at hy
        gi_wp2
        refine hR.mono ?_
        clear hy hR
        rintro e W9 (⟨rfl, hJ4, hk4⟩ | ⟨rfl, hJx4⟩)
        · have hkm : KeepX (Wr2 Wr bA bB) n₀ W3 W9 := hk4.more (fun _ h => .inl h)
          have HK := Lib.hid (And.intro hk4 hkm)
          clear hk4 hkm
          gi_wp2
          gi_roundg (j + 1)
          case measure => omega
          case rel =>
            exact ⟨j, xs, [], _, _, pre ++ [(x, true, false)], rfl, by have := HLE.out; simp at this ⊢; omega, HJ6.out, hJ4, HFF, Lib.hid ((HK.out.1.same bA hA.1 hA.2.1).trans HS3.out.2.2.1), Lib.hid ((HK.out.1.same bB hB.1 hB.2).trans HS3.out.2.2.2), Lib.hid (HRA3.out.keep HK.out.2), Lib.hid (HRB3.out.keep HK.out.2)⟩
        · gi_wp2
          refine bodyPost_ret (results_none rfl _ _ _) rfl ?_
          exact ⟨⟨_, rfl⟩, .inr ⟨_, ⟨_, HFF.out.symm⟩, hJx4⟩⟩
      | cons y ys =>
        by_cases hxy : x < y
        · skip
          obtain ⟨j, rfl⟩ : ∃ i, j = i + 1 := ⟨j - 1, by simp at hle; omega⟩
          obtain ⟨ax, kx, ax', kx', e1, cx, kxl, sx, rx⟩ := HRA.out.cons
          obtain ⟨ay, ky, ay', ky', e2, cy, kyl, sy, ry⟩ := HRB.out.cons
          subst e1 e2
          have c1 := HBA.out.cell
          have c2 := HBB.out.cell
          have HFF : Hid (mergeL (xs0.length + ys0.length) xs0 ys0 = (pre ++ [(x, true, false)]) ++ mergeL j (xs) (y :: ys)) := Lib.hid (by rw [HF.out]; simp [mergeL, hxy])
          have SX := Lib.hid sx
          have HRX := Lib.hid rx
          have KX := Lib.hid kxl
          have q1 : ((xs.length : Int) + 1 == 0) = false := by rw [beq_eq_false_iff_ne]; omega
          have q2 : decide ((xs.length : Int) + 1 = 0) = false := decide_eq_false (by omega)
          have q3 : ((xs.length : Int) + 1 = 0) = False := eq_false (by omega)
          have q4 : decide ((xs.length : Int) + 1 > 0) = true := decide_eq_true (by omega)
          have q5 : (0 < (xs.length : Int) + 1) = True := eq_true (by omega)
          have SY := Lib.hid sy
          have HRY := Lib.hid ry
          have KY := Lib.hid kyl
          have r1 : ((ys.length : Int) + 1 == 0) = false := by rw [beq_eq_false_iff_ne]; omega
          have r2 : decide ((ys.length : Int) + 1 = 0) = false := decide_eq_false (by omega)
          have r3 : ((ys.length : Int) + 1 = 0) = False := eq_false (by omega)
          have r4 : decide ((ys.length : Int) + 1 > 0) = true := decide_eq_true (by omega)
          have r5 : (0 < (ys.length : Int) + 1) = True := eq_true (by omega)
          have t1 : decide (x ≤ y) = true := decide_eq_true (by omega)
          have t2 : decide (y ≤ x) = false := decide_eq_false (by omega)
          have hs : IntKind.i64.wrap ((xs.length : Int) + 1 + ((ys.length : Int) + 1)) = (xs.length : Int) + 1 + ((ys.length : Int) + 1) := by rw [i64_w]; simp at hle; unfold wrap64; omega
          have hs2 : decide ((xs.length : Int) + 1 + ((ys.length : Int) + 1) > 0) = true := decide_eq_true (by omega)
          have hs3 : (0 < (xs.length : Int) + 1 + ((ys.length : Int) + 1)) = True := eq_true (by omega)
          have HLE := Lib.hid hle
          have HJ6 : Hid (j ≤ 1000000) := Lib.hid (by omega)
          gi_wp2
          clear hle hmax hj6 kxl sx rx kyl sy ry hs hs2 hs3
          refine wpIn_wide.2 ?_
          go_quiet (fail)
          gi_wp2
          have c1n : (wr.drewN nq).cell? ⟨bA, 0, none⟩ = some (.slice (some ax) (xs.length + 1) kx) := c1
          have c2n : (wr.drewN nq).cell? ⟨bB, 0, none⟩ = some (.slice (some ay) (ys.length + 1) ky) := c2
          have cxn : (wr.drewN nq).cell? ax = some (.int .i64 x) := cx
          have cyn : (wr.drewN nq).cell? ay = some (.int .i64 y) := cy
          obtain ⟨W1, hW1⟩ : ∃ W1, wr.drewN nq = W1 := ⟨_, rfl⟩
          rw [hW1] at c1n c2n cxn cyn ⊢
          have HW1 := Lib.hid hW1
          clear hW1 c1 c2 cx cy
          have c1 := c1n
          have c2 := c2n
          clear c1n c2n
          have cx := cxn
          clear cxn
          have cy := cyn
          clear cyn
          refine wpIn_wide.2 ?_
          go_quiet (fail)
          gi_wp2
          have c1n : (W1.drewN nq).cell? ⟨bA, 0, none⟩ = some (.slice (some ax) (xs.length + 1) kx) := c1
          have c2n : (W1.drewN nq).cell? ⟨bB, 0, none⟩ = some (.slice (some ay) (ys.length + 1) ky) := c2
          have cxn : (W1.drewN nq).cell? ax = some (.int .i64 x) := cx
          have cyn : (W1.drewN nq).cell? ay = some (.int .i64 y) := cy
          obtain ⟨W2, hW2⟩ : ∃ W2, W1.drewN nq = W2 := ⟨_, rfl⟩
          rw [hW2] at c1n c2n cxn cyn ⊢
          have HW2 := Lib.hid hW2
          clear hW2 c1 c2 cx cy
          have c1 := c1n
          have c2 := c2n
          clear c1n c2n
          have cx := cxn
          clear cxn
          have cy := cyn
          clear cyn
          have tn : Turn bA bB wr W2 := by
            rw [← HW2.out, ← HW1.out]
            exact ((Turn.refl bA bB wr).drewN _).drewN _
          have hJ2 : J pre W2 := by
            rw [← HW2.out, ← HW1.out]
            exact j_drewN hJ (j_drewN hJ hJs _) _
          have hA2 : Boxed W2 bA 22 (.slice (some ax) (xs.length + 1) kx) := by
            rw [← HW2.out, ← HW1.out]
            exact HBA.out
          have hB2 : Boxed W2 bB 22 (.slice (some ay) (ys.length + 1) ky) := by
            rw [← HW2.out, ← HW1.out]
            exact HBB.out
          have HS2 := Lib.hid (And.intro tn (And.intro hJ2 (And.intro hA2 hB2)))
          clear tn hJ2 hA2 hB2 c1 c2
          have c1 := HS2.out.2.2.1.cell
          have f1 := HS2.out.2.2.1.frozen
          have sx := SX.out
          have kxl := KX.out
          refine wpIn_wide.2 ?_
          go_region
          have HS3 : Hid (Turn bA bB wr (W2.setCell ⟨bA, 0, none⟩ (.slice ax' xs.length kx')).drew ∧ J pre (W2.setCell ⟨bA, 0, none⟩ (.slice ax' xs.length kx')).drew ∧ Boxed (W2.setCell ⟨bA, 0, none⟩ (.slice ax' xs.length kx')).drew bA 22 (.slice ax' xs.length kx') ∧ Boxed (W2.setCell ⟨bA, 0, none⟩ (.slice ax' xs.length kx')).drew bB 22 (.slice (some ay) (ys.length + 1) ky)) := Lib.hid ⟨(HS2.out.1.set (.inl rfl) _).drew, j_drew hJ (j_set hJ HS2.out.2.1 (.inl rfl) _), Boxed.set (W := W2) (v := (.slice (some ax) (xs.length + 1) kx)) _ HS2.out.2.2.1, (Below.heap_setCell W2 ⟨bA, 0, none⟩ _ bB (by intro e; exact hA.2.2 e.symm)).trans HS2.out.2.2.2⟩
          clear c1 f1 sx kxl cx cy HS2
          generalize (W2.setCell ⟨bA, 0, none⟩ (.slice ax' xs.length kx')).drew = W3 at HS3 ⊢
          have HRA3 := Lib.hid (HRX.out.keep HS3.out.1.keep)
          have HRB3 := Lib.hid (HRB.out.keep HS3.out.1.keep)
          obtain ⟨fn, tmps, assign, body, hy, hR⟩ := hY pre (x, true, false) W3 HS3.out.2.1 ⟨_, HFF.out.symm⟩
          clear hY q1 q2 q3 q4 q5 r1 r2 r3 r4 r5 t1 t2
          simp only [encM] at hy
          gi_wp2
          refine hR.mono ?_
          clear hy hR
          rintro e W9 (⟨rfl, hJ4, hk4⟩ | ⟨rfl, hJx4⟩)
          · have hkm : KeepX (Wr2 Wr bA bB) n₀ W3 W9 := hk4.more (fun _ h => .inl h)
            have HK := Lib.hid (And.intro hk4 hkm)
            clear hk4 hkm
            gi_wp2
            gi_roundg (j + 1)
            case measure => omega
            case rel =>
              exact ⟨j, xs, y :: ys, _, _, pre ++ [(x, true, false)], rfl, by have := HLE.out; simp at this ⊢; omega, HJ6.out, hJ4, HFF, Lib.hid ((HK.out.1.same bA hA.1 hA.2.1).trans HS3.out.2.2.1), Lib.hid ((HK.out.1.same bB hB.1 hB.2).trans HS3.out.2.2.2), Lib.hid (HRA3.out.keep HK.out.2), Lib.hid (HRB3.out.keep HK.out.2)⟩
          · gi_wp2
            refine bodyPost_ret (results_none rfl _ _ _) rfl ?_
            exact ⟨⟨_, rfl⟩, .inr ⟨_, ⟨_, HFF.out.symm⟩, hJx4⟩⟩
        · have hxy1 := hxy
          by_cases hxy2 : x = y
          · subst hxy2
            obtain ⟨j, rfl⟩ : ∃ i, j = i + 1 := ⟨j - 1, by simp at hle; omega⟩
            obtain ⟨ax, kx, ax', kx', e1, cx, kxl, sx, rx⟩ := HRA.out.cons
            obtain ⟨ay, ky, ay', ky', e2, cy, kyl, sy, ry⟩ := HRB.out.cons
            subst e1 e2
            have c1 := HBA.out.cell
            have c2 := HBB.out.cell
            have HFF : Hid (mergeL (xs0.length + ys0.length) xs0 ys0 = (pre ++ [(x, true, true)]) ++ mergeL j (xs) (ys)) := Lib.hid (by rw [HF.out]; simp [mergeL, hxy])
            have SX := Lib.hid sx
            have HRX := Lib.hid rx
            have KX := Lib.hid kxl
            have q1 : ((xs.length : Int) + 1 == 0) = false := by rw [beq_eq_false_iff_ne]; omega
            have q2 : decide ((xs.length : Int) + 1 = 0) = false := decide_eq_false (by omega)
            have q3 : ((xs.length : Int) + 1 = 0) = False := eq_false (by omega)
            have q4 : decide ((xs.length : Int) + 1 > 0) = true := decide_eq_true (by omega)
            have q5 : (0 < (xs.length : Int) + 1) = True := eq_true (by omega)
            have SY := Lib.hid sy
            have HRY := Lib.hid ry
            have KY := Lib.hid kyl
            have r1 : ((ys.length : Int) + 1 == 0) = false := by rw [beq_eq_false_iff_ne]; omega
            have r2 : decide ((ys.length : Int) + 1 = 0) = false := decide_eq_false (by omega)
            have r3 : ((ys.length : Int) + 1 = 0) = False := eq_false (by omega)
            have r4 : decide ((ys.length : Int) + 1 > 0) = true := decide_eq_true (by omega)
            have r5 : (0 < (ys.length : Int) + 1) = True := eq_true (by omega)
            have hs : IntKind.i64.wrap ((xs.length : Int) + 1 + ((ys.length : Int) + 1)) = (xs.length : Int) + 1 + ((ys.length : Int) + 1) := by rw [i64_w]; simp at hle; unfold wrap64; omega
            have hs2 : decide ((xs.length : Int) + 1 + ((ys.length : Int) + 1) > 0) = true := decide_eq_true (by omega)
            have hs3 : (0 < (xs.length : Int) + 1 + ((ys.length : Int) + 1)) = True := eq_true (by omega)
            have HLE := Lib.hid hle
            have HJ6 : Hid (j ≤ 1000000) := Lib.hid (by omega)
            gi_wp2
            clear hle hmax hj6 kxl sx rx kyl sy ry hs hs2 hs3
            refine wpIn_wide.2 ?_
            go_quiet (fail)
            gi_wp2
            have c1n : (wr.drewN nq).cell? ⟨bA, 0, none⟩ = some (.slice (some ax) (xs.length + 1) kx) := c1
            have c2n : (wr.drewN nq).cell? ⟨bB, 0, none⟩ = some (.slice (some ay) (ys.length + 1) ky) := c2
            have cxn : (wr.drewN nq).cell? ax = some (.int .i64 x) := cx
            have cyn : (wr.drewN nq).cell? ay = some (.int .i64 x) := cy
            obtain ⟨W1, hW1⟩ : ∃ W1, wr.drewN nq = W1 := ⟨_, rfl⟩
            rw [hW1] at c1n c2n cxn cyn ⊢
            have HW1 := Lib.hid hW1
            clear hW1 c1 c2 cx cy
            have c1 := c1n
            have c2 := c2n
            clear c1n c2n
            have cx := cxn
            clear cxn
            have cy := cyn
            clear cyn
            refine wpIn_wide.2 ?_
            go_quiet (fail)
            gi_wp2
            have c1n : (W1.drewN nq).cell? ⟨bA, 0, none⟩ = some (.slice (some ax) (xs.length + 1) kx) := c1
            have c2n : (W1.drewN nq).cell? ⟨bB, 0, none⟩ = some (.slice (some ay) (ys.length + 1) ky) := c2
            have cxn : (W1.drewN nq).cell? ax = some (.int .i64 x) := cx
            have cyn : (W1.drewN nq).cell? ay = some (.int .i64 x) := cy
            obtain ⟨W2, hW2⟩ : ∃ W2, W1.drewN nq = W2 := ⟨_, rfl⟩
            rw [hW2] at c1n c2n cxn cyn ⊢
            have HW2 := Lib.hid hW2
            clear hW2 c1 c2 cx cy
            have c1 := c1n
            have c2 := c2n
            clear c1n c2n
            have cx := cxn
            clear cxn
            have cy := cyn
            clear cyn
            have tn : Turn bA bB wr W2 := by
              rw [← HW2.out, ← HW1.out]
              exact ((Turn.refl bA bB wr).drewN _).drewN _
            have hJ2 : J pre W2 := by
              rw [← HW2.out, ← HW1.out]
              exact j_drewN hJ (j_drewN hJ hJs _) _
            have hA2 : Boxed W2 bA 22 (.slice (some ax) (xs.length + 1) kx) := by
              rw [← HW2.out, ← HW1.out]
              exact HBA.out
            have hB2 : Boxed W2 bB 22 (.slice (some ay) (ys.length + 1) ky) := by
              rw [← HW2.out, ← HW1.out]
              exact HBB.out
            have HS2 := Lib.hid (And.intro tn (And.intro hJ2 (And.intro hA2 hB2)))
            clear tn hJ2 hA2 hB2 c1 c2
            have c1 := HS2.out.2.2.1.cell
            have f1 := HS2.out.2.2.1.frozen
            have sx := SX.out
            have kxl := KX.out
            refine wpIn_wide.2 ?_
            go_region
            have HS3 : Hid (Turn bA bB wr (W2.setCell ⟨bA, 0, none⟩ (.slice ax' xs.length kx')).drew ∧ J pre (W2.setCell ⟨bA, 0, none⟩ (.slice ax' xs.length kx')).drew ∧ Boxed (W2.setCell ⟨bA, 0, none⟩ (.slice ax' xs.length kx')).drew bA 22 (.slice ax' xs.length kx') ∧ Boxed (W2.setCell ⟨bA, 0, none⟩ (.slice ax' xs.length kx')).drew bB 22 (.slice (some ay) (ys.length + 1) ky)) := Lib.hid ⟨(HS2.out.1.set (.inl rfl) _).drew, j_drew hJ (j_set hJ HS2.out.2.1 (.inl rfl) _), Boxed.set (W := W2) (v := (.slice (some ax) (xs.length + 1) kx)) _ HS2.out.2.2.1, (Below.heap_setCell W2 ⟨bA, 0, none⟩ _ bB (by intro e; exact hA.2.2 e.symm)).trans HS2.out.2.2.2⟩
            clear c1 f1 sx kxl cx cy HS2
            generalize (W2.setCell ⟨bA, 0, none⟩ (.slice ax' xs.length kx')).drew = W3 at HS3 ⊢
            gi_wp2
            obtain ⟨ay2, ky2, ap2, kp2, e2, cy, kk2, ss2, rr2⟩ := (HRB.out.keep HS3.out.1.keep).cons
            clear ss2 rr2 kk2
            injection e2 with e2 e3 e4
            injection e2 with e2
            subst e2
            subst e4
            clear e3
            have c2 := HS3.out.2.2.2.cell
            have f2 := HS3.out.2.2.2.frozen
            have sy := SY.out
            have kyl := KY.out
            refine wpIn_wide.2 ?_
            go_region
            have HS4 : Hid (Turn bA bB wr (W3.setCell ⟨bB, 0, none⟩ (.slice ay' ys.length ky')).drew ∧ J pre (W3.setCell ⟨bB, 0, none⟩ (.slice ay' ys.length ky')).drew ∧ Boxed (W3.setCell ⟨bB, 0, none⟩ (.slice ay' ys.length ky')).drew bA 22 (.slice ax' xs.length kx') ∧ Boxed (W3.setCell ⟨bB, 0, none⟩ (.slice ay' ys.length ky')).drew bB 22 (.slice ay' ys.length ky')) := Lib.hid ⟨(HS3.out.1.set (.inr rfl) _).drew, j_drew hJ (j_set hJ HS3.out.2.1 (.inr rfl) _), (Below.heap_setCell W3 ⟨bB, 0, none⟩ _ bA (by intro e; exact hA.2.2 e)).trans HS3.out.2.2.1, Boxed.set (W := W3) (v := (.slice (some ay) (ys.length + 1) ky)) _ HS3.out.2.2.2⟩
            clear c2 f2 sy kyl cy HS3
            generalize (W3.setCell ⟨bB, 0, none⟩ (.slice ay' ys.length ky')).drew = W4 at HS4 ⊢
            have HRA3 := Lib.hid (HRX.out.keep HS4.out.1.keep)
            have HRB3 := Lib.hid (HRY.out.keep HS4.out.1.keep)
            obtain ⟨fn, tmps, assign, body, hy, hR⟩ := hY pre (x, true, true) W4 HS4.out.2.1 ⟨_, HFF.out.symm⟩
            clear hY q1 q2 q3 q4 q5 r1 r2 r3 r4 r5
            simp only [encM] at hy
            gi_wp2
            refine hR.mono ?_
            clear hy hR
            rintro e W9 (⟨rfl, hJ4, hk4⟩ | ⟨rfl, hJx4⟩)
            · have hkm : KeepX (Wr2 Wr bA bB) n₀ W4 W9 := hk4.more (fun _ h => .inl h)
              have HK := Lib.hid (And.intro hk4 hkm)
              clear hk4 hkm
              gi_wp2
              gi_roundg (j + 1)
              case measure => omega
              case rel =>
                exact ⟨j, xs, ys, _, _, pre ++ [(x, true, true)], rfl, by have := HLE.out; simp at this ⊢; omega, HJ6.out, hJ4, HFF, Lib.hid ((HK.out.1.same bA hA.1 hA.2.1).trans HS4.out.2.2.1), Lib.hid ((HK.out.1.same bB hB.1 hB.2).trans HS4.out.2.2.2), Lib.hid (HRA3.out.keep HK.out.2), Lib.hid (HRB3.out.keep HK.out.2)⟩
            · gi_wp2
              refine bodyPost_ret (results_none rfl _ _ _) rfl ?_
              exact ⟨⟨_, rfl⟩, .inr ⟨_, ⟨_, HFF.out.symm⟩, hJx4⟩⟩
          · skip
            obtain ⟨j, rfl⟩ : ∃ i, j = i + 1 := ⟨j - 1, by simp at hle; omega⟩
            obtain ⟨ax, kx, ax', kx', e1, cx, kxl, sx, rx⟩ := HRA.out.cons
            obtain ⟨ay, ky, ay', ky', e2, cy, kyl, sy, ry⟩ := HRB.out.cons
            subst e1 e2
            have c1 := HBA.out.cell
            have c2 := HBB.out.cell
            have HFF : Hid (mergeL (xs0.length + ys0.length) xs0 ys0 = (pre ++ [(y, false, true)]) ++ mergeL j (x :: xs) (ys)) := Lib.hid (by rw [HF.out]; simp [mergeL, hxy1, hxy2])
            have SX := Lib.hid sx
            have HRX := Lib.hid rx
            have KX := Lib.hid kxl
            have q1 : ((xs.length : Int) + 1 == 0) = false := by rw [beq_eq_false_iff_ne]; omega
            have q2 : decide ((xs.length : Int) + 1 = 0) = false := decide_eq_false (by omega)
            have q3 : ((xs.length : Int) + 1 = 0) = False := eq_false (by omega)
            have q4 : decide ((xs.length : Int) + 1 > 0) = true := decide_eq_true (by omega)
            have q5 : (0 < (xs.length : Int) + 1) = True := eq_true (by omega)
            have SY := Lib.hid sy
            have HRY := Lib.hid ry
            have KY := Lib.hid kyl
            have r1 : ((ys.length : Int) + 1 == 0) = false := by rw [beq_eq_false_iff_ne]; omega
            have r2 : decide ((ys.length : Int) + 1 = 0) = false := decide_eq_false (by omega)
            have r3 : ((ys.length : Int) + 1 = 0) = False := eq_false (by omega)
            have r4 : decide ((ys.length : Int) + 1 > 0) = true := decide_eq_true (by omega)
            have r5 : (0 < (ys.length : Int) + 1) = True := eq_true (by omega)
            have t1 : decide (x ≤ y) = false := decide_eq_false (by omega)
            have t2 : decide (y ≤ x) = true := decide_eq_true (by omega)
            have hs : IntKind.i64.wrap ((xs.length : Int) + 1 + ((ys.length : Int) + 1)) = (xs.length : Int) + 1 + ((ys.length : Int) + 1) := by rw [i64_w]; simp at hle; unfold wrap64; omega
            have hs2 : decide ((xs.length : Int) + 1 + ((ys.length : Int) + 1) > 0) = true := decide_eq_true (by omega)
            have hs3 : (0 < (xs.length : Int) + 1 + ((ys.length : Int) + 1)) = True := eq_true (by omega)
            have HLE := Lib.hid hle
            have HJ6 : Hid (j ≤ 1000000) := Lib.hid (by omega)
            gi_wp2
            clear hle hmax hj6 kxl sx rx kyl sy ry hs hs2 hs3
            refine wpIn_wide.2 ?_
            go_quiet (fail)
            gi_wp2
            have c1n : (wr.drewN nq).cell? ⟨bA, 0, none⟩ = some (.slice (some ax) (xs.length + 1) kx) := c1
            have c2n : (wr.drewN nq).cell? ⟨bB, 0, none⟩ = some (.slice (some ay) (ys.length + 1) ky) := c2
            have cxn : (wr.drewN nq).cell? ax = some (.int .i64 x) := cx
            have cyn : (wr.drewN nq).cell? ay = some (.int .i64 y) := cy
            obtain ⟨W1, hW1⟩ : ∃ W1, wr.drewN nq = W1 := ⟨_, rfl⟩
            rw [hW1] at c1n c2n cxn cyn ⊢
            have HW1 := Lib.hid hW1
            clear hW1 c1 c2 cx cy
            have c1 := c1n
            have c2 := c2n
            clear c1n c2n
            have cx := cxn
            clear cxn
            have cy := cyn
            clear cyn
            refine wpIn_wide.2 ?_
            go_quiet (fail)
            gi_wp2
            have c1n : (W1.drewN nq).cell? ⟨bA, 0, none⟩ = some (.slice (some ax) (xs.length + 1) kx) := c1
            have c2n : (W1.drewN nq).cell? ⟨bB, 0, none⟩ = some (.slice (some ay) (ys.length + 1) ky) := c2
            have cxn : (W1.drewN nq).cell? ax = some (.int .i64 x) := cx
            have cyn : (W1.drewN nq).cell? ay = some (.int .i64 y) := cy
            obtain ⟨W2, hW2⟩ : ∃ W2, W1.drewN nq = W2 := ⟨_, rfl⟩
            rw [hW2] at c1n c2n cxn cyn ⊢
            have HW2 := Lib.hid hW2
            clear hW2 c1 c2 cx cy
            have c1 := c1n
            have c2 := c2n
            clear c1n c2n
            have cx := cxn
            clear cxn
            have cy := cyn
            clear cyn
            have tn : Turn bA bB wr W2 := by
              rw [← HW2.out, ← HW1.out]
              exact ((Turn.refl bA bB wr).drewN _).drewN _
            have hJ2 : J pre W2 := by
              rw [← HW2.out, ← HW1.out]
              exact j_drewN hJ (j_drewN hJ hJs _) _
            have hA2 : Boxed W2 bA 22 (.slice (some ax) (xs.length + 1) kx) := by
              rw [← HW2.out, ← HW1.out]
              exact HBA.out
            have hB2 : Boxed W2 bB 22 (.slice (some ay) (ys.length + 1) ky) := by
              rw [← HW2.out, ← HW1.out]
              exact HBB.out
            have HS2 := Lib.hid (And.intro tn (And.intro hJ2 (And.intro hA2 hB2)))
            clear tn hJ2 hA2 hB2 c1 c2
            have c2 := HS2.out.2.2.2.cell
            have f2 := HS2.out.2.2.2.frozen
            have sy := SY.out
            have kyl := KY.out
            refine wpIn_wide.2 ?_
            go_region
            have HS4 : Hid (Turn bA bB wr (W2.setCell ⟨bB, 0, none⟩ (.slice ay' ys.length ky')).drew ∧ J pre (W2.setCell ⟨bB, 0, none⟩ (.slice ay' ys.length ky')).drew ∧ Boxed (W2.setCell ⟨bB, 0, none⟩ (.slice ay' ys.length ky')).drew bA 22 (.slice (some ax) (xs.length + 1) kx) ∧ Boxed (W2.setCell ⟨bB, 0, none⟩ (.slice ay' ys.length ky')).drew bB 22 (.slice ay' ys.length ky')) := Lib.hid ⟨(HS2.out.1.set (.inr rfl) _).drew, j_drew hJ (j_set hJ HS2.out.2.1 (.inr rfl) _), (Below.heap_setCell W2 ⟨bB, 0, none⟩ _ bA (by intro e; exact hA.2.2 e)).trans HS2.out.2.2.1, Boxed.set (W := W2) (v := (.slice (some ay) (ys.length + 1) ky)) _ HS2.out.2.2.2⟩
            clear c2 f2 sy kyl cy HS2 cx
            generalize (W2.setCell ⟨bB, 0, none⟩ (.slice ay' ys.length ky')).drew = W4 at HS4 ⊢
            have HRA3 := Lib.hid (HRA.out.keep HS4.out.1.keep)
            have HRB3 := Lib.hid (HRY.out.keep HS4.out.1.keep)
            obtain ⟨fn, tmps, assign, body, hy, hR⟩ := hY pre (y, false, true) W4 HS4.out.2.1 ⟨_, HFF.out.symm⟩
            clear hY q1 q2 q3 q4 q5 r1 r2 r3 r4 r5 t1 t2
            simp only [encM] at hy
            gi_wp2
            refine hR.mono ?_
            clear hy hR
            rintro e W9 (⟨rfl, hJ4, hk4⟩ | ⟨rfl, hJx4⟩)
            · have hkm : KeepX (Wr2 Wr bA bB) n₀ W4 W9 := hk4.more (fun _ h => .inl h)
              have HK := Lib.hid (And.intro hk4 hkm)
              clear hk4 hkm
              gi_wp2
              gi_roundg (j + 1)
              case measure => omega
              case rel =>
                exact ⟨j, x :: xs, ys, _, _, pre ++ [(y, false, true)], rfl, by have := HLE.out; simp at this ⊢; omega, HJ6.out, hJ4, HFF, Lib.hid ((HK.out.1.same bA hA.1 hA.2.1).trans HS4.out.2.2.1), Lib.hid ((HK.out.1.same bB hB.1 hB.2).trans HS4.out.2.2.2), Lib.hid (HRA3.out.keep HK.out.2), Lib.hid (HRB3.out.keep HK.out.2)⟩
            · gi_wp2
              refine bodyPost_ret (results_none rfl _ _ _) rfl ?_
              exact ⟨⟨_, rfl⟩, .inr ⟨_, ⟨_, HFF.out.symm⟩, hJx4⟩⟩
end Go.Proofs.Ytmnncmpmhbfpcaa.X
end
section
namespace Go.Proofs.Ytmnncmpmhbfpcaa.X
set_option linter.unusedVariables false
set_option linter.unusedSimpArgs false
open Go.RowKit Go.Shelf Go.Proofs.YtmnncmpmhbfpcaaW.PrintWords Go.Proofs.YtmnncmpmhbfpcaaW.PrintLast Go.Proofs.YtmnncmpmhbfpcaaW.PrintMore
open Go.Proofs.Ytmnncmpmhbfpcaa.Seq Go.Proofs.Ytmnncmpmhbfpcaa.H Go.Proofs.Ytmnncmpmhbfpcaa.S
theorem merged_seq (n : Nat) (hn : 3 ≤ n) (bA bB n₀ : Nat) (Wr : Nat → Prop) (xs ys : List Int) (va vb : Value) (hmax : xs.length + ys.length ≤ 1000000) (w : World) (hsz : n₀ ≤ w.heap.size)
    (hA : bA < n₀ ∧ ¬ Wr bA ∧ bA ≠ bB) (hB : bB < n₀ ∧ ¬ Wr bB) (cA : Boxed w bA 22 va) (cB : Boxed w bB 22 vb) (rA : RdK (Wr2 Wr bA bB) n₀ w va xs) (rB : RdK (Wr2 Wr bA bB) n₀ w vb ys) :
    SeqS Fence.wide n Try.prog 92 #[.pointer (some ⟨bA, 0, none⟩), .pointer (some ⟨bB, 0, none⟩)] encM (KeepX Wr n₀) (mergeL (xs.length + ys.length) xs ys) (fun r => r = bA ∨ r = bB) w := by
  intro lp J Jx W hW hJ _ hY h0
  have hk : KeepX (Wr2 Wr bA bB) n₀ w W := ⟨hW.size, fun k hk _ => hW.block k (by omega)⟩
  exact merged_in n hn lp bA bB n₀ Wr xs ys va vb hmax hA hB J Jx W hJ hY ((hW.block bA (by have := hA.1; omega)).trans cA) ((hW.block bB (by have := hB.1; omega)).trans cB) (rA.keep hk) (rB.keep hk) h0
theorem wpListIn_of_wpList {P : Program} {lp m : Nat} {ops : Array Oper} {Q : Exit → Act → World → Prop} (hQ : ∀ a w, ¬ Q .outgrown a w) : ∀ (l : List Oper), (∀ o ∈ l, ∀ c, o.op ≠ .defer c) → ∀ (a : Act) (w : World), wpList P ops Q l a w → wpListIn (Fence.wide.inRound lp) m P ops Q l a w := by
  intro l
  induction l with
  | nil => intro _ a w h; exact h
  | cons o rest ih =>
    intro hd a w h
    unfold wpList at h
    unfold wpListIn
    split
    · rename_i hw
      rw [if_pos hw] at h
      rcases h with h | ⟨_, a', w', hq⟩
      · exact Oper.wpIn_mono (fun a w => ih (fun o ho => hd o (List.mem_cons_of_mem _ ho)) a w) (operIn_of_wp (hd o (List.mem_cons_self ..)) h)
      · exact absurd hq (hQ _ _)
    · rename_i hw
      rw [if_neg hw] at h
      exact ⟨fun _ _ => trivial, ih (fun o ho => hd o (List.mem_cons_of_mem _ ho)) _ _ h⟩
theorem wpIn_region_plain {P : Program} {lp m id : Nat} {l : List Oper} {Q : Exit → Act → World → Prop} {a : Act} {w : World} (hnd : noDefer l.toArray = true) (hQ : ∀ a w, ¬ Q .outgrown a w) (h : wpList P l.toArray Q l a w) : (Code.region id l.toArray false).wpIn (Fence.wide.inRound lp) m P Q a w := by
  refine wpIn_region ?_
  have hl := wpListIn_of_wpList (lp := lp) (m := m) hQ l (fun o ho c => by
    obtain ⟨i, hi, e⟩ := List.getElem_of_mem ho
    exact noDefer_at hnd (i := i) (by simp [e, hi]) c) a w h
  rw [show List.range l.toArray.size = List.range' 0 l.length by simp [List.range_eq_range'], wpOpsIn_eq_wpListIn l 0 (fun j => by simp)]
  exact hl
end Go.Proofs.Ytmnncmpmhbfpcaa.X
end
section
namespace Go.Proofs.Ytmnncmpmhbfpcaa.X
set_option linter.unusedVariables false
set_option linter.unusedSimpArgs false
open Go.RowKit Go.Shelf Go.Proofs.YtmnncmpmhbfpcaaW.PrintWords Go.Proofs.YtmnncmpmhbfpcaaW.PrintLast Go.Proofs.YtmnncmpmhbfpcaaW.PrintMore
open Go.Proofs.Ytmnncmpmhbfpcaa.Seq Go.Proofs.Ytmnncmpmhbfpcaa.H Go.Proofs.Ytmnncmpmhbfpcaa.S
attribute [local go_sem] Oper.semAt_some
theorem merged_any (A1 : Option Addr) (n1 c1 : Nat) (A2 : Option Addr) (n2 c2 : Nat) (w : World) :
    Calls Try.prog 74 #[.slice A1 n1 c1, .slice A2 n2 c2] w fun e w' => e = .returned (.func (.func 92) #[] #[.pointer (some ⟨w.heap.size, 0, none⟩), .pointer (some ⟨w.heap.size + 1, 0, none⟩)]) ∧
      (w.alloc (.cells #[.slice A1 n1 c1] 22)).alloc (.cells #[.slice A2 n2 c2] 22) = w' := by
  go_enter Try.func74, Try.ntmps74
  go_wp2
  go_ret
  exact ⟨rfl, rfl⟩
def keepD (x : Mst) : Bool := !x.2.2
def outD (l : List Mst) : List Int := (l.filter keepD).map (·.1)
theorem outD_snoc (l : List Mst) (x : Mst) : outD (l ++ [x]) = outD l ++ if keepD x = true then [x.1] else [] := by
  unfold outD
  rw [List.filter_append, List.map_append]
  by_cases h : keepD x = true
  · rw [if_pos h, List.filter_cons_of_pos h]
    rfl
  · rw [if_neg h, List.filter_cons_of_neg h]
    rfl
def Box2 (W : World) (B : Nat) (x : Mst) : Prop := W.heap[B]? = some (.cells #[.bool x.2.1, .bool x.2.2] 69)
structure DI (w : World) (pre : List Mst) (v : Value) (W : World) : Prop where
  ob : Boxed W w.heap.size 22 v
  r : Kd.R (Kd.int .i64) 3 W w.heap.size (fun k => w.heap.size + 3 ≤ k) v (outD pre)
  be : Below w.heap.size w W
  sz : w.heap.size + 3 ≤ W.heap.size
set_option maxRecDepth 100000 in
set_option maxHeartbeats 8000000 in
theorem udiff (A1 : Option Addr) (c1 : Nat) (xs : List Int) (A2 : Option Addr) (c2 : Nat) (ys : List Int) (w : World) (hr1 : Kd.C (Kd.int .i64) w A1 xs.length xs) (hc1 : xs.length ≤ c1) (hr2 : Kd.C (Kd.int .i64) w A2 ys.length ys) (hc2 : ys.length ≤ c2) (hmax : xs.length + ys.length ≤ 1000000) :
    Calls Try.prog 50 #[.slice A1 xs.length c1, .slice A2 ys.length c2] w fun e w' => ∃ v0, e = .returned v0 ∧ Kd.R (Kd.int .i64) 3 w' w.heap.size (fun _ => True) v0 (outD (mergeL (xs.length + ys.length) xs ys)) ∧ Below w.heap.size w w' := by
  have HME := Lib.hid merged_any
  refine (callsIn_wide (n := 9)).1 ?_
  refine callsIn_of_wp_marks Try.func50 rfl trivial ?_ rfl
  simp only [Try.ntmps50, List.size_toArray, List.length_cons, List.length_nil, Nat.reduceAdd, Nat.reduceSub, Array.replicate_succ, Array.replicate_zero, List.push_toArray, List.append_toArray, List.nil_append, List.cons_append]
  gi_wp2_with (first | (refine ⟨trivial, ?_⟩; gi_at_call 74; refine (callsIn_wide.2 (HME.out _ _ _ _ _ _ _)).mono ?_; rintro e w' ⟨rfl, rfl⟩))
  obtain ⟨W0, hW0⟩ : ∃ W0, ((w.alloc (.cells #[.slice none 0 0] 22)).alloc (.cells #[.slice A1 xs.length c1] 22)).alloc (.cells #[.slice A2 ys.length c2] 22) = W0 := ⟨_, rfl⟩
  rw [hW0]
  have hbe : Below w.heap.size w W0 := by
    rw [← hW0]
    exact (((Below.refl _ w).alloc (Nat.le_refl _) _).alloc (by simp) _).alloc (by simp; omega) _
  have hsz : W0.heap.size = w.heap.size + 3 := by rw [← hW0]; simp
  have hbx : Boxed W0 w.heap.size 22 (.slice none 0 0) := by
    rw [← hW0]
    exact ((Boxed.new w 22 _).alloc _).alloc _
  have hbA : Boxed W0 (w.heap.size + 1) 22 (.slice A1 xs.length c1) := by
    have := (Boxed.new (w.alloc (.cells #[.slice none 0 0] 22)) 22 (.slice A1 xs.length c1)).alloc (.cells #[.slice A2 ys.length c2] 22)
    rw [← hW0]
    simpa using this
  have hbB : Boxed W0 (w.heap.size + 1 + 1) 22 (.slice A2 ys.length c2) := by
    have := Boxed.new ((w.alloc (.cells #[.slice none 0 0] 22)).alloc (.cells #[.slice A1 xs.length c1] 22)) 22 (.slice A2 ys.length c2)
    rw [← hW0]
    simpa using this
  clear hW0
  have far : ∀ {A : Option Addr} {l : List Int}, Kd.C (Kd.int .i64) w A l.length l → ∀ ad : Addr, A = some ad → 0 < l.length → ad.block < w.heap.size + 3 ∧ ¬ Wr2 (fun k => k = w.heap.size) (w.heap.size + 1) (w.heap.size + 1 + 1) ad.block := fun {A l} hr ad e hp => by
    obtain ⟨ad2, e2, hlt, _⟩ := reads_at hr hp
    rw [e] at e2
    injection e2 with e2
    subst e2
    refine ⟨by omega, fun h => ?_⟩
    rcases h with h | h | h <;> omega
  have hseq := merged_seq 8 (by omega) (w.heap.size + 1) (w.heap.size + 1 + 1) (w.heap.size + 3) (fun k => k = w.heap.size) xs ys _ _ hmax W0 (by omega) ⟨by omega, by omega, by omega⟩ ⟨by omega, by omega⟩ hbA hbB
    (RdK.start (Kd.C_below hr1 hbe) hc1 (far hr1)) (RdK.start (Kd.C_below hr2 hbe) hc2 (far hr2))
  refine wpIn_rangeFunc_S rfl (by omega) (gf := 92) (lb := #[.pointer (some ⟨w.heap.size + 1, 0, none⟩), .pointer (some ⟨w.heap.size + 1 + 1, 0, none⟩)]) rfl trivial (enters_of Try.func92 (by kernel_rfl) rfl)
    (St := fun r => r = w.heap.size + 1 ∨ r = w.heap.size + 1 + 1) (by intro r h; rcases h with h | h <;> omega)
    hseq (fun h k => h.trans k) ?kb (Below.refl _ _) (fun _ => rfl)
    (fun pre W => ∃ v, DI w pre v W) (fun _ _ _ => False) ?abI (fun _ _ _ _ _ hs _ _ => hs) ⟨.slice none 0 0, hbx, Kd.R_nil _ _ _ _ _, hbe, by omega⟩
    (fun x a' W => ∃ Bx, w.heap.size + 3 ≤ Bx ∧ Box2 W Bx x ∧ a' = { tmps := #[.slice A1 xs.length c1, .slice A2 ys.length c2, undef, undef, .slice none 0 0, .pointer (some ⟨w.heap.size, 0, none⟩), .int .i64 x.1, .pointer (some ⟨Bx, 0, none⟩), .slice A1 xs.length c1, .slice A2 ys.length c2,
          .func (.func 92) #[] #[.pointer (some ⟨w.heap.size + 1, 0, none⟩), .pointer (some ⟨w.heap.size + 1 + 1, 0, none⟩)],
          .int .i64 x.1, .agg #[.bool x.2.1, .bool x.2.2], undef, undef, undef, undef, undef, undef, undef, undef], defers := [] }) ?ax ?assign ?body ?done ?stop
  case kb =>
    intro W l o o' hl h _ _
    exact ⟨by simp [World.putObj], fun k hk hw => World.putObj_heap_other (by omega)⟩
  case abI =>
    rintro s X Y row ⟨v, h1, h2, h3, h4⟩ hg hrow
    have hgs := hg.size
    refine ⟨v, h1.kept hg (fun e => ?_), Kd.R_grown2 h2 rfl hg (fun k e e2 => ?_), h3.grown hg h3.size (fun k e => ?_), by omega⟩
    · rcases hrow _ e.symm with (h | h) | ⟨h, _⟩ <;> omega
    · obtain ⟨cells, hc⟩ := Kd.R_typed h2 k e2.symm
      rcases hrow _ e with (h | h) | ⟨_, o, ho, hno⟩
      · have := h2.1 k e2.symm
        omega
      · have := h2.1 k e2.symm
        omega
      · rw [hc] at ho
        cases ho
        cases hno
    · rcases hrow _ e with (h | h) | ⟨h, _⟩ <;> omega
  case ax =>
    rintro x a' s X Y row ⟨Bx, hb, h3, rfl⟩ hg hrow
    refine ⟨Bx, hb, ?_, rfl⟩
    refine (hg.block Bx (Array.getElem?_eq_some_iff.1 h3).1 (fun e => ?_)).trans h3
    obtain ⟨_, o, ho, hc⟩ := hrow _ e.symm
    rw [h3] at ho
    cases ho
    cases hc
  case assign =>
    rintro l pre x W K ⟨v, h1, h2, h3, h4⟩ hK
    simp only [encM]
    gi_wp2
    exact hK _ _ ((KeepsOthers.alloc _ _).from _) ((KeepX.refl _ _ _).alloc h4 _) ⟨v, h1.alloc _, Kd.R_alloc h2 _, h3.alloc h3.size _, by simp; omega⟩ ⟨W.heap.size, h4, World.alloc_heap_new W _, rfl⟩
  case body =>
    rintro l pre x a' W hl ⟨r, hrl⟩ ⟨v, h1, h2, h3, h4⟩ ⟨Bx, hb, hx3, rfl⟩ hpre
    have hc1 := h1.cell
    have hf1 := h1.frozen
    have hx1 : W.cell? ⟨Bx, 1, none⟩ = some (.bool x.2.2) := by simp [World.cell?, show W.heap[Bx]? = _ from hx3]
    have hlen : (outD pre).length ≤ 1000000 := by
      obtain ⟨z, hz⟩ := hpre
      have h5 : (outD pre).length ≤ pre.length := by
        unfold outD
        rw [List.length_map]
        exact List.length_filter_le _ _
      have h6 : pre.length ≤ (mergeL (xs.length + ys.length) xs ys).length := by rw [← hz]; simp
      have h7 : ∀ (k : Nat) (a b : List Int), (mergeL k a b).length ≤ k := by
        intro k
        induction k with
        | zero => intro a b; simp [mergeL]
        | succ k ih =>
          intro a b
          cases a <;> cases b <;> simp only [mergeL]
          · simp
          · have := ih [] ‹_›; simp; omega
          · have := ih ‹_› []; simp; omega
          · split
            · simp; exact ih _ _
            · split
              · simp; exact ih _ _
              · simp; exact ih _ _
      have := h7 (xs.length + ys.length) xs ys
      omega
    clear hseq hbx hbA hbB hbe far hpre hrl hr1 hr2
    obtain ⟨x1, x2, x3⟩ := x
    dsimp only at *
    cases x3 with
    | true =>
      gi_wp2
      exact ⟨(KeepsOthers.refl _).from _, KeepX.refl _ _ _, v, h1, by rw [outD_snoc, if_neg (by simp [keepD]), List.append_nil]; exact h2, h3, h4⟩
    | false =>
      gi_upto_region 6 with (fail)
      refine wpIn_region_plain (by kernel_rfl) ?hq ?_
      case hq => exact fun a w h => h
      have HDI := Lib.hid (DI.mk h1 h2 h3 h4)
      have hlen8 : ((outD pre).length + 1) * 8 ≤ 140737488355328 := by omega
      go_wp2_with (first | (at_builtin; refine Kd.R_append (Kd.int .i64) (w0 := w) w.heap.size rfl (.tmp 16) (.tmp 18) 22 3 (.int .i64 0) 8 rfl Try.underlying22 tinfo3 rfl (by decide) (by decide) v (outD pre) x1 [.int .i64 x1] (fun k => w.heap.size + 3 ≤ k) (fun _ => False) rfl rfl ?aP (fun _ hk => hk.elim) ?aF ?aO ?aB ?aS ?aL ?_; (case aP => exact rfl); (case aF => exact (fun k hk => Nat.le_trans HDI.out.sz hk)); (case aO => exact HDI.out.r); (case aB => exact HDI.out.be); (case aS => exact HDI.out.be.size); (case aL => exact hlen8); intro v9 w9 ho9 hb9 hg9 hat9; obtain ⟨A9, m9, hv9⟩ := Kd.R_slice ho9; subst hv9; have hne9 : some w.heap.size ≠ v.ownBlock := (fun e => by have := HDI.out.r.1 _ e.symm; omega); have hbx9 := HDI.out.ob.kept hg9 hne9; have hc9 := hbx9.cell; have hf9 := hbx9.frozen; clear hc1 hf1))
      have hgs := hg9.size
      refine ⟨⟨by simpa [World.setCell] using hgs, fun k o hk ho hno => ?_⟩, ⟨by simpa [World.setCell] using hgs, fun k hk hw => ?_⟩, _, hbx9.set _, ?_, hb9.setCell (p := ⟨w.heap.size, 0, none⟩) (Nat.le_refl _) _, ?_⟩
      · refine (Below.heap_setCell w9 ⟨w.heap.size, 0, none⟩ _ k (by show k ≠ w.heap.size; omega)).trans ((hg9.block k (Array.getElem?_eq_some_iff.1 ho).1 (fun e => ?_)).trans ho)
        obtain ⟨cells, hc⟩ := Kd.R_typed HDI.out.r k e.symm
        rw [ho] at hc
        cases hc
        cases hno
      · refine (Below.heap_setCell w9 ⟨w.heap.size, 0, none⟩ _ k (by show k ≠ w.heap.size; exact hw)).trans (hg9.block k (by have := HDI.out.sz; omega) (fun e => ?_))
        have := HDI.out.r.1 _ e.symm
        omega
      · rw [outD_snoc, if_pos (by simp [keepD])]
        have h9 := Kd.R_far (p := ⟨w.heap.size, 0, none⟩) ho9 (fun k hk e => by have e' : k = w.heap.size := e; omega) (.slice A9 ((outD pre).length + 1) m9)
        rw [show (outD pre ++ [x1]).length = (outD pre).length + 1 by simp] at h9
        exact h9
      · have := HDI.out.sz
        show _ ≤ (World.setCell _ _ _).heap.size
        simp only [World.setCell]
        simp
        omega
  case done =>
    rintro D W hD ⟨v, h1, h2, h3, h4⟩ hK
    have hc1 := h1.cell
    gi_wp2
    refine ⟨by simp, .inl ⟨_, _, rfl, run_takeDeferred hK, ?_⟩⟩
    refine ⟨_, results_tmp rfl _ _ _, _, rfl, ?_, h3.trans (belowK_b (w := w) (Nat.le_refl _) W D _ _ (by omega) hK rfl rfl)⟩
    refine Kd.R_mono (Kd.R_grown2 h2 rfl (grownBy_putObj' W D (.deferred none)) (fun k e e2 => ?_)) (fun _ _ => trivial)
    obtain ⟨cells, hc⟩ := Kd.R_typed h2 k e2.symm
    injection e with e
    subst e
    rw [hK] at hc
    cases hc
  case stop =>
    rintro D c pre W _ _ h _
    exact h.elim
end Go.Proofs.Ytmnncmpmhbfpcaa.X
end
section
namespace Go.Proofs.Ytmnncmpmhbfpcaa.X
set_option linter.unusedVariables false
set_option linter.unusedSimpArgs false
open Go.RowKit Go.Shelf Go.Proofs.YtmnncmpmhbfpcaaW.PrintWords Go.Proofs.YtmnncmpmhbfpcaaW.PrintLast Go.Proofs.YtmnncmpmhbfpcaaW.PrintMore
open Go.Proofs.Ytmnncmpmhbfpcaa.Seq Go.Proofs.Ytmnncmpmhbfpcaa.H Go.Proofs.Ytmnncmpmhbfpcaa.S
attribute [local go_sem] Oper.semAt_some
def keepI (x : Mst) : Bool := x.2.1 && x.2.2
def outI (l : List Mst) : List Int := (l.filter keepI).map (·.1)
theorem outI_snoc (l : List Mst) (x : Mst) : outI (l ++ [x]) = outI l ++ if keepI x = true then [x.1] else [] := by
  unfold outI
  rw [List.filter_append, List.map_append]
  by_cases h : keepI x = true
  · rw [if_pos h, List.filter_cons_of_pos h]
    rfl
  · rw [if_neg h, List.filter_cons_of_neg h]
    rfl
structure DJI (w : World) (pre : List Mst) (v : Value) (W : World) : Prop where
  ob : Boxed W w.heap.size 22 v
  r : Kd.R (Kd.int .i64) 3 W w.heap.size (fun k => w.heap.size + 3 ≤ k) v (outI pre)
  be : Below w.heap.size w W
  sz : w.heap.size + 3 ≤ W.heap.size
set_option maxRecDepth 100000 in
set_option maxHeartbeats 8000000 in
theorem uinter (A1 : Option Addr) (c1 : Nat) (xs : List Int) (A2 : Option Addr) (c2 : Nat) (ys : List Int) (w : World) (hr1 : Kd.C (Kd.int .i64) w A1 xs.length xs) (hc1 : xs.length ≤ c1) (hr2 : Kd.C (Kd.int .i64) w A2 ys.length ys) (hc2 : ys.length ≤ c2) (hmax : xs.length + ys.length ≤ 1000000) :
    Calls Try.prog 47 #[.slice A1 xs.length c1, .slice A2 ys.length c2] w fun e w' => ∃ v0, e = .returned v0 ∧ Kd.R (Kd.int .i64) 3 w' w.heap.size (fun _ => True) v0 (outI (mergeL (xs.length + ys.length) xs ys)) ∧ Below w.heap.size w w' := by
  have HME := Lib.hid merged_any
  refine (callsIn_wide (n := 9)).1 ?_
  refine callsIn_of_wp_marks Try.func47 rfl trivial ?_ rfl
  simp only [Try.ntmps47, List.size_toArray, List.length_cons, List.length_nil, Nat.reduceAdd, Nat.reduceSub, Array.replicate_succ, Array.replicate_zero, List.push_toArray, List.append_toArray, List.nil_append, List.cons_append]
  gi_wp2_with (first | (refine ⟨trivial, ?_⟩; gi_at_call 74; refine (callsIn_wide.2 (HME.out _ _ _ _ _ _ _)).mono ?_; rintro e w' ⟨rfl, rfl⟩))
  obtain ⟨W0, hW0⟩ : ∃ W0, ((w.alloc (.cells #[.slice none 0 0] 22)).alloc (.cells #[.slice A1 xs.length c1] 22)).alloc (.cells #[.slice A2 ys.length c2] 22) = W0 := ⟨_, rfl⟩
  rw [hW0]
  have hbe : Below w.heap.size w W0 := by
    rw [← hW0]
    exact (((Below.refl _ w).alloc (Nat.le_refl _) _).alloc (by simp) _).alloc (by simp; omega) _
  have hsz : W0.heap.size = w.heap.size + 3 := by rw [← hW0]; simp
  have hbx : Boxed W0 w.heap.size 22 (.slice none 0 0) := by
    rw [← hW0]
    exact ((Boxed.new w 22 _).alloc _).alloc _
  have hbA : Boxed W0 (w.heap.size + 1) 22 (.slice A1 xs.length c1) := by
    have := (Boxed.new (w.alloc (.cells #[.slice none 0 0] 22)) 22 (.slice A1 xs.length c1)).alloc (.cells #[.slice A2 ys.length c2] 22)
    rw [← hW0]
    simpa using this
  have hbB : Boxed W0 (w.heap.size + 1 + 1) 22 (.slice A2 ys.length c2) := by
    have := Boxed.new ((w.alloc (.cells #[.slice none 0 0] 22)).alloc (.cells #[.slice A1 xs.length c1] 22)) 22 (.slice A2 ys.length c2)
    rw [← hW0]
    simpa using this
  clear hW0
  have far : ∀ {A : Option Addr} {l : List Int}, Kd.C (Kd.int .i64) w A l.length l → ∀ ad : Addr, A = some ad → 0 < l.length → ad.block < w.heap.size + 3 ∧ ¬ Wr2 (fun k => k = w.heap.size) (w.heap.size + 1) (w.heap.size + 1 + 1) ad.block := fun {A l} hr ad e hp => by
    obtain ⟨ad2, e2, hlt, _⟩ := reads_at hr hp
    rw [e] at e2
    injection e2 with e2
    subst e2
    refine ⟨by omega, fun h => ?_⟩
    rcases h with h | h | h <;> omega
  have hseq := merged_seq 8 (by omega) (w.heap.size + 1) (w.heap.size + 1 + 1) (w.heap.size + 3) (fun k => k = w.heap.size) xs ys _ _ hmax W0 (by omega) ⟨by omega, by omega, by omega⟩ ⟨by omega, by omega⟩ hbA hbB
    (RdK.start (Kd.C_below hr1 hbe) hc1 (far hr1)) (RdK.start (Kd.C_below hr2 hbe) hc2 (far hr2))
  refine wpIn_rangeFunc_S rfl (by omega) (gf := 92) (lb := #[.pointer (some ⟨w.heap.size + 1, 0, none⟩), .pointer (some ⟨w.heap.size + 1 + 1, 0, none⟩)]) rfl trivial (enters_of Try.func92 (by kernel_rfl) rfl)
    (St := fun r => r = w.heap.size + 1 ∨ r = w.heap.size + 1 + 1) (by intro r h; rcases h with h | h <;> omega)
    hseq (fun h k => h.trans k) ?kb (Below.refl _ _) (fun _ => rfl)
    (fun pre W => ∃ v, DJI w pre v W) (fun _ _ _ => False) ?abI (fun _ _ _ _ _ hs _ _ => hs) ⟨.slice none 0 0, hbx, Kd.R_nil _ _ _ _ _, hbe, by omega⟩
    (fun x a' W => ∃ Bx, w.heap.size + 3 ≤ Bx ∧ Box2 W Bx x ∧ a' = { tmps := #[.slice A1 xs.length c1, .slice A2 ys.length c2, undef, undef, .slice none 0 0, .pointer (some ⟨w.heap.size, 0, none⟩), .int .i64 x.1, .pointer (some ⟨Bx, 0, none⟩), .slice A1 xs.length c1, .slice A2 ys.length c2,
          .func (.func 92) #[] #[.pointer (some ⟨w.heap.size + 1, 0, none⟩), .pointer (some ⟨w.heap.size + 1 + 1, 0, none⟩)],
          .int .i64 x.1, .agg #[.bool x.2.1, .bool x.2.2], undef, undef, undef, undef, undef, undef, undef, undef, undef, undef, undef], defers := [] }) ?ax ?assign ?body ?done ?stop
  case kb =>
    intro W l o o' hl h _ _
    exact ⟨by simp [World.putObj], fun k hk hw => World.putObj_heap_other (by omega)⟩
  case abI =>
    rintro s X Y row ⟨v, h1, h2, h3, h4⟩ hg hrow
    have hgs := hg.size
    refine ⟨v, h1.kept hg (fun e => ?_), Kd.R_grown2 h2 rfl hg (fun k e e2 => ?_), h3.grown hg h3.size (fun k e => ?_), by omega⟩
    · rcases hrow _ e.symm with (h | h) | ⟨h, _⟩ <;> omega
    · obtain ⟨cells, hc⟩ := Kd.R_typed h2 k e2.symm
      rcases hrow _ e with (h | h) | ⟨_, o, ho, hno⟩
      · have := h2.1 k e2.symm
        omega
      · have := h2.1 k e2.symm
        omega
      · rw [hc] at ho
        cases ho
        cases hno
    · rcases hrow _ e with (h | h) | ⟨h, _⟩ <;> omega
  case ax =>
    rintro x a' s X Y row ⟨Bx, hb, h3, rfl⟩ hg hrow
    refine ⟨Bx, hb, ?_, rfl⟩
    refine (hg.block Bx (Array.getElem?_eq_some_iff.1 h3).1 (fun e => ?_)).trans h3
    obtain ⟨_, o, ho, hc⟩ := hrow _ e.symm
    rw [h3] at ho
    cases ho
    cases hc
  case assign =>
    rintro l pre x W K ⟨v, h1, h2, h3, h4⟩ hK
    simp only [encM]
    gi_wp2
    exact hK _ _ ((KeepsOthers.alloc _ _).from _) ((KeepX.refl _ _ _).alloc h4 _) ⟨v, h1.alloc _, Kd.R_alloc h2 _, h3.alloc h3.size _, by simp; omega⟩ ⟨W.heap.size, h4, World.alloc_heap_new W _, rfl⟩
  case body =>
    rintro l pre x a' W hl ⟨r, hrl⟩ ⟨v, h1, h2, h3, h4⟩ ⟨Bx, hb, hx3, rfl⟩ hpre
    have hc1 := h1.cell
    have hf1 := h1.frozen
    have hx0 : W.cell? ⟨Bx, 0, none⟩ = some (.bool x.2.1) := by simp [World.cell?, show W.heap[Bx]? = _ from hx3]
    have hx1 : W.cell? ⟨Bx, 1, none⟩ = some (.bool x.2.2) := by simp [World.cell?, show W.heap[Bx]? = _ from hx3]
    have hlen : (outI pre).length ≤ 1000000 := by
      obtain ⟨z, hz⟩ := hpre
      have h5 : (outI pre).length ≤ pre.length := by
        unfold outI
        rw [List.length_map]
        exact List.length_filter_le _ _
      have h6 : pre.length ≤ (mergeL (xs.length + ys.length) xs ys).length := by rw [← hz]; simp
      have h7 : ∀ (k : Nat) (a b : List Int), (mergeL k a b).length ≤ k := by
        intro k
        induction k with
        | zero => intro a b; simp [mergeL]
        | succ k ih =>
          intro a b
          cases a <;> cases b <;> simp only [mergeL]
          · simp
          · have := ih [] ‹_›; simp; omega
          · have := ih ‹_› []; simp; omega
          · split
            · simp; exact ih _ _
            · split
              · simp; exact ih _ _
              · simp; exact ih _ _
      have := h7 (xs.length + ys.length) xs ys
      omega
    clear hseq hbx hbA hbB hbe far hpre hrl hr1 hr2
    obtain ⟨x1, x2, x3⟩ := x
    dsimp only at *
    cases x2 with
    | false =>
      gi_wp2
      exact ⟨(KeepsOthers.refl _).from _, KeepX.refl _ _ _, v, h1, by rw [outI_snoc, if_neg (by simp [keepI]), List.append_nil]; exact h2, h3, h4⟩
    | true =>
      cases x3 with
      | false =>
        gi_wp2
        exact ⟨(KeepsOthers.refl _).from _, KeepX.refl _ _ _, v, h1, by rw [outI_snoc, if_neg (by simp [keepI]), List.append_nil]; exact h2, h3, h4⟩
      | true =>
        gi_upto_region 6 with (fail)
        refine wpIn_region_plain (by kernel_rfl) ?hq ?_
        case hq => exact fun a w h => h
        have HDX := Lib.hid (DJI.mk h1 h2 h3 h4)
        have hlen8 : ((outI pre).length + 1) * 8 ≤ 140737488355328 := by omega
        go_wp2_with (first | (at_builtin; refine Kd.R_append (Kd.int .i64) (w0 := w) w.heap.size rfl (.tmp 19) (.tmp 21) 22 3 (.int .i64 0) 8 rfl Try.underlying22 tinfo3 rfl (by decide) (by decide) v (outI pre) x1 [.int .i64 x1] (fun k => w.heap.size + 3 ≤ k) (fun _ => False) rfl rfl ?aP (fun _ hk => hk.elim) ?aF ?aO ?aB ?aS ?aL ?_; (case aP => exact rfl); (case aF => exact (fun k hk => Nat.le_trans HDX.out.sz hk)); (case aO => exact HDX.out.r); (case aB => exact HDX.out.be); (case aS => exact HDX.out.be.size); (case aL => exact hlen8); intro v9 w9 ho9 hb9 hg9 hat9; obtain ⟨A9, m9, hv9⟩ := Kd.R_slice ho9; subst hv9; have hne9 : some w.heap.size ≠ v.ownBlock := (fun e => by have := HDX.out.r.1 _ e.symm; omega); have hbx9 := HDX.out.ob.kept hg9 hne9; have hc9 := hbx9.cell; have hf9 := hbx9.frozen; clear hc1 hf1))
        have hgs := hg9.size
        refine ⟨⟨by simpa [World.setCell] using hgs, fun k o hk ho hno => ?_⟩, ⟨by simpa [World.setCell] using hgs, fun k hk hw => ?_⟩, _, hbx9.set _, ?_, hb9.setCell (p := ⟨w.heap.size, 0, none⟩) (Nat.le_refl _) _, ?_⟩
        · refine (Below.heap_setCell w9 ⟨w.heap.size, 0, none⟩ _ k (by show k ≠ w.heap.size; omega)).trans ((hg9.block k (Array.getElem?_eq_some_iff.1 ho).1 (fun e => ?_)).trans ho)
          obtain ⟨cells, hc⟩ := Kd.R_typed HDX.out.r k e.symm
          rw [ho] at hc
          cases hc
          cases hno
        · refine (Below.heap_setCell w9 ⟨w.heap.size, 0, none⟩ _ k (by show k ≠ w.heap.size; exact hw)).trans (hg9.block k (by have := HDX.out.sz; omega) (fun e => ?_))
          have := HDX.out.r.1 _ e.symm
          omega
        · rw [outI_snoc, if_pos (by simp [keepI])]
          have h9 := Kd.R_far (p := ⟨w.heap.size, 0, none⟩) ho9 (fun k hk e => by have e' : k = w.heap.size := e; omega) (.slice A9 ((outI pre).length + 1) m9)
          rw [show (outI pre ++ [x1]).length = (outI pre).length + 1 by simp] at h9
          exact h9
        · have := HDX.out.sz
          show _ ≤ (World.setCell _ _ _).heap.size
          simp only [World.setCell]
          simp
          omega
  case done =>
    rintro D W hD ⟨v, h1, h2, h3, h4⟩ hK
    have hc1 := h1.cell
    gi_wp2
    refine ⟨by simp, .inl ⟨_, _, rfl, run_takeDeferred hK, ?_⟩⟩
    refine ⟨_, results_tmp rfl _ _ _, _, rfl, ?_, h3.trans (belowK_b (w := w) (Nat.le_refl _) W D _ _ (by omega) hK rfl rfl)⟩
    refine Kd.R_mono (Kd.R_grown2 h2 rfl (grownBy_putObj' W D (.deferred none)) (fun k e e2 => ?_)) (fun _ _ => trivial)
    obtain ⟨cells, hc⟩ := Kd.R_typed h2 k e2.symm
    injection e with e
    subst e
    rw [hK] at hc
    cases hc
  case stop =>
    rintro D c pre W _ _ h _
    exact h.elim
def keepU (x : Mst) : Bool := true
def outU (l : List Mst) : List Int := (l.filter keepU).map (·.1)
theorem outU_snoc (l : List Mst) (x : Mst) : outU (l ++ [x]) = outU l ++ if keepU x = true then [x.1] else [] := by
  unfold outU
  rw [List.filter_append, List.map_append]
  by_cases h : keepU x = true
  · rw [if_pos h, List.filter_cons_of_pos h]
    rfl
  · rw [if_neg h, List.filter_cons_of_neg h]
    rfl
structure DJU (w : World) (pre : List Mst) (v : Value) (W : World) : Prop where
  ob : Boxed W w.heap.size 22 v
  r : Kd.R (Kd.int .i64) 3 W w.heap.size (fun k => w.heap.size + 3 ≤ k) v (outU pre)
  be : Below w.heap.size w W
  sz : w.heap.size + 3 ≤ W.heap.size
set_option maxRecDepth 100000 in
set_option maxHeartbeats 8000000 in
theorem uunion (A1 : Option Addr) (c1 : Nat) (xs : List Int) (A2 : Option Addr) (c2 : Nat) (ys : List Int) (w : World) (hr1 : Kd.C (Kd.int .i64) w A1 xs.length xs) (hc1 : xs.length ≤ c1) (hr2 : Kd.C (Kd.int .i64) w A2 ys.length ys) (hc2 : ys.length ≤ c2) (hmax : xs.length + ys.length ≤ 1000000) :
    Calls Try.prog 44 #[.slice A1 xs.length c1, .slice A2 ys.length c2] w fun e w' => ∃ v0, e = .returned v0 ∧ Kd.R (Kd.int .i64) 3 w' w.heap.size (fun _ => True) v0 (outU (mergeL (xs.length + ys.length) xs ys)) ∧ Below w.heap.size w w' := by
  have HME := Lib.hid merged_any
  refine (callsIn_wide (n := 9)).1 ?_
  refine callsIn_of_wp_marks Try.func44 rfl trivial ?_ rfl
  simp only [Try.ntmps44, List.size_toArray, List.length_cons, List.length_nil, Nat.reduceAdd, Nat.reduceSub, Array.replicate_succ, Array.replicate_zero, List.push_toArray, List.append_toArray, List.nil_append, List.cons_append]
  gi_wp2_with (first | (refine ⟨trivial, ?_⟩; gi_at_call 74; refine (callsIn_wide.2 (HME.out _ _ _ _ _ _ _)).mono ?_; rintro e w' ⟨rfl, rfl⟩))
  obtain ⟨W0, hW0⟩ : ∃ W0, ((w.alloc (.cells #[.slice none 0 0] 22)).alloc (.cells #[.slice A1 xs.length c1] 22)).alloc (.cells #[.slice A2 ys.length c2] 22) = W0 := ⟨_, rfl⟩
  rw [hW0]
  have hbe : Below w.heap.size w W0 := by
    rw [← hW0]
    exact (((Below.refl _ w).alloc (Nat.le_refl _) _).alloc (by simp) _).alloc (by simp; omega) _
  have hsz : W0.heap.size = w.heap.size + 3 := by rw [← hW0]; simp
  have hbx : Boxed W0 w.heap.size 22 (.slice none 0 0) := by
    rw [← hW0]
    exact ((Boxed.new w 22 _).alloc _).alloc _
  have hbA : Boxed W0 (w.heap.size + 1) 22 (.slice A1 xs.length c1) := by
    have := (Boxed.new (w.alloc (.cells #[.slice none 0 0] 22)) 22 (.slice A1 xs.length c1)).alloc (.cells #[.slice A2 ys.length c2] 22)
    rw [← hW0]
    simpa using this
  have hbB : Boxed W0 (w.heap.size + 1 + 1) 22 (.slice A2 ys.length c2) := by
    have := Boxed.new ((w.alloc (.cells #[.slice none 0 0] 22)).alloc (.cells #[.slice A1 xs.length c1] 22)) 22 (.slice A2 ys.length c2)
    rw [← hW0]
    simpa using this
  clear hW0
  have far : ∀ {A : Option Addr} {l : List Int}, Kd.C (Kd.int .i64) w A l.length l → ∀ ad : Addr, A = some ad → 0 < l.length → ad.block < w.heap.size + 3 ∧ ¬ Wr2 (fun k => k = w.heap.size) (w.heap.size + 1) (w.heap.size + 1 + 1) ad.block := fun {A l} hr ad e hp => by
    obtain ⟨ad2, e2, hlt, _⟩ := reads_at hr hp
    rw [e] at e2
    injection e2 with e2
    subst e2
    refine ⟨by omega, fun h => ?_⟩
    rcases h with h | h | h <;> omega
  have hseq := merged_seq 8 (by omega) (w.heap.size + 1) (w.heap.size + 1 + 1) (w.heap.size + 3) (fun k => k = w.heap.size) xs ys _ _ hmax W0 (by omega) ⟨by omega, by omega, by omega⟩ ⟨by omega, by omega⟩ hbA hbB
    (RdK.start (Kd.C_below hr1 hbe) hc1 (far hr1)) (RdK.start (Kd.C_below hr2 hbe) hc2 (far hr2))
  refine wpIn_rangeFunc_S rfl (by omega) (gf := 92) (lb := #[.pointer (some ⟨w.heap.size + 1, 0, none⟩), .pointer (some ⟨w.heap.size + 1 + 1, 0, none⟩)]) rfl trivial (enters_of Try.func92 (by kernel_rfl) rfl)
    (St := fun r => r = w.heap.size + 1 ∨ r = w.heap.size + 1 + 1) (by intro r h; rcases h with h | h <;> omega)
    hseq (fun h k => h.trans k) ?kb (Below.refl _ _) (fun _ => rfl)
    (fun pre W => ∃ v, DJU w pre v W) (fun _ _ _ => False) ?abI (fun _ _ _ _ _ hs _ _ => hs) ⟨.slice none 0 0, hbx, Kd.R_nil _ _ _ _ _, hbe, by omega⟩
    (fun x a' W => a' = { tmps := #[.slice A1 xs.length c1, .slice A2 ys.length c2, undef, undef, .slice none 0 0, .pointer (some ⟨w.heap.size, 0, none⟩), .int .i64 x.1, .slice A1 xs.length c1, .slice A2 ys.length c2,
          .func (.func 92) #[] #[.pointer (some ⟨w.heap.size + 1, 0, none⟩), .pointer (some ⟨w.heap.size + 1 + 1, 0, none⟩)],
          .int .i64 x.1, .agg #[.bool x.2.1, .bool x.2.2], undef, undef, undef, undef, undef], defers := [] }) ?ax ?assign ?body ?done ?stop
  case kb =>
    intro W l o o' hl h _ _
    exact ⟨by simp [World.putObj], fun k hk hw => World.putObj_heap_other (by omega)⟩
  case abI =>
    rintro s X Y row ⟨v, h1, h2, h3, h4⟩ hg hrow
    have hgs := hg.size
    refine ⟨v, h1.kept hg (fun e => ?_), Kd.R_grown2 h2 rfl hg (fun k e e2 => ?_), h3.grown hg h3.size (fun k e => ?_), by omega⟩
    · rcases hrow _ e.symm with (h | h) | ⟨h, _⟩ <;> omega
    · obtain ⟨cells, hc⟩ := Kd.R_typed h2 k e2.symm
      rcases hrow _ e with (h | h) | ⟨_, o, ho, hno⟩
      · have := h2.1 k e2.symm
        omega
      · have := h2.1 k e2.symm
        omega
      · rw [hc] at ho
        cases ho
        cases hno
    · rcases hrow _ e with (h | h) | ⟨h, _⟩ <;> omega
  case ax =>
    rintro x a' s X Y row rfl hg hrow
    rfl
  case assign =>
    rintro l pre x W K ⟨v, h1, h2, h3, h4⟩ hK
    simp only [encM]
    gi_wp2
    exact hK _ _ ((KeepsOthers.refl _).from _) (KeepX.refl _ _ _) ⟨v, h1, h2, h3, h4⟩ rfl
  case body =>
    rintro l pre x a' W hl ⟨r, hrl⟩ ⟨v, h1, h2, h3, h4⟩ rfl hpre
    have hc1 := h1.cell
    have hf1 := h1.frozen
    have hlen : (outU pre).length ≤ 1000000 := by
      obtain ⟨z, hz⟩ := hpre
      have h5 : (outU pre).length ≤ pre.length := by
        unfold outU
        rw [List.length_map]
        exact List.length_filter_le _ _
      have h6 : pre.length ≤ (mergeL (xs.length + ys.length) xs ys).length := by rw [← hz]; simp
      have h7 : ∀ (k : Nat) (a b : List Int), (mergeL k a b).length ≤ k := by
        intro k
        induction k with
        | zero => intro a b; simp [mergeL]
        | succ k ih =>
          intro a b
          cases a <;> cases b <;> simp only [mergeL]
          · simp
          · have := ih [] ‹_›; simp; omega
          · have := ih ‹_› []; simp; omega
          · split
            · simp; exact ih _ _
            · split
              · simp; exact ih _ _
              · simp; exact ih _ _
      have := h7 (xs.length + ys.length) xs ys
      omega
    clear hseq hbx hbA hbB hbe far hpre hrl hr1 hr2
    obtain ⟨x1, x2, x3⟩ := x
    dsimp only at *
    gi_upto_region 4 with (fail)
    refine wpIn_region_plain (by kernel_rfl) ?hq ?_
    case hq => exact fun a w h => h
    have HDX := Lib.hid (DJU.mk h1 h2 h3 h4)
    have hlen8 : ((outU pre).length + 1) * 8 ≤ 140737488355328 := by omega
    go_wp2_with (first | (at_builtin; refine Kd.R_append (Kd.int .i64) (w0 := w) w.heap.size rfl (.tmp 12) (.tmp 14) 22 3 (.int .i64 0) 8 rfl Try.underlying22 tinfo3 rfl (by decide) (by decide) v (outU pre) x1 [.int .i64 x1] (fun k => w.heap.size + 3 ≤ k) (fun _ => False) rfl rfl ?aP (fun _ hk => hk.elim) ?aF ?aO ?aB ?aS ?aL ?_; (case aP => exact rfl); (case aF => exact (fun k hk => Nat.le_trans HDX.out.sz hk)); (case aO => exact HDX.out.r); (case aB => exact HDX.out.be); (case aS => exact HDX.out.be.size); (case aL => exact hlen8); intro v9 w9 ho9 hb9 hg9 hat9; obtain ⟨A9, m9, hv9⟩ := Kd.R_slice ho9; subst hv9; have hne9 : some w.heap.size ≠ v.ownBlock := (fun e => by have := HDX.out.r.1 _ e.symm; omega); have hbx9 := HDX.out.ob.kept hg9 hne9; have hc9 := hbx9.cell; have hf9 := hbx9.frozen; clear hc1 hf1))
    have hgs := hg9.size
    refine ⟨⟨by simpa [World.setCell] using hgs, fun k o hk ho hno => ?_⟩, ⟨by simpa [World.setCell] using hgs, fun k hk hw => ?_⟩, _, hbx9.set _, ?_, hb9.setCell (p := ⟨w.heap.size, 0, none⟩) (Nat.le_refl _) _, ?_⟩
    · refine (Below.heap_setCell w9 ⟨w.heap.size, 0, none⟩ _ k (by show k ≠ w.heap.size; omega)).trans ((hg9.block k (Array.getElem?_eq_some_iff.1 ho).1 (fun e => ?_)).trans ho)
      obtain ⟨cells, hc⟩ := Kd.R_typed HDX.out.r k e.symm
      rw [ho] at hc
      cases hc
      cases hno
    · refine (Below.heap_setCell w9 ⟨w.heap.size, 0, none⟩ _ k (by show k ≠ w.heap.size; exact hw)).trans (hg9.block k (by have := HDX.out.sz; omega) (fun e => ?_))
      have := HDX.out.r.1 _ e.symm
      omega
    · rw [outU_snoc, if_pos (by simp [keepU])]
      have h9 := Kd.R_far (p := ⟨w.heap.size, 0, none⟩) ho9 (fun k hk e => by have e' : k = w.heap.size := e; omega) (.slice A9 ((outU pre).length + 1) m9)
      rw [show (outU pre ++ [x1]).length = (outU pre).length + 1 by simp] at h9
      exact h9
    · have := HDX.out.sz
      show _ ≤ (World.setCell _ _ _).heap.size
      simp only [World.setCell]
      simp
      omega
  case done =>
    rintro D W hD ⟨v, h1, h2, h3, h4⟩ hK
    have hc1 := h1.cell
    gi_wp2
    refine ⟨by simp, .inl ⟨_, _, rfl, run_takeDeferred hK, ?_⟩⟩
    refine ⟨_, results_tmp rfl _ _ _, _, rfl, ?_, h3.trans (belowK_b (w := w) (Nat.le_refl _) W D _ _ (by omega) hK rfl rfl)⟩
    refine Kd.R_mono (Kd.R_grown2 h2 rfl (grownBy_putObj' W D (.deferred none)) (fun k e e2 => ?_)) (fun _ _ => trivial)
    obtain ⟨cells, hc⟩ := Kd.R_typed h2 k e2.symm
    injection e with e
    subst e
    rw [hK] at hc
    cases hc
  case stop =>
    rintro D c pre W _ _ h _
    exact h.elim
end Go.Proofs.Ytmnncmpmhbfpcaa.X
end
section
namespace Go.Proofs.Ytmnncmpmhbfpcaa.X
set_option linter.unusedVariables false
set_option linter.unusedSimpArgs false
open Go.RowKit Go.Proofs.YtmnncmpmhbfpcaaW.PrintWords Go.Proofs.YtmnncmpmhbfpcaaW.PrintLast Go.Proofs.YtmnncmpmhbfpcaaW.PrintMore
open Go.Proofs.Ytmnncmpmhbfpcaa.A Go.Proofs.Ytmnncmpmhbfpcaa.H Go.Proofs.Ytmnncmpmhbfpcaa.B Go.Proofs.Ytmnncmpmhbfpcaa.S Go.Proofs.Ytmnncmpmhbfpcaa.P Go.Proofs.Ytmnncmpmhbfpcaa.V Go.Proofs.Ytmnncmpmhbfpcaa.U
def T45 : Bool × List (List Nat × List Nat) := (true, [([], []), ([], []), ([], []), ([2], [2]), ([3], [3]), ([0, 1, 4], [0, 1, 4]), ([5, 5, 0, 1, 2, 3, 4, 5], [5])])
def B45 : List Nat := [0, 0, 0, 4, 12, 31, 63]
theorem tab45 : rtab .any (opsOf Try.f45 4) = T45 := by kernel_rfl
theorem bits45 : waitsOk T45.2 B45 = true := by kernel_rfl
theorem tinfo22 : (Try.prog.info? 22).map (fun i => (i.zero, i.size, i.bytes)) = some (some (.slice none 0 0), 1, 24) := by kernel_rfl
def lenV : Value → Nat
  | .slice _ n _ => n
  | _ => 0
def partsL (pt : Int → List Int) : Nat → List Int → List (List Int)
  | 0, _ => []
  | k + 1, [] => []
  | k + 1, c :: l => if pt c = [] then partsL pt k l else pt c :: partsL pt k (outD (mergeL ((c :: l).length + (pt c).length) (c :: l) (pt c)))
theorem partsL_nil (pt : Int → List Int) (k : Nat) : partsL pt k [] = [] := by cases k <;> rfl
theorem partsL_skip {pt : Int → List Int} {k : Nat} {c : Int} {l : List Int} (h : pt c = []) : partsL pt (k + 1) (c :: l) = partsL pt k l := by rw [partsL, if_pos h]
theorem partsL_take {pt : Int → List Int} {k : Nat} {c : Int} {l : List Int} (h : pt c ≠ []) : partsL pt (k + 1) (c :: l) = pt c :: partsL pt k (outD (mergeL ((c :: l).length + (pt c).length) (c :: l) (pt c))) := by rw [partsL, if_neg h]
def LfOk (W : World) (v5 v6 : Value) (left : List Int) : Prop := ∃ A c, v6 = .slice A left.length c ∧ left.length ≤ c ∧ Kd.C (Kd.int .i64) W A left.length left ∧ ∀ ad, A = some ad → 0 < left.length → some ad.block ≠ v5.ownBlock
theorem FBox_grown {W W1 : World} {g : Nat} {row : Option Nat} {cs : Array Value} (h : FBox W g cs) (hne : some g ≠ row) (hg : W.grownBy W1 row) : FBox W1 g cs := (hg.block g h.lt hne).trans h
section
variable {W W1 : World} {v5 v6 : Value} {left : List Int}
theorem LfOk.start {A : Option Addr} {c : Nat} (h : Kd.C (Kd.int .i64) W A left.length left) (hc : left.length ≤ c) : LfOk W (.slice none 0 0) (.slice A left.length c) left := ⟨A, c, rfl, hc, h, fun ad _ _ => by simp [Value.ownBlock]⟩
theorem LfOk.nil (h : LfOk W v5 v6 []) : ∃ A c, v6 = .slice A 0 c := by
  obtain ⟨A, c, e, _⟩ := h
  exact ⟨A, c, e⟩
theorem LfOk.below (h : LfOk W v5 v6 left) (hb : Below W.heap.size W W1) : LfOk W1 v5 v6 left := by
  obtain ⟨A, c, e, h1, h2, h3⟩ := h
  exact ⟨A, c, e, h1, Kd.C_below h2 hb, h3⟩
theorem LfOk.grown (h : LfOk W v5 v6 left) (hg : W.grownBy W1 v5.ownBlock) : ∃ A c, v6 = .slice A left.length c ∧ left.length ≤ c ∧ Kd.C (Kd.int .i64) W1 A left.length left ∧ True := by
  obtain ⟨A, c, e, h1, h2, h3⟩ := h
  refine ⟨A, c, e, h1, ?_, trivial⟩
  obtain ⟨r1, r2, r3⟩ := Kd.reads_of_C (d := (0 : Int)) (h1 := fun _ => rfl) h2
  refine Kd.C_of_reads (d := (0 : Int)) (h1 := fun _ => rfl) ⟨r1, r2, fun hp => ?_⟩
  obtain ⟨ad, e, hcell⟩ := r3 hp
  have hlt : ad.block < W.heap.size := by
    obtain ⟨ad2, e2, hlt, _⟩ := reads_at h2 hp
    rw [e] at e2
    injection e2 with e2
    subst e2
    exact hlt
  exact ⟨ad, e, fun j hj => (World.cell?_of_block (a := ad.add j) (by rw [block_of_add']; exact hg.block _ hlt (h3 ad e hp))).trans (hcell j hj)⟩
theorem LfOk.made {α : Type} {d : Kd α} {e b : Nat} {ok ok' : Nat → Prop} {xs : List α} (h : Kd.R (Kd.int .i64) 3 W1 W.heap.size ok v6 left) (hO : d.R e W b ok' v5 xs) : LfOk W1 v5 v6 left := by
  obtain ⟨A, c, rfl, hl, hC⟩ := Kd.R_reads h
  refine ⟨A, c, rfl, hl, hC, fun ad e hp he => ?_⟩
  obtain ⟨g, cap, e2, hg, _⟩ := Kd.R_form h hp
  injection e2 with e2
  rw [e] at e2
  injection e2 with e2
  subst e2
  have := Kd.R_lt hO _ he.symm
  dsimp only at this
  omega
theorem LfOk.cons {x : Int} {q : List Int} (h : LfOk W v5 v6 (x :: q)) :
    ∃ ad c A' c', v6 = .slice (some ad) (q.length + 1) c ∧ W.cell? ad = some (.int .i64 x) ∧ q.length + 1 ≤ c ∧
      (∀ W, (Instr.slice 22 (.slice (some ad) (q.length + 1) c) (some (.int .i64 1)) none none).run Try.prog W = .ok (.slice A' q.length c') W) ∧ LfOk W v5 (.slice A' q.length c') q := by
  obtain ⟨A, c, rfl, hc, hC, hs⟩ := h
  obtain ⟨ad, rfl, _, hcell⟩ := reads_at hC (by simp)
  have h0 := hcell 0 (by simp)
  obtain ⟨i3, hi3, hsz⟩ : ∃ i, Try.prog.info? 3 = some i ∧ i.size = 1 := by
    have := tinfo3
    cases h : Try.prog.info? 3 with
    | none => rw [h] at this; cases this
    | some i =>
      rw [h] at this
      simp only [Option.map_some, Option.some.injEq, Prod.mk.injEq] at this
      exact ⟨i, rfl, this.2.1⟩
  have hc' : q.length + 1 ≤ c := by simpa using hc
  have hcut := cut_from (P := Try.prog) 22 3 .i64 Try.underlying22 hi3 1 hsz (some ad) (q.length + 1) c 1 (by omega) (by omega)
  have hz : ad.add 0 = ad := by
    unfold Addr.add
    split <;> simp_all
  rw [hz] at h0
  refine ⟨ad, c, _, _, rfl, by simpa using h0, hc', hcut, ?_⟩
  refine ⟨_, c - 1, rfl, by omega, Kd.C_drop (c := c) hC (m := 1) (by simp) hc, fun ad' e hp => ?_⟩
  have hb := hs ad rfl (by simp)
  split at e
  · injection e with e
    subst e
    exact hb
  · rw [Option.map_some] at e
    injection e with e
    subst e
    rw [block_of_add']
    exact hb
end
set_option maxRecDepth 100000 in
set_option maxHeartbeats 8000000 in
theorem uparts (a0_0 : Int) (a0_1 : Int) (a0_2 : Int) (A0_3 : Option Addr) (c0_3 : Nat) (l0_3 : List Int) (A0_4 : Option Addr) (c0_4 : Nat) (l0_4 : List Int) (A1 : Option Addr) (c1 : Nat) (l1 : List Int) (w : World) (hr1 : Kd.C (Kd.int .i64) w A1 l1.length l1) (hc1 : l1.length ≤ c1) (hlen : l1.length ≤ 100000) (pt : Int → List Int) (G : List Int → Prop) (hG : G l1) (hG1 : ∀ c l, G (c :: l) → G l)
    (hG2 : ∀ c l, G (c :: l) → pt c ≠ [] → G (outD (mergeL ((c :: l).length + (pt c).length) (c :: l) (pt c))) ∧ (outD (mergeL ((c :: l).length + (pt c).length) (c :: l) (pt c))).length < (c :: l).length) (hG3 : ∀ c l, G (c :: l) → (pt c).length ≤ 100000)
    (HP : Hid (∀ c l, G (c :: l) → ∀ W, Below w.heap.size w W → Calls Try.prog 75 #[.agg #[.int .i64 a0_0, .int .i64 a0_1, .int .i64 a0_2, .slice A0_3 l0_3.length c0_3, .slice A0_4 l0_4.length c0_4], .slice A1 l1.length c1, .int .i64 c] W fun e w' => ∃ v0, e = .returned v0 ∧ Kd.R (Kd.int .i64) 3 w' W.heap.size (fun _ => True) v0 (pt c) ∧ Below W.heap.size W w')) :
    Calls Try.prog 45 #[.agg #[.int .i64 a0_0, .int .i64 a0_1, .int .i64 a0_2, .slice A0_3 l0_3.length c0_3, .slice A0_4 l0_4.length c0_4], .slice A1 l1.length c1] w fun e w' => ∃ v0, e = .returned v0 ∧ Kd.R (Kd.slice 3 (Kd.int .i64)) 22 w' w.heap.size (fun _ => True) v0 (partsL pt l1.length l1) ∧ Below w.heap.size w w' := by
  have HR1 := Lib.hid hr1
  have HF0 := Lib.hid (FBox.new w #[.int .i64 a0_0, .int .i64 a0_1, .int .i64 a0_2, .slice A0_3 l0_3.length c0_3, .slice A0_4 l0_4.length c0_4])
  have HB0 := Lib.hid ((Below.refl w.heap.size w).alloc (Nat.le_refl _) (.cells #[.int .i64 a0_0, .int .i64 a0_1, .int .i64 a0_2, .slice A0_3 l0_3.length c0_3, .slice A0_4 l0_4.length c0_4] 24))
  have HL0 := Lib.hid (LfOk.start (W := w.alloc (.cells #[.int .i64 a0_0, .int .i64 a0_1, .int .i64 a0_2, .slice A0_3 l0_3.length c0_3, .slice A0_4 l0_4.length c0_4] 24)) (Kd.C_below hr1 HB0.out) hc1)
  clear hr1
  go_enter Try.func45, Try.ntmps45
  go_upto_block 0 with (fail)
  go_wp2_with fail
  go_loopw [5, 6, 7] (fun v5 v6 v7 wr => ∃ (outs : List (List Int)) (left : List Int) (k : Nat) (u5 u6 : Value), u5 = v5 ∧ u6 = v6 ∧ G left ∧ left.length ≤ k ∧ Hid (outs.length + left.length ≤ l1.length) ∧ Hid (outs ++ partsL pt k left = partsL pt l1.length l1) ∧ Hid (Kd.R (Kd.slice 3 (Kd.int .i64)) 22 wr w.heap.size (fun _ => True) u5 outs) ∧ Hid (LfOk wr u5 u6 left) ∧ Hid (FBox wr w.heap.size #[.int .i64 a0_0, .int .i64 a0_1, .int .i64 a0_2, .slice A0_3 l0_3.length c0_3, .slice A0_4 l0_4.length c0_4]) ∧ Hid (Below w.heap.size w wr)) (fun _ v6 _ _ => lenV v6)
  case atStart => exact ⟨[], l1, l1.length, _, _, rfl, rfl, hG, Nat.le_refl _, Lib.hid (by simp), Lib.hid (by simp), Lib.hid (Kd.R_nil _ _ _ _ _), HL0, HF0, HB0⟩
  case round =>
    clear HB0 HF0 HL0
    obtain ⟨outs, left, k, u5, u6, rfl, rfl, hg, hk, HLEN, HP_, HO, HL, HF, HB⟩ := hrel
    cases left with
    | nil =>
      obtain ⟨A, cc, e1⟩ := HL.out.nil
      subst e1
      go_wp2_with fail
      go_ret
      refine ⟨_, rfl, ?_, HB.out⟩
      have h1 := HP_.out
      rw [partsL_nil, List.append_nil] at h1
      rw [← h1]
      exact HO.out
    | cons c lf =>
      obtain ⟨ad, kx, A', k', e1, hck, hkl, hcut, HLT⟩ := HL.out.cons
      subst e1
      obtain ⟨k, rfl⟩ : ∃ q, k = q + 1 := ⟨k - 1, by simp at hk; omega⟩
      have HCUT := Lib.hid hcut
      have HLT := Lib.hid HLT
      have HK := Lib.hid hk
      have HHP := Lib.hid (HP.out c lf hg)
      have q1 : ((lf.length : Int) + 1 == 0) = false := by rw [beq_eq_false_iff_ne]; omega
      have q2 : decide ((lf.length : Int) + 1 = 0) = false := decide_eq_false (by omega)
      have q3 : ((lf.length : Int) + 1 = 0) = False := eq_false (by omega)
      have q4 : decide ((lf.length : Int) + 1 > 0) = true := decide_eq_true (by omega)
      have q5 : (0 < (lf.length : Int) + 1) = True := eq_true (by omega)
      clear hcut hk
      go_upto_region 4 with (fail)
      have hb := below_drew1 (Below.refl wr.heap.size wr)
      have HB1 := Lib.hid (HB.out.trans (hb.mono HB.out.size))
      have HF1 := Lib.hid (HF.out.below hb HF.out.lt)
      have HO1 := Lib.hid (Kd.R_below HO.out hb)
      have HL1 := Lib.hid (HL.out.below hb)
      have HLT1 := Lib.hid (HLT.out.below hb)
      have hck1 : wr.drew.cell? ad = some (.int .i64 c) := hck
      clear hb HB HF HO HL HLT hck
      obtain ⟨e0, e1, e2, e3, e4⟩ := HF1.out.cells
      refine start_ (n := 7) (S := fun w' => w'.cell? ⟨w.heap.size, 0, none⟩ = some (.int .i64 a0_0) ∧ w'.cell? ⟨w.heap.size, 1, none⟩ = some (.int .i64 a0_1) ∧ w'.cell? ⟨w.heap.size, 2, none⟩ = some (.int .i64 a0_2) ∧ w'.cell? ⟨w.heap.size, 3, none⟩ = some (.slice A0_3 l0_3.length c0_3) ∧ w'.cell? ⟨w.heap.size, 4, none⟩ = some (.slice A0_4 l0_4.length c0_4) ∧ w'.cell? ad = some (.int .i64 c)) (ds := []) #[false, false, false, false, false, false, false] (by kernel_rfl) rfl rfl ⟨e0, e1, e2, e3, e4, hck1⟩ (fun hHeld => ?_); refine with_tabW tab45 bits45 (fun HT_ HW_ => ?_)
      clear e0 e1 e2 e3 e4 hck1
      generalize wr.drew = w1 at HB1 HF1 HO1 HL1 HLT1 hHeld ⊢
      have z3 : ((0 : Int) < ((lf.length + 1 : Nat) : Int)) = True := eq_true (by omega)
      have z6 : (0 < lf.length + 1) = True := eq_true (by omega)
      refine pure_ (i := 1) (N := some 13) (v := ?_) (a' := ?_) #[false, true, false, false, false, false, false] rfl rfl (any_of HT_.out (by kernel_rfl)) (fun _ _ _ h => h) (Or.inl ⟨by rfl, ?_⟩) ?_ ?_
      rotate_left
      · intro w'
        go_simp
        with_reducible rfl
      rotate_left
      · simp only [Act.put, List.setIfInBounds_toArray, List.set_cons_zero, List.set_cons_succ, i64_w, i32_w]
        rfl
      refine pure_ (i := 2) (N := some 14) (v := ?_) (a' := ?_) #[false, true, true, false, false, false, false] rfl rfl (any_of HT_.out (by kernel_rfl)) (fun _ _ _ h => h) (Or.inl ⟨by rfl, ?_⟩) ?_ ?_
      rotate_left
      · intro w'
        go_simp
        with_reducible rfl
      rotate_left
      · simp only [Act.put, List.setIfInBounds_toArray, List.set_cons_zero, List.set_cons_succ, i64_w, i32_w]
        rfl
      refine pure_ (i := 3) (N := some 15) (v := ?_) (a' := ?_) #[false, true, true, true, false, false, false] rfl rfl (any_of HT_.out (by kernel_rfl)) (fun _ _ _ h => h) (Or.inl ⟨by rfl, ?_⟩) ?_ ?_
      rotate_left
      · intro w'
        go_simp
        with_reducible rfl
      rotate_left
      · simp only [Act.put, List.setIfInBounds_toArray, List.set_cons_zero, List.set_cons_succ, i64_w, i32_w]
        rfl
      refine take_ (i := 0) (N := some 12) (v := ?_) (a' := ?_) #[true, true, true, true, false, false, false] rfl rfl (take_ofW HT_.out HW_.out (by kernel_rfl)) (fun _ _ _ h => h) (Or.inl ⟨by rfl, ?_⟩) hHeld ?_ ?_
      rotate_left
      · rintro w' ⟨s0, s1, s2, s3, s4, s5⟩
        go_simp
        with_reducible rfl
      rotate_left
      · simp only [Act.put, List.setIfInBounds_toArray, List.set_cons_zero, List.set_cons_succ, i64_w, i32_w]
        rfl
      refine take_ (i := 4) (N := some 16) (v := ?_) (a' := ?_) #[true, true, true, true, true, false, false] rfl rfl (take_ofW HT_.out HW_.out (by kernel_rfl)) (fun _ _ _ h => h) (Or.inl ⟨by rfl, ?_⟩) hHeld ?_ ?_
      rotate_left
      · rintro w' ⟨s0, s1, s2, s3, s4, s5⟩
        go_simp
        with_reducible rfl
      rotate_left
      · simp only [Act.put, List.setIfInBounds_toArray, List.set_cons_zero, List.set_cons_succ, i64_w, i32_w]
        rfl
      refine one_ (i := 5) (N := some 17) #[true, true, true, true, true, true, false] rfl rfl (one_of HT_.out (by kernel_rfl)) (by decide) (fun K hK => ?_)
      refine goes_ Try.func75 (by kernel_rfl) rfl #[.agg #[.int .i64 a0_0, .int .i64 a0_1, .int .i64 a0_2, .slice A0_3 l0_3.length c0_3, .slice A0_4 l0_4.length c0_4], .slice A1 l1.length c1, .int .i64 c] (by rfl) rfl rfl (by (try simp only [List.map_toArray, List.map_cons, List.map_nil]); first | done | rfl) ?_
      refine (HHP.out _ HB1.out).mono ?_
      rintro e w2 ⟨vp, rfl, hR, hb⟩
      refine ⟨_, rfl, ?_⟩
      clear hHeld
      have HB2 := Lib.hid (HB1.out.trans (hb.mono HB1.out.size))
      have HF2 := Lib.hid (HF1.out.below hb HF1.out.lt)
      have HRP := Lib.hid (Kd.R_lower (Kd.R_newR hR HO1.out) HB1.out.size)
      have HO2 := Lib.hid (Kd.R_below HO1.out hb)
      have HL2 := Lib.hid (HL1.out.below hb)
      have HLT2 := Lib.hid (HLT1.out.below hb)
      have hck : w2.cell? ad = some (.int .i64 c) := by
        obtain ⟨ad', kx', A'', k'', e1, e2, _⟩ := HL2.out.cons
        injection e1 with e1
        injection e1 with e1
        subst e1
        exact e2
      clear hb hR HB1 HF1 HO1 HL1 HLT1
      obtain ⟨e0, e1, e2, e3, e4⟩ := HF2.out.cells
      refine hK.out _ _ ⟨e0, e1, e2, e3, e4, hck⟩ (fun hHeld => ?_)
      clear e0 e1 e2 e3 e4 hck
      clear hK K
      refine norm_ (a' := ?_) ?_ ?_
      rotate_left
      · show Act.put _ (some 17) _ = _
        simp only [Act.put, List.setIfInBounds_toArray, List.set_cons_zero, List.set_cons_succ, i64_w, i32_w]
        rfl
      refine pure_ (i := 6) (N := some 7) (v := ?_) (a' := ?_) #[true, true, true, true, true, true, true] rfl rfl (any_of HT_.out (by kernel_rfl)) (fun _ _ _ h => h) (Or.inl ⟨by rfl, ?_⟩) ?_ ?_
      rotate_left
      · intro w'
        go_simp
        with_reducible rfl
      rotate_left
      · simp only [Act.put, List.setIfInBounds_toArray, List.set_cons_zero, List.set_cons_succ, i64_w, i32_w]
        rfl
      refine done_ (done_of HT_.out (by kernel_rfl)) ?_
      clear HT_ HW_ hHeld
      obtain ⟨Ap, cp, rfl⟩ := Kd.R_slice HRP.out
      have hcp := (Kd.R_reads' HRP.out).2.1
      by_cases hp : pt c = []
      · have hpl : (pt c).length = 0 := by rw [hp]; rfl
        rw [hpl]
        have hcut := HCUT.out
        go_wp2_with fail
        go_roundw
        case rel => exact ⟨outs, lf, k, _, _, rfl, rfl, hG1 _ _ hg, by have := HK.out; simp at this; omega, Lib.hid (by have := HLEN.out; simp at this; omega), Lib.hid (by rw [← HP_.out, partsL_skip hp]), HO2, HLT2, HF2, HB2⟩
        case measure => simp [lenV]
      · have hpl : 0 < (pt c).length := List.length_pos_iff.2 hp
        have q6 : ((pt c).length = 0) = False := eq_false (by omega)
        have q7 : (((pt c).length : Int) == 0) = false := by rw [beq_eq_false_iff_ne]; omega
        have q8 : decide (((pt c).length : Int) = 0) = false := decide_eq_false (by omega)
        have q9 : (((pt c).length : Int) = 0) = False := eq_false (by omega)
        have q10 : (pt c = []) = False := eq_false hp
        have HCP := Lib.hid hcp
        have HG2 := Lib.hid (hG2 c lf hg hp)
        have HG3 := Lib.hid (hG3 c lf hg)
        have HLN : Hid ((outs.length + 1) * 24 ≤ 140737488355328) := Lib.hid (by have := HLEN.out; simp at this; omega)
        have HMX : Hid ((c :: lf).length + (pt c).length ≤ 1000000) := Lib.hid (by have := HLEN.out; have := HG3.out; simp at *; omega)
        go_wp2_with (first | (at_builtin; refine Kd.R_append (Kd.slice 3 (Kd.int .i64)) (w0 := w) w.heap.size rfl (.tmp 23) (.tmp 25) 48 22 (.slice none 0 0) 24 rfl Try.underlying48 tinfo22 rfl (by decide) (by decide) u5 outs (pt c) [.slice Ap (pt c).length cp] (fun _ => True) (fun k => True ∧ some k ≠ u5.ownBlock) rfl rfl ?aP (fun _ hk => hk) ?aF ?aO ?aB ?aS ?aL ?_; (case aP => exact Kd.M_row HRP.out); (case aF => exact (fun _ _ => trivial)); (case aO => exact HO2.out); (case aB => exact HB2.out); (case aS => exact HB2.out.size); (case aL => exact HLN.out); intro v9 w9 ho9 hb9 hg9 hat9))
        have HB9 := Lib.hid hb9
        have HO9 := Lib.hid ho9
        have HF9 := Lib.hid (FBox_grown HF2.out (Kd.R_ne HO2.out HF2.out (by decide)) hg9)
        have HL9 := Lib.hid (HL2.out.grown hg9)
        have HRP9 := Lib.hid (Kd.R_over HRP.out HO2.out (by intro q hq; simp [Kd.int, Kd.scalar] at hq; omega) hg9)
        clear hb9 ho9 hg9 hat9 HB2 HO2 HF2 HL2 HRP HLT2
        obtain ⟨Al, cl, e1, hcl, hCl, hsep⟩ := HL9.out
        injection e1 with e1 e2 e3
        subst e1 e3
        refine (udiff _ _ (c :: lf) _ _ (pt c) _ hCl hcl (Kd.R_reads' HRP9.out).2.2 HCP.out HMX.out).mono ?_
        rintro e w3 ⟨vd, rfl, hRd, hb⟩
        obtain ⟨Ad, cd, rfl⟩ := Kd.R_slice hRd
        have HB3 := Lib.hid (HB9.out.trans (hb.mono HB9.out.size))
        have HF3 := Lib.hid (HF9.out.below hb HF9.out.lt)
        have HO3 := Lib.hid (Kd.R_below HO9.out hb)
        have HL3 := Lib.hid (LfOk.made hRd HO9.out)
        clear hb hRd HB9 HF9 HO9 HL9 HRP9 hCl hsep
        go_wp2_with fail
        rename_i vq heq
        injection heq with heq
        subst heq
        go_roundw
        case rel => exact ⟨outs ++ [pt c], _, k, _, _, rfl, rfl, HG2.out.1, by have := HK.out; have := HG2.out.2; simp at *; omega, Lib.hid (by have := HLEN.out; have := HG2.out.2; simp at *; omega), Lib.hid (by rw [← HP_.out, partsL_take hp, List.append_assoc]; rfl), HO3, HL3, HF3, HB3⟩
        case measure =>
          have := HG2.out.2
          simp [lenV] at *
          omega
end Go.Proofs.Ytmnncmpmhbfpcaa.X
end
section
namespace Go.Proofs.Ytmnncmpmhbfpcaa.Y
set_option linter.unusedVariables false
set_option linter.unusedSimpArgs false
open Go.Proofs.Ytmnncmpmhbfpcaa.U Go.Proofs.Ytmnncmpmhbfpcaa.X
abbrev Srt (l : List Int) : Prop := l.Pairwise (· < ·)
theorem srt_asc {l : List Int} (h : Srt l) : Asc l := by
  intro i j hij hj
  have := List.pairwise_iff_getElem.1 h i j (by omega) hj hij
  rw [List.getD_eq_getElem?_getD, List.getD_eq_getElem?_getD, List.getElem?_eq_getElem (by omega), List.getElem?_eq_getElem hj]
  exact this
theorem asc_srt {l : List Int} (h : Asc l) : Srt l := by
  rw [Srt, List.pairwise_iff_getElem]
  intro i j hi hj hij
  have := h i j hij hj
  rw [List.getD_eq_getElem?_getD, List.getD_eq_getElem?_getD, List.getElem?_eq_getElem hi, List.getElem?_eq_getElem hj] at this
  exact this
theorem srt_ext : ∀ {a b : List Int}, Srt a → Srt b → (∀ x, x ∈ a ↔ x ∈ b) → a = b
  | [], [], _, _, _ => rfl
  | [], y :: b, _, _, h => absurd ((h y).2 (List.mem_cons_self ..)) List.not_mem_nil
  | x :: a, [], _, _, h => absurd ((h x).1 (List.mem_cons_self ..)) List.not_mem_nil
  | x :: a, y :: b, ha, hb, h => by
    have ha' := List.pairwise_cons.1 ha
    have hb' := List.pairwise_cons.1 hb
    have hxy : x = y := by
      have h1 := (h x).1 (List.mem_cons_self ..)
      have h2 := (h y).2 (List.mem_cons_self ..)
      rcases List.mem_cons.1 h1 with e | h1
      · exact e
      · rcases List.mem_cons.1 h2 with e | h2
        · exact e.symm
        · have := ha'.1 y h2
          have := hb'.1 x h1
          omega
    subst hxy
    congr 1
    refine srt_ext ha'.2 hb'.2 fun z => ?_
    constructor
    · intro hz
      have := ha'.1 z hz
      rcases List.mem_cons.1 ((h z).1 (List.mem_cons_of_mem _ hz)) with e | h1
      · omega
      · exact h1
    · intro hz
      have := hb'.1 z hz
      rcases List.mem_cons.1 ((h z).2 (List.mem_cons_of_mem _ hz)) with e | h1
      · omega
      · exact h1
theorem merge_keep (kp : Bool → Bool → Bool) (h0 : kp false true = false) : ∀ (k : Nat) (a b : List Int), a.length + b.length ≤ k → Srt a → Srt b →
    ((mergeL k a b).filter (fun t => kp t.2.1 t.2.2)).map (·.1) = a.filter (fun x => kp true (decide (x ∈ b)))
  | 0, a, b, h, _, _ => by
    have : a = [] := List.length_eq_zero_iff.1 (by omega)
    subst this
    simp [mergeL]
  | k + 1, [], [], _, _, _ => by simp [mergeL]
  | k + 1, x :: a, [], h, ha, hb => by
    have ih := merge_keep kp h0 k a [] (by simp at h ⊢; omega) (List.pairwise_cons.1 ha).2 hb
    simp only [mergeL]
    by_cases hk : kp true false = true
    · rw [List.filter_cons_of_pos (by simpa using hk), List.filter_cons_of_pos (by simpa using hk), List.map_cons, ih]
    · rw [List.filter_cons_of_neg (by simpa using hk), List.filter_cons_of_neg (by simpa using hk), ih]
  | k + 1, [], y :: b, h, ha, hb => by
    have ih := merge_keep kp h0 k [] b (by simp at h ⊢; omega) ha (List.pairwise_cons.1 hb).2
    simp only [mergeL]
    rw [List.filter_cons_of_neg (by simp [h0]), ih]
    rfl
  | k + 1, x :: a, y :: b, h, ha, hb => by
    have ha' := List.pairwise_cons.1 ha
    have hb' := List.pairwise_cons.1 hb
    simp only [mergeL]
    by_cases h1 : x < y
    · rw [if_pos h1]
      have ih := merge_keep kp h0 k a (y :: b) (by simp at h ⊢; omega) ha'.2 hb
      have hx : decide (x ∈ y :: b) = false := decide_eq_false (fun hm => by
        rcases List.mem_cons.1 hm with e | hm
        · omega
        · have := hb'.1 x hm
          omega)
      by_cases hk : kp true false = true
      · rw [List.filter_cons_of_pos (by simpa using hk), List.filter_cons_of_pos (by simpa only [hx] using hk), List.map_cons, ih]
      · rw [List.filter_cons_of_neg (by simpa using hk), List.filter_cons_of_neg (by simpa only [hx] using hk), ih]
    · rw [if_neg h1]
      by_cases h2 : x = y
      · rw [if_pos h2]
        subst h2
        have ih := merge_keep kp h0 k a b (by simp at h ⊢; omega) ha'.2 hb'.2
        have hx : decide (x ∈ x :: b) = true := decide_eq_true (List.mem_cons_self ..)
        have hf : a.filter (fun z => kp true (decide (z ∈ x :: b))) = a.filter (fun z => kp true (decide (z ∈ b))) := List.filter_congr fun z hz => by
          have := ha'.1 z hz
          have : decide (z ∈ x :: b) = decide (z ∈ b) := decide_eq_decide.2 ⟨fun h => by
            rcases List.mem_cons.1 h with e | h
            · omega
            · exact h, List.mem_cons_of_mem _⟩
          rw [this]
        by_cases hk : kp true true = true
        · rw [List.filter_cons_of_pos (by simpa using hk), List.filter_cons_of_pos (by simpa only [hx] using hk), List.map_cons, ih, hf]
        · rw [List.filter_cons_of_neg (by simpa using hk), List.filter_cons_of_neg (by simpa only [hx] using hk), ih, hf]
      · rw [if_neg h2]
        have ih := merge_keep kp h0 k (x :: a) b (by simp at h ⊢; omega) ha hb'.2
        rw [List.filter_cons_of_neg (by simp [h0]), ih]
        refine List.filter_congr fun z hz => ?_
        have hz' : y < z := by
          rcases List.mem_cons.1 hz with e | hz
          · omega
          · have := ha'.1 z hz
            omega
        have : decide (z ∈ y :: b) = decide (z ∈ b) := decide_eq_decide.2 ⟨fun h => by
            rcases List.mem_cons.1 h with e | h
            · omega
            · exact h, List.mem_cons_of_mem _⟩
        rw [this]
theorem merge_all : ∀ (k : Nat) (a b : List Int), a.length + b.length ≤ k → Srt a → Srt b → Srt ((mergeL k a b).map (·.1)) ∧ ∀ x, x ∈ (mergeL k a b).map (·.1) ↔ x ∈ a ∨ x ∈ b
  | 0, a, b, h, _, _ => by
    have h1 : a = [] := List.length_eq_zero_iff.1 (by omega)
    have h2 : b = [] := List.length_eq_zero_iff.1 (by omega)
    subst h1 h2
    simp [mergeL]
  | k + 1, [], [], _, _, _ => by simp [mergeL]
  | k + 1, x :: a, [], h, ha, hb => by
    have ha' := List.pairwise_cons.1 ha
    obtain ⟨i1, i2⟩ := merge_all k a [] (by simp at h ⊢; omega) ha'.2 hb
    simp only [mergeL, List.map_cons]
    refine ⟨List.pairwise_cons.2 ⟨fun z hz => ?_, i1⟩, fun z => ?_⟩
    · rcases (i2 z).1 hz with h | h
      · exact ha'.1 z h
      · cases h
    · rw [List.mem_cons, i2, List.mem_cons]
      simp
  | k + 1, [], y :: b, h, ha, hb => by
    have hb' := List.pairwise_cons.1 hb
    obtain ⟨i1, i2⟩ := merge_all k [] b (by simp at h ⊢; omega) ha hb'.2
    simp only [mergeL, List.map_cons]
    refine ⟨List.pairwise_cons.2 ⟨fun z hz => ?_, i1⟩, fun z => ?_⟩
    · rcases (i2 z).1 hz with h | h
      · cases h
      · exact hb'.1 z h
    · rw [List.mem_cons, i2, List.mem_cons]
      simp
  | k + 1, x :: a, y :: b, h, ha, hb => by
    have ha' := List.pairwise_cons.1 ha
    have hb' := List.pairwise_cons.1 hb
    simp only [mergeL]
    by_cases h1 : x < y
    · rw [if_pos h1]
      obtain ⟨i1, i2⟩ := merge_all k a (y :: b) (by simp at h ⊢; omega) ha'.2 hb
      simp only [List.map_cons]
      refine ⟨List.pairwise_cons.2 ⟨fun z hz => ?_, i1⟩, fun z => ?_⟩
      · rcases (i2 z).1 hz with h | h
        · exact ha'.1 z h
        · rcases List.mem_cons.1 h with e | h
          · omega
          · have := hb'.1 z h
            omega
      · rw [List.mem_cons, i2, List.mem_cons (a := z) (l := a)]
        exact or_assoc.symm
    · rw [if_neg h1]
      by_cases h2 : x = y
      · rw [if_pos h2]
        subst h2
        obtain ⟨i1, i2⟩ := merge_all k a b (by simp at h ⊢; omega) ha'.2 hb'.2
        simp only [List.map_cons]
        refine ⟨List.pairwise_cons.2 ⟨fun z hz => ?_, i1⟩, fun z => ?_⟩
        · rcases (i2 z).1 hz with h | h
          · exact ha'.1 z h
          · exact hb'.1 z h
        · rw [List.mem_cons, i2, List.mem_cons, List.mem_cons]
          constructor
          · rintro (h | h | h)
            · exact .inl (.inl h)
            · exact .inl (.inr h)
            · exact .inr (.inr h)
          · rintro ((h | h) | (h | h))
            · exact .inl h
            · exact .inr (.inl h)
            · exact .inl h
            · exact .inr (.inr h)
      · rw [if_neg h2]
        obtain ⟨i1, i2⟩ := merge_all k (x :: a) b (by simp at h ⊢; omega) ha hb'.2
        simp only [List.map_cons]
        refine ⟨List.pairwise_cons.2 ⟨fun z hz => ?_, i1⟩, fun z => ?_⟩
        · rcases (i2 z).1 hz with h | h
          · rcases List.mem_cons.1 h with e | h
            · omega
            · have := ha'.1 z h
              omega
          · exact hb'.1 z h
        · rw [List.mem_cons, i2, List.mem_cons (a := z) (l := b)]
          constructor
          · rintro (h | h | h)
            · exact .inr (.inl h)
            · exact .inl h
            · exact .inr (.inr h)
          · rintro (h | h | h)
            · exact .inr (.inl h)
            · exact .inl h
            · exact .inr (.inr h)
def unionL (a b : List Int) : List Int := outU (mergeL (a.length + b.length) a b)
def interL (a b : List Int) : List Int := outI (mergeL (a.length + b.length) a b)
def diffL (a b : List Int) : List Int := outD (mergeL (a.length + b.length) a b)
theorem diff_eq {a b : List Int} (ha : Srt a) (hb : Srt b) : diffL a b = a.filter (fun x => !decide (x ∈ b)) := merge_keep (fun _ s => !s) rfl _ a b (Nat.le_refl _) ha hb
theorem inter_eq {a b : List Int} (ha : Srt a) (hb : Srt b) : interL a b = a.filter (fun x => decide (x ∈ b)) := by
  have := merge_keep (fun f s => f && s) rfl _ a b (Nat.le_refl _) ha hb
  exact this.trans (by simp)
theorem union_eq (a b : List Int) : unionL a b = (mergeL (a.length + b.length) a b).map (·.1) := by
  unfold unionL outU
  congr 1
  exact List.filter_eq_self.2 fun _ _ => rfl
theorem union_srt {a b : List Int} (ha : Srt a) (hb : Srt b) : Srt (unionL a b) := by
  rw [union_eq]
  exact (merge_all _ a b (Nat.le_refl _) ha hb).1
theorem union_mem {a b : List Int} (ha : Srt a) (hb : Srt b) (x : Int) : x ∈ unionL a b ↔ x ∈ a ∨ x ∈ b := by
  rw [union_eq]
  exact (merge_all _ a b (Nat.le_refl _) ha hb).2 x
structure Rg (l : List Int) : Prop where
  srt : Srt l
  lo : ∀ c ∈ l, 0 ≤ c ∧ c < 4096
theorem Rg.nil : Rg [] := ⟨List.Pairwise.nil, fun c h => by cases h⟩
theorem Rg.tail {c : Int} {l : List Int} (h : Rg (c :: l)) : Rg l := ⟨(List.pairwise_cons.1 h.srt).2, fun z hz => h.lo z (List.mem_cons_of_mem _ hz)⟩
theorem Rg.filter {l : List Int} (h : Rg l) (p : Int → Bool) : Rg (l.filter p) := ⟨List.Pairwise.filter _ h.srt, fun c hc => h.lo c (List.mem_filter.1 hc).1⟩
theorem Rg.union {a b : List Int} (ha : Rg a) (hb : Rg b) : Rg (unionL a b) := ⟨union_srt ha.srt hb.srt, fun c hc => by
  rcases (union_mem ha.srt hb.srt c).1 hc with h | h
  · exact ha.lo c h
  · exact hb.lo c h⟩
theorem Rg.inter {a b : List Int} (ha : Rg a) (hb : Rg b) : Rg (interL a b) := by rw [inter_eq ha.srt hb.srt]; exact ha.filter _
theorem Rg.diff {a b : List Int} (ha : Rg a) (hb : Rg b) : Rg (diffL a b) := by rw [diff_eq ha.srt hb.srt]; exact ha.filter _
theorem srt_len : ∀ (l : List Int) (lo hi : Int), Srt l → (∀ c ∈ l, lo ≤ c ∧ c < hi) → lo ≤ hi → (l.length : Int) ≤ hi - lo
  | [], lo, hi, _, _, h => by simp; omega
  | x :: l, lo, hi, hs, hb, h => by
    have hs' := List.pairwise_cons.1 hs
    have hx := hb x (List.mem_cons_self ..)
    have := srt_len l (x + 1) hi hs'.2 (fun c hc => ⟨hs'.1 c hc, (hb c (List.mem_cons_of_mem _ hc)).2⟩) (by omega)
    simp only [List.length_cons]
    omega
theorem Rg.len {l : List Int} (h : Rg l) : l.length ≤ 4096 := by
  have := srt_len l 0 4096 h.srt h.lo (by omega)
  omega
end Go.Proofs.Ytmnncmpmhbfpcaa.Y
end
section
namespace Go.Proofs.Ytmnncmpmhbfpcaa.P
set_option linter.unusedVariables false
set_option linter.unusedSimpArgs false
open Go.RowKit Go.Proofs.YtmnncmpmhbfpcaaW.PrintWords Go.Proofs.YtmnncmpmhbfpcaaW.PrintLast Go.Proofs.YtmnncmpmhbfpcaaW.PrintMore
open Go.Proofs.Ytmnncmpmhbfpcaa.A Go.Proofs.Ytmnncmpmhbfpcaa.H Go.Proofs.Ytmnncmpmhbfpcaa.B Go.Proofs.Ytmnncmpmhbfpcaa.S Go.Proofs.Ytmnncmpmhbfpcaa.C Go.Proofs.Ytmnncmpmhbfpcaa.D
section
variable {W H D : Int} {K O : List Int}
end
end Go.Proofs.Ytmnncmpmhbfpcaa.P
end
section
namespace Go.Proofs.Ytmnncmpmhbfpcaa.J
open Go.Proofs.Ytmnncmpmhbfpcaa.A
open Go.Proofs.Ytmnncmpmhbfpcaa.H
open Go.Proofs.Ytmnncmpmhbfpcaa.B
open Go.Proofs.Ytmnncmpmhbfpcaa.S
open Go.Proofs.Ytmnncmpmhbfpcaa.C
open Go.Proofs.Ytmnncmpmhbfpcaa.D
open Go.RowKit Go.Proofs.YtmnncmpmhbfpcaaW.PrintWords Go.Proofs.YtmnncmpmhbfpcaaW.PrintLast Go.Proofs.YtmnncmpmhbfpcaaW.PrintMore
attribute [local go_sem] max2_int min2_int max_two min_two max_three min_three max_four min_four   -- for this text's walks alone
set_option linter.unusedVariables false
set_option linter.unusedSimpArgs false
def errW : Option Int → Value
  | none => .nilIface
  | some c => .iface 0 (.int .i64 c)
theorem errW_none : errW none = .nilIface := rfl
theorem errW_some (c : Int) : errW (some c) = .iface 0 (.int .i64 c) := rfl
theorem info3 : (Try.prog.info? 3).map (fun i => (i.zero, i.size, i.bytes)) = some (some (.int .i64 0), 1, 8) := by kernel_rfl
end Go.Proofs.Ytmnncmpmhbfpcaa.J
end
section
namespace Go.Proofs.Ytmnncmpmhbfpcaa.J
open Go.Proofs.Ytmnncmpmhbfpcaa.A
open Go.Proofs.Ytmnncmpmhbfpcaa.H
open Go.Proofs.Ytmnncmpmhbfpcaa.B
open Go.Proofs.Ytmnncmpmhbfpcaa.S
open Go.Proofs.Ytmnncmpmhbfpcaa.C
open Go.Proofs.Ytmnncmpmhbfpcaa.D
open Go.RowKit Go.Proofs.YtmnncmpmhbfpcaaW.PrintWords Go.Proofs.YtmnncmpmhbfpcaaW.PrintLast Go.Proofs.YtmnncmpmhbfpcaaW.PrintMore
attribute [local go_sem] max2_int min2_int max_two min_two max_three min_three max_four min_four   -- for this text's walks alone
set_option linter.unusedVariables false
set_option linter.unusedSimpArgs false
-- NOT PRINTED: function 86 (floor_steps)
end Go.Proofs.Ytmnncmpmhbfpcaa.J
end
section
namespace Go.Proofs.Ytmnncmpmhbfpcaa.J
open Go.Proofs.Ytmnncmpmhbfpcaa.A
open Go.Proofs.Ytmnncmpmhbfpcaa.H
open Go.Proofs.Ytmnncmpmhbfpcaa.B
open Go.Proofs.Ytmnncmpmhbfpcaa.S
open Go.Proofs.Ytmnncmpmhbfpcaa.C
open Go.Proofs.Ytmnncmpmhbfpcaa.D
open Go.RowKit Go.Proofs.YtmnncmpmhbfpcaaW.PrintWords Go.Proofs.YtmnncmpmhbfpcaaW.PrintLast Go.Proofs.YtmnncmpmhbfpcaaW.PrintMore
attribute [local go_sem] max2_int min2_int max_two min_two max_three min_three max_four min_four   -- for this text's walks alone
set_option linter.unusedVariables false
set_option linter.unusedSimpArgs false
end Go.Proofs.Ytmnncmpmhbfpcaa.J
end
section
namespace Go.Proofs.Ytmnncmpmhbfpcaa.J
open Go.Proofs.Ytmnncmpmhbfpcaa.A
open Go.Proofs.Ytmnncmpmhbfpcaa.H
open Go.Proofs.Ytmnncmpmhbfpcaa.B
open Go.Proofs.Ytmnncmpmhbfpcaa.S
open Go.Proofs.Ytmnncmpmhbfpcaa.C
open Go.Proofs.Ytmnncmpmhbfpcaa.D
open Go.RowKit Go.Proofs.YtmnncmpmhbfpcaaW.PrintWords Go.Proofs.YtmnncmpmhbfpcaaW.PrintLast Go.Proofs.YtmnncmpmhbfpcaaW.PrintMore
attribute [local go_sem] max2_int min2_int max_two min_two max_three min_three max_four min_four   -- for this text's walks alone
set_option linter.unusedVariables false
set_option linter.unusedSimpArgs false
end Go.Proofs.Ytmnncmpmhbfpcaa.J
end
section
namespace Go.Proofs.Ytmnncmpmhbfpcaa.P
set_option linter.unusedVariables false
set_option linter.unusedSimpArgs false
open Go.RowKit Go.Proofs.YtmnncmpmhbfpcaaW.PrintWords Go.Proofs.YtmnncmpmhbfpcaaW.PrintLast Go.Proofs.YtmnncmpmhbfpcaaW.PrintMore
open Go.Proofs.Ytmnncmpmhbfpcaa.A Go.Proofs.Ytmnncmpmhbfpcaa.H Go.Proofs.Ytmnncmpmhbfpcaa.B Go.Proofs.Ytmnncmpmhbfpcaa.S Go.Proofs.Ytmnncmpmhbfpcaa.C Go.Proofs.Ytmnncmpmhbfpcaa.D Go.Proofs.Ytmnncmpmhbfpcaa.F Go.Proofs.Ytmnncmpmhbfpcaa.J
section
variable {W H D : Int} {K O : List Int}
theorem fright_loop {W H D : Int} {K O : List Int} (hO : O.length = K.length) (hn : K.length ≤ 4096) : ∀ (m i k : Nat), i + m = K.length → m + 1 ≤ k → ∃ b, floor_Right.l0 k K (K.length : Int) (i : Int) W H D K O = some b ∧ (b = true ↔ ∀ j, i ≤ j → j < K.length → (0 ≤ K.getD j 0 ∧ K.getD j 0 < 7) ∧ (0 ≤ O.getD j 0 ∧ O.getD j 0 ≤ 63)) := by
  intro m
  induction m with
  | zero =>
    intro i k hi hk
    obtain ⟨k, rfl⟩ : ∃ j, k = j + 1 := ⟨k - 1, by omega⟩
    rw [floor_Right.l0, if_neg (by omega)]
    exact ⟨true, rfl, fun _ j h1 h2 => by omega, fun _ => rfl⟩
  | succ m ih =>
    intro i k hi hk
    obtain ⟨k, rfl⟩ : ∃ j, k = j + 1 := ⟨k - 1, by omega⟩
    obtain ⟨b, hb, hb2⟩ := ih (i + 1) k (by omega) (by omega)
    rw [floor_Right.l0, if_pos (by omega), if_pos (by omega), if_pos (by omega), rd_nat, rd_nat]
    by_cases c1 : K.getD i 0 < 0
    · rw [if_pos c1]
      exact ⟨false, rfl, (fun h => by cases h), fun h => by have := h i (Nat.le_refl _) (by omega); omega⟩
    rw [if_neg c1]
    by_cases c2 : K.getD i 0 ≥ 7
    · rw [if_pos c2]
      exact ⟨false, rfl, (fun h => by cases h), fun h => by have := h i (Nat.le_refl _) (by omega); omega⟩
    rw [if_neg c2, if_pos (by omega)]
    by_cases c3 : O.getD i 0 < 0
    · rw [if_pos c3]
      exact ⟨false, rfl, (fun h => by cases h), fun h => by have := h i (Nat.le_refl _) (by omega); omega⟩
    rw [if_neg c3]
    by_cases c4 : O.getD i 0 > 63
    · rw [if_pos c4]
      exact ⟨false, rfl, (fun h => by cases h), fun h => by have := h i (Nat.le_refl _) (by omega); omega⟩
    rw [if_neg c4, show wrap64 ((i : Int) + 1) = ((i + 1 : Nat) : Int) by rw [wsm _ (by omega) (by omega)]; rfl]
    refine ⟨b, hb, fun h j h1 h2 => ?_, fun h => hb2.2 fun j h1 h2 => h j (by omega) h2⟩
    by_cases hj : j = i
    · subst hj
      exact ⟨⟨by omega, by omega⟩, by omega, by omega⟩
    · exact hb2.1 h j (by omega) h2
theorem fright_said (W H D : Int) (K O : List Int) (k : Nat) (hk : 4200 ≤ k) (hlen : K.length ≤ 4611686018427387904) : ∃ b, floor_Right.f k W H D K O = some b ∧ (b = true ↔ Good W H D K O) := by
  obtain ⟨k, rfl⟩ : ∃ j, k = (j + 1) + 1 := ⟨k - 2, by omega⟩
  have hj : floor_Right.j0 (k + 1 + 1) true W H D K O = some false := rfl
  unfold floor_Right.f
  by_cases c1 : mn (mn W H) D < 1
  · rw [if_pos c1, hj]
    refine ⟨false, rfl, (fun h => by cases h), fun G => ?_⟩
    have := G.w1
    have := G.h1
    have := G.d1
    unfold mn at c1
    split at c1 <;> split at c1 <;> omega
  rw [if_neg c1]
  have cc : 1 ≤ W ∧ 1 ≤ H ∧ 1 ≤ D := by
    unfold mn at c1
    split at c1 <;> split at c1 <;> omega
  by_cases c4 : D > 4
  · rw [if_pos c4, hj]; exact ⟨false, rfl, (fun h => by cases h), fun G => by have := G.d2; omega⟩
  rw [if_neg c4]
  by_cases c6 : mx W H > 4096
  · rw [decide_eq_true c6, hj]
    refine ⟨false, rfl, (fun h => by cases h), fun G => ?_⟩
    have := G.w2
    have := G.h2
    unfold mx at c6
    split at c6 <;> omega
  rw [decide_eq_false c6]
  have cd : W ≤ 4096 ∧ H ≤ 4096 := by
    unfold mx at c6
    split at c6 <;> omega
  have w1 := Int.mul_le_mul (show W ≤ 4096 by omega) (show H ≤ 4096 by omega) (by omega) (by omega)
  have w2 := Int.mul_le_mul (show 1 ≤ W by omega) (show 1 ≤ H by omega) (by omega) (by omega)
  have w3 := Int.mul_le_mul w1 (show D ≤ 4 by omega) (by omega) (by omega)
  have w4 := Int.mul_le_mul w2 (show 1 ≤ D by omega) (by omega) (by omega)
  have e : floor_size.f W H D K O = some (W * H * D) := by
    unfold floor_size.f
    rw [wsm (W * H) (by omega) (by omega), wsm _ (by omega) (by omega)]
  have hj1 : floor_Right.j1 (k + 1) true W H D K O = some false := rfl
  rw [floor_Right.j0, if_neg (by decide), e]
  simp only [Option.bind_some]
  by_cases c7 : W * H * D > 4096
  · rw [if_pos c7, hj1]; exact ⟨false, rfl, (fun h => by cases h), fun G => by have := G.n; have := G.n2; omega⟩
  rw [if_neg c7]
  by_cases c8 : (K.length : Int) = W * H * D
  · rw [if_pos c8]
    by_cases c9 : (O.length : Int) = W * H * D
    · rw [show ((O.length : Int) != W * H * D) = false by simp [c9]]
      rw [floor_Right.j1]
      rw [if_neg (by decide)]
      obtain ⟨b, hb, hb2⟩ := fright_loop (W := W) (H := H) (D := D) (K := K) (O := O) (by omega) (by omega) K.length 0 k (by omega) (by omega)
      refine ⟨b, hb, fun h => ?_, fun G => hb2.2 fun j _ h2 => ⟨G.k j h2, G.o j h2⟩⟩
      have h3 := hb2.1 h
      exact ⟨by omega, by omega, by omega, by omega, by omega, by omega, c8.symm, by omega, by omega, fun i hi => (h3 i (Nat.zero_le _) hi).1, fun i hi => (h3 i (Nat.zero_le _) hi).2⟩
    · rw [show ((O.length : Int) != W * H * D) = true by simp [c9], hj1]; exact ⟨false, rfl, (fun h => by cases h), fun G => by have := G.n; have := G.nO; omega⟩
  · rw [if_neg c8, hj1]; exact ⟨false, rfl, (fun h => by cases h), fun G => by have := G.n; omega⟩
end
end Go.Proofs.Ytmnncmpmhbfpcaa.P
end
section
namespace Go.Proofs.Ytmnncmpmhbfpcaa.Y
set_option linter.unusedVariables false
set_option linter.unusedSimpArgs false
open Go.RowKit Go.Proofs.YtmnncmpmhbfpcaaW.PrintWords Go.Proofs.YtmnncmpmhbfpcaaW.PrintLast Go.Proofs.YtmnncmpmhbfpcaaW.PrintMore
open Go.Proofs.Ytmnncmpmhbfpcaa.A Go.Proofs.Ytmnncmpmhbfpcaa.H Go.Proofs.Ytmnncmpmhbfpcaa.B Go.Proofs.Ytmnncmpmhbfpcaa.S Go.Proofs.Ytmnncmpmhbfpcaa.P Go.Proofs.Ytmnncmpmhbfpcaa.V Go.Proofs.Ytmnncmpmhbfpcaa.U Go.Proofs.Ytmnncmpmhbfpcaa.X Go.Proofs.Ytmnncmpmhbfpcaa.C Go.Proofs.Ytmnncmpmhbfpcaa.D
theorem getD_mem {l : List Int} {i : Nat} (h : i < l.length) : l.getD i 0 ∈ l := by
  rw [List.getD_eq_getElem?_getD, List.getElem?_eq_getElem h]
  exact List.getElem_mem h
theorem mem_getD {l : List Int} {x : Int} : x ∈ l ↔ ∃ i, i < l.length ∧ l.getD i 0 = x := by
  constructor
  · intro h
    obtain ⟨i, hi, e⟩ := List.getElem_of_mem h
    exact ⟨i, hi, by rw [List.getD_eq_getElem?_getD, List.getElem?_eq_getElem hi]; exact e⟩
  · rintro ⟨i, hi, rfl⟩
    exact getD_mem hi
theorem has_any (l : List Int) (t : Int) (ha : Srt l) (hl : l.length ≤ 1000000) (k : Nat) (hk : l.length + 2 ≤ k) : region_Has.f k l t = some (decide (t ∈ l)) := by
  obtain ⟨r, h1, h2⟩ := bs_loop l t (srt_asc ha) (by omega) l.length 0 l.length k (by omega) (by omega) (Nat.le_refl _) hk (fun x hx => by omega) (fun x hx hxl => by omega)
  unfold region_Has.f slices_BinarySearch_int_int.f
  have h1' : slices_BinarySearch_int_int.l0 k l t (l.length : Int) 0 (l.length : Int) = some r := h1
  rw [h1']
  simp only [Option.bind_some]
  congr 1
  by_cases ht : t ∈ l
  · rw [decide_eq_true ht, h2.2 (mem_getD.1 ht)]
  · rw [decide_eq_false ht]
    cases hr : r.2 with
    | false => rfl
    | true => exact absurd (mem_getD.2 (h2.1 hr)) ht
theorem right_loop (l : List Int) (hl : l.length ≤ 1000000) : ∀ (m i k : Nat), i + m = l.length → m + 1 ≤ k →
    ∃ b, region_Right.l0 k l l (l.length : Int) (i : Int) = some b ∧ (b = true ↔ ∀ j, i ≤ j → j < l.length → (0 ≤ l.getD j 0 ∧ l.getD j 0 < 4096) ∧ (0 < j → l.getD (j - 1) 0 < l.getD j 0)) := by
  intro m
  induction m with
  | zero =>
    intro i k hi hk
    obtain ⟨k, rfl⟩ : ∃ q, k = q + 1 := ⟨k - 1, by omega⟩
    rw [region_Right.l0, if_neg (by omega)]
    exact ⟨true, rfl, fun _ j h1 h2 => by omega, fun _ => rfl⟩
  | succ m ih =>
    intro i k hi hk
    obtain ⟨k, rfl⟩ : ∃ q, k = q + 1 := ⟨k - 1, by omega⟩
    have HUP : Hid (wrap64 ((i : Int) + 1) = ((i + 1 : Nat) : Int)) := Lib.hid (by rw [wsm _ (by omega) (by omega)]; rfl)
    obtain ⟨b, h1, h2⟩ := ih (i + 1) k (by omega) (by omega)
    rw [region_Right.l0, if_pos (by omega), if_pos (by omega), if_pos (by omega), rd_nat]
    have hcell : region_isCell.f (l.getD i 0) = some (decide (0 ≤ l.getD i 0 ∧ l.getD i 0 < 4096)) := by
      unfold region_isCell.f
      by_cases h : l.getD i 0 ≥ 0
      · rw [if_pos h]
        congr 1
        exact decide_eq_decide.2 ⟨fun h2 => ⟨h, h2⟩, fun h2 => h2.2⟩
      · rw [if_neg h]
        congr 1
        exact (decide_eq_false (fun h2 => h h2.1)).symm
    rw [hcell, Option.bind_some]
    by_cases hc : 0 ≤ l.getD i 0 ∧ l.getD i 0 < 4096
    · rw [if_pos (decide_eq_true hc)]
      by_cases hi0 : (i : Int) > 0
      · have HDN : Hid (wrap64 ((i : Int) - 1) = ((i - 1 : Nat) : Int)) := Lib.hid (by rw [wsm _ (by omega) (by omega)]; omega)
        rw [if_pos hi0, HDN.out, if_pos (by omega), if_pos (by omega), rd_nat]
        by_cases hg : l.getD (i - 1) 0 ≥ l.getD i 0
        · rw [if_pos hg]
          refine ⟨false, rfl, (fun h => by cases h), fun h => ?_⟩
          have := (h i (Nat.le_refl _) (by omega)).2 (by omega)
          omega
        · rw [if_neg hg, HUP.out]
          refine ⟨b, h1, h2.trans ⟨fun h j hj hjl => ?_, fun h j hj hjl => h j (by omega) hjl⟩⟩
          by_cases e : j = i
          · subst e
            exact ⟨hc, fun _ => by omega⟩
          · exact h j (by omega) hjl
      · rw [if_neg hi0, HUP.out]
        refine ⟨b, h1, h2.trans ⟨fun h j hj hjl => ?_, fun h j hj hjl => h j (by omega) hjl⟩⟩
        by_cases e : j = i
        · subst e
          exact ⟨hc, fun h0 => by omega⟩
        · exact h j (by omega) hjl
    · rw [if_neg (by rw [decide_eq_false hc]; simp)]
      exact ⟨false, rfl, (fun h => by cases h), fun h => absurd (h i (Nat.le_refl _) (by omega)).1 hc⟩
theorem rg_of {l : List Int} (h : ∀ j, j < l.length → (0 ≤ l.getD j 0 ∧ l.getD j 0 < 4096) ∧ (0 < j → l.getD (j - 1) 0 < l.getD j 0)) : Rg l := by
  refine ⟨asc_srt ?_, fun c hc => ?_⟩
  · intro i j hij
    induction j with
    | zero => omega
    | succ j ih =>
      intro hj
      have h1 := (h (j + 1) hj).2 (by omega)
      rw [Nat.add_sub_cancel] at h1
      by_cases e : i = j
      · subst e
        exact h1
      · have := ih (by omega) (by omega)
        omega
  · obtain ⟨i, hi, rfl⟩ := mem_getD.1 hc
    exact (h i hi).1
theorem rright_said (l : List Int) (hl : l.length ≤ 1000000) (k : Nat) (hk : l.length + 1 ≤ k) : ∃ b, region_Right.f k l = some b ∧ (b = true ↔ Rg l) := by
  obtain ⟨b, h1, h2⟩ := right_loop l hl l.length 0 k (by omega) hk
  refine ⟨b, h1, h2.trans ⟨fun h => rg_of fun j hj => h j (Nat.zero_le _) hj, fun h j _ hj => ⟨h.lo _ (getD_mem hj), fun h0 => srt_asc h.srt _ _ (by omega) hj⟩⟩⟩
theorem rright_rg {l : List Int} (h : Rg l) (k : Nat) (hk : l.length + 1 ≤ k) : region_Right.f k l = some true := by
  obtain ⟨b, h1, h2⟩ := rright_said l (by have := h.len; omega) k hk
  rw [h1, h2.2 h]
theorem equal_loop (a b : List Int) (hl : a.length ≤ 1000000) (hab : a.length = b.length) : ∀ (m i k : Nat), i + m = a.length → m + 1 ≤ k →
    slices_Equal_int_int.l0 k a b (a.length : Int) (i : Int) = some (decide (a.drop i = b.drop i)) := by
  intro m
  induction m with
  | zero =>
    intro i k hi hk
    obtain ⟨k, rfl⟩ : ∃ q, k = q + 1 := ⟨k - 1, by omega⟩
    rw [slices_Equal_int_int.l0, if_neg (by omega), List.drop_eq_nil_of_le (by omega), List.drop_eq_nil_of_le (by omega)]
    simp
  | succ m ih =>
    intro i k hi hk
    obtain ⟨k, rfl⟩ : ∃ q, k = q + 1 := ⟨k - 1, by omega⟩
    have HUP : Hid (wrap64 ((i : Int) + 1) = ((i + 1 : Nat) : Int)) := Lib.hid (by rw [wsm _ (by omega) (by omega)]; rfl)
    have h1 := ih (i + 1) k (by omega) (by omega)
    have ha : i < a.length := by omega
    have hb : i < b.length := by omega
    rw [slices_Equal_int_int.l0, if_pos (by omega), if_pos (by omega), if_pos (by omega), if_pos (by omega), rd_nat, rd_nat, HUP.out, h1, List.drop_eq_getElem_cons ha, List.drop_eq_getElem_cons hb]
    rw [List.getD_eq_getElem?_getD, List.getD_eq_getElem?_getD, List.getElem?_eq_getElem ha, List.getElem?_eq_getElem hb]
    simp only [Option.getD_some]
    by_cases e : a[i] = b[i]
    · rw [if_pos e]
      congr 1
      exact decide_eq_decide.2 ⟨fun h => by rw [e, h], fun h => (List.cons.inj h).2⟩
    · rw [if_neg e]
      congr 1
      exact (decide_eq_false (fun h => e (List.cons.inj h).1)).symm
theorem rsame_said (a b : List Int) (hl : a.length ≤ 1000000) (k : Nat) (hk : a.length + 1 ≤ k) : region_Same.f k a b = some (decide (a = b)) := by
  unfold region_Same.f slices_Equal_int_int.f
  by_cases h : a.length = b.length
  · have := equal_loop a b hl h a.length 0 k (by omega) hk
    rw [if_pos (by omega), show ((0 : Int)) = ((0 : Nat) : Int) from rfl, this]
    rfl
  · rw [if_neg (by omega)]
    simp only [Option.bind_some]
    congr 1
    exact (decide_eq_false (fun e => h (by rw [e]))).symm
def leavesD (W H D : Int) (K O r : List Int) (c d : Int) : Bool := match floor_Next.f 1 W H D K O c d with
  | some (m, true) => !decide (m ∈ r)
  | _ => false
def leavesAt (W H D : Int) (K O r : List Int) (c : Int) : Nat → Bool
  | 0 => false
  | d + 1 => leavesAt W H D K O r c d || leavesD W H D K O r c d
def edgeL (W H D : Int) (K O r : List Int) : List Int := r.filter (fun c => leavesAt W H D K O r c 6)
section
variable {W H D : Int} {K O : List Int}
theorem edge_loop (G : P.Good W H D K O) {r : List Int} (hr : Srt r) (hl : r.length ≤ 1000) : ∀ (m i k : Nat) (out : List Int), i + m = r.length → out.length ≤ i → 8 * m + 1100 ≤ k →
    region_Edge.l0 k r out r (r.length : Int) (i : Int) W H D K O = some (out ++ (r.drop i).filter (fun c => leavesAt W H D K O r c 6)) := by
  intro m
  induction m with
  | zero =>
    intro i k out hi ho hk
    obtain ⟨k, rfl⟩ : ∃ q, k = q + 1 := ⟨k - 1, by omega⟩
    rw [region_Edge.l0, if_neg (by omega), List.drop_eq_nil_of_le (by omega)]
    simp
  | succ m ih =>
    intro i k out hi ho hk
    obtain ⟨k, rfl⟩ : ∃ q, k = q + 1 := ⟨k - 1, by omega⟩
    have HUP : Hid (wrap64 ((i : Int) + 1) = ((i + 1 : Nat) : Int)) := Lib.hid (by rw [wsm _ (by omega) (by omega)]; rfl)
    have ha : i < r.length := by omega
    rw [region_Edge.l0, if_pos (by omega), if_pos (by omega), if_pos (by omega), rd_nat, List.drop_eq_getElem_cons ha]
    have hget : r.getD i 0 = r[i] := by rw [List.getD_eq_getElem?_getD, List.getElem?_eq_getElem ha]; rfl
    rw [hget]
    have inner : ∀ (j d k' : Nat), d + j = 6 → 8 * m + 1100 + j + 1 ≤ k' → leavesAt W H D K O r r[i] d = false →
        region_Edge.l1 k' r out r[i] r (r.length : Int) (i : Int) (d : Int) W H D K O = some (out ++ (r[i] :: r.drop (i + 1)).filter (fun c => leavesAt W H D K O r c 6)) := by
      intro j
      induction j with
      | zero =>
        intro d k' hd hk' hlv
        obtain ⟨k', rfl⟩ : ∃ q, k' = q + 1 := ⟨k' - 1, by omega⟩
        obtain rfl : d = 6 := by omega
        rw [region_Edge.l1, if_neg (by omega), HUP.out, ih (i + 1) k' out (by omega) (by omega) (by omega), List.filter_cons_of_neg (by rw [hlv]; simp)]
      | succ j ihj =>
        intro d k' hd hk' hlv
        obtain ⟨k', rfl⟩ : ∃ q, k' = q + 1 := ⟨k' - 1, by omega⟩
        have HUD : Hid (wrap64 ((d : Int) + 1) = ((d + 1 : Nat) : Int)) := Lib.hid (by rw [wsm _ (by omega) (by omega)]; rfl)
        obtain ⟨k2, rfl⟩ : ∃ q, k' = q + 1 := ⟨k' - 1, by omega⟩
        obtain ⟨mm, ok, hm⟩ := next_total G r[i] d
        rw [region_Edge.l1, if_pos (by omega), next_any G, hm, Option.bind_some]
        have hstep : leavesAt W H D K O r r[i] (d + 1) = (leavesAt W H D K O r r[i] d || leavesD W H D K O r r[i] d) := rfl
        have hld : leavesD W H D K O r r[i] d = (ok && !decide (mm ∈ r)) := by
          unfold leavesD
          rw [hm]
          cases ok <;> rfl
        have hup : ∀ (q d0 : Nat), leavesAt W H D K O r r[i] d0 = true → leavesAt W H D K O r r[i] (d0 + q) = true := by
          intro q
          induction q with
          | zero => intro d0 h; exact h
          | succ q ihq =>
            intro d0 h
            show (leavesAt W H D K O r r[i] (d0 + q) || _) = true
            rw [ihq d0 h]
            rfl
        cases ok with
        | false =>
          rw [if_neg (by simp), HUD.out]
          exact ihj (d + 1) (k2 + 1) (by omega) (by omega) (by rw [hstep, hlv, hld]; rfl)
        | true =>
          rw [if_pos rfl, has_any r mm hr (by omega) _ (by omega), Option.bind_some]
          by_cases hmr : mm ∈ r
          · rw [if_pos (decide_eq_true hmr), HUD.out]
            exact ihj (d + 1) (k2 + 1) (by omega) (by omega) (by rw [hstep, hlv, hld, decide_eq_true hmr]; rfl)
          · have h6 : leavesAt W H D K O r r[i] 6 = true := by
              have := hup (6 - (d + 1)) (d + 1) (by rw [hstep, hlv, hld, decide_eq_false hmr]; rfl)
              rwa [show d + 1 + (6 - (d + 1)) = 6 by omega] at this
            rw [if_neg (by rw [decide_eq_false hmr]; simp), if_pos (by omega), HUP.out, ih (i + 1) (k2 + 1) (out ++ [r[i]]) (by omega) (by simp; omega) (by omega), List.filter_cons_of_pos (p := fun c => leavesAt W H D K O r c 6) h6, List.append_assoc]
            rfl
    exact inner 6 0 k rfl (by omega) rfl
theorem edge_said (G : P.Good W H D K O) {r : List Int} (hr : Srt r) (hl : r.length ≤ 1000) : region_Edge.f 10000 W H D K O r = some (edgeL W H D K O r) := by
  have := edge_loop G hr hl r.length 0 10000 [] (by omega) (by simp) (by omega)
  exact this
end
theorem fits_said (W H D : Int) (K O r : List Int) : ∃ b, taquinlaw08_fits.f 5000 W H D K O r 60 = some b ∧ (b = true ↔ P.Good W H D K O ∧ K.length ≤ 60 ∧ r.length ≤ 200 ∧ Rg r) := by
  unfold taquinlaw08_fits.f taquinref07_Few.f
  by_cases c1 : (K.length : Int) ≤ 60
  · obtain ⟨b1, h1, h2⟩ := fright_said W H D K O 5000 (by omega) (by omega)
    rw [if_pos c1]
    simp only [Option.bind_some]
    by_cases c2 : (O.length : Int) ≤ 60
    · rw [decide_eq_true c2, if_pos rfl, h1]
      simp only [Option.bind_some]
      cases b1 with
      | false =>
        rw [if_neg (by simp)]
        exact ⟨false, rfl, (fun h => by cases h), fun h => h2.2 h.1⟩
      | true =>
        rw [if_pos rfl]
        by_cases c3 : (r.length : Int) ≤ 200
        · obtain ⟨b, h3, h4⟩ := rright_said r (by omega) 5000 (by omega)
          rw [if_pos c3, h3]
          exact ⟨b, rfl, fun h => ⟨h2.1 rfl, by omega, by omega, h4.1 h⟩, fun h => h4.2 h.2.2.2⟩
        · rw [if_neg c3]
          exact ⟨false, rfl, (fun h => by cases h), fun h => by omega⟩
    · rw [decide_eq_false c2, if_neg (by decide)]
      exact ⟨false, rfl, (fun h => by cases h), fun h => by have := h.1.nO; omega⟩
  · rw [if_neg c1]
    exact ⟨false, rfl, (fun h => by cases h), fun h => by omega⟩
end Go.Proofs.Ytmnncmpmhbfpcaa.Y
end
section
namespace Go.Proofs.Ytmnncmpmhbfpcaa.Y
set_option linter.unusedVariables false
set_option linter.unusedSimpArgs false
open Go.RowKit Go.Proofs.YtmnncmpmhbfpcaaW.PrintWords Go.Proofs.YtmnncmpmhbfpcaaW.PrintLast Go.Proofs.YtmnncmpmhbfpcaaW.PrintMore
open Go.Proofs.Ytmnncmpmhbfpcaa.A Go.Proofs.Ytmnncmpmhbfpcaa.H Go.Proofs.Ytmnncmpmhbfpcaa.B Go.Proofs.Ytmnncmpmhbfpcaa.S Go.Proofs.Ytmnncmpmhbfpcaa.P Go.Proofs.Ytmnncmpmhbfpcaa.V Go.Proofs.Ytmnncmpmhbfpcaa.U Go.Proofs.Ytmnncmpmhbfpcaa.X Go.Proofs.Ytmnncmpmhbfpcaa.C Go.Proofs.Ytmnncmpmhbfpcaa.D
def spanL (MV : Int → Int → Option (Int × Bool)) (n : Nat) (K r from_ : List Int) : List Int := (bfsP MV n (n + 1) (fromR (fun x => decide (x ∈ r)) n K from_)).getD []
abbrev opR (r : List Int) (n : Nat) : List Bool := openR (fun x => decide (x ∈ r)) n
theorem span_ok {n : Nat} {MV : Int → Int → Option (Int × Bool)} (hMV : Moves n MV) (hn : n ≤ 1000000) (K r from_ : List Int) :
    bfsP MV n (n + 1) (fromR (fun x => decide (x ∈ r)) n K from_) = some (spanL MV n K r from_) ∧ DistOf n MV (opR r n) (from_.filter (goodC n K)) (spanL MV n K r from_) := by
  obtain ⟨d, h1, h2⟩ := uspread_dist hMV hn (fun x => decide (x ∈ r)) K from_
  have : spanL MV n K r from_ = d := by unfold spanL; rw [h1]; rfl
  rw [this]
  exact ⟨h1, h2⟩
def insideL (W H D : Int) (K O r from_ : List Int) : List Int := r.map (dv K.length (spanL (floor_Next.f 1 W H D K O) K.length K r from_))
def ptL (W H D : Int) (K O r : List Int) (c : Int) : List Int := r.filter (inM K.length (spanL (floor_Next.f 1 W H D K O) K.length K r [c]) (spanL (floor_Back.f 1 W H D K O) K.length K r [c]))
def linkedL (W H D : Int) (K O r : List Int) : Bool := decide (r = []) || decide (ptL W H D K O r (r.getD 0 0) = r)
def partL (W H D : Int) (K O r : List Int) : List (List Int) := partsL (ptL W H D K O r) r.length r
theorem dist_root {n : Nat} {MV : Int → Int → Option (Int × Bool)} {o : List Bool} {fr r : List Int} (h : DistOf n MV o fr r) : ∀ (k x : Nat), x < n → r.getD x 0 = k → ∃ z, z < n ∧ r.getD z 0 = 0
  | 0, x, hx, e => ⟨x, hx, e⟩
  | k + 1, x, hx, e => by
    obtain ⟨p, hp, e2, _⟩ := h.prev x hx (by omega)
    exact dist_root h k p hp (by omega)
theorem inM_iff {n : Nat} {r1 r2 : List Int} {c : Int} : inM n r1 r2 c = true ↔ 0 ≤ c ∧ c < n ∧ 0 ≤ r1.getD c.toNat 0 ∧ 0 ≤ r2.getD c.toNat 0 := by
  unfold inM
  simp only [Bool.and_eq_true, decide_eq_true_eq]
  constructor
  · rintro ⟨⟨h1, h2, h3⟩, _, _, h4⟩
    exact ⟨h1, h2, h3, h4⟩
  · rintro ⟨h1, h2, h3, h4⟩
    exact ⟨⟨h1, h2, h3⟩, h1, h2, h4⟩
section
variable {W H D : Int} {K O : List Int}
theorem pt_self (G : P.Good W H D K O) {r : List Int} {c : Int} (h : ptL W H D K O r c ≠ []) : c ∈ ptL W H D K O r c ∧ 0 ≤ c ∧ c < K.length := by
  obtain ⟨x, hx⟩ := List.exists_mem_of_ne_nil _ h
  obtain ⟨hxr, hx⟩ := List.mem_filter.1 hx
  obtain ⟨x0, xn, h1, h2⟩ := inM_iff.1 hx
  have hN := (span_ok (moves_next G) (by have := G.n2; omega) K r [c]).2
  have hB := (span_ok (moves_back G) (by have := G.n2; omega) K r [c]).2
  obtain ⟨z, hz, ez⟩ := dist_root hN _ x.toNat (by omega) (by omega : _ = (((spanL (floor_Next.f 1 W H D K O) K.length K r [c]).getD x.toNat 0).toNat : Int))
  obtain ⟨o1, m1⟩ := (hN.zero z hz).1 ez
  obtain ⟨m2, m3⟩ := List.mem_filter.1 m1
  have e : (z : Int) = c := List.mem_singleton.1 m2
  have e2 := (hB.zero z hz).2 ⟨o1, m1⟩
  subst e
  rw [openR_at hz] at o1
  refine ⟨List.mem_filter.2 ⟨of_decide_eq_true o1, inM_iff.2 ⟨by omega, by omega, ?_, ?_⟩⟩, by omega, by omega⟩
  · rw [Int.toNat_natCast, ez]
    omega
  · rw [Int.toNat_natCast, e2]
    omega
end
structure RwOk (w : World) (A : Option Addr) (c : Nat) (l : List Int) : Prop where
  r : Kd.C (Kd.int .i64) w A l.length l
  c : l.length ≤ c
theorem RwOk.below {w W : World} {A : Option Addr} {c : Nat} {l : List Int} (h : RwOk w A c l) (hb : Below w.heap.size w W) : RwOk W A c l := ⟨Kd.C_below h.r hb, h.c⟩
theorem RwOk.of_R {w : World} {base : Nat} {ok : Nat → Prop} {A : Option Addr} {n c : Nat} {l : List Int} (h : Kd.R (Kd.int .i64) 3 w base ok (.slice A n c) l) : RwOk w A c l := ⟨(Kd.R_reads' h).2.2, by have := Kd.R_reads' h; omega⟩
structure Fl (w : World) (a0_0 a0_1 a0_2 : Int) (A0_3 : Option Addr) (c0_3 : Nat) (l0_3 : List Int) (A0_4 : Option Addr) (c0_4 : Nat) (l0_4 : List Int) : Prop where
  r3 : RwOk w A0_3 c0_3 l0_3
  r4 : RwOk w A0_4 c0_4 l0_4
  good : P.Good a0_0 a0_1 a0_2 l0_3 l0_4
section
variable {w : World} {a0_0 a0_1 a0_2 : Int} {A0_3 : Option Addr} {c0_3 : Nat} {l0_3 : List Int} {A0_4 : Option Addr} {c0_4 : Nat} {l0_4 : List Int} {A1 : Option Addr} {c1 : Nat} {l1 : List Int} {A2 : Option Addr} {c2 : Nat} {l2 : List Int}
theorem Fl.below {W : World} (h : Fl w a0_0 a0_1 a0_2 A0_3 c0_3 l0_3 A0_4 c0_4 l0_4) (hb : Below w.heap.size w W) : Fl W a0_0 a0_1 a0_2 A0_3 c0_3 l0_3 A0_4 c0_4 l0_4 := ⟨h.r3.below hb, h.r4.below hb, h.good⟩
theorem Fl.next (F : Fl w a0_0 a0_1 a0_2 A0_3 c0_3 l0_3 A0_4 c0_4 l0_4) : moveOk (floor_Next.f 1 a0_0 a0_1 a0_2 l0_3 l0_4) 15 #[.int .i64 a0_0, .int .i64 a0_1, .int .i64 a0_2, .slice A0_3 l0_3.length c0_3, .slice A0_4 l0_4.length c0_4] l0_3.length w :=
  fun c d p W hB _ _ _ hp => floor_Next.calls 1 a0_0 a0_1 a0_2 A0_3 c0_3 l0_3 A0_4 c0_4 l0_4 c d p.1 p.2 W (F.r3.below hB).r F.r3.c (F.r4.below hB).r F.r4.c hp
theorem Fl.back (F : Fl w a0_0 a0_1 a0_2 A0_3 c0_3 l0_3 A0_4 c0_4 l0_4) : moveOk (floor_Back.f 1 a0_0 a0_1 a0_2 l0_3 l0_4) 16 #[.int .i64 a0_0, .int .i64 a0_1, .int .i64 a0_2, .slice A0_3 l0_3.length c0_3, .slice A0_4 l0_4.length c0_4] l0_3.length w :=
  fun c d p W hB _ _ _ hp => floor_Back.calls 1 a0_0 a0_1 a0_2 A0_3 c0_3 l0_3 A0_4 c0_4 l0_4 c d p.1 p.2 W (F.r3.below hB).r F.r3.c (F.r4.below hB).r F.r4.c hp
theorem has_ok (R : RwOk w A1 c1 l1) (hs : Rg l1) : ∀ (x : Int) W1, Below w.heap.size w W1 → Calls Try.prog 42 #[.slice A1 l1.length c1, .int .i64 x] W1 fun e w' => e = .returned (.bool (decide (x ∈ l1))) ∧ Below W1.heap.size W1 w' := by
  intro x W1 hB
  refine (region_Has.calls 5000 A1 c1 l1 x _ W1 (R.below hB).r R.c (has_any l1 x hs.srt (by have := hs.len; omega) 5000 (by have := hs.len; omega))).mono ?_
  rintro e w' ⟨rfl, ⟨nd, rfl⟩⟩
  exact ⟨rfl, pw_below_drewN (Below.refl _ _) nd⟩
theorem inside_ok (F : Fl w a0_0 a0_1 a0_2 A0_3 c0_3 l0_3 A0_4 c0_4 l0_4) (R1 : RwOk w A1 c1 l1) (R2 : RwOk w A2 c2 l2) (hs : Rg l1) :
    Calls Try.prog 38 #[.agg #[.int .i64 a0_0, .int .i64 a0_1, .int .i64 a0_2, .slice A0_3 l0_3.length c0_3, .slice A0_4 l0_4.length c0_4], .slice A1 l1.length c1, .slice A2 l2.length c2] w fun e w' => ∃ v0, e = .returned v0 ∧ Kd.R (Kd.int .i64) 3 w' w.heap.size (fun _ => True) v0 (insideL a0_0 a0_1 a0_2 l0_3 l0_4 l1 l2) ∧ Below w.heap.size w w' :=
  uinside a0_0 a0_1 a0_2 A0_3 c0_3 l0_3 A0_4 c0_4 l0_4 A1 c1 l1 A2 c2 l2 w F.r3.r R1.r R2.r F.good.len1 (by have := F.good.n2; omega) _ (Lib.hid (has_ok R1 hs)) _ (Lib.hid F.next) (fun c hc => by have := hs.lo c hc; omega) (by have := hs.len; omega) _ _ (Lib.hid (span_ok (moves_next F.good) (by have := F.good.n2; omega) l0_3 l1 l2).1)
theorem part_ok (F : Fl w a0_0 a0_1 a0_2 A0_3 c0_3 l0_3 A0_4 c0_4 l0_4) (R1 : RwOk w A1 c1 l1) (hs : Rg l1) (c : Int) :
    Calls Try.prog 75 #[.agg #[.int .i64 a0_0, .int .i64 a0_1, .int .i64 a0_2, .slice A0_3 l0_3.length c0_3, .slice A0_4 l0_4.length c0_4], .slice A1 l1.length c1, .int .i64 c] w fun e w' => ∃ v0, e = .returned v0 ∧ Kd.R (Kd.int .i64) 3 w' w.heap.size (fun _ => True) v0 (ptL a0_0 a0_1 a0_2 l0_3 l0_4 l1 c) ∧ Below w.heap.size w w' :=
  upart a0_0 a0_1 a0_2 A0_3 c0_3 l0_3 A0_4 c0_4 l0_4 A1 c1 l1 c w F.r3.r R1.r F.good.len1 (by have := F.good.n2; omega) _ (Lib.hid (has_ok R1 hs)) _ _ (Lib.hid F.next) (Lib.hid F.back) (fun c hc => by have := hs.lo c hc; omega) (by have := hs.len; omega) _ _ _ (Lib.hid (span_ok (moves_next F.good) (by have := F.good.n2; omega) l0_3 l1 [c]).1) (Lib.hid (span_ok (moves_back F.good) (by have := F.good.n2; omega) l0_3 l1 [c]).1)
theorem linked_ok (F : Fl w a0_0 a0_1 a0_2 A0_3 c0_3 l0_3 A0_4 c0_4 l0_4) (R1 : RwOk w A1 c1 l1) (hs : Rg l1) :
    Calls Try.prog 46 #[.agg #[.int .i64 a0_0, .int .i64 a0_1, .int .i64 a0_2, .slice A0_3 l0_3.length c0_3, .slice A0_4 l0_4.length c0_4], .slice A1 l1.length c1] w fun e w' => e = .returned (.bool (linkedL a0_0 a0_1 a0_2 l0_3 l0_4 l1)) ∧ Below w.heap.size w w' := by
  by_cases hp : l1.length = 0
  · have h : linkedL a0_0 a0_1 a0_2 l0_3 l0_4 l1 = true := by
      obtain rfl := List.length_eq_zero_iff.1 hp
      simp [linkedL]
    rw [h]
    exact ulinked_nil a0_0 a0_1 a0_2 A0_3 c0_3 l0_3 A0_4 c0_4 l0_4 A1 c1 l1 w hp
  · have hne : ¬ l1 = [] := fun e => hp (by rw [e]; rfl)
    have h : linkedL a0_0 a0_1 a0_2 l0_3 l0_4 l1 = decide (ptL a0_0 a0_1 a0_2 l0_3 l0_4 l1 (l1.getD 0 0) = l1) := by
      unfold linkedL
      rw [decide_eq_false hne, Bool.false_or]
    have hpl : (ptL a0_0 a0_1 a0_2 l0_3 l0_4 l1 (l1.getD 0 0)).length ≤ 4096 := Nat.le_trans (List.length_filter_le _ _) hs.len
    rw [h]
    exact ulinked a0_0 a0_1 a0_2 A0_3 c0_3 l0_3 A0_4 c0_4 l0_4 A1 c1 l1 w R1.r R1.c (by omega) _ rfl (ptL a0_0 a0_1 a0_2 l0_3 l0_4 l1 (l1.getD 0 0)) (Lib.hid (fun W hB => part_ok (F.below hB) (R1.below hB) hs _)) _ (rsame_said _ _ (by omega) 5000 (by omega))
theorem parts_ok (F : Fl w a0_0 a0_1 a0_2 A0_3 c0_3 l0_3 A0_4 c0_4 l0_4) (R1 : RwOk w A1 c1 l1) (hs : Rg l1) :
    Calls Try.prog 45 #[.agg #[.int .i64 a0_0, .int .i64 a0_1, .int .i64 a0_2, .slice A0_3 l0_3.length c0_3, .slice A0_4 l0_4.length c0_4], .slice A1 l1.length c1] w fun e w' => ∃ v0, e = .returned v0 ∧ Kd.R (Kd.slice 3 (Kd.int .i64)) 22 w' w.heap.size (fun _ => True) v0 (partL a0_0 a0_1 a0_2 l0_3 l0_4 l1) ∧ Below w.heap.size w w' := by
  refine uparts a0_0 a0_1 a0_2 A0_3 c0_3 l0_3 A0_4 c0_4 l0_4 A1 c1 l1 w R1.r R1.c (by have := hs.len; omega) (ptL a0_0 a0_1 a0_2 l0_3 l0_4 l1) (fun l => Rg l) hs (fun c l h => h.tail) (fun c l h hne => ?_) (fun c l h => Nat.le_trans (List.length_filter_le _ _) (by have := hs.len; omega)) (Lib.hid (fun c l h W hB => part_ok (F.below hB) (R1.below hB) hs c))
  have hp : Rg (ptL a0_0 a0_1 a0_2 l0_3 l0_4 l1 c) := hs.filter _
  refine ⟨h.diff hp, ?_⟩
  show (diffL (c :: l) (ptL a0_0 a0_1 a0_2 l0_3 l0_4 l1 c)).length < _
  rw [diff_eq h.srt hp.srt, List.filter_cons_of_neg (by simp [(pt_self F.good hne).1])]
  exact Nat.lt_succ_of_le (List.length_filter_le _ _)
theorem edge_ok (F : Fl w a0_0 a0_1 a0_2 A0_3 c0_3 l0_3 A0_4 c0_4 l0_4) (R1 : RwOk w A1 c1 l1) (hs : Rg l1) (hl : l1.length ≤ 1000) :
    Calls Try.prog 41 #[.agg #[.int .i64 a0_0, .int .i64 a0_1, .int .i64 a0_2, .slice A0_3 l0_3.length c0_3, .slice A0_4 l0_4.length c0_4], .slice A1 l1.length c1] w fun e w' => ∃ v0, e = .returned v0 ∧ Kd.R (Kd.int .i64) 3 w' w.heap.size (fun _ => True) v0 (edgeL a0_0 a0_1 a0_2 l0_3 l0_4 l1) ∧ Below w.heap.size w w' :=
  region_Edge.calls 10000 a0_0 a0_1 a0_2 A0_3 c0_3 l0_3 A0_4 c0_4 l0_4 A1 c1 l1 _ w F.r3.r F.r3.c F.r4.r F.r4.c R1.r R1.c (edge_said F.good hs.srt hl)
theorem inter_ok (R1 : RwOk w A1 c1 l1) (R2 : RwOk w A2 c2 l2) (h1 : Rg l1) (h2 : Rg l2) : Calls Try.prog 47 #[.slice A1 l1.length c1, .slice A2 l2.length c2] w fun e w' => ∃ v0, e = .returned v0 ∧ Kd.R (Kd.int .i64) 3 w' w.heap.size (fun _ => True) v0 (interL l1 l2) ∧ Below w.heap.size w w' :=
  uinter A1 c1 l1 A2 c2 l2 w R1.r R1.c R2.r R2.c (by have := h1.len; have := h2.len; omega)
theorem union_ok (R1 : RwOk w A1 c1 l1) (R2 : RwOk w A2 c2 l2) (h1 : Rg l1) (h2 : Rg l2) : Calls Try.prog 44 #[.slice A1 l1.length c1, .slice A2 l2.length c2] w fun e w' => ∃ v0, e = .returned v0 ∧ Kd.R (Kd.int .i64) 3 w' w.heap.size (fun _ => True) v0 (unionL l1 l2) ∧ Below w.heap.size w w' :=
  uunion A1 c1 l1 A2 c2 l2 w R1.r R1.c R2.r R2.c (by have := h1.len; have := h2.len; omega)
end
end Go.Proofs.Ytmnncmpmhbfpcaa.Y
end
section
namespace Go.Proofs.Ytmnncmpmhbfpcaa.Y
set_option linter.unusedVariables false
set_option linter.unusedSimpArgs false
open Go.RowKit Go.Proofs.YtmnncmpmhbfpcaaW.PrintWords Go.Proofs.YtmnncmpmhbfpcaaW.PrintLast Go.Proofs.YtmnncmpmhbfpcaaW.PrintMore
open Go.Proofs.Ytmnncmpmhbfpcaa.A Go.Proofs.Ytmnncmpmhbfpcaa.H Go.Proofs.Ytmnncmpmhbfpcaa.B Go.Proofs.Ytmnncmpmhbfpcaa.S Go.Proofs.Ytmnncmpmhbfpcaa.P Go.Proofs.Ytmnncmpmhbfpcaa.V Go.Proofs.Ytmnncmpmhbfpcaa.U Go.Proofs.Ytmnncmpmhbfpcaa.X Go.Proofs.Ytmnncmpmhbfpcaa.C Go.Proofs.Ytmnncmpmhbfpcaa.D
theorem exg : P.Good 3 1 1 [1, 1, 1] [63, 1, 63] := by
  refine ⟨by omega, by omega, by omega, by omega, by omega, by omega, rfl, by decide, rfl, by decide, by decide⟩
theorem ex_parts : partL 3 1 1 [1, 1, 1] [63, 1, 63] [0, 1, 2] = [[0], [1, 2]] := by decide +kernel
theorem ex_linked : linkedL 3 1 1 [1, 1, 1] [63, 1, 63] [0, 1] = false := by decide +kernel
theorem ex_edge : edgeL 3 1 1 [1, 1, 1] [63, 1, 63] [0, 1] = [1] := by decide +kernel
theorem ex_inside : insideL 3 1 1 [1, 1, 1] [63, 1, 63] [0, 1, 2] [2] = [-1, 1, 0] := by decide +kernel
theorem rg3 : Rg [0, 1, 2] := ⟨by decide, by decide⟩
theorem rg2 : Rg [0, 1] := ⟨by decide, by decide⟩
theorem rows_at {w : World} {A : Option Addr} {n : Nat} {xss : List (List Int)} (h : Kd.C (Kd.slice 3 (Kd.int .i64)) w A n xss) (hp : 0 < xss.length) :
    ∃ ad, A = some ad ∧ ad.block < w.heap.size ∧ ∀ i, i < xss.length → ∃ B c, w.cell? (ad.add i) = some (.slice B (xss.getD i []).length c) ∧ RwOk w B c (xss.getD i []) := by
  have hn := Kd.C_len h
  have at_ : ∀ i, i < xss.length → ∃ ad, A = some ad ∧ ∃ B c, w.cell? (ad.add i) = some (.slice B (xss.getD i []).length c) ∧ RwOk w B c (xss.getD i []) := by
    intro i hi
    obtain ⟨ad, cs, e, _, ⟨B, c, rfl, hc, hC⟩, hcell⟩ := Kd.C_get h ([] : List Int) (i : Int) (by omega) (by omega)
    have h0 := hcell 0 (.slice B (xss.getD i []).length c) (by simp)
    refine ⟨ad, e, B, c, ?_, ⟨by simpa using hC, by simpa using hc⟩⟩
    simpa [Kd.slice] using h0
  obtain ⟨ad, e, B, c, h0, _⟩ := at_ 0 hp
  refine ⟨ad, e, ?_, fun i hi => ?_⟩
  · have h1 := World.block_lt_of_cell? w _ h0
    rwa [block_of_add'] at h1
  · obtain ⟨ad2, e2, r⟩ := at_ i hi
    rw [e] at e2
    injection e2 with e2
    subst e2
    exact r
set_option maxRecDepth 100000 in
set_option maxHeartbeats 8000000 in
theorem small_any (w : World) : Calls Try.prog 36 #[] w fun e w' => e = .returned (.bool true) ∧ Below w.heap.size w w' := by
  have HB0 := Lib.hid (Below.refl w.heap.size w)
  go_enter Try.func36, Try.ntmps36
  go_upto_region 2 with (first | ((with_reducible refine gate_dst (N := 3) rfl ?_); (try (refine gate_guard (by rfl) ?_; dsimp only)); refine Kd.R_lit (Kd.int .i64) _ 3 ?hg (N := 3) ?hd (xs := ([1, 1, 1] : List Int)) (inner := [.int .i64 1, .int .i64 1, .int .i64 1]) (ok := fun _ => True) (okp := fun _ => True) ?hr ?hp (fun _ hk => hk) trivial (Below.refl _ _) (Nat.le_refl _) (by simp) ?_; (case hd => rfl); (case hg => rfl); (case hr => first | (go_simp; done) | (go_simp; rfl)); (case hp => exact (Reps.one (show Kd.M (Kd.int .i64) _ _ _ 1 [.int .i64 1] from rfl) (Reps.one (show Kd.M (Kd.int .i64) _ _ _ 1 [.int .i64 1] from rfl) (Reps.one (show Kd.M (Kd.int .i64) _ _ _ 1 [.int .i64 1] from rfl) (Reps.none _ _))))); intro v0 x1 hR0 hb0 hg_ hnew_; clear hg_ hnew_; obtain ⟨A3, c3, hv⟩ := Kd.R_slice hR0; rw [show ([1, 1, 1] : List Int).length = 3 from rfl] at hv; subst hv) | ((with_reducible refine gate_dst (N := 4) rfl ?_); (try (refine gate_guard (by rfl) ?_; dsimp only)); refine Kd.R_lit (Kd.int .i64) _ 3 ?hg (N := 4) ?hd (xs := ([63, 1, 63] : List Int)) (inner := [.int .i64 63, .int .i64 1, .int .i64 63]) (ok := fun _ => True) (okp := fun _ => True) ?hr ?hp (fun _ hk => hk) trivial (Below.refl _ _) (Nat.le_refl _) (by simp) ?_; (case hd => rfl); (case hg => rfl); (case hr => first | (go_simp; done) | (go_simp; rfl)); (case hp => exact (Reps.one (show Kd.M (Kd.int .i64) _ _ _ 63 [.int .i64 63] from rfl) (Reps.one (show Kd.M (Kd.int .i64) _ _ _ 1 [.int .i64 1] from rfl) (Reps.one (show Kd.M (Kd.int .i64) _ _ _ 63 [.int .i64 63] from rfl) (Reps.none _ _))))); intro v1 x2 hR1 hb1 hg_ hnew_; clear hg_ hnew_; obtain ⟨A4, c4, hv⟩ := Kd.R_slice hR1; rw [show ([63, 1, 63] : List Int).length = 3 from rfl] at hv; subst hv))
  have hb := hb0
  have HB1 := Lib.hid (HB0.out.trans (hb.mono HB0.out.size))
  clear hb HB0
  clear hb0
  have HC3 := Lib.hid (Kd.R_reads' hR0).2.2
  have c3h := (Kd.R_reads' hR0).2.1
  clear hR0
  have hb := hb1
  have HB2 := Lib.hid (HB1.out.trans (hb.mono HB1.out.size))
  replace HC3 := Lib.hid (Kd.C_below HC3.out hb)
  clear hb HB1
  clear hb1
  have HC4 := Lib.hid (Kd.R_reads' hR1).2.2
  have c4h := (Kd.R_reads' hR1).2.1
  clear hR1
  have hb := (Below.refl x2.heap.size x2).alloc (Nat.le_refl _) (.cells #[.int .i64 3, .int .i64 1, .int .i64 1, .slice A3 3 c3, .slice A4 3 c4] 24)
  have HF2 := Lib.hid (FBox.new x2 #[.int .i64 3, .int .i64 1, .int .i64 1, .slice A3 3 c3, .slice A4 3 c4])
  have HF3 := HF2
  have HB3 := Lib.hid (HB2.out.trans (hb.mono HB2.out.size))
  replace HC3 := Lib.hid (Kd.C_below HC3.out hb)
  replace HC4 := Lib.hid (Kd.C_below HC4.out hb)
  clear hb HB2
  clear HF2
  obtain ⟨gF, hgF⟩ : ∃ gF, x2.heap.size = gF := ⟨_, rfl⟩
  rw [hgF] at HF3 ⊢
  generalize x2.alloc (.cells #[.int .i64 3, .int .i64 1, .int .i64 1, .slice A3 3 c3, .slice A4 3 c4] 24) = x3 at HB3 HF3 HC3 HC4 ⊢
  obtain ⟨e0, e1, e2, e3, e4⟩ := HF3.out.cells
  go_wp2_with (first | ((with_reducible refine gate_dst (N := 7) rfl ?_); (try (refine gate_guard (by rfl) ?_; dsimp only)); refine Kd.R_lit (Kd.int .i64) _ 3 ?hg (N := 7) ?hd (xs := ([0, 1, 2] : List Int)) (inner := [.int .i64 0, .int .i64 1, .int .i64 2]) (ok := fun _ => True) (okp := fun _ => True) ?hr ?hp (fun _ hk => hk) trivial (Below.refl _ _) (Nat.le_refl _) (by simp) ?_; (case hd => rfl); (case hg => rfl); (case hr => first | (go_simp; done) | (go_simp; rfl)); (case hp => exact (Reps.one (show Kd.M (Kd.int .i64) _ _ _ 0 [.int .i64 0] from rfl) (Reps.one (show Kd.M (Kd.int .i64) _ _ _ 1 [.int .i64 1] from rfl) (Reps.one (show Kd.M (Kd.int .i64) _ _ _ 2 [.int .i64 2] from rfl) (Reps.none _ _))))); intro v0 x4 hR0 hb0 hg_ hnew_; clear hg_ hnew_; obtain ⟨A7, c7, hv⟩ := Kd.R_slice hR0; rw [show ([0, 1, 2] : List Int).length = 3 from rfl] at hv; subst hv))
  have hb := hb0
  have HB4 := Lib.hid (HB3.out.trans (hb.mono HB3.out.size))
  have HF4 := Lib.hid (HF3.out.below hb HF3.out.lt)
  replace HC3 := Lib.hid (Kd.C_below HC3.out hb)
  replace HC4 := Lib.hid (Kd.C_below HC4.out hb)
  clear hb HB3 HF3
  clear hb0
  have HC7 := Lib.hid (Kd.R_reads' hR0).2.2
  have c7h := (Kd.R_reads' hR0).2.1
  clear hR0
  clear e0 e1 e2 e3 e4
  obtain ⟨e0, e1, e2, e3, e4⟩ := HF4.out.cells
  refine (parts_ok (Fl.mk (a0_0 := 3) (a0_1 := 1) (a0_2 := 1) (l0_3 := [1, 1, 1]) (l0_4 := [63, 1, 63]) ⟨HC3.out, c3h⟩ ⟨HC4.out, c4h⟩ exg) ⟨HC7.out, c7h⟩ rg3).mono ?_
  rintro e x5 ⟨v, rfl, hR, hb⟩
  have HB5 := Lib.hid (HB4.out.trans (hb.mono HB4.out.size))
  have HF5 := Lib.hid (HF4.out.below hb HF4.out.lt)
  replace HC3 := Lib.hid (Kd.C_below HC3.out hb)
  replace HC4 := Lib.hid (Kd.C_below HC4.out hb)
  replace HC7 := Lib.hid (Kd.C_below HC7.out hb)
  clear hb HB4 HF4
  rw [ex_parts] at hR
  obtain ⟨Al, cl, rfl⟩ := Kd.R_slice hR
  obtain ⟨al, rfl, hadlt, hrows⟩ := rows_at (Kd.R_reads' hR).2.2 (by simp)
  clear hR
  have HAD := Lib.hid hadlt
  obtain ⟨B0, d0, hq0, R0⟩ := hrows 0 (by simp)
  obtain ⟨B1, d1, hq1, R1⟩ := hrows 1 (by simp)
  rw [show al.add 0 = al by unfold Addr.add; simp] at hq0
  have HQ0 := Lib.hid hq0
  have HQ1 := Lib.hid hq1
  have HR0 := Lib.hid R0.r
  have HR1 := Lib.hid R1.r
  have d0h := R0.c
  have d1h := R1.c
  clear hrows hadlt hq0 hq1 R0 R1
  simp only [List.getD_cons_zero, List.getD_cons_succ, List.length_cons, List.length_nil, Nat.zero_add, Nat.reduceAdd] at HQ0 HQ1 HR0 HR1 d0h d1h
  clear e0 e1 e2 e3 e4
  obtain ⟨e0, e1, e2, e3, e4⟩ := HF5.out.cells
  have q0 := HQ0.out
  have q1 : x5.cell? { block := al.block, off := al.off + 1 } = some (.slice B1 2 d1) := HQ1.out
  go_wp2_with (first | ((with_reducible refine gate_dst (N := 14) rfl ?_); (try (refine gate_guard (by rfl) ?_; dsimp only)); refine Kd.R_lit (Kd.int .i64) _ 3 ?hg (N := 14) ?hd (xs := ([0, 1] : List Int)) (inner := [.int .i64 0, .int .i64 1]) (ok := fun _ => True) (okp := fun _ => True) ?hr ?hp (fun _ hk => hk) trivial (Below.refl _ _) (Nat.le_refl _) (by simp) ?_; (case hd => rfl); (case hg => rfl); (case hr => first | (go_simp; done) | (go_simp; rfl)); (case hp => exact (Reps.one (show Kd.M (Kd.int .i64) _ _ _ 0 [.int .i64 0] from rfl) (Reps.one (show Kd.M (Kd.int .i64) _ _ _ 1 [.int .i64 1] from rfl) (Reps.none _ _)))); intro v0 x6 hR0 hb0 hg_ hnew_; clear hg_ hnew_; obtain ⟨A14, c14, hv⟩ := Kd.R_slice hR0; rw [show ([0, 1] : List Int).length = 2 from rfl] at hv; subst hv))
  have hb := hb0
  have HB6 := Lib.hid (HB5.out.trans (hb.mono HB5.out.size))
  have HF6 := Lib.hid (HF5.out.below hb HF5.out.lt)
  replace HC3 := Lib.hid (Kd.C_below HC3.out hb)
  replace HC4 := Lib.hid (Kd.C_below HC4.out hb)
  replace HC7 := Lib.hid (Kd.C_below HC7.out hb)
  replace HR0 := Lib.hid (Kd.C_below HR0.out hb)
  replace HR1 := Lib.hid (Kd.C_below HR1.out hb)
  replace HQ0 := Lib.hid ((hb.cell (p := al) (by first | exact HAD.out | (rw [block_of_add']; exact HAD.out))).trans HQ0.out)
  replace HQ1 := Lib.hid ((hb.cell (p := (al.add 1)) (by first | exact HAD.out | (rw [block_of_add']; exact HAD.out))).trans HQ1.out)
  replace HAD := Lib.hid (Nat.lt_of_lt_of_le HAD.out hb.size)
  clear hb HB5 HF5
  clear hb0
  have HC14 := Lib.hid (Kd.R_reads' hR0).2.2
  have c14h := (Kd.R_reads' hR0).2.1
  clear hR0
  clear e0 e1 e2 e3 e4
  obtain ⟨e0, e1, e2, e3, e4⟩ := HF6.out.cells
  clear q0
  have q0 := HQ0.out
  clear q1
  have q1 : x6.cell? { block := al.block, off := al.off + 1 } = some (.slice B1 2 d1) := HQ1.out
  refine (linked_ok (Fl.mk (a0_0 := 3) (a0_1 := 1) (a0_2 := 1) (l0_3 := [1, 1, 1]) (l0_4 := [63, 1, 63]) ⟨HC3.out, c3h⟩ ⟨HC4.out, c4h⟩ exg) ⟨HC14.out, c14h⟩ rg2).mono ?_
  rintro e x7 ⟨rfl, hb⟩
  have HB7 := Lib.hid (HB6.out.trans (hb.mono HB6.out.size))
  have HF7 := Lib.hid (HF6.out.below hb HF6.out.lt)
  replace HC3 := Lib.hid (Kd.C_below HC3.out hb)
  replace HC4 := Lib.hid (Kd.C_below HC4.out hb)
  replace HC7 := Lib.hid (Kd.C_below HC7.out hb)
  replace HR0 := Lib.hid (Kd.C_below HR0.out hb)
  replace HR1 := Lib.hid (Kd.C_below HR1.out hb)
  replace HC14 := Lib.hid (Kd.C_below HC14.out hb)
  replace HQ0 := Lib.hid ((hb.cell (p := al) (by first | exact HAD.out | (rw [block_of_add']; exact HAD.out))).trans HQ0.out)
  replace HQ1 := Lib.hid ((hb.cell (p := (al.add 1)) (by first | exact HAD.out | (rw [block_of_add']; exact HAD.out))).trans HQ1.out)
  replace HAD := Lib.hid (Nat.lt_of_lt_of_le HAD.out hb.size)
  clear hb HB6 HF6
  clear e0 e1 e2 e3 e4
  obtain ⟨e0, e1, e2, e3, e4⟩ := HF7.out.cells
  clear q0
  have q0 := HQ0.out
  clear q1
  have q1 : x7.cell? { block := al.block, off := al.off + 1 } = some (.slice B1 2 d1) := HQ1.out
  rw [ex_linked]
  go_wp2_with (first | ((with_reducible refine gate_dst (N := 20) rfl ?_); (try (refine gate_guard (by rfl) ?_; dsimp only)); refine Kd.R_lit (Kd.int .i64) _ 3 ?hg (N := 20) ?hd (xs := ([0] : List Int)) (inner := [.int .i64 0]) (ok := fun _ => True) (okp := fun _ => True) ?hr ?hp (fun _ hk => hk) trivial (Below.refl _ _) (Nat.le_refl _) (by simp) ?_; (case hd => rfl); (case hg => rfl); (case hr => first | (go_simp; done) | (go_simp; rfl)); (case hp => exact (Reps.one (show Kd.M (Kd.int .i64) _ _ _ 0 [.int .i64 0] from rfl) (Reps.none _ _))); intro v0 x8 hR0 hb0 hg_ hnew_; clear hg_ hnew_; obtain ⟨A20, c20, hv⟩ := Kd.R_slice hR0; rw [show ([0] : List Int).length = 1 from rfl] at hv; subst hv))
  have hb := hb0
  have HB8 := Lib.hid (HB7.out.trans (hb.mono HB7.out.size))
  have HF8 := Lib.hid (HF7.out.below hb HF7.out.lt)
  replace HC3 := Lib.hid (Kd.C_below HC3.out hb)
  replace HC4 := Lib.hid (Kd.C_below HC4.out hb)
  replace HC7 := Lib.hid (Kd.C_below HC7.out hb)
  replace HR0 := Lib.hid (Kd.C_below HR0.out hb)
  replace HR1 := Lib.hid (Kd.C_below HR1.out hb)
  replace HC14 := Lib.hid (Kd.C_below HC14.out hb)
  replace HQ0 := Lib.hid ((hb.cell (p := al) (by first | exact HAD.out | (rw [block_of_add']; exact HAD.out))).trans HQ0.out)
  replace HQ1 := Lib.hid ((hb.cell (p := (al.add 1)) (by first | exact HAD.out | (rw [block_of_add']; exact HAD.out))).trans HQ1.out)
  replace HAD := Lib.hid (Nat.lt_of_lt_of_le HAD.out hb.size)
  clear hb HB7 HF7
  clear hb0
  have HC20 := Lib.hid (Kd.R_reads' hR0).2.2
  have c20h := (Kd.R_reads' hR0).2.1
  clear hR0
  clear e0 e1 e2 e3 e4
  obtain ⟨e0, e1, e2, e3, e4⟩ := HF8.out.cells
  clear q0
  have q0 := HQ0.out
  clear q1
  have q1 : x8.cell? { block := al.block, off := al.off + 1 } = some (.slice B1 2 d1) := HQ1.out
  refine (taquinref07_Same.calls 100 B0 d0 [0] A20 c20 [0] true _ HR0.out d0h HC20.out c20h (by decide +kernel)).mono ?_
  rintro e w' ⟨rfl, ⟨nd, rfl⟩⟩
  have hb := pw_below_drewN (Below.refl x8.heap.size x8) nd
  have HB9 := Lib.hid (HB8.out.trans (hb.mono HB8.out.size))
  have HF9 := Lib.hid (HF8.out.below hb HF8.out.lt)
  replace HC3 := Lib.hid (Kd.C_below HC3.out hb)
  replace HC4 := Lib.hid (Kd.C_below HC4.out hb)
  replace HC7 := Lib.hid (Kd.C_below HC7.out hb)
  replace HR0 := Lib.hid (Kd.C_below HR0.out hb)
  replace HR1 := Lib.hid (Kd.C_below HR1.out hb)
  replace HC14 := Lib.hid (Kd.C_below HC14.out hb)
  replace HC20 := Lib.hid (Kd.C_below HC20.out hb)
  replace HQ0 := Lib.hid ((hb.cell (p := al) (by first | exact HAD.out | (rw [block_of_add']; exact HAD.out))).trans HQ0.out)
  replace HQ1 := Lib.hid ((hb.cell (p := (al.add 1)) (by first | exact HAD.out | (rw [block_of_add']; exact HAD.out))).trans HQ1.out)
  replace HAD := Lib.hid (Nat.lt_of_lt_of_le HAD.out hb.size)
  clear hb HB8 HF8
  generalize x8.drewN nd = x9 at HB9 HF9 HC3 HC4 HC7 HR0 HR1 HC14 HC20 HQ0 HQ1 HAD ⊢
  clear e0 e1 e2 e3 e4
  obtain ⟨e0, e1, e2, e3, e4⟩ := HF9.out.cells
  clear q0
  have q0 := HQ0.out
  clear q1
  have q1 : x9.cell? { block := al.block, off := al.off + 1 } = some (.slice B1 2 d1) := HQ1.out
  go_wp2_with (first | ((with_reducible refine gate_dst (N := 26) rfl ?_); (try (refine gate_guard (by rfl) ?_; dsimp only)); refine Kd.R_lit (Kd.int .i64) _ 3 ?hg (N := 26) ?hd (xs := ([1, 2] : List Int)) (inner := [.int .i64 1, .int .i64 2]) (ok := fun _ => True) (okp := fun _ => True) ?hr ?hp (fun _ hk => hk) trivial (Below.refl _ _) (Nat.le_refl _) (by simp) ?_; (case hd => rfl); (case hg => rfl); (case hr => first | (go_simp; done) | (go_simp; rfl)); (case hp => exact (Reps.one (show Kd.M (Kd.int .i64) _ _ _ 1 [.int .i64 1] from rfl) (Reps.one (show Kd.M (Kd.int .i64) _ _ _ 2 [.int .i64 2] from rfl) (Reps.none _ _)))); intro v0 x10 hR0 hb0 hg_ hnew_; clear hg_ hnew_; obtain ⟨A26, c26, hv⟩ := Kd.R_slice hR0; rw [show ([1, 2] : List Int).length = 2 from rfl] at hv; subst hv))
  have hb := hb0
  have HB10 := Lib.hid (HB9.out.trans (hb.mono HB9.out.size))
  have HF10 := Lib.hid (HF9.out.below hb HF9.out.lt)
  replace HC3 := Lib.hid (Kd.C_below HC3.out hb)
  replace HC4 := Lib.hid (Kd.C_below HC4.out hb)
  replace HC7 := Lib.hid (Kd.C_below HC7.out hb)
  replace HR0 := Lib.hid (Kd.C_below HR0.out hb)
  replace HR1 := Lib.hid (Kd.C_below HR1.out hb)
  replace HC14 := Lib.hid (Kd.C_below HC14.out hb)
  replace HC20 := Lib.hid (Kd.C_below HC20.out hb)
  replace HQ0 := Lib.hid ((hb.cell (p := al) (by first | exact HAD.out | (rw [block_of_add']; exact HAD.out))).trans HQ0.out)
  replace HQ1 := Lib.hid ((hb.cell (p := (al.add 1)) (by first | exact HAD.out | (rw [block_of_add']; exact HAD.out))).trans HQ1.out)
  replace HAD := Lib.hid (Nat.lt_of_lt_of_le HAD.out hb.size)
  clear hb HB9 HF9
  clear hb0
  have HC26 := Lib.hid (Kd.R_reads' hR0).2.2
  have c26h := (Kd.R_reads' hR0).2.1
  clear hR0
  clear e0 e1 e2 e3 e4
  obtain ⟨e0, e1, e2, e3, e4⟩ := HF10.out.cells
  clear q0
  have q0 := HQ0.out
  clear q1
  have q1 : x10.cell? { block := al.block, off := al.off + 1 } = some (.slice B1 2 d1) := HQ1.out
  refine (taquinref07_Same.calls 100 B1 d1 [1, 2] A26 c26 [1, 2] true _ HR1.out d1h HC26.out c26h (by decide +kernel)).mono ?_
  rintro e w' ⟨rfl, ⟨nd, rfl⟩⟩
  have hb := pw_below_drewN (Below.refl x10.heap.size x10) nd
  have HB11 := Lib.hid (HB10.out.trans (hb.mono HB10.out.size))
  have HF11 := Lib.hid (HF10.out.below hb HF10.out.lt)
  replace HC3 := Lib.hid (Kd.C_below HC3.out hb)
  replace HC4 := Lib.hid (Kd.C_below HC4.out hb)
  replace HC7 := Lib.hid (Kd.C_below HC7.out hb)
  replace HR0 := Lib.hid (Kd.C_below HR0.out hb)
  replace HR1 := Lib.hid (Kd.C_below HR1.out hb)
  replace HC14 := Lib.hid (Kd.C_below HC14.out hb)
  replace HC20 := Lib.hid (Kd.C_below HC20.out hb)
  replace HC26 := Lib.hid (Kd.C_below HC26.out hb)
  replace HQ0 := Lib.hid ((hb.cell (p := al) (by first | exact HAD.out | (rw [block_of_add']; exact HAD.out))).trans HQ0.out)
  replace HQ1 := Lib.hid ((hb.cell (p := (al.add 1)) (by first | exact HAD.out | (rw [block_of_add']; exact HAD.out))).trans HQ1.out)
  replace HAD := Lib.hid (Nat.lt_of_lt_of_le HAD.out hb.size)
  clear hb HB10 HF10
  generalize x10.drewN nd = x11 at HB11 HF11 HC3 HC4 HC7 HR0 HR1 HC14 HC20 HC26 HQ0 HQ1 HAD ⊢
  clear e0 e1 e2 e3 e4
  obtain ⟨e0, e1, e2, e3, e4⟩ := HF11.out.cells
  clear q0
  have q0 := HQ0.out
  clear q1
  have q1 : x11.cell? { block := al.block, off := al.off + 1 } = some (.slice B1 2 d1) := HQ1.out
  go_wp2_with (first | ((with_reducible refine gate_dst (N := 31) rfl ?_); (try (refine gate_guard (by rfl) ?_; dsimp only)); refine Kd.R_lit (Kd.int .i64) _ 3 ?hg (N := 31) ?hd (xs := ([0, 1] : List Int)) (inner := [.int .i64 0, .int .i64 1]) (ok := fun _ => True) (okp := fun _ => True) ?hr ?hp (fun _ hk => hk) trivial (Below.refl _ _) (Nat.le_refl _) (by simp) ?_; (case hd => rfl); (case hg => rfl); (case hr => first | (go_simp; done) | (go_simp; rfl)); (case hp => exact (Reps.one (show Kd.M (Kd.int .i64) _ _ _ 0 [.int .i64 0] from rfl) (Reps.one (show Kd.M (Kd.int .i64) _ _ _ 1 [.int .i64 1] from rfl) (Reps.none _ _)))); intro v0 x12 hR0 hb0 hg_ hnew_; clear hg_ hnew_; obtain ⟨A31, c31, hv⟩ := Kd.R_slice hR0; rw [show ([0, 1] : List Int).length = 2 from rfl] at hv; subst hv))
  have hb := hb0
  have HB12 := Lib.hid (HB11.out.trans (hb.mono HB11.out.size))
  have HF12 := Lib.hid (HF11.out.below hb HF11.out.lt)
  replace HC3 := Lib.hid (Kd.C_below HC3.out hb)
  replace HC4 := Lib.hid (Kd.C_below HC4.out hb)
  replace HC7 := Lib.hid (Kd.C_below HC7.out hb)
  replace HR0 := Lib.hid (Kd.C_below HR0.out hb)
  replace HR1 := Lib.hid (Kd.C_below HR1.out hb)
  replace HC14 := Lib.hid (Kd.C_below HC14.out hb)
  replace HC20 := Lib.hid (Kd.C_below HC20.out hb)
  replace HC26 := Lib.hid (Kd.C_below HC26.out hb)
  replace HQ0 := Lib.hid ((hb.cell (p := al) (by first | exact HAD.out | (rw [block_of_add']; exact HAD.out))).trans HQ0.out)
  replace HQ1 := Lib.hid ((hb.cell (p := (al.add 1)) (by first | exact HAD.out | (rw [block_of_add']; exact HAD.out))).trans HQ1.out)
  replace HAD := Lib.hid (Nat.lt_of_lt_of_le HAD.out hb.size)
  clear hb HB11 HF11
  clear hb0
  have HC31 := Lib.hid (Kd.R_reads' hR0).2.2
  have c31h := (Kd.R_reads' hR0).2.1
  clear hR0
  clear e0 e1 e2 e3 e4
  obtain ⟨e0, e1, e2, e3, e4⟩ := HF12.out.cells
  clear q0
  have q0 := HQ0.out
  clear q1
  have q1 : x12.cell? { block := al.block, off := al.off + 1 } = some (.slice B1 2 d1) := HQ1.out
  refine (edge_ok (Fl.mk (a0_0 := 3) (a0_1 := 1) (a0_2 := 1) (l0_3 := [1, 1, 1]) (l0_4 := [63, 1, 63]) ⟨HC3.out, c3h⟩ ⟨HC4.out, c4h⟩ exg) ⟨HC31.out, c31h⟩ rg2 (by simp)).mono ?_
  rintro e x13 ⟨v, rfl, hR, hb⟩
  have HB13 := Lib.hid (HB12.out.trans (hb.mono HB12.out.size))
  have HF13 := Lib.hid (HF12.out.below hb HF12.out.lt)
  replace HC3 := Lib.hid (Kd.C_below HC3.out hb)
  replace HC4 := Lib.hid (Kd.C_below HC4.out hb)
  replace HC7 := Lib.hid (Kd.C_below HC7.out hb)
  replace HR0 := Lib.hid (Kd.C_below HR0.out hb)
  replace HR1 := Lib.hid (Kd.C_below HR1.out hb)
  replace HC14 := Lib.hid (Kd.C_below HC14.out hb)
  replace HC20 := Lib.hid (Kd.C_below HC20.out hb)
  replace HC26 := Lib.hid (Kd.C_below HC26.out hb)
  replace HC31 := Lib.hid (Kd.C_below HC31.out hb)
  replace HQ0 := Lib.hid ((hb.cell (p := al) (by first | exact HAD.out | (rw [block_of_add']; exact HAD.out))).trans HQ0.out)
  replace HQ1 := Lib.hid ((hb.cell (p := (al.add 1)) (by first | exact HAD.out | (rw [block_of_add']; exact HAD.out))).trans HQ1.out)
  replace HAD := Lib.hid (Nat.lt_of_lt_of_le HAD.out hb.size)
  clear hb HB12 HF12
  obtain ⟨A32, c32, rfl⟩ := Kd.R_slice hR
  have HC32 := Lib.hid (Kd.R_reads' hR).2.2
  have c32h := (Kd.R_reads' hR).2.1
  clear hR
  clear e0 e1 e2 e3 e4
  obtain ⟨e0, e1, e2, e3, e4⟩ := HF13.out.cells
  clear q0
  have q0 := HQ0.out
  clear q1
  have q1 : x13.cell? { block := al.block, off := al.off + 1 } = some (.slice B1 2 d1) := HQ1.out
  rw [ex_edge] at HC32 c32h ⊢
  go_wp2_with (first | ((with_reducible refine gate_dst (N := 33) rfl ?_); (try (refine gate_guard (by rfl) ?_; dsimp only)); refine Kd.R_lit (Kd.int .i64) _ 3 ?hg (N := 33) ?hd (xs := ([1] : List Int)) (inner := [.int .i64 1]) (ok := fun _ => True) (okp := fun _ => True) ?hr ?hp (fun _ hk => hk) trivial (Below.refl _ _) (Nat.le_refl _) (by simp) ?_; (case hd => rfl); (case hg => rfl); (case hr => first | (go_simp; done) | (go_simp; rfl)); (case hp => exact (Reps.one (show Kd.M (Kd.int .i64) _ _ _ 1 [.int .i64 1] from rfl) (Reps.none _ _))); intro v0 x14 hR0 hb0 hg_ hnew_; clear hg_ hnew_; obtain ⟨A33, c33, hv⟩ := Kd.R_slice hR0; rw [show ([1] : List Int).length = 1 from rfl] at hv; subst hv))
  have hb := hb0
  have HB14 := Lib.hid (HB13.out.trans (hb.mono HB13.out.size))
  have HF14 := Lib.hid (HF13.out.below hb HF13.out.lt)
  replace HC3 := Lib.hid (Kd.C_below HC3.out hb)
  replace HC4 := Lib.hid (Kd.C_below HC4.out hb)
  replace HC7 := Lib.hid (Kd.C_below HC7.out hb)
  replace HR0 := Lib.hid (Kd.C_below HR0.out hb)
  replace HR1 := Lib.hid (Kd.C_below HR1.out hb)
  replace HC14 := Lib.hid (Kd.C_below HC14.out hb)
  replace HC20 := Lib.hid (Kd.C_below HC20.out hb)
  replace HC26 := Lib.hid (Kd.C_below HC26.out hb)
  replace HC31 := Lib.hid (Kd.C_below HC31.out hb)
  replace HC32 := Lib.hid (Kd.C_below HC32.out hb)
  replace HQ0 := Lib.hid ((hb.cell (p := al) (by first | exact HAD.out | (rw [block_of_add']; exact HAD.out))).trans HQ0.out)
  replace HQ1 := Lib.hid ((hb.cell (p := (al.add 1)) (by first | exact HAD.out | (rw [block_of_add']; exact HAD.out))).trans HQ1.out)
  replace HAD := Lib.hid (Nat.lt_of_lt_of_le HAD.out hb.size)
  clear hb HB13 HF13
  clear hb0
  have HC33 := Lib.hid (Kd.R_reads' hR0).2.2
  have c33h := (Kd.R_reads' hR0).2.1
  clear hR0
  clear e0 e1 e2 e3 e4
  obtain ⟨e0, e1, e2, e3, e4⟩ := HF14.out.cells
  clear q0
  have q0 := HQ0.out
  clear q1
  have q1 : x14.cell? { block := al.block, off := al.off + 1 } = some (.slice B1 2 d1) := HQ1.out
  refine (taquinref07_Same.calls 100 A32 c32 [1] A33 c33 [1] true _ HC32.out c32h HC33.out c33h (by decide +kernel)).mono ?_
  rintro e w' ⟨rfl, ⟨nd, rfl⟩⟩
  have hb := pw_below_drewN (Below.refl x14.heap.size x14) nd
  have HB15 := Lib.hid (HB14.out.trans (hb.mono HB14.out.size))
  have HF15 := Lib.hid (HF14.out.below hb HF14.out.lt)
  replace HC3 := Lib.hid (Kd.C_below HC3.out hb)
  replace HC4 := Lib.hid (Kd.C_below HC4.out hb)
  replace HC7 := Lib.hid (Kd.C_below HC7.out hb)
  replace HR0 := Lib.hid (Kd.C_below HR0.out hb)
  replace HR1 := Lib.hid (Kd.C_below HR1.out hb)
  replace HC14 := Lib.hid (Kd.C_below HC14.out hb)
  replace HC20 := Lib.hid (Kd.C_below HC20.out hb)
  replace HC26 := Lib.hid (Kd.C_below HC26.out hb)
  replace HC31 := Lib.hid (Kd.C_below HC31.out hb)
  replace HC32 := Lib.hid (Kd.C_below HC32.out hb)
  replace HC33 := Lib.hid (Kd.C_below HC33.out hb)
  replace HQ0 := Lib.hid ((hb.cell (p := al) (by first | exact HAD.out | (rw [block_of_add']; exact HAD.out))).trans HQ0.out)
  replace HQ1 := Lib.hid ((hb.cell (p := (al.add 1)) (by first | exact HAD.out | (rw [block_of_add']; exact HAD.out))).trans HQ1.out)
  replace HAD := Lib.hid (Nat.lt_of_lt_of_le HAD.out hb.size)
  clear hb HB14 HF14
  generalize x14.drewN nd = x15 at HB15 HF15 HC3 HC4 HC7 HR0 HR1 HC14 HC20 HC26 HC31 HC32 HC33 HQ0 HQ1 HAD ⊢
  clear e0 e1 e2 e3 e4
  obtain ⟨e0, e1, e2, e3, e4⟩ := HF15.out.cells
  clear q0
  have q0 := HQ0.out
  clear q1
  have q1 : x15.cell? { block := al.block, off := al.off + 1 } = some (.slice B1 2 d1) := HQ1.out
  go_wp2_with (first | ((with_reducible refine gate_dst (N := 38) rfl ?_); (try (refine gate_guard (by rfl) ?_; dsimp only)); refine Kd.R_lit (Kd.int .i64) _ 3 ?hg (N := 38) ?hd (xs := ([0, 1, 2] : List Int)) (inner := [.int .i64 0, .int .i64 1, .int .i64 2]) (ok := fun _ => True) (okp := fun _ => True) ?hr ?hp (fun _ hk => hk) trivial (Below.refl _ _) (Nat.le_refl _) (by simp) ?_; (case hd => rfl); (case hg => rfl); (case hr => first | (go_simp; done) | (go_simp; rfl)); (case hp => exact (Reps.one (show Kd.M (Kd.int .i64) _ _ _ 0 [.int .i64 0] from rfl) (Reps.one (show Kd.M (Kd.int .i64) _ _ _ 1 [.int .i64 1] from rfl) (Reps.one (show Kd.M (Kd.int .i64) _ _ _ 2 [.int .i64 2] from rfl) (Reps.none _ _))))); intro v0 x16 hR0 hb0 hg_ hnew_; clear hg_ hnew_; obtain ⟨A38, c38, hv⟩ := Kd.R_slice hR0; rw [show ([0, 1, 2] : List Int).length = 3 from rfl] at hv; subst hv) | ((with_reducible refine gate_dst (N := 39) rfl ?_); (try (refine gate_guard (by rfl) ?_; dsimp only)); refine Kd.R_lit (Kd.int .i64) _ 3 ?hg (N := 39) ?hd (xs := ([2] : List Int)) (inner := [.int .i64 2]) (ok := fun _ => True) (okp := fun _ => True) ?hr ?hp (fun _ hk => hk) trivial (Below.refl _ _) (Nat.le_refl _) (by simp) ?_; (case hd => rfl); (case hg => rfl); (case hr => first | (go_simp; done) | (go_simp; rfl)); (case hp => exact (Reps.one (show Kd.M (Kd.int .i64) _ _ _ 2 [.int .i64 2] from rfl) (Reps.none _ _))); intro v1 x17 hR1 hb1 hg_ hnew_; clear hg_ hnew_; obtain ⟨A39, c39, hv⟩ := Kd.R_slice hR1; rw [show ([2] : List Int).length = 1 from rfl] at hv; subst hv))
  have hb := hb0
  have HB16 := Lib.hid (HB15.out.trans (hb.mono HB15.out.size))
  have HF16 := Lib.hid (HF15.out.below hb HF15.out.lt)
  replace HC3 := Lib.hid (Kd.C_below HC3.out hb)
  replace HC4 := Lib.hid (Kd.C_below HC4.out hb)
  replace HC7 := Lib.hid (Kd.C_below HC7.out hb)
  replace HR0 := Lib.hid (Kd.C_below HR0.out hb)
  replace HR1 := Lib.hid (Kd.C_below HR1.out hb)
  replace HC14 := Lib.hid (Kd.C_below HC14.out hb)
  replace HC20 := Lib.hid (Kd.C_below HC20.out hb)
  replace HC26 := Lib.hid (Kd.C_below HC26.out hb)
  replace HC31 := Lib.hid (Kd.C_below HC31.out hb)
  replace HC32 := Lib.hid (Kd.C_below HC32.out hb)
  replace HC33 := Lib.hid (Kd.C_below HC33.out hb)
  replace HQ0 := Lib.hid ((hb.cell (p := al) (by first | exact HAD.out | (rw [block_of_add']; exact HAD.out))).trans HQ0.out)
  replace HQ1 := Lib.hid ((hb.cell (p := (al.add 1)) (by first | exact HAD.out | (rw [block_of_add']; exact HAD.out))).trans HQ1.out)
  replace HAD := Lib.hid (Nat.lt_of_lt_of_le HAD.out hb.size)
  clear hb HB15 HF15
  clear hb0
  have HC38 := Lib.hid (Kd.R_reads' hR0).2.2
  have c38h := (Kd.R_reads' hR0).2.1
  clear hR0
  have hb := hb1
  have HB17 := Lib.hid (HB16.out.trans (hb.mono HB16.out.size))
  have HF17 := Lib.hid (HF16.out.below hb HF16.out.lt)
  replace HC3 := Lib.hid (Kd.C_below HC3.out hb)
  replace HC4 := Lib.hid (Kd.C_below HC4.out hb)
  replace HC7 := Lib.hid (Kd.C_below HC7.out hb)
  replace HR0 := Lib.hid (Kd.C_below HR0.out hb)
  replace HR1 := Lib.hid (Kd.C_below HR1.out hb)
  replace HC14 := Lib.hid (Kd.C_below HC14.out hb)
  replace HC20 := Lib.hid (Kd.C_below HC20.out hb)
  replace HC26 := Lib.hid (Kd.C_below HC26.out hb)
  replace HC31 := Lib.hid (Kd.C_below HC31.out hb)
  replace HC32 := Lib.hid (Kd.C_below HC32.out hb)
  replace HC33 := Lib.hid (Kd.C_below HC33.out hb)
  replace HC38 := Lib.hid (Kd.C_below HC38.out hb)
  replace HQ0 := Lib.hid ((hb.cell (p := al) (by first | exact HAD.out | (rw [block_of_add']; exact HAD.out))).trans HQ0.out)
  replace HQ1 := Lib.hid ((hb.cell (p := (al.add 1)) (by first | exact HAD.out | (rw [block_of_add']; exact HAD.out))).trans HQ1.out)
  replace HAD := Lib.hid (Nat.lt_of_lt_of_le HAD.out hb.size)
  clear hb HB16 HF16
  clear hb1
  have HC39 := Lib.hid (Kd.R_reads' hR1).2.2
  have c39h := (Kd.R_reads' hR1).2.1
  clear hR1
  clear e0 e1 e2 e3 e4
  obtain ⟨e0, e1, e2, e3, e4⟩ := HF17.out.cells
  clear q0
  have q0 := HQ0.out
  clear q1
  have q1 : x17.cell? { block := al.block, off := al.off + 1 } = some (.slice B1 2 d1) := HQ1.out
  refine (inside_ok (Fl.mk (a0_0 := 3) (a0_1 := 1) (a0_2 := 1) (l0_3 := [1, 1, 1]) (l0_4 := [63, 1, 63]) ⟨HC3.out, c3h⟩ ⟨HC4.out, c4h⟩ exg) ⟨HC38.out, c38h⟩ ⟨HC39.out, c39h⟩ rg3).mono ?_
  rintro e x18 ⟨v, rfl, hR, hb⟩
  have HB18 := Lib.hid (HB17.out.trans (hb.mono HB17.out.size))
  have HF18 := Lib.hid (HF17.out.below hb HF17.out.lt)
  replace HC3 := Lib.hid (Kd.C_below HC3.out hb)
  replace HC4 := Lib.hid (Kd.C_below HC4.out hb)
  replace HC7 := Lib.hid (Kd.C_below HC7.out hb)
  replace HR0 := Lib.hid (Kd.C_below HR0.out hb)
  replace HR1 := Lib.hid (Kd.C_below HR1.out hb)
  replace HC14 := Lib.hid (Kd.C_below HC14.out hb)
  replace HC20 := Lib.hid (Kd.C_below HC20.out hb)
  replace HC26 := Lib.hid (Kd.C_below HC26.out hb)
  replace HC31 := Lib.hid (Kd.C_below HC31.out hb)
  replace HC32 := Lib.hid (Kd.C_below HC32.out hb)
  replace HC33 := Lib.hid (Kd.C_below HC33.out hb)
  replace HC38 := Lib.hid (Kd.C_below HC38.out hb)
  replace HC39 := Lib.hid (Kd.C_below HC39.out hb)
  replace HQ0 := Lib.hid ((hb.cell (p := al) (by first | exact HAD.out | (rw [block_of_add']; exact HAD.out))).trans HQ0.out)
  replace HQ1 := Lib.hid ((hb.cell (p := (al.add 1)) (by first | exact HAD.out | (rw [block_of_add']; exact HAD.out))).trans HQ1.out)
  replace HAD := Lib.hid (Nat.lt_of_lt_of_le HAD.out hb.size)
  clear hb HB17 HF17
  obtain ⟨A40, c40, rfl⟩ := Kd.R_slice hR
  have HC40 := Lib.hid (Kd.R_reads' hR).2.2
  have c40h := (Kd.R_reads' hR).2.1
  clear hR
  clear e0 e1 e2 e3 e4
  obtain ⟨e0, e1, e2, e3, e4⟩ := HF18.out.cells
  clear q0
  have q0 := HQ0.out
  clear q1
  have q1 : x18.cell? { block := al.block, off := al.off + 1 } = some (.slice B1 2 d1) := HQ1.out
  rw [ex_inside] at HC40 c40h ⊢
  go_wp2_with (first | ((with_reducible refine gate_dst (N := 41) rfl ?_); (try (refine gate_guard (by rfl) ?_; dsimp only)); refine Kd.R_lit (Kd.int .i64) _ 3 ?hg (N := 41) ?hd (xs := ([-1, 1, 0] : List Int)) (inner := [.int .i64 (-1), .int .i64 1, .int .i64 0]) (ok := fun _ => True) (okp := fun _ => True) ?hr ?hp (fun _ hk => hk) trivial (Below.refl _ _) (Nat.le_refl _) (by simp) ?_; (case hd => rfl); (case hg => rfl); (case hr => first | (go_simp; done) | (go_simp; rfl)); (case hp => exact (Reps.one (show Kd.M (Kd.int .i64) _ _ _ (-1) [.int .i64 (-1)] from rfl) (Reps.one (show Kd.M (Kd.int .i64) _ _ _ 1 [.int .i64 1] from rfl) (Reps.one (show Kd.M (Kd.int .i64) _ _ _ 0 [.int .i64 0] from rfl) (Reps.none _ _))))); intro v0 x19 hR0 hb0 hg_ hnew_; clear hg_ hnew_; obtain ⟨A41, c41, hv⟩ := Kd.R_slice hR0; rw [show ([-1, 1, 0] : List Int).length = 3 from rfl] at hv; subst hv))
  have hb := hb0
  have HB19 := Lib.hid (HB18.out.trans (hb.mono HB18.out.size))
  have HF19 := Lib.hid (HF18.out.below hb HF18.out.lt)
  replace HC3 := Lib.hid (Kd.C_below HC3.out hb)
  replace HC4 := Lib.hid (Kd.C_below HC4.out hb)
  replace HC7 := Lib.hid (Kd.C_below HC7.out hb)
  replace HR0 := Lib.hid (Kd.C_below HR0.out hb)
  replace HR1 := Lib.hid (Kd.C_below HR1.out hb)
  replace HC14 := Lib.hid (Kd.C_below HC14.out hb)
  replace HC20 := Lib.hid (Kd.C_below HC20.out hb)
  replace HC26 := Lib.hid (Kd.C_below HC26.out hb)
  replace HC31 := Lib.hid (Kd.C_below HC31.out hb)
  replace HC32 := Lib.hid (Kd.C_below HC32.out hb)
  replace HC33 := Lib.hid (Kd.C_below HC33.out hb)
  replace HC38 := Lib.hid (Kd.C_below HC38.out hb)
  replace HC39 := Lib.hid (Kd.C_below HC39.out hb)
  replace HC40 := Lib.hid (Kd.C_below HC40.out hb)
  replace HQ0 := Lib.hid ((hb.cell (p := al) (by first | exact HAD.out | (rw [block_of_add']; exact HAD.out))).trans HQ0.out)
  replace HQ1 := Lib.hid ((hb.cell (p := (al.add 1)) (by first | exact HAD.out | (rw [block_of_add']; exact HAD.out))).trans HQ1.out)
  replace HAD := Lib.hid (Nat.lt_of_lt_of_le HAD.out hb.size)
  clear hb HB18 HF18
  clear hb0
  have HC41 := Lib.hid (Kd.R_reads' hR0).2.2
  have c41h := (Kd.R_reads' hR0).2.1
  clear hR0
  clear e0 e1 e2 e3 e4
  obtain ⟨e0, e1, e2, e3, e4⟩ := HF19.out.cells
  clear q0
  have q0 := HQ0.out
  clear q1
  have q1 : x19.cell? { block := al.block, off := al.off + 1 } = some (.slice B1 2 d1) := HQ1.out
  refine (taquinref07_Same.calls 100 A40 c40 [-1, 1, 0] A41 c41 [-1, 1, 0] true _ HC40.out c40h HC41.out c41h (by decide +kernel)).mono ?_
  rintro e w' ⟨rfl, ⟨nd, rfl⟩⟩
  have hb := pw_below_drewN (Below.refl x19.heap.size x19) nd
  have HB20 := Lib.hid (HB19.out.trans (hb.mono HB19.out.size))
  have HF20 := Lib.hid (HF19.out.below hb HF19.out.lt)
  replace HC3 := Lib.hid (Kd.C_below HC3.out hb)
  replace HC4 := Lib.hid (Kd.C_below HC4.out hb)
  replace HC7 := Lib.hid (Kd.C_below HC7.out hb)
  replace HR0 := Lib.hid (Kd.C_below HR0.out hb)
  replace HR1 := Lib.hid (Kd.C_below HR1.out hb)
  replace HC14 := Lib.hid (Kd.C_below HC14.out hb)
  replace HC20 := Lib.hid (Kd.C_below HC20.out hb)
  replace HC26 := Lib.hid (Kd.C_below HC26.out hb)
  replace HC31 := Lib.hid (Kd.C_below HC31.out hb)
  replace HC32 := Lib.hid (Kd.C_below HC32.out hb)
  replace HC33 := Lib.hid (Kd.C_below HC33.out hb)
  replace HC38 := Lib.hid (Kd.C_below HC38.out hb)
  replace HC39 := Lib.hid (Kd.C_below HC39.out hb)
  replace HC40 := Lib.hid (Kd.C_below HC40.out hb)
  replace HC41 := Lib.hid (Kd.C_below HC41.out hb)
  replace HQ0 := Lib.hid ((hb.cell (p := al) (by first | exact HAD.out | (rw [block_of_add']; exact HAD.out))).trans HQ0.out)
  replace HQ1 := Lib.hid ((hb.cell (p := (al.add 1)) (by first | exact HAD.out | (rw [block_of_add']; exact HAD.out))).trans HQ1.out)
  replace HAD := Lib.hid (Nat.lt_of_lt_of_le HAD.out hb.size)
  clear hb HB19 HF19
  generalize x19.drewN nd = x20 at HB20 HF20 HC3 HC4 HC7 HR0 HR1 HC14 HC20 HC26 HC31 HC32 HC33 HC38 HC39 HC40 HC41 HQ0 HQ1 HAD ⊢
  clear e0 e1 e2 e3 e4
  obtain ⟨e0, e1, e2, e3, e4⟩ := HF20.out.cells
  clear q0
  have q0 := HQ0.out
  clear q1
  have q1 : x20.cell? { block := al.block, off := al.off + 1 } = some (.slice B1 2 d1) := HQ1.out
  go_wp2_with fail
  go_ret
  exact ⟨rfl, HB20.out⟩
end Go.Proofs.Ytmnncmpmhbfpcaa.Y
end
section
namespace Go.Proofs.Ytmnncmpmhbfpcaa.Y
set_option linter.unusedVariables false
set_option linter.unusedSimpArgs false
open Go.RowKit Go.Proofs.YtmnncmpmhbfpcaaW.PrintWords Go.Proofs.YtmnncmpmhbfpcaaW.PrintLast Go.Proofs.YtmnncmpmhbfpcaaW.PrintMore
open Go.Proofs.Ytmnncmpmhbfpcaa.A Go.Proofs.Ytmnncmpmhbfpcaa.H Go.Proofs.Ytmnncmpmhbfpcaa.B Go.Proofs.Ytmnncmpmhbfpcaa.S Go.Proofs.Ytmnncmpmhbfpcaa.P Go.Proofs.Ytmnncmpmhbfpcaa.V Go.Proofs.Ytmnncmpmhbfpcaa.U Go.Proofs.Ytmnncmpmhbfpcaa.X Go.Proofs.Ytmnncmpmhbfpcaa.C Go.Proofs.Ytmnncmpmhbfpcaa.D
attribute [local go_sem] max2_int max_two
def allU (L : List (List Int)) : Nat → List Int
  | 0 => []
  | i + 1 => unionL (allU L i) (L.getD i [])
def okC (K : List Int) (c : Int) : Bool := decide (c < K.length) && decide (K.getD c.toNat 0 ≠ 0)
def wantL (K r : List Int) : List Int := r.filter (okC K)
structure AskP (W H D : Int) (K O r : List Int) (L : List (List Int)) : Prop where
  len : L.length ≤ r.length
  rg : ∀ i, i < L.length → Rg (L.getD i [])
  ne : ∀ i, i < L.length → L.getD i [] ≠ []
  linked : ∀ i, i < L.length → linkedL W H D K O (L.getD i []) = true
  arg : ∀ i, i ≤ L.length → Rg (allU L i)
  inter : ∀ i, i < L.length → interL (allU L i) (L.getD i []) = []
  asc : ∀ i, i + 1 < L.length → (L.getD i []).getD 0 0 < (L.getD (i + 1) []).getD 0 0
  apart : ∀ i k, i < L.length → k < i → linkedL W H D K O (unionL (L.getD i []) (L.getD k [])) = false
  all : allU L L.length = wantL K r
  only : linkedL W H D K O r = (decide (r = []) || (decide (L.length = 1) && decide (L.getD 0 [] = r)))
set_option maxRecDepth 100000 in
set_option maxHeartbeats 8000000 in
theorem parts_walk (a0_0 : Int) (a0_1 : Int) (a0_2 : Int) (A0_3 : Option Addr) (c0_3 : Nat) (l0_3 : List Int) (A0_4 : Option Addr) (c0_4 : Nat) (l0_4 : List Int) (A1 : Option Addr) (c1 : Nat) (l1 : List Int) (w : World)
    (F : Fl w a0_0 a0_1 a0_2 A0_3 c0_3 l0_3 A0_4 c0_4 l0_4) (R1 : RwOk w A1 c1 l1) (hs : Rg l1) (hfit : taquinlaw08_fits.f 5000 a0_0 a0_1 a0_2 l0_3 l0_4 l1 60 = some true) (hl1 : l1.length ≤ 200) (hn2 : l0_3.length ≤ 60)
    (hask : AskP a0_0 a0_1 a0_2 l0_3 l0_4 l1 (partL a0_0 a0_1 a0_2 l0_3 l0_4 l1)) :
    Calls Try.prog 10 #[.agg #[.int .i64 a0_0, .int .i64 a0_1, .int .i64 a0_2, .slice A0_3 l0_3.length c0_3, .slice A0_4 l0_4.length c0_4], .slice A1 l1.length c1] w fun e w' => e = .returned (.bool true) ∧ Below w.heap.size w w' := by
  obtain ⟨ak, hak, haklt, hkc⟩ := reads_at F.r3.r F.good.len1
  have HAK := Lib.hid hak
  have HKC := Lib.hid hkc
  have HSM := Lib.hid small_any
  have HFI := Lib.hid (fun W (h : Below w.heap.size w W) => taquinlaw08_fits.calls 5000 a0_0 a0_1 a0_2 A0_3 c0_3 l0_3 A0_4 c0_4 l0_4 A1 c1 l1 60 true W (F.below h).r3.r F.r3.c (F.below h).r4.r F.r4.c (R1.below h).r R1.c hfit)
  have HRT := Lib.hid (fun (A : Option Addr) (c : Nat) (l : List Int) (hl : Rg l) W (h : RwOk W A c l) => region_Right.calls 5000 A c l true W h.r h.c (rright_rg hl 5000 (by have := hl.len; omega)))
  have HPA := Lib.hid (fun W (hb : Below w.heap.size w W) => parts_ok (F.below hb) (R1.below hb) hs)
  have HLI := Lib.hid (fun (A : Option Addr) (c : Nat) (l : List Int) (hl : Rg l) (b : Bool) (hb : linkedL a0_0 a0_1 a0_2 l0_3 l0_4 l = b) W (hbe : Below w.heap.size w W) (h : RwOk W A c l) => hb ▸ linked_ok (F.below hbe) h hl)
  have HSA := Lib.hid (fun (A : Option Addr) (c : Nat) (l : List Int) (B : Option Addr) (d : Nat) (m : List Int) (hl : Rg l) (b : Bool) (hb : decide (l = m) = b) W (h1 : RwOk W A c l) (h2 : RwOk W B d m) => region_Same.calls 5000 A c l B d m b W h1.r h1.c h2.r h2.c (by rw [rsame_said l m (by have := hl.len; omega) 5000 (by have := hl.len; omega), hb]))
  have HASK := Lib.hid hask
  have HR1 := Lib.hid R1
  have HS1 := Lib.hid hs
  have HFB := Lib.hid (FBox.new w #[.int .i64 a0_0, .int .i64 a0_1, .int .i64 a0_2, .slice A0_3 l0_3.length c0_3, .slice A0_4 l0_4.length c0_4])
  have HB0 := Lib.hid ((Below.refl w.heap.size w).alloc (Nat.le_refl _) (.cells #[.int .i64 a0_0, .int .i64 a0_1, .int .i64 a0_2, .slice A0_3 l0_3.length c0_3, .slice A0_4 l0_4.length c0_4] 24))
  clear F R1 hs hfit hask hkc hak
  go_enter Try.func10, Try.ntmps10
  go_wp2_with fail
  refine (HSM.out _).mono ?_
  rintro e x1 ⟨rfl, hb⟩
  have HB1 := Lib.hid (HB0.out.trans (hb.mono HB0.out.size))
  have HF1 := Lib.hid (HFB.out.below hb (by simp))
  clear hb HFB HB0
  obtain ⟨e0, e1, e2, e3, e4⟩ := HF1.out.cells
  go_wp2_with fail
  refine (HFI.out _ HB1.out).mono ?_
  rintro e x2 ⟨rfl, hb⟩
  have HB2 := Lib.hid (HB1.out.trans (hb.mono HB1.out.size))
  have HF2 := Lib.hid (HF1.out.below hb HF1.out.lt)
  clear e0 e1 e2 e3 e4 hb HB1 HF1
  obtain ⟨e0, e1, e2, e3, e4⟩ := HF2.out.cells
  go_wp2_with fail
  refine (HPA.out _ HB2.out).mono ?_
  rintro e x4 ⟨v, rfl, hR, hb⟩
  have HB4 := Lib.hid (HB2.out.trans (hb.mono HB2.out.size))
  have HF4 := Lib.hid (HF2.out.below hb HF2.out.lt)
  clear e0 e1 e2 e3 e4 hb HB2 HF2
  obtain ⟨Al, cl, rfl⟩ := Kd.R_slice hR
  have HLC := Lib.hid (Kd.R_reads' hR).2.2
  clear hR HPA HFI HSM
  generalize partL a0_0 a0_1 a0_2 l0_3 l0_4 l1 = L at HASK HLC ⊢
  have HROW : Hid (∀ i, i < L.length → ∃ ad, Al = some ad ∧ ad.block < x4.heap.size ∧ ∃ B c, x4.cell? (ad.add i) = some (.slice B (L.getD i []).length c) ∧ RwOk x4 B c (L.getD i [])) := Lib.hid (fun i hi => by
    obtain ⟨ad, e, hlt, h⟩ := rows_at HLC.out (by omega)
    exact ⟨ad, e, hlt, h i hi⟩)
  have hLlen : L.length ≤ 200 := Nat.le_trans HASK.out.len hl1
  clear HLC
  obtain ⟨e0, e1, e2, e3, e4⟩ := HF4.out.cells
  go_upto_block 0 with (fail)
  go_wp2_with fail
  clear e0 e1 e2 e3 e4
  have HU0 : Hid (allU L 0 = []) := Lib.hid rfl
  go_loopw [7, 8] (fun v7 v8 wr => ∃ (i : Nat) (A : Option Addr) (c : Nat), i ≤ L.length ∧ v8 = .int .i64 i ∧ v7 = .slice A (allU L i).length c ∧ Hid (RwOk wr A c (allU L i)) ∧ Hid (Below x4.heap.size x4 wr)) (fun _ v8 _ => L.length - (intOf v8).toNat)
  case atStart => exact ⟨0, none, 0, Nat.zero_le _, rfl, by rw [HU0.out]; rfl, Lib.hid (by rw [HU0.out]; exact ⟨Kd.C_nil _ _, Nat.le_refl _⟩), Lib.hid (Below.refl _ _)⟩
  case round =>
    obtain ⟨i, Aa, ca, hi, rfl, rfl, HA, HR⟩ := hrel
    by_cases hlt : i < L.length
    · obtain ⟨al, e, hal, Bi, di, hqi, hri⟩ := HROW.out i hlt
      subst e
      have HRG := Lib.hid (HASK.out.rg i hlt)
      have HARG := Lib.hid (HASK.out.arg i hi)
      have hne : 0 < (L.getD i []).length := List.length_pos_iff.2 (HASK.out.ne i hlt)
      have HLK := Lib.hid (HASK.out.linked i hlt)
      have HIN := Lib.hid (HASK.out.inter i hlt)
      have HASC : Hid (∀ j, i = j + 1 → (L.getD j []).getD 0 0 < (L.getD i []).getD 0 0) := Lib.hid (fun j e => by subst e; exact HASK.out.asc j hlt)
      have HAP := Lib.hid (fun k hk => HASK.out.apart i k hlt hk)
      have HAS : Hid (allU L (i + 1) = unionL (allU L i) (L.getD i [])) := Lib.hid rfl
      have HQI := Lib.hid hqi
      have HRI := Lib.hid hri
      clear hqi hri
      generalize L.getD i [] = li at HRG hne HLK HIN HASC HAP HAS HQI HRI
      generalize allU L i = au at HA HARG HIN HAS ⊢
      have HBr := Lib.hid (HB4.out.trans (HR.out.mono HB4.out.size))
      obtain ⟨e0, e1, e2, e3, e4⟩ := (HF4.out.below HR.out HF4.out.lt).cells
      have hq : wr.cell? (al.add i) = some (.slice Bi li.length di) := (HR.out.cell (p := al.add i) (by rw [block_of_add']; exact hal)).trans HQI.out
      have q1 : ((li.length : Int) == 0) = false := by rw [beq_eq_false_iff_ne]; omega
      have q2 : decide ((li.length : Int) = 0) = false := decide_eq_false (by omega)
      have q3 : (li.length == 0) = false := by rw [beq_eq_false_iff_ne]; omega
      have q4 : decide (li.length = 0) = false := decide_eq_false (by omega)
      have q5 : (li = []) = False := eq_false (fun e => by rw [e] at hne; simp at hne)
      have HRd := Lib.hid (below_drew1 HR.out)
      go_upto_region 9 with (fail)
      go_region_held3 (fun w' => w'.cell? ⟨w.heap.size, 0, none⟩ = some (.int .i64 a0_0) ∧ w'.cell? ⟨w.heap.size, 1, none⟩ = some (.int .i64 a0_1) ∧ w'.cell? ⟨w.heap.size, 2, none⟩ = some (.int .i64 a0_2) ∧ w'.cell? ⟨w.heap.size, 3, none⟩ = some (.slice A0_3 l0_3.length c0_3) ∧ w'.cell? ⟨w.heap.size, 4, none⟩ = some (.slice A0_4 l0_4.length c0_4) ∧ w'.cell? (al.add i) = some (.slice Bi li.length di)) (first | exact ⟨e0, e1, e2, e3, e4, hq⟩ | exact ⟨z0, z1, z2, z3, z4, hz5⟩) (first | (go_at_call 40; (with_reducible refine (HRT.out Bi di li HRG.out _ (HRI.out.below HRd.out)).mono ?_); rintro e w' ⟨rfl, ⟨nd, rfl⟩⟩; have HR7 := Lib.hid (pw_below_drewN HR.out (1 + nd)); have HB7 := Lib.hid (HB4.out.trans (HR7.out.mono HB4.out.size)); clear e0 e1 e2 e3 e4 hq; obtain ⟨z0, z1, z2, z3, z4⟩ := (HF4.out.below HR7.out HF4.out.lt).cells; have hz5 := (HR7.out.cell (p := al.add i) (by rw [block_of_add']; exact hal)).trans HQI.out; have HA7 := Lib.hid (HA.out.below (pw_below_drewN (Below.refl _ wr) (1 + nd)))) | (go_at_call 46; (with_reducible refine (HLI.out Bi di li HRG.out true HLK.out _ HB7.out (HRI.out.below HR7.out)).mono ?_); rintro e y8 ⟨rfl, hb⟩; have HR8 := Lib.hid (HR7.out.trans (hb.mono HR7.out.size)); have HB8 := Lib.hid (HB4.out.trans (HR8.out.mono HB4.out.size)); clear z0 z1 z2 z3 z4 hz5; obtain ⟨z0, z1, z2, z3, z4⟩ := (HF4.out.below HR8.out HF4.out.lt).cells; have hz5 := (HR8.out.cell (p := al.add i) (by rw [block_of_add']; exact hal)).trans HQI.out; have HA8 := Lib.hid (HA7.out.below hb); clear hb) | (go_at_call 47; (with_reducible refine (inter_ok HA8.out (HRI.out.below HR8.out) HARG.out HRG.out).mono ?_); rintro e y9 ⟨v, rfl, hR, hb⟩; have HR9 := Lib.hid (HR8.out.trans (hb.mono HR8.out.size)); have HB9 := Lib.hid (HB4.out.trans (HR9.out.mono HB4.out.size)); clear z0 z1 z2 z3 z4 hz5; obtain ⟨z0, z1, z2, z3, z4⟩ := (HF4.out.below HR9.out HF4.out.lt).cells; have hz5 := (HR9.out.cell (p := al.add i) (by rw [block_of_add']; exact hal)).trans HQI.out; have HA9 := Lib.hid (HA8.out.below hb); rw [HIN.out] at hR; obtain ⟨Az, cz, rfl⟩ := Kd.R_slice hR; rw [show ([] : List Int).length = 0 from rfl]; clear hR hb))
      clear q1 q2 q3 q4 q5 HR HBr
      have HRn := HR9
      have HBn := HB9
      have HAn := HA9
      clear HR7 HR8 HR9 HB7 HB8 HB9 HA7 HA8 HA9
      generalize y9 = y at HRn HBn HAn z0 z1 z2 z3 z4 hz5 ⊢
      obtain ⟨ai, hBi, hailt, haic⟩ := reads_at HRI.out.r hne
      subst hBi
      have HAIC := Lib.hid (haic 0 hne)
      have hc0 : li[0]?.getD 0 = li.getD 0 0 := (List.getD_eq_getElem?_getD).symm
      rw [hc0, show ai.add 0 = ai by unfold Addr.add; simp] at HAIC
      clear haic hc0
      go_upto_region 11 with (fail)
      go_cut [79] (fun v79 wc => v79 = .bool false ∧ Hid (Below x4.heap.size x4 wc) ∧ Hid (RwOk wc Aa ca au))
      case first =>
        by_cases hi0 : i = 0
        · subst hi0
          go_quiet (fail)
          go_wp2_with fail
          go_meet
          case rel => exact ⟨rfl, Lib.hid (pw_below_drewN HRn.out _), Lib.hid (HAn.out.below (pw_below_drewN (Below.refl _ _) _))⟩
        · obtain ⟨j, hj⟩ : ∃ j, i = j + 1 := ⟨i - 1, by omega⟩
          have HJ := Lib.hid hj
          obtain ⟨al2, e, hal2, Bj, dj, hqj, hrj⟩ := HROW.out j (by omega)
          injection e with e
          subst e
          have hnej : 0 < (L.getD j []).length := List.length_pos_iff.2 (HASK.out.ne j (by omega))
          have hasc := HASC.out j hj
          have HRJ := Lib.hid hrj
          have HQJ := Lib.hid hqj
          clear hrj hqj
          generalize L.getD j [] = lj at hnej hasc HRJ HQJ
          obtain ⟨aj, hBj, hajlt, hajc⟩ := reads_at HRJ.out.r hnej
          subst hBj
          have h0j := hajc 0 hnej
          rw [(List.getD_eq_getElem?_getD).symm, show aj.add 0 = aj by unfold Addr.add; simp] at h0j
          have hqj : y.cell? (al.add j) = some (.slice (some aj) lj.length dj) := (HRn.out.cell (p := al.add j) (by rw [block_of_add']; exact hal)).trans HQJ.out
          have hj0 : y.cell? aj = some (.int .i64 (lj.getD 0 0)) := (HRn.out.cell (p := aj) hajlt).trans h0j
          have hci0 : y.cell? ai = some (.int .i64 (li.getD 0 0)) := (HRn.out.cell (p := ai) hailt).trans HAIC.out
          have t1 : decide (lj.getD 0 0 ≥ li.getD 0 0) = false := decide_eq_false (by omega)
          generalize lj.getD 0 0 = mj at hj0 t1
          generalize li.getD 0 0 = mi at hci0 t1
          have g1 : decide ((i : Int) > 0) = true := decide_eq_true (by omega)
          have g5 : decide (0 < i) = true := decide_eq_true (by omega)
          have gm : ((j : Int) < 0) = False := eq_false (by omega)
          have gj : ((j : Int) < (L.length : Int)) = True := eq_true (by omega)
          have g3 : (0 < (lj.length : Int)) = True := eq_true (by omega)
          have g4 : (0 < (li.length : Int)) = True := eq_true (by omega)
          have hw6 : IntKind.i64.wrap ((i : Int) - 1) = (j : Int) := by rw [i64_w, wsm _ (by omega) (by omega)]; omega
          clear hasc h0j hajc hj hi0
          go_quiet (fail)
          go_wp2_with fail
          go_meet
          case rel => exact ⟨rfl, Lib.hid (pw_below_drewN HRn.out _), Lib.hid (HAn.out.below (pw_below_drewN (Below.refl _ _) _))⟩
      case rest =>
        clear z0 z1 z2 z3 z4 hz5 HRn HBn HAn
        obtain ⟨rfl, HR, HA⟩ := hcut
        have HBr := Lib.hid (HB4.out.trans (HR.out.mono HB4.out.size))
        obtain ⟨e0, e1, e2, e3, e4⟩ := (HF4.out.below HR.out HF4.out.lt).cells
        have hq : wc.cell? (al.add i) = some (.slice (some ai) li.length di) := (HR.out.cell (p := al.add i) (by rw [block_of_add']; exact hal)).trans HQI.out
        go_wp2_with fail
        refine (union_ok HA.out (HRI.out.below HR.out) HARG.out HRG.out).mono ?_
        rintro e y ⟨v, rfl, hR, hb⟩
        obtain ⟨Au, cu, rfl⟩ := Kd.R_slice hR
        rw [← HAS.out] at hR ⊢
        have HAy := Lib.hid (RwOk.of_R hR)
        have HRy := Lib.hid (HR.out.trans (hb.mono HR.out.size))
        clear e0 e1 e2 e3 e4 hq HR HBr hb HA hR HIN
        go_wp2_with fail
        go_loopw [9] (fun v9 wr => ∃ k : Nat, k ≤ i ∧ v9 = .int .i64 k ∧ Hid (Below y.heap.size y wr)) (fun v9 _ => i - (intOf v9).toNat)
        case atStart => exact ⟨0, Nat.zero_le _, rfl, Lib.hid (Below.refl _ _)⟩
        case round =>
          obtain ⟨k, hk, rfl, HR2⟩ := hrel
          have HR3 := Lib.hid (HRy.out.trans (HR2.out.mono HRy.out.size))
          by_cases hki : k < i
          · obtain ⟨al2, e, hal2, Bk, dk, hqk, hrk⟩ := HROW.out k (by omega)
            injection e with e
            subst e
            have HRK := Lib.hid hrk
            have HQK := Lib.hid hqk
            have HRGK := Lib.hid (HASK.out.rg k (by omega))
            have HAPK := Lib.hid (HAP.out k hki)
            clear hrk hqk
            generalize L.getD k [] = lk at HRK HQK HRGK HAPK
            have HBr := Lib.hid (HB4.out.trans (HR3.out.mono HB4.out.size))
            obtain ⟨e0, e1, e2, e3, e4⟩ := (HF4.out.below HR3.out HF4.out.lt).cells
            have hq : wr.cell? (al.add i) = some (.slice (some ai) li.length di) := (HR3.out.cell (p := al.add i) (by rw [block_of_add']; exact hal)).trans HQI.out
            have hqk : wr.cell? (al.add k) = some (.slice Bk lk.length dk) := (HR3.out.cell (p := al.add k) (by rw [block_of_add']; exact hal)).trans HQK.out
            have HR3d := Lib.hid (below_drew1 HR3.out)
            have HR2d := Lib.hid (below_drew1 HR2.out)
            have p1 : (k : Int) < (L.length : Int) := by omega
            have p2 : (i : Int) < (L.length : Int) := by omega
            go_upto_region 17 with (fail)
            go_region_held3 (fun w' => w'.cell? ⟨w.heap.size, 0, none⟩ = some (.int .i64 a0_0) ∧ w'.cell? ⟨w.heap.size, 1, none⟩ = some (.int .i64 a0_1) ∧ w'.cell? ⟨w.heap.size, 2, none⟩ = some (.int .i64 a0_2) ∧ w'.cell? ⟨w.heap.size, 3, none⟩ = some (.slice A0_3 l0_3.length c0_3) ∧ w'.cell? ⟨w.heap.size, 4, none⟩ = some (.slice A0_4 l0_4.length c0_4) ∧ w'.cell? (al.add i) = some (.slice (some ai) li.length di) ∧ w'.cell? (al.add k) = some (.slice Bk lk.length dk)) (first | exact ⟨e0, e1, e2, e3, e4, hq, hqk⟩ | exact ⟨z0, z1, z2, z3, z4, hz5, hz6⟩) (first | (go_at_call 44; (with_reducible refine (union_ok (HRI.out.below HR3d.out) (HRK.out.below HR3d.out) HRG.out HRGK.out).mono ?_); rintro e y4 ⟨v, rfl, hR, hb⟩; have HR4 := Lib.hid (HR2d.out.trans (hb.mono HR2d.out.size)); have HQ4 := Lib.hid (HRy.out.trans (HR4.out.mono HRy.out.size)); have HB4' := Lib.hid (HB4.out.trans (HQ4.out.mono HB4.out.size)); clear e0 e1 e2 e3 e4 hq hqk; obtain ⟨z0, z1, z2, z3, z4⟩ := (HF4.out.below HQ4.out HF4.out.lt).cells; have hz5 := (HQ4.out.cell (p := al.add i) (by rw [block_of_add']; exact hal)).trans HQI.out; have hz6 := (HQ4.out.cell (p := al.add k) (by rw [block_of_add']; exact hal)).trans HQK.out; obtain ⟨Av, cv, rfl⟩ := Kd.R_slice hR; have HV := Lib.hid (RwOk.of_R hR); clear hR hb) | (go_at_call 46; (with_reducible refine (HLI.out _ _ _ (HRG.out.union HRGK.out) false HAPK.out _ HB4'.out HV.out).mono ?_); rintro e y5 ⟨rfl, hb⟩; have HR5 := Lib.hid (HR4.out.trans (hb.mono HR4.out.size)); have HQ5 := Lib.hid (HRy.out.trans (HR5.out.mono HRy.out.size)); clear z0 z1 z2 z3 z4 hz5 hz6; obtain ⟨z0, z1, z2, z3, z4⟩ := (HF4.out.below HQ5.out HF4.out.lt).cells; have hz5 := (HQ5.out.cell (p := al.add i) (by rw [block_of_add']; exact hal)).trans HQI.out; have hz6 := (HQ5.out.cell (p := al.add k) (by rw [block_of_add']; exact hal)).trans HQK.out; clear hb))
            clear p1 p2
            go_wp2_with fail
            go_roundw
            case rel => exact ⟨k + 1, by omega, by go_num, HR5⟩
            case measure => simp [intOf]; omega
          · obtain rfl : k = i := by omega
            go_wp2_with fail
            go_roundw
            case rel => exact ⟨k + 1, Au, cu, by omega, by go_num, rfl, Lib.hid (HAy.out.below HR2.out), HR3⟩
            case measure => simp [intOf]; omega
    · obtain rfl : i = L.length := by omega
      rw [HASK.out.all] at HA ⊢
      have HB5 := Lib.hid (HB4.out.trans (HR.out.mono HB4.out.size))
      have HF5 := Lib.hid (HF4.out.below HR.out HF4.out.lt)
      have HRGA := Lib.hid (by have h := HASK.out.arg L.length (Nat.le_refl _); rw [HASK.out.all] at h; exact h)
      have HROW5 : Hid (∀ i, i < L.length → ∃ ad, Al = some ad ∧ ad.block < wr.heap.size ∧ ∃ B c, wr.cell? (ad.add i) = some (.slice B (L.getD i []).length c) ∧ RwOk wr B c (L.getD i [])) := Lib.hid (fun i hi => by
        obtain ⟨ad, e, hlt, B, c, hq, hr⟩ := HROW.out i hi
        exact ⟨ad, e, Nat.lt_of_lt_of_le hlt HR.out.size, B, c, (HR.out.cell (p := ad.add i) (by rw [block_of_add']; exact hlt)).trans hq, hr.below HR.out⟩)
      clear HB4 HF4 HROW hlt
      generalize wr = x5 at HA HB5 HF5 HROW5 ⊢
      have HONL := Lib.hid HASK.out.only
      clear HR
      obtain ⟨e0, e1, e2, e3, e4⟩ := HF5.out.cells
      go_upto_block 4 with (fail)
      go_wp2_with fail
      clear e0 e1 e2 e3 e4
      go_loopw [10, 11] (fun v i wr => ∃ (k : Nat) (v8 : Value), v8 = v ∧ k ≤ l1.length ∧ i = .int .i64 k ∧ Hid (Kd.R (Kd.int .i64) 3 wr x5.heap.size (fun _ => True) v8 ((l1.take k).filter (okC l0_3))) ∧ Hid (Below x5.heap.size x5 wr)) (fun _ i _ => l1.length - (intOf i).toNat)
      case atStart => exact ⟨0, _, rfl, Nat.zero_le _, rfl, Lib.hid (by rw [List.take_zero]; exact Kd.R_nil _ _ _ _ _), Lib.hid (Below.refl _ _)⟩
      case round =>
        obtain ⟨k, v8, hv8, hk, rfl, HO, HR⟩ := hrel
        subst hv8
        by_cases hlt : k < l1.length
        · obtain ⟨ad, hA1, hadlt, hcell⟩ := reads_at HR1.out.r (by omega)
          subst hA1
          have hmr : 0 ≤ l1.getD k 0 ∧ l1.getD k 0 < 4096 := HS1.out.lo _ (getD_mem hlt)
          obtain ⟨m, hm⟩ : ∃ m : Nat, l1.getD k 0 = m := ⟨(l1.getD k 0).toNat, by omega⟩
          have hck0 := hcell k hlt
          rw [← List.getD_eq_getElem?_getD, hm] at hck0
          have HT : Hid ((l1.take (k + 1)).filter (okC l0_3) = (l1.take k).filter (okC l0_3) ++ if okC l0_3 m = true then [(m : Int)] else []) := Lib.hid (by
            have hg : l1[k] = (m : Int) := by rw [← hm, List.getD_eq_getElem?_getD, List.getElem?_eq_getElem hlt]; rfl
            rw [List.take_succ_eq_append_getElem hlt, List.filter_append, hg]
            by_cases h : okC l0_3 m = true
            · rw [if_pos h, List.filter_cons_of_pos h, List.filter_nil]
            · rw [if_neg h, List.filter_cons_of_neg h, List.filter_nil])
          have HLN : Hid ((((l1.take k).filter (okC l0_3)).length + 1) * 8 ≤ 140737488355328) := Lib.hid (by have := List.length_filter_le (okC l0_3) (l1.take k); rw [List.length_take] at this; omega)
          rw [hm] at hmr
          clear hm hcell
          have HBr := Lib.hid (HB5.out.trans (HR.out.mono HB5.out.size))
          obtain ⟨e0, e1, e2, e3, e4⟩ := (HF5.out.below HR.out HF5.out.lt).cells
          have hck : wr.cell? (ad.add k) = some (.int .i64 m) := (HBr.out.cell (p := ad.add k) (by rw [block_of_add']; exact hadlt)).trans hck0
          by_cases hmn : m < l0_3.length
          · have hA0 := HAK.out
            subst hA0
            have hkk0 := HKC.out m hmn
            rw [← List.getD_eq_getElem?_getD] at hkk0
            have HOK : Hid (okC l0_3 m = decide (l0_3.getD m 0 ≠ 0)) := Lib.hid (by unfold okC; rw [Int.toNat_natCast, decide_eq_true (by omega)]; rfl)
            have hkk : wr.cell? (ak.add m) = some (.int .i64 (l0_3.getD m 0)) := (HBr.out.cell (p := ak.add m) (by rw [block_of_add']; exact haklt)).trans hkk0
            have HKK := Lib.hid hkk0
            have HCK := Lib.hid hck0
            clear hck0 hkk0
            generalize l0_3.getD m 0 = kc at hkk HOK HKK
            have q0 : decide (m < l0_3.length) = true := decide_eq_true hmn
            go_upto_region 23 with (fail)
            go_quiet (fail)
            go_upto_region 24 with (fail)
            by_cases hk0 : kc = 0
            · subst hk0
              go_quiet (fail)
              go_wp2_with fail
              go_roundw
              case rel => exact ⟨k + 1, _, rfl, by omega, by go_num, Lib.hid (by rw [HT.out, HOK.out, if_neg (by simp), List.append_nil]; exact Kd.R_drewN HO.out _), Lib.hid (pw_below_drewN HR.out _)⟩
              case measure => simp [intOf]; omega
            · have q1 : (kc != 0) = true := by simpa using hk0
              have q2 : decide (kc = 0) = false := decide_eq_false hk0
              have q3 : (kc == 0) = false := by simpa using hk0
              go_quiet (fail)
              go_wp2_with (first | (at_builtin; refine Kd.R_append (Kd.int .i64) (w0 := x5) x5.heap.size rfl (.tmp 125) (.tmp 130) 22 3 (.int .i64 0) 8 rfl Try.underlying22 tinfo3 rfl (by decide) (by decide) v8 ((l1.take k).filter (okC l0_3)) (m : Int) [.int .i64 (m : Int)] (fun _ => True) (fun _ => False) rfl rfl ?aP (fun _ hk => hk.elim) ?aF ?aO ?aB ?aS ?aL ?_; (case aP => exact rfl); (case aF => exact (fun _ _ => trivial)); (case aO => exact Kd.R_drewN HO.out _); (case aB => exact pw_below_drewN HR.out _); (case aS => exact (pw_below_drewN HR.out _).size); (case aL => exact HLN.out); intro v9 w9 ho9 hb9 hg9 hat9; clear hat9))
              go_roundw
              case rel => exact ⟨k + 1, _, rfl, by omega, by go_num, Lib.hid (by rw [HT.out, HOK.out, if_pos (by simpa using hk0)]; exact ho9), Lib.hid hb9⟩
              case measure => simp [intOf]; omega
          · have HOK : Hid (okC l0_3 m = false) := Lib.hid (by unfold okC; rw [decide_eq_false (by omega)]; rfl)
            have q1 : decide (m < l0_3.length) = false := decide_eq_false hmn
            clear hck0
            go_upto_region 23 with (fail)
            go_quiet (fail)
            go_wp2_with fail
            go_roundw
            case rel => exact ⟨k + 1, _, rfl, by omega, by go_num, Lib.hid (by rw [HT.out, HOK.out, if_neg (by simp), List.append_nil]; exact Kd.R_drewN HO.out _), Lib.hid (pw_below_drewN HR.out _)⟩
            case measure => simp [intOf]; omega
        · obtain rfl : k = l1.length := by omega
          rw [List.take_length] at HO
          obtain ⟨Aw, cw, hvw⟩ := Kd.R_slice HO.out
          subst hvw
          have HW6 := Lib.hid (RwOk.of_R HO.out)
          have HB6 := Lib.hid (HB5.out.trans (HR.out.mono HB5.out.size))
          have HF6 := Lib.hid (HF5.out.below HR.out HF5.out.lt)
          have HA6 := Lib.hid (HA.out.below HR.out)
          have HROW6 : Hid (∀ i, i < L.length → ∃ ad, Al = some ad ∧ ad.block < wr.heap.size ∧ ∃ B c, wr.cell? (ad.add i) = some (.slice B (L.getD i []).length c) ∧ RwOk wr B c (L.getD i [])) := Lib.hid (fun i hi => by
            obtain ⟨ad, e, hlt, B, c, hq, hr⟩ := HROW5.out i hi
            exact ⟨ad, e, Nat.lt_of_lt_of_le hlt HR.out.size, B, c, (HR.out.cell (p := ad.add i) (by rw [block_of_add']; exact hlt)).trans hq, hr.below HR.out⟩)
          clear HO HB5 HF5 HA HROW5 HR hlt
          generalize wr = x6 at HW6 HB6 HF6 HA6 HROW6 ⊢
          rw [show l1.filter (okC l0_3) = wantL l0_3 l1 from rfl] at HW6 ⊢
          generalize wantL l0_3 l1 = want at HA6 HW6 HRGA ⊢
          obtain ⟨e0, e1, e2, e3, e4⟩ := HF6.out.cells
          obtain ⟨lk, hlk⟩ : ∃ b, linkedL a0_0 a0_1 a0_2 l0_3 l0_4 l1 = b := ⟨_, rfl⟩
          have HLK := Lib.hid hlk
          rw [hlk] at HONL
          clear hlk
          by_cases hr0 : l1.length = 0
          · have hL0 : L.length = 0 := by have := HASK.out.len; omega
            have HE : Hid (lk = true) := Lib.hid (by rw [HONL.out, decide_eq_true (List.length_eq_zero_iff.1 hr0)]; rfl)
            have q1 : ((l1.length : Int) == 0) = true := by rw [hr0]; rfl
            have q2 : decide ((l1.length : Int) = 0) = true := decide_eq_true (by omega)
            have q3 : ((L.length : Int) == 1) = false := by rw [hL0]; rfl
            have q4 : decide ((L.length : Int) = 1) = false := decide_eq_false (by omega)
            have HL0 := Lib.hid hL0
            have HR0 := Lib.hid hr0
            clear hL0 hr0
            have hlk := HE.out
            subst hlk
            go_wp2_with fail
            refine (HSA.out Aa ca want Aw cw want HRGA.out true (decide_eq_true rfl) _ HA6.out HW6.out).mono ?_
            rintro e w' ⟨rfl, ⟨nd2, rfl⟩⟩
            have HBz := Lib.hid (pw_below_drewN HB6.out nd2)
            have hz := HF6.out.below (pw_below_drewN (Below.refl _ x6) nd2) HF6.out.lt
            clear e0 e1 e2 e3 e4
            obtain ⟨e0, e1, e2, e3, e4⟩ := hz.cells
            clear hz
            go_wp2_with fail
            refine (HLI.out A1 c1 l1 HS1.out true HLK.out _ HBz.out (HR1.out.below HBz.out)).mono ?_
            rintro e y ⟨rfl, hb⟩
            have HBe := Lib.hid (HBz.out.trans (hb.mono HBz.out.size))
            clear hb
            go_wp2_with fail
            go_ret
            exact ⟨rfl, HBe.out⟩
          · have hne : ¬ l1 = [] := fun e => hr0 (by rw [e]; rfl)
            have q1 : ((l1.length : Int) == 0) = false := by rw [beq_eq_false_iff_ne]; omega
            have q2 : decide ((l1.length : Int) = 0) = false := decide_eq_false (by omega)
            by_cases hL1 : L.length = 1
            · obtain ⟨al, e, hal, B0, d0, hq0, hr0'⟩ := HROW6.out 0 (by omega)
              subst e
              obtain ⟨b, hb⟩ : ∃ b, decide (L.getD 0 [] = l1) = b := ⟨_, rfl⟩
              have HE : Hid (lk = b) := Lib.hid (by rw [HONL.out, decide_eq_false hne, decide_eq_true hL1, hb]; simp)
              have HSB := Lib.hid (HSA.out B0 d0 (L.getD 0 []) A1 c1 l1 (HASK.out.rg 0 (by omega)) b hb x6 hr0' (HR1.out.below HB6.out))
              have q3 : ((L.length : Int) == 1) = true := by rw [hL1]; rfl
              have q4 : decide ((L.length : Int) = 1) = true := decide_eq_true (by omega)
              rw [show al.add 0 = al by unfold Addr.add; simp] at hq0
              generalize L.getD 0 [] = lf at hq0 HSB
              have gL : (0 < (L.length : Int)) = True := eq_true (by omega)
              have gL2 : 0 < L.length := by omega
              clear hb hr0' hne hL1
              go_wp2_with fail
              refine (HSB.out).mono ?_
              rintro e w' ⟨rfl, ⟨nd, rfl⟩⟩
              have hlk := HE.out
              subst hlk
              cases lk with
              | true =>
                go_wp2_with fail
                refine (HSA.out Aa ca want Aw cw want HRGA.out true (decide_eq_true rfl) _ (HA6.out.below (pw_below_drewN (Below.refl _ x6) nd)) (HW6.out.below (pw_below_drewN (Below.refl _ x6) nd))).mono ?_
                rintro e w' ⟨rfl, ⟨nd2, rfl⟩⟩
                have HBz := Lib.hid (pw_below_drewN HB6.out (nd + nd2))
                go_wp2_with fail
                refine (HLI.out A1 c1 l1 HS1.out true HLK.out _ HBz.out (HR1.out.below HBz.out)).mono ?_
                rintro e y ⟨rfl, hb⟩
                have HBe := Lib.hid (HBz.out.trans (hb.mono HBz.out.size))
                clear hb
                go_wp2_with fail
                go_ret
                exact ⟨rfl, HBe.out⟩
              | false =>
                go_wp2_with fail
                refine (HSA.out Aa ca want Aw cw want HRGA.out true (decide_eq_true rfl) _ (HA6.out.below (pw_below_drewN (Below.refl _ x6) nd)) (HW6.out.below (pw_below_drewN (Below.refl _ x6) nd))).mono ?_
                rintro e w' ⟨rfl, ⟨nd2, rfl⟩⟩
                have HBz := Lib.hid (pw_below_drewN HB6.out (nd + nd2))
                go_wp2_with fail
                refine (HLI.out A1 c1 l1 HS1.out false HLK.out _ HBz.out (HR1.out.below HBz.out)).mono ?_
                rintro e y ⟨rfl, hb⟩
                have HBe := Lib.hid (HBz.out.trans (hb.mono HBz.out.size))
                clear hb
                go_wp2_with fail
                go_ret
                exact ⟨rfl, HBe.out⟩
            · have HE : Hid (lk = false) := Lib.hid (by rw [HONL.out, decide_eq_false hne, decide_eq_false hL1]; rfl)
              have q3 : ((L.length : Int) == 1) = false := by rw [beq_eq_false_iff_ne]; omega
              have q4 : decide ((L.length : Int) = 1) = false := decide_eq_false (by omega)
              clear hne hL1 hr0
              have hlk := HE.out
              subst hlk
              go_wp2_with fail
              refine (HSA.out Aa ca want Aw cw want HRGA.out true (decide_eq_true rfl) _ HA6.out HW6.out).mono ?_
              rintro e w' ⟨rfl, ⟨nd2, rfl⟩⟩
              have HBz := Lib.hid (pw_below_drewN HB6.out nd2)
              have hz := HF6.out.below (pw_below_drewN (Below.refl _ x6) nd2) HF6.out.lt
              clear e0 e1 e2 e3 e4
              obtain ⟨e0, e1, e2, e3, e4⟩ := hz.cells
              clear hz
              go_wp2_with fail
              refine (HLI.out A1 c1 l1 HS1.out false HLK.out _ HBz.out (HR1.out.below HBz.out)).mono ?_
              rintro e y ⟨rfl, hb⟩
              have HBe := Lib.hid (HBz.out.trans (hb.mono HBz.out.size))
              clear hb
              go_wp2_with fail
              go_ret
              exact ⟨rfl, HBe.out⟩
end Go.Proofs.Ytmnncmpmhbfpcaa.Y
end
