/- The law FloorDist, whole: the walk where it answers at once, and all of it. -/
import Derived.Test.YtmnncmpmhbfpcaaQ1
import Derived.Test.YtmnncmpmhbfpcaaR
namespace Go.Proofs.Ytmnncmpmhbfpcaa.G
set_option linter.unusedVariables false
set_option linter.unusedSimpArgs false
open Go.RowKit Go.Proofs.YtmnncmpmhbfpcaaW.PrintWords Go.Proofs.YtmnncmpmhbfpcaaW.PrintLast Go.Proofs.YtmnncmpmhbfpcaaW.PrintMore
open Go.Proofs.Ytmnncmpmhbfpcaa.A Go.Proofs.Ytmnncmpmhbfpcaa.H Go.Proofs.Ytmnncmpmhbfpcaa.B Go.Proofs.Ytmnncmpmhbfpcaa.S Go.Proofs.Ytmnncmpmhbfpcaa.C Go.Proofs.Ytmnncmpmhbfpcaa.D Go.Proofs.Ytmnncmpmhbfpcaa.F Go.Proofs.Ytmnncmpmhbfpcaa.P

set_option maxRecDepth 100000 in
set_option maxHeartbeats 8000000 in
theorem dist_early (a0_0 : Int) (a0_1 : Int) (a0_2 : Int) (A0_3 : Option Addr) (c0_3 : Nat) (l0_3 : List Int) (A0_4 : Option Addr) (c0_4 : Nat) (l0_4 : List Int) (A1 : Option Addr) (c1 : Nat) (l1 : List Int) (A2 : Option Addr) (c2 : Nat) (l2 : List Int) (w : World)
    (hr0_3 : Kd.C (Kd.int .i64) w A0_3 l0_3.length l0_3) (hc0_3 : l0_3.length ≤ c0_3) (hr0_4 : Kd.C (Kd.int .i64) w A0_4 l0_4.length l0_4) (hc0_4 : l0_4.length ≤ c0_4)
    (hr1 : Kd.C (Kd.int .i64) w A1 l1.length l1) (hc1 : l1.length ≤ c1) (hr2 : Kd.C (Kd.int .i64) w A2 l2.length l2) (hc2 : l2.length ≤ c2)
    (b : Bool) (hfair : taquinlaw07_fair.f 5000 a0_0 a0_1 a0_2 l0_3 l0_4 300 = some b) (hl1 : l1.length ≤ 9223372036854775807) (hl2 : l2.length ≤ 9223372036854775807) (hq : b = false ∨ 30 < l1.length ∨ 30 < l2.length) :
    Calls Try.prog 4 #[.agg #[.int .i64 a0_0, .int .i64 a0_1, .int .i64 a0_2, .slice A0_3 l0_3.length c0_3, .slice A0_4 l0_4.length c0_4], .slice A1 l1.length c1, .slice A2 l2.length c2] w fun e w' => e = .returned (.bool true) ∧ Below w.heap.size w w' := by
  have HSM := Lib.hid (fun W => taquinlaw07_small.calls 100 true W small_holds)
  have HFA := Lib.hid (fun W (h : Below w.heap.size w W) => taquinlaw07_fair.calls 5000 a0_0 a0_1 a0_2 A0_3 c0_3 l0_3 A0_4 c0_4 l0_4 300 b W (Kd.C_below hr0_3 h) hc0_3 (Kd.C_below hr0_4 h) hc0_4 hfair)
  have HB := Lib.hid (Below.refl w.heap.size w)
  have HFB := Lib.hid (FBox.new w #[.int .i64 a0_0, .int .i64 a0_1, .int .i64 a0_2, .slice A0_3 l0_3.length c0_3, .slice A0_4 l0_4.length c0_4])
  have HBa := Lib.hid ((Below.refl w.heap.size w).alloc (Nat.le_refl _) (.cells #[.int .i64 a0_0, .int .i64 a0_1, .int .i64 a0_2, .slice A0_3 l0_3.length c0_3, .slice A0_4 l0_4.length c0_4] 24))
  clear hfair hr0_3 hr0_4 hr1 hr2 HB
  go_enter Try.func4, Try.ntmps4
  go_wp2_with fail
  refine (HSM.out _).mono ?_
  rintro e w1 ⟨rfl, hb1⟩
  have HB1 := Lib.hid (HBa.out.trans (hb1.mono HBa.out.size))
  have hf1 := HFB.out.below hb1 (by simp)
  have HF1 := Lib.hid hf1
  obtain ⟨e0, e1, e2, e3, e4⟩ := hf1.cells
  clear hb1 hf1 HFB HBa
  go_wp2_with fail
  refine (HFA.out _ HB1.out).mono ?_
  rintro e w2 ⟨rfl, hb2⟩
  have HB2 := Lib.hid (HB1.out.trans (hb2.mono HB1.out.size))
  have hf2 := HF1.out.below hb2 HF1.out.lt
  have HF2 := Lib.hid hf2
  clear e0 e1 e2 e3 e4
  obtain ⟨e0, e1, e2, e3, e4⟩ := hf2.cells
  clear hb2 hf2 HF1 HB1
  cases b with
  | false =>
    go_wp2_with fail
    go_ret
    exact ⟨rfl, HB2.out⟩
  | true =>
    by_cases h1 : 30 < l1.length
    · have d1 : decide ((l1.length : Int) > 30) = true := decide_eq_true (by omega)
      go_wp2_with fail
      go_ret
      exact ⟨rfl, HB2.out⟩
    · have d1 : decide ((l1.length : Int) > 30) = false := decide_eq_false (by omega)
      have h2 : 30 < l2.length := by
        rcases hq with h | h | h
        · cases h
        · exact absurd h h1
        · exact h
      have d2 : decide ((l2.length : Int) > 30) = true := decide_eq_true (by omega)
      go_wp2_with fail
      go_ret
      exact ⟨rfl, HB2.out⟩

theorem floorDist_all (a0_0 : Int) (a0_1 : Int) (a0_2 : Int) (A0_3 : Option Addr) (c0_3 : Nat) (l0_3 : List Int) (A0_4 : Option Addr) (c0_4 : Nat) (l0_4 : List Int) (A1 : Option Addr) (c1 : Nat) (l1 : List Int) (A2 : Option Addr) (c2 : Nat) (l2 : List Int) (w : World)
    (hr0_3 : Kd.C (Kd.int .i64) w A0_3 l0_3.length l0_3) (hc0_3 : l0_3.length ≤ c0_3) (hr0_4 : Kd.C (Kd.int .i64) w A0_4 l0_4.length l0_4) (hc0_4 : l0_4.length ≤ c0_4)
    (hr1 : Kd.C (Kd.int .i64) w A1 l1.length l1) (hc1 : l1.length ≤ c1) (hr2 : Kd.C (Kd.int .i64) w A2 l2.length l2) (hc2 : l2.length ≤ c2) (hl1 : l1.length ≤ 9223372036854775807) (hl2 : l2.length ≤ 9223372036854775807) :
    Calls Try.prog 4 #[.agg #[.int .i64 a0_0, .int .i64 a0_1, .int .i64 a0_2, .slice A0_3 l0_3.length c0_3, .slice A0_4 l0_4.length c0_4], .slice A1 l1.length c1, .slice A2 l2.length c2] w fun e w' => e = .returned (.bool true) ∧ Below w.heap.size w w' := by
  obtain ⟨b, hb, hb2⟩ := fair_said a0_0 a0_1 a0_2 l0_3 l0_4 300 5000 (by omega) (by omega)
  by_cases hq : b = false ∨ 30 < l1.length ∨ 30 < l2.length
  · exact dist_early a0_0 a0_1 a0_2 A0_3 c0_3 l0_3 A0_4 c0_4 l0_4 A1 c1 l1 A2 c2 l2 w hr0_3 hc0_3 hr0_4 hc0_4 hr1 hc1 hr2 hc2 b hb hl1 hl2 hq
  · have hbt : b = true := by cases b <;> simp_all
    subst hbt
    obtain ⟨G, hn⟩ := hb2.1 rfl
    have h30 : l1.length ≤ 30 ∧ l2.length ≤ 30 := ⟨by omega, by omega⟩
    obtain ⟨r, h1, h2⟩ := dist_good G l1 l2
    exact dist_walk a0_0 a0_1 a0_2 A0_3 c0_3 l0_3 A0_4 c0_4 l0_4 A1 c1 l1 A2 c2 l2 w hr0_3 hc0_3 hr0_4 hc0_4 hr1 hc1 hr2 hc2 hb h30.1 h30.2 G.len1 (by omega) r h1 (asked G l1 l2 r h2) (fun l x hl => has_said l x hl)
end Go.Proofs.Ytmnncmpmhbfpcaa.G
