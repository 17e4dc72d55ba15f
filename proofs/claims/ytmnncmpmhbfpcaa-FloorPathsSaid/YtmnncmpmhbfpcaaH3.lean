/- Contract of floor.Near. Conditions: none. -/
import Derived.Test.YtmnncmpmhbfpcaaH2
namespace Go.Proofs.Ytmnncmpmhbfpcaa.H
set_option linter.unusedVariables false
set_option linter.unusedSimpArgs false
open Go.RowKit Go.Proofs.YtmnncmpmhbfpcaaW.PrintWords Go.Proofs.YtmnncmpmhbfpcaaW.PrintLast Go.Proofs.YtmnncmpmhbfpcaaW.PrintMore
open Go.Proofs.Ytmnncmpmhbfpcaa.A

def floor_Opposite.f (a0 : Int) : Option Int := some (oppI a0)
theorem floor_Opposite.calls (a0 : Int) (r : Int) (w : World) (h : floor_Opposite.f a0 = some r) :
    Calls Try.prog 17 #[.int .i64 a0] w fun e w' => e = .returned (.int .i64 r) ∧ Drawn0 w w' := by
  cases h
  exact (opp_any a0 w).mono fun e w' ⟨he, hw⟩ => ⟨he, drawn_of_eq hw⟩

def nearFrom (a0_0 a0_1 a0_2 : Int) (l0_3 l0_4 : List Int) (a1 a2 : Int) : Nat → Nat → Option Bool
  | 0, _ => some false
  | m + 1, j => (floor_beside.f a0_0 a0_1 a0_2 l0_3 l0_4 a1 j).bind fun n => if n = a2 then some true else nearFrom a0_0 a0_1 a0_2 l0_3 l0_4 a1 a2 m (j + 1)
def floor_Near.f (a0_0 a0_1 a0_2 : Int) (l0_3 l0_4 : List Int) (a1 a2 : Int) : Option Bool :=
  (floor_is.f a0_0 a0_1 a0_2 l0_3 l0_4 a2).bind fun b => if b = true then nearFrom a0_0 a0_1 a0_2 l0_3 l0_4 a1 a2 4 0 else some false

theorem ix59 (n : Nat) (hn : n < 4) : ∀ w, (Instr.index 59 (.agg #[.int .i64 0, .int .i64 1, .int .i64 2, .int .i64 3]) (.int .i64 n)).run Try.prog w = .ok (.int .i64 n) w := by
  intro w
  rcases n with _ | _ | _ | _ | j
  all_goals first | omega | kernel_rfl

set_option maxHeartbeats 4000000 in
theorem floor_Near.calls (a0_0 : Int) (a0_1 : Int) (a0_2 : Int) (A0_3 : Option Addr) (c0_3 : Nat) (l0_3 : List Int) (A0_4 : Option Addr) (c0_4 : Nat) (l0_4 : List Int) (a1 : Int) (a2 : Int) (r : Bool) (w : World) (hr0_3 : Kd.C (Kd.int .i64) w A0_3 l0_3.length l0_3) (hc0_3 : l0_3.length ≤ c0_3) (hr0_4 : Kd.C (Kd.int .i64) w A0_4 l0_4.length l0_4) (hc0_4 : l0_4.length ≤ c0_4) (h : floor_Near.f a0_0 a0_1 a0_2 l0_3 l0_4 a1 a2 = some r) :
    Calls Try.prog 31 #[.agg #[.int .i64 a0_0, .int .i64 a0_1, .int .i64 a0_2, .slice A0_3 l0_3.length c0_3, .slice A0_4 l0_4.length c0_4], .int .i64 a1, .int .i64 a2] w fun e w' => e = .returned (.bool r) ∧ Below w.heap.size w w' := by
  unfold floor_Near.f at h
  obtain ⟨b, h1, h⟩ := Option.bind_eq_some_iff.1 h
  have HIS := Lib.hid (fun W (h : Below w.heap.size w W) => floor_is.calls a0_0 a0_1 a0_2 A0_3 c0_3 l0_3 A0_4 c0_4 l0_4 a2 b W (Kd.C_below hr0_3 h) hc0_3 (Kd.C_below hr0_4 h) hc0_4 h1)
  have HBE := Lib.hid (fun (d n : Int) (hd : floor_beside.f a0_0 a0_1 a0_2 l0_3 l0_4 a1 d = some n) W (h : Below w.heap.size w W) => floor_beside.calls a0_0 a0_1 a0_2 A0_3 c0_3 l0_3 A0_4 c0_4 l0_4 a1 d n W (Kd.C_below hr0_3 h) hc0_3 (Kd.C_below hr0_4 h) hc0_4 hd)
  clear hr0_3 hc0_3 hr0_4 hc0_4 h1
  obtain ⟨NF, hNF⟩ : ∃ NF : Nat → Nat → Option Bool, nearFrom a0_0 a0_1 a0_2 l0_3 l0_4 a1 a2 = NF := ⟨_, rfl⟩
  have HN := Lib.hid (fun m j => by rw [← hNF, nearFrom] : ∀ m j, NF (m + 1) j = (floor_beside.f a0_0 a0_1 a0_2 l0_3 l0_4 a1 j).bind fun n => if n = a2 then some true else NF m (j + 1))
  have HZ := Lib.hid (fun j => by rw [← hNF, nearFrom] : ∀ j, NF 0 j = some false)
  rw [hNF] at h
  clear hNF
  have hB : Below w.heap.size w (w.alloc (.cells #[.int .i64 a0_0, .int .i64 a0_1, .int .i64 a0_2, .slice A0_3 l0_3.length c0_3, .slice A0_4 l0_4.length c0_4] 24)) := (Below.refl _ _).alloc (Nat.le_refl _) _
  have HB := Lib.hid hB
  clear hB
  have hfb := FBox.new w #[.int .i64 a0_0, .int .i64 a0_1, .int .i64 a0_2, .slice A0_3 l0_3.length c0_3, .slice A0_4 l0_4.length c0_4]
  have HFB := Lib.hid hfb
  clear hfb
  generalize l0_3.length = n3 at *
  generalize l0_4.length = n4 at *
  cases b with
  | false =>
    rw [if_neg (by decide)] at h
    cases h
    go_enter Try.func31, Try.ntmps31
    go_wp2_with fail
    refine (HIS.out _ HB.out).mono ?_
    rintro e w1 ⟨rfl, hb1⟩
    have HB1 := Lib.hid (HB.out.trans (hb1.mono HB.out.size))
    clear hb1
    go_wp2
    go_ret
    exact ⟨rfl, HB1.out⟩
  | true =>
    rw [if_pos rfl] at h
    have H := Lib.hid h
    clear h
    go_enter Try.func31, Try.ntmps31
    go_wp2_with fail
    refine (HIS.out _ HB.out).mono ?_
    rintro e w1 ⟨rfl, hb1⟩
    have HB1 := Lib.hid (HB.out.trans (hb1.mono HB.out.size))
    have HF1 := Lib.hid (HFB.out.below hb1 (by simp))
    clear hb1
    go_wp2_with fail
    go_loopw [14] (fun i wr => ∃ k : Nat, k ≤ 4 ∧ i = .int .i64 k ∧ Hid (NF (4 - k) k = some r) ∧ Hid (Below w.heap.size w wr) ∧ Hid (FBox wr w.heap.size #[.int .i64 a0_0, .int .i64 a0_1, .int .i64 a0_2, .slice A0_3 n3 c0_3, .slice A0_4 n4 c0_4])) (fun i _ => 4 - (intOf i).toNat)
    case atStart => exact ⟨0, by omega, rfl, H, HB1, HF1⟩
    case round =>
      obtain ⟨k, hk, rfl, HK, HBr, HFr⟩ := hrel
      clear HB1 HF1 HB HFB H
      by_cases hlt : k < 4
      · have hix := ix59 k hlt
        have hk1 := HK.out
        rw [show 4 - k = (4 - (k + 1)) + 1 by omega, HN.out] at hk1
        obtain ⟨m, hm, hk2⟩ := Option.bind_eq_some_iff.1 hk1
        obtain ⟨c0, c1, c2, c3, c4⟩ := HFr.out.cells
        have HM := Lib.hid hm
        clear hk1 hm HK
        by_cases he : m = a2
        · rw [if_pos he] at hk2
          cases hk2
          subst he
          go_wp2_with fail
          refine (HBE.out _ _ HM.out _ HBr.out).mono ?_
          rintro e w2 ⟨rfl, hb2⟩
          have HB2 := Lib.hid (HBr.out.trans (hb2.mono HBr.out.size))
          clear hb2 c0 c1 c2 c3 c4
          go_wp2
          go_ret
          exact ⟨rfl, HB2.out⟩
        · rw [if_neg he] at hk2
          have HK2 := Lib.hid hk2
          have hne : (m == a2) = false := beq_eq_false_iff_ne.2 he
          clear hk2 he
          go_wp2_with fail
          refine (HBE.out _ _ HM.out _ HBr.out).mono ?_
          rintro e w2 ⟨rfl, hb2⟩
          have HB2 := Lib.hid (HBr.out.trans (hb2.mono HBr.out.size))
          have HF2 := Lib.hid (HFr.out.below hb2 HFr.out.lt)
          clear hb2 c0 c1 c2 c3 c4
          go_wp2
          go_roundw
          case rel => exact ⟨k + 1, by omega, by go_num, HK2, HB2, HF2⟩
          case measure => simp [intOf]; omega
      · obtain rfl : k = 4 := by omega
        have hk1 := HK.out
        rw [show 4 - 4 = 0 from rfl, HZ.out] at hk1
        cases hk1
        clear HK
        go_wp2
        go_ret
        exact ⟨rfl, HBr.out⟩
end Go.Proofs.Ytmnncmpmhbfpcaa.H
