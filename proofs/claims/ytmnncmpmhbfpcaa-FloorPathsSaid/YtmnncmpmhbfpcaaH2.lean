/- Contract of floor.beside. Conditions: none. -/
import Derived.Test.YtmnncmpmhbfpcaaH1
namespace Go.Proofs.Ytmnncmpmhbfpcaa.H
set_option linter.unusedVariables false
set_option linter.unusedSimpArgs false
open Go.RowKit Go.Proofs.YtmnncmpmhbfpcaaW.PrintWords Go.Proofs.YtmnncmpmhbfpcaaW.PrintLast Go.Proofs.YtmnncmpmhbfpcaaW.PrintMore
open Go.Proofs.Ytmnncmpmhbfpcaa.A

/-- A floor in a box. -/
def flrA (a0 a1 a2 : Int) (A3 : Option Addr) (n3 c3 : Nat) (A4 : Option Addr) (n4 c4 : Nat) : Array Value := #[.int .i64 a0, .int .i64 a1, .int .i64 a2, .slice A3 n3 c3, .slice A4 n4 c4]
def FBox (W : World) (g : Nat) (cs : Array Value) : Prop := W.heap[g]? = some (.cells cs 24 (0, 0))
theorem FBox.new (w : World) (cs : Array Value) : FBox (w.alloc (.cells cs 24)) w.heap.size cs := heap_alloc_new w _
theorem FBox.lt {W : World} {g : Nat} {cs : Array Value} (h : FBox W g cs) : g < W.heap.size := (Array.getElem?_eq_some_iff.1 h).1
theorem FBox.below {W W1 : World} {g B : Nat} {cs : Array Value} (h : FBox W g cs) (hb : Below B W W1) (hg : g < B) : FBox W1 g cs := (hb.block g hg).trans h
theorem FBox.cell {W : World} {g : Nat} {cs : Array Value} (h : FBox W g cs) (i : Nat) : W.cell? ⟨g, i, none⟩ = cs[i]? := cell_of_row W g i cs 24 (0, 0) h

def floor_beside.f (a0_0 a0_1 a0_2 : Int) (l0_3 l0_4 : List Int) (a1 a2 : Int) : Option Int :=
  (floor_is.f a0_0 a0_1 a0_2 l0_3 l0_4 a1).bind fun b => if b = true then (if a2 < 0 then some (-1) else if 6 ≤ a2 then some (-1) else
    (floor_At.f a0_0 a0_1 a0_2 l0_3 l0_4 a1).bind fun p => floor_Cell.f a0_0 a0_1 a0_2 l0_3 l0_4 (wrap64 (p.1 + dxI a2)) (wrap64 (p.2.1 + dyI a2)) (wrap64 (p.2.2 + dzI a2))) else some (-1)

set_option maxHeartbeats 4000000 in
theorem beside_no (a0_0 : Int) (a0_1 : Int) (a0_2 : Int) (A0_3 : Option Addr) (c0_3 : Nat) (l0_3 : List Int) (A0_4 : Option Addr) (c0_4 : Nat) (l0_4 : List Int) (a1 a2 : Int) (w : World) (hr0_3 : Kd.C (Kd.int .i64) w A0_3 l0_3.length l0_3) (hc0_3 : l0_3.length ≤ c0_3) (hr0_4 : Kd.C (Kd.int .i64) w A0_4 l0_4.length l0_4) (hc0_4 : l0_4.length ≤ c0_4)
    (b : Bool) (h1 : floor_is.f a0_0 a0_1 a0_2 l0_3 l0_4 a1 = some b) (h2 : b = false ∨ a2 < 0 ∨ 6 ≤ a2) :
    Calls Try.prog 64 #[.agg #[.int .i64 a0_0, .int .i64 a0_1, .int .i64 a0_2, .slice A0_3 l0_3.length c0_3, .slice A0_4 l0_4.length c0_4], .int .i64 a1, .int .i64 a2] w fun e w' => e = .returned (.int .i64 (-1)) ∧ Below w.heap.size w w' := by
  have HIS := Lib.hid (fun W (h : Below w.heap.size w W) => floor_is.calls a0_0 a0_1 a0_2 A0_3 c0_3 l0_3 A0_4 c0_4 l0_4 a1 b W (Kd.C_below hr0_3 h) hc0_3 (Kd.C_below hr0_4 h) hc0_4 h1)
  clear hr0_3 hc0_3 hr0_4 hc0_4 h1
  have hB : Below w.heap.size w (w.alloc (.cells #[.int .i64 a0_0, .int .i64 a0_1, .int .i64 a0_2, .slice A0_3 l0_3.length c0_3, .slice A0_4 l0_4.length c0_4] 24)) := (Below.refl _ _).alloc (Nat.le_refl _) _
  have HB := Lib.hid hB
  clear hB
  generalize l0_3.length = n3 at *
  generalize l0_4.length = n4 at *
  cases b with
  | false =>
    clear h2
    go_enter Try.func64, Try.ntmps64
    go_wp2_with fail
    refine (HIS.out _ HB.out).mono ?_
    rintro e w1 ⟨rfl, hb1⟩
    have HB1 := Lib.hid (HB.out.trans (hb1.mono HB.out.size))
    clear hb1
    go_wp2
    go_ret
    exact ⟨rfl, HB1.out⟩
  | true =>
    by_cases hn : a2 < 0
    · clear h2
      go_enter Try.func64, Try.ntmps64
      go_wp2_with fail
      refine (HIS.out _ HB.out).mono ?_
      rintro e w1 ⟨rfl, hb1⟩
      have HB1 := Lib.hid (HB.out.trans (hb1.mono HB.out.size))
      clear hb1
      go_wp2
      go_ret
      exact ⟨rfl, HB1.out⟩
    · have h6 : 6 ≤ a2 := by
        rcases h2 with h | h | h
        · cases h
        · omega
        · exact h
      clear h2
      go_enter Try.func64, Try.ntmps64
      go_wp2_with fail
      refine (HIS.out _ HB.out).mono ?_
      rintro e w1 ⟨rfl, hb1⟩
      have HB1 := Lib.hid (HB.out.trans (hb1.mono HB.out.size))
      clear hb1
      go_wp2
      go_ret
      exact ⟨rfl, HB1.out⟩

/-- The five cells of a floor's box. -/
theorem FBox.cells {W : World} {g : Nat} {a0 a1 a2 : Int} {A3 A4 : Option Addr} {n3 c3 n4 c4 : Nat} (h : FBox W g #[.int .i64 a0, .int .i64 a1, .int .i64 a2, .slice A3 n3 c3, .slice A4 n4 c4]) :
    W.cell? ⟨g, 0, none⟩ = some (.int .i64 a0) ∧ W.cell? ⟨g, 1, none⟩ = some (.int .i64 a1) ∧ W.cell? ⟨g, 2, none⟩ = some (.int .i64 a2) ∧ W.cell? ⟨g, 3, none⟩ = some (.slice A3 n3 c3) ∧ W.cell? ⟨g, 4, none⟩ = some (.slice A4 n4 c4) :=
  ⟨h.cell 0, h.cell 1, h.cell 2, h.cell 3, h.cell 4⟩

set_option maxHeartbeats 4000000 in
theorem beside_yes (a0_0 : Int) (a0_1 : Int) (a0_2 : Int) (A0_3 : Option Addr) (c0_3 : Nat) (l0_3 : List Int) (A0_4 : Option Addr) (c0_4 : Nat) (l0_4 : List Int) (a1 a2 : Int) (w : World) (hr0_3 : Kd.C (Kd.int .i64) w A0_3 l0_3.length l0_3) (hc0_3 : l0_3.length ≤ c0_3) (hr0_4 : Kd.C (Kd.int .i64) w A0_4 l0_4.length l0_4) (hc0_4 : l0_4.length ≤ c0_4)
    (x y z r : Int) (h1 : floor_is.f a0_0 a0_1 a0_2 l0_3 l0_4 a1 = some true) (h0 : 0 ≤ a2) (h6 : a2 < 6) (h2 : floor_At.f a0_0 a0_1 a0_2 l0_3 l0_4 a1 = some (x, y, z))
    (h3 : floor_Cell.f a0_0 a0_1 a0_2 l0_3 l0_4 (wrap64 (x + dxI a2)) (wrap64 (y + dyI a2)) (wrap64 (z + dzI a2)) = some r) :
    Calls Try.prog 64 #[.agg #[.int .i64 a0_0, .int .i64 a0_1, .int .i64 a0_2, .slice A0_3 l0_3.length c0_3, .slice A0_4 l0_4.length c0_4], .int .i64 a1, .int .i64 a2] w fun e w' => e = .returned (.int .i64 r) ∧ Below w.heap.size w w' := by
  have HIS := Lib.hid (fun W (h : Below w.heap.size w W) => floor_is.calls a0_0 a0_1 a0_2 A0_3 c0_3 l0_3 A0_4 c0_4 l0_4 a1 true W (Kd.C_below hr0_3 h) hc0_3 (Kd.C_below hr0_4 h) hc0_4 h1)
  have HAT := Lib.hid (fun W (h : Below w.heap.size w W) => floor_At.calls a0_0 a0_1 a0_2 A0_3 c0_3 l0_3 A0_4 c0_4 l0_4 a1 x y z W (Kd.C_below hr0_3 h) hc0_3 (Kd.C_below hr0_4 h) hc0_4 h2)
  have HCE := Lib.hid (fun W (h : Below w.heap.size w W) => floor_Cell.calls a0_0 a0_1 a0_2 A0_3 c0_3 l0_3 A0_4 c0_4 l0_4 _ _ _ r W (Kd.C_below hr0_3 h) hc0_3 (Kd.C_below hr0_4 h) hc0_4 h3)
  clear hr0_3 hc0_3 hr0_4 hc0_4 h1 h2 h3
  have hB : Below w.heap.size w (w.alloc (.cells #[.int .i64 a0_0, .int .i64 a0_1, .int .i64 a0_2, .slice A0_3 l0_3.length c0_3, .slice A0_4 l0_4.length c0_4] 24)) := (Below.refl _ _).alloc (Nat.le_refl _) _
  have HB := Lib.hid hB
  clear hB
  have hfb := FBox.new w #[.int .i64 a0_0, .int .i64 a0_1, .int .i64 a0_2, .slice A0_3 l0_3.length c0_3, .slice A0_4 l0_4.length c0_4]
  have HFB := Lib.hid hfb
  clear hfb
  generalize l0_3.length = n3 at *
  generalize l0_4.length = n4 at *
  obtain ⟨n, rfl⟩ : ∃ n : Nat, a2 = n := ⟨a2.toNat, by omega⟩
  have hix := step_at n (by omega)
  have HST := Lib.hid steps_any
  simp only [stepV] at hix
  generalize dxI (n : Int) = dx at *
  generalize dyI (n : Int) = dy at *
  generalize dzI (n : Int) = dz at *
  go_enter Try.func64, Try.ntmps64
  go_wp2_with fail
  refine (HIS.out _ HB.out).mono ?_
  rintro e w1 ⟨rfl, hb1⟩
  have HB1 := Lib.hid (HB.out.trans (hb1.mono HB.out.size))
  have hf1 := HFB.out.below hb1 (by simp)
  have HF1 := Lib.hid hf1
  obtain ⟨c0, c1, c2, c3, c4⟩ := hf1.cells
  clear hb1 hf1 HB HFB
  go_wp2_with fail
  refine (HAT.out _ HB1.out).mono ?_
  rintro e w2 ⟨rfl, hb2⟩
  have HB2 := Lib.hid (HB1.out.trans (hb2.mono HB1.out.size))
  have hf2 := HF1.out.below hb2 HF1.out.lt
  have HF2 := Lib.hid hf2
  clear hb2 hf2 HB1 HF1 c0 c1 c2 c3 c4
  go_wp2_with fail
  refine (HST.out _).mono ?_
  rintro e w3 ⟨rfl, hb3⟩
  have HB3 := Lib.hid (HB2.out.trans (hb3.mono HB2.out.size))
  have hf3 := HF2.out.below hb3 HF2.out.lt
  have HF3 := Lib.hid hf3
  obtain ⟨c0, c1, c2, c3, c4⟩ := hf3.cells
  have hlt := hf3.lt
  clear hb3 hf3 HB2 HF2
  go_wp2_with fail
  refine (HCE.out _ (HB3.out.alloc HB3.out.size _)).mono ?_
  rintro e w4 ⟨rfl, hb4⟩
  have HB4 := Lib.hid ((HB3.out.alloc HB3.out.size _).trans (hb4.mono (HB3.out.alloc HB3.out.size _).size))
  clear hb4 c0 c1 c2 c3 c4 hlt
  go_wp2
  go_ret
  exact ⟨rfl, HB4.out⟩

theorem floor_beside.calls (a0_0 : Int) (a0_1 : Int) (a0_2 : Int) (A0_3 : Option Addr) (c0_3 : Nat) (l0_3 : List Int) (A0_4 : Option Addr) (c0_4 : Nat) (l0_4 : List Int) (a1 : Int) (a2 : Int) (r : Int) (w : World) (hr0_3 : Kd.C (Kd.int .i64) w A0_3 l0_3.length l0_3) (hc0_3 : l0_3.length ≤ c0_3) (hr0_4 : Kd.C (Kd.int .i64) w A0_4 l0_4.length l0_4) (hc0_4 : l0_4.length ≤ c0_4) (h : floor_beside.f a0_0 a0_1 a0_2 l0_3 l0_4 a1 a2 = some r) :
    Calls Try.prog 64 #[.agg #[.int .i64 a0_0, .int .i64 a0_1, .int .i64 a0_2, .slice A0_3 l0_3.length c0_3, .slice A0_4 l0_4.length c0_4], .int .i64 a1, .int .i64 a2] w fun e w' => e = .returned (.int .i64 r) ∧ Below w.heap.size w w' := by
  unfold floor_beside.f at h
  obtain ⟨b, h1, h⟩ := Option.bind_eq_some_iff.1 h
  cases b with
  | false =>
    rw [if_neg (by decide)] at h
    cases h
    exact beside_no a0_0 a0_1 a0_2 A0_3 c0_3 l0_3 A0_4 c0_4 l0_4 a1 a2 w hr0_3 hc0_3 hr0_4 hc0_4 false h1 (.inl rfl)
  | true =>
    rw [if_pos rfl] at h
    by_cases hn : a2 < 0
    · rw [if_pos hn] at h
      cases h
      exact beside_no a0_0 a0_1 a0_2 A0_3 c0_3 l0_3 A0_4 c0_4 l0_4 a1 a2 w hr0_3 hc0_3 hr0_4 hc0_4 true h1 (.inr (.inl hn))
    rw [if_neg hn] at h
    by_cases h6 : 6 ≤ a2
    · rw [if_pos h6] at h
      cases h
      exact beside_no a0_0 a0_1 a0_2 A0_3 c0_3 l0_3 A0_4 c0_4 l0_4 a1 a2 w hr0_3 hc0_3 hr0_4 hc0_4 true h1 (.inr (.inr h6))
    rw [if_neg h6] at h
    obtain ⟨⟨x, y, z⟩, h2, h3⟩ := Option.bind_eq_some_iff.1 h
    exact beside_yes a0_0 a0_1 a0_2 A0_3 c0_3 l0_3 A0_4 c0_4 l0_4 a1 a2 w hr0_3 hc0_3 hr0_4 hc0_4 x y z r h1 (by omega) (by omega) h2 h3
end Go.Proofs.Ytmnncmpmhbfpcaa.H
