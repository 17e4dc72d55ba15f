/- FloorCells, plainly. -/
import Derived.Test.YtmnncmpmhbfpcaaP3
import Derived.Test.YtmnncmpmhbfpcaaL
namespace Go.Proofs.Ytmnncmpmhbfpcaa.P
set_option linter.unusedVariables false
set_option linter.unusedSimpArgs false
open Go.RowKit Go.Proofs.YtmnncmpmhbfpcaaW.PrintWords Go.Proofs.YtmnncmpmhbfpcaaW.PrintLast Go.Proofs.YtmnncmpmhbfpcaaW.PrintMore
open Go.Proofs.Ytmnncmpmhbfpcaa.A Go.Proofs.Ytmnncmpmhbfpcaa.H Go.Proofs.Ytmnncmpmhbfpcaa.B Go.Proofs.Ytmnncmpmhbfpcaa.S Go.Proofs.Ytmnncmpmhbfpcaa.C Go.Proofs.Ytmnncmpmhbfpcaa.D Go.Proofs.Ytmnncmpmhbfpcaa.L
section
variable {W H D : Int} {K O : List Int}
/-- The last loop: a move leads to a place that differs by one. -/
theorem cells_loop (G : Good W H D K O) {c e a b h u v w : Int} (hc : Pos W H D c a b h) (he : Pos W H D e u v w) (far : Int) (hfar : far = mx (a - u) (u - a) + mx (b - v) (v - b)) : ∀ (m d k : Nat), d + m = 6 → 2 * m + 2 ≤ k → taquinlaw07_FloorCells.l0 k c e true h w far (d : Int) W H D K O = some true := by
  intro m
  induction m with
  | zero =>
    intro d k hd hk
    obtain ⟨k, rfl⟩ : ∃ j, k = j + 1 := ⟨k - 1, by omega⟩
    rw [taquinlaw07_FloorCells.l0, if_neg (by omega)]
  | succ m ih =>
    intro d k hd hk
    obtain ⟨k, rfl⟩ : ∃ j, k = j + 1 + 1 := ⟨k - 2, by omega⟩
    have hi := ih (d + 1) k (by omega) (by omega)
    have hs : wrap64 ((d : Int) + 1) = ((d + 1 : Nat) : Int) := by rw [wsm _ (by omega) (by omega)]; rfl
    have hj : ∀ x, x = false → taquinlaw07_FloorCells.j6 (k + 1) c e true h w far (d : Int) x W H D K O = some true := by
      intro x hx
      subst hx
      rw [taquinlaw07_FloorCells.j6, if_neg (by decide), hs]
      exact hi
    rw [taquinlaw07_FloorCells.l0, if_pos (by omega)]
    obtain ⟨r, hr, hre⟩ := beside_eq G hc he (d := (d : Int)) (by omega) (by omega)
    rw [next_good G k hr]
    simp only [Option.bind_some]
    by_cases hk2 : 0 ≤ r ∧ okM K O c r d
    · rw [if_pos hk2, if_pos rfl]
      by_cases q : r = e
      · rw [if_pos q]
        apply hj
        have hq := hre.1 q
        have h1 := hc.2.2.2.2.1
        have h2 := hc.2.2.2.2.2.1
        have h3 := he.2.2.2.2.1
        have h4 := he.2.2.2.2.2.1
        have := G.d2
        have hd6 : d = 0 ∨ d = 1 ∨ d = 2 ∨ d = 3 ∨ d = 4 ∨ d = 5 := by omega
        have hone : far + mx (h - w) (w - h) = 1 := by
          rw [hfar]
          unfold mx
          rcases hd6 with rfl | rfl | rfl | rfl | rfl | rfl
          all_goals
            simp [dxI, dyI, dzI] at hq
            split <;> split <;> split <;> omega
        rw [wsm (h - w) (by omega) (by omega), wsm (w - h) (by omega) (by omega), hone, wsm 1 (by omega) (by omega)]
        rfl
      · rw [if_neg q]
        exact hj _ rfl
    · rw [if_neg hk2, if_neg (by decide)]
      exact hj _ rfl
theorem cells_mid (G : Good W H D K O) (c e : Int) (k : Nat) (hk : 40 ≤ k) : taquinlaw07_FloorCells.j1 k c e true W H D K O = some true := by
  obtain ⟨k, rfl⟩ : ∃ j, k = j + 1 + 1 + 1 + 1 := ⟨k - 4, by omega⟩
  obtain ⟨b, h1, h2, h3⟩ := near_sym G c e
  have hj3 : ∀ x, (x = true ↔ ¬ (0 ≤ c ∧ c < (K.length : Int) ∧ 0 ≤ e ∧ e < (K.length : Int))) → taquinlaw07_FloorCells.j3 (k + 1 + 1) c e true x W H D K O = some true := by
    intro x hx
    rw [taquinlaw07_FloorCells.j3]
    cases x with
    | true =>
      have h := hx.1 rfl
      rw [if_pos rfl, if_pos rfl, near_out G h]
      rfl
    | false =>
      have h : 0 ≤ c ∧ c < (K.length : Int) ∧ 0 ≤ e ∧ e < (K.length : Int) := by
        refine Decidable.byContradiction fun hh => ?_
        exact absurd (hx.2 hh) (by decide)
      obtain ⟨a, b', hh, hp⟩ := G.pos h.1 h.2.1
      obtain ⟨u, v, w, hq⟩ := G.pos h.2.2.1 h.2.2.2
      rw [if_neg (by decide), at_good G hp, at_good G hq]
      simp only [Option.bind_some]
      rw [cell_in G hp]
      simp only [Option.bind_some]
      rw [if_pos trivial, near_pos G hp hq]
      simp only [Option.bind_some]
      have p1 := hp
      have p2 := hq
      obtain ⟨x0, x1, y0, y1, z0, z1, _⟩ := p1
      obtain ⟨X0, X1, Y0, Y1, Z0, Z1, _⟩ := p2
      have := G.w2
      have := G.h2
      have hm1 : -4096 ≤ mx (a - u) (u - a) ∧ mx (a - u) (u - a) ≤ 4096 := by unfold mx; split <;> omega
      have hm2 : -4096 ≤ mx (b' - v) (v - b') ∧ mx (b' - v) (v - b') ≤ 4096 := by unfold mx; split <;> omega
      rw [wsm (a - u) (by omega) (by omega), wsm (u - a) (by omega) (by omega), wsm (b' - v) (by omega) (by omega), wsm (v - b') (by omega) (by omega), wsm _ (by omega) (by omega)]
      have hl := cells_loop G hp hq _ rfl 6 0 k (by omega) (by omega)
      have hj4 : ∀ y, y = false → taquinlaw07_FloorCells.j4 (k + 1) c e true hh w (mx (a - u) (u - a) + mx (b' - v) (v - b')) y W H D K O = some true := by
        intro y hy
        subst hy
        rw [taquinlaw07_FloorCells.j4, if_neg (by decide)]
        exact hl
      by_cases q : mx (a - u) (u - a) + mx (b' - v) (v - b') = 1
      · rw [if_pos q]
        apply hj4
        unfold nextTo
        by_cases qq : hh = w
        · simp [q, qq]
        · simp [q, qq]
      · rw [if_neg q]
        apply hj4
        unfold nextTo
        simp [q]
  have hj2 : taquinlaw07_FloorCells.j2 (k + 1 + 1 + 1) c e true false W H D K O = some true := by
    rw [taquinlaw07_FloorCells.j2, if_neg (by decide)]
    by_cases c1 : c < 0
    · rw [if_pos c1]
      exact hj3 _ ⟨fun _ => by omega, fun _ => rfl⟩
    rw [if_neg c1]
    by_cases c2 : c ≥ (K.length : Int)
    · rw [if_pos c2]
      exact hj3 _ ⟨fun _ => by omega, fun _ => rfl⟩
    rw [if_neg c2]
    by_cases c3 : e < 0
    · rw [if_pos c3]
      exact hj3 _ ⟨fun _ => by omega, fun _ => rfl⟩
    rw [if_neg c3]
    apply hj3
    rw [decide_eq_true_iff]
    omega
  rw [taquinlaw07_FloorCells.j1, h1]
  simp only [Option.bind_some]
  rw [h2]
  simp only [Option.bind_some]
  rw [if_neg (by simp), h3]
  simp only [Option.bind_some]
  exact hj2
end
theorem floorCells_pure (W H D : Int) (K O : List Int) (c e x y z : Int) : ∃ k, taquinlaw07_FloorCells.f k W H D K O c e x y z = some true := by
  refine ⟨5000 + 1, ?_⟩
  unfold taquinlaw07_FloorCells.f
  rw [small_at (by omega)]
  obtain ⟨b, hb, hb2⟩ := fair_said W H D K O 300 (5000 + 1) (by omega) (by omega)
  rw [hb]
  simp only [Option.bind_some]
  cases b with
  | false => simp
  | true =>
    have G := (hb2.1 rfl).1
    clear hb hb2
    rw [if_pos rfl]
    by_cases hin : 0 ≤ x ∧ x < W ∧ 0 ≤ y ∧ y < H ∧ 0 ≤ z ∧ z < D
    · have hp := pos_in hin
      have hr := hp.range G
      rw [cell_in G hp]
      simp only [Option.bind_some]
      rw [if_pos hr.1, at_good G hp]
      simp only [Option.bind_some]
      rw [if_neg (by omega), if_pos trivial, if_pos trivial, taquinlaw07_FloorCells.j0, if_neg (by simp)]
      exact cells_mid G c e _ (by omega)
    · rw [cell_out hin]
      simp only [Option.bind_some]
      rw [if_neg (by decide)]
      exact cells_mid G c e _ (by omega)
end Go.Proofs.Ytmnncmpmhbfpcaa.P
