/- Near, plainly. -/
import Derived.Test.YtmnncmpmhbfpcaaP2
namespace Go.Proofs.Ytmnncmpmhbfpcaa.P
set_option linter.unusedVariables false
set_option linter.unusedSimpArgs false
open Go.RowKit Go.Proofs.YtmnncmpmhbfpcaaW.PrintWords Go.Proofs.YtmnncmpmhbfpcaaW.PrintLast Go.Proofs.YtmnncmpmhbfpcaaW.PrintMore
open Go.Proofs.Ytmnncmpmhbfpcaa.A Go.Proofs.Ytmnncmpmhbfpcaa.H Go.Proofs.Ytmnncmpmhbfpcaa.B Go.Proofs.Ytmnncmpmhbfpcaa.S Go.Proofs.Ytmnncmpmhbfpcaa.C Go.Proofs.Ytmnncmpmhbfpcaa.D
section
variable {W H D : Int} {K O : List Int}
theorem beside_eq (G : Good W H D K O) {c e d a b h u v w : Int} (hc : Pos W H D c a b h) (he : Pos W H D e u v w) (d0 : 0 ≤ d) (d1 : d < 6) : ∃ r, floor_beside.f W H D K O c d = some r ∧ (r = e ↔ (u = a + dxI d ∧ v = b + dyI d ∧ w = h + dzI d)) := by
  rw [beside_in G hc d0 d1]
  by_cases hin : 0 ≤ a + dxI d ∧ a + dxI d < W ∧ 0 ≤ b + dyI d ∧ b + dyI d < H ∧ 0 ≤ h + dzI d ∧ h + dzI d < D
  · refine ⟨_, cell_in G (pos_in hin), fun hh => ?_, fun hh => ?_⟩
    · have p1 := (pos_in hin).parts G
      have p2 := he.parts G
      rw [hh] at p1
      have e1 := p1.1.symm.trans p2.1
      have e2 := p1.2.2.1
      have e3 := p1.2.2.2.1
      rw [e1, p2.2.2.1] at e2
      rw [e1, p2.2.2.2.1] at e3
      have e4 := p1.2.1
      rw [p2.2.1] at e4
      exact ⟨e4, e3, e2⟩
    · rw [he.2.2.2.2.2.2, hh.1, hh.2.1, hh.2.2]
  · refine ⟨_, cell_out hin, fun hh => ?_, fun hh => ?_⟩
    · have := (he.range G).1
      omega
    · exfalso
      apply hin
      obtain ⟨x0, x1, y0, y1, z0, z1, _⟩ := he
      omega
def nextTo (a b h u v w : Int) : Bool := decide (mx (a - u) (u - a) + mx (b - v) (v - b) = 1 ∧ h = w)
theorem near_pos (G : Good W H D K O) {c e a b h u v w : Int} (hc : Pos W H D c a b h) (he : Pos W H D e u v w) : floor_Near.f W H D K O c e = some (nextTo a b h u v w) := by
  obtain ⟨r0, h0, i0⟩ := beside_eq G hc he (d := 0) (by decide) (by decide)
  obtain ⟨r1, h1, i1⟩ := beside_eq G hc he (d := 1) (by decide) (by decide)
  obtain ⟨r2, h2, i2⟩ := beside_eq G hc he (d := 2) (by decide) (by decide)
  obtain ⟨r3, h3, i3⟩ := beside_eq G hc he (d := 3) (by decide) (by decide)
  rw [show dxI 0 = 1 from rfl, show dyI 0 = 0 from rfl, show dzI 0 = 0 from rfl] at i0
  rw [show dxI 1 = 0 from rfl, show dyI 1 = 1 from rfl, show dzI 1 = 0 from rfl] at i1
  rw [show dxI 2 = -1 from rfl, show dyI 2 = 0 from rfl, show dzI 2 = 0 from rfl] at i2
  rw [show dxI 3 = 0 from rfl, show dyI 3 = -1 from rfl, show dzI 3 = 0 from rfl] at i3
  have her := he.range G
  unfold floor_Near.f
  rw [is_good G, decide_eq_true ⟨her.1, her.2.1⟩]
  simp only [Option.bind_some, if_true, nearFrom]
  rw [show ((0 : Nat) : Int) = 0 from rfl, show ((0 + 1 : Nat) : Int) = 1 from rfl, show ((0 + 1 + 1 : Nat) : Int) = 2 from rfl, show ((0 + 1 + 1 + 1 : Nat) : Int) = 3 from rfl, h0, h1, h2, h3]
  simp only [Option.bind_some]
  have key : nextTo a b h u v w = true ↔ (r0 = e ∨ r1 = e ∨ r2 = e ∨ r3 = e) := by
    rw [i0, i1, i2, i3]
    unfold nextTo mx
    rw [decide_eq_true_iff]
    constructor
    · intro hh
      split at hh <;> split at hh <;> omega
    · intro hh
      split <;> split <;> omega
  by_cases q0 : r0 = e
  · rw [if_pos q0, key.2 (.inl q0)]
  rw [if_neg q0]
  by_cases q1 : r1 = e
  · rw [if_pos q1, key.2 (.inr (.inl q1))]
  rw [if_neg q1]
  by_cases q2 : r2 = e
  · rw [if_pos q2, key.2 (.inr (.inr (.inl q2)))]
  rw [if_neg q2]
  by_cases q3 : r3 = e
  · rw [if_pos q3, key.2 (.inr (.inr (.inr q3)))]
  rw [if_neg q3]
  cases hn : nextTo a b h u v w
  · rfl
  · rcases key.1 hn with h | h | h | h <;> exact absurd h (by assumption)
theorem near_out (G : Good W H D K O) {c e : Int} (h : ¬ (0 ≤ c ∧ c < (K.length : Int) ∧ 0 ≤ e ∧ e < (K.length : Int))) : floor_Near.f W H D K O c e = some false := by
  unfold floor_Near.f
  rw [is_good G]
  by_cases he : 0 ≤ e ∧ e < (K.length : Int)
  · rw [decide_eq_true he]
    have hb : ∀ d : Int, floor_beside.f W H D K O c d = some (-1) := fun d => beside_out G (by omega)
    have hne : ¬ ((-1 : Int) = e) := by omega
    simp only [Option.bind_some, if_true, nearFrom, hb, if_neg hne]
  · rw [decide_eq_false he]
    rfl
theorem nextTo_comm (a b h u v w : Int) : nextTo a b h u v w = nextTo u v w a b h := by
  unfold nextTo mx
  rw [decide_eq_decide]
  constructor <;> intro hh
  all_goals refine ⟨?_, hh.2.symm⟩; have h1 := hh.1; split at h1 <;> split at h1 <;> split <;> split <;> omega
theorem near_sym (G : Good W H D K O) (c e : Int) : ∃ b, floor_Near.f W H D K O c e = some b ∧ floor_Near.f W H D K O e c = some b ∧ floor_Near.f W H D K O c c = some false := by
  have hcc : floor_Near.f W H D K O c c = some false := by
    by_cases h : 0 ≤ c ∧ c < (K.length : Int)
    · obtain ⟨x, y, z, hp⟩ := G.pos h.1 h.2
      rw [near_pos G hp hp]
      unfold nextTo mx
      simp
    · exact near_out G (by omega)
  by_cases h : 0 ≤ c ∧ c < (K.length : Int) ∧ 0 ≤ e ∧ e < (K.length : Int)
  · obtain ⟨a, b, hh, hp⟩ := G.pos h.1 h.2.1
    obtain ⟨u, v, w, hq⟩ := G.pos h.2.2.1 h.2.2.2
    exact ⟨_, near_pos G hp hq, by rw [near_pos G hq hp, nextTo_comm], hcc⟩
  · exact ⟨false, near_out G h, near_out G (by omega), hcc⟩
end
end Go.Proofs.Ytmnncmpmhbfpcaa.P
