/- Contracts of floor.beside, floor.Opposite and floor.Near, which read arrays. Conditions: none. -/
import Derived.Test.YtmnncmpmhbfpcaaA1
import Derived.Lib.Hide
import Derived.Outline
import Derived.StillTailTactics
import Derived.WalkLawsBesides
namespace Go.Proofs.Ytmnncmpmhbfpcaa.H
set_option linter.unusedVariables false
set_option linter.unusedSimpArgs false
open Go.RowKit Go.Proofs.YtmnncmpmhbfpcaaW.PrintWords Go.Proofs.YtmnncmpmhbfpcaaW.PrintLast Go.Proofs.YtmnncmpmhbfpcaaW.PrintMore
open Go.Proofs.Ytmnncmpmhbfpcaa.A

theorem ret_int {k : IntKind} {a b : Int} (h : a = b) : Ending.returned (.int k a) = .returned (.int k b) := by rw [h]
theorem drawn_of_eq {w w' : World} (h : w = w') : Drawn0 w w' := h ▸ Drawn0.refl w

/-- The opposite of a direction. -/
def oppI (d : Int) : Int := if d = 0 then 2 else if d = 1 then 3 else if d = 2 then 0 else if d = 3 then 1 else if d = 4 then 5 else if d = 5 then 4 else -1

set_option maxHeartbeats 1000000 in
theorem opp_any (d : Int) (w : World) : Calls Try.prog 17 #[.int .i64 d] w fun e w' => e = .returned (.int .i64 (oppI d)) ∧ w = w' := by
  by_cases h0 : d < 0
  · have e : oppI d = -1 := by unfold oppI; repeat (rw [if_neg (by omega)])
    rw [e]
    go_enter Try.func17, Try.ntmps17
    go_wp2
    go_ret
    exact ⟨rfl, rfl⟩
  · by_cases h6 : 6 ≤ d
    · have e : oppI d = -1 := by unfold oppI; repeat (rw [if_neg (by omega)])
      rw [e]
      go_enter Try.func17, Try.ntmps17
      go_wp2
      go_ret
      exact ⟨rfl, rfl⟩
    · obtain ⟨n, rfl⟩ : ∃ n : Nat, d = n := ⟨d.toNat, by omega⟩
      have hn : n < 6 := by omega
      clear h0 h6
      have ix : ∀ j : Nat, j < 6 → ∀ w, (Instr.index 56 (.agg #[.int .i64 2, .int .i64 3, .int .i64 0, .int .i64 1, .int .i64 5, .int .i64 4]) (.int .i64 j)).run Try.prog w = .ok (.int .i64 (oppI j)) w := by
        intro j hj w
        rcases j with _ | _ | _ | _ | _ | _ | j
        all_goals first | omega | kernel_rfl
      have ixn := ix n hn
      clear ix
      have hn' : (n : Int) < 6 := by omega
      go_enter Try.func17, Try.ntmps17
      go_wp2
      go_ret
      exact ⟨rfl, rfl⟩

/-- The ways to the neighbours. -/
def dxI (d : Int) : Int := if d = 0 then 1 else if d = 2 then -1 else 0
def dyI (d : Int) : Int := if d = 1 then 1 else if d = 3 then -1 else 0
def dzI (d : Int) : Int := if d = 4 then 1 else if d = 5 then -1 else 0
def stepV (d : Int) : Value := .agg #[.int .i64 (dxI d), .int .i64 (dyI d), .int .i64 (dzI d)]
def stepsA : Array Value := #[.int .i64 1, .int .i64 0, .int .i64 0, .int .i64 0, .int .i64 1, .int .i64 0, .int .i64 (-1), .int .i64 0, .int .i64 0, .int .i64 0, .int .i64 (-1), .int .i64 0, .int .i64 0, .int .i64 0, .int .i64 1, .int .i64 0, .int .i64 0, .int .i64 (-1)]
set_option maxHeartbeats 4000000 in
theorem steps_any (w : World) : Calls Try.prog 86 #[] w fun e w' => e = .returned (.agg stepsA) ∧ Below w.heap.size w w' := by
  go_enter Try.func86, Try.ntmps86
  go_wp2
  exact bodyPost_ret (results_cell_row Try.results86 _ _ w.heap.size 79 stepsA (0, 0) _ rfl (heap_alloc_new w _) Try.underlying79 rfl (by kernel_rfl)) rfl ⟨rfl, (Below.refl _ _).alloc (Nat.le_refl _) _⟩
theorem step_at (n : Nat) (hn : n < 6) : ∀ w, (Instr.index 79 (.agg stepsA) (.int .i64 n)).run Try.prog w = .ok (stepV n) w := by
  intro w
  rcases n with _ | _ | _ | _ | _ | _ | j
  all_goals first | omega | kernel_rfl
end Go.Proofs.Ytmnncmpmhbfpcaa.H
