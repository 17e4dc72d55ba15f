/- Contracts of the package battery in the form that printed callers use. Conditions: each function answers 'none' where an action is no number of Go's int. -/
import Derived.Test.YtkhehmmdlnebnaaH4
namespace Go.Proofs.Ytkhehmmdlnebnaa.H
set_option linter.unusedVariables false
set_option linter.unusedSimpArgs false
open Go.RowKit Go.Proofs.YtkhehmmdlnebnaaW.PrintWords Go.Proofs.YtkhehmmdlnebnaaW.PrintLast Go.Proofs.YtkhehmmdlnebnaaW.PrintMore

theorem drawn_of_eq {w w' : World} (h : w = w') : Drawn0 w w' := h ▸ Drawn0.refl w

def battery_Base.f (a0 : Int) (a1 : Bool) : Option Int := if isI a0 then some (baseI a0 a1) else none
theorem battery_Base.calls (a0 : Int) (a1 : Bool) (r : Int) (w : World) (h : battery_Base.f a0 a1 = some r) :
    Calls Try.prog 17 #[.int .i64 a0, .bool a1] w fun e w' => e = .returned (.int .i64 r) ∧ Drawn0 w w' := by
  unfold battery_Base.f at h
  split at h
  · rename_i hi
    cases h
    exact (base_any a0 a1 hi w).mono fun e w' ⟨he, hw⟩ => ⟨he, drawn_of_eq hw⟩
  · cases h

def battery_Cost.f (a0 a1 : Int) (a2 : Bool) : Option Int := if isI a1 then some (costI a0 a1 a2) else none
theorem battery_Cost.calls (a0 : Int) (a1 : Int) (a2 : Bool) (r : Int) (w : World) (h : battery_Cost.f a0 a1 a2 = some r) :
    Calls Try.prog 9 #[.int .i64 a0, .int .i64 a1, .bool a2] w fun e w' => e = .returned (.int .i64 r) ∧ Drawn0 w w' := by
  unfold battery_Cost.f at h
  split at h
  · rename_i hi
    cases h
    exact (cost_any a0 a1 a2 hi w).mono fun e w' ⟨he, hw⟩ => ⟨he, drawn_of_eq hw⟩
  · cases h

def battery_Laden.f (a0 : Int) (a1 : Bool) : Option Bool := some (ladenI a0 a1)
theorem battery_Laden.calls (a0 : Int) (a1 : Bool) (r : Bool) (w : World) (h : battery_Laden.f a0 a1 = some r) :
    Calls Try.prog 14 #[.int .i64 a0, .bool a1] w fun e w' => e = .returned (.bool r) ∧ Drawn0 w w' := by
  cases h
  exact (laden_any a0 a1 w).mono fun e w' ⟨he, hw⟩ => ⟨he, drawn_of_eq hw⟩

def battery_Spend.f (a0 a1 : Int) : Option (Int × Int) := some (spendI a0 a1)
theorem battery_Spend.calls (a0 : Int) (a1 : Int) (r1 : Int) (r2 : Int) (w : World) (h : battery_Spend.f a0 a1 = some (r1, r2)) :
    Calls Try.prog 22 #[.int .i64 a0, .int .i64 a1] w fun e w' => e = .returned (.tuple #[.int .i64 r1, .int .i64 r2]) ∧ Drawn0 w w' := by
  have h' : spendI a0 a1 = (r1, r2) := Option.some.inj h
  refine (spend_any a0 a1 w).mono fun e w' ⟨he, hw⟩ => ⟨?_, drawn_of_eq hw⟩
  rw [he, h']

def battery_After.f (a0 a1 a2 : Int) (a3 : Bool) : Option (Int × Int) := if isI a2 then some (afterI a0 a1 a2 a3) else none
theorem battery_After.calls (a0 : Int) (a1 : Int) (a2 : Int) (a3 : Bool) (r1 : Int) (r2 : Int) (w : World) (h : battery_After.f a0 a1 a2 a3 = some (r1, r2)) :
    Calls Try.prog 16 #[.int .i64 a0, .int .i64 a1, .int .i64 a2, .bool a3] w fun e w' => e = .returned (.tuple #[.int .i64 r1, .int .i64 r2]) ∧ Drawn0 w w' := by
  unfold battery_After.f at h
  split at h
  · rename_i hi
    have h' : afterI a0 a1 a2 a3 = (r1, r2) := Option.some.inj h
    refine (after_any a0 a1 a2 a3 hi w).mono fun e w' ⟨he, hw⟩ => ⟨?_, drawn_of_eq hw⟩
    rw [he, h']
  · cases h

def battery_Sum.f (a0 : Int) (l1 : List Int) (a2 : Bool) : Option Int := if ∀ a ∈ l1, isI a then some (sumL (stepsL a0 0 l1 a2)) else none
theorem battery_Sum.calls (a0 : Int) (A1 : Option Addr) (c1 : Nat) (l1 : List Int) (a2 : Bool) (r : Int) (w : World) (hr1 : Kd.C (Kd.int .i64) w A1 l1.length l1) (hc1 : l1.length ≤ c1) (h : battery_Sum.f a0 l1 a2 = some r) :
    Calls Try.prog 13 #[.int .i64 a0, .slice A1 l1.length c1, .bool a2] w fun e w' => e = .returned (.int .i64 r) ∧ Below w.heap.size w w' := by
  unfold battery_Sum.f at h
  split at h
  · rename_i hi
    cases h
    exact sum_any a0 A1 c1 l1 a2 hi w hr1
  · cases h

def battery_Run.f (a0 a1 : Int) (l2 : List Int) (a3 : Bool) : Option (Int × Int) := if ∀ a ∈ l2, isI a then some (runL (stepsL a0 0 l2 a3) a1 0) else none
theorem battery_Run.calls (a0 : Int) (a1 : Int) (A2 : Option Addr) (c2 : Nat) (l2 : List Int) (a3 : Bool) (r1 : Int) (r2 : Int) (w : World) (hr2 : Kd.C (Kd.int .i64) w A2 l2.length l2) (hc2 : l2.length ≤ c2) (h : battery_Run.f a0 a1 l2 a3 = some (r1, r2)) :
    Calls Try.prog 12 #[.int .i64 a0, .int .i64 a1, .slice A2 l2.length c2, .bool a3] w fun e w' => e = .returned (.tuple #[.int .i64 r1, .int .i64 r2]) ∧ Below w.heap.size w w' := by
  unfold battery_Run.f at h
  split at h
  · rename_i hi
    have h' : runL (stepsL a0 0 l2 a3) a1 0 = (r1, r2) := Option.some.inj h
    refine (run_any a0 a1 A2 c2 l2 a3 hi w hr2).mono fun e w' ⟨he, hw⟩ => ⟨?_, hw⟩
    rw [he, h']
  · cases h
end Go.Proofs.Ytkhehmmdlnebnaa.H
