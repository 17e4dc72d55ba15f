/- The two calls of floor.spread, in the print's own form: by Next (for Dist), by Back (for Path). -/
import Derived.Test.YtmnncmpmhbfpcaaS3
import Derived.Test.YtmnncmpmhbfpcaaB
namespace Go.Proofs.Ytmnncmpmhbfpcaa.S
set_option linter.unusedVariables false
set_option linter.unusedSimpArgs false
open Go.RowKit Go.Proofs.YtmnncmpmhbfpcaaW.PrintWords Go.Proofs.YtmnncmpmhbfpcaaW.PrintLast Go.Proofs.YtmnncmpmhbfpcaaW.PrintMore
open Go.Proofs.Ytmnncmpmhbfpcaa.A Go.Proofs.Ytmnncmpmhbfpcaa.H Go.Proofs.Ytmnncmpmhbfpcaa.B

def floor_spreadNext.f (a0_0 : Int) (a0_1 : Int) (a0_2 : Int) (l0_3 : List Int) (l0_4 : List Int) (l1 : List Int) (l2 : List Int) : Option (List Int) :=
  if 1 ≤ l0_3.length ∧ l0_3.length ≤ 1000000 ∧ floor_size.f a0_0 a0_1 a0_2 l0_3 l0_4 = some (l0_3.length : Int) then spreadP (floor_Next.f 1 a0_0 a0_1 a0_2 l0_3 l0_4) (l0_3.length + 1) l0_3.length l0_3 l1 l2 else none
theorem floor_spreadNext.calls (a0_0 : Int) (a0_1 : Int) (a0_2 : Int) (A0_3 : Option Addr) (c0_3 : Nat) (l0_3 : List Int) (A0_4 : Option Addr) (c0_4 : Nat) (l0_4 : List Int) (A1 : Option Addr) (c1 : Nat) (l1 : List Int) (A2 : Option Addr) (c2 : Nat) (l2 : List Int) (r : List Int) (w : World)
    (hr0_3 : Kd.C (Kd.int .i64) w A0_3 l0_3.length l0_3) (hc0_3 : l0_3.length ≤ c0_3) (hr0_4 : Kd.C (Kd.int .i64) w A0_4 l0_4.length l0_4) (hc0_4 : l0_4.length ≤ c0_4) (hr1 : Kd.C (Kd.int .i64) w A1 l1.length l1) (hc1 : l1.length ≤ c1) (hr2 : Kd.C (Kd.int .i64) w A2 l2.length l2) (hc2 : l2.length ≤ c2)
    (h : floor_spreadNext.f a0_0 a0_1 a0_2 l0_3 l0_4 l1 l2 = some r) :
    Calls Try.prog 65 #[.agg #[.int .i64 a0_0, .int .i64 a0_1, .int .i64 a0_2, .slice A0_3 l0_3.length c0_3, .slice A0_4 l0_4.length c0_4], .slice A1 l1.length c1, .slice A2 l2.length c2, .func (.func 15) #[] #[]] w fun e w' => ∃ v0_ : Value, e = .returned v0_ ∧ Kd.R (Kd.int .i64) 3 w' w.heap.size (fun _ => True) v0_ r ∧ Below w.heap.size w w' := by
  unfold floor_spreadNext.f at h
  split at h
  · rename_i hif
    exact spread_start 15 a0_0 a0_1 a0_2 A0_3 c0_3 l0_3 A0_4 c0_4 l0_4 A1 c1 l1 A2 c2 l2 w hr0_3 hc0_3 hr0_4 hc0_4 hr1 hr2 l0_3.length hif.1 hif.2.1 hif.2.2 rfl (.inl rfl) (floor_Next.f 1 a0_0 a0_1 a0_2 l0_3 l0_4)
      (Lib.hid (fun c d p W hB _ _ _ hp => floor_Next.calls 1 a0_0 a0_1 a0_2 A0_3 c0_3 l0_3 A0_4 c0_4 l0_4 c d p.1 p.2 W (Kd.C_below hr0_3 hB) hc0_3 (Kd.C_below hr0_4 hB) hc0_4 hp)) r _ (Lib.hid h)
  · cases h

def floor_spreadBack.f (a0_0 : Int) (a0_1 : Int) (a0_2 : Int) (l0_3 : List Int) (l0_4 : List Int) (l1 : List Int) (l2 : List Int) : Option (List Int) :=
  if 1 ≤ l0_3.length ∧ l0_3.length ≤ 1000000 ∧ floor_size.f a0_0 a0_1 a0_2 l0_3 l0_4 = some (l0_3.length : Int) then spreadP (floor_Back.f 1 a0_0 a0_1 a0_2 l0_3 l0_4) (l0_3.length + 1) l0_3.length l0_3 l1 l2 else none
theorem floor_spreadBack.calls (a0_0 : Int) (a0_1 : Int) (a0_2 : Int) (A0_3 : Option Addr) (c0_3 : Nat) (l0_3 : List Int) (A0_4 : Option Addr) (c0_4 : Nat) (l0_4 : List Int) (A1 : Option Addr) (c1 : Nat) (l1 : List Int) (A2 : Option Addr) (c2 : Nat) (l2 : List Int) (r : List Int) (w : World)
    (hr0_3 : Kd.C (Kd.int .i64) w A0_3 l0_3.length l0_3) (hc0_3 : l0_3.length ≤ c0_3) (hr0_4 : Kd.C (Kd.int .i64) w A0_4 l0_4.length l0_4) (hc0_4 : l0_4.length ≤ c0_4) (hr1 : Kd.C (Kd.int .i64) w A1 l1.length l1) (hc1 : l1.length ≤ c1) (hr2 : Kd.C (Kd.int .i64) w A2 l2.length l2) (hc2 : l2.length ≤ c2)
    (h : floor_spreadBack.f a0_0 a0_1 a0_2 l0_3 l0_4 l1 l2 = some r) :
    Calls Try.prog 65 #[.agg #[.int .i64 a0_0, .int .i64 a0_1, .int .i64 a0_2, .slice A0_3 l0_3.length c0_3, .slice A0_4 l0_4.length c0_4], .slice A1 l1.length c1, .slice A2 l2.length c2, .func (.func 16) #[] #[]] w fun e w' => ∃ v0_ : Value, e = .returned v0_ ∧ Kd.R (Kd.int .i64) 3 w' w.heap.size (fun _ => True) v0_ r ∧ Below w.heap.size w w' := by
  unfold floor_spreadBack.f at h
  split at h
  · rename_i hif
    exact spread_start 16 a0_0 a0_1 a0_2 A0_3 c0_3 l0_3 A0_4 c0_4 l0_4 A1 c1 l1 A2 c2 l2 w hr0_3 hc0_3 hr0_4 hc0_4 hr1 hr2 l0_3.length hif.1 hif.2.1 hif.2.2 rfl (.inr rfl) (floor_Back.f 1 a0_0 a0_1 a0_2 l0_3 l0_4)
      (Lib.hid (fun c d p W hB _ _ _ hp => floor_Back.calls 1 a0_0 a0_1 a0_2 A0_3 c0_3 l0_3 A0_4 c0_4 l0_4 c d p.1 p.2 W (Kd.C_below hr0_3 hB) hc0_3 (Kd.C_below hr0_4 hB) hc0_4 hp)) r _ (Lib.hid h)
  · cases h
end Go.Proofs.Ytmnncmpmhbfpcaa.S
