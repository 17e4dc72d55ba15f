/- Written by a program of this session (driver.py, over the kit's printer): Lean functions for functions of the given program, and their contracts; not trusted, Lean checks it. -/
import Derived.Test.YtmnncmpmhbfpcaaProg
import Derived.Below
import Derived.Deep.Draws
import Derived.Deep.AppendLies
import Derived.Maps.AppendAt
import Derived.OwnWalk
import Derived.Laws.BytesArg
import Derived.Laws.MakeOwn
import Derived.Laws.OwnMore
import Derived.Deep.OwnRows
import Derived.Tactics
import Derived.Lib.ConvBytes
import Derived.Laws.Slices
import Derived.WalkKit
import Derived.KernelRfl
import Derived.RowKit3
import Derived.Deep.LoopGhost
import Derived.Deep.QuietTactic
import Derived.BigQuiet
import Derived.WideLaws
import Derived.Deep.DeepCutAuto
import Derived.Deep.CutBlock
import Derived.Deep.RegionHeld3
import Derived.Laws.Rows
import Derived.Lib.AppendStr
import Derived.ArgAppend
import Derived.Laws.IdiomCopy
import Derived.OrdersHeld
import Derived.Laws.BitsLemmas
import Derived.RowKit
import Derived.Test.YtmnncmpmhbfpcaaD
import Derived.Test.YtmnncmpmhbfpcaaWWords
import Derived.Test.YtmnncmpmhbfpcaaWLast
import Derived.Test.YtmnncmpmhbfpcaaWTab
import Derived.Test.YtmnncmpmhbfpcaaWFour
import Derived.Test.YtmnncmpmhbfpcaaWQPut
import Derived.Test.YtmnncmpmhbfpcaaWApart
import Derived.Test.YtmnncmpmhbfpcaaWArr
import Derived.Test.YtmnncmpmhbfpcaaWZeros
import Derived.Test.YtmnncmpmhbfpcaaWFoot
import Derived.Test.YtmnncmpmhbfpcaaWKept
import Derived.Test.YtmnncmpmhbfpcaaWShare
import Derived.Test.YtmnncmpmhbfpcaaWN
import Derived.Test.YtmnncmpmhbfpcaaWFootNe
import Derived.Test.YtmnncmpmhbfpcaaWAt
import Derived.Test.YtmnncmpmhbfpcaaWEqStruct
import Derived.Test.YtmnncmpmhbfpcaaWRepsOne
import Derived.Test.YtmnncmpmhbfpcaaWInv
import Derived.Test.YtmnncmpmhbfpcaaWInvWords
import Derived.Test.YtmnncmpmhbfpcaaWGuard
import Derived.Test.YtmnncmpmhbfpcaaWNEv
import Derived.Test.YtmnncmpmhbfpcaaWMore
namespace Go.Proofs.Ytmnncmpmhbfpcaa.F
open Go.Proofs.Ytmnncmpmhbfpcaa.A
open Go.Proofs.Ytmnncmpmhbfpcaa.H
open Go.Proofs.Ytmnncmpmhbfpcaa.B
open Go.Proofs.Ytmnncmpmhbfpcaa.S
open Go.Proofs.Ytmnncmpmhbfpcaa.C
open Go.Proofs.Ytmnncmpmhbfpcaa.D
open Go.RowKit Go.Proofs.YtmnncmpmhbfpcaaW.PrintWords Go.Proofs.YtmnncmpmhbfpcaaW.PrintLast Go.Proofs.YtmnncmpmhbfpcaaW.PrintMore
attribute [local go_sem] max2_int min2_int max_two min_two max_three min_three max_four min_four   -- for this text's walks alone
set_option linter.unusedVariables false
set_option linter.unusedSimpArgs false



def errW : Option Int → Value
  | none => .nilIface
  | some c => .iface 0 (.int .i64 c)
theorem errW_none : errW none = .nilIface := rfl
theorem errW_some (c : Int) : errW (some c) = .iface 0 (.int .i64 c) := rfl

-- the values' own types

end Go.Proofs.Ytmnncmpmhbfpcaa.F
