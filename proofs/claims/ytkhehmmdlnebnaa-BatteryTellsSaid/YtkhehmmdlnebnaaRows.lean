/-
  No cell of these rows narrows 'for every input' (looked for: loops, veiled, ifaces, maps, wideKeys, modest, calm, conditions, laid).
  DERIVED. THE GIVEN ROWS OF THIS SEAT. 5 by the template 'for every input the law returns true; each argument reads behind the call as it read before'; 0 by the template 'total and deterministic' (their statements: YtkhehmmdlnebnaaTotals.lean).
  GIVEN WITH THE SEED: the statements are not yours to turn. If you find one false, say at which input.
  Laid BY PROGRAM, IN A SANDBOX (cutbox-rows.mjs): the forced cells as the released guide's own fill.sh prints them over the translation af3640fdba76a6b9… (all of the seat's roots in one cut). By AI agents, Wed Nov 11 2026. No macro, syntax, notation, axiom, sorry.
-/
import Derived.Test.YtkhehmmdlnebnaaChecked
import GoSem.Claim
import GoSem.ClaimJoined
import GoSem.ClaimMapViews
import Derived.JoinedTies
import Derived.KernelRfl
namespace Go.Proofs.Ytkhehmmdlnebnaa
/- THE CELL 'sum', in the pinned program and in every row, IS THE sha256 OF THE DUMP (.gsa) THAT YtkhehmmdlnebnaaProg.lean LOADS. Nothing in Lean hashes anything: it is a label: what it is worth is what the hold of that sum in a sandbox is worth. -/
noncomputable def Try.pinned : Pinned := { name := "ytkhehmmdlnebnaa", sum := "af3640fdba76a6b9d7412525fce95d373f633cc41c26a1b4740b7f5628db9501", checked := Try.checked }
namespace Rows
def none {H : Type} : Left H := { results := [], args := [] }

/-- 'taquinlaw13.BatteryAges': WHATEVER THE INPUT: true; the input reads as it did. -/
def batteryAgesSpec : ChangeSpec := { name := "batteryAges", fn := fun _ => fun
  | [d1, d2, d3, d4] => { results := [.lit (.bool true)], args := [d1, d2, d3, d4] }
  | _ => none }
def batteryAgesRow : OpenClaim := { program := "ytkhehmmdlnebnaa", sum := "af3640fdba76a6b9d7412525fce95d373f633cc41c26a1b4740b7f5628db9501", func := "taquin/taquinlaw13.BatteryAges", spec := "batteryAges", unfollowed := true, recurses := true, apart := false }
def BatteryAgesSaid : Prop := batteryAgesRow.holds Try.pinned (OpenSpec.ofChange batteryAgesSpec)

/-- ITS FALSE NEIGHBOUR: 'it returns false'. Refute it at one input. -/
def batteryAgesWrong : ChangeSpec := { name := "batteryAges", fn := fun _ => fun
  | [d1, d2, d3, d4] => { results := [.lit (.bool false)], args := [d1, d2, d3, d4] }
  | _ => none }
def BatteryAgesWrongFalsely : Prop := batteryAgesRow.holds Try.pinned (OpenSpec.ofChange batteryAgesWrong)

/-- 'taquinlaw13.BatteryLasts': WHATEVER THE INPUT: true; the input reads as it did. -/
def batteryLastsSpec : ChangeSpec := { name := "batteryLasts", fn := fun _ => fun
  | [d1, d2, d3, d4] => { results := [.lit (.bool true)], args := [d1, d2, d3, d4] }
  | _ => none }
def batteryLastsRow : OpenClaim := { program := "ytkhehmmdlnebnaa", sum := "af3640fdba76a6b9d7412525fce95d373f633cc41c26a1b4740b7f5628db9501", func := "taquin/taquinlaw13.BatteryLasts", spec := "batteryLasts", unfollowed := true, recurses := true, apart := false }
def BatteryLastsSaid : Prop := batteryLastsRow.holds Try.pinned (OpenSpec.ofChange batteryLastsSpec)

/-- ITS FALSE NEIGHBOUR: 'it returns false'. Refute it at one input. -/
def batteryLastsWrong : ChangeSpec := { name := "batteryLasts", fn := fun _ => fun
  | [d1, d2, d3, d4] => { results := [.lit (.bool false)], args := [d1, d2, d3, d4] }
  | _ => none }
def BatteryLastsWrongFalsely : Prop := batteryLastsRow.holds Try.pinned (OpenSpec.ofChange batteryLastsWrong)

/-- 'taquinlaw13.BatteryAdds': WHATEVER THE INPUT: true; the input reads as it did. -/
def batteryAddsSpec : ChangeSpec := { name := "batteryAdds", fn := fun _ => fun
  | [d1, d2, d3, d4, d5] => { results := [.lit (.bool true)], args := [d1, d2, d3, d4, d5] }
  | _ => none }
def batteryAddsRow : OpenClaim := { program := "ytkhehmmdlnebnaa", sum := "af3640fdba76a6b9d7412525fce95d373f633cc41c26a1b4740b7f5628db9501", func := "taquin/taquinlaw13.BatteryAdds", spec := "batteryAdds", unfollowed := true, recurses := true, apart := false }
def BatteryAddsSaid : Prop := batteryAddsRow.holds Try.pinned (OpenSpec.ofChange batteryAddsSpec)

/-- ITS FALSE NEIGHBOUR: 'it returns false'. Refute it at one input. -/
def batteryAddsWrong : ChangeSpec := { name := "batteryAdds", fn := fun _ => fun
  | [d1, d2, d3, d4, d5] => { results := [.lit (.bool false)], args := [d1, d2, d3, d4, d5] }
  | _ => none }
def BatteryAddsWrongFalsely : Prop := batteryAddsRow.holds Try.pinned (OpenSpec.ofChange batteryAddsWrong)

/-- 'taquinlaw13.BatteryStays': WHATEVER THE INPUT: true; the input reads as it did. -/
def batteryStaysSpec : ChangeSpec := { name := "batteryStays", fn := fun _ => fun
  | [d1, d2] => { results := [.lit (.bool true)], args := [d1, d2] }
  | _ => none }
def batteryStaysRow : OpenClaim := { program := "ytkhehmmdlnebnaa", sum := "af3640fdba76a6b9d7412525fce95d373f633cc41c26a1b4740b7f5628db9501", func := "taquin/taquinlaw13.BatteryStays", spec := "batteryStays", unfollowed := true, recurses := true, apart := false }
def BatteryStaysSaid : Prop := batteryStaysRow.holds Try.pinned (OpenSpec.ofChange batteryStaysSpec)

/-- ITS FALSE NEIGHBOUR: 'it returns false'. Refute it at one input. -/
def batteryStaysWrong : ChangeSpec := { name := "batteryStays", fn := fun _ => fun
  | [d1, d2] => { results := [.lit (.bool false)], args := [d1, d2] }
  | _ => none }
def BatteryStaysWrongFalsely : Prop := batteryStaysRow.holds Try.pinned (OpenSpec.ofChange batteryStaysWrong)

/-- 'taquinlaw13.BatteryTells': WHATEVER THE INPUT: true; the input reads as it did. -/
def batteryTellsSpec : ChangeSpec := { name := "batteryTells", fn := fun _ => fun
  | [d1, d2, d3, d4, d5, d6] => { results := [.lit (.bool true)], args := [d1, d2, d3, d4, d5, d6] }
  | _ => none }
def batteryTellsRow : OpenClaim := { program := "ytkhehmmdlnebnaa", sum := "af3640fdba76a6b9d7412525fce95d373f633cc41c26a1b4740b7f5628db9501", func := "taquin/taquinlaw13.BatteryTells", spec := "batteryTells", unfollowed := true, recurses := true, apart := false }
def BatteryTellsSaid : Prop := batteryTellsRow.holds Try.pinned (OpenSpec.ofChange batteryTellsSpec)

/-- ITS FALSE NEIGHBOUR: 'it returns false'. Refute it at one input. -/
def batteryTellsWrong : ChangeSpec := { name := "batteryTells", fn := fun _ => fun
  | [d1, d2, d3, d4, d5, d6] => { results := [.lit (.bool false)], args := [d1, d2, d3, d4, d5, d6] }
  | _ => none }
def BatteryTellsWrongFalsely : Prop := batteryTellsRow.holds Try.pinned (OpenSpec.ofChange batteryTellsWrong)

/- THE SECOND FORM. 'bulk': how many values and letters a reading holds, each counted each time it is reached (what is shared counts as often as it is met; a slice's spare places count too). A statement '..UptoSaid' is the law's where the arguments, and the package variables that the reading takes, are together of bulk at most 1048576: NARROWER than '..Said'. Prove '..Said' where nothing that the law and all that it calls make is longer than what came in: it says more and counts as full. Else prove '..UptoSaid'. A law counts once. -/
mutual
def uptoBulk {H : Type} : DataW H → Nat
  | .lit (.string bytes) => bytes.length + 1
  | .lit _ => 1
  | .nil => 1
  | .ptr d => uptoBulk d + 1
  | .slice elems spare => uptoBulkAll elems + uptoBulkAll spare + 1
  | .agg parts => uptoBulkAll parts + 1
  | .iface _ d => uptoBulk d + 1
  | .map entries => uptoBulkEntries entries + 1
  | .held _ => 1
def uptoBulkAll {H : Type} : List (DataW H) → Nat
  | [] => 0
  | d :: r => uptoBulk d + uptoBulkAll r
def uptoBulkEntries {H : Type} : List (Lit × DataW H) → Nat
  | [] => 0
  | x :: r => uptoBulkEntry x + uptoBulkEntries r
def uptoBulkEntry {H : Type} : Lit × DataW H → Nat
  | (.string bytes, d) => bytes.length + uptoBulk d + 1
  | (_, d) => uptoBulk d + 1
 end
def uptoSmall : (H : Type) → List (DataW H) → Bool := fun _ ds => decide (uptoBulkAll ds ≤ 1048576)
def OpenSpec.upto (s : _root_.Go.ChangeSpec) : _root_.Go.OpenSpec := { _root_.Go.OpenSpec.ofChange s with cond := some uptoSmall }

/-- 'taquinlaw13.BatteryAges', WHERE WHAT IT READS IS OF BULK AT MOST 1048576: true; the input reads as it did. -/
def batteryAgesUptoRow : OpenClaim := { program := "ytkhehmmdlnebnaa", sum := "af3640fdba76a6b9d7412525fce95d373f633cc41c26a1b4740b7f5628db9501", func := "taquin/taquinlaw13.BatteryAges", spec := "batteryAges", unfollowed := true, recurses := true, apart := false, narrowed := true }
def BatteryAgesUptoSaid : Prop := batteryAgesUptoRow.holds Try.pinned (OpenSpec.upto batteryAgesSpec)

/-- 'taquinlaw13.BatteryLasts', WHERE WHAT IT READS IS OF BULK AT MOST 1048576: true; the input reads as it did. -/
def batteryLastsUptoRow : OpenClaim := { program := "ytkhehmmdlnebnaa", sum := "af3640fdba76a6b9d7412525fce95d373f633cc41c26a1b4740b7f5628db9501", func := "taquin/taquinlaw13.BatteryLasts", spec := "batteryLasts", unfollowed := true, recurses := true, apart := false, narrowed := true }
def BatteryLastsUptoSaid : Prop := batteryLastsUptoRow.holds Try.pinned (OpenSpec.upto batteryLastsSpec)

/-- 'taquinlaw13.BatteryAdds', WHERE WHAT IT READS IS OF BULK AT MOST 1048576: true; the input reads as it did. -/
def batteryAddsUptoRow : OpenClaim := { program := "ytkhehmmdlnebnaa", sum := "af3640fdba76a6b9d7412525fce95d373f633cc41c26a1b4740b7f5628db9501", func := "taquin/taquinlaw13.BatteryAdds", spec := "batteryAdds", unfollowed := true, recurses := true, apart := false, narrowed := true }
def BatteryAddsUptoSaid : Prop := batteryAddsUptoRow.holds Try.pinned (OpenSpec.upto batteryAddsSpec)

/-- 'taquinlaw13.BatteryStays', WHERE WHAT IT READS IS OF BULK AT MOST 1048576: true; the input reads as it did. -/
def batteryStaysUptoRow : OpenClaim := { program := "ytkhehmmdlnebnaa", sum := "af3640fdba76a6b9d7412525fce95d373f633cc41c26a1b4740b7f5628db9501", func := "taquin/taquinlaw13.BatteryStays", spec := "batteryStays", unfollowed := true, recurses := true, apart := false, narrowed := true }
def BatteryStaysUptoSaid : Prop := batteryStaysUptoRow.holds Try.pinned (OpenSpec.upto batteryStaysSpec)

/-- 'taquinlaw13.BatteryTells', WHERE WHAT IT READS IS OF BULK AT MOST 1048576: true; the input reads as it did. -/
def batteryTellsUptoRow : OpenClaim := { program := "ytkhehmmdlnebnaa", sum := "af3640fdba76a6b9d7412525fce95d373f633cc41c26a1b4740b7f5628db9501", func := "taquin/taquinlaw13.BatteryTells", spec := "batteryTells", unfollowed := true, recurses := true, apart := false, narrowed := true }
def BatteryTellsUptoSaid : Prop := batteryTellsUptoRow.holds Try.pinned (OpenSpec.upto batteryTellsSpec)

end Rows
end Go.Proofs.Ytkhehmmdlnebnaa
