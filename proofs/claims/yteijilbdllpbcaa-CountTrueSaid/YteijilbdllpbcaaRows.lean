/-
  No cell of these rows narrows 'for every input' (looked for: loops, veiled, ifaces, maps, wideKeys, modest, calm, conditions, laid).
  DERIVED. THE GIVEN ROWS OF THIS SEAT. 8 by the template 'for every input the law returns true; each argument reads behind the call as it read before'; 0 by the template 'total and deterministic' (their statements: YteijilbdllpbcaaTotals.lean).
  GIVEN WITH THE SEED: the statements are not yours to turn. If you find one false, say at which input.
  Laid BY PROGRAM, IN A SANDBOX (cutbox-rows.mjs): the forced cells as the released guide's own fill.sh prints them over the translation 4ddae3e5a3839d8c… (all of the seat's roots in one cut). By AI agents, Wed Nov 11 2026. No macro, syntax, notation, axiom, sorry.
-/
import Derived.Test.YteijilbdllpbcaaChecked
import GoSem.Claim
import GoSem.ClaimJoined
import GoSem.ClaimMapViews
import Derived.JoinedTies
import Derived.KernelRfl
namespace Go.Proofs.Yteijilbdllpbcaa
/- THE CELL 'sum', in the pinned program and in every row, IS THE sha256 OF THE DUMP (.gsa) THAT YteijilbdllpbcaaProg.lean LOADS. Nothing in Lean hashes anything: it is a label: what it is worth is what the hold of that sum in a sandbox is worth. -/
noncomputable def Try.pinned : Pinned := { name := "yteijilbdllpbcaa", sum := "4ddae3e5a3839d8c35ba91696fefca0b5c32bd52f9a2d413bbe9637576a600e9", checked := Try.checked }
namespace Rows
def none {H : Type} : Left H := { results := [], args := [] }

/-- 'lapworkslaw01.CountTells': WHATEVER THE INPUT: true; the input reads as it did. -/
def countTellsSpec : ChangeSpec := { name := "countTells", fn := fun _ => fun
  | [d1, d2, d3] => { results := [.lit (.bool true)], args := [d1, d2, d3] }
  | _ => none }
def countTellsRow : OpenClaim := { program := "yteijilbdllpbcaa", sum := "4ddae3e5a3839d8c35ba91696fefca0b5c32bd52f9a2d413bbe9637576a600e9", func := "lapworks/lapworkslaw01.CountTells", spec := "countTells", unfollowed := true, recurses := true, plainKeys := false, apart := false }
def CountTellsSaid : Prop := countTellsRow.holds Try.pinned (OpenSpec.ofChange countTellsSpec)

/-- ITS FALSE NEIGHBOUR: 'it returns false'. Refute it at one input. -/
def countTellsWrong : ChangeSpec := { name := "countTells", fn := fun _ => fun
  | [d1, d2, d3] => { results := [.lit (.bool false)], args := [d1, d2, d3] }
  | _ => none }
def CountTellsWrongFalsely : Prop := countTellsRow.holds Try.pinned (OpenSpec.ofChange countTellsWrong)

/-- 'lapworkslaw01.CountNames': WHATEVER THE INPUT: true; the input reads as it did. -/
def countNamesSpec : ChangeSpec := { name := "countNames", fn := fun _ => fun
  | [] => { results := [.lit (.bool true)], args := [] }
  | _ => none }
def countNamesRow : OpenClaim := { program := "yteijilbdllpbcaa", sum := "4ddae3e5a3839d8c35ba91696fefca0b5c32bd52f9a2d413bbe9637576a600e9", func := "lapworks/lapworkslaw01.CountNames", spec := "countNames", unfollowed := true, recurses := true, plainKeys := false, apart := false }
def CountNamesSaid : Prop := countNamesRow.holds Try.pinned (OpenSpec.ofChange countNamesSpec)

/-- ITS FALSE NEIGHBOUR: 'it returns false'. Refute it at one input. -/
def countNamesWrong : ChangeSpec := { name := "countNames", fn := fun _ => fun
  | [] => { results := [.lit (.bool false)], args := [] }
  | _ => none }
def CountNamesWrongFalsely : Prop := countNamesRow.holds Try.pinned (OpenSpec.ofChange countNamesWrong)

/-- 'lapworkslaw01.CountTrue': WHATEVER THE INPUT: true; the input reads as it did. -/
def countTrueSpec : ChangeSpec := { name := "countTrue", fn := fun _ => fun
  | [d] => { results := [.lit (.bool true)], args := [d] }
  | _ => none }
def countTrueRow : OpenClaim := { program := "yteijilbdllpbcaa", sum := "4ddae3e5a3839d8c35ba91696fefca0b5c32bd52f9a2d413bbe9637576a600e9", func := "lapworks/lapworkslaw01.CountTrue", spec := "countTrue", unfollowed := true, recurses := true, plainKeys := false, apart := false }
def CountTrueSaid : Prop := countTrueRow.holds Try.pinned (OpenSpec.ofChange countTrueSpec)

/-- ITS FALSE NEIGHBOUR: 'it returns false'. Refute it at one input. -/
def countTrueWrong : ChangeSpec := { name := "countTrue", fn := fun _ => fun
  | [d] => { results := [.lit (.bool false)], args := [d] }
  | _ => none }
def CountTrueWrongFalsely : Prop := countTrueRow.holds Try.pinned (OpenSpec.ofChange countTrueWrong)

/-- 'lapworkslaw01.CountFirst': WHATEVER THE INPUT: true; the input reads as it did. -/
def countFirstSpec : ChangeSpec := { name := "countFirst", fn := fun _ => fun
  | [d1, d2] => { results := [.lit (.bool true)], args := [d1, d2] }
  | _ => none }
def countFirstRow : OpenClaim := { program := "yteijilbdllpbcaa", sum := "4ddae3e5a3839d8c35ba91696fefca0b5c32bd52f9a2d413bbe9637576a600e9", func := "lapworks/lapworkslaw01.CountFirst", spec := "countFirst", unfollowed := true, recurses := true, plainKeys := false, apart := false }
def CountFirstSaid : Prop := countFirstRow.holds Try.pinned (OpenSpec.ofChange countFirstSpec)

/-- ITS FALSE NEIGHBOUR: 'it returns false'. Refute it at one input. -/
def countFirstWrong : ChangeSpec := { name := "countFirst", fn := fun _ => fun
  | [d1, d2] => { results := [.lit (.bool false)], args := [d1, d2] }
  | _ => none }
def CountFirstWrongFalsely : Prop := countFirstRow.holds Try.pinned (OpenSpec.ofChange countFirstWrong)

/-- 'lapworkslaw01.CountLaps': WHATEVER THE INPUT: true; the input reads as it did. -/
def countLapsSpec : ChangeSpec := { name := "countLaps", fn := fun _ => fun
  | [d] => { results := [.lit (.bool true)], args := [d] }
  | _ => none }
def countLapsRow : OpenClaim := { program := "yteijilbdllpbcaa", sum := "4ddae3e5a3839d8c35ba91696fefca0b5c32bd52f9a2d413bbe9637576a600e9", func := "lapworks/lapworkslaw01.CountLaps", spec := "countLaps", unfollowed := true, recurses := true, plainKeys := false, apart := false }
def CountLapsSaid : Prop := countLapsRow.holds Try.pinned (OpenSpec.ofChange countLapsSpec)

/-- ITS FALSE NEIGHBOUR: 'it returns false'. Refute it at one input. -/
def countLapsWrong : ChangeSpec := { name := "countLaps", fn := fun _ => fun
  | [d] => { results := [.lit (.bool false)], args := [d] }
  | _ => none }
def CountLapsWrongFalsely : Prop := countLapsRow.holds Try.pinned (OpenSpec.ofChange countLapsWrong)

/-- 'lapworkslaw01.CountSettle': WHATEVER THE INPUT: true; the input reads as it did. -/
def countSettleSpec : ChangeSpec := { name := "countSettle", fn := fun _ => fun
  | [d1, d2, d3, d4, d5] => { results := [.lit (.bool true)], args := [d1, d2, d3, d4, d5] }
  | _ => none }
def countSettleRow : OpenClaim := { program := "yteijilbdllpbcaa", sum := "4ddae3e5a3839d8c35ba91696fefca0b5c32bd52f9a2d413bbe9637576a600e9", func := "lapworks/lapworkslaw01.CountSettle", spec := "countSettle", unfollowed := true, recurses := true, plainKeys := false, apart := false }
def CountSettleSaid : Prop := countSettleRow.holds Try.pinned (OpenSpec.ofChange countSettleSpec)

/-- ITS FALSE NEIGHBOUR: 'it returns false'. Refute it at one input. -/
def countSettleWrong : ChangeSpec := { name := "countSettle", fn := fun _ => fun
  | [d1, d2, d3, d4, d5] => { results := [.lit (.bool false)], args := [d1, d2, d3, d4, d5] }
  | _ => none }
def CountSettleWrongFalsely : Prop := countSettleRow.holds Try.pinned (OpenSpec.ofChange countSettleWrong)

/-- 'lapworkslaw01.CountMore': WHATEVER THE INPUT: true; the input reads as it did. -/
def countMoreSpec : ChangeSpec := { name := "countMore", fn := fun _ => fun
  | [d1, d2] => { results := [.lit (.bool true)], args := [d1, d2] }
  | _ => none }
def countMoreRow : OpenClaim := { program := "yteijilbdllpbcaa", sum := "4ddae3e5a3839d8c35ba91696fefca0b5c32bd52f9a2d413bbe9637576a600e9", func := "lapworks/lapworkslaw01.CountMore", spec := "countMore", unfollowed := true, recurses := true, plainKeys := false, apart := false }
def CountMoreSaid : Prop := countMoreRow.holds Try.pinned (OpenSpec.ofChange countMoreSpec)

/-- ITS FALSE NEIGHBOUR: 'it returns false'. Refute it at one input. -/
def countMoreWrong : ChangeSpec := { name := "countMore", fn := fun _ => fun
  | [d1, d2] => { results := [.lit (.bool false)], args := [d1, d2] }
  | _ => none }
def CountMoreWrongFalsely : Prop := countMoreRow.holds Try.pinned (OpenSpec.ofChange countMoreWrong)

/-- 'lapworkslaw01.CountTurned': WHATEVER THE INPUT: true; the input reads as it did. -/
def countTurnedSpec : ChangeSpec := { name := "countTurned", fn := fun _ => fun
  | [d1, d2] => { results := [.lit (.bool true)], args := [d1, d2] }
  | _ => none }
def countTurnedRow : OpenClaim := { program := "yteijilbdllpbcaa", sum := "4ddae3e5a3839d8c35ba91696fefca0b5c32bd52f9a2d413bbe9637576a600e9", func := "lapworks/lapworkslaw01.CountTurned", spec := "countTurned", unfollowed := true, recurses := true, plainKeys := false, apart := false }
def CountTurnedSaid : Prop := countTurnedRow.holds Try.pinned (OpenSpec.ofChange countTurnedSpec)

/-- ITS FALSE NEIGHBOUR: 'it returns false'. Refute it at one input. -/
def countTurnedWrong : ChangeSpec := { name := "countTurned", fn := fun _ => fun
  | [d1, d2] => { results := [.lit (.bool false)], args := [d1, d2] }
  | _ => none }
def CountTurnedWrongFalsely : Prop := countTurnedRow.holds Try.pinned (OpenSpec.ofChange countTurnedWrong)

/- THE SECOND FORM. 'bulk': how many values and letters a reading holds, each counted each time it is reached (what is shared counts as often as it is met; a slice's spare places count too). A statement '..UptoSaid' is the law's where the arguments, and the package variables that the reading takes, are together of bulk at most 1048576: NARROWER than '..Said'. Prove '..Said' where nothing that the law and all that it calls make is longer than what came in: it says more and counts as full. Else prove '..UptoSaid'. A law counts once. -/
mutual
def uptoBulk {H : Type} : DataW H → Nat
  | .lit (.string bytes) => bytes.length + 1
  | .lit _ => 1
  | .nil => 1
  | .ptr d => uptoBulk d + 1
  | .slice elems spare => uptoBulkAll elems + uptoBulkAll spare + 1
  | .agg parts => uptoBulkAll parts + 1
  | .iface _ d => uptoBulk d + 1
  | .map entries => uptoBulkEntries entries + 1
  | .held _ => 1
def uptoBulkAll {H : Type} : List (DataW H) → Nat
  | [] => 0
  | d :: r => uptoBulk d + uptoBulkAll r
def uptoBulkEntries {H : Type} : List (Lit × DataW H) → Nat
  | [] => 0
  | x :: r => uptoBulkEntry x + uptoBulkEntries r
def uptoBulkEntry {H : Type} : Lit × DataW H → Nat
  | (.string bytes, d) => bytes.length + uptoBulk d + 1
  | (_, d) => uptoBulk d + 1
 end
def uptoSmall : (H : Type) → List (DataW H) → Bool := fun _ ds => decide (uptoBulkAll ds ≤ 1048576)
def OpenSpec.upto (s : _root_.Go.ChangeSpec) : _root_.Go.OpenSpec := { _root_.Go.OpenSpec.ofChange s with cond := some uptoSmall }

/-- 'lapworkslaw01.CountTells', WHERE WHAT IT READS IS OF BULK AT MOST 1048576: true; the input reads as it did. -/
def countTellsUptoRow : OpenClaim := { program := "yteijilbdllpbcaa", sum := "4ddae3e5a3839d8c35ba91696fefca0b5c32bd52f9a2d413bbe9637576a600e9", func := "lapworks/lapworkslaw01.CountTells", spec := "countTells", unfollowed := true, recurses := true, plainKeys := false, apart := false, narrowed := true }
def CountTellsUptoSaid : Prop := countTellsUptoRow.holds Try.pinned (OpenSpec.upto countTellsSpec)

/-- 'lapworkslaw01.CountNames', WHERE WHAT IT READS IS OF BULK AT MOST 1048576: true; the input reads as it did. -/
def countNamesUptoRow : OpenClaim := { program := "yteijilbdllpbcaa", sum := "4ddae3e5a3839d8c35ba91696fefca0b5c32bd52f9a2d413bbe9637576a600e9", func := "lapworks/lapworkslaw01.CountNames", spec := "countNames", unfollowed := true, recurses := true, plainKeys := false, apart := false, narrowed := true }
def CountNamesUptoSaid : Prop := countNamesUptoRow.holds Try.pinned (OpenSpec.upto countNamesSpec)

/-- 'lapworkslaw01.CountTrue', WHERE WHAT IT READS IS OF BULK AT MOST 1048576: true; the input reads as it did. -/
def countTrueUptoRow : OpenClaim := { program := "yteijilbdllpbcaa", sum := "4ddae3e5a3839d8c35ba91696fefca0b5c32bd52f9a2d413bbe9637576a600e9", func := "lapworks/lapworkslaw01.CountTrue", spec := "countTrue", unfollowed := true, recurses := true, plainKeys := false, apart := false, narrowed := true }
def CountTrueUptoSaid : Prop := countTrueUptoRow.holds Try.pinned (OpenSpec.upto countTrueSpec)

/-- 'lapworkslaw01.CountFirst', WHERE WHAT IT READS IS OF BULK AT MOST 1048576: true; the input reads as it did. -/
def countFirstUptoRow : OpenClaim := { program := "yteijilbdllpbcaa", sum := "4ddae3e5a3839d8c35ba91696fefca0b5c32bd52f9a2d413bbe9637576a600e9", func := "lapworks/lapworkslaw01.CountFirst", spec := "countFirst", unfollowed := true, recurses := true, plainKeys := false, apart := false, narrowed := true }
def CountFirstUptoSaid : Prop := countFirstUptoRow.holds Try.pinned (OpenSpec.upto countFirstSpec)

/-- 'lapworkslaw01.CountLaps', WHERE WHAT IT READS IS OF BULK AT MOST 1048576: true; the input reads as it did. -/
def countLapsUptoRow : OpenClaim := { program := "yteijilbdllpbcaa", sum := "4ddae3e5a3839d8c35ba91696fefca0b5c32bd52f9a2d413bbe9637576a600e9", func := "lapworks/lapworkslaw01.CountLaps", spec := "countLaps", unfollowed := true, recurses := true, plainKeys := false, apart := false, narrowed := true }
def CountLapsUptoSaid : Prop := countLapsUptoRow.holds Try.pinned (OpenSpec.upto countLapsSpec)

/-- 'lapworkslaw01.CountSettle', WHERE WHAT IT READS IS OF BULK AT MOST 1048576: true; the input reads as it did. -/
def countSettleUptoRow : OpenClaim := { program := "yteijilbdllpbcaa", sum := "4ddae3e5a3839d8c35ba91696fefca0b5c32bd52f9a2d413bbe9637576a600e9", func := "lapworks/lapworkslaw01.CountSettle", spec := "countSettle", unfollowed := true, recurses := true, plainKeys := false, apart := false, narrowed := true }
def CountSettleUptoSaid : Prop := countSettleUptoRow.holds Try.pinned (OpenSpec.upto countSettleSpec)

/-- 'lapworkslaw01.CountMore', WHERE WHAT IT READS IS OF BULK AT MOST 1048576: true; the input reads as it did. -/
def countMoreUptoRow : OpenClaim := { program := "yteijilbdllpbcaa", sum := "4ddae3e5a3839d8c35ba91696fefca0b5c32bd52f9a2d413bbe9637576a600e9", func := "lapworks/lapworkslaw01.CountMore", spec := "countMore", unfollowed := true, recurses := true, plainKeys := false, apart := false, narrowed := true }
def CountMoreUptoSaid : Prop := countMoreUptoRow.holds Try.pinned (OpenSpec.upto countMoreSpec)

/-- 'lapworkslaw01.CountTurned', WHERE WHAT IT READS IS OF BULK AT MOST 1048576: true; the input reads as it did. -/
def countTurnedUptoRow : OpenClaim := { program := "yteijilbdllpbcaa", sum := "4ddae3e5a3839d8c35ba91696fefca0b5c32bd52f9a2d413bbe9637576a600e9", func := "lapworks/lapworkslaw01.CountTurned", spec := "countTurned", unfollowed := true, recurses := true, plainKeys := false, apart := false, narrowed := true }
def CountTurnedUptoSaid : Prop := countTurnedUptoRow.holds Try.pinned (OpenSpec.upto countTurnedSpec)

end Rows
end Go.Proofs.Yteijilbdllpbcaa
