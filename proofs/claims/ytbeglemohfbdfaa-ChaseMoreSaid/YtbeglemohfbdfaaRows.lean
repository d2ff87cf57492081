/-
  No cell of these rows narrows 'for every input' (looked for: loops, veiled, ifaces, maps, wideKeys, modest, calm, conditions, laid).
  DERIVED. THE GIVEN ROWS OF THIS SEAT. 7 by the template 'for every input the law returns true; each argument reads behind the call as it read before'; 0 by the template 'total and deterministic' (their statements: YtbeglemohfbdfaaTotals.lean).
  GIVEN WITH THE SEED: the statements are not yours to turn. If you find one false, say at which input.
  Laid BY PROGRAM, IN A SANDBOX (cutbox-rows.mjs): the forced cells as the released guide's own fill.sh prints them over the translation fe1b01d59e2a8e15… (all of the seat's roots in one cut). By AI agents, Wed Nov 11 2026. No macro, syntax, notation, axiom, sorry.
-/
import Derived.Test.YtbeglemohfbdfaaChecked
import GoSem.Claim
import GoSem.ClaimJoined
import GoSem.ClaimMapViews
import Derived.JoinedTies
import Derived.KernelRfl
namespace Go.Proofs.Ytbeglemohfbdfaa
/- THE CELL 'sum', in the pinned program and in every row, IS THE sha256 OF THE DUMP (.gsa) THAT YtbeglemohfbdfaaProg.lean LOADS. Nothing in Lean hashes anything: it is a label: what it is worth is what the hold of that sum in a sandbox is worth. -/
noncomputable def Try.pinned : Pinned := { name := "ytbeglemohfbdfaa", sum := "fe1b01d59e2a8e150fe6cc01a7870c716fcb0c6ec1e1d72b7a4dbd73c63aa233", checked := Try.checked }
namespace Rows
def none {H : Type} : Left H := { results := [], args := [] }

/-- 'lapworkslaw07.ChaseNames': WHATEVER THE INPUT: true; the input reads as it did. -/
def chaseNamesSpec : ChangeSpec := { name := "chaseNames", fn := fun _ => fun
  | [] => { results := [.lit (.bool true)], args := [] }
  | _ => none }
def chaseNamesRow : OpenClaim := { program := "ytbeglemohfbdfaa", sum := "fe1b01d59e2a8e150fe6cc01a7870c716fcb0c6ec1e1d72b7a4dbd73c63aa233", func := "lapworks/lapworkslaw07.ChaseNames", spec := "chaseNames", unfollowed := true, recurses := true, plainKeys := false, apart := false }
def ChaseNamesSaid : Prop := chaseNamesRow.holds Try.pinned (OpenSpec.ofChange chaseNamesSpec)

/-- ITS FALSE NEIGHBOUR: 'it returns false'. Refute it at one input. -/
def chaseNamesWrong : ChangeSpec := { name := "chaseNames", fn := fun _ => fun
  | [] => { results := [.lit (.bool false)], args := [] }
  | _ => none }
def ChaseNamesWrongFalsely : Prop := chaseNamesRow.holds Try.pinned (OpenSpec.ofChange chaseNamesWrong)

/-- 'lapworkslaw07.ChaseTrue': WHATEVER THE INPUT: true; the input reads as it did. -/
def chaseTrueSpec : ChangeSpec := { name := "chaseTrue", fn := fun _ => fun
  | [d] => { results := [.lit (.bool true)], args := [d] }
  | _ => none }
def chaseTrueRow : OpenClaim := { program := "ytbeglemohfbdfaa", sum := "fe1b01d59e2a8e150fe6cc01a7870c716fcb0c6ec1e1d72b7a4dbd73c63aa233", func := "lapworks/lapworkslaw07.ChaseTrue", spec := "chaseTrue", unfollowed := true, recurses := true, plainKeys := false, apart := false }
def ChaseTrueSaid : Prop := chaseTrueRow.holds Try.pinned (OpenSpec.ofChange chaseTrueSpec)

/-- ITS FALSE NEIGHBOUR: 'it returns false'. Refute it at one input. -/
def chaseTrueWrong : ChangeSpec := { name := "chaseTrue", fn := fun _ => fun
  | [d] => { results := [.lit (.bool false)], args := [d] }
  | _ => none }
def ChaseTrueWrongFalsely : Prop := chaseTrueRow.holds Try.pinned (OpenSpec.ofChange chaseTrueWrong)

/-- 'lapworkslaw07.ChaseEnds': WHATEVER THE INPUT: true; the input reads as it did. -/
def chaseEndsSpec : ChangeSpec := { name := "chaseEnds", fn := fun _ => fun
  | [d1, d2] => { results := [.lit (.bool true)], args := [d1, d2] }
  | _ => none }
def chaseEndsRow : OpenClaim := { program := "ytbeglemohfbdfaa", sum := "fe1b01d59e2a8e150fe6cc01a7870c716fcb0c6ec1e1d72b7a4dbd73c63aa233", func := "lapworks/lapworkslaw07.ChaseEnds", spec := "chaseEnds", unfollowed := true, recurses := true, plainKeys := false, apart := false }
def ChaseEndsSaid : Prop := chaseEndsRow.holds Try.pinned (OpenSpec.ofChange chaseEndsSpec)

/-- ITS FALSE NEIGHBOUR: 'it returns false'. Refute it at one input. -/
def chaseEndsWrong : ChangeSpec := { name := "chaseEnds", fn := fun _ => fun
  | [d1, d2] => { results := [.lit (.bool false)], args := [d1, d2] }
  | _ => none }
def ChaseEndsWrongFalsely : Prop := chaseEndsRow.holds Try.pinned (OpenSpec.ofChange chaseEndsWrong)

/-- 'lapworkslaw07.ChaseWrong': WHATEVER THE INPUT: true; the input reads as it did. -/
def chaseWrongSpec : ChangeSpec := { name := "chaseWrong", fn := fun _ => fun
  | [d1, d2, d3] => { results := [.lit (.bool true)], args := [d1, d2, d3] }
  | _ => none }
def chaseWrongRow : OpenClaim := { program := "ytbeglemohfbdfaa", sum := "fe1b01d59e2a8e150fe6cc01a7870c716fcb0c6ec1e1d72b7a4dbd73c63aa233", func := "lapworks/lapworkslaw07.ChaseWrong", spec := "chaseWrong", unfollowed := true, recurses := true, plainKeys := false, apart := false }
def ChaseWrongSaid : Prop := chaseWrongRow.holds Try.pinned (OpenSpec.ofChange chaseWrongSpec)

/-- ITS FALSE NEIGHBOUR: 'it returns false'. Refute it at one input. -/
def chaseWrongWrong : ChangeSpec := { name := "chaseWrong", fn := fun _ => fun
  | [d1, d2, d3] => { results := [.lit (.bool false)], args := [d1, d2, d3] }
  | _ => none }
def ChaseWrongWrongFalsely : Prop := chaseWrongRow.holds Try.pinned (OpenSpec.ofChange chaseWrongWrong)

/-- 'lapworkslaw07.ChaseFinal': WHATEVER THE INPUT: true; the input reads as it did. -/
def chaseFinalSpec : ChangeSpec := { name := "chaseFinal", fn := fun _ => fun
  | [d] => { results := [.lit (.bool true)], args := [d] }
  | _ => none }
def chaseFinalRow : OpenClaim := { program := "ytbeglemohfbdfaa", sum := "fe1b01d59e2a8e150fe6cc01a7870c716fcb0c6ec1e1d72b7a4dbd73c63aa233", func := "lapworks/lapworkslaw07.ChaseFinal", spec := "chaseFinal", unfollowed := true, recurses := true, plainKeys := false, apart := false }
def ChaseFinalSaid : Prop := chaseFinalRow.holds Try.pinned (OpenSpec.ofChange chaseFinalSpec)

/-- ITS FALSE NEIGHBOUR: 'it returns false'. Refute it at one input. -/
def chaseFinalWrong : ChangeSpec := { name := "chaseFinal", fn := fun _ => fun
  | [d] => { results := [.lit (.bool false)], args := [d] }
  | _ => none }
def ChaseFinalWrongFalsely : Prop := chaseFinalRow.holds Try.pinned (OpenSpec.ofChange chaseFinalWrong)

/-- 'lapworkslaw07.ChaseAsk': WHATEVER THE INPUT: true; the input reads as it did. -/
def chaseAskSpec : ChangeSpec := { name := "chaseAsk", fn := fun _ => fun
  | [d1, d2] => { results := [.lit (.bool true)], args := [d1, d2] }
  | _ => none }
def chaseAskRow : OpenClaim := { program := "ytbeglemohfbdfaa", sum := "fe1b01d59e2a8e150fe6cc01a7870c716fcb0c6ec1e1d72b7a4dbd73c63aa233", func := "lapworks/lapworkslaw07.ChaseAsk", spec := "chaseAsk", unfollowed := true, recurses := true, plainKeys := false, apart := false }
def ChaseAskSaid : Prop := chaseAskRow.holds Try.pinned (OpenSpec.ofChange chaseAskSpec)

/-- ITS FALSE NEIGHBOUR: 'it returns false'. Refute it at one input. -/
def chaseAskWrong : ChangeSpec := { name := "chaseAsk", fn := fun _ => fun
  | [d1, d2] => { results := [.lit (.bool false)], args := [d1, d2] }
  | _ => none }
def ChaseAskWrongFalsely : Prop := chaseAskRow.holds Try.pinned (OpenSpec.ofChange chaseAskWrong)

/-- 'lapworkslaw07.ChaseMore': WHATEVER THE INPUT: true; the input reads as it did. -/
def chaseMoreSpec : ChangeSpec := { name := "chaseMore", fn := fun _ => fun
  | [d1, d2, d3, d4] => { results := [.lit (.bool true)], args := [d1, d2, d3, d4] }
  | _ => none }
def chaseMoreRow : OpenClaim := { program := "ytbeglemohfbdfaa", sum := "fe1b01d59e2a8e150fe6cc01a7870c716fcb0c6ec1e1d72b7a4dbd73c63aa233", func := "lapworks/lapworkslaw07.ChaseMore", spec := "chaseMore", unfollowed := true, recurses := true, plainKeys := false, apart := false }
def ChaseMoreSaid : Prop := chaseMoreRow.holds Try.pinned (OpenSpec.ofChange chaseMoreSpec)

/-- ITS FALSE NEIGHBOUR: 'it returns false'. Refute it at one input. -/
def chaseMoreWrong : ChangeSpec := { name := "chaseMore", fn := fun _ => fun
  | [d1, d2, d3, d4] => { results := [.lit (.bool false)], args := [d1, d2, d3, d4] }
  | _ => none }
def ChaseMoreWrongFalsely : Prop := chaseMoreRow.holds Try.pinned (OpenSpec.ofChange chaseMoreWrong)

/- THE SECOND FORM. 'bulk': how many values and letters a reading holds, each counted each time it is reached (what is shared counts as often as it is met; a slice's spare places count too). A statement '..UptoSaid' is the law's where the arguments, and the package variables that the reading takes, are together of bulk at most 1048576: NARROWER than '..Said'. Prove '..Said' where nothing that the law and all that it calls make is longer than what came in: it says more and counts as full. Else prove '..UptoSaid'. A law counts once. -/
mutual
def uptoBulk {H : Type} : DataW H → Nat
  | .lit (.string bytes) => bytes.length + 1
  | .lit _ => 1
  | .nil => 1
  | .ptr d => uptoBulk d + 1
  | .slice elems spare => uptoBulkAll elems + uptoBulkAll spare + 1
  | .agg parts => uptoBulkAll parts + 1
  | .iface _ d => uptoBulk d + 1
  | .map entries => uptoBulkEntries entries + 1
  | .held _ => 1
def uptoBulkAll {H : Type} : List (DataW H) → Nat
  | [] => 0
  | d :: r => uptoBulk d + uptoBulkAll r
def uptoBulkEntries {H : Type} : List (Lit × DataW H) → Nat
  | [] => 0
  | x :: r => uptoBulkEntry x + uptoBulkEntries r
def uptoBulkEntry {H : Type} : Lit × DataW H → Nat
  | (.string bytes, d) => bytes.length + uptoBulk d + 1
  | (_, d) => uptoBulk d + 1
 end
def uptoSmall : (H : Type) → List (DataW H) → Bool := fun _ ds => decide (uptoBulkAll ds ≤ 1048576)
def OpenSpec.upto (s : _root_.Go.ChangeSpec) : _root_.Go.OpenSpec := { _root_.Go.OpenSpec.ofChange s with cond := some uptoSmall }

/-- 'lapworkslaw07.ChaseNames', WHERE WHAT IT READS IS OF BULK AT MOST 1048576: true; the input reads as it did. -/
def chaseNamesUptoRow : OpenClaim := { program := "ytbeglemohfbdfaa", sum := "fe1b01d59e2a8e150fe6cc01a7870c716fcb0c6ec1e1d72b7a4dbd73c63aa233", func := "lapworks/lapworkslaw07.ChaseNames", spec := "chaseNames", unfollowed := true, recurses := true, plainKeys := false, apart := false, narrowed := true }
def ChaseNamesUptoSaid : Prop := chaseNamesUptoRow.holds Try.pinned (OpenSpec.upto chaseNamesSpec)

/-- 'lapworkslaw07.ChaseTrue', WHERE WHAT IT READS IS OF BULK AT MOST 1048576: true; the input reads as it did. -/
def chaseTrueUptoRow : OpenClaim := { program := "ytbeglemohfbdfaa", sum := "fe1b01d59e2a8e150fe6cc01a7870c716fcb0c6ec1e1d72b7a4dbd73c63aa233", func := "lapworks/lapworkslaw07.ChaseTrue", spec := "chaseTrue", unfollowed := true, recurses := true, plainKeys := false, apart := false, narrowed := true }
def ChaseTrueUptoSaid : Prop := chaseTrueUptoRow.holds Try.pinned (OpenSpec.upto chaseTrueSpec)

/-- 'lapworkslaw07.ChaseEnds', WHERE WHAT IT READS IS OF BULK AT MOST 1048576: true; the input reads as it did. -/
def chaseEndsUptoRow : OpenClaim := { program := "ytbeglemohfbdfaa", sum := "fe1b01d59e2a8e150fe6cc01a7870c716fcb0c6ec1e1d72b7a4dbd73c63aa233", func := "lapworks/lapworkslaw07.ChaseEnds", spec := "chaseEnds", unfollowed := true, recurses := true, plainKeys := false, apart := false, narrowed := true }
def ChaseEndsUptoSaid : Prop := chaseEndsUptoRow.holds Try.pinned (OpenSpec.upto chaseEndsSpec)

/-- 'lapworkslaw07.ChaseWrong', WHERE WHAT IT READS IS OF BULK AT MOST 1048576: true; the input reads as it did. -/
def chaseWrongUptoRow : OpenClaim := { program := "ytbeglemohfbdfaa", sum := "fe1b01d59e2a8e150fe6cc01a7870c716fcb0c6ec1e1d72b7a4dbd73c63aa233", func := "lapworks/lapworkslaw07.ChaseWrong", spec := "chaseWrong", unfollowed := true, recurses := true, plainKeys := false, apart := false, narrowed := true }
def ChaseWrongUptoSaid : Prop := chaseWrongUptoRow.holds Try.pinned (OpenSpec.upto chaseWrongSpec)

/-- 'lapworkslaw07.ChaseFinal', WHERE WHAT IT READS IS OF BULK AT MOST 1048576: true; the input reads as it did. -/
def chaseFinalUptoRow : OpenClaim := { program := "ytbeglemohfbdfaa", sum := "fe1b01d59e2a8e150fe6cc01a7870c716fcb0c6ec1e1d72b7a4dbd73c63aa233", func := "lapworks/lapworkslaw07.ChaseFinal", spec := "chaseFinal", unfollowed := true, recurses := true, plainKeys := false, apart := false, narrowed := true }
def ChaseFinalUptoSaid : Prop := chaseFinalUptoRow.holds Try.pinned (OpenSpec.upto chaseFinalSpec)

/-- 'lapworkslaw07.ChaseAsk', WHERE WHAT IT READS IS OF BULK AT MOST 1048576: true; the input reads as it did. -/
def chaseAskUptoRow : OpenClaim := { program := "ytbeglemohfbdfaa", sum := "fe1b01d59e2a8e150fe6cc01a7870c716fcb0c6ec1e1d72b7a4dbd73c63aa233", func := "lapworks/lapworkslaw07.ChaseAsk", spec := "chaseAsk", unfollowed := true, recurses := true, plainKeys := false, apart := false, narrowed := true }
def ChaseAskUptoSaid : Prop := chaseAskUptoRow.holds Try.pinned (OpenSpec.upto chaseAskSpec)

/-- 'lapworkslaw07.ChaseMore', WHERE WHAT IT READS IS OF BULK AT MOST 1048576: true; the input reads as it did. -/
def chaseMoreUptoRow : OpenClaim := { program := "ytbeglemohfbdfaa", sum := "fe1b01d59e2a8e150fe6cc01a7870c716fcb0c6ec1e1d72b7a4dbd73c63aa233", func := "lapworks/lapworkslaw07.ChaseMore", spec := "chaseMore", unfollowed := true, recurses := true, plainKeys := false, apart := false, narrowed := true }
def ChaseMoreUptoSaid : Prop := chaseMoreUptoRow.holds Try.pinned (OpenSpec.upto chaseMoreSpec)

end Rows
end Go.Proofs.Ytbeglemohfbdfaa
