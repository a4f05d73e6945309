/-
  No cell of these rows narrows 'for every input' (looked for: loops, veiled, ifaces, maps, wideKeys, modest, calm, conditions, laid).
  DERIVED. THE GIVEN ROWS OF THIS SEAT. 4 by the template 'for every input the law returns true; each argument reads behind the call as it read before'; 0 by the template 'total and deterministic' (their statements: YtogcjflppjebfaaTotals.lean).
  GIVEN WITH THE SEED: the statements are not yours to turn. If you find one false, say at which input.
  Laid BY PROGRAM, IN A SANDBOX (cutbox-rows.mjs): the forced cells as the released guide's own fill.sh prints them over the translation 5417f8c38674f8e3… (all of the seat's roots in one cut). By AI agents, Wed Nov 11 2026. No macro, syntax, notation, axiom, sorry.
-/
import Derived.Test.YtogcjflppjebfaaChecked
import GoSem.Claim
import GoSem.ClaimJoined
import GoSem.ClaimMapViews
import Derived.JoinedTies
import Derived.KernelRfl
namespace Go.Proofs.Ytogcjflppjebfaa
/- THE CELL 'sum', in the pinned program and in every row, IS THE sha256 OF THE DUMP (.gsa) THAT YtogcjflppjebfaaProg.lean LOADS. Nothing in Lean hashes anything: it is a label: what it is worth is what the hold of that sum in a sandbox is worth. -/
noncomputable def Try.pinned : Pinned := { name := "ytogcjflppjebfaa", sum := "5417f8c38674f8e306089da01acc77ebe0632de3f988da1ca50ed600bf8d5eab", checked := Try.checked }
namespace Rows
def none {H : Type} : Left H := { results := [], args := [] }

/-- 'hauberklaw24.RollsDeeds': WHATEVER THE INPUT: true; the input reads as it did. -/
def rollsDeedsSpec : ChangeSpec := { name := "rollsDeeds", fn := fun _ => fun
  | [d1, d2] => { results := [.lit (.bool true)], args := [d1, d2] }
  | _ => none }
def rollsDeedsRow : OpenClaim := { program := "ytogcjflppjebfaa", sum := "5417f8c38674f8e306089da01acc77ebe0632de3f988da1ca50ed600bf8d5eab", func := "hauberk/hauberklaw24.RollsDeeds", spec := "rollsDeeds", apart := false }
def RollsDeedsSaid : Prop := rollsDeedsRow.holds Try.pinned (OpenSpec.ofChange rollsDeedsSpec)

/-- ITS FALSE NEIGHBOUR: 'it returns false'. Refute it at one input. -/
def rollsDeedsWrong : ChangeSpec := { name := "rollsDeeds", fn := fun _ => fun
  | [d1, d2] => { results := [.lit (.bool false)], args := [d1, d2] }
  | _ => none }
def RollsDeedsWrongFalsely : Prop := rollsDeedsRow.holds Try.pinned (OpenSpec.ofChange rollsDeedsWrong)

/-- 'hauberklaw24.RollsCounts': WHATEVER THE INPUT: true; the input reads as it did. -/
def rollsCountsSpec : ChangeSpec := { name := "rollsCounts", fn := fun _ => fun
  | [d] => { results := [.lit (.bool true)], args := [d] }
  | _ => none }
def rollsCountsRow : OpenClaim := { program := "ytogcjflppjebfaa", sum := "5417f8c38674f8e306089da01acc77ebe0632de3f988da1ca50ed600bf8d5eab", func := "hauberk/hauberklaw24.RollsCounts", spec := "rollsCounts", apart := false }
def RollsCountsSaid : Prop := rollsCountsRow.holds Try.pinned (OpenSpec.ofChange rollsCountsSpec)

/-- ITS FALSE NEIGHBOUR: 'it returns false'. Refute it at one input. -/
def rollsCountsWrong : ChangeSpec := { name := "rollsCounts", fn := fun _ => fun
  | [d] => { results := [.lit (.bool false)], args := [d] }
  | _ => none }
def RollsCountsWrongFalsely : Prop := rollsCountsRow.holds Try.pinned (OpenSpec.ofChange rollsCountsWrong)

/-- 'hauberklaw24.RollsWants': WHATEVER THE INPUT: true; the input reads as it did. -/
def rollsWantsSpec : ChangeSpec := { name := "rollsWants", fn := fun _ => fun
  | [d1, d2, d3] => { results := [.lit (.bool true)], args := [d1, d2, d3] }
  | _ => none }
def rollsWantsRow : OpenClaim := { program := "ytogcjflppjebfaa", sum := "5417f8c38674f8e306089da01acc77ebe0632de3f988da1ca50ed600bf8d5eab", func := "hauberk/hauberklaw24.RollsWants", spec := "rollsWants", apart := false }
def RollsWantsSaid : Prop := rollsWantsRow.holds Try.pinned (OpenSpec.ofChange rollsWantsSpec)

/-- ITS FALSE NEIGHBOUR: 'it returns false'. Refute it at one input. -/
def rollsWantsWrong : ChangeSpec := { name := "rollsWants", fn := fun _ => fun
  | [d1, d2, d3] => { results := [.lit (.bool false)], args := [d1, d2, d3] }
  | _ => none }
def RollsWantsWrongFalsely : Prop := rollsWantsRow.holds Try.pinned (OpenSpec.ofChange rollsWantsWrong)

/-- 'hauberklaw24.RollsKnown': WHATEVER THE INPUT: true; the input reads as it did. -/
def rollsKnownSpec : ChangeSpec := { name := "rollsKnown", fn := fun _ => fun
  | [] => { results := [.lit (.bool true)], args := [] }
  | _ => none }
def rollsKnownRow : OpenClaim := { program := "ytogcjflppjebfaa", sum := "5417f8c38674f8e306089da01acc77ebe0632de3f988da1ca50ed600bf8d5eab", func := "hauberk/hauberklaw24.RollsKnown", spec := "rollsKnown", apart := false }
def RollsKnownSaid : Prop := rollsKnownRow.holds Try.pinned (OpenSpec.ofChange rollsKnownSpec)

/-- ITS FALSE NEIGHBOUR: 'it returns false'. Refute it at one input. -/
def rollsKnownWrong : ChangeSpec := { name := "rollsKnown", fn := fun _ => fun
  | [] => { results := [.lit (.bool false)], args := [] }
  | _ => none }
def RollsKnownWrongFalsely : Prop := rollsKnownRow.holds Try.pinned (OpenSpec.ofChange rollsKnownWrong)

/- THE SECOND FORM. 'bulk': how many values and letters a reading holds, each counted each time it is reached (what is shared counts as often as it is met; a slice's spare places count too). A statement '..UptoSaid' is the law's where the arguments, and the package variables that the reading takes, are together of bulk at most 1048576: NARROWER than '..Said'. Prove '..Said' where nothing that the law and all that it calls make is longer than what came in: it says more and counts as full. Else prove '..UptoSaid'. A law counts once. -/
mutual
def uptoBulk {H : Type} : DataW H → Nat
  | .lit (.string bytes) => bytes.length + 1
  | .lit _ => 1
  | .nil => 1
  | .ptr d => uptoBulk d + 1
  | .slice elems spare => uptoBulkAll elems + uptoBulkAll spare + 1
  | .agg parts => uptoBulkAll parts + 1
  | .iface _ d => uptoBulk d + 1
  | .map entries => uptoBulkEntries entries + 1
  | .held _ => 1
def uptoBulkAll {H : Type} : List (DataW H) → Nat
  | [] => 0
  | d :: r => uptoBulk d + uptoBulkAll r
def uptoBulkEntries {H : Type} : List (Lit × DataW H) → Nat
  | [] => 0
  | x :: r => uptoBulkEntry x + uptoBulkEntries r
def uptoBulkEntry {H : Type} : Lit × DataW H → Nat
  | (.string bytes, d) => bytes.length + uptoBulk d + 1
  | (_, d) => uptoBulk d + 1
 end
def uptoSmall : (H : Type) → List (DataW H) → Bool := fun _ ds => decide (uptoBulkAll ds ≤ 1048576)
def OpenSpec.upto (s : _root_.Go.ChangeSpec) : _root_.Go.OpenSpec := { _root_.Go.OpenSpec.ofChange s with cond := some uptoSmall }

/-- 'hauberklaw24.RollsDeeds', WHERE WHAT IT READS IS OF BULK AT MOST 1048576: true; the input reads as it did. -/
def rollsDeedsUptoRow : OpenClaim := { program := "ytogcjflppjebfaa", sum := "5417f8c38674f8e306089da01acc77ebe0632de3f988da1ca50ed600bf8d5eab", func := "hauberk/hauberklaw24.RollsDeeds", spec := "rollsDeeds", apart := false, narrowed := true }
def RollsDeedsUptoSaid : Prop := rollsDeedsUptoRow.holds Try.pinned (OpenSpec.upto rollsDeedsSpec)

/-- 'hauberklaw24.RollsCounts', WHERE WHAT IT READS IS OF BULK AT MOST 1048576: true; the input reads as it did. -/
def rollsCountsUptoRow : OpenClaim := { program := "ytogcjflppjebfaa", sum := "5417f8c38674f8e306089da01acc77ebe0632de3f988da1ca50ed600bf8d5eab", func := "hauberk/hauberklaw24.RollsCounts", spec := "rollsCounts", apart := false, narrowed := true }
def RollsCountsUptoSaid : Prop := rollsCountsUptoRow.holds Try.pinned (OpenSpec.upto rollsCountsSpec)

/-- 'hauberklaw24.RollsWants', WHERE WHAT IT READS IS OF BULK AT MOST 1048576: true; the input reads as it did. -/
def rollsWantsUptoRow : OpenClaim := { program := "ytogcjflppjebfaa", sum := "5417f8c38674f8e306089da01acc77ebe0632de3f988da1ca50ed600bf8d5eab", func := "hauberk/hauberklaw24.RollsWants", spec := "rollsWants", apart := false, narrowed := true }
def RollsWantsUptoSaid : Prop := rollsWantsUptoRow.holds Try.pinned (OpenSpec.upto rollsWantsSpec)

/-- 'hauberklaw24.RollsKnown', WHERE WHAT IT READS IS OF BULK AT MOST 1048576: true; the input reads as it did. -/
def rollsKnownUptoRow : OpenClaim := { program := "ytogcjflppjebfaa", sum := "5417f8c38674f8e306089da01acc77ebe0632de3f988da1ca50ed600bf8d5eab", func := "hauberk/hauberklaw24.RollsKnown", spec := "rollsKnown", apart := false, narrowed := true }
def RollsKnownUptoSaid : Prop := rollsKnownUptoRow.holds Try.pinned (OpenSpec.upto rollsKnownSpec)

end Rows
end Go.Proofs.Ytogcjflppjebfaa
