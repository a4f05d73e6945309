/-
  No cell of these rows narrows 'for every input' (looked for: loops, veiled, ifaces, maps, wideKeys, modest, calm, conditions, laid).
  DERIVED. THE GIVEN ROWS OF THIS SEAT. 4 by the template 'for every input the law returns true; each argument reads behind the call as it read before'; 0 by the template 'total and deterministic' (their statements: YtlhcefpdkoliaaaTotals.lean).
  GIVEN WITH THE SEED: the statements are not yours to turn. If you find one false, say at which input.
  Laid BY PROGRAM, IN A SANDBOX (cutbox-rows.mjs): the forced cells as the released guide's own fill.sh prints them over the translation 5a1861ea92ed07ff… (all of the seat's roots in one cut). By AI agents, Wed Nov 11 2026. No macro, syntax, notation, axiom, sorry.
-/
import Derived.Test.YtlhcefpdkoliaaaChecked
import GoSem.Claim
import GoSem.ClaimJoined
import GoSem.ClaimMapViews
import Derived.JoinedTies
import Derived.KernelRfl
namespace Go.Proofs.Ytlhcefpdkoliaaa
/- THE CELL 'sum', in the pinned program and in every row, IS THE sha256 OF THE DUMP (.gsa) THAT YtlhcefpdkoliaaaProg.lean LOADS. Nothing in Lean hashes anything: it is a label: what it is worth is what the hold of that sum in a sandbox is worth. -/
noncomputable def Try.pinned : Pinned := { name := "ytlhcefpdkoliaaa", sum := "5a1861ea92ed07ff2ad7aeb2f5a2b8686a101c2985c173820025d3cbbe47e027", checked := Try.checked }
namespace Rows
def none {H : Type} : Left H := { results := [], args := [] }

/-- 'hauberklaw08.AlarmApart': WHATEVER THE INPUT: true; the input reads as it did. -/
def alarmApartSpec : ChangeSpec := { name := "alarmApart", fn := fun _ => fun
  | [d1, d2] => { results := [.lit (.bool true)], args := [d1, d2] }
  | _ => none }
def alarmApartRow : OpenClaim := { program := "ytlhcefpdkoliaaa", sum := "5a1861ea92ed07ff2ad7aeb2f5a2b8686a101c2985c173820025d3cbbe47e027", func := "hauberk/hauberklaw08.AlarmApart", spec := "alarmApart", apart := false }
def AlarmApartSaid : Prop := alarmApartRow.holds Try.pinned (OpenSpec.ofChange alarmApartSpec)

/-- ITS FALSE NEIGHBOUR: 'it returns false'. Refute it at one input. -/
def alarmApartWrong : ChangeSpec := { name := "alarmApart", fn := fun _ => fun
  | [d1, d2] => { results := [.lit (.bool false)], args := [d1, d2] }
  | _ => none }
def AlarmApartWrongFalsely : Prop := alarmApartRow.holds Try.pinned (OpenSpec.ofChange alarmApartWrong)

/-- 'hauberklaw08.AlarmKnown': WHATEVER THE INPUT: true; the input reads as it did. -/
def alarmKnownSpec : ChangeSpec := { name := "alarmKnown", fn := fun _ => fun
  | [] => { results := [.lit (.bool true)], args := [] }
  | _ => none }
def alarmKnownRow : OpenClaim := { program := "ytlhcefpdkoliaaa", sum := "5a1861ea92ed07ff2ad7aeb2f5a2b8686a101c2985c173820025d3cbbe47e027", func := "hauberk/hauberklaw08.AlarmKnown", spec := "alarmKnown", apart := false }
def AlarmKnownSaid : Prop := alarmKnownRow.holds Try.pinned (OpenSpec.ofChange alarmKnownSpec)

/-- ITS FALSE NEIGHBOUR: 'it returns false'. Refute it at one input. -/
def alarmKnownWrong : ChangeSpec := { name := "alarmKnown", fn := fun _ => fun
  | [] => { results := [.lit (.bool false)], args := [] }
  | _ => none }
def AlarmKnownWrongFalsely : Prop := alarmKnownRow.holds Try.pinned (OpenSpec.ofChange alarmKnownWrong)

/-- 'hauberklaw08.AlarmDue': WHATEVER THE INPUT: true; the input reads as it did. -/
def alarmDueSpec : ChangeSpec := { name := "alarmDue", fn := fun _ => fun
  | [d] => { results := [.lit (.bool true)], args := [d] }
  | _ => none }
def alarmDueRow : OpenClaim := { program := "ytlhcefpdkoliaaa", sum := "5a1861ea92ed07ff2ad7aeb2f5a2b8686a101c2985c173820025d3cbbe47e027", func := "hauberk/hauberklaw08.AlarmDue", spec := "alarmDue", apart := false }
def AlarmDueSaid : Prop := alarmDueRow.holds Try.pinned (OpenSpec.ofChange alarmDueSpec)

/-- ITS FALSE NEIGHBOUR: 'it returns false'. Refute it at one input. -/
def alarmDueWrong : ChangeSpec := { name := "alarmDue", fn := fun _ => fun
  | [d] => { results := [.lit (.bool false)], args := [d] }
  | _ => none }
def AlarmDueWrongFalsely : Prop := alarmDueRow.holds Try.pinned (OpenSpec.ofChange alarmDueWrong)

/-- 'hauberklaw08.AlarmDeeds': WHATEVER THE INPUT: true; the input reads as it did. -/
def alarmDeedsSpec : ChangeSpec := { name := "alarmDeeds", fn := fun _ => fun
  | [d1, d2] => { results := [.lit (.bool true)], args := [d1, d2] }
  | _ => none }
def alarmDeedsRow : OpenClaim := { program := "ytlhcefpdkoliaaa", sum := "5a1861ea92ed07ff2ad7aeb2f5a2b8686a101c2985c173820025d3cbbe47e027", func := "hauberk/hauberklaw08.AlarmDeeds", spec := "alarmDeeds", apart := false }
def AlarmDeedsSaid : Prop := alarmDeedsRow.holds Try.pinned (OpenSpec.ofChange alarmDeedsSpec)

/-- ITS FALSE NEIGHBOUR: 'it returns false'. Refute it at one input. -/
def alarmDeedsWrong : ChangeSpec := { name := "alarmDeeds", fn := fun _ => fun
  | [d1, d2] => { results := [.lit (.bool false)], args := [d1, d2] }
  | _ => none }
def AlarmDeedsWrongFalsely : Prop := alarmDeedsRow.holds Try.pinned (OpenSpec.ofChange alarmDeedsWrong)

/- THE SECOND FORM. 'bulk': how many values and letters a reading holds, each counted each time it is reached (what is shared counts as often as it is met; a slice's spare places count too). A statement '..UptoSaid' is the law's where the arguments, and the package variables that the reading takes, are together of bulk at most 1048576: NARROWER than '..Said'. Prove '..Said' where nothing that the law and all that it calls make is longer than what came in: it says more and counts as full. Else prove '..UptoSaid'. A law counts once. -/
mutual
def uptoBulk {H : Type} : DataW H → Nat
  | .lit (.string bytes) => bytes.length + 1
  | .lit _ => 1
  | .nil => 1
  | .ptr d => uptoBulk d + 1
  | .slice elems spare => uptoBulkAll elems + uptoBulkAll spare + 1
  | .agg parts => uptoBulkAll parts + 1
  | .iface _ d => uptoBulk d + 1
  | .map entries => uptoBulkEntries entries + 1
  | .held _ => 1
def uptoBulkAll {H : Type} : List (DataW H) → Nat
  | [] => 0
  | d :: r => uptoBulk d + uptoBulkAll r
def uptoBulkEntries {H : Type} : List (Lit × DataW H) → Nat
  | [] => 0
  | x :: r => uptoBulkEntry x + uptoBulkEntries r
def uptoBulkEntry {H : Type} : Lit × DataW H → Nat
  | (.string bytes, d) => bytes.length + uptoBulk d + 1
  | (_, d) => uptoBulk d + 1
 end
def uptoSmall : (H : Type) → List (DataW H) → Bool := fun _ ds => decide (uptoBulkAll ds ≤ 1048576)
def OpenSpec.upto (s : _root_.Go.ChangeSpec) : _root_.Go.OpenSpec := { _root_.Go.OpenSpec.ofChange s with cond := some uptoSmall }

/-- 'hauberklaw08.AlarmApart', WHERE WHAT IT READS IS OF BULK AT MOST 1048576: true; the input reads as it did. -/
def alarmApartUptoRow : OpenClaim := { program := "ytlhcefpdkoliaaa", sum := "5a1861ea92ed07ff2ad7aeb2f5a2b8686a101c2985c173820025d3cbbe47e027", func := "hauberk/hauberklaw08.AlarmApart", spec := "alarmApart", apart := false, narrowed := true }
def AlarmApartUptoSaid : Prop := alarmApartUptoRow.holds Try.pinned (OpenSpec.upto alarmApartSpec)

/-- 'hauberklaw08.AlarmKnown', WHERE WHAT IT READS IS OF BULK AT MOST 1048576: true; the input reads as it did. -/
def alarmKnownUptoRow : OpenClaim := { program := "ytlhcefpdkoliaaa", sum := "5a1861ea92ed07ff2ad7aeb2f5a2b8686a101c2985c173820025d3cbbe47e027", func := "hauberk/hauberklaw08.AlarmKnown", spec := "alarmKnown", apart := false, narrowed := true }
def AlarmKnownUptoSaid : Prop := alarmKnownUptoRow.holds Try.pinned (OpenSpec.upto alarmKnownSpec)

/-- 'hauberklaw08.AlarmDue', WHERE WHAT IT READS IS OF BULK AT MOST 1048576: true; the input reads as it did. -/
def alarmDueUptoRow : OpenClaim := { program := "ytlhcefpdkoliaaa", sum := "5a1861ea92ed07ff2ad7aeb2f5a2b8686a101c2985c173820025d3cbbe47e027", func := "hauberk/hauberklaw08.AlarmDue", spec := "alarmDue", apart := false, narrowed := true }
def AlarmDueUptoSaid : Prop := alarmDueUptoRow.holds Try.pinned (OpenSpec.upto alarmDueSpec)

/-- 'hauberklaw08.AlarmDeeds', WHERE WHAT IT READS IS OF BULK AT MOST 1048576: true; the input reads as it did. -/
def alarmDeedsUptoRow : OpenClaim := { program := "ytlhcefpdkoliaaa", sum := "5a1861ea92ed07ff2ad7aeb2f5a2b8686a101c2985c173820025d3cbbe47e027", func := "hauberk/hauberklaw08.AlarmDeeds", spec := "alarmDeeds", apart := false, narrowed := true }
def AlarmDeedsUptoSaid : Prop := alarmDeedsUptoRow.holds Try.pinned (OpenSpec.upto alarmDeedsSpec)

end Rows
end Go.Proofs.Ytlhcefpdkoliaaa
