/-
  No cell of these rows narrows 'for every input' (looked for: loops, veiled, ifaces, maps, wideKeys, modest, calm, conditions, laid).
  DERIVED. THE GIVEN ROWS OF THIS SEAT. 7 by the template 'for every input the law returns true; each argument reads behind the call as it read before'; 0 by the template 'total and deterministic' (their statements: YtmmmiccpimplhaaTotals.lean).
  GIVEN WITH THE SEED: the statements are not yours to turn. If you find one false, say at which input.
  Laid BY PROGRAM, IN A SANDBOX (cutbox-rows.mjs): the forced cells as the released guide's own fill.sh prints them over the translation 76cbac3aab9eb958… (all of the seat's roots in one cut). By AI agents, Wed Nov 11 2026. No macro, syntax, notation, axiom, sorry.
-/
import Derived.Test.YtmmmiccpimplhaaChecked
import GoSem.Claim
import GoSem.ClaimJoined
import GoSem.ClaimMapViews
import Derived.JoinedTies
import Derived.KernelRfl
namespace Go.Proofs.Ytmmmiccpimplhaa
/- THE CELL 'sum', in the pinned program and in every row, IS THE sha256 OF THE DUMP (.gsa) THAT YtmmmiccpimplhaaProg.lean LOADS. Nothing in Lean hashes anything: it is a label: what it is worth is what the hold of that sum in a sandbox is worth. -/
noncomputable def Try.pinned : Pinned := { name := "ytmmmiccpimplhaa", sum := "76cbac3aab9eb9589f7ed6b3a9a8e062714276d3c59d56092105ef5c9009c58d", checked := Try.checked }
namespace Rows
def none {H : Type} : Left H := { results := [], args := [] }

/-- 'laws.FnExactStandsAfter': WHATEVER THE INPUT: true; the input reads as it did. -/
def fnExactStandsAfterSpec : ChangeSpec := { name := "fnExactStandsAfter", fn := fun _ => fun
  | [d1, d2, d3, d4] => { results := [.lit (.bool true)], args := [d1, d2, d3, d4] }
  | _ => none }
def fnExactStandsAfterRow : OpenClaim := { program := "ytmmmiccpimplhaa", sum := "76cbac3aab9eb9589f7ed6b3a9a8e062714276d3c59d56092105ef5c9009c58d", func := "loop.example/g00940/laws.FnExactStandsAfter", spec := "fnExactStandsAfter", apart := false }
def FnExactStandsAfterSaid : Prop := fnExactStandsAfterRow.holds Try.pinned (OpenSpec.ofChange fnExactStandsAfterSpec)

/-- ITS FALSE NEIGHBOUR: 'it returns false'. Refute it at one input. -/
def fnExactStandsAfterWrong : ChangeSpec := { name := "fnExactStandsAfter", fn := fun _ => fun
  | [d1, d2, d3, d4] => { results := [.lit (.bool false)], args := [d1, d2, d3, d4] }
  | _ => none }
def FnExactStandsAfterWrongFalsely : Prop := fnExactStandsAfterRow.holds Try.pinned (OpenSpec.ofChange fnExactStandsAfterWrong)

/-- 'laws.FnExactBestWindow': WHATEVER THE INPUT: true; the input reads as it did. -/
def fnExactBestWindowSpec : ChangeSpec := { name := "fnExactBestWindow", fn := fun _ => fun
  | [d1, d2] => { results := [.lit (.bool true)], args := [d1, d2] }
  | _ => none }
def fnExactBestWindowRow : OpenClaim := { program := "ytmmmiccpimplhaa", sum := "76cbac3aab9eb9589f7ed6b3a9a8e062714276d3c59d56092105ef5c9009c58d", func := "loop.example/g00940/laws.FnExactBestWindow", spec := "fnExactBestWindow", apart := false }
def FnExactBestWindowSaid : Prop := fnExactBestWindowRow.holds Try.pinned (OpenSpec.ofChange fnExactBestWindowSpec)

/-- ITS FALSE NEIGHBOUR: 'it returns false'. Refute it at one input. -/
def fnExactBestWindowWrong : ChangeSpec := { name := "fnExactBestWindow", fn := fun _ => fun
  | [d1, d2] => { results := [.lit (.bool false)], args := [d1, d2] }
  | _ => none }
def FnExactBestWindowWrongFalsely : Prop := fnExactBestWindowRow.holds Try.pinned (OpenSpec.ofChange fnExactBestWindowWrong)

/-- 'laws.FnExactStatusText': WHATEVER THE INPUT: true; the input reads as it did. -/
def fnExactStatusTextSpec : ChangeSpec := { name := "fnExactStatusText", fn := fun _ => fun
  | [d1, d2, d3, d4] => { results := [.lit (.bool true)], args := [d1, d2, d3, d4] }
  | _ => none }
def fnExactStatusTextRow : OpenClaim := { program := "ytmmmiccpimplhaa", sum := "76cbac3aab9eb9589f7ed6b3a9a8e062714276d3c59d56092105ef5c9009c58d", func := "loop.example/g00940/laws.FnExactStatusText", spec := "fnExactStatusText", apart := false }
def FnExactStatusTextSaid : Prop := fnExactStatusTextRow.holds Try.pinned (OpenSpec.ofChange fnExactStatusTextSpec)

/-- ITS FALSE NEIGHBOUR: 'it returns false'. Refute it at one input. -/
def fnExactStatusTextWrong : ChangeSpec := { name := "fnExactStatusText", fn := fun _ => fun
  | [d1, d2, d3, d4] => { results := [.lit (.bool false)], args := [d1, d2, d3, d4] }
  | _ => none }
def FnExactStatusTextWrongFalsely : Prop := fnExactStatusTextRow.holds Try.pinned (OpenSpec.ofChange fnExactStatusTextWrong)

/-- 'laws.FnExactArrivedAfter': WHATEVER THE INPUT: true; the input reads as it did. -/
def fnExactArrivedAfterSpec : ChangeSpec := { name := "fnExactArrivedAfter", fn := fun _ => fun
  | [d1, d2, d3, d4] => { results := [.lit (.bool true)], args := [d1, d2, d3, d4] }
  | _ => none }
def fnExactArrivedAfterRow : OpenClaim := { program := "ytmmmiccpimplhaa", sum := "76cbac3aab9eb9589f7ed6b3a9a8e062714276d3c59d56092105ef5c9009c58d", func := "loop.example/g00940/laws.FnExactArrivedAfter", spec := "fnExactArrivedAfter", apart := false }
def FnExactArrivedAfterSaid : Prop := fnExactArrivedAfterRow.holds Try.pinned (OpenSpec.ofChange fnExactArrivedAfterSpec)

/-- ITS FALSE NEIGHBOUR: 'it returns false'. Refute it at one input. -/
def fnExactArrivedAfterWrong : ChangeSpec := { name := "fnExactArrivedAfter", fn := fun _ => fun
  | [d1, d2, d3, d4] => { results := [.lit (.bool false)], args := [d1, d2, d3, d4] }
  | _ => none }
def FnExactArrivedAfterWrongFalsely : Prop := fnExactArrivedAfterRow.holds Try.pinned (OpenSpec.ofChange fnExactArrivedAfterWrong)

/-- 'laws.FnExactKnownAfter': WHATEVER THE INPUT: true; the input reads as it did. -/
def fnExactKnownAfterSpec : ChangeSpec := { name := "fnExactKnownAfter", fn := fun _ => fun
  | [d1, d2, d3, d4] => { results := [.lit (.bool true)], args := [d1, d2, d3, d4] }
  | _ => none }
def fnExactKnownAfterRow : OpenClaim := { program := "ytmmmiccpimplhaa", sum := "76cbac3aab9eb9589f7ed6b3a9a8e062714276d3c59d56092105ef5c9009c58d", func := "loop.example/g00940/laws.FnExactKnownAfter", spec := "fnExactKnownAfter", apart := false }
def FnExactKnownAfterSaid : Prop := fnExactKnownAfterRow.holds Try.pinned (OpenSpec.ofChange fnExactKnownAfterSpec)

/-- ITS FALSE NEIGHBOUR: 'it returns false'. Refute it at one input. -/
def fnExactKnownAfterWrong : ChangeSpec := { name := "fnExactKnownAfter", fn := fun _ => fun
  | [d1, d2, d3, d4] => { results := [.lit (.bool false)], args := [d1, d2, d3, d4] }
  | _ => none }
def FnExactKnownAfterWrongFalsely : Prop := fnExactKnownAfterRow.holds Try.pinned (OpenSpec.ofChange fnExactKnownAfterWrong)

/-- 'laws.FnWindows': WHATEVER THE INPUT: true; the input reads as it did. -/
def fnWindowsSpec : ChangeSpec := { name := "fnWindows", fn := fun _ => fun
  | [d1, d2] => { results := [.lit (.bool true)], args := [d1, d2] }
  | _ => none }
def fnWindowsRow : OpenClaim := { program := "ytmmmiccpimplhaa", sum := "76cbac3aab9eb9589f7ed6b3a9a8e062714276d3c59d56092105ef5c9009c58d", func := "loop.example/g00940/laws.FnWindows", spec := "fnWindows", apart := false }
def FnWindowsSaid : Prop := fnWindowsRow.holds Try.pinned (OpenSpec.ofChange fnWindowsSpec)

/-- ITS FALSE NEIGHBOUR: 'it returns false'. Refute it at one input. -/
def fnWindowsWrong : ChangeSpec := { name := "fnWindows", fn := fun _ => fun
  | [d1, d2] => { results := [.lit (.bool false)], args := [d1, d2] }
  | _ => none }
def FnWindowsWrongFalsely : Prop := fnWindowsRow.holds Try.pinned (OpenSpec.ofChange fnWindowsWrong)

/-- 'laws.FnAcknowledged': WHATEVER THE INPUT: true; the input reads as it did. -/
def fnAcknowledgedSpec : ChangeSpec := { name := "fnAcknowledged", fn := fun _ => fun
  | [d1, d2] => { results := [.lit (.bool true)], args := [d1, d2] }
  | _ => none }
def fnAcknowledgedRow : OpenClaim := { program := "ytmmmiccpimplhaa", sum := "76cbac3aab9eb9589f7ed6b3a9a8e062714276d3c59d56092105ef5c9009c58d", func := "loop.example/g00940/laws.FnAcknowledged", spec := "fnAcknowledged", apart := false }
def FnAcknowledgedSaid : Prop := fnAcknowledgedRow.holds Try.pinned (OpenSpec.ofChange fnAcknowledgedSpec)

/-- ITS FALSE NEIGHBOUR: 'it returns false'. Refute it at one input. -/
def fnAcknowledgedWrong : ChangeSpec := { name := "fnAcknowledged", fn := fun _ => fun
  | [d1, d2] => { results := [.lit (.bool false)], args := [d1, d2] }
  | _ => none }
def FnAcknowledgedWrongFalsely : Prop := fnAcknowledgedRow.holds Try.pinned (OpenSpec.ofChange fnAcknowledgedWrong)

/- THE SECOND FORM. 'bulk': how many values and letters a reading holds, each counted each time it is reached (what is shared counts as often as it is met; a slice's spare places count too). A statement '..UptoSaid' is the law's where the arguments, and the package variables that the reading takes, are together of bulk at most 1048576: NARROWER than '..Said'. Prove '..Said' where nothing that the law and all that it calls make is longer than what came in: it says more and counts as full. Else prove '..UptoSaid'. A law counts once. -/
mutual
def uptoBulk {H : Type} : DataW H → Nat
  | .lit (.string bytes) => bytes.length + 1
  | .lit _ => 1
  | .nil => 1
  | .ptr d => uptoBulk d + 1
  | .slice elems spare => uptoBulkAll elems + uptoBulkAll spare + 1
  | .agg parts => uptoBulkAll parts + 1
  | .iface _ d => uptoBulk d + 1
  | .map entries => uptoBulkEntries entries + 1
  | .held _ => 1
def uptoBulkAll {H : Type} : List (DataW H) → Nat
  | [] => 0
  | d :: r => uptoBulk d + uptoBulkAll r
def uptoBulkEntries {H : Type} : List (Lit × DataW H) → Nat
  | [] => 0
  | x :: r => uptoBulkEntry x + uptoBulkEntries r
def uptoBulkEntry {H : Type} : Lit × DataW H → Nat
  | (.string bytes, d) => bytes.length + uptoBulk d + 1
  | (_, d) => uptoBulk d + 1
 end
def uptoSmall : (H : Type) → List (DataW H) → Bool := fun _ ds => decide (uptoBulkAll ds ≤ 1048576)
def OpenSpec.upto (s : _root_.Go.ChangeSpec) : _root_.Go.OpenSpec := { _root_.Go.OpenSpec.ofChange s with cond := some uptoSmall }

/-- 'laws.FnExactStandsAfter', WHERE WHAT IT READS IS OF BULK AT MOST 1048576: true; the input reads as it did. -/
def fnExactStandsAfterUptoRow : OpenClaim := { program := "ytmmmiccpimplhaa", sum := "76cbac3aab9eb9589f7ed6b3a9a8e062714276d3c59d56092105ef5c9009c58d", func := "loop.example/g00940/laws.FnExactStandsAfter", spec := "fnExactStandsAfter", apart := false, narrowed := true }
def FnExactStandsAfterUptoSaid : Prop := fnExactStandsAfterUptoRow.holds Try.pinned (OpenSpec.upto fnExactStandsAfterSpec)

/-- 'laws.FnExactBestWindow', WHERE WHAT IT READS IS OF BULK AT MOST 1048576: true; the input reads as it did. -/
def fnExactBestWindowUptoRow : OpenClaim := { program := "ytmmmiccpimplhaa", sum := "76cbac3aab9eb9589f7ed6b3a9a8e062714276d3c59d56092105ef5c9009c58d", func := "loop.example/g00940/laws.FnExactBestWindow", spec := "fnExactBestWindow", apart := false, narrowed := true }
def FnExactBestWindowUptoSaid : Prop := fnExactBestWindowUptoRow.holds Try.pinned (OpenSpec.upto fnExactBestWindowSpec)

/-- 'laws.FnExactStatusText', WHERE WHAT IT READS IS OF BULK AT MOST 1048576: true; the input reads as it did. -/
def fnExactStatusTextUptoRow : OpenClaim := { program := "ytmmmiccpimplhaa", sum := "76cbac3aab9eb9589f7ed6b3a9a8e062714276d3c59d56092105ef5c9009c58d", func := "loop.example/g00940/laws.FnExactStatusText", spec := "fnExactStatusText", apart := false, narrowed := true }
def FnExactStatusTextUptoSaid : Prop := fnExactStatusTextUptoRow.holds Try.pinned (OpenSpec.upto fnExactStatusTextSpec)

/-- 'laws.FnExactArrivedAfter', WHERE WHAT IT READS IS OF BULK AT MOST 1048576: true; the input reads as it did. -/
def fnExactArrivedAfterUptoRow : OpenClaim := { program := "ytmmmiccpimplhaa", sum := "76cbac3aab9eb9589f7ed6b3a9a8e062714276d3c59d56092105ef5c9009c58d", func := "loop.example/g00940/laws.FnExactArrivedAfter", spec := "fnExactArrivedAfter", apart := false, narrowed := true }
def FnExactArrivedAfterUptoSaid : Prop := fnExactArrivedAfterUptoRow.holds Try.pinned (OpenSpec.upto fnExactArrivedAfterSpec)

/-- 'laws.FnExactKnownAfter', WHERE WHAT IT READS IS OF BULK AT MOST 1048576: true; the input reads as it did. -/
def fnExactKnownAfterUptoRow : OpenClaim := { program := "ytmmmiccpimplhaa", sum := "76cbac3aab9eb9589f7ed6b3a9a8e062714276d3c59d56092105ef5c9009c58d", func := "loop.example/g00940/laws.FnExactKnownAfter", spec := "fnExactKnownAfter", apart := false, narrowed := true }
def FnExactKnownAfterUptoSaid : Prop := fnExactKnownAfterUptoRow.holds Try.pinned (OpenSpec.upto fnExactKnownAfterSpec)

/-- 'laws.FnWindows', WHERE WHAT IT READS IS OF BULK AT MOST 1048576: true; the input reads as it did. -/
def fnWindowsUptoRow : OpenClaim := { program := "ytmmmiccpimplhaa", sum := "76cbac3aab9eb9589f7ed6b3a9a8e062714276d3c59d56092105ef5c9009c58d", func := "loop.example/g00940/laws.FnWindows", spec := "fnWindows", apart := false, narrowed := true }
def FnWindowsUptoSaid : Prop := fnWindowsUptoRow.holds Try.pinned (OpenSpec.upto fnWindowsSpec)

/-- 'laws.FnAcknowledged', WHERE WHAT IT READS IS OF BULK AT MOST 1048576: true; the input reads as it did. -/
def fnAcknowledgedUptoRow : OpenClaim := { program := "ytmmmiccpimplhaa", sum := "76cbac3aab9eb9589f7ed6b3a9a8e062714276d3c59d56092105ef5c9009c58d", func := "loop.example/g00940/laws.FnAcknowledged", spec := "fnAcknowledged", apart := false, narrowed := true }
def FnAcknowledgedUptoSaid : Prop := fnAcknowledgedUptoRow.holds Try.pinned (OpenSpec.upto fnAcknowledgedSpec)

end Rows
end Go.Proofs.Ytmmmiccpimplhaa
