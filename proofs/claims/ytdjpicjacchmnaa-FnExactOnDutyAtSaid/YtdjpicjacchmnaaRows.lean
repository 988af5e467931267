/-
  No cell of these rows narrows 'for every input' (looked for: loops, veiled, ifaces, maps, wideKeys, modest, calm, conditions, laid).
  DERIVED. THE GIVEN ROWS OF THIS SEAT. 10 by the template 'for every input the law returns true; each argument reads behind the call as it read before'; 0 by the template 'total and deterministic' (their statements: YtdjpicjacchmnaaTotals.lean).
  GIVEN WITH THE SEED: the statements are not yours to turn. If you find one false, say at which input.
  Laid BY PROGRAM, IN A SANDBOX (cutbox-rows.mjs): the forced cells as the released guide's own fill.sh prints them over the translation ad94b508fa2f4abb… (all of the seat's roots in one cut). By AI agents, Wed Nov 11 2026. No macro, syntax, notation, axiom, sorry.
-/
import Derived.Test.YtdjpicjacchmnaaChecked
import GoSem.Claim
import GoSem.ClaimJoined
import GoSem.ClaimMapViews
import Derived.JoinedTies
import Derived.KernelRfl
namespace Go.Proofs.Ytdjpicjacchmnaa
/- THE CELL 'sum', in the pinned program and in every row, IS THE sha256 OF THE DUMP (.gsa) THAT YtdjpicjacchmnaaProg.lean LOADS. Nothing in Lean hashes anything: it is a label: what it is worth is what the hold of that sum in a sandbox is worth. -/
noncomputable def Try.pinned : Pinned := { name := "ytdjpicjacchmnaa", sum := "ad94b508fa2f4abb9c511cf8425b3d0581e3a3fdaaf203ffea556e6a95439fb1", checked := Try.checked }
namespace Rows
def none {H : Type} : Left H := { results := [], args := [] }

/-- 'laws.FnExactAreShifts': WHATEVER THE INPUT: true; the input reads as it did. -/
def fnExactAreShiftsSpec : ChangeSpec := { name := "fnExactAreShifts", fn := fun _ => fun
  | [d] => { results := [.lit (.bool true)], args := [d] }
  | _ => none }
def fnExactAreShiftsRow : OpenClaim := { program := "ytdjpicjacchmnaa", sum := "ad94b508fa2f4abb9c511cf8425b3d0581e3a3fdaaf203ffea556e6a95439fb1", func := "loop.example/g00940/laws.FnExactAreShifts", spec := "fnExactAreShifts", unfollowed := true, recurses := true, apart := false }
def FnExactAreShiftsSaid : Prop := fnExactAreShiftsRow.holds Try.pinned (OpenSpec.ofChange fnExactAreShiftsSpec)

/-- ITS FALSE NEIGHBOUR: 'it returns false'. Refute it at one input. -/
def fnExactAreShiftsWrong : ChangeSpec := { name := "fnExactAreShifts", fn := fun _ => fun
  | [d] => { results := [.lit (.bool false)], args := [d] }
  | _ => none }
def FnExactAreShiftsWrongFalsely : Prop := fnExactAreShiftsRow.holds Try.pinned (OpenSpec.ofChange fnExactAreShiftsWrong)

/-- 'laws.FnExactDutyHours': WHATEVER THE INPUT: true; the input reads as it did. -/
def fnExactDutyHoursSpec : ChangeSpec := { name := "fnExactDutyHours", fn := fun _ => fun
  | [d1, d2] => { results := [.lit (.bool true)], args := [d1, d2] }
  | _ => none }
def fnExactDutyHoursRow : OpenClaim := { program := "ytdjpicjacchmnaa", sum := "ad94b508fa2f4abb9c511cf8425b3d0581e3a3fdaaf203ffea556e6a95439fb1", func := "loop.example/g00940/laws.FnExactDutyHours", spec := "fnExactDutyHours", unfollowed := true, recurses := true, apart := false }
def FnExactDutyHoursSaid : Prop := fnExactDutyHoursRow.holds Try.pinned (OpenSpec.ofChange fnExactDutyHoursSpec)

/-- ITS FALSE NEIGHBOUR: 'it returns false'. Refute it at one input. -/
def fnExactDutyHoursWrong : ChangeSpec := { name := "fnExactDutyHours", fn := fun _ => fun
  | [d1, d2] => { results := [.lit (.bool false)], args := [d1, d2] }
  | _ => none }
def FnExactDutyHoursWrongFalsely : Prop := fnExactDutyHoursRow.holds Try.pinned (OpenSpec.ofChange fnExactDutyHoursWrong)

/-- 'laws.FnExactLongestDuty': WHATEVER THE INPUT: true; the input reads as it did. -/
def fnExactLongestDutySpec : ChangeSpec := { name := "fnExactLongestDuty", fn := fun _ => fun
  | [d1, d2] => { results := [.lit (.bool true)], args := [d1, d2] }
  | _ => none }
def fnExactLongestDutyRow : OpenClaim := { program := "ytdjpicjacchmnaa", sum := "ad94b508fa2f4abb9c511cf8425b3d0581e3a3fdaaf203ffea556e6a95439fb1", func := "loop.example/g00940/laws.FnExactLongestDuty", spec := "fnExactLongestDuty", unfollowed := true, recurses := true, apart := false }
def FnExactLongestDutySaid : Prop := fnExactLongestDutyRow.holds Try.pinned (OpenSpec.ofChange fnExactLongestDutySpec)

/-- ITS FALSE NEIGHBOUR: 'it returns false'. Refute it at one input. -/
def fnExactLongestDutyWrong : ChangeSpec := { name := "fnExactLongestDuty", fn := fun _ => fun
  | [d1, d2] => { results := [.lit (.bool false)], args := [d1, d2] }
  | _ => none }
def FnExactLongestDutyWrongFalsely : Prop := fnExactLongestDutyRow.holds Try.pinned (OpenSpec.ofChange fnExactLongestDutyWrong)

/-- 'laws.FnExactAssignOperators': WHATEVER THE INPUT: true; the input reads as it did. -/
def fnExactAssignOperatorsSpec : ChangeSpec := { name := "fnExactAssignOperators", fn := fun _ => fun
  | [d1, d2] => { results := [.lit (.bool true)], args := [d1, d2] }
  | _ => none }
def fnExactAssignOperatorsRow : OpenClaim := { program := "ytdjpicjacchmnaa", sum := "ad94b508fa2f4abb9c511cf8425b3d0581e3a3fdaaf203ffea556e6a95439fb1", func := "loop.example/g00940/laws.FnExactAssignOperators", spec := "fnExactAssignOperators", unfollowed := true, recurses := true, apart := false }
def FnExactAssignOperatorsSaid : Prop := fnExactAssignOperatorsRow.holds Try.pinned (OpenSpec.ofChange fnExactAssignOperatorsSpec)

/-- ITS FALSE NEIGHBOUR: 'it returns false'. Refute it at one input. -/
def fnExactAssignOperatorsWrong : ChangeSpec := { name := "fnExactAssignOperators", fn := fun _ => fun
  | [d1, d2] => { results := [.lit (.bool false)], args := [d1, d2] }
  | _ => none }
def FnExactAssignOperatorsWrongFalsely : Prop := fnExactAssignOperatorsRow.holds Try.pinned (OpenSpec.ofChange fnExactAssignOperatorsWrong)

/-- 'laws.FnExactShortRests': WHATEVER THE INPUT: true; the input reads as it did. -/
def fnExactShortRestsSpec : ChangeSpec := { name := "fnExactShortRests", fn := fun _ => fun
  | [d1, d2] => { results := [.lit (.bool true)], args := [d1, d2] }
  | _ => none }
def fnExactShortRestsRow : OpenClaim := { program := "ytdjpicjacchmnaa", sum := "ad94b508fa2f4abb9c511cf8425b3d0581e3a3fdaaf203ffea556e6a95439fb1", func := "loop.example/g00940/laws.FnExactShortRests", spec := "fnExactShortRests", unfollowed := true, recurses := true, apart := false }
def FnExactShortRestsSaid : Prop := fnExactShortRestsRow.holds Try.pinned (OpenSpec.ofChange fnExactShortRestsSpec)

/-- ITS FALSE NEIGHBOUR: 'it returns false'. Refute it at one input. -/
def fnExactShortRestsWrong : ChangeSpec := { name := "fnExactShortRests", fn := fun _ => fun
  | [d1, d2] => { results := [.lit (.bool false)], args := [d1, d2] }
  | _ => none }
def FnExactShortRestsWrongFalsely : Prop := fnExactShortRestsRow.holds Try.pinned (OpenSpec.ofChange fnExactShortRestsWrong)

/-- 'laws.FnExactOpenHours': WHATEVER THE INPUT: true; the input reads as it did. -/
def fnExactOpenHoursSpec : ChangeSpec := { name := "fnExactOpenHours", fn := fun _ => fun
  | [d1, d2] => { results := [.lit (.bool true)], args := [d1, d2] }
  | _ => none }
def fnExactOpenHoursRow : OpenClaim := { program := "ytdjpicjacchmnaa", sum := "ad94b508fa2f4abb9c511cf8425b3d0581e3a3fdaaf203ffea556e6a95439fb1", func := "loop.example/g00940/laws.FnExactOpenHours", spec := "fnExactOpenHours", unfollowed := true, recurses := true, apart := false }
def FnExactOpenHoursSaid : Prop := fnExactOpenHoursRow.holds Try.pinned (OpenSpec.ofChange fnExactOpenHoursSpec)

/-- ITS FALSE NEIGHBOUR: 'it returns false'. Refute it at one input. -/
def fnExactOpenHoursWrong : ChangeSpec := { name := "fnExactOpenHours", fn := fun _ => fun
  | [d1, d2] => { results := [.lit (.bool false)], args := [d1, d2] }
  | _ => none }
def FnExactOpenHoursWrongFalsely : Prop := fnExactOpenHoursRow.holds Try.pinned (OpenSpec.ofChange fnExactOpenHoursWrong)

/-- 'laws.FnExactExchangeShifts': WHATEVER THE INPUT: true; the input reads as it did. -/
def fnExactExchangeShiftsSpec : ChangeSpec := { name := "fnExactExchangeShifts", fn := fun _ => fun
  | [d1, d2, d3] => { results := [.lit (.bool true)], args := [d1, d2, d3] }
  | _ => none }
def fnExactExchangeShiftsRow : OpenClaim := { program := "ytdjpicjacchmnaa", sum := "ad94b508fa2f4abb9c511cf8425b3d0581e3a3fdaaf203ffea556e6a95439fb1", func := "loop.example/g00940/laws.FnExactExchangeShifts", spec := "fnExactExchangeShifts", unfollowed := true, recurses := true, apart := false }
def FnExactExchangeShiftsSaid : Prop := fnExactExchangeShiftsRow.holds Try.pinned (OpenSpec.ofChange fnExactExchangeShiftsSpec)

/-- ITS FALSE NEIGHBOUR: 'it returns false'. Refute it at one input. -/
def fnExactExchangeShiftsWrong : ChangeSpec := { name := "fnExactExchangeShifts", fn := fun _ => fun
  | [d1, d2, d3] => { results := [.lit (.bool false)], args := [d1, d2, d3] }
  | _ => none }
def FnExactExchangeShiftsWrongFalsely : Prop := fnExactExchangeShiftsRow.holds Try.pinned (OpenSpec.ofChange fnExactExchangeShiftsWrong)

/-- 'laws.FnExactHandOver': WHATEVER THE INPUT: true; the input reads as it did. -/
def fnExactHandOverSpec : ChangeSpec := { name := "fnExactHandOver", fn := fun _ => fun
  | [d1, d2, d3, d4] => { results := [.lit (.bool true)], args := [d1, d2, d3, d4] }
  | _ => none }
def fnExactHandOverRow : OpenClaim := { program := "ytdjpicjacchmnaa", sum := "ad94b508fa2f4abb9c511cf8425b3d0581e3a3fdaaf203ffea556e6a95439fb1", func := "loop.example/g00940/laws.FnExactHandOver", spec := "fnExactHandOver", unfollowed := true, recurses := true, apart := false }
def FnExactHandOverSaid : Prop := fnExactHandOverRow.holds Try.pinned (OpenSpec.ofChange fnExactHandOverSpec)

/-- ITS FALSE NEIGHBOUR: 'it returns false'. Refute it at one input. -/
def fnExactHandOverWrong : ChangeSpec := { name := "fnExactHandOver", fn := fun _ => fun
  | [d1, d2, d3, d4] => { results := [.lit (.bool false)], args := [d1, d2, d3, d4] }
  | _ => none }
def FnExactHandOverWrongFalsely : Prop := fnExactHandOverRow.holds Try.pinned (OpenSpec.ofChange fnExactHandOverWrong)

/-- 'laws.FnExactOnDutyAt': WHATEVER THE INPUT: true; the input reads as it did. -/
def fnExactOnDutyAtSpec : ChangeSpec := { name := "fnExactOnDutyAt", fn := fun _ => fun
  | [d1, d2] => { results := [.lit (.bool true)], args := [d1, d2] }
  | _ => none }
def fnExactOnDutyAtRow : OpenClaim := { program := "ytdjpicjacchmnaa", sum := "ad94b508fa2f4abb9c511cf8425b3d0581e3a3fdaaf203ffea556e6a95439fb1", func := "loop.example/g00940/laws.FnExactOnDutyAt", spec := "fnExactOnDutyAt", unfollowed := true, recurses := true, apart := false }
def FnExactOnDutyAtSaid : Prop := fnExactOnDutyAtRow.holds Try.pinned (OpenSpec.ofChange fnExactOnDutyAtSpec)

/-- ITS FALSE NEIGHBOUR: 'it returns false'. Refute it at one input. -/
def fnExactOnDutyAtWrong : ChangeSpec := { name := "fnExactOnDutyAt", fn := fun _ => fun
  | [d1, d2] => { results := [.lit (.bool false)], args := [d1, d2] }
  | _ => none }
def FnExactOnDutyAtWrongFalsely : Prop := fnExactOnDutyAtRow.holds Try.pinned (OpenSpec.ofChange fnExactOnDutyAtWrong)

/-- 'laws.FnHandOvers': WHATEVER THE INPUT: true; the input reads as it did. -/
def fnHandOversSpec : ChangeSpec := { name := "fnHandOvers", fn := fun _ => fun
  | [d1, d2] => { results := [.lit (.bool true)], args := [d1, d2] }
  | _ => none }
def fnHandOversRow : OpenClaim := { program := "ytdjpicjacchmnaa", sum := "ad94b508fa2f4abb9c511cf8425b3d0581e3a3fdaaf203ffea556e6a95439fb1", func := "loop.example/g00940/laws.FnHandOvers", spec := "fnHandOvers", unfollowed := true, recurses := true, apart := false }
def FnHandOversSaid : Prop := fnHandOversRow.holds Try.pinned (OpenSpec.ofChange fnHandOversSpec)

/-- ITS FALSE NEIGHBOUR: 'it returns false'. Refute it at one input. -/
def fnHandOversWrong : ChangeSpec := { name := "fnHandOvers", fn := fun _ => fun
  | [d1, d2] => { results := [.lit (.bool false)], args := [d1, d2] }
  | _ => none }
def FnHandOversWrongFalsely : Prop := fnHandOversRow.holds Try.pinned (OpenSpec.ofChange fnHandOversWrong)

/- THE SECOND FORM. 'bulk': how many values and letters a reading holds, each counted each time it is reached (what is shared counts as often as it is met; a slice's spare places count too). A statement '..UptoSaid' is the law's where the arguments, and the package variables that the reading takes, are together of bulk at most 1048576: NARROWER than '..Said'. Prove '..Said' where nothing that the law and all that it calls make is longer than what came in: it says more and counts as full. Else prove '..UptoSaid'. A law counts once. -/
mutual
def uptoBulk {H : Type} : DataW H → Nat
  | .lit (.string bytes) => bytes.length + 1
  | .lit _ => 1
  | .nil => 1
  | .ptr d => uptoBulk d + 1
  | .slice elems spare => uptoBulkAll elems + uptoBulkAll spare + 1
  | .agg parts => uptoBulkAll parts + 1
  | .iface _ d => uptoBulk d + 1
  | .map entries => uptoBulkEntries entries + 1
  | .held _ => 1
def uptoBulkAll {H : Type} : List (DataW H) → Nat
  | [] => 0
  | d :: r => uptoBulk d + uptoBulkAll r
def uptoBulkEntries {H : Type} : List (Lit × DataW H) → Nat
  | [] => 0
  | x :: r => uptoBulkEntry x + uptoBulkEntries r
def uptoBulkEntry {H : Type} : Lit × DataW H → Nat
  | (.string bytes, d) => bytes.length + uptoBulk d + 1
  | (_, d) => uptoBulk d + 1
 end
def uptoSmall : (H : Type) → List (DataW H) → Bool := fun _ ds => decide (uptoBulkAll ds ≤ 1048576)
def OpenSpec.upto (s : _root_.Go.ChangeSpec) : _root_.Go.OpenSpec := { _root_.Go.OpenSpec.ofChange s with cond := some uptoSmall }

/-- 'laws.FnExactAreShifts', WHERE WHAT IT READS IS OF BULK AT MOST 1048576: true; the input reads as it did. -/
def fnExactAreShiftsUptoRow : OpenClaim := { program := "ytdjpicjacchmnaa", sum := "ad94b508fa2f4abb9c511cf8425b3d0581e3a3fdaaf203ffea556e6a95439fb1", func := "loop.example/g00940/laws.FnExactAreShifts", spec := "fnExactAreShifts", unfollowed := true, recurses := true, apart := false, narrowed := true }
def FnExactAreShiftsUptoSaid : Prop := fnExactAreShiftsUptoRow.holds Try.pinned (OpenSpec.upto fnExactAreShiftsSpec)

/-- 'laws.FnExactDutyHours', WHERE WHAT IT READS IS OF BULK AT MOST 1048576: true; the input reads as it did. -/
def fnExactDutyHoursUptoRow : OpenClaim := { program := "ytdjpicjacchmnaa", sum := "ad94b508fa2f4abb9c511cf8425b3d0581e3a3fdaaf203ffea556e6a95439fb1", func := "loop.example/g00940/laws.FnExactDutyHours", spec := "fnExactDutyHours", unfollowed := true, recurses := true, apart := false, narrowed := true }
def FnExactDutyHoursUptoSaid : Prop := fnExactDutyHoursUptoRow.holds Try.pinned (OpenSpec.upto fnExactDutyHoursSpec)

/-- 'laws.FnExactLongestDuty', WHERE WHAT IT READS IS OF BULK AT MOST 1048576: true; the input reads as it did. -/
def fnExactLongestDutyUptoRow : OpenClaim := { program := "ytdjpicjacchmnaa", sum := "ad94b508fa2f4abb9c511cf8425b3d0581e3a3fdaaf203ffea556e6a95439fb1", func := "loop.example/g00940/laws.FnExactLongestDuty", spec := "fnExactLongestDuty", unfollowed := true, recurses := true, apart := false, narrowed := true }
def FnExactLongestDutyUptoSaid : Prop := fnExactLongestDutyUptoRow.holds Try.pinned (OpenSpec.upto fnExactLongestDutySpec)

/-- 'laws.FnExactAssignOperators', WHERE WHAT IT READS IS OF BULK AT MOST 1048576: true; the input reads as it did. -/
def fnExactAssignOperatorsUptoRow : OpenClaim := { program := "ytdjpicjacchmnaa", sum := "ad94b508fa2f4abb9c511cf8425b3d0581e3a3fdaaf203ffea556e6a95439fb1", func := "loop.example/g00940/laws.FnExactAssignOperators", spec := "fnExactAssignOperators", unfollowed := true, recurses := true, apart := false, narrowed := true }
def FnExactAssignOperatorsUptoSaid : Prop := fnExactAssignOperatorsUptoRow.holds Try.pinned (OpenSpec.upto fnExactAssignOperatorsSpec)

/-- 'laws.FnExactShortRests', WHERE WHAT IT READS IS OF BULK AT MOST 1048576: true; the input reads as it did. -/
def fnExactShortRestsUptoRow : OpenClaim := { program := "ytdjpicjacchmnaa", sum := "ad94b508fa2f4abb9c511cf8425b3d0581e3a3fdaaf203ffea556e6a95439fb1", func := "loop.example/g00940/laws.FnExactShortRests", spec := "fnExactShortRests", unfollowed := true, recurses := true, apart := false, narrowed := true }
def FnExactShortRestsUptoSaid : Prop := fnExactShortRestsUptoRow.holds Try.pinned (OpenSpec.upto fnExactShortRestsSpec)

/-- 'laws.FnExactOpenHours', WHERE WHAT IT READS IS OF BULK AT MOST 1048576: true; the input reads as it did. -/
def fnExactOpenHoursUptoRow : OpenClaim := { program := "ytdjpicjacchmnaa", sum := "ad94b508fa2f4abb9c511cf8425b3d0581e3a3fdaaf203ffea556e6a95439fb1", func := "loop.example/g00940/laws.FnExactOpenHours", spec := "fnExactOpenHours", unfollowed := true, recurses := true, apart := false, narrowed := true }
def FnExactOpenHoursUptoSaid : Prop := fnExactOpenHoursUptoRow.holds Try.pinned (OpenSpec.upto fnExactOpenHoursSpec)

/-- 'laws.FnExactExchangeShifts', WHERE WHAT IT READS IS OF BULK AT MOST 1048576: true; the input reads as it did. -/
def fnExactExchangeShiftsUptoRow : OpenClaim := { program := "ytdjpicjacchmnaa", sum := "ad94b508fa2f4abb9c511cf8425b3d0581e3a3fdaaf203ffea556e6a95439fb1", func := "loop.example/g00940/laws.FnExactExchangeShifts", spec := "fnExactExchangeShifts", unfollowed := true, recurses := true, apart := false, narrowed := true }
def FnExactExchangeShiftsUptoSaid : Prop := fnExactExchangeShiftsUptoRow.holds Try.pinned (OpenSpec.upto fnExactExchangeShiftsSpec)

/-- 'laws.FnExactHandOver', WHERE WHAT IT READS IS OF BULK AT MOST 1048576: true; the input reads as it did. -/
def fnExactHandOverUptoRow : OpenClaim := { program := "ytdjpicjacchmnaa", sum := "ad94b508fa2f4abb9c511cf8425b3d0581e3a3fdaaf203ffea556e6a95439fb1", func := "loop.example/g00940/laws.FnExactHandOver", spec := "fnExactHandOver", unfollowed := true, recurses := true, apart := false, narrowed := true }
def FnExactHandOverUptoSaid : Prop := fnExactHandOverUptoRow.holds Try.pinned (OpenSpec.upto fnExactHandOverSpec)

/-- 'laws.FnExactOnDutyAt', WHERE WHAT IT READS IS OF BULK AT MOST 1048576: true; the input reads as it did. -/
def fnExactOnDutyAtUptoRow : OpenClaim := { program := "ytdjpicjacchmnaa", sum := "ad94b508fa2f4abb9c511cf8425b3d0581e3a3fdaaf203ffea556e6a95439fb1", func := "loop.example/g00940/laws.FnExactOnDutyAt", spec := "fnExactOnDutyAt", unfollowed := true, recurses := true, apart := false, narrowed := true }
def FnExactOnDutyAtUptoSaid : Prop := fnExactOnDutyAtUptoRow.holds Try.pinned (OpenSpec.upto fnExactOnDutyAtSpec)

/-- 'laws.FnHandOvers', WHERE WHAT IT READS IS OF BULK AT MOST 1048576: true; the input reads as it did. -/
def fnHandOversUptoRow : OpenClaim := { program := "ytdjpicjacchmnaa", sum := "ad94b508fa2f4abb9c511cf8425b3d0581e3a3fdaaf203ffea556e6a95439fb1", func := "loop.example/g00940/laws.FnHandOvers", spec := "fnHandOvers", unfollowed := true, recurses := true, apart := false, narrowed := true }
def FnHandOversUptoSaid : Prop := fnHandOversUptoRow.holds Try.pinned (OpenSpec.upto fnHandOversSpec)

end Rows
end Go.Proofs.Ytdjpicjacchmnaa
