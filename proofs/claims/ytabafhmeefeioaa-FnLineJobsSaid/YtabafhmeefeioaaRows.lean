/-
  No cell of these rows narrows 'for every input' (looked for: loops, veiled, ifaces, maps, wideKeys, modest, calm, conditions, laid).
  DERIVED. THE GIVEN ROWS OF THIS SEAT. 12 by the template 'for every input the law returns true; each argument reads behind the call as it read before'; 0 by the template 'total and deterministic' (their statements: YtabafhmeefeioaaTotals.lean).
  GIVEN WITH THE SEED: the statements are not yours to turn. If you find one false, say at which input.
  Laid BY PROGRAM, IN A SANDBOX (cutbox-rows.mjs): the forced cells as the released guide's own fill.sh prints them over the translation a0c3e3b8fb2fc4fe… (all of the seat's roots in one cut). By AI agents, Wed Nov 11 2026. No macro, syntax, notation, axiom, sorry.
-/
import Derived.Test.YtabafhmeefeioaaChecked
import GoSem.Claim
import GoSem.ClaimJoined
import GoSem.ClaimMapViews
import Derived.JoinedTies
import Derived.KernelRfl
namespace Go.Proofs.Ytabafhmeefeioaa
/- THE CELL 'sum', in the pinned program and in every row, IS THE sha256 OF THE DUMP (.gsa) THAT YtabafhmeefeioaaProg.lean LOADS. Nothing in Lean hashes anything: it is a label: what it is worth is what the hold of that sum in a sandbox is worth. -/
noncomputable def Try.pinned : Pinned := { name := "ytabafhmeefeioaa", sum := "a0c3e3b8fb2fc4fe0b58cdd99e21ed29e376bd8a416696440187e4f7ee8910a6", checked := Try.checked }
namespace Rows
def none {H : Type} : Left H := { results := [], args := [] }

/-- 'laws.FnExactAreLineJobs': WHATEVER THE INPUT: true; the input reads as it did. -/
def fnExactAreLineJobsSpec : ChangeSpec := { name := "fnExactAreLineJobs", fn := fun _ => fun
  | [d] => { results := [.lit (.bool true)], args := [d] }
  | _ => none }
def fnExactAreLineJobsRow : OpenClaim := { program := "ytabafhmeefeioaa", sum := "a0c3e3b8fb2fc4fe0b58cdd99e21ed29e376bd8a416696440187e4f7ee8910a6", func := "loop.example/g00940/laws.FnExactAreLineJobs", spec := "fnExactAreLineJobs", unfollowed := true, recurses := true, apart := false }
def FnExactAreLineJobsSaid : Prop := fnExactAreLineJobsRow.holds Try.pinned (OpenSpec.ofChange fnExactAreLineJobsSpec)

/-- ITS FALSE NEIGHBOUR: 'it returns false'. Refute it at one input. -/
def fnExactAreLineJobsWrong : ChangeSpec := { name := "fnExactAreLineJobs", fn := fun _ => fun
  | [d] => { results := [.lit (.bool false)], args := [d] }
  | _ => none }
def FnExactAreLineJobsWrongFalsely : Prop := fnExactAreLineJobsRow.holds Try.pinned (OpenSpec.ofChange fnExactAreLineJobsWrong)

/-- 'laws.FnExactWithPriority': WHATEVER THE INPUT: true; the input reads as it did. -/
def fnExactWithPrioritySpec : ChangeSpec := { name := "fnExactWithPriority", fn := fun _ => fun
  | [d1, d2, d3] => { results := [.lit (.bool true)], args := [d1, d2, d3] }
  | _ => none }
def fnExactWithPriorityRow : OpenClaim := { program := "ytabafhmeefeioaa", sum := "a0c3e3b8fb2fc4fe0b58cdd99e21ed29e376bd8a416696440187e4f7ee8910a6", func := "loop.example/g00940/laws.FnExactWithPriority", spec := "fnExactWithPriority", unfollowed := true, recurses := true, apart := false }
def FnExactWithPrioritySaid : Prop := fnExactWithPriorityRow.holds Try.pinned (OpenSpec.ofChange fnExactWithPrioritySpec)

/-- ITS FALSE NEIGHBOUR: 'it returns false'. Refute it at one input. -/
def fnExactWithPriorityWrong : ChangeSpec := { name := "fnExactWithPriority", fn := fun _ => fun
  | [d1, d2, d3] => { results := [.lit (.bool false)], args := [d1, d2, d3] }
  | _ => none }
def FnExactWithPriorityWrongFalsely : Prop := fnExactWithPriorityRow.holds Try.pinned (OpenSpec.ofChange fnExactWithPriorityWrong)

/-- 'laws.FnExactJobAt': WHATEVER THE INPUT: true; the input reads as it did. -/
def fnExactJobAtSpec : ChangeSpec := { name := "fnExactJobAt", fn := fun _ => fun
  | [d1, d2] => { results := [.lit (.bool true)], args := [d1, d2] }
  | _ => none }
def fnExactJobAtRow : OpenClaim := { program := "ytabafhmeefeioaa", sum := "a0c3e3b8fb2fc4fe0b58cdd99e21ed29e376bd8a416696440187e4f7ee8910a6", func := "loop.example/g00940/laws.FnExactJobAt", spec := "fnExactJobAt", unfollowed := true, recurses := true, apart := false }
def FnExactJobAtSaid : Prop := fnExactJobAtRow.holds Try.pinned (OpenSpec.ofChange fnExactJobAtSpec)

/-- ITS FALSE NEIGHBOUR: 'it returns false'. Refute it at one input. -/
def fnExactJobAtWrong : ChangeSpec := { name := "fnExactJobAt", fn := fun _ => fun
  | [d1, d2] => { results := [.lit (.bool false)], args := [d1, d2] }
  | _ => none }
def FnExactJobAtWrongFalsely : Prop := fnExactJobAtRow.holds Try.pinned (OpenSpec.ofChange fnExactJobAtWrong)

/-- 'laws.FnExactIdleTicks': WHATEVER THE INPUT: true; the input reads as it did. -/
def fnExactIdleTicksSpec : ChangeSpec := { name := "fnExactIdleTicks", fn := fun _ => fun
  | [d] => { results := [.lit (.bool true)], args := [d] }
  | _ => none }
def fnExactIdleTicksRow : OpenClaim := { program := "ytabafhmeefeioaa", sum := "a0c3e3b8fb2fc4fe0b58cdd99e21ed29e376bd8a416696440187e4f7ee8910a6", func := "loop.example/g00940/laws.FnExactIdleTicks", spec := "fnExactIdleTicks", unfollowed := true, recurses := true, apart := false }
def FnExactIdleTicksSaid : Prop := fnExactIdleTicksRow.holds Try.pinned (OpenSpec.ofChange fnExactIdleTicksSpec)

/-- ITS FALSE NEIGHBOUR: 'it returns false'. Refute it at one input. -/
def fnExactIdleTicksWrong : ChangeSpec := { name := "fnExactIdleTicks", fn := fun _ => fun
  | [d] => { results := [.lit (.bool false)], args := [d] }
  | _ => none }
def FnExactIdleTicksWrongFalsely : Prop := fnExactIdleTicksRow.holds Try.pinned (OpenSpec.ofChange fnExactIdleTicksWrong)

/-- 'laws.FnExactLeastPriority': WHATEVER THE INPUT: true; the input reads as it did. -/
def fnExactLeastPrioritySpec : ChangeSpec := { name := "fnExactLeastPriority", fn := fun _ => fun
  | [d1, d2, d3] => { results := [.lit (.bool true)], args := [d1, d2, d3] }
  | _ => none }
def fnExactLeastPriorityRow : OpenClaim := { program := "ytabafhmeefeioaa", sum := "a0c3e3b8fb2fc4fe0b58cdd99e21ed29e376bd8a416696440187e4f7ee8910a6", func := "loop.example/g00940/laws.FnExactLeastPriority", spec := "fnExactLeastPriority", unfollowed := true, recurses := true, apart := false }
def FnExactLeastPrioritySaid : Prop := fnExactLeastPriorityRow.holds Try.pinned (OpenSpec.ofChange fnExactLeastPrioritySpec)

/-- ITS FALSE NEIGHBOUR: 'it returns false'. Refute it at one input. -/
def fnExactLeastPriorityWrong : ChangeSpec := { name := "fnExactLeastPriority", fn := fun _ => fun
  | [d1, d2, d3] => { results := [.lit (.bool false)], args := [d1, d2, d3] }
  | _ => none }
def FnExactLeastPriorityWrongFalsely : Prop := fnExactLeastPriorityRow.holds Try.pinned (OpenSpec.ofChange fnExactLeastPriorityWrong)

/-- 'laws.FnExactLeftAt': WHATEVER THE INPUT: true; the input reads as it did. -/
def fnExactLeftAtSpec : ChangeSpec := { name := "fnExactLeftAt", fn := fun _ => fun
  | [d1, d2] => { results := [.lit (.bool true)], args := [d1, d2] }
  | _ => none }
def fnExactLeftAtRow : OpenClaim := { program := "ytabafhmeefeioaa", sum := "a0c3e3b8fb2fc4fe0b58cdd99e21ed29e376bd8a416696440187e4f7ee8910a6", func := "loop.example/g00940/laws.FnExactLeftAt", spec := "fnExactLeftAt", unfollowed := true, recurses := true, apart := false }
def FnExactLeftAtSaid : Prop := fnExactLeftAtRow.holds Try.pinned (OpenSpec.ofChange fnExactLeftAtSpec)

/-- ITS FALSE NEIGHBOUR: 'it returns false'. Refute it at one input. -/
def fnExactLeftAtWrong : ChangeSpec := { name := "fnExactLeftAt", fn := fun _ => fun
  | [d1, d2] => { results := [.lit (.bool false)], args := [d1, d2] }
  | _ => none }
def FnExactLeftAtWrongFalsely : Prop := fnExactLeftAtRow.holds Try.pinned (OpenSpec.ofChange fnExactLeftAtWrong)

/-- 'laws.FnExactFinishTimes': WHATEVER THE INPUT: true; the input reads as it did. -/
def fnExactFinishTimesSpec : ChangeSpec := { name := "fnExactFinishTimes", fn := fun _ => fun
  | [d] => { results := [.lit (.bool true)], args := [d] }
  | _ => none }
def fnExactFinishTimesRow : OpenClaim := { program := "ytabafhmeefeioaa", sum := "a0c3e3b8fb2fc4fe0b58cdd99e21ed29e376bd8a416696440187e4f7ee8910a6", func := "loop.example/g00940/laws.FnExactFinishTimes", spec := "fnExactFinishTimes", unfollowed := true, recurses := true, apart := false }
def FnExactFinishTimesSaid : Prop := fnExactFinishTimesRow.holds Try.pinned (OpenSpec.ofChange fnExactFinishTimesSpec)

/-- ITS FALSE NEIGHBOUR: 'it returns false'. Refute it at one input. -/
def fnExactFinishTimesWrong : ChangeSpec := { name := "fnExactFinishTimes", fn := fun _ => fun
  | [d] => { results := [.lit (.bool false)], args := [d] }
  | _ => none }
def FnExactFinishTimesWrongFalsely : Prop := fnExactFinishTimesRow.holds Try.pinned (OpenSpec.ofChange fnExactFinishTimesWrong)

/-- 'laws.FnExactWaitsOf': WHATEVER THE INPUT: true; the input reads as it did. -/
def fnExactWaitsOfSpec : ChangeSpec := { name := "fnExactWaitsOf", fn := fun _ => fun
  | [d] => { results := [.lit (.bool true)], args := [d] }
  | _ => none }
def fnExactWaitsOfRow : OpenClaim := { program := "ytabafhmeefeioaa", sum := "a0c3e3b8fb2fc4fe0b58cdd99e21ed29e376bd8a416696440187e4f7ee8910a6", func := "loop.example/g00940/laws.FnExactWaitsOf", spec := "fnExactWaitsOf", unfollowed := true, recurses := true, apart := false }
def FnExactWaitsOfSaid : Prop := fnExactWaitsOfRow.holds Try.pinned (OpenSpec.ofChange fnExactWaitsOfSpec)

/-- ITS FALSE NEIGHBOUR: 'it returns false'. Refute it at one input. -/
def fnExactWaitsOfWrong : ChangeSpec := { name := "fnExactWaitsOf", fn := fun _ => fun
  | [d] => { results := [.lit (.bool false)], args := [d] }
  | _ => none }
def FnExactWaitsOfWrongFalsely : Prop := fnExactWaitsOfRow.holds Try.pinned (OpenSpec.ofChange fnExactWaitsOfWrong)

/-- 'laws.FnExactBreaksOf': WHATEVER THE INPUT: true; the input reads as it did. -/
def fnExactBreaksOfSpec : ChangeSpec := { name := "fnExactBreaksOf", fn := fun _ => fun
  | [d] => { results := [.lit (.bool true)], args := [d] }
  | _ => none }
def fnExactBreaksOfRow : OpenClaim := { program := "ytabafhmeefeioaa", sum := "a0c3e3b8fb2fc4fe0b58cdd99e21ed29e376bd8a416696440187e4f7ee8910a6", func := "loop.example/g00940/laws.FnExactBreaksOf", spec := "fnExactBreaksOf", unfollowed := true, recurses := true, apart := false }
def FnExactBreaksOfSaid : Prop := fnExactBreaksOfRow.holds Try.pinned (OpenSpec.ofChange fnExactBreaksOfSpec)

/-- ITS FALSE NEIGHBOUR: 'it returns false'. Refute it at one input. -/
def fnExactBreaksOfWrong : ChangeSpec := { name := "fnExactBreaksOf", fn := fun _ => fun
  | [d] => { results := [.lit (.bool false)], args := [d] }
  | _ => none }
def FnExactBreaksOfWrongFalsely : Prop := fnExactBreaksOfRow.holds Try.pinned (OpenSpec.ofChange fnExactBreaksOfWrong)

/-- 'laws.FnExactSegmentsOf': WHATEVER THE INPUT: true; the input reads as it did. -/
def fnExactSegmentsOfSpec : ChangeSpec := { name := "fnExactSegmentsOf", fn := fun _ => fun
  | [d] => { results := [.lit (.bool true)], args := [d] }
  | _ => none }
def fnExactSegmentsOfRow : OpenClaim := { program := "ytabafhmeefeioaa", sum := "a0c3e3b8fb2fc4fe0b58cdd99e21ed29e376bd8a416696440187e4f7ee8910a6", func := "loop.example/g00940/laws.FnExactSegmentsOf", spec := "fnExactSegmentsOf", unfollowed := true, recurses := true, apart := false }
def FnExactSegmentsOfSaid : Prop := fnExactSegmentsOfRow.holds Try.pinned (OpenSpec.ofChange fnExactSegmentsOfSpec)

/-- ITS FALSE NEIGHBOUR: 'it returns false'. Refute it at one input. -/
def fnExactSegmentsOfWrong : ChangeSpec := { name := "fnExactSegmentsOf", fn := fun _ => fun
  | [d] => { results := [.lit (.bool false)], args := [d] }
  | _ => none }
def FnExactSegmentsOfWrongFalsely : Prop := fnExactSegmentsOfRow.holds Try.pinned (OpenSpec.ofChange fnExactSegmentsOfWrong)

/-- 'laws.FnPriorityChanges': WHATEVER THE INPUT: true; the input reads as it did. -/
def fnPriorityChangesSpec : ChangeSpec := { name := "fnPriorityChanges", fn := fun _ => fun
  | [d1, d2] => { results := [.lit (.bool true)], args := [d1, d2] }
  | _ => none }
def fnPriorityChangesRow : OpenClaim := { program := "ytabafhmeefeioaa", sum := "a0c3e3b8fb2fc4fe0b58cdd99e21ed29e376bd8a416696440187e4f7ee8910a6", func := "loop.example/g00940/laws.FnPriorityChanges", spec := "fnPriorityChanges", unfollowed := true, recurses := true, apart := false }
def FnPriorityChangesSaid : Prop := fnPriorityChangesRow.holds Try.pinned (OpenSpec.ofChange fnPriorityChangesSpec)

/-- ITS FALSE NEIGHBOUR: 'it returns false'. Refute it at one input. -/
def fnPriorityChangesWrong : ChangeSpec := { name := "fnPriorityChanges", fn := fun _ => fun
  | [d1, d2] => { results := [.lit (.bool false)], args := [d1, d2] }
  | _ => none }
def FnPriorityChangesWrongFalsely : Prop := fnPriorityChangesRow.holds Try.pinned (OpenSpec.ofChange fnPriorityChangesWrong)

/-- 'laws.FnLineJobs': WHATEVER THE INPUT: true; the input reads as it did. -/
def fnLineJobsSpec : ChangeSpec := { name := "fnLineJobs", fn := fun _ => fun
  | [d1, d2] => { results := [.lit (.bool true)], args := [d1, d2] }
  | _ => none }
def fnLineJobsRow : OpenClaim := { program := "ytabafhmeefeioaa", sum := "a0c3e3b8fb2fc4fe0b58cdd99e21ed29e376bd8a416696440187e4f7ee8910a6", func := "loop.example/g00940/laws.FnLineJobs", spec := "fnLineJobs", unfollowed := true, recurses := true, apart := false }
def FnLineJobsSaid : Prop := fnLineJobsRow.holds Try.pinned (OpenSpec.ofChange fnLineJobsSpec)

/-- ITS FALSE NEIGHBOUR: 'it returns false'. Refute it at one input. -/
def fnLineJobsWrong : ChangeSpec := { name := "fnLineJobs", fn := fun _ => fun
  | [d1, d2] => { results := [.lit (.bool false)], args := [d1, d2] }
  | _ => none }
def FnLineJobsWrongFalsely : Prop := fnLineJobsRow.holds Try.pinned (OpenSpec.ofChange fnLineJobsWrong)

/- THE SECOND FORM. 'bulk': how many values and letters a reading holds, each counted each time it is reached (what is shared counts as often as it is met; a slice's spare places count too). A statement '..UptoSaid' is the law's where the arguments, and the package variables that the reading takes, are together of bulk at most 1048576: NARROWER than '..Said'. Prove '..Said' where nothing that the law and all that it calls make is longer than what came in: it says more and counts as full. Else prove '..UptoSaid'. A law counts once. -/
mutual
def uptoBulk {H : Type} : DataW H → Nat
  | .lit (.string bytes) => bytes.length + 1
  | .lit _ => 1
  | .nil => 1
  | .ptr d => uptoBulk d + 1
  | .slice elems spare => uptoBulkAll elems + uptoBulkAll spare + 1
  | .agg parts => uptoBulkAll parts + 1
  | .iface _ d => uptoBulk d + 1
  | .map entries => uptoBulkEntries entries + 1
  | .held _ => 1
def uptoBulkAll {H : Type} : List (DataW H) → Nat
  | [] => 0
  | d :: r => uptoBulk d + uptoBulkAll r
def uptoBulkEntries {H : Type} : List (Lit × DataW H) → Nat
  | [] => 0
  | x :: r => uptoBulkEntry x + uptoBulkEntries r
def uptoBulkEntry {H : Type} : Lit × DataW H → Nat
  | (.string bytes, d) => bytes.length + uptoBulk d + 1
  | (_, d) => uptoBulk d + 1
 end
def uptoSmall : (H : Type) → List (DataW H) → Bool := fun _ ds => decide (uptoBulkAll ds ≤ 1048576)
def OpenSpec.upto (s : _root_.Go.ChangeSpec) : _root_.Go.OpenSpec := { _root_.Go.OpenSpec.ofChange s with cond := some uptoSmall }

/-- 'laws.FnExactAreLineJobs', WHERE WHAT IT READS IS OF BULK AT MOST 1048576: true; the input reads as it did. -/
def fnExactAreLineJobsUptoRow : OpenClaim := { program := "ytabafhmeefeioaa", sum := "a0c3e3b8fb2fc4fe0b58cdd99e21ed29e376bd8a416696440187e4f7ee8910a6", func := "loop.example/g00940/laws.FnExactAreLineJobs", spec := "fnExactAreLineJobs", unfollowed := true, recurses := true, apart := false, narrowed := true }
def FnExactAreLineJobsUptoSaid : Prop := fnExactAreLineJobsUptoRow.holds Try.pinned (OpenSpec.upto fnExactAreLineJobsSpec)

/-- 'laws.FnExactWithPriority', WHERE WHAT IT READS IS OF BULK AT MOST 1048576: true; the input reads as it did. -/
def fnExactWithPriorityUptoRow : OpenClaim := { program := "ytabafhmeefeioaa", sum := "a0c3e3b8fb2fc4fe0b58cdd99e21ed29e376bd8a416696440187e4f7ee8910a6", func := "loop.example/g00940/laws.FnExactWithPriority", spec := "fnExactWithPriority", unfollowed := true, recurses := true, apart := false, narrowed := true }
def FnExactWithPriorityUptoSaid : Prop := fnExactWithPriorityUptoRow.holds Try.pinned (OpenSpec.upto fnExactWithPrioritySpec)

/-- 'laws.FnExactJobAt', WHERE WHAT IT READS IS OF BULK AT MOST 1048576: true; the input reads as it did. -/
def fnExactJobAtUptoRow : OpenClaim := { program := "ytabafhmeefeioaa", sum := "a0c3e3b8fb2fc4fe0b58cdd99e21ed29e376bd8a416696440187e4f7ee8910a6", func := "loop.example/g00940/laws.FnExactJobAt", spec := "fnExactJobAt", unfollowed := true, recurses := true, apart := false, narrowed := true }
def FnExactJobAtUptoSaid : Prop := fnExactJobAtUptoRow.holds Try.pinned (OpenSpec.upto fnExactJobAtSpec)

/-- 'laws.FnExactIdleTicks', WHERE WHAT IT READS IS OF BULK AT MOST 1048576: true; the input reads as it did. -/
def fnExactIdleTicksUptoRow : OpenClaim := { program := "ytabafhmeefeioaa", sum := "a0c3e3b8fb2fc4fe0b58cdd99e21ed29e376bd8a416696440187e4f7ee8910a6", func := "loop.example/g00940/laws.FnExactIdleTicks", spec := "fnExactIdleTicks", unfollowed := true, recurses := true, apart := false, narrowed := true }
def FnExactIdleTicksUptoSaid : Prop := fnExactIdleTicksUptoRow.holds Try.pinned (OpenSpec.upto fnExactIdleTicksSpec)

/-- 'laws.FnExactLeastPriority', WHERE WHAT IT READS IS OF BULK AT MOST 1048576: true; the input reads as it did. -/
def fnExactLeastPriorityUptoRow : OpenClaim := { program := "ytabafhmeefeioaa", sum := "a0c3e3b8fb2fc4fe0b58cdd99e21ed29e376bd8a416696440187e4f7ee8910a6", func := "loop.example/g00940/laws.FnExactLeastPriority", spec := "fnExactLeastPriority", unfollowed := true, recurses := true, apart := false, narrowed := true }
def FnExactLeastPriorityUptoSaid : Prop := fnExactLeastPriorityUptoRow.holds Try.pinned (OpenSpec.upto fnExactLeastPrioritySpec)

/-- 'laws.FnExactLeftAt', WHERE WHAT IT READS IS OF BULK AT MOST 1048576: true; the input reads as it did. -/
def fnExactLeftAtUptoRow : OpenClaim := { program := "ytabafhmeefeioaa", sum := "a0c3e3b8fb2fc4fe0b58cdd99e21ed29e376bd8a416696440187e4f7ee8910a6", func := "loop.example/g00940/laws.FnExactLeftAt", spec := "fnExactLeftAt", unfollowed := true, recurses := true, apart := false, narrowed := true }
def FnExactLeftAtUptoSaid : Prop := fnExactLeftAtUptoRow.holds Try.pinned (OpenSpec.upto fnExactLeftAtSpec)

/-- 'laws.FnExactFinishTimes', WHERE WHAT IT READS IS OF BULK AT MOST 1048576: true; the input reads as it did. -/
def fnExactFinishTimesUptoRow : OpenClaim := { program := "ytabafhmeefeioaa", sum := "a0c3e3b8fb2fc4fe0b58cdd99e21ed29e376bd8a416696440187e4f7ee8910a6", func := "loop.example/g00940/laws.FnExactFinishTimes", spec := "fnExactFinishTimes", unfollowed := true, recurses := true, apart := false, narrowed := true }
def FnExactFinishTimesUptoSaid : Prop := fnExactFinishTimesUptoRow.holds Try.pinned (OpenSpec.upto fnExactFinishTimesSpec)

/-- 'laws.FnExactWaitsOf', WHERE WHAT IT READS IS OF BULK AT MOST 1048576: true; the input reads as it did. -/
def fnExactWaitsOfUptoRow : OpenClaim := { program := "ytabafhmeefeioaa", sum := "a0c3e3b8fb2fc4fe0b58cdd99e21ed29e376bd8a416696440187e4f7ee8910a6", func := "loop.example/g00940/laws.FnExactWaitsOf", spec := "fnExactWaitsOf", unfollowed := true, recurses := true, apart := false, narrowed := true }
def FnExactWaitsOfUptoSaid : Prop := fnExactWaitsOfUptoRow.holds Try.pinned (OpenSpec.upto fnExactWaitsOfSpec)

/-- 'laws.FnExactBreaksOf', WHERE WHAT IT READS IS OF BULK AT MOST 1048576: true; the input reads as it did. -/
def fnExactBreaksOfUptoRow : OpenClaim := { program := "ytabafhmeefeioaa", sum := "a0c3e3b8fb2fc4fe0b58cdd99e21ed29e376bd8a416696440187e4f7ee8910a6", func := "loop.example/g00940/laws.FnExactBreaksOf", spec := "fnExactBreaksOf", unfollowed := true, recurses := true, apart := false, narrowed := true }
def FnExactBreaksOfUptoSaid : Prop := fnExactBreaksOfUptoRow.holds Try.pinned (OpenSpec.upto fnExactBreaksOfSpec)

/-- 'laws.FnExactSegmentsOf', WHERE WHAT IT READS IS OF BULK AT MOST 1048576: true; the input reads as it did. -/
def fnExactSegmentsOfUptoRow : OpenClaim := { program := "ytabafhmeefeioaa", sum := "a0c3e3b8fb2fc4fe0b58cdd99e21ed29e376bd8a416696440187e4f7ee8910a6", func := "loop.example/g00940/laws.FnExactSegmentsOf", spec := "fnExactSegmentsOf", unfollowed := true, recurses := true, apart := false, narrowed := true }
def FnExactSegmentsOfUptoSaid : Prop := fnExactSegmentsOfUptoRow.holds Try.pinned (OpenSpec.upto fnExactSegmentsOfSpec)

/-- 'laws.FnPriorityChanges', WHERE WHAT IT READS IS OF BULK AT MOST 1048576: true; the input reads as it did. -/
def fnPriorityChangesUptoRow : OpenClaim := { program := "ytabafhmeefeioaa", sum := "a0c3e3b8fb2fc4fe0b58cdd99e21ed29e376bd8a416696440187e4f7ee8910a6", func := "loop.example/g00940/laws.FnPriorityChanges", spec := "fnPriorityChanges", unfollowed := true, recurses := true, apart := false, narrowed := true }
def FnPriorityChangesUptoSaid : Prop := fnPriorityChangesUptoRow.holds Try.pinned (OpenSpec.upto fnPriorityChangesSpec)

/-- 'laws.FnLineJobs', WHERE WHAT IT READS IS OF BULK AT MOST 1048576: true; the input reads as it did. -/
def fnLineJobsUptoRow : OpenClaim := { program := "ytabafhmeefeioaa", sum := "a0c3e3b8fb2fc4fe0b58cdd99e21ed29e376bd8a416696440187e4f7ee8910a6", func := "loop.example/g00940/laws.FnLineJobs", spec := "fnLineJobs", unfollowed := true, recurses := true, apart := false, narrowed := true }
def FnLineJobsUptoSaid : Prop := fnLineJobsUptoRow.holds Try.pinned (OpenSpec.upto fnLineJobsSpec)

end Rows
end Go.Proofs.Ytabafhmeefeioaa
