/-
  No cell of these rows narrows 'for every input' (looked for: loops, veiled, ifaces, maps, wideKeys, modest, calm, conditions, laid).
  DERIVED. THE GIVEN ROWS OF THIS SEAT. 11 by the template 'for every input the law returns true; each argument reads behind the call as it read before'; 0 by the template 'total and deterministic' (their statements: YtlmfohjfbolhpaaTotals.lean).
  GIVEN WITH THE SEED: the statements are not yours to turn. If you find one false, say at which input.
  Laid BY PROGRAM, IN A SANDBOX (cutbox-rows.mjs): the forced cells as the released guide's own fill.sh prints them over the translation c3cd277cabab475f… (all of the seat's roots in one cut). By AI agents, Wed Nov 11 2026. No macro, syntax, notation, axiom, sorry.
-/
import Derived.Test.YtlmfohjfbolhpaaChecked
import GoSem.Claim
import GoSem.ClaimJoined
import GoSem.ClaimMapViews
import Derived.JoinedTies
import Derived.KernelRfl
namespace Go.Proofs.Ytlmfohjfbolhpaa
/- THE CELL 'sum', in the pinned program and in every row, IS THE sha256 OF THE DUMP (.gsa) THAT YtlmfohjfbolhpaaProg.lean LOADS. Nothing in Lean hashes anything: it is a label: what it is worth is what the hold of that sum in a sandbox is worth. -/
noncomputable def Try.pinned : Pinned := { name := "ytlmfohjfbolhpaa", sum := "c3cd277cabab475fa4481f9a472d16793aa6c7f58e86008a54ac8f0514830ead", checked := Try.checked }
namespace Rows
def none {H : Type} : Left H := { results := [], args := [] }

/-- 'laws.FnExactNightFogs': WHATEVER THE INPUT: true; the input reads as it did. -/
def fnExactNightFogsSpec : ChangeSpec := { name := "fnExactNightFogs", fn := fun _ => fun
  | [d1, d2, d3, d4] => { results := [.lit (.bool true)], args := [d1, d2, d3, d4] }
  | _ => none }
def fnExactNightFogsRow : OpenClaim := { program := "ytlmfohjfbolhpaa", sum := "c3cd277cabab475fa4481f9a472d16793aa6c7f58e86008a54ac8f0514830ead", func := "loop.example/g00940/laws.FnExactNightFogs", spec := "fnExactNightFogs", unfollowed := true, recurses := true, apart := false }
def FnExactNightFogsSaid : Prop := fnExactNightFogsRow.holds Try.pinned (OpenSpec.ofChange fnExactNightFogsSpec)

/-- ITS FALSE NEIGHBOUR: 'it returns false'. Refute it at one input. -/
def fnExactNightFogsWrong : ChangeSpec := { name := "fnExactNightFogs", fn := fun _ => fun
  | [d1, d2, d3, d4] => { results := [.lit (.bool false)], args := [d1, d2, d3, d4] }
  | _ => none }
def FnExactNightFogsWrongFalsely : Prop := fnExactNightFogsRow.holds Try.pinned (OpenSpec.ofChange fnExactNightFogsWrong)

/-- 'laws.FnExactAreHeldJobs': WHATEVER THE INPUT: true; the input reads as it did. -/
def fnExactAreHeldJobsSpec : ChangeSpec := { name := "fnExactAreHeldJobs", fn := fun _ => fun
  | [d] => { results := [.lit (.bool true)], args := [d] }
  | _ => none }
def fnExactAreHeldJobsRow : OpenClaim := { program := "ytlmfohjfbolhpaa", sum := "c3cd277cabab475fa4481f9a472d16793aa6c7f58e86008a54ac8f0514830ead", func := "loop.example/g00940/laws.FnExactAreHeldJobs", spec := "fnExactAreHeldJobs", apart := false }
def FnExactAreHeldJobsSaid : Prop := fnExactAreHeldJobsRow.holds Try.pinned (OpenSpec.ofChange fnExactAreHeldJobsSpec)

/-- ITS FALSE NEIGHBOUR: 'it returns false'. Refute it at one input. -/
def fnExactAreHeldJobsWrong : ChangeSpec := { name := "fnExactAreHeldJobs", fn := fun _ => fun
  | [d] => { results := [.lit (.bool false)], args := [d] }
  | _ => none }
def FnExactAreHeldJobsWrongFalsely : Prop := fnExactAreHeldJobsRow.holds Try.pinned (OpenSpec.ofChange fnExactAreHeldJobsWrong)

/-- 'laws.FnHeldPackets': WHATEVER THE INPUT: true; the input reads as it did. -/
def fnHeldPacketsSpec : ChangeSpec := { name := "fnHeldPackets", fn := fun _ => fun
  | [d1, d2] => { results := [.lit (.bool true)], args := [d1, d2] }
  | _ => none }
def fnHeldPacketsRow : OpenClaim := { program := "ytlmfohjfbolhpaa", sum := "c3cd277cabab475fa4481f9a472d16793aa6c7f58e86008a54ac8f0514830ead", func := "loop.example/g00940/laws.FnHeldPackets", spec := "fnHeldPackets", unfollowed := true, recurses := true, apart := false }
def FnHeldPacketsSaid : Prop := fnHeldPacketsRow.holds Try.pinned (OpenSpec.ofChange fnHeldPacketsSpec)

/-- ITS FALSE NEIGHBOUR: 'it returns false'. Refute it at one input. -/
def fnHeldPacketsWrong : ChangeSpec := { name := "fnHeldPackets", fn := fun _ => fun
  | [d1, d2] => { results := [.lit (.bool false)], args := [d1, d2] }
  | _ => none }
def FnHeldPacketsWrongFalsely : Prop := fnHeldPacketsRow.holds Try.pinned (OpenSpec.ofChange fnHeldPacketsWrong)

/-- 'laws.FnExactLastCount': WHATEVER THE INPUT: true; the input reads as it did. -/
def fnExactLastCountSpec : ChangeSpec := { name := "fnExactLastCount", fn := fun _ => fun
  | [d1, d2, d3, d4, d5] => { results := [.lit (.bool true)], args := [d1, d2, d3, d4, d5] }
  | _ => none }
def fnExactLastCountRow : OpenClaim := { program := "ytlmfohjfbolhpaa", sum := "c3cd277cabab475fa4481f9a472d16793aa6c7f58e86008a54ac8f0514830ead", func := "loop.example/g00940/laws.FnExactLastCount", spec := "fnExactLastCount", apart := false }
def FnExactLastCountSaid : Prop := fnExactLastCountRow.holds Try.pinned (OpenSpec.ofChange fnExactLastCountSpec)

/-- ITS FALSE NEIGHBOUR: 'it returns false'. Refute it at one input. -/
def fnExactLastCountWrong : ChangeSpec := { name := "fnExactLastCount", fn := fun _ => fun
  | [d1, d2, d3, d4, d5] => { results := [.lit (.bool false)], args := [d1, d2, d3, d4, d5] }
  | _ => none }
def FnExactLastCountWrongFalsely : Prop := fnExactLastCountRow.holds Try.pinned (OpenSpec.ofChange fnExactLastCountWrong)

/-- 'laws.FnExactWaitingSum': WHATEVER THE INPUT: true; the input reads as it did. -/
def fnExactWaitingSumSpec : ChangeSpec := { name := "fnExactWaitingSum", fn := fun _ => fun
  | [d1, d2, d3, d4] => { results := [.lit (.bool true)], args := [d1, d2, d3, d4] }
  | _ => none }
def fnExactWaitingSumRow : OpenClaim := { program := "ytlmfohjfbolhpaa", sum := "c3cd277cabab475fa4481f9a472d16793aa6c7f58e86008a54ac8f0514830ead", func := "loop.example/g00940/laws.FnExactWaitingSum", spec := "fnExactWaitingSum", apart := false }
def FnExactWaitingSumSaid : Prop := fnExactWaitingSumRow.holds Try.pinned (OpenSpec.ofChange fnExactWaitingSumSpec)

/-- ITS FALSE NEIGHBOUR: 'it returns false'. Refute it at one input. -/
def fnExactWaitingSumWrong : ChangeSpec := { name := "fnExactWaitingSum", fn := fun _ => fun
  | [d1, d2, d3, d4] => { results := [.lit (.bool false)], args := [d1, d2, d3, d4] }
  | _ => none }
def FnExactWaitingSumWrongFalsely : Prop := fnExactWaitingSumRow.holds Try.pinned (OpenSpec.ofChange fnExactWaitingSumWrong)

/-- 'laws.FnExactHeldAt': WHATEVER THE INPUT: true; the input reads as it did. -/
def fnExactHeldAtSpec : ChangeSpec := { name := "fnExactHeldAt", fn := fun _ => fun
  | [d1, d2, d3, d4, d5] => { results := [.lit (.bool true)], args := [d1, d2, d3, d4, d5] }
  | _ => none }
def fnExactHeldAtRow : OpenClaim := { program := "ytlmfohjfbolhpaa", sum := "c3cd277cabab475fa4481f9a472d16793aa6c7f58e86008a54ac8f0514830ead", func := "loop.example/g00940/laws.FnExactHeldAt", spec := "fnExactHeldAt", apart := false }
def FnExactHeldAtSaid : Prop := fnExactHeldAtRow.holds Try.pinned (OpenSpec.ofChange fnExactHeldAtSpec)

/-- ITS FALSE NEIGHBOUR: 'it returns false'. Refute it at one input. -/
def fnExactHeldAtWrong : ChangeSpec := { name := "fnExactHeldAt", fn := fun _ => fun
  | [d1, d2, d3, d4, d5] => { results := [.lit (.bool false)], args := [d1, d2, d3, d4, d5] }
  | _ => none }
def FnExactHeldAtWrongFalsely : Prop := fnExactHeldAtRow.holds Try.pinned (OpenSpec.ofChange fnExactHeldAtWrong)

/-- 'laws.FnExactMostHeld': WHATEVER THE INPUT: true; the input reads as it did. -/
def fnExactMostHeldSpec : ChangeSpec := { name := "fnExactMostHeld", fn := fun _ => fun
  | [d1, d2, d3, d4] => { results := [.lit (.bool true)], args := [d1, d2, d3, d4] }
  | _ => none }
def fnExactMostHeldRow : OpenClaim := { program := "ytlmfohjfbolhpaa", sum := "c3cd277cabab475fa4481f9a472d16793aa6c7f58e86008a54ac8f0514830ead", func := "loop.example/g00940/laws.FnExactMostHeld", spec := "fnExactMostHeld", apart := false }
def FnExactMostHeldSaid : Prop := fnExactMostHeldRow.holds Try.pinned (OpenSpec.ofChange fnExactMostHeldSpec)

/-- ITS FALSE NEIGHBOUR: 'it returns false'. Refute it at one input. -/
def fnExactMostHeldWrong : ChangeSpec := { name := "fnExactMostHeld", fn := fun _ => fun
  | [d1, d2, d3, d4] => { results := [.lit (.bool false)], args := [d1, d2, d3, d4] }
  | _ => none }
def FnExactMostHeldWrongFalsely : Prop := fnExactMostHeldRow.holds Try.pinned (OpenSpec.ofChange fnExactMostHeldWrong)

/-- 'laws.FnExactHoldStarts': WHATEVER THE INPUT: true; the input reads as it did. -/
def fnExactHoldStartsSpec : ChangeSpec := { name := "fnExactHoldStarts", fn := fun _ => fun
  | [d1, d2, d3, d4] => { results := [.lit (.bool true)], args := [d1, d2, d3, d4] }
  | _ => none }
def fnExactHoldStartsRow : OpenClaim := { program := "ytlmfohjfbolhpaa", sum := "c3cd277cabab475fa4481f9a472d16793aa6c7f58e86008a54ac8f0514830ead", func := "loop.example/g00940/laws.FnExactHoldStarts", spec := "fnExactHoldStarts", apart := false }
def FnExactHoldStartsSaid : Prop := fnExactHoldStartsRow.holds Try.pinned (OpenSpec.ofChange fnExactHoldStartsSpec)

/-- ITS FALSE NEIGHBOUR: 'it returns false'. Refute it at one input. -/
def fnExactHoldStartsWrong : ChangeSpec := { name := "fnExactHoldStarts", fn := fun _ => fun
  | [d1, d2, d3, d4] => { results := [.lit (.bool false)], args := [d1, d2, d3, d4] }
  | _ => none }
def FnExactHoldStartsWrongFalsely : Prop := fnExactHoldStartsRow.holds Try.pinned (OpenSpec.ofChange fnExactHoldStartsWrong)

/-- 'laws.FnExactHoldArrivals': WHATEVER THE INPUT: true; the input reads as it did. -/
def fnExactHoldArrivalsSpec : ChangeSpec := { name := "fnExactHoldArrivals", fn := fun _ => fun
  | [d1, d2, d3, d4] => { results := [.lit (.bool true)], args := [d1, d2, d3, d4] }
  | _ => none }
def fnExactHoldArrivalsRow : OpenClaim := { program := "ytlmfohjfbolhpaa", sum := "c3cd277cabab475fa4481f9a472d16793aa6c7f58e86008a54ac8f0514830ead", func := "loop.example/g00940/laws.FnExactHoldArrivals", spec := "fnExactHoldArrivals", apart := false }
def FnExactHoldArrivalsSaid : Prop := fnExactHoldArrivalsRow.holds Try.pinned (OpenSpec.ofChange fnExactHoldArrivalsSpec)

/-- ITS FALSE NEIGHBOUR: 'it returns false'. Refute it at one input. -/
def fnExactHoldArrivalsWrong : ChangeSpec := { name := "fnExactHoldArrivals", fn := fun _ => fun
  | [d1, d2, d3, d4] => { results := [.lit (.bool false)], args := [d1, d2, d3, d4] }
  | _ => none }
def FnExactHoldArrivalsWrongFalsely : Prop := fnExactHoldArrivalsRow.holds Try.pinned (OpenSpec.ofChange fnExactHoldArrivalsWrong)

/-- 'laws.FnHolds': WHATEVER THE INPUT: true; the input reads as it did. -/
def fnHoldsSpec : ChangeSpec := { name := "fnHolds", fn := fun _ => fun
  | [d1, d2] => { results := [.lit (.bool true)], args := [d1, d2] }
  | _ => none }
def fnHoldsRow : OpenClaim := { program := "ytlmfohjfbolhpaa", sum := "c3cd277cabab475fa4481f9a472d16793aa6c7f58e86008a54ac8f0514830ead", func := "loop.example/g00940/laws.FnHolds", spec := "fnHolds", apart := false }
def FnHoldsSaid : Prop := fnHoldsRow.holds Try.pinned (OpenSpec.ofChange fnHoldsSpec)

/-- ITS FALSE NEIGHBOUR: 'it returns false'. Refute it at one input. -/
def fnHoldsWrong : ChangeSpec := { name := "fnHolds", fn := fun _ => fun
  | [d1, d2] => { results := [.lit (.bool false)], args := [d1, d2] }
  | _ => none }
def FnHoldsWrongFalsely : Prop := fnHoldsRow.holds Try.pinned (OpenSpec.ofChange fnHoldsWrong)

/-- 'laws.FnExactHoldPackets': WHATEVER THE INPUT: true; the input reads as it did. -/
def fnExactHoldPacketsSpec : ChangeSpec := { name := "fnExactHoldPackets", fn := fun _ => fun
  | [d1, d2, d3, d4, d5] => { results := [.lit (.bool true)], args := [d1, d2, d3, d4, d5] }
  | _ => none }
def fnExactHoldPacketsRow : OpenClaim := { program := "ytlmfohjfbolhpaa", sum := "c3cd277cabab475fa4481f9a472d16793aa6c7f58e86008a54ac8f0514830ead", func := "loop.example/g00940/laws.FnExactHoldPackets", spec := "fnExactHoldPackets", unfollowed := true, recurses := true, apart := false }
def FnExactHoldPacketsSaid : Prop := fnExactHoldPacketsRow.holds Try.pinned (OpenSpec.ofChange fnExactHoldPacketsSpec)

/-- ITS FALSE NEIGHBOUR: 'it returns false'. Refute it at one input. -/
def fnExactHoldPacketsWrong : ChangeSpec := { name := "fnExactHoldPackets", fn := fun _ => fun
  | [d1, d2, d3, d4, d5] => { results := [.lit (.bool false)], args := [d1, d2, d3, d4, d5] }
  | _ => none }
def FnExactHoldPacketsWrongFalsely : Prop := fnExactHoldPacketsRow.holds Try.pinned (OpenSpec.ofChange fnExactHoldPacketsWrong)

/- THE SECOND FORM. 'bulk': how many values and letters a reading holds, each counted each time it is reached (what is shared counts as often as it is met; a slice's spare places count too). A statement '..UptoSaid' is the law's where the arguments, and the package variables that the reading takes, are together of bulk at most 1048576: NARROWER than '..Said'. Prove '..Said' where nothing that the law and all that it calls make is longer than what came in: it says more and counts as full. Else prove '..UptoSaid'. A law counts once. -/
mutual
def uptoBulk {H : Type} : DataW H → Nat
  | .lit (.string bytes) => bytes.length + 1
  | .lit _ => 1
  | .nil => 1
  | .ptr d => uptoBulk d + 1
  | .slice elems spare => uptoBulkAll elems + uptoBulkAll spare + 1
  | .agg parts => uptoBulkAll parts + 1
  | .iface _ d => uptoBulk d + 1
  | .map entries => uptoBulkEntries entries + 1
  | .held _ => 1
def uptoBulkAll {H : Type} : List (DataW H) → Nat
  | [] => 0
  | d :: r => uptoBulk d + uptoBulkAll r
def uptoBulkEntries {H : Type} : List (Lit × DataW H) → Nat
  | [] => 0
  | x :: r => uptoBulkEntry x + uptoBulkEntries r
def uptoBulkEntry {H : Type} : Lit × DataW H → Nat
  | (.string bytes, d) => bytes.length + uptoBulk d + 1
  | (_, d) => uptoBulk d + 1
 end
def uptoSmall : (H : Type) → List (DataW H) → Bool := fun _ ds => decide (uptoBulkAll ds ≤ 1048576)
def OpenSpec.upto (s : _root_.Go.ChangeSpec) : _root_.Go.OpenSpec := { _root_.Go.OpenSpec.ofChange s with cond := some uptoSmall }

/-- 'laws.FnExactNightFogs', WHERE WHAT IT READS IS OF BULK AT MOST 1048576: true; the input reads as it did. -/
def fnExactNightFogsUptoRow : OpenClaim := { program := "ytlmfohjfbolhpaa", sum := "c3cd277cabab475fa4481f9a472d16793aa6c7f58e86008a54ac8f0514830ead", func := "loop.example/g00940/laws.FnExactNightFogs", spec := "fnExactNightFogs", unfollowed := true, recurses := true, apart := false, narrowed := true }
def FnExactNightFogsUptoSaid : Prop := fnExactNightFogsUptoRow.holds Try.pinned (OpenSpec.upto fnExactNightFogsSpec)

/-- 'laws.FnExactAreHeldJobs', WHERE WHAT IT READS IS OF BULK AT MOST 1048576: true; the input reads as it did. -/
def fnExactAreHeldJobsUptoRow : OpenClaim := { program := "ytlmfohjfbolhpaa", sum := "c3cd277cabab475fa4481f9a472d16793aa6c7f58e86008a54ac8f0514830ead", func := "loop.example/g00940/laws.FnExactAreHeldJobs", spec := "fnExactAreHeldJobs", apart := false, narrowed := true }
def FnExactAreHeldJobsUptoSaid : Prop := fnExactAreHeldJobsUptoRow.holds Try.pinned (OpenSpec.upto fnExactAreHeldJobsSpec)

/-- 'laws.FnHeldPackets', WHERE WHAT IT READS IS OF BULK AT MOST 1048576: true; the input reads as it did. -/
def fnHeldPacketsUptoRow : OpenClaim := { program := "ytlmfohjfbolhpaa", sum := "c3cd277cabab475fa4481f9a472d16793aa6c7f58e86008a54ac8f0514830ead", func := "loop.example/g00940/laws.FnHeldPackets", spec := "fnHeldPackets", unfollowed := true, recurses := true, apart := false, narrowed := true }
def FnHeldPacketsUptoSaid : Prop := fnHeldPacketsUptoRow.holds Try.pinned (OpenSpec.upto fnHeldPacketsSpec)

/-- 'laws.FnExactLastCount', WHERE WHAT IT READS IS OF BULK AT MOST 1048576: true; the input reads as it did. -/
def fnExactLastCountUptoRow : OpenClaim := { program := "ytlmfohjfbolhpaa", sum := "c3cd277cabab475fa4481f9a472d16793aa6c7f58e86008a54ac8f0514830ead", func := "loop.example/g00940/laws.FnExactLastCount", spec := "fnExactLastCount", apart := false, narrowed := true }
def FnExactLastCountUptoSaid : Prop := fnExactLastCountUptoRow.holds Try.pinned (OpenSpec.upto fnExactLastCountSpec)

/-- 'laws.FnExactWaitingSum', WHERE WHAT IT READS IS OF BULK AT MOST 1048576: true; the input reads as it did. -/
def fnExactWaitingSumUptoRow : OpenClaim := { program := "ytlmfohjfbolhpaa", sum := "c3cd277cabab475fa4481f9a472d16793aa6c7f58e86008a54ac8f0514830ead", func := "loop.example/g00940/laws.FnExactWaitingSum", spec := "fnExactWaitingSum", apart := false, narrowed := true }
def FnExactWaitingSumUptoSaid : Prop := fnExactWaitingSumUptoRow.holds Try.pinned (OpenSpec.upto fnExactWaitingSumSpec)

/-- 'laws.FnExactHeldAt', WHERE WHAT IT READS IS OF BULK AT MOST 1048576: true; the input reads as it did. -/
def fnExactHeldAtUptoRow : OpenClaim := { program := "ytlmfohjfbolhpaa", sum := "c3cd277cabab475fa4481f9a472d16793aa6c7f58e86008a54ac8f0514830ead", func := "loop.example/g00940/laws.FnExactHeldAt", spec := "fnExactHeldAt", apart := false, narrowed := true }
def FnExactHeldAtUptoSaid : Prop := fnExactHeldAtUptoRow.holds Try.pinned (OpenSpec.upto fnExactHeldAtSpec)

/-- 'laws.FnExactMostHeld', WHERE WHAT IT READS IS OF BULK AT MOST 1048576: true; the input reads as it did. -/
def fnExactMostHeldUptoRow : OpenClaim := { program := "ytlmfohjfbolhpaa", sum := "c3cd277cabab475fa4481f9a472d16793aa6c7f58e86008a54ac8f0514830ead", func := "loop.example/g00940/laws.FnExactMostHeld", spec := "fnExactMostHeld", apart := false, narrowed := true }
def FnExactMostHeldUptoSaid : Prop := fnExactMostHeldUptoRow.holds Try.pinned (OpenSpec.upto fnExactMostHeldSpec)

/-- 'laws.FnExactHoldStarts', WHERE WHAT IT READS IS OF BULK AT MOST 1048576: true; the input reads as it did. -/
def fnExactHoldStartsUptoRow : OpenClaim := { program := "ytlmfohjfbolhpaa", sum := "c3cd277cabab475fa4481f9a472d16793aa6c7f58e86008a54ac8f0514830ead", func := "loop.example/g00940/laws.FnExactHoldStarts", spec := "fnExactHoldStarts", apart := false, narrowed := true }
def FnExactHoldStartsUptoSaid : Prop := fnExactHoldStartsUptoRow.holds Try.pinned (OpenSpec.upto fnExactHoldStartsSpec)

/-- 'laws.FnExactHoldArrivals', WHERE WHAT IT READS IS OF BULK AT MOST 1048576: true; the input reads as it did. -/
def fnExactHoldArrivalsUptoRow : OpenClaim := { program := "ytlmfohjfbolhpaa", sum := "c3cd277cabab475fa4481f9a472d16793aa6c7f58e86008a54ac8f0514830ead", func := "loop.example/g00940/laws.FnExactHoldArrivals", spec := "fnExactHoldArrivals", apart := false, narrowed := true }
def FnExactHoldArrivalsUptoSaid : Prop := fnExactHoldArrivalsUptoRow.holds Try.pinned (OpenSpec.upto fnExactHoldArrivalsSpec)

/-- 'laws.FnHolds', WHERE WHAT IT READS IS OF BULK AT MOST 1048576: true; the input reads as it did. -/
def fnHoldsUptoRow : OpenClaim := { program := "ytlmfohjfbolhpaa", sum := "c3cd277cabab475fa4481f9a472d16793aa6c7f58e86008a54ac8f0514830ead", func := "loop.example/g00940/laws.FnHolds", spec := "fnHolds", apart := false, narrowed := true }
def FnHoldsUptoSaid : Prop := fnHoldsUptoRow.holds Try.pinned (OpenSpec.upto fnHoldsSpec)

/-- 'laws.FnExactHoldPackets', WHERE WHAT IT READS IS OF BULK AT MOST 1048576: true; the input reads as it did. -/
def fnExactHoldPacketsUptoRow : OpenClaim := { program := "ytlmfohjfbolhpaa", sum := "c3cd277cabab475fa4481f9a472d16793aa6c7f58e86008a54ac8f0514830ead", func := "loop.example/g00940/laws.FnExactHoldPackets", spec := "fnExactHoldPackets", unfollowed := true, recurses := true, apart := false, narrowed := true }
def FnExactHoldPacketsUptoSaid : Prop := fnExactHoldPacketsUptoRow.holds Try.pinned (OpenSpec.upto fnExactHoldPacketsSpec)

end Rows
end Go.Proofs.Ytlmfohjfbolhpaa
