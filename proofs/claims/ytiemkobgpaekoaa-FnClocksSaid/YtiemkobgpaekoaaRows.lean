/-
  No cell of these rows narrows 'for every input' (looked for: loops, veiled, ifaces, maps, wideKeys, modest, calm, conditions, laid).
  DERIVED. THE GIVEN ROWS OF THIS SEAT. 13 by the template 'for every input the law returns true; each argument reads behind the call as it read before'; 0 by the template 'total and deterministic' (their statements: YtiemkobgpaekoaaTotals.lean).
  GIVEN WITH THE SEED: the statements are not yours to turn. If you find one false, say at which input.
  Laid BY PROGRAM, IN A SANDBOX (cutbox-rows.mjs): the forced cells as the released guide's own fill.sh prints them over the translation c6f7c723ee3f47ff… (all of the seat's roots in one cut). By AI agents, Wed Nov 11 2026. No macro, syntax, notation, axiom, sorry.
-/
import Derived.Test.YtiemkobgpaekoaaChecked
import GoSem.Claim
import GoSem.ClaimJoined
import GoSem.ClaimMapViews
import Derived.JoinedTies
import Derived.KernelRfl
namespace Go.Proofs.Ytiemkobgpaekoaa
/- THE CELL 'sum', in the pinned program and in every row, IS THE sha256 OF THE DUMP (.gsa) THAT YtiemkobgpaekoaaProg.lean LOADS. Nothing in Lean hashes anything: it is a label: what it is worth is what the hold of that sum in a sandbox is worth. -/
noncomputable def Try.pinned : Pinned := { name := "ytiemkobgpaekoaa", sum := "c6f7c723ee3f47ffb7206b9f85cc3179c699c2716faa02d3349d5f3beed44d95", checked := Try.checked }
namespace Rows
def none {H : Type} : Left H := { results := [], args := [] }

/-- 'laws.FnExactIsBound': WHATEVER THE INPUT: true; the input reads as it did. -/
def fnExactIsBoundSpec : ChangeSpec := { name := "fnExactIsBound", fn := fun _ => fun
  | [d] => { results := [.lit (.bool true)], args := [d] }
  | _ => none }
def fnExactIsBoundRow : OpenClaim := { program := "ytiemkobgpaekoaa", sum := "c6f7c723ee3f47ffb7206b9f85cc3179c699c2716faa02d3349d5f3beed44d95", func := "loop.example/g00940/laws.FnExactIsBound", spec := "fnExactIsBound", apart := false }
def FnExactIsBoundSaid : Prop := fnExactIsBoundRow.holds Try.pinned (OpenSpec.ofChange fnExactIsBoundSpec)

/-- ITS FALSE NEIGHBOUR: 'it returns false'. Refute it at one input. -/
def fnExactIsBoundWrong : ChangeSpec := { name := "fnExactIsBound", fn := fun _ => fun
  | [d] => { results := [.lit (.bool false)], args := [d] }
  | _ => none }
def FnExactIsBoundWrongFalsely : Prop := fnExactIsBoundRow.holds Try.pinned (OpenSpec.ofChange fnExactIsBoundWrong)

/-- 'laws.FnExactWidthOf': WHATEVER THE INPUT: true; the input reads as it did. -/
def fnExactWidthOfSpec : ChangeSpec := { name := "fnExactWidthOf", fn := fun _ => fun
  | [d] => { results := [.lit (.bool true)], args := [d] }
  | _ => none }
def fnExactWidthOfRow : OpenClaim := { program := "ytiemkobgpaekoaa", sum := "c6f7c723ee3f47ffb7206b9f85cc3179c699c2716faa02d3349d5f3beed44d95", func := "loop.example/g00940/laws.FnExactWidthOf", spec := "fnExactWidthOf", apart := false }
def FnExactWidthOfSaid : Prop := fnExactWidthOfRow.holds Try.pinned (OpenSpec.ofChange fnExactWidthOfSpec)

/-- ITS FALSE NEIGHBOUR: 'it returns false'. Refute it at one input. -/
def fnExactWidthOfWrong : ChangeSpec := { name := "fnExactWidthOf", fn := fun _ => fun
  | [d] => { results := [.lit (.bool false)], args := [d] }
  | _ => none }
def FnExactWidthOfWrongFalsely : Prop := fnExactWidthOfRow.holds Try.pinned (OpenSpec.ofChange fnExactWidthOfWrong)

/-- 'laws.FnExactSurelyBefore': WHATEVER THE INPUT: true; the input reads as it did. -/
def fnExactSurelyBeforeSpec : ChangeSpec := { name := "fnExactSurelyBefore", fn := fun _ => fun
  | [d1, d2, d3] => { results := [.lit (.bool true)], args := [d1, d2, d3] }
  | _ => none }
def fnExactSurelyBeforeRow : OpenClaim := { program := "ytiemkobgpaekoaa", sum := "c6f7c723ee3f47ffb7206b9f85cc3179c699c2716faa02d3349d5f3beed44d95", func := "loop.example/g00940/laws.FnExactSurelyBefore", spec := "fnExactSurelyBefore", apart := false }
def FnExactSurelyBeforeSaid : Prop := fnExactSurelyBeforeRow.holds Try.pinned (OpenSpec.ofChange fnExactSurelyBeforeSpec)

/-- ITS FALSE NEIGHBOUR: 'it returns false'. Refute it at one input. -/
def fnExactSurelyBeforeWrong : ChangeSpec := { name := "fnExactSurelyBefore", fn := fun _ => fun
  | [d1, d2, d3] => { results := [.lit (.bool false)], args := [d1, d2, d3] }
  | _ => none }
def FnExactSurelyBeforeWrongFalsely : Prop := fnExactSurelyBeforeRow.holds Try.pinned (OpenSpec.ofChange fnExactSurelyBeforeWrong)

/-- 'laws.FnExactTimesAt': WHATEVER THE INPUT: true; the input reads as it did. -/
def fnExactTimesAtSpec : ChangeSpec := { name := "fnExactTimesAt", fn := fun _ => fun
  | [d1, d2] => { results := [.lit (.bool true)], args := [d1, d2] }
  | _ => none }
def fnExactTimesAtRow : OpenClaim := { program := "ytiemkobgpaekoaa", sum := "c6f7c723ee3f47ffb7206b9f85cc3179c699c2716faa02d3349d5f3beed44d95", func := "loop.example/g00940/laws.FnExactTimesAt", spec := "fnExactTimesAt", apart := false }
def FnExactTimesAtSaid : Prop := fnExactTimesAtRow.holds Try.pinned (OpenSpec.ofChange fnExactTimesAtSpec)

/-- ITS FALSE NEIGHBOUR: 'it returns false'. Refute it at one input. -/
def fnExactTimesAtWrong : ChangeSpec := { name := "fnExactTimesAt", fn := fun _ => fun
  | [d1, d2] => { results := [.lit (.bool false)], args := [d1, d2] }
  | _ => none }
def FnExactTimesAtWrongFalsely : Prop := fnExactTimesAtRow.holds Try.pinned (OpenSpec.ofChange fnExactTimesAtWrong)

/-- 'laws.FnExactTurnBound': WHATEVER THE INPUT: true; the input reads as it did. -/
def fnExactTurnBoundSpec : ChangeSpec := { name := "fnExactTurnBound", fn := fun _ => fun
  | [d] => { results := [.lit (.bool true)], args := [d] }
  | _ => none }
def fnExactTurnBoundRow : OpenClaim := { program := "ytiemkobgpaekoaa", sum := "c6f7c723ee3f47ffb7206b9f85cc3179c699c2716faa02d3349d5f3beed44d95", func := "loop.example/g00940/laws.FnExactTurnBound", spec := "fnExactTurnBound", apart := false }
def FnExactTurnBoundSaid : Prop := fnExactTurnBoundRow.holds Try.pinned (OpenSpec.ofChange fnExactTurnBoundSpec)

/-- ITS FALSE NEIGHBOUR: 'it returns false'. Refute it at one input. -/
def fnExactTurnBoundWrong : ChangeSpec := { name := "fnExactTurnBound", fn := fun _ => fun
  | [d] => { results := [.lit (.bool false)], args := [d] }
  | _ => none }
def FnExactTurnBoundWrongFalsely : Prop := fnExactTurnBoundRow.holds Try.pinned (OpenSpec.ofChange fnExactTurnBoundWrong)

/-- 'laws.FnExactSecondsToWidth': WHATEVER THE INPUT: true; the input reads as it did. -/
def fnExactSecondsToWidthSpec : ChangeSpec := { name := "fnExactSecondsToWidth", fn := fun _ => fun
  | [d1, d2, d3] => { results := [.lit (.bool true)], args := [d1, d2, d3] }
  | _ => none }
def fnExactSecondsToWidthRow : OpenClaim := { program := "ytiemkobgpaekoaa", sum := "c6f7c723ee3f47ffb7206b9f85cc3179c699c2716faa02d3349d5f3beed44d95", func := "loop.example/g00940/laws.FnExactSecondsToWidth", spec := "fnExactSecondsToWidth", apart := false }
def FnExactSecondsToWidthSaid : Prop := fnExactSecondsToWidthRow.holds Try.pinned (OpenSpec.ofChange fnExactSecondsToWidthSpec)

/-- ITS FALSE NEIGHBOUR: 'it returns false'. Refute it at one input. -/
def fnExactSecondsToWidthWrong : ChangeSpec := { name := "fnExactSecondsToWidth", fn := fun _ => fun
  | [d1, d2, d3] => { results := [.lit (.bool false)], args := [d1, d2, d3] }
  | _ => none }
def FnExactSecondsToWidthWrongFalsely : Prop := fnExactSecondsToWidthRow.holds Try.pinned (OpenSpec.ofChange fnExactSecondsToWidthWrong)

/-- 'laws.FnExactSetByAnswer': WHATEVER THE INPUT: true; the input reads as it did. -/
def fnExactSetByAnswerSpec : ChangeSpec := { name := "fnExactSetByAnswer", fn := fun _ => fun
  | [d1, d2, d3] => { results := [.lit (.bool true)], args := [d1, d2, d3] }
  | _ => none }
def fnExactSetByAnswerRow : OpenClaim := { program := "ytiemkobgpaekoaa", sum := "c6f7c723ee3f47ffb7206b9f85cc3179c699c2716faa02d3349d5f3beed44d95", func := "loop.example/g00940/laws.FnExactSetByAnswer", spec := "fnExactSetByAnswer", apart := false }
def FnExactSetByAnswerSaid : Prop := fnExactSetByAnswerRow.holds Try.pinned (OpenSpec.ofChange fnExactSetByAnswerSpec)

/-- ITS FALSE NEIGHBOUR: 'it returns false'. Refute it at one input. -/
def fnExactSetByAnswerWrong : ChangeSpec := { name := "fnExactSetByAnswer", fn := fun _ => fun
  | [d1, d2, d3] => { results := [.lit (.bool false)], args := [d1, d2, d3] }
  | _ => none }
def FnExactSetByAnswerWrongFalsely : Prop := fnExactSetByAnswerRow.holds Try.pinned (OpenSpec.ofChange fnExactSetByAnswerWrong)

/-- 'laws.FnExactSetBySignal': WHATEVER THE INPUT: true; the input reads as it did. -/
def fnExactSetBySignalSpec : ChangeSpec := { name := "fnExactSetBySignal", fn := fun _ => fun
  | [d1, d2, d3, d4] => { results := [.lit (.bool true)], args := [d1, d2, d3, d4] }
  | _ => none }
def fnExactSetBySignalRow : OpenClaim := { program := "ytiemkobgpaekoaa", sum := "c6f7c723ee3f47ffb7206b9f85cc3179c699c2716faa02d3349d5f3beed44d95", func := "loop.example/g00940/laws.FnExactSetBySignal", spec := "fnExactSetBySignal", apart := false }
def FnExactSetBySignalSaid : Prop := fnExactSetBySignalRow.holds Try.pinned (OpenSpec.ofChange fnExactSetBySignalSpec)

/-- ITS FALSE NEIGHBOUR: 'it returns false'. Refute it at one input. -/
def fnExactSetBySignalWrong : ChangeSpec := { name := "fnExactSetBySignal", fn := fun _ => fun
  | [d1, d2, d3, d4] => { results := [.lit (.bool false)], args := [d1, d2, d3, d4] }
  | _ => none }
def FnExactSetBySignalWrongFalsely : Prop := fnExactSetBySignalRow.holds Try.pinned (OpenSpec.ofChange fnExactSetBySignalWrong)

/-- 'laws.FnExactAgedBound': WHATEVER THE INPUT: true; the input reads as it did. -/
def fnExactAgedBoundSpec : ChangeSpec := { name := "fnExactAgedBound", fn := fun _ => fun
  | [d1, d2, d3] => { results := [.lit (.bool true)], args := [d1, d2, d3] }
  | _ => none }
def fnExactAgedBoundRow : OpenClaim := { program := "ytiemkobgpaekoaa", sum := "c6f7c723ee3f47ffb7206b9f85cc3179c699c2716faa02d3349d5f3beed44d95", func := "loop.example/g00940/laws.FnExactAgedBound", spec := "fnExactAgedBound", apart := false }
def FnExactAgedBoundSaid : Prop := fnExactAgedBoundRow.holds Try.pinned (OpenSpec.ofChange fnExactAgedBoundSpec)

/-- ITS FALSE NEIGHBOUR: 'it returns false'. Refute it at one input. -/
def fnExactAgedBoundWrong : ChangeSpec := { name := "fnExactAgedBound", fn := fun _ => fun
  | [d1, d2, d3] => { results := [.lit (.bool false)], args := [d1, d2, d3] }
  | _ => none }
def FnExactAgedBoundWrongFalsely : Prop := fnExactAgedBoundRow.holds Try.pinned (OpenSpec.ofChange fnExactAgedBoundWrong)

/-- 'laws.FnExactChainBounds': WHATEVER THE INPUT: true; the input reads as it did. -/
def fnExactChainBoundsSpec : ChangeSpec := { name := "fnExactChainBounds", fn := fun _ => fun
  | [d] => { results := [.lit (.bool true)], args := [d] }
  | _ => none }
def fnExactChainBoundsRow : OpenClaim := { program := "ytiemkobgpaekoaa", sum := "c6f7c723ee3f47ffb7206b9f85cc3179c699c2716faa02d3349d5f3beed44d95", func := "loop.example/g00940/laws.FnExactChainBounds", spec := "fnExactChainBounds", apart := false }
def FnExactChainBoundsSaid : Prop := fnExactChainBoundsRow.holds Try.pinned (OpenSpec.ofChange fnExactChainBoundsSpec)

/-- ITS FALSE NEIGHBOUR: 'it returns false'. Refute it at one input. -/
def fnExactChainBoundsWrong : ChangeSpec := { name := "fnExactChainBounds", fn := fun _ => fun
  | [d] => { results := [.lit (.bool false)], args := [d] }
  | _ => none }
def FnExactChainBoundsWrongFalsely : Prop := fnExactChainBoundsRow.holds Try.pinned (OpenSpec.ofChange fnExactChainBoundsWrong)

/-- 'laws.FnExactMeetBounds': WHATEVER THE INPUT: true; the input reads as it did. -/
def fnExactMeetBoundsSpec : ChangeSpec := { name := "fnExactMeetBounds", fn := fun _ => fun
  | [d] => { results := [.lit (.bool true)], args := [d] }
  | _ => none }
def fnExactMeetBoundsRow : OpenClaim := { program := "ytiemkobgpaekoaa", sum := "c6f7c723ee3f47ffb7206b9f85cc3179c699c2716faa02d3349d5f3beed44d95", func := "loop.example/g00940/laws.FnExactMeetBounds", spec := "fnExactMeetBounds", apart := false }
def FnExactMeetBoundsSaid : Prop := fnExactMeetBoundsRow.holds Try.pinned (OpenSpec.ofChange fnExactMeetBoundsSpec)

/-- ITS FALSE NEIGHBOUR: 'it returns false'. Refute it at one input. -/
def fnExactMeetBoundsWrong : ChangeSpec := { name := "fnExactMeetBounds", fn := fun _ => fun
  | [d] => { results := [.lit (.bool false)], args := [d] }
  | _ => none }
def FnExactMeetBoundsWrongFalsely : Prop := fnExactMeetBoundsRow.holds Try.pinned (OpenSpec.ofChange fnExactMeetBoundsWrong)

/-- 'laws.FnOffsets': WHATEVER THE INPUT: true; the input reads as it did. -/
def fnOffsetsSpec : ChangeSpec := { name := "fnOffsets", fn := fun _ => fun
  | [d1, d2] => { results := [.lit (.bool true)], args := [d1, d2] }
  | _ => none }
def fnOffsetsRow : OpenClaim := { program := "ytiemkobgpaekoaa", sum := "c6f7c723ee3f47ffb7206b9f85cc3179c699c2716faa02d3349d5f3beed44d95", func := "loop.example/g00940/laws.FnOffsets", spec := "fnOffsets", apart := false }
def FnOffsetsSaid : Prop := fnOffsetsRow.holds Try.pinned (OpenSpec.ofChange fnOffsetsSpec)

/-- ITS FALSE NEIGHBOUR: 'it returns false'. Refute it at one input. -/
def fnOffsetsWrong : ChangeSpec := { name := "fnOffsets", fn := fun _ => fun
  | [d1, d2] => { results := [.lit (.bool false)], args := [d1, d2] }
  | _ => none }
def FnOffsetsWrongFalsely : Prop := fnOffsetsRow.holds Try.pinned (OpenSpec.ofChange fnOffsetsWrong)

/-- 'laws.FnClocks': WHATEVER THE INPUT: true; the input reads as it did. -/
def fnClocksSpec : ChangeSpec := { name := "fnClocks", fn := fun _ => fun
  | [d1, d2] => { results := [.lit (.bool true)], args := [d1, d2] }
  | _ => none }
def fnClocksRow : OpenClaim := { program := "ytiemkobgpaekoaa", sum := "c6f7c723ee3f47ffb7206b9f85cc3179c699c2716faa02d3349d5f3beed44d95", func := "loop.example/g00940/laws.FnClocks", spec := "fnClocks", apart := false }
def FnClocksSaid : Prop := fnClocksRow.holds Try.pinned (OpenSpec.ofChange fnClocksSpec)

/-- ITS FALSE NEIGHBOUR: 'it returns false'. Refute it at one input. -/
def fnClocksWrong : ChangeSpec := { name := "fnClocks", fn := fun _ => fun
  | [d1, d2] => { results := [.lit (.bool false)], args := [d1, d2] }
  | _ => none }
def FnClocksWrongFalsely : Prop := fnClocksRow.holds Try.pinned (OpenSpec.ofChange fnClocksWrong)

/- THE SECOND FORM. 'bulk': how many values and letters a reading holds, each counted each time it is reached (what is shared counts as often as it is met; a slice's spare places count too). A statement '..UptoSaid' is the law's where the arguments, and the package variables that the reading takes, are together of bulk at most 1048576: NARROWER than '..Said'. Prove '..Said' where nothing that the law and all that it calls make is longer than what came in: it says more and counts as full. Else prove '..UptoSaid'. A law counts once. -/
mutual
def uptoBulk {H : Type} : DataW H → Nat
  | .lit (.string bytes) => bytes.length + 1
  | .lit _ => 1
  | .nil => 1
  | .ptr d => uptoBulk d + 1
  | .slice elems spare => uptoBulkAll elems + uptoBulkAll spare + 1
  | .agg parts => uptoBulkAll parts + 1
  | .iface _ d => uptoBulk d + 1
  | .map entries => uptoBulkEntries entries + 1
  | .held _ => 1
def uptoBulkAll {H : Type} : List (DataW H) → Nat
  | [] => 0
  | d :: r => uptoBulk d + uptoBulkAll r
def uptoBulkEntries {H : Type} : List (Lit × DataW H) → Nat
  | [] => 0
  | x :: r => uptoBulkEntry x + uptoBulkEntries r
def uptoBulkEntry {H : Type} : Lit × DataW H → Nat
  | (.string bytes, d) => bytes.length + uptoBulk d + 1
  | (_, d) => uptoBulk d + 1
 end
def uptoSmall : (H : Type) → List (DataW H) → Bool := fun _ ds => decide (uptoBulkAll ds ≤ 1048576)
def OpenSpec.upto (s : _root_.Go.ChangeSpec) : _root_.Go.OpenSpec := { _root_.Go.OpenSpec.ofChange s with cond := some uptoSmall }

/-- 'laws.FnExactIsBound', WHERE WHAT IT READS IS OF BULK AT MOST 1048576: true; the input reads as it did. -/
def fnExactIsBoundUptoRow : OpenClaim := { program := "ytiemkobgpaekoaa", sum := "c6f7c723ee3f47ffb7206b9f85cc3179c699c2716faa02d3349d5f3beed44d95", func := "loop.example/g00940/laws.FnExactIsBound", spec := "fnExactIsBound", apart := false, narrowed := true }
def FnExactIsBoundUptoSaid : Prop := fnExactIsBoundUptoRow.holds Try.pinned (OpenSpec.upto fnExactIsBoundSpec)

/-- 'laws.FnExactWidthOf', WHERE WHAT IT READS IS OF BULK AT MOST 1048576: true; the input reads as it did. -/
def fnExactWidthOfUptoRow : OpenClaim := { program := "ytiemkobgpaekoaa", sum := "c6f7c723ee3f47ffb7206b9f85cc3179c699c2716faa02d3349d5f3beed44d95", func := "loop.example/g00940/laws.FnExactWidthOf", spec := "fnExactWidthOf", apart := false, narrowed := true }
def FnExactWidthOfUptoSaid : Prop := fnExactWidthOfUptoRow.holds Try.pinned (OpenSpec.upto fnExactWidthOfSpec)

/-- 'laws.FnExactSurelyBefore', WHERE WHAT IT READS IS OF BULK AT MOST 1048576: true; the input reads as it did. -/
def fnExactSurelyBeforeUptoRow : OpenClaim := { program := "ytiemkobgpaekoaa", sum := "c6f7c723ee3f47ffb7206b9f85cc3179c699c2716faa02d3349d5f3beed44d95", func := "loop.example/g00940/laws.FnExactSurelyBefore", spec := "fnExactSurelyBefore", apart := false, narrowed := true }
def FnExactSurelyBeforeUptoSaid : Prop := fnExactSurelyBeforeUptoRow.holds Try.pinned (OpenSpec.upto fnExactSurelyBeforeSpec)

/-- 'laws.FnExactTimesAt', WHERE WHAT IT READS IS OF BULK AT MOST 1048576: true; the input reads as it did. -/
def fnExactTimesAtUptoRow : OpenClaim := { program := "ytiemkobgpaekoaa", sum := "c6f7c723ee3f47ffb7206b9f85cc3179c699c2716faa02d3349d5f3beed44d95", func := "loop.example/g00940/laws.FnExactTimesAt", spec := "fnExactTimesAt", apart := false, narrowed := true }
def FnExactTimesAtUptoSaid : Prop := fnExactTimesAtUptoRow.holds Try.pinned (OpenSpec.upto fnExactTimesAtSpec)

/-- 'laws.FnExactTurnBound', WHERE WHAT IT READS IS OF BULK AT MOST 1048576: true; the input reads as it did. -/
def fnExactTurnBoundUptoRow : OpenClaim := { program := "ytiemkobgpaekoaa", sum := "c6f7c723ee3f47ffb7206b9f85cc3179c699c2716faa02d3349d5f3beed44d95", func := "loop.example/g00940/laws.FnExactTurnBound", spec := "fnExactTurnBound", apart := false, narrowed := true }
def FnExactTurnBoundUptoSaid : Prop := fnExactTurnBoundUptoRow.holds Try.pinned (OpenSpec.upto fnExactTurnBoundSpec)

/-- 'laws.FnExactSecondsToWidth', WHERE WHAT IT READS IS OF BULK AT MOST 1048576: true; the input reads as it did. -/
def fnExactSecondsToWidthUptoRow : OpenClaim := { program := "ytiemkobgpaekoaa", sum := "c6f7c723ee3f47ffb7206b9f85cc3179c699c2716faa02d3349d5f3beed44d95", func := "loop.example/g00940/laws.FnExactSecondsToWidth", spec := "fnExactSecondsToWidth", apart := false, narrowed := true }
def FnExactSecondsToWidthUptoSaid : Prop := fnExactSecondsToWidthUptoRow.holds Try.pinned (OpenSpec.upto fnExactSecondsToWidthSpec)

/-- 'laws.FnExactSetByAnswer', WHERE WHAT IT READS IS OF BULK AT MOST 1048576: true; the input reads as it did. -/
def fnExactSetByAnswerUptoRow : OpenClaim := { program := "ytiemkobgpaekoaa", sum := "c6f7c723ee3f47ffb7206b9f85cc3179c699c2716faa02d3349d5f3beed44d95", func := "loop.example/g00940/laws.FnExactSetByAnswer", spec := "fnExactSetByAnswer", apart := false, narrowed := true }
def FnExactSetByAnswerUptoSaid : Prop := fnExactSetByAnswerUptoRow.holds Try.pinned (OpenSpec.upto fnExactSetByAnswerSpec)

/-- 'laws.FnExactSetBySignal', WHERE WHAT IT READS IS OF BULK AT MOST 1048576: true; the input reads as it did. -/
def fnExactSetBySignalUptoRow : OpenClaim := { program := "ytiemkobgpaekoaa", sum := "c6f7c723ee3f47ffb7206b9f85cc3179c699c2716faa02d3349d5f3beed44d95", func := "loop.example/g00940/laws.FnExactSetBySignal", spec := "fnExactSetBySignal", apart := false, narrowed := true }
def FnExactSetBySignalUptoSaid : Prop := fnExactSetBySignalUptoRow.holds Try.pinned (OpenSpec.upto fnExactSetBySignalSpec)

/-- 'laws.FnExactAgedBound', WHERE WHAT IT READS IS OF BULK AT MOST 1048576: true; the input reads as it did. -/
def fnExactAgedBoundUptoRow : OpenClaim := { program := "ytiemkobgpaekoaa", sum := "c6f7c723ee3f47ffb7206b9f85cc3179c699c2716faa02d3349d5f3beed44d95", func := "loop.example/g00940/laws.FnExactAgedBound", spec := "fnExactAgedBound", apart := false, narrowed := true }
def FnExactAgedBoundUptoSaid : Prop := fnExactAgedBoundUptoRow.holds Try.pinned (OpenSpec.upto fnExactAgedBoundSpec)

/-- 'laws.FnExactChainBounds', WHERE WHAT IT READS IS OF BULK AT MOST 1048576: true; the input reads as it did. -/
def fnExactChainBoundsUptoRow : OpenClaim := { program := "ytiemkobgpaekoaa", sum := "c6f7c723ee3f47ffb7206b9f85cc3179c699c2716faa02d3349d5f3beed44d95", func := "loop.example/g00940/laws.FnExactChainBounds", spec := "fnExactChainBounds", apart := false, narrowed := true }
def FnExactChainBoundsUptoSaid : Prop := fnExactChainBoundsUptoRow.holds Try.pinned (OpenSpec.upto fnExactChainBoundsSpec)

/-- 'laws.FnExactMeetBounds', WHERE WHAT IT READS IS OF BULK AT MOST 1048576: true; the input reads as it did. -/
def fnExactMeetBoundsUptoRow : OpenClaim := { program := "ytiemkobgpaekoaa", sum := "c6f7c723ee3f47ffb7206b9f85cc3179c699c2716faa02d3349d5f3beed44d95", func := "loop.example/g00940/laws.FnExactMeetBounds", spec := "fnExactMeetBounds", apart := false, narrowed := true }
def FnExactMeetBoundsUptoSaid : Prop := fnExactMeetBoundsUptoRow.holds Try.pinned (OpenSpec.upto fnExactMeetBoundsSpec)

/-- 'laws.FnOffsets', WHERE WHAT IT READS IS OF BULK AT MOST 1048576: true; the input reads as it did. -/
def fnOffsetsUptoRow : OpenClaim := { program := "ytiemkobgpaekoaa", sum := "c6f7c723ee3f47ffb7206b9f85cc3179c699c2716faa02d3349d5f3beed44d95", func := "loop.example/g00940/laws.FnOffsets", spec := "fnOffsets", apart := false, narrowed := true }
def FnOffsetsUptoSaid : Prop := fnOffsetsUptoRow.holds Try.pinned (OpenSpec.upto fnOffsetsSpec)

/-- 'laws.FnClocks', WHERE WHAT IT READS IS OF BULK AT MOST 1048576: true; the input reads as it did. -/
def fnClocksUptoRow : OpenClaim := { program := "ytiemkobgpaekoaa", sum := "c6f7c723ee3f47ffb7206b9f85cc3179c699c2716faa02d3349d5f3beed44d95", func := "loop.example/g00940/laws.FnClocks", spec := "fnClocks", apart := false, narrowed := true }
def FnClocksUptoSaid : Prop := fnClocksUptoRow.holds Try.pinned (OpenSpec.upto fnClocksSpec)

end Rows
end Go.Proofs.Ytiemkobgpaekoaa
