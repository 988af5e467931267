/- 'laws.FnHeldPackets' returns true for every input, and each argument reads afterwards as it read before. No condition. -/
import Derived.Test.YtjmbhlhkjjinbaaPkK
import Derived.Test.YtjmbhlhkjjinbaaIn
import Derived.ProofKit
import Derived.OpenShut
import Derived.Lib.SmallJoins
namespace Go.Proofs.Ytjmbhlhkjjinbaa.fnHeldPackets
open Go.ChangeShapes Go.WideShapes Go.ChangeAt Go.RowKit
set_option linter.unusedVariables false

theorem own : ownKnob Try.prog.godebug = none := by kernel_rfl
theorem laidOut : laidOutB Try.prog = true := by kernel_rfl

set_option maxRecDepth 100000 in
theorem lifted (os : Os) (started : os.Started) (H : Type) (enc : TypeId × Value → H) :
    ReturnsInHanded {} Try.checked os 3 .any (Rows.fnHeldPacketsSpec.pre6 enc Try.prog Try.f3 Rows.fnHeldPacketsRow.domain false) (Rows.fnHeldPacketsSpec.post enc Try.prog Try.f3 false true false false) := by
  refine returnsInHanded_of_change (C := Try.checked) own started (by kernel_rfl) Try.func3
    (ChangeSpec.witness6 (enc := enc) (C := Try.checked) false ⟨#[], #[.slice none 0 0, .slice none 0 0], []⟩ 8 (by kernel_rfl) (by kernel_rfl) (by kernel_rfl) (by kernel_rfl)) ?_
  intro W base args ds gs before hval0 hW hcnd _
  have hval : ∀ (j : Nat) t v, Try.f3.params[j]? = some t → args[j]? = some v → Value.okWide Try.prog W .any base t v := hval0
  have hW' := hW
  obtain ⟨p, q, hA0, hV, rfl, hfz, hnd⟩ := hW
  have hA : DataW.TrodAll enc Try.prog W 0 (fun _ => true) true Try.f3.params.toList args.toList ds p := hA0
  rw [Try.params3] at hA hval
  obtain ⟨v0, vs0, d0, ds0, p0, q0, hargs, rfl, rfl, h0, s0⟩ := trodAll_cons hA
  obtain ⟨v1, vs1, d1, ds1, p1, q1, rfl, rfl, rfl, h1, s1⟩ := trodAll_cons s0
  obtain ⟨rfl, rfl, rfl⟩ := trodAll_nil s1
  obtain rfl : args = #[v0, v1] := by cases args; simp_all
  obtain ⟨rfl, rfl⟩ := trodVars_none hV
  have k0 := h0
  have lt0 : ∀ x ∈ p0, x.block < W.heap.size := by obtain ⟨m, hm⟩ := k0; exact DataW.trod_lt m _ _ _ hm
  have k1 := h1
  have lt1 : ∀ x ∈ p1, x.block < W.heap.size := by obtain ⟨m, hm⟩ := k1; exact DataW.trod_lt m _ _ _ hm
  obtain ⟨u0, n0, z0, e0, r0⟩ : ∃ v n zs, v0.cells.toList = [v] ∧ IntRow .u8 1 W v n zs := by
    obtain ⟨fuel, hf⟩ := h0
    obtain ⟨v, n, zs, hv, hr⟩ := intRow_open (kd := .u8) (k := 1) (by decide) Try.underlying22 (by kernel_rfl) (ints_of_int Try.underlying5) hf
    exact ⟨v, n, zs, hv, hr⟩
  obtain rfl : v0 = u0 := by
    obtain ⟨a, l, c, rfl⟩ : ∃ a l c, v0 = .slice a l c := okWide_slice Try.underlying22 (hval 0 22 v0 rfl rfl)
    simpa [Value.cells] using e0
  obtain ⟨u1, n1, z1, e1, r1⟩ : ∃ v n zs, v1.cells.toList = [v] ∧ IntRow .u8 1 W v n zs := by
    obtain ⟨fuel, hf⟩ := h1
    obtain ⟨v, n, zs, hv, hr⟩ := intRow_open (kd := .u8) (k := 1) (by decide) Try.underlying22 (by kernel_rfl) (ints_of_int Try.underlying5) hf
    exact ⟨v, n, zs, hv, hr⟩
  obtain rfl : v1 = u1 := by
    obtain ⟨a, l, c, rfl⟩ : ∃ a l c, v1 = .slice a l c := okWide_slice Try.underlying22 (hval 1 22 v1 rfl rfl)
    simpa [Value.cells] using e1
  clear hA0 hval0
  refine (walkFnHeldPackets v0 n0 z0 v1 n1 z1 W r0 r1).mono fun e W' ⟨he, bel⟩ => ?_
  subst he
  exact ⟨_, rfl, _, _, _, [], _, [], hW', trodAll_mk1 (shut_bool Try.underlying4 _), (trodAll_cons_mk (Below.trod laidOut (by kernel_rfl) (of_decide_eq_true (by kernel_rfl)) k0 bel lt0) (trodAll_cons_mk (Below.trod laidOut (by kernel_rfl) (of_decide_eq_true (by kernel_rfl)) k1 bel lt1) trodAll_mk0)), rfl, bel.frame _, fun h => by cases h⟩

theorem over : Rows.fnHeldPacketsRow.holds Try.pinned (OpenSpec.ofChange Rows.fnHeldPacketsSpec) :=
  OpenClaim.holds_of_wide 3 Try.f3 rfl rfl rfl rfl rfl rfl rfl ⟨rfl, rfl, rfl, rfl, rfl⟩ rfl rfl rfl rfl rfl (by kernel_rfl) Try.func3 (by kernel_rfl)
    (of_decide_eq_true (by kernel_rfl)) (by unfold Func.isWrapper; first | (rw [if_pos (by decide +kernel)]; kernel_rfl) | (rw [if_neg (by decide +kernel)]; exact ⟨rfl, rfl⟩))
    (fun os started H enc _ => lifted os started H enc)

theorem proved : Rows.FnHeldPacketsSaid :=
  over
end Go.Proofs.Ytjmbhlhkjjinbaa.fnHeldPackets
