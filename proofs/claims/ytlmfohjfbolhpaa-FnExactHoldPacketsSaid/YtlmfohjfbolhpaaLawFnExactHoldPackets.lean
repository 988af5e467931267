/- 'laws.FnExactHoldPackets' returns true for every input, and each argument reads afterwards as it read before. No condition. -/
import Derived.Test.YtlmfohjfbolhpaaPkC
import Derived.Test.YtlmfohjfbolhpaaIn
import Derived.ProofKit
import Derived.OpenShut
import Derived.Lib.SmallJoins
namespace Go.Proofs.Ytlmfohjfbolhpaa.fnExactHoldPackets
open Go.ChangeShapes Go.WideShapes Go.ChangeAt Go.RowKit
set_option linter.unusedVariables false

theorem own : ownKnob Try.prog.godebug = none := by kernel_rfl
theorem laidOut : laidOutB Try.prog = true := by kernel_rfl

theorem allInt148 : ∀ (fs : Array Field), Try.prog.underlying 148 = some (.struct fs) → ∀ (j : Nat) (f : Field), fs[j]? = some f → Try.prog.underlying f.type = some (.int .i64) := by
  intro fs hfs
  rw [Try.underlying148] at hfs
  cases hfs
  intro j f hj
  match j, hj with
  | 0, hj => cases hj; exact Try.underlying3
  | 1, hj => cases hj; exact Try.underlying3
  | 2, hj => cases hj; exact Try.underlying3
  | q + 3, hj => simp at hj

theorem allInt150 : ∀ (fs : Array Field), Try.prog.underlying 150 = some (.struct fs) → ∀ (j : Nat) (f : Field), fs[j]? = some f → Try.prog.underlying f.type = some (.int .i64) := by
  intro fs hfs
  rw [Try.underlying150] at hfs
  cases hfs
  intro j f hj
  match j, hj with
  | 0, hj => cases hj; exact Try.underlying3
  | 1, hj => cases hj; exact Try.underlying3
  | 2, hj => cases hj; exact Try.underlying3
  | q + 3, hj => simp at hj

theorem allInt105 : ∀ (fs : Array Field), Try.prog.underlying 105 = some (.struct fs) → ∀ (j : Nat) (f : Field), fs[j]? = some f → Try.prog.underlying f.type = some (.int .i64) := by
  intro fs hfs
  rw [Try.underlying105] at hfs
  cases hfs
  intro j f hj
  match j, hj with
  | 0, hj => cases hj; exact Try.underlying3
  | 1, hj => cases hj; exact Try.underlying3
  | 2, hj => cases hj; exact Try.underlying3
  | q + 3, hj => simp at hj

set_option maxRecDepth 100000 in
theorem lifted (os : Os) (started : os.Started) (H : Type) (enc : TypeId × Value → H) :
    ReturnsInHanded {} Try.checked os 13 .any (Rows.fnExactHoldPacketsSpec.pre6 enc Try.prog Try.f13 Rows.fnExactHoldPacketsRow.domain false) (Rows.fnExactHoldPacketsSpec.post enc Try.prog Try.f13 false true false false) := by
  refine returnsInHanded_of_change (C := Try.checked) own started (by kernel_rfl) Try.func13
    (ChangeSpec.witness6 (enc := enc) (C := Try.checked) false ⟨#[], #[.agg #[.slice none 0 0, .slice none 0 0], .slice none 0 0, .int .i64 0, .slice none 0 0, .int .i64 0], []⟩ 8 (by kernel_rfl) (by kernel_rfl) (by kernel_rfl) (by kernel_rfl)) ?_
  intro W base args ds gs before hval0 hW hcnd _
  have hval : ∀ (j : Nat) t v, Try.f13.params[j]? = some t → args[j]? = some v → Value.okWide Try.prog W .any base t v := hval0
  have hW' := hW
  obtain ⟨p, q, hA0, hV, rfl, hfz, hnd⟩ := hW
  have hA : DataW.TrodAll enc Try.prog W 0 (fun _ => true) true Try.f13.params.toList args.toList ds p := hA0
  rw [Try.params13] at hA hval
  obtain ⟨v0, vs0, d0, ds0, p0, q0, hargs, rfl, rfl, h0, s0⟩ := trodAll_cons hA
  obtain ⟨v1, vs1, d1, ds1, p1, q1, rfl, rfl, rfl, h1, s1⟩ := trodAll_cons s0
  obtain ⟨v2, vs2, d2, ds2, p2, q2, rfl, rfl, rfl, h2, s2⟩ := trodAll_cons s1
  obtain ⟨v3, vs3, d3, ds3, p3, q3, rfl, rfl, rfl, h3, s3⟩ := trodAll_cons s2
  obtain ⟨v4, vs4, d4, ds4, p4, q4, rfl, rfl, rfl, h4, s4⟩ := trodAll_cons s3
  obtain ⟨rfl, rfl, rfl⟩ := trodAll_nil s4
  obtain rfl : args = #[v0, v1, v2, v3, v4] := by cases args; simp_all
  obtain ⟨rfl, rfl⟩ := trodVars_none hV
  have k0 := h0
  have lt0 : ∀ x ∈ p0, x.block < W.heap.size := by obtain ⟨m, hm⟩ := k0; exact DataW.trod_lt m _ _ _ hm
  have k1 := h1
  have lt1 : ∀ x ∈ p1, x.block < W.heap.size := by obtain ⟨m, hm⟩ := k1; exact DataW.trod_lt m _ _ _ hm
  have k2 := h2
  have lt2 : ∀ x ∈ p2, x.block < W.heap.size := by obtain ⟨m, hm⟩ := k2; exact DataW.trod_lt m _ _ _ hm
  have k3 := h3
  have lt3 : ∀ x ∈ p3, x.block < W.heap.size := by obtain ⟨m, hm⟩ := k3; exact DataW.trod_lt m _ _ _ hm
  have k4 := h4
  have lt4 : ∀ x ∈ p4, x.block < W.heap.size := by obtain ⟨m, hm⟩ := k4; exact DataW.trod_lt m _ _ _ hm
  obtain ⟨c0_0, c0_1, y0_0, y0_1, m0, rfl, rfl, rfl, x0_0, x0_1⟩ := Joins.open_agg2 Try.underlying25 (by kernel_rfl) (show Try.prog.cellsOf 25 = 2 by kernel_rfl) (hval 0 25 v0 rfl rfl) h0
  obtain ⟨u0_0, nT0, zT0, e0_0, r0_0⟩ := intRow_open (kd := .i64) (k := 3) (by decide) Try.underlying22 (by kernel_rfl) (ints_of_struct Try.underlying148 (by kernel_rfl) (by kernel_rfl) (allInt148 _ Try.underlying148)) x0_0
  simp only [List.cons.injEq, and_true] at e0_0
  subst e0_0
  obtain ⟨u0_1, nL0, zL0, e0_1, r0_1⟩ := intRow_open (kd := .i64) (k := 3) (by decide) Try.underlying23 (by kernel_rfl) (ints_of_struct Try.underlying150 (by kernel_rfl) (by kernel_rfl) (allInt150 _ Try.underlying150)) x0_1
  simp only [List.cons.injEq, and_true] at e0_1
  subst e0_1
  have r0 : NetRow W (.agg #[c0_0, c0_1]) nT0 zT0 nL0 zL0 := ⟨_, _, rfl, r0_0, r0_1⟩
  have all1 := allInt105 _ Try.underlying105
  obtain ⟨u1, n1, z1, e1, r1⟩ : ∃ v n zs, v1.cells.toList = [v] ∧ IntRow .i64 3 W v n zs := by
    obtain ⟨fuel, hf⟩ := h1
    obtain ⟨v, n, zs, hv, hr⟩ := intRow_open (kd := .i64) (k := 3) (by decide) Try.underlying26 (by kernel_rfl) (ints_of_struct Try.underlying105 (by kernel_rfl) (by kernel_rfl) all1) hf
    exact ⟨v, n, zs, hv, hr⟩
  obtain rfl : v1 = u1 := by
    obtain ⟨a, l, c, rfl⟩ : ∃ a l c, v1 = .slice a l c := okWide_slice Try.underlying26 (hval 1 26 v1 rfl rfl)
    simpa [Value.cells] using e1
  obtain ⟨a2, rfl, rfl, rfl, w2⟩ := open_int Try.underlying3 (hval 2 3 v2 rfl rfl) h2
  obtain ⟨u3, n3, z3, Y3, e3, r3⟩ : ∃ v n z S, v3.cells.toList = [v] ∧ PkRow W v n z S := by
    obtain ⟨fuel, hf⟩ := h3
    exact pkRow_open (t3 := 55) (e3 := 3) Try.underlying88 Try.underlying139 (by kernel_rfl) (by kernel_rfl) Try.underlying3 Try.underlying3 Try.underlying3 Try.underlying55 (by kernel_rfl) Try.underlying3 hf
  obtain rfl : v3 = u3 := by
    obtain ⟨a, l, c, rfl⟩ : ∃ a l c, v3 = .slice a l c := okWide_slice Try.underlying88 (hval 3 88 v3 rfl rfl)
    simpa [Value.cells] using e3
  obtain ⟨a4, rfl, rfl, rfl, w4⟩ := open_int Try.underlying3 (hval 4 3 v4 rfl rfl) h4
  clear hA0 hval0
  refine (walkFnExactHoldPackets (.agg #[c0_0, c0_1]) nT0 zT0 nL0 zL0 v1 n1 z1 a2 v3 n3 z3 Y3 a4 W r0 r1 w2 r3 w4).mono fun e W' ⟨he, bel⟩ => ?_
  subst he
  exact ⟨_, rfl, _, _, _, [], _, [], hW', trodAll_mk1 (shut_bool Try.underlying4 _), (trodAll_cons_mk (Below.trod laidOut (by kernel_rfl) (of_decide_eq_true (by kernel_rfl)) k0 bel lt0) (trodAll_cons_mk (Below.trod laidOut (by kernel_rfl) (of_decide_eq_true (by kernel_rfl)) k1 bel lt1) (trodAll_cons_mk (Below.trod laidOut (by kernel_rfl) (of_decide_eq_true (by kernel_rfl)) k2 bel lt2) (trodAll_cons_mk (Below.trod laidOut (by kernel_rfl) (of_decide_eq_true (by kernel_rfl)) k3 bel lt3) (trodAll_cons_mk (Below.trod laidOut (by kernel_rfl) (of_decide_eq_true (by kernel_rfl)) k4 bel lt4) trodAll_mk0))))), rfl, bel.frame _, fun h => by cases h⟩

theorem over : Rows.fnExactHoldPacketsRow.holds Try.pinned (OpenSpec.ofChange Rows.fnExactHoldPacketsSpec) :=
  OpenClaim.holds_of_wide 13 Try.f13 rfl rfl rfl rfl rfl rfl rfl ⟨rfl, rfl, rfl, rfl, rfl⟩ rfl rfl rfl rfl rfl (by kernel_rfl) Try.func13 (by kernel_rfl)
    (of_decide_eq_true (by kernel_rfl)) (by unfold Func.isWrapper; first | (rw [if_pos (by decide +kernel)]; kernel_rfl) | (rw [if_neg (by decide +kernel)]; exact ⟨rfl, rfl⟩))
    (fun os started H enc _ => lifted os started H enc)

theorem proved : Rows.FnExactHoldPacketsSaid :=
  over
end Go.Proofs.Ytlmfohjfbolhpaa.fnExactHoldPackets
