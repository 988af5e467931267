/- 'laws.FnRosters' returns true for every input, and each argument reads afterwards as it read before. No condition. -/
import Derived.Test.YtedkffdkhnfoiaaDoorRosR
import Derived.Test.YtedkffdkhnfoiaaDoorIn
import Derived.Test.YtedkffdkhnfoiaaDoorTie
import Derived.Test.YtedkffdkhnfoiaaDoorCards
import Derived.ProofKit
import Derived.LaidMore
import Derived.Stop.Joined
import Derived.Stop.LaidErr
import Derived.SevenTiedAt
import Derived.Lib.LaidTab
import Derived.OpenShut
import Derived.Lib.SmallJoins
namespace Go.Proofs.YtedkffdkhnfoiaaDoor.fnRosters
open Go.ChangeShapes Go.WideShapes Go.ChangeAt Go.RowKit
set_option maxRecDepth 100000
set_option linter.unusedVariables false

theorem own : ownKnob Tryd.prog.godebug = none := by kernel_rfl
theorem laidOut : laidOutB Tryd.prog = true := by kernel_rfl

def laidL : List (String × DataW Unit) := [("math/bits.deBruijn32tab", Rows.laid_math_bits_deBruijn32tab), ("math/bits.deBruijn64tab", Rows.laid_math_bits_deBruijn64tab), ("internal/strconv.uint64pow10", Rows.laid_internal_strconv_uint64pow10)]
theorem door_met (os : Os) (args : Array Value) : laidMetH Tryd.prog laidL ((World.doorLaid Tryd.prog 400 os).forCall (fun _ _ => 0) ⟨#[], args, []⟩).memory :=
  laidMetH_of_parts3 (fuel := 8) (laidMet_of_run' 8 (by kernel_rfl) (by kernel_rfl)) (by kernel_rfl) (by kernel_rfl)
theorem pow_of_laid {W : World} (h : laidMetH Tryd.prog laidL W) : PowTab W := by
  rw [MakeChecks.laidMetH_plain _ _ _ (by kernel_rfl)] at h
  unfold laidL at h
  have h2 := ((h).tail).tail
  rw [show (Rows.laid_internal_strconv_uint64pow10 : DataW Unit) = Go.Lib.tabData .u64 Go.Lib.pow10Tab by kernel_rfl] at h2
  exact Go.Lib.tabIs_of_head pow_glob (by kernel_rfl) (Tryd.underlying123) Tryd.underlying51 (by kernel_rfl) (by kernel_rfl) h2

theorem lifted (os : Os) (started : os.Started) (H : Type) (enc : TypeId × Value → H) :
    ReturnsInHanded {} Tryd.checked os 3 .any (fun w args => (Rows.fnRostersSpec.pre enc Tryd.prog Tryd.f3 [] false w args ∧ laidMetH Tryd.prog laidL w) ∧ sizedMet enc Tryd.prog Tryd.f3 (OpenSpec.ofChange Rows.fnRostersSpec) false w args) (Rows.fnRostersSpec.post enc Tryd.prog Tryd.f3 false true false false) := by
  refine returnsInHanded_of_change_and (C := Tryd.checked) (X := fun w _ => laidMetH Tryd.prog laidL w) (fun _ _ _ hh h => h.of_heap hh) own started (by kernel_rfl) Tryd.func3
    (ChangeSpec.witness_shaped (enc := enc) (C := Tryd.checked) (os := os) (X := fun w _ => laidMetH Tryd.prog laidL w) false (World.doorLaid Tryd.prog 400 os) #[.slice none 0 0, .slice none 0 0] 8 rfl (World.shaped_of_RefB (by kernel_rfl) (by kernel_rfl)) (by kernel_rfl) (by kernel_rfl) (by kernel_rfl) (door_met os _)) ?_
  intro W base args ds gs before hval0 hW _ _ hL _
  have hval : ∀ (j : Nat) t v, Tryd.f3.params[j]? = some t → args[j]? = some v → Value.okWide Tryd.prog W .any base t v := hval0
  have hW' := hW
  obtain ⟨p, q, hA0, hV, rfl, hfz, hnd⟩ := hW
  have hA : DataW.TrodAll enc Tryd.prog W 0 (fun _ => true) true Tryd.f3.params.toList args.toList ds p := hA0
  rw [Tryd.params3] at hA hval
  obtain ⟨v0, vs0, d0, ds0, p0, q0, hargs, rfl, rfl, h0, s0⟩ := trodAll_cons hA
  obtain ⟨v1, vs1, d1, ds1, p1, q1, rfl, rfl, rfl, h1, s1⟩ := trodAll_cons s0
  obtain ⟨rfl, rfl, rfl⟩ := trodAll_nil s1
  obtain rfl : args = #[v0, v1] := by cases args; simp_all
  obtain ⟨rfl, rfl⟩ := trodVars_none hV
  have k0 := h0
  have lt0 : ∀ x ∈ p0, x.block < W.heap.size := by obtain ⟨m, hm⟩ := k0; exact DataW.trod_lt m _ _ _ hm
  have k1 := h1
  have lt1 : ∀ x ∈ p1, x.block < W.heap.size := by obtain ⟨m, hm⟩ := k1; exact DataW.trod_lt m _ _ _ hm
  obtain ⟨u0, n0, z0, e0, r0⟩ : ∃ v n zs, v0.cells.toList = [v] ∧ IntRow .u8 1 W v n zs := by
    obtain ⟨fuel, hf⟩ := h0
    obtain ⟨v, n, zs, hv, hr⟩ := intRow_open (kd := .u8) (k := 1) (by decide) Tryd.underlying22 (by kernel_rfl) (ints_of_int Tryd.underlying5) hf
    exact ⟨v, n, zs, hv, hr⟩
  obtain rfl : v0 = u0 := by
    obtain ⟨a, l, c, rfl⟩ : ∃ a l c, v0 = .slice a l c := okWide_slice Tryd.underlying22 (hval 0 22 v0 rfl rfl)
    simpa [Value.cells] using e0
  obtain ⟨u1, n1, z1, e1, r1⟩ : ∃ v n zs, v1.cells.toList = [v] ∧ IntRow .u8 1 W v n zs := by
    obtain ⟨fuel, hf⟩ := h1
    obtain ⟨v, n, zs, hv, hr⟩ := intRow_open (kd := .u8) (k := 1) (by decide) Tryd.underlying22 (by kernel_rfl) (ints_of_int Tryd.underlying5) hf
    exact ⟨v, n, zs, hv, hr⟩
  obtain rfl : v1 = u1 := by
    obtain ⟨a, l, c, rfl⟩ : ∃ a l c, v1 = .slice a l c := okWide_slice Tryd.underlying22 (hval 1 22 v1 rfl rfl)
    simpa [Value.cells] using e1
  clear hA0 hval0
  refine (walkFnRosters v0 n0 z0 v1 n1 z1 W r0 r1 (pow_of_laid hL)).mono fun e W' ⟨he, bel⟩ => ?_
  subst he
  exact ⟨_, rfl, _, _, _, [], _, [], hW', trodAll_mk1 (shut_bool Tryd.underlying4 _), (trodAll_cons_mk (Below.trod laidOut (by kernel_rfl) (of_decide_eq_true (by kernel_rfl)) k0 bel lt0) (trodAll_cons_mk (Below.trod laidOut (by kernel_rfl) (of_decide_eq_true (by kernel_rfl)) k1 bel lt1) trodAll_mk0)), rfl, bel.frame _, fun h => by cases h⟩

theorem over : Rows.fnRostersRow.holds Tryd.pinned (OpenSpec.ofChange Rows.fnRostersSpec) :=
  OpenClaim.holds_of_wide 3 Tryd.f3 rfl rfl rfl rfl rfl rfl rfl ⟨rfl, rfl, rfl, rfl, rfl⟩ rfl rfl rfl rfl rfl (by kernel_rfl) Tryd.func3 (by kernel_rfl)
    (of_decide_eq_true (by kernel_rfl)) (by unfold Func.isWrapper; first | (rw [if_pos (by decide +kernel)]; kernel_rfl) | (rw [if_neg (by decide +kernel)]; exact ⟨rfl, rfl⟩))
    (fun os started H enc _ => lifted os started H enc)

theorem proved : Rows.FnRostersCardSaid :=
  Claim7.holds_tied_plain_at .later [] [.data, .data, .data] true (true, "22645ab7138f1e6d1f562fde86cfe3fe0f18838e18467c0c1d7d58d3741923ea") false
    over (fun _ h => by cases h) (by kernel_rfl) (fun _ h => by cases h) fnRosters_row_tie rfl ⟨rfl, rfl⟩ (by kernel_rfl) rfl
    (fun f fn hf hfn => by
      obtain rfl : f = 3 := Option.some.inj ((show Tryd.prog.funcNamed "loop.example/g00940/laws.FnRosters" = some 3 by kernel_rfl).symm.trans hf) |>.symm
      obtain rfl : fn = Tryd.f3 := (Option.some.inj (Tryd.func3.symm.trans hfn)).symm
      exact ⟨by kernel_rfl, fun j t ht => by
        rw [Tryd.params3] at ht
        have hm : t ∈ [22, 22] := by simpa using Array.mem_of_getElem? ht
        have hall : ([22, 22].all fun u => !Tryd.prog.wantsStandIn u) = true := by kernel_rfl
        exact (show Tryd.prog.wantsStandIn t = false by simpa using List.all_eq_true.1 hall t hm)⟩)
    (by kernel_rfl)
end Go.Proofs.YtedkffdkhnfoiaaDoor.fnRosters

