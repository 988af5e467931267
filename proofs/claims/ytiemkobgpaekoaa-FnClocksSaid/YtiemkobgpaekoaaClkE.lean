/- The clock chapter: the statements on single functions of integers and bounds: the walk of each. No condition. -/
import Derived.Test.YtiemkobgpaekoaaClkD
namespace Go.Proofs.Ytiemkobgpaekoaa
open Go.RowKit
set_option linter.unusedSimpArgs false
set_option linter.unusedVariables false

set_option maxHeartbeats 400000 in
theorem walkFnExactWidthOf (a0_0 a0_1 : Int) (w : World) (w0_0 : (Lit.int .i64 a0_0).wf = true) (w0_1 : (Lit.int .i64 a0_1).wf = true) :
    Calls Try.prog 4 #[.agg #[.int .i64 a0_0, .int .i64 a0_1]] w fun e w' => e = .returned (.bool true) ∧ Ext w w' := by
  go_enter Try.func4, Try.ntmps4
  go_wp2_with (first | (go_at_call 17; refine (toBound_any _ _ _).mono ?_; rintro e w' ⟨rfl, hb⟩; have hz := Ext.size hb; (try simp only [World.size_alloc] at hz); obtain ⟨hc, hf⟩ := Ext.cells hb; (try have hy0 : w.heap.size < w'.heap.size := by omega); (try have hy1 : w.heap.size + 1 < w'.heap.size := by omega); (try have hy2 : w.heap.size + 1 + 1 < w'.heap.size := by omega); (try have hy3 : w.heap.size + 1 + 1 + 1 < w'.heap.size := by omega); (try have hk0 := fun o => hc (w.heap.size) o (by (try simp only [World.size_alloc]); omega)); (try have hj0 := fun o => hf (w.heap.size) o (by (try simp only [World.size_alloc]); omega)); (try have hk1 := fun o => hc (w.heap.size + 1) o (by (try simp only [World.size_alloc]); omega)); (try have hj1 := fun o => hf (w.heap.size + 1) o (by (try simp only [World.size_alloc]); omega)); (try have hk2 := fun o => hc (w.heap.size + 1 + 1) o (by (try simp only [World.size_alloc]); omega)); (try have hj2 := fun o => hf (w.heap.size + 1 + 1) o (by (try simp only [World.size_alloc]); omega)); (try have hk3 := fun o => hc (w.heap.size + 1 + 1 + 1) o (by (try simp only [World.size_alloc]); omega)); (try have hj3 := fun o => hf (w.heap.size + 1 + 1 + 1) o (by (try simp only [World.size_alloc]); omega)); clear hc hf) | (go_at_call 19; refine (sWidthOf_any _ _ _).mono ?_; rintro e w' ⟨rfl, hb⟩; have hz := Ext.size hb; (try simp only [World.size_alloc] at hz); obtain ⟨hc, hf⟩ := Ext.cells hb; (try have hy0 : w.heap.size < w'.heap.size := by omega); (try have hy1 : w.heap.size + 1 < w'.heap.size := by omega); (try have hy2 : w.heap.size + 1 + 1 < w'.heap.size := by omega); (try have hy3 : w.heap.size + 1 + 1 + 1 < w'.heap.size := by omega); (try have hk0 := fun o => hc (w.heap.size) o (by (try simp only [World.size_alloc]); omega)); (try have hj0 := fun o => hf (w.heap.size) o (by (try simp only [World.size_alloc]); omega)); (try have hk1 := fun o => hc (w.heap.size + 1) o (by (try simp only [World.size_alloc]); omega)); (try have hj1 := fun o => hf (w.heap.size + 1) o (by (try simp only [World.size_alloc]); omega)); (try have hk2 := fun o => hc (w.heap.size + 1 + 1) o (by (try simp only [World.size_alloc]); omega)); (try have hj2 := fun o => hf (w.heap.size + 1 + 1) o (by (try simp only [World.size_alloc]); omega)); (try have hk3 := fun o => hc (w.heap.size + 1 + 1 + 1) o (by (try simp only [World.size_alloc]); omega)); (try have hj3 := fun o => hf (w.heap.size + 1 + 1 + 1) o (by (try simp only [World.size_alloc]); omega)); clear hc hf) | (go_at_call 20; refine (iWidthOf_any _ _ _).mono ?_; rintro e w' ⟨rfl, hb⟩; have hz := Ext.size hb; (try simp only [World.size_alloc] at hz); obtain ⟨hc, hf⟩ := Ext.cells hb; (try have hy0 : w.heap.size < w'.heap.size := by omega); (try have hy1 : w.heap.size + 1 < w'.heap.size := by omega); (try have hy2 : w.heap.size + 1 + 1 < w'.heap.size := by omega); (try have hy3 : w.heap.size + 1 + 1 + 1 < w'.heap.size := by omega); (try have hk0 := fun o => hc (w.heap.size) o (by (try simp only [World.size_alloc]); omega)); (try have hj0 := fun o => hf (w.heap.size) o (by (try simp only [World.size_alloc]); omega)); (try have hk1 := fun o => hc (w.heap.size + 1) o (by (try simp only [World.size_alloc]); omega)); (try have hj1 := fun o => hf (w.heap.size + 1) o (by (try simp only [World.size_alloc]); omega)); (try have hk2 := fun o => hc (w.heap.size + 1 + 1) o (by (try simp only [World.size_alloc]); omega)); (try have hj2 := fun o => hf (w.heap.size + 1 + 1) o (by (try simp only [World.size_alloc]); omega)); (try have hk3 := fun o => hc (w.heap.size + 1 + 1 + 1) o (by (try simp only [World.size_alloc]); omega)); (try have hj3 := fun o => hf (w.heap.size + 1 + 1 + 1) o (by (try simp only [World.size_alloc]); omega)); clear hc hf))
  go_ret
  exact ⟨rfl, (by repeat (first | exact Ext.refl _ | assumption | refine Ext.alloc ?_ _ | refine Ext.drew ?_ | refine Ext.drewN ?_ _ | refine Ext.setCell ?_ (by first | exact Nat.le_refl _ | (simp; done) | (dsimp only; omega) | (simp only [World.size_alloc, World.size_setCell]; omega)) _ | refine Ext.trans ?_ (by assumption)))⟩

set_option maxHeartbeats 400000 in
theorem walkFnExactSurelyBefore (a0_0 a0_1 : Int) (a1 : Int) (a2 : Int) (w : World) (w0_0 : (Lit.int .i64 a0_0).wf = true) (w0_1 : (Lit.int .i64 a0_1).wf = true) (w1 : (Lit.int .i64 a1).wf = true) (w2 : (Lit.int .i64 a2).wf = true) :
    Calls Try.prog 5 #[.agg #[.int .i64 a0_0, .int .i64 a0_1], .int .i64 a1, .int .i64 a2] w fun e w' => e = .returned (.bool true) ∧ Ext w w' := by
  go_enter Try.func5, Try.ntmps5
  go_wp2_with (first | (go_at_call 17; refine (toBound_any _ _ _).mono ?_; rintro e w' ⟨rfl, hb⟩; have hz := Ext.size hb; (try simp only [World.size_alloc] at hz); obtain ⟨hc, hf⟩ := Ext.cells hb; (try have hy0 : w.heap.size < w'.heap.size := by omega); (try have hy1 : w.heap.size + 1 < w'.heap.size := by omega); (try have hy2 : w.heap.size + 1 + 1 < w'.heap.size := by omega); (try have hy3 : w.heap.size + 1 + 1 + 1 < w'.heap.size := by omega); (try have hk0 := fun o => hc (w.heap.size) o (by (try simp only [World.size_alloc]); omega)); (try have hj0 := fun o => hf (w.heap.size) o (by (try simp only [World.size_alloc]); omega)); (try have hk1 := fun o => hc (w.heap.size + 1) o (by (try simp only [World.size_alloc]); omega)); (try have hj1 := fun o => hf (w.heap.size + 1) o (by (try simp only [World.size_alloc]); omega)); (try have hk2 := fun o => hc (w.heap.size + 1 + 1) o (by (try simp only [World.size_alloc]); omega)); (try have hj2 := fun o => hf (w.heap.size + 1 + 1) o (by (try simp only [World.size_alloc]); omega)); (try have hk3 := fun o => hc (w.heap.size + 1 + 1 + 1) o (by (try simp only [World.size_alloc]); omega)); (try have hj3 := fun o => hf (w.heap.size + 1 + 1 + 1) o (by (try simp only [World.size_alloc]); omega)); clear hc hf) | (go_at_call 21; refine (sSurelyBefore_any _ _ _ _ _).mono ?_; rintro e w' ⟨rfl, hb⟩; have hz := Ext.size hb; (try simp only [World.size_alloc] at hz); obtain ⟨hc, hf⟩ := Ext.cells hb; (try have hy0 : w.heap.size < w'.heap.size := by omega); (try have hy1 : w.heap.size + 1 < w'.heap.size := by omega); (try have hy2 : w.heap.size + 1 + 1 < w'.heap.size := by omega); (try have hy3 : w.heap.size + 1 + 1 + 1 < w'.heap.size := by omega); (try have hk0 := fun o => hc (w.heap.size) o (by (try simp only [World.size_alloc]); omega)); (try have hj0 := fun o => hf (w.heap.size) o (by (try simp only [World.size_alloc]); omega)); (try have hk1 := fun o => hc (w.heap.size + 1) o (by (try simp only [World.size_alloc]); omega)); (try have hj1 := fun o => hf (w.heap.size + 1) o (by (try simp only [World.size_alloc]); omega)); (try have hk2 := fun o => hc (w.heap.size + 1 + 1) o (by (try simp only [World.size_alloc]); omega)); (try have hj2 := fun o => hf (w.heap.size + 1 + 1) o (by (try simp only [World.size_alloc]); omega)); (try have hk3 := fun o => hc (w.heap.size + 1 + 1 + 1) o (by (try simp only [World.size_alloc]); omega)); (try have hj3 := fun o => hf (w.heap.size + 1 + 1 + 1) o (by (try simp only [World.size_alloc]); omega)); clear hc hf) | (go_at_call 22; refine (iSurelyBefore_any _ _ _ _ _).mono ?_; rintro e w' ⟨rfl, hb⟩; have hz := Ext.size hb; (try simp only [World.size_alloc] at hz); obtain ⟨hc, hf⟩ := Ext.cells hb; (try have hy0 : w.heap.size < w'.heap.size := by omega); (try have hy1 : w.heap.size + 1 < w'.heap.size := by omega); (try have hy2 : w.heap.size + 1 + 1 < w'.heap.size := by omega); (try have hy3 : w.heap.size + 1 + 1 + 1 < w'.heap.size := by omega); (try have hk0 := fun o => hc (w.heap.size) o (by (try simp only [World.size_alloc]); omega)); (try have hj0 := fun o => hf (w.heap.size) o (by (try simp only [World.size_alloc]); omega)); (try have hk1 := fun o => hc (w.heap.size + 1) o (by (try simp only [World.size_alloc]); omega)); (try have hj1 := fun o => hf (w.heap.size + 1) o (by (try simp only [World.size_alloc]); omega)); (try have hk2 := fun o => hc (w.heap.size + 1 + 1) o (by (try simp only [World.size_alloc]); omega)); (try have hj2 := fun o => hf (w.heap.size + 1 + 1) o (by (try simp only [World.size_alloc]); omega)); (try have hk3 := fun o => hc (w.heap.size + 1 + 1 + 1) o (by (try simp only [World.size_alloc]); omega)); (try have hj3 := fun o => hf (w.heap.size + 1 + 1 + 1) o (by (try simp only [World.size_alloc]); omega)); clear hc hf))
  go_ret
  exact ⟨rfl, (by repeat (first | exact Ext.refl _ | assumption | refine Ext.alloc ?_ _ | refine Ext.drew ?_ | refine Ext.drewN ?_ _ | refine Ext.setCell ?_ (by first | exact Nat.le_refl _ | (simp; done) | (dsimp only; omega) | (simp only [World.size_alloc, World.size_setCell]; omega)) _ | refine Ext.trans ?_ (by assumption)))⟩

set_option maxHeartbeats 400000 in
theorem walkFnExactTimesAt (a0_0 a0_1 : Int) (a1 : Int) (w : World) (w0_0 : (Lit.int .i64 a0_0).wf = true) (w0_1 : (Lit.int .i64 a0_1).wf = true) (w1 : (Lit.int .i64 a1).wf = true) :
    Calls Try.prog 6 #[.agg #[.int .i64 a0_0, .int .i64 a0_1], .int .i64 a1] w fun e w' => e = .returned (.bool true) ∧ Ext w w' := by
  go_enter Try.func6, Try.ntmps6
  go_wp2_with (first | (go_at_call 17; refine (toBound_any _ _ _).mono ?_; rintro e w' ⟨rfl, hb⟩; have hz := Ext.size hb; (try simp only [World.size_alloc] at hz); obtain ⟨hc, hf⟩ := Ext.cells hb; (try have hy0 : w.heap.size < w'.heap.size := by omega); (try have hy1 : w.heap.size + 1 < w'.heap.size := by omega); (try have hy2 : w.heap.size + 1 + 1 < w'.heap.size := by omega); (try have hy3 : w.heap.size + 1 + 1 + 1 < w'.heap.size := by omega); (try have hk0 := fun o => hc (w.heap.size) o (by (try simp only [World.size_alloc]); omega)); (try have hj0 := fun o => hf (w.heap.size) o (by (try simp only [World.size_alloc]); omega)); (try have hk1 := fun o => hc (w.heap.size + 1) o (by (try simp only [World.size_alloc]); omega)); (try have hj1 := fun o => hf (w.heap.size + 1) o (by (try simp only [World.size_alloc]); omega)); (try have hk2 := fun o => hc (w.heap.size + 1 + 1) o (by (try simp only [World.size_alloc]); omega)); (try have hj2 := fun o => hf (w.heap.size + 1 + 1) o (by (try simp only [World.size_alloc]); omega)); (try have hk3 := fun o => hc (w.heap.size + 1 + 1 + 1) o (by (try simp only [World.size_alloc]); omega)); (try have hj3 := fun o => hf (w.heap.size + 1 + 1 + 1) o (by (try simp only [World.size_alloc]); omega)); clear hc hf) | (go_at_call 23; refine (sTimesAt_any _ _ _ _).mono ?_; rintro e w' ⟨rfl, hb⟩; have hz := Ext.size hb; (try simp only [World.size_alloc] at hz); obtain ⟨hc, hf⟩ := Ext.cells hb; (try have hy0 : w.heap.size < w'.heap.size := by omega); (try have hy1 : w.heap.size + 1 < w'.heap.size := by omega); (try have hy2 : w.heap.size + 1 + 1 < w'.heap.size := by omega); (try have hy3 : w.heap.size + 1 + 1 + 1 < w'.heap.size := by omega); (try have hk0 := fun o => hc (w.heap.size) o (by (try simp only [World.size_alloc]); omega)); (try have hj0 := fun o => hf (w.heap.size) o (by (try simp only [World.size_alloc]); omega)); (try have hk1 := fun o => hc (w.heap.size + 1) o (by (try simp only [World.size_alloc]); omega)); (try have hj1 := fun o => hf (w.heap.size + 1) o (by (try simp only [World.size_alloc]); omega)); (try have hk2 := fun o => hc (w.heap.size + 1 + 1) o (by (try simp only [World.size_alloc]); omega)); (try have hj2 := fun o => hf (w.heap.size + 1 + 1) o (by (try simp only [World.size_alloc]); omega)); (try have hk3 := fun o => hc (w.heap.size + 1 + 1 + 1) o (by (try simp only [World.size_alloc]); omega)); (try have hj3 := fun o => hf (w.heap.size + 1 + 1 + 1) o (by (try simp only [World.size_alloc]); omega)); clear hc hf) | (go_at_call 24; refine (iTimesAt_any _ _ _ _).mono ?_; rintro e w' ⟨rfl, hb⟩; have hz := Ext.size hb; (try simp only [World.size_alloc] at hz); obtain ⟨hc, hf⟩ := Ext.cells hb; (try have hy0 : w.heap.size < w'.heap.size := by omega); (try have hy1 : w.heap.size + 1 < w'.heap.size := by omega); (try have hy2 : w.heap.size + 1 + 1 < w'.heap.size := by omega); (try have hy3 : w.heap.size + 1 + 1 + 1 < w'.heap.size := by omega); (try have hk0 := fun o => hc (w.heap.size) o (by (try simp only [World.size_alloc]); omega)); (try have hj0 := fun o => hf (w.heap.size) o (by (try simp only [World.size_alloc]); omega)); (try have hk1 := fun o => hc (w.heap.size + 1) o (by (try simp only [World.size_alloc]); omega)); (try have hj1 := fun o => hf (w.heap.size + 1) o (by (try simp only [World.size_alloc]); omega)); (try have hk2 := fun o => hc (w.heap.size + 1 + 1) o (by (try simp only [World.size_alloc]); omega)); (try have hj2 := fun o => hf (w.heap.size + 1 + 1) o (by (try simp only [World.size_alloc]); omega)); (try have hk3 := fun o => hc (w.heap.size + 1 + 1 + 1) o (by (try simp only [World.size_alloc]); omega)); (try have hj3 := fun o => hf (w.heap.size + 1 + 1 + 1) o (by (try simp only [World.size_alloc]); omega)); clear hc hf))
  go_ret
  exact ⟨rfl, (by repeat (first | exact Ext.refl _ | assumption | refine Ext.alloc ?_ _ | refine Ext.drew ?_ | refine Ext.drewN ?_ _ | refine Ext.setCell ?_ (by first | exact Nat.le_refl _ | (simp; done) | (dsimp only; omega) | (simp only [World.size_alloc, World.size_setCell]; omega)) _ | refine Ext.trans ?_ (by assumption)))⟩

set_option maxHeartbeats 800000 in
theorem walkFnExactTurnBound (a0_0 a0_1 : Int) (w : World) (w0_0 : (Lit.int .i64 a0_0).wf = true) (w0_1 : (Lit.int .i64 a0_1).wf = true) :
    Calls Try.prog 7 #[.agg #[.int .i64 a0_0, .int .i64 a0_1]] w fun e w' => e = .returned (.bool true) ∧ Ext w w' := by
  go_enter Try.func7, Try.ntmps7
  go_wp2_with (fail)
  refine (toBound_any _ _ _).mono ?_
  rintro e w1 ⟨rfl, hb1⟩
  have hz1 := Ext.size hb1
  try simp only [World.size_alloc, World.size_setCell] at hz1
  obtain ⟨hc1, hf1⟩ := Ext.cells hb1
  try have hk1_0_0 := fun o => hc1 (w.heap.size) o (by (try simp only [World.size_alloc, World.size_setCell]); omega)
  try have hj1_0_0 := fun o => hf1 (w.heap.size) o (by (try simp only [World.size_alloc, World.size_setCell]); omega)
  try have hy1_0_0 : w.heap.size < w1.heap.size := by omega
  try have hk1_0_1 := fun o => hc1 (w.heap.size + 1) o (by (try simp only [World.size_alloc, World.size_setCell]); omega)
  try have hj1_0_1 := fun o => hf1 (w.heap.size + 1) o (by (try simp only [World.size_alloc, World.size_setCell]); omega)
  try have hy1_0_1 : w.heap.size + 1 < w1.heap.size := by omega
  try have hk1_0_2 := fun o => hc1 (w.heap.size + 1 + 1) o (by (try simp only [World.size_alloc, World.size_setCell]); omega)
  try have hj1_0_2 := fun o => hf1 (w.heap.size + 1 + 1) o (by (try simp only [World.size_alloc, World.size_setCell]); omega)
  try have hy1_0_2 : w.heap.size + 1 + 1 < w1.heap.size := by omega
  clear hc1 hf1
  go_wp2_with (fail)
  refine (sTurnBound_any _ _ _).mono ?_
  rintro e w2 ⟨rfl, hb2⟩
  have hz2 := Ext.size hb2
  try simp only [World.size_alloc, World.size_setCell] at hz2
  obtain ⟨hc2, hf2⟩ := Ext.cells hb2
  try have hk2_0_0 := fun o => hc2 (w.heap.size) o (by (try simp only [World.size_alloc, World.size_setCell]); omega)
  try have hj2_0_0 := fun o => hf2 (w.heap.size) o (by (try simp only [World.size_alloc, World.size_setCell]); omega)
  try have hy2_0_0 : w.heap.size < w2.heap.size := by omega
  try have hk2_0_1 := fun o => hc2 (w.heap.size + 1) o (by (try simp only [World.size_alloc, World.size_setCell]); omega)
  try have hj2_0_1 := fun o => hf2 (w.heap.size + 1) o (by (try simp only [World.size_alloc, World.size_setCell]); omega)
  try have hy2_0_1 : w.heap.size + 1 < w2.heap.size := by omega
  try have hk2_0_2 := fun o => hc2 (w.heap.size + 1 + 1) o (by (try simp only [World.size_alloc, World.size_setCell]); omega)
  try have hj2_0_2 := fun o => hf2 (w.heap.size + 1 + 1) o (by (try simp only [World.size_alloc, World.size_setCell]); omega)
  try have hy2_0_2 : w.heap.size + 1 + 1 < w2.heap.size := by omega
  try have hk2_1_0 := fun o => hc2 (w1.heap.size) o (by (try simp only [World.size_alloc, World.size_setCell]); omega)
  try have hj2_1_0 := fun o => hf2 (w1.heap.size) o (by (try simp only [World.size_alloc, World.size_setCell]); omega)
  try have hy2_1_0 : w1.heap.size < w2.heap.size := by omega
  try have hk2_1_1 := fun o => hc2 (w1.heap.size + 1) o (by (try simp only [World.size_alloc, World.size_setCell]); omega)
  try have hj2_1_1 := fun o => hf2 (w1.heap.size + 1) o (by (try simp only [World.size_alloc, World.size_setCell]); omega)
  try have hy2_1_1 : w1.heap.size + 1 < w2.heap.size := by omega
  clear hc2 hf2
  go_wp2_with (fail)
  refine (toBound_any _ _ _).mono ?_
  rintro e w3 ⟨rfl, hb3⟩
  have hz3 := Ext.size hb3
  try simp only [World.size_alloc, World.size_setCell] at hz3
  obtain ⟨hc3, hf3⟩ := Ext.cells hb3
  try have hk3_0_0 := fun o => hc3 (w.heap.size) o (by (try simp only [World.size_alloc, World.size_setCell]); omega)
  try have hj3_0_0 := fun o => hf3 (w.heap.size) o (by (try simp only [World.size_alloc, World.size_setCell]); omega)
  try have hy3_0_0 : w.heap.size < w3.heap.size := by omega
  try have hk3_0_1 := fun o => hc3 (w.heap.size + 1) o (by (try simp only [World.size_alloc, World.size_setCell]); omega)
  try have hj3_0_1 := fun o => hf3 (w.heap.size + 1) o (by (try simp only [World.size_alloc, World.size_setCell]); omega)
  try have hy3_0_1 : w.heap.size + 1 < w3.heap.size := by omega
  try have hk3_0_2 := fun o => hc3 (w.heap.size + 1 + 1) o (by (try simp only [World.size_alloc, World.size_setCell]); omega)
  try have hj3_0_2 := fun o => hf3 (w.heap.size + 1 + 1) o (by (try simp only [World.size_alloc, World.size_setCell]); omega)
  try have hy3_0_2 : w.heap.size + 1 + 1 < w3.heap.size := by omega
  try have hk3_1_0 := fun o => hc3 (w1.heap.size) o (by (try simp only [World.size_alloc, World.size_setCell]); omega)
  try have hj3_1_0 := fun o => hf3 (w1.heap.size) o (by (try simp only [World.size_alloc, World.size_setCell]); omega)
  try have hy3_1_0 : w1.heap.size < w3.heap.size := by omega
  try have hk3_1_1 := fun o => hc3 (w1.heap.size + 1) o (by (try simp only [World.size_alloc, World.size_setCell]); omega)
  try have hj3_1_1 := fun o => hf3 (w1.heap.size + 1) o (by (try simp only [World.size_alloc, World.size_setCell]); omega)
  try have hy3_1_1 : w1.heap.size + 1 < w3.heap.size := by omega
  try have hk3_2_0 := fun o => hc3 (w2.heap.size) o (by (try simp only [World.size_alloc, World.size_setCell]); omega)
  try have hj3_2_0 := fun o => hf3 (w2.heap.size) o (by (try simp only [World.size_alloc, World.size_setCell]); omega)
  try have hy3_2_0 : w2.heap.size < w3.heap.size := by omega
  try have hk3_2_1 := fun o => hc3 (w2.heap.size + 1) o (by (try simp only [World.size_alloc, World.size_setCell]); omega)
  try have hj3_2_1 := fun o => hf3 (w2.heap.size + 1) o (by (try simp only [World.size_alloc, World.size_setCell]); omega)
  try have hy3_2_1 : w2.heap.size + 1 < w3.heap.size := by omega
  clear hc3 hf3
  go_wp2_with (fail)
  refine (iTurnBound_any _ _ _).mono ?_
  rintro e w4 ⟨rfl, hb4⟩
  have hz4 := Ext.size hb4
  try simp only [World.size_alloc, World.size_setCell] at hz4
  obtain ⟨hc4, hf4⟩ := Ext.cells hb4
  try have hk4_0_0 := fun o => hc4 (w.heap.size) o (by (try simp only [World.size_alloc, World.size_setCell]); omega)
  try have hj4_0_0 := fun o => hf4 (w.heap.size) o (by (try simp only [World.size_alloc, World.size_setCell]); omega)
  try have hy4_0_0 : w.heap.size < w4.heap.size := by omega
  try have hk4_0_1 := fun o => hc4 (w.heap.size + 1) o (by (try simp only [World.size_alloc, World.size_setCell]); omega)
  try have hj4_0_1 := fun o => hf4 (w.heap.size + 1) o (by (try simp only [World.size_alloc, World.size_setCell]); omega)
  try have hy4_0_1 : w.heap.size + 1 < w4.heap.size := by omega
  try have hk4_0_2 := fun o => hc4 (w.heap.size + 1 + 1) o (by (try simp only [World.size_alloc, World.size_setCell]); omega)
  try have hj4_0_2 := fun o => hf4 (w.heap.size + 1 + 1) o (by (try simp only [World.size_alloc, World.size_setCell]); omega)
  try have hy4_0_2 : w.heap.size + 1 + 1 < w4.heap.size := by omega
  try have hk4_1_0 := fun o => hc4 (w1.heap.size) o (by (try simp only [World.size_alloc, World.size_setCell]); omega)
  try have hj4_1_0 := fun o => hf4 (w1.heap.size) o (by (try simp only [World.size_alloc, World.size_setCell]); omega)
  try have hy4_1_0 : w1.heap.size < w4.heap.size := by omega
  try have hk4_1_1 := fun o => hc4 (w1.heap.size + 1) o (by (try simp only [World.size_alloc, World.size_setCell]); omega)
  try have hj4_1_1 := fun o => hf4 (w1.heap.size + 1) o (by (try simp only [World.size_alloc, World.size_setCell]); omega)
  try have hy4_1_1 : w1.heap.size + 1 < w4.heap.size := by omega
  try have hk4_2_0 := fun o => hc4 (w2.heap.size) o (by (try simp only [World.size_alloc, World.size_setCell]); omega)
  try have hj4_2_0 := fun o => hf4 (w2.heap.size) o (by (try simp only [World.size_alloc, World.size_setCell]); omega)
  try have hy4_2_0 : w2.heap.size < w4.heap.size := by omega
  try have hk4_2_1 := fun o => hc4 (w2.heap.size + 1) o (by (try simp only [World.size_alloc, World.size_setCell]); omega)
  try have hj4_2_1 := fun o => hf4 (w2.heap.size + 1) o (by (try simp only [World.size_alloc, World.size_setCell]); omega)
  try have hy4_2_1 : w2.heap.size + 1 < w4.heap.size := by omega
  try have hk4_3_0 := fun o => hc4 (w3.heap.size) o (by (try simp only [World.size_alloc, World.size_setCell]); omega)
  try have hj4_3_0 := fun o => hf4 (w3.heap.size) o (by (try simp only [World.size_alloc, World.size_setCell]); omega)
  try have hy4_3_0 : w3.heap.size < w4.heap.size := by omega
  try have hk4_3_1 := fun o => hc4 (w3.heap.size + 1) o (by (try simp only [World.size_alloc, World.size_setCell]); omega)
  try have hj4_3_1 := fun o => hf4 (w3.heap.size + 1) o (by (try simp only [World.size_alloc, World.size_setCell]); omega)
  try have hy4_3_1 : w3.heap.size + 1 < w4.heap.size := by omega
  clear hc4 hf4
  go_wp2_with (go_in)
  go_ret
  exact ⟨rfl, (by repeat (first | exact Ext.refl _ | assumption | refine Ext.alloc ?_ _ | refine Ext.drew ?_ | refine Ext.drewN ?_ _ | refine Ext.setCell ?_ (by first | exact Nat.le_refl _ | (simp; done) | (dsimp only; omega) | (simp only [World.size_alloc, World.size_setCell]; omega)) _ | refine Ext.trans ?_ (by assumption)))⟩

set_option maxHeartbeats 400000 in
theorem walkFnExactSecondsToWidth (a0_0 a0_1 : Int) (a1 : Int) (a2 : Int) (w : World) (w0_0 : (Lit.int .i64 a0_0).wf = true) (w0_1 : (Lit.int .i64 a0_1).wf = true) (w1 : (Lit.int .i64 a1).wf = true) (w2 : (Lit.int .i64 a2).wf = true) :
    Calls Try.prog 8 #[.agg #[.int .i64 a0_0, .int .i64 a0_1], .int .i64 a1, .int .i64 a2] w fun e w' => e = .returned (.bool true) ∧ Ext w w' := by
  go_enter Try.func8, Try.ntmps8
  go_wp2_with (first | (go_at_call 17; refine (toBound_any _ _ _).mono ?_; rintro e w' ⟨rfl, hb⟩; have hz := Ext.size hb; (try simp only [World.size_alloc] at hz); obtain ⟨hc, hf⟩ := Ext.cells hb; (try have hy0 : w.heap.size < w'.heap.size := by omega); (try have hy1 : w.heap.size + 1 < w'.heap.size := by omega); (try have hy2 : w.heap.size + 1 + 1 < w'.heap.size := by omega); (try have hy3 : w.heap.size + 1 + 1 + 1 < w'.heap.size := by omega); (try have hk0 := fun o => hc (w.heap.size) o (by (try simp only [World.size_alloc]); omega)); (try have hj0 := fun o => hf (w.heap.size) o (by (try simp only [World.size_alloc]); omega)); (try have hk1 := fun o => hc (w.heap.size + 1) o (by (try simp only [World.size_alloc]); omega)); (try have hj1 := fun o => hf (w.heap.size + 1) o (by (try simp only [World.size_alloc]); omega)); (try have hk2 := fun o => hc (w.heap.size + 1 + 1) o (by (try simp only [World.size_alloc]); omega)); (try have hj2 := fun o => hf (w.heap.size + 1 + 1) o (by (try simp only [World.size_alloc]); omega)); (try have hk3 := fun o => hc (w.heap.size + 1 + 1 + 1) o (by (try simp only [World.size_alloc]); omega)); (try have hj3 := fun o => hf (w.heap.size + 1 + 1 + 1) o (by (try simp only [World.size_alloc]); omega)); clear hc hf) | (go_at_call 28; refine (sSecondsToWidth_any _ _ _ _ _).mono ?_; rintro e w' ⟨rfl, hb⟩; have hz := Ext.size hb; (try simp only [World.size_alloc] at hz); obtain ⟨hc, hf⟩ := Ext.cells hb; (try have hy0 : w.heap.size < w'.heap.size := by omega); (try have hy1 : w.heap.size + 1 < w'.heap.size := by omega); (try have hy2 : w.heap.size + 1 + 1 < w'.heap.size := by omega); (try have hy3 : w.heap.size + 1 + 1 + 1 < w'.heap.size := by omega); (try have hk0 := fun o => hc (w.heap.size) o (by (try simp only [World.size_alloc]); omega)); (try have hj0 := fun o => hf (w.heap.size) o (by (try simp only [World.size_alloc]); omega)); (try have hk1 := fun o => hc (w.heap.size + 1) o (by (try simp only [World.size_alloc]); omega)); (try have hj1 := fun o => hf (w.heap.size + 1) o (by (try simp only [World.size_alloc]); omega)); (try have hk2 := fun o => hc (w.heap.size + 1 + 1) o (by (try simp only [World.size_alloc]); omega)); (try have hj2 := fun o => hf (w.heap.size + 1 + 1) o (by (try simp only [World.size_alloc]); omega)); (try have hk3 := fun o => hc (w.heap.size + 1 + 1 + 1) o (by (try simp only [World.size_alloc]); omega)); (try have hj3 := fun o => hf (w.heap.size + 1 + 1 + 1) o (by (try simp only [World.size_alloc]); omega)); clear hc hf) | (go_at_call 29; refine (iSecondsToWidth_any _ _ _ _ _).mono ?_; rintro e w' ⟨rfl, hb⟩; have hz := Ext.size hb; (try simp only [World.size_alloc] at hz); obtain ⟨hc, hf⟩ := Ext.cells hb; (try have hy0 : w.heap.size < w'.heap.size := by omega); (try have hy1 : w.heap.size + 1 < w'.heap.size := by omega); (try have hy2 : w.heap.size + 1 + 1 < w'.heap.size := by omega); (try have hy3 : w.heap.size + 1 + 1 + 1 < w'.heap.size := by omega); (try have hk0 := fun o => hc (w.heap.size) o (by (try simp only [World.size_alloc]); omega)); (try have hj0 := fun o => hf (w.heap.size) o (by (try simp only [World.size_alloc]); omega)); (try have hk1 := fun o => hc (w.heap.size + 1) o (by (try simp only [World.size_alloc]); omega)); (try have hj1 := fun o => hf (w.heap.size + 1) o (by (try simp only [World.size_alloc]); omega)); (try have hk2 := fun o => hc (w.heap.size + 1 + 1) o (by (try simp only [World.size_alloc]); omega)); (try have hj2 := fun o => hf (w.heap.size + 1 + 1) o (by (try simp only [World.size_alloc]); omega)); (try have hk3 := fun o => hc (w.heap.size + 1 + 1 + 1) o (by (try simp only [World.size_alloc]); omega)); (try have hj3 := fun o => hf (w.heap.size + 1 + 1 + 1) o (by (try simp only [World.size_alloc]); omega)); clear hc hf))
  go_ret
  exact ⟨rfl, (by repeat (first | exact Ext.refl _ | assumption | refine Ext.alloc ?_ _ | refine Ext.drew ?_ | refine Ext.drewN ?_ _ | refine Ext.setCell ?_ (by first | exact Nat.le_refl _ | (simp; done) | (dsimp only; omega) | (simp only [World.size_alloc, World.size_setCell]; omega)) _ | refine Ext.trans ?_ (by assumption)))⟩

set_option maxHeartbeats 800000 in
theorem walkFnExactSetByAnswer (a0 : Int) (a1 : Int) (a2 : Int) (w : World) (w0 : (Lit.int .i64 a0).wf = true) (w1 : (Lit.int .i64 a1).wf = true) (w2 : (Lit.int .i64 a2).wf = true) :
    Calls Try.prog 9 #[.int .i64 a0, .int .i64 a1, .int .i64 a2] w fun e w' => e = .returned (.bool true) ∧ Ext w w' := by
  go_enter Try.func9, Try.ntmps9
  go_wp2_with (fail)
  refine (sSetByAnswer_any _ _ _ _).mono ?_
  rintro e w1 ⟨rfl, hb1⟩
  have hz1 := Ext.size hb1
  try simp only [World.size_alloc, World.size_setCell] at hz1
  obtain ⟨hc1, hf1⟩ := Ext.cells hb1
  try have hk1_0_0 := fun o => hc1 (w.heap.size) o (by (try simp only [World.size_alloc, World.size_setCell]); omega)
  try have hj1_0_0 := fun o => hf1 (w.heap.size) o (by (try simp only [World.size_alloc, World.size_setCell]); omega)
  try have hy1_0_0 : w.heap.size < w1.heap.size := by omega
  try have hk1_0_1 := fun o => hc1 (w.heap.size + 1) o (by (try simp only [World.size_alloc, World.size_setCell]); omega)
  try have hj1_0_1 := fun o => hf1 (w.heap.size + 1) o (by (try simp only [World.size_alloc, World.size_setCell]); omega)
  try have hy1_0_1 : w.heap.size + 1 < w1.heap.size := by omega
  try have hk1_0_2 := fun o => hc1 (w.heap.size + 1 + 1) o (by (try simp only [World.size_alloc, World.size_setCell]); omega)
  try have hj1_0_2 := fun o => hf1 (w.heap.size + 1 + 1) o (by (try simp only [World.size_alloc, World.size_setCell]); omega)
  try have hy1_0_2 : w.heap.size + 1 + 1 < w1.heap.size := by omega
  clear hc1 hf1
  go_wp2_with (fail)
  refine (iSetByAnswer_any _ _ _ _).mono ?_
  rintro e w2 ⟨rfl, hb2⟩
  have hz2 := Ext.size hb2
  try simp only [World.size_alloc, World.size_setCell] at hz2
  obtain ⟨hc2, hf2⟩ := Ext.cells hb2
  try have hk2_0_0 := fun o => hc2 (w.heap.size) o (by (try simp only [World.size_alloc, World.size_setCell]); omega)
  try have hj2_0_0 := fun o => hf2 (w.heap.size) o (by (try simp only [World.size_alloc, World.size_setCell]); omega)
  try have hy2_0_0 : w.heap.size < w2.heap.size := by omega
  try have hk2_0_1 := fun o => hc2 (w.heap.size + 1) o (by (try simp only [World.size_alloc, World.size_setCell]); omega)
  try have hj2_0_1 := fun o => hf2 (w.heap.size + 1) o (by (try simp only [World.size_alloc, World.size_setCell]); omega)
  try have hy2_0_1 : w.heap.size + 1 < w2.heap.size := by omega
  try have hk2_0_2 := fun o => hc2 (w.heap.size + 1 + 1) o (by (try simp only [World.size_alloc, World.size_setCell]); omega)
  try have hj2_0_2 := fun o => hf2 (w.heap.size + 1 + 1) o (by (try simp only [World.size_alloc, World.size_setCell]); omega)
  try have hy2_0_2 : w.heap.size + 1 + 1 < w2.heap.size := by omega
  try have hk2_1_0 := fun o => hc2 (w1.heap.size) o (by (try simp only [World.size_alloc, World.size_setCell]); omega)
  try have hj2_1_0 := fun o => hf2 (w1.heap.size) o (by (try simp only [World.size_alloc, World.size_setCell]); omega)
  try have hy2_1_0 : w1.heap.size < w2.heap.size := by omega
  try have hk2_1_1 := fun o => hc2 (w1.heap.size + 1) o (by (try simp only [World.size_alloc, World.size_setCell]); omega)
  try have hj2_1_1 := fun o => hf2 (w1.heap.size + 1) o (by (try simp only [World.size_alloc, World.size_setCell]); omega)
  try have hy2_1_1 : w1.heap.size + 1 < w2.heap.size := by omega
  clear hc2 hf2
  go_wp2_with (go_in)
  go_ret
  exact ⟨rfl, (by repeat (first | exact Ext.refl _ | assumption | refine Ext.alloc ?_ _ | refine Ext.drew ?_ | refine Ext.drewN ?_ _ | refine Ext.setCell ?_ (by first | exact Nat.le_refl _ | (simp; done) | (dsimp only; omega) | (simp only [World.size_alloc, World.size_setCell]; omega)) _ | refine Ext.trans ?_ (by assumption)))⟩

set_option maxHeartbeats 800000 in
theorem walkFnExactSetBySignal (a0 : Int) (a1 : Int) (a2 : Int) (a3 : Int) (w : World) (w0 : (Lit.int .i64 a0).wf = true) (w1 : (Lit.int .i64 a1).wf = true) (w2 : (Lit.int .i64 a2).wf = true) (w3 : (Lit.int .i64 a3).wf = true) :
    Calls Try.prog 10 #[.int .i64 a0, .int .i64 a1, .int .i64 a2, .int .i64 a3] w fun e w' => e = .returned (.bool true) ∧ Ext w w' := by
  go_enter Try.func10, Try.ntmps10
  go_wp2_with (fail)
  refine (sSetBySignal_any _ _ _ _ _).mono ?_
  rintro e w1 ⟨rfl, hb1⟩
  have hz1 := Ext.size hb1
  try simp only [World.size_alloc, World.size_setCell] at hz1
  obtain ⟨hc1, hf1⟩ := Ext.cells hb1
  try have hk1_0_0 := fun o => hc1 (w.heap.size) o (by (try simp only [World.size_alloc, World.size_setCell]); omega)
  try have hj1_0_0 := fun o => hf1 (w.heap.size) o (by (try simp only [World.size_alloc, World.size_setCell]); omega)
  try have hy1_0_0 : w.heap.size < w1.heap.size := by omega
  try have hk1_0_1 := fun o => hc1 (w.heap.size + 1) o (by (try simp only [World.size_alloc, World.size_setCell]); omega)
  try have hj1_0_1 := fun o => hf1 (w.heap.size + 1) o (by (try simp only [World.size_alloc, World.size_setCell]); omega)
  try have hy1_0_1 : w.heap.size + 1 < w1.heap.size := by omega
  try have hk1_0_2 := fun o => hc1 (w.heap.size + 1 + 1) o (by (try simp only [World.size_alloc, World.size_setCell]); omega)
  try have hj1_0_2 := fun o => hf1 (w.heap.size + 1 + 1) o (by (try simp only [World.size_alloc, World.size_setCell]); omega)
  try have hy1_0_2 : w.heap.size + 1 + 1 < w1.heap.size := by omega
  clear hc1 hf1
  go_wp2_with (fail)
  refine (iSetBySignal_any _ _ _ _ _).mono ?_
  rintro e w2 ⟨rfl, hb2⟩
  have hz2 := Ext.size hb2
  try simp only [World.size_alloc, World.size_setCell] at hz2
  obtain ⟨hc2, hf2⟩ := Ext.cells hb2
  try have hk2_0_0 := fun o => hc2 (w.heap.size) o (by (try simp only [World.size_alloc, World.size_setCell]); omega)
  try have hj2_0_0 := fun o => hf2 (w.heap.size) o (by (try simp only [World.size_alloc, World.size_setCell]); omega)
  try have hy2_0_0 : w.heap.size < w2.heap.size := by omega
  try have hk2_0_1 := fun o => hc2 (w.heap.size + 1) o (by (try simp only [World.size_alloc, World.size_setCell]); omega)
  try have hj2_0_1 := fun o => hf2 (w.heap.size + 1) o (by (try simp only [World.size_alloc, World.size_setCell]); omega)
  try have hy2_0_1 : w.heap.size + 1 < w2.heap.size := by omega
  try have hk2_0_2 := fun o => hc2 (w.heap.size + 1 + 1) o (by (try simp only [World.size_alloc, World.size_setCell]); omega)
  try have hj2_0_2 := fun o => hf2 (w.heap.size + 1 + 1) o (by (try simp only [World.size_alloc, World.size_setCell]); omega)
  try have hy2_0_2 : w.heap.size + 1 + 1 < w2.heap.size := by omega
  try have hk2_1_0 := fun o => hc2 (w1.heap.size) o (by (try simp only [World.size_alloc, World.size_setCell]); omega)
  try have hj2_1_0 := fun o => hf2 (w1.heap.size) o (by (try simp only [World.size_alloc, World.size_setCell]); omega)
  try have hy2_1_0 : w1.heap.size < w2.heap.size := by omega
  try have hk2_1_1 := fun o => hc2 (w1.heap.size + 1) o (by (try simp only [World.size_alloc, World.size_setCell]); omega)
  try have hj2_1_1 := fun o => hf2 (w1.heap.size + 1) o (by (try simp only [World.size_alloc, World.size_setCell]); omega)
  try have hy2_1_1 : w1.heap.size + 1 < w2.heap.size := by omega
  clear hc2 hf2
  go_wp2_with (go_in)
  go_ret
  exact ⟨rfl, (by repeat (first | exact Ext.refl _ | assumption | refine Ext.alloc ?_ _ | refine Ext.drew ?_ | refine Ext.drewN ?_ _ | refine Ext.setCell ?_ (by first | exact Nat.le_refl _ | (simp; done) | (dsimp only; omega) | (simp only [World.size_alloc, World.size_setCell]; omega)) _ | refine Ext.trans ?_ (by assumption)))⟩

set_option maxHeartbeats 800000 in
theorem walkFnExactAgedBound (a0_0 a0_1 : Int) (a1 : Int) (a2 : Int) (w : World) (w0_0 : (Lit.int .i64 a0_0).wf = true) (w0_1 : (Lit.int .i64 a0_1).wf = true) (w1 : (Lit.int .i64 a1).wf = true) (w2 : (Lit.int .i64 a2).wf = true) :
    Calls Try.prog 11 #[.agg #[.int .i64 a0_0, .int .i64 a0_1], .int .i64 a1, .int .i64 a2] w fun e w' => e = .returned (.bool true) ∧ Ext w w' := by
  go_enter Try.func11, Try.ntmps11
  go_wp2_with (fail)
  refine (toBound_any _ _ _).mono ?_
  rintro e w1 ⟨rfl, hb1⟩
  have hz1 := Ext.size hb1
  try simp only [World.size_alloc, World.size_setCell] at hz1
  obtain ⟨hc1, hf1⟩ := Ext.cells hb1
  try have hk1_0_0 := fun o => hc1 (w.heap.size) o (by (try simp only [World.size_alloc, World.size_setCell]); omega)
  try have hj1_0_0 := fun o => hf1 (w.heap.size) o (by (try simp only [World.size_alloc, World.size_setCell]); omega)
  try have hy1_0_0 : w.heap.size < w1.heap.size := by omega
  try have hk1_0_1 := fun o => hc1 (w.heap.size + 1) o (by (try simp only [World.size_alloc, World.size_setCell]); omega)
  try have hj1_0_1 := fun o => hf1 (w.heap.size + 1) o (by (try simp only [World.size_alloc, World.size_setCell]); omega)
  try have hy1_0_1 : w.heap.size + 1 < w1.heap.size := by omega
  try have hk1_0_2 := fun o => hc1 (w.heap.size + 1 + 1) o (by (try simp only [World.size_alloc, World.size_setCell]); omega)
  try have hj1_0_2 := fun o => hf1 (w.heap.size + 1 + 1) o (by (try simp only [World.size_alloc, World.size_setCell]); omega)
  try have hy1_0_2 : w.heap.size + 1 + 1 < w1.heap.size := by omega
  clear hc1 hf1
  go_wp2_with (fail)
  refine (sAgedBound_any _ _ _ _ _).mono ?_
  rintro e w2 ⟨rfl, hb2⟩
  have hz2 := Ext.size hb2
  try simp only [World.size_alloc, World.size_setCell] at hz2
  obtain ⟨hc2, hf2⟩ := Ext.cells hb2
  try have hk2_0_0 := fun o => hc2 (w.heap.size) o (by (try simp only [World.size_alloc, World.size_setCell]); omega)
  try have hj2_0_0 := fun o => hf2 (w.heap.size) o (by (try simp only [World.size_alloc, World.size_setCell]); omega)
  try have hy2_0_0 : w.heap.size < w2.heap.size := by omega
  try have hk2_0_1 := fun o => hc2 (w.heap.size + 1) o (by (try simp only [World.size_alloc, World.size_setCell]); omega)
  try have hj2_0_1 := fun o => hf2 (w.heap.size + 1) o (by (try simp only [World.size_alloc, World.size_setCell]); omega)
  try have hy2_0_1 : w.heap.size + 1 < w2.heap.size := by omega
  try have hk2_0_2 := fun o => hc2 (w.heap.size + 1 + 1) o (by (try simp only [World.size_alloc, World.size_setCell]); omega)
  try have hj2_0_2 := fun o => hf2 (w.heap.size + 1 + 1) o (by (try simp only [World.size_alloc, World.size_setCell]); omega)
  try have hy2_0_2 : w.heap.size + 1 + 1 < w2.heap.size := by omega
  try have hk2_1_0 := fun o => hc2 (w1.heap.size) o (by (try simp only [World.size_alloc, World.size_setCell]); omega)
  try have hj2_1_0 := fun o => hf2 (w1.heap.size) o (by (try simp only [World.size_alloc, World.size_setCell]); omega)
  try have hy2_1_0 : w1.heap.size < w2.heap.size := by omega
  try have hk2_1_1 := fun o => hc2 (w1.heap.size + 1) o (by (try simp only [World.size_alloc, World.size_setCell]); omega)
  try have hj2_1_1 := fun o => hf2 (w1.heap.size + 1) o (by (try simp only [World.size_alloc, World.size_setCell]); omega)
  try have hy2_1_1 : w1.heap.size + 1 < w2.heap.size := by omega
  clear hc2 hf2
  go_wp2_with (fail)
  refine (toBound_any _ _ _).mono ?_
  rintro e w3 ⟨rfl, hb3⟩
  have hz3 := Ext.size hb3
  try simp only [World.size_alloc, World.size_setCell] at hz3
  obtain ⟨hc3, hf3⟩ := Ext.cells hb3
  try have hk3_0_0 := fun o => hc3 (w.heap.size) o (by (try simp only [World.size_alloc, World.size_setCell]); omega)
  try have hj3_0_0 := fun o => hf3 (w.heap.size) o (by (try simp only [World.size_alloc, World.size_setCell]); omega)
  try have hy3_0_0 : w.heap.size < w3.heap.size := by omega
  try have hk3_0_1 := fun o => hc3 (w.heap.size + 1) o (by (try simp only [World.size_alloc, World.size_setCell]); omega)
  try have hj3_0_1 := fun o => hf3 (w.heap.size + 1) o (by (try simp only [World.size_alloc, World.size_setCell]); omega)
  try have hy3_0_1 : w.heap.size + 1 < w3.heap.size := by omega
  try have hk3_0_2 := fun o => hc3 (w.heap.size + 1 + 1) o (by (try simp only [World.size_alloc, World.size_setCell]); omega)
  try have hj3_0_2 := fun o => hf3 (w.heap.size + 1 + 1) o (by (try simp only [World.size_alloc, World.size_setCell]); omega)
  try have hy3_0_2 : w.heap.size + 1 + 1 < w3.heap.size := by omega
  try have hk3_1_0 := fun o => hc3 (w1.heap.size) o (by (try simp only [World.size_alloc, World.size_setCell]); omega)
  try have hj3_1_0 := fun o => hf3 (w1.heap.size) o (by (try simp only [World.size_alloc, World.size_setCell]); omega)
  try have hy3_1_0 : w1.heap.size < w3.heap.size := by omega
  try have hk3_1_1 := fun o => hc3 (w1.heap.size + 1) o (by (try simp only [World.size_alloc, World.size_setCell]); omega)
  try have hj3_1_1 := fun o => hf3 (w1.heap.size + 1) o (by (try simp only [World.size_alloc, World.size_setCell]); omega)
  try have hy3_1_1 : w1.heap.size + 1 < w3.heap.size := by omega
  try have hk3_2_0 := fun o => hc3 (w2.heap.size) o (by (try simp only [World.size_alloc, World.size_setCell]); omega)
  try have hj3_2_0 := fun o => hf3 (w2.heap.size) o (by (try simp only [World.size_alloc, World.size_setCell]); omega)
  try have hy3_2_0 : w2.heap.size < w3.heap.size := by omega
  try have hk3_2_1 := fun o => hc3 (w2.heap.size + 1) o (by (try simp only [World.size_alloc, World.size_setCell]); omega)
  try have hj3_2_1 := fun o => hf3 (w2.heap.size + 1) o (by (try simp only [World.size_alloc, World.size_setCell]); omega)
  try have hy3_2_1 : w2.heap.size + 1 < w3.heap.size := by omega
  clear hc3 hf3
  go_wp2_with (fail)
  refine (iAgedBound_any _ _ _ _ _).mono ?_
  rintro e w4 ⟨rfl, hb4⟩
  have hz4 := Ext.size hb4
  try simp only [World.size_alloc, World.size_setCell] at hz4
  obtain ⟨hc4, hf4⟩ := Ext.cells hb4
  try have hk4_0_0 := fun o => hc4 (w.heap.size) o (by (try simp only [World.size_alloc, World.size_setCell]); omega)
  try have hj4_0_0 := fun o => hf4 (w.heap.size) o (by (try simp only [World.size_alloc, World.size_setCell]); omega)
  try have hy4_0_0 : w.heap.size < w4.heap.size := by omega
  try have hk4_0_1 := fun o => hc4 (w.heap.size + 1) o (by (try simp only [World.size_alloc, World.size_setCell]); omega)
  try have hj4_0_1 := fun o => hf4 (w.heap.size + 1) o (by (try simp only [World.size_alloc, World.size_setCell]); omega)
  try have hy4_0_1 : w.heap.size + 1 < w4.heap.size := by omega
  try have hk4_0_2 := fun o => hc4 (w.heap.size + 1 + 1) o (by (try simp only [World.size_alloc, World.size_setCell]); omega)
  try have hj4_0_2 := fun o => hf4 (w.heap.size + 1 + 1) o (by (try simp only [World.size_alloc, World.size_setCell]); omega)
  try have hy4_0_2 : w.heap.size + 1 + 1 < w4.heap.size := by omega
  try have hk4_1_0 := fun o => hc4 (w1.heap.size) o (by (try simp only [World.size_alloc, World.size_setCell]); omega)
  try have hj4_1_0 := fun o => hf4 (w1.heap.size) o (by (try simp only [World.size_alloc, World.size_setCell]); omega)
  try have hy4_1_0 : w1.heap.size < w4.heap.size := by omega
  try have hk4_1_1 := fun o => hc4 (w1.heap.size + 1) o (by (try simp only [World.size_alloc, World.size_setCell]); omega)
  try have hj4_1_1 := fun o => hf4 (w1.heap.size + 1) o (by (try simp only [World.size_alloc, World.size_setCell]); omega)
  try have hy4_1_1 : w1.heap.size + 1 < w4.heap.size := by omega
  try have hk4_2_0 := fun o => hc4 (w2.heap.size) o (by (try simp only [World.size_alloc, World.size_setCell]); omega)
  try have hj4_2_0 := fun o => hf4 (w2.heap.size) o (by (try simp only [World.size_alloc, World.size_setCell]); omega)
  try have hy4_2_0 : w2.heap.size < w4.heap.size := by omega
  try have hk4_2_1 := fun o => hc4 (w2.heap.size + 1) o (by (try simp only [World.size_alloc, World.size_setCell]); omega)
  try have hj4_2_1 := fun o => hf4 (w2.heap.size + 1) o (by (try simp only [World.size_alloc, World.size_setCell]); omega)
  try have hy4_2_1 : w2.heap.size + 1 < w4.heap.size := by omega
  try have hk4_3_0 := fun o => hc4 (w3.heap.size) o (by (try simp only [World.size_alloc, World.size_setCell]); omega)
  try have hj4_3_0 := fun o => hf4 (w3.heap.size) o (by (try simp only [World.size_alloc, World.size_setCell]); omega)
  try have hy4_3_0 : w3.heap.size < w4.heap.size := by omega
  try have hk4_3_1 := fun o => hc4 (w3.heap.size + 1) o (by (try simp only [World.size_alloc, World.size_setCell]); omega)
  try have hj4_3_1 := fun o => hf4 (w3.heap.size + 1) o (by (try simp only [World.size_alloc, World.size_setCell]); omega)
  try have hy4_3_1 : w3.heap.size + 1 < w4.heap.size := by omega
  clear hc4 hf4
  go_wp2_with (go_in)
  go_ret
  exact ⟨rfl, (by repeat (first | exact Ext.refl _ | assumption | refine Ext.alloc ?_ _ | refine Ext.drew ?_ | refine Ext.drewN ?_ _ | refine Ext.setCell ?_ (by first | exact Nat.le_refl _ | (simp; done) | (dsimp only; omega) | (simp only [World.size_alloc, World.size_setCell]; omega)) _ | refine Ext.trans ?_ (by assumption)))⟩

end Go.Proofs.Ytiemkobgpaekoaa