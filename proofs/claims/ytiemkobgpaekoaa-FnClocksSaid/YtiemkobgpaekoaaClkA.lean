/- The clock chapter's small functions, of the program and of the reference: what each returns. No condition. -/
import Derived.Test.YtiemkobgpaekoaaBase
namespace Go.Proofs.Ytiemkobgpaekoaa
open Go.RowKit
set_option linter.unusedSimpArgs false
set_option linter.unusedVariables false

set_option maxHeartbeats 400000 in
theorem toBound_any (lo hi : Int) (w : World) :
    Calls Try.prog 17 #[.agg #[.int .i64 lo, .int .i64 hi]] w fun e w' => e = .returned (.agg #[.int .i64 lo, .int .i64 hi]) ∧ Ext w w' := by
  go_enter Try.func17, Try.ntmps17
  go_wp2
  exact bodyPost_ret (v := .agg #[.int .i64 lo, .int .i64 hi]) (by simp [results, Try.results17, go_sem]) rfl ⟨rfl, (by repeat (first | exact Ext.refl _ | assumption | refine Ext.alloc ?_ _ | refine Ext.drew ?_ | refine Ext.drewN ?_ _ | refine Ext.setCell ?_ (by first | exact Nat.le_refl _ | (simp; done) | (dsimp only; omega) | (simp only [World.size_alloc, World.size_setCell]; omega)) _ | refine Ext.trans ?_ (by assumption)))⟩

def bnd (lo hi : Int) : Bool := decide (-100000 ≤ lo ∧ lo ≤ hi ∧ hi ≤ 100000)
theorem bnd_iff {lo hi : Int} : bnd lo hi = true ↔ (-100000 ≤ lo ∧ lo ≤ hi ∧ hi ≤ 100000) := by simp [bnd]
theorem bnd_not {lo hi : Int} : bnd lo hi = false ↔ ¬ (-100000 ≤ lo ∧ lo ≤ hi ∧ hi ≤ 100000) := by rw [← bnd_iff]; simp

set_option maxHeartbeats 400000 in
theorem l1In_any (n lo hi : Int) (w : World) :
    Calls Try.prog 56 #[.int .i64 n, .int .i64 lo, .int .i64 hi] w fun e w' => e = .returned (.bool (inR n lo hi)) ∧ w = w' := by
  go_enter Try.func56, Try.ntmps56
  go_wp2
  all_goals (go_ret; refine ⟨ret_bool ?_, rfl⟩)
  all_goals (rw [Bool.eq_iff_iff]; simp [inR]; try omega)

set_option maxHeartbeats 400000 in
theorem within_any (n lo hi : Int) (w : World) :
    Calls Try.prog 58 #[.int .i64 n, .int .i64 lo, .int .i64 hi] w fun e w' => e = .returned (.bool (inR n lo hi)) ∧ w = w' := by
  go_enter Try.func58, Try.ntmps58
  go_wp2
  all_goals (go_ret; refine ⟨ret_bool ?_, rfl⟩)
  all_goals (rw [Bool.eq_iff_iff]; simp [inR]; try omega)

set_option maxHeartbeats 400000 in
theorem clBound_any (lo hi : Int) (w : World) :
    Calls Try.prog 52 #[.agg #[.int .i64 lo, .int .i64 hi]] w fun e w' => e = .returned (.bool (bnd lo hi)) ∧ Ext w w' := by
  go_enter Try.func52, Try.ntmps52
  go_wp2
  all_goals (go_ret; refine ⟨ret_bool ?_, (by repeat (first | exact Ext.refl _ | assumption | refine Ext.alloc ?_ _ | refine Ext.drew ?_ | refine Ext.drewN ?_ _ | refine Ext.setCell ?_ (by first | exact Nat.le_refl _ | (simp; done) | (dsimp only; omega) | (simp only [World.size_alloc, World.size_setCell]; omega)) _ | refine Ext.trans ?_ (by assumption)))⟩)
  all_goals (rw [Bool.eq_iff_iff]; simp [bnd]; try omega)

set_option maxHeartbeats 400000 in
theorem sIsBound_any (lo hi : Int) (w : World) :
    Calls Try.prog 16 #[.agg #[.int .i64 lo, .int .i64 hi]] w fun e w' => e = .returned (.bool (bnd lo hi)) ∧ Ext w w' := by
  go_enter Try.func16, Try.ntmps16
  go_wp2_with (go_at_call 52; refine (clBound_any _ _ _).mono ?_; rintro e w' ⟨rfl, hb⟩)
  go_ret
  exact ⟨rfl, (by repeat (first | exact Ext.refl _ | assumption | refine Ext.alloc ?_ _ | refine Ext.drew ?_ | refine Ext.drewN ?_ _ | refine Ext.setCell ?_ (by first | exact Nat.le_refl _ | (simp; done) | (dsimp only; omega) | (simp only [World.size_alloc, World.size_setCell]; omega)) _ | refine Ext.trans ?_ (by assumption)))⟩

set_option maxHeartbeats 400000 in
theorem iIsBound_any (lo hi : Int) (w : World) :
    Calls Try.prog 18 #[.agg #[.int .i64 lo, .int .i64 hi]] w fun e w' => e = .returned (.bool (bnd lo hi)) ∧ Ext w w' := by
  go_enter Try.func18, Try.ntmps18
  go_wp2
  all_goals (go_ret; refine ⟨ret_bool ?_, (by repeat (first | exact Ext.refl _ | assumption | refine Ext.alloc ?_ _ | refine Ext.drew ?_ | refine Ext.drewN ?_ _ | refine Ext.setCell ?_ (by first | exact Nat.le_refl _ | (simp; done) | (dsimp only; omega) | (simp only [World.size_alloc, World.size_setCell]; omega)) _ | refine Ext.trans ?_ (by assumption)))⟩)
  all_goals (rw [Bool.eq_iff_iff]; simp [bnd]; try omega)

set_option maxHeartbeats 400000 in
theorem walkFnExactIsBound (lo hi : Int) (w : World) (_ : (Lit.int .i64 lo).wf = true) (_ : (Lit.int .i64 hi).wf = true) :
    Calls Try.prog 3 #[.agg #[.int .i64 lo, .int .i64 hi]] w fun e w' => e = .returned (.bool true) ∧ Ext w w' := by
  go_enter Try.func3, Try.ntmps3
  go_wp2_with (first | (go_at_call 17; refine (toBound_any _ _ _).mono ?_; rintro e w' ⟨rfl, hb⟩; have hz := Ext.size hb; (try simp only [World.size_alloc] at hz); obtain ⟨hc, hf⟩ := Ext.cells hb; (try have hy0 : w.heap.size < w'.heap.size := by omega); (try have hy1 : w.heap.size + 1 < w'.heap.size := by omega); (try have hy2 : w.heap.size + 1 + 1 < w'.heap.size := by omega); (try have hy3 : w.heap.size + 1 + 1 + 1 < w'.heap.size := by omega); (try have hk0 := fun o => hc (w.heap.size) o (by (try simp only [World.size_alloc]); omega)); (try have hj0 := fun o => hf (w.heap.size) o (by (try simp only [World.size_alloc]); omega)); (try have hk1 := fun o => hc (w.heap.size + 1) o (by (try simp only [World.size_alloc]); omega)); (try have hj1 := fun o => hf (w.heap.size + 1) o (by (try simp only [World.size_alloc]); omega)); (try have hk2 := fun o => hc (w.heap.size + 1 + 1) o (by (try simp only [World.size_alloc]); omega)); (try have hj2 := fun o => hf (w.heap.size + 1 + 1) o (by (try simp only [World.size_alloc]); omega)); (try have hk3 := fun o => hc (w.heap.size + 1 + 1 + 1) o (by (try simp only [World.size_alloc]); omega)); (try have hj3 := fun o => hf (w.heap.size + 1 + 1 + 1) o (by (try simp only [World.size_alloc]); omega)); clear hc hf) | (go_at_call 16; refine (sIsBound_any _ _ _).mono ?_; rintro e w' ⟨rfl, hb⟩; have hz := Ext.size hb; (try simp only [World.size_alloc] at hz); obtain ⟨hc, hf⟩ := Ext.cells hb; (try have hy0 : w.heap.size < w'.heap.size := by omega); (try have hy1 : w.heap.size + 1 < w'.heap.size := by omega); (try have hy2 : w.heap.size + 1 + 1 < w'.heap.size := by omega); (try have hy3 : w.heap.size + 1 + 1 + 1 < w'.heap.size := by omega); (try have hk0 := fun o => hc (w.heap.size) o (by (try simp only [World.size_alloc]); omega)); (try have hj0 := fun o => hf (w.heap.size) o (by (try simp only [World.size_alloc]); omega)); (try have hk1 := fun o => hc (w.heap.size + 1) o (by (try simp only [World.size_alloc]); omega)); (try have hj1 := fun o => hf (w.heap.size + 1) o (by (try simp only [World.size_alloc]); omega)); (try have hk2 := fun o => hc (w.heap.size + 1 + 1) o (by (try simp only [World.size_alloc]); omega)); (try have hj2 := fun o => hf (w.heap.size + 1 + 1) o (by (try simp only [World.size_alloc]); omega)); (try have hk3 := fun o => hc (w.heap.size + 1 + 1 + 1) o (by (try simp only [World.size_alloc]); omega)); (try have hj3 := fun o => hf (w.heap.size + 1 + 1 + 1) o (by (try simp only [World.size_alloc]); omega)); clear hc hf) | (go_at_call 18; refine (iIsBound_any _ _ _).mono ?_; rintro e w' ⟨rfl, hb⟩; have hz := Ext.size hb; (try simp only [World.size_alloc] at hz); obtain ⟨hc, hf⟩ := Ext.cells hb; (try have hy0 : w.heap.size < w'.heap.size := by omega); (try have hy1 : w.heap.size + 1 < w'.heap.size := by omega); (try have hy2 : w.heap.size + 1 + 1 < w'.heap.size := by omega); (try have hy3 : w.heap.size + 1 + 1 + 1 < w'.heap.size := by omega); (try have hk0 := fun o => hc (w.heap.size) o (by (try simp only [World.size_alloc]); omega)); (try have hj0 := fun o => hf (w.heap.size) o (by (try simp only [World.size_alloc]); omega)); (try have hk1 := fun o => hc (w.heap.size + 1) o (by (try simp only [World.size_alloc]); omega)); (try have hj1 := fun o => hf (w.heap.size + 1) o (by (try simp only [World.size_alloc]); omega)); (try have hk2 := fun o => hc (w.heap.size + 1 + 1) o (by (try simp only [World.size_alloc]); omega)); (try have hj2 := fun o => hf (w.heap.size + 1 + 1) o (by (try simp only [World.size_alloc]); omega)); (try have hk3 := fun o => hc (w.heap.size + 1 + 1 + 1) o (by (try simp only [World.size_alloc]); omega)); (try have hj3 := fun o => hf (w.heap.size + 1 + 1 + 1) o (by (try simp only [World.size_alloc]); omega)); clear hc hf))
  go_ret
  exact ⟨rfl, (by repeat (first | exact Ext.refl _ | assumption | refine Ext.alloc ?_ _ | refine Ext.drew ?_ | refine Ext.drewN ?_ _ | refine Ext.setCell ?_ (by first | exact Nat.le_refl _ | (simp; done) | (dsimp only; omega) | (simp only [World.size_alloc, World.size_setCell]; omega)) _ | refine Ext.trans ?_ (by assumption)))⟩
end Go.Proofs.Ytiemkobgpaekoaa
