/- The values of the law of line jobs, by letters. No condition. -/
import Derived.Test.YtabafhmeefeioaaPriT
import Derived.Test.YtabafhmeefeioaaPriJ
namespace Go.Proofs.Ytabafhmeefeioaa
open Go.RowKit
set_option linter.unusedSimpArgs false
set_option linter.unusedVariables false

theorem row_of {f : FuncId} {args : Array Value} {w : World} {L : List Int} {b : Bool} (h : Calls Try.prog f args w fun e w' => ∃ v', e = .returned (.tuple #[v', .bool b]) ∧ w'.ownsRow w.heap.size 3 1 v' (L.length / 1) (L.map (Value.int .i64)) ∧ Ext w w') (hm : L.length ≤ 1000) (hw : ∀ x ∈ L, (Lit.int .i64 x).wf = true) :
    Calls Try.prog f args w fun e w' => ∃ v', e = .returned (.tuple #[v', .bool b]) ∧ IntRow .i64 1 w' v' L.length L ∧ Ext w w' := by
  refine h.mono ?_
  rintro e w' ⟨v', rfl, hr, hx⟩
  rw [Nat.div_one] at hr
  exact ⟨v', rfl, row_ints hr (by unfold maxLen; omega) hw, hx⟩
theorem len_if {c : Bool} {L : List Int} {n : Nat} (h : c = true → L.length = n ∧ n ≤ 12) : (if c = true then L else []).length ≤ 1000 := by
  cases c
  · simp
  · have := h rfl
    simp
    omega
theorem lineAll (v : Value) (n : Nat) (z : List Int) : ∃ (F B W : List Int) (S : List (List Int)) (I : Int) (ok : Bool),
    ((∀ w, IntRow .i64 3 w v n z → Calls Try.prog 42 #[v] w fun e w' => ∃ v' gs, e = .returned (.tuple #[v', .bool ok]) ∧ Lists w' w.heap.size v' 3 gs S ∧ Ext w w')) ∧ ((∀ w, IntRow .i64 3 w v n z → Calls Try.prog 41 #[v] w fun e w' => ∃ v' gs, e = .returned (.tuple #[v', .bool ok]) ∧ Lists w' w.heap.size v' 3 gs S ∧ Ext w w')) ∧ ((∀ w, IntRow .i64 3 w v n z → Calls Try.prog 36 #[v] w fun e w' => ∃ v', e = .returned (.tuple #[v', .bool ok]) ∧ IntRow .i64 1 w' v' (F).length F ∧ Ext w w')) ∧ ((∀ w, IntRow .i64 3 w v n z → Calls Try.prog 35 #[v] w fun e w' => ∃ v', e = .returned (.tuple #[v', .bool ok]) ∧ IntRow .i64 1 w' v' (F).length F ∧ Ext w w')) ∧ ((∀ w, IntRow .i64 3 w v n z → Calls Try.prog 40 #[v] w fun e w' => ∃ v', e = .returned (.tuple #[v', .bool ok]) ∧ IntRow .i64 1 w' v' (B).length B ∧ Ext w w')) ∧ ((∀ w, IntRow .i64 3 w v n z → Calls Try.prog 39 #[v] w fun e w' => ∃ v', e = .returned (.tuple #[v', .bool ok]) ∧ IntRow .i64 1 w' v' (B).length B ∧ Ext w w')) ∧ ((∀ w, IntRow .i64 3 w v n z → Calls Try.prog 38 #[v] w fun e w' => ∃ v', e = .returned (.tuple #[v', .bool ok]) ∧ IntRow .i64 1 w' v' (W).length W ∧ Ext w w')) ∧ ((∀ w, IntRow .i64 3 w v n z → Calls Try.prog 37 #[v] w fun e w' => ∃ v', e = .returned (.tuple #[v', .bool ok]) ∧ IntRow .i64 1 w' v' (W).length W ∧ Ext w w')) ∧ ((∀ w, IntRow .i64 3 w v n z → Calls Try.prog 27 #[v] w fun e w' => e = .returned (.tuple #[.int .i64 I, .bool ok]) ∧ Ext w w')) ∧ ((∀ w, IntRow .i64 3 w v n z → Calls Try.prog 26 #[v] w fun e w' => e = .returned (.tuple #[.int .i64 I, .bool ok]) ∧ Ext w w')) ∧ ((∀ w, IntRow .i64 3 w v n z → Calls Try.prog 18 #[v] w fun e w' => e = .returned (.bool ok) ∧ Ext w w')) ∧
    (∀ x ∈ S, ∀ y ∈ x, (Lit.int .i64 y).wf = true) ∧ (ok = true → okJs z n = true ∧ F = finJ z n ∧ B = brkJ z n ∧ W = waitJ z n ∧ S = segJ z n ∧ I = idleAt z n (endT z n)) := by
  refine ⟨finV z n, brkV z n, waitV z n, segV z n, idleV z n, okJs z n, fun w h => iSegmentsOf_any v n z w h, fun w h => sSegmentsOf_any v n z w h, fun w h => row_of (iFinishTimes_any v n z w h) (len_if fun h => ⟨finJ_len z n, okJs_n h⟩) (finV_wf z n), fun w h => row_of (sFinishTimes_any v n z w h) (len_if fun h => ⟨finJ_len z n, okJs_n h⟩) (finV_wf z n), fun w h => row_of (iBreaksOf_any v n z w h) (len_if fun h => ⟨brkJ_len z n, okJs_n h⟩) (brkV_wf z n), fun w h => row_of (sBreaksOf_any v n z w h) (len_if fun h => ⟨brkJ_len z n, okJs_n h⟩) (brkV_wf z n), fun w h => row_of (iWaitsOf_any v n z w h) (len_if fun h => ⟨by simp [waitJ], okJs_n h⟩) (waitV_wf z n), fun w h => row_of (sWaitsOf_any v n z w h) (len_if fun h => ⟨by simp [waitJ], okJs_n h⟩) (waitV_wf z n), fun w h => iIdleTicks_any v n z w h, fun w h => sIdleTicks_any v n z w h, fun w h => iAreLineJobs_any v n z w h, fun x hx y hy => ?_, fun h => ⟨h, by unfold finV; rw [if_pos h], by unfold brkV; rw [if_pos h], by unfold waitV; rw [if_pos h], by unfold segV; rw [if_pos h], by unfold idleV; rw [if_pos h]⟩⟩
  unfold segV at hx
  by_cases h : okJs z n = true
  · rw [if_pos h] at hx
    obtain ⟨i, a, b, rfl, g⟩ := (segJ_inv h).2 x hx
    have := okJs_n h
    simp only [List.mem_cons, List.not_mem_nil, or_false] at hy
    rcases hy with rfl | rfl | rfl <;> exact small_wf (by omega) (by omega)
  · rw [if_neg h] at hx
    cases hx
theorem leftAll (v : Value) (n : Nat) (z : List Int) (t : Int) : ∃ (L : List Int) (j : Int) (ok on : Bool), ((∀ w, IntRow .i64 3 w v n z → Calls Try.prog 31 #[v, .int .i64 t] w fun e w' => ∃ v', e = .returned (.tuple #[v', .bool ok]) ∧ IntRow .i64 1 w' v' (L).length L ∧ Ext w w')) ∧ ((∀ w, IntRow .i64 3 w v n z → Calls Try.prog 30 #[v, .int .i64 t] w fun e w' => ∃ v', e = .returned (.tuple #[v', .bool ok]) ∧ IntRow .i64 1 w' v' (L).length L ∧ Ext w w')) ∧ ((∀ w, IntRow .i64 3 w v n z → Calls Try.prog 25 #[v, .int .i64 t] w fun e w' => e = .returned (.tuple #[.int .i64 j, .bool on]) ∧ Ext w w')) ∧ ((∀ w, IntRow .i64 3 w v n z → Calls Try.prog 24 #[v, .int .i64 t] w fun e w' => e = .returned (.tuple #[.int .i64 j, .bool on]) ∧ Ext w w')) ∧ (on = true → ok = true) ∧ (ok = lfC z n t ∧ L = lfV z n t ∧ on = jobC z n t ∧ j = jobV z n t) := by
  refine ⟨lfV z n t, jobV z n t, lfC z n t, jobC z n t, fun w h => row_of (iLeftAt_any v n z t w h) (len_if fun h => ⟨(lfL_inv (by unfold lfC at h; rw [Bool.and_eq_true] at h; exact h.1) t _).1, okJs_n (by unfold lfC at h; rw [Bool.and_eq_true] at h; exact h.1)⟩) (lfV_wf z n t), fun w h => row_of (sLeftAt_any v n z t w h) (len_if fun h => ⟨(lfL_inv (by unfold lfC at h; rw [Bool.and_eq_true] at h; exact h.1) t _).1, okJs_n (by unfold lfC at h; rw [Bool.and_eq_true] at h; exact h.1)⟩) (lfV_wf z n t), fun w h => iJobAt_any v n z t w h, fun w h => sJobAt_any v n z t w h, fun h => ?_, rfl, rfl, rfl, rfl⟩
  unfold jobC at h
  unfold lfC
  rw [Bool.and_eq_true] at h
  exact h.1
end Go.Proofs.Ytabafhmeefeioaa