/- Helpers of the laws: lists of integers compared; a list that holds a number. No condition. -/
import Derived.Test.YtijeieacoaopcaaRow
import Derived.Maps.RangeWalk
namespace Go.Proofs.Ytijeieacoaopcaa
open Go.RowKit
set_option linter.unusedSimpArgs false
set_option linter.unusedVariables false

set_option maxRecDepth 100000 in
set_option maxHeartbeats 600000 in
theorem qInts_same (v v' : Value) (n : Nat) (z : List Int) (w : World) (h : IntRow .i64 1 w v n z) (h' : IntRow .i64 1 w v' n z) :
    Calls Try.prog 13 #[v, v'] w fun e w' => e = .returned (.bool true) ∧ Ext w w' := by
  obtain ⟨hl, hm, hwf, a, c, rfl, hnc, hcm, hcell⟩ := h
  obtain ⟨_, _, _, a', c', rfl, hnc', hcm', hcell'⟩ := h'
  unfold maxLen at hm
  go_enter Try.func13, Try.ntmps13
  go_wp2_with (fail)
  go_loopw [13] (fun i wr => ∃ (k : Nat), k ≤ n ∧ i = .int .i64 (k : Int) ∧ Ext w wr)
    (fun i _ => n - (intOf i).toNat)
  case atStart => exact ⟨0, Nat.zero_le _, rfl, Ext.refl _⟩
  case round =>
    obtain ⟨k, hk, rfl, hE⟩ := hrel
    by_cases hlt : k < n
    · have hne : ¬ n = 0 := by omega
      obtain ⟨b, o, rfl, hb, hc⟩ := hcell.resolve_left hne
      obtain ⟨b', o', rfl, hb', hc'⟩ := hcell'.resolve_left hne
      obtain ⟨x0, hx0⟩ : ∃ x, x = z.getD (k * 1) 0 := ⟨_, rfl⟩
      have s0 : wr.cell? ⟨b, o + k, none⟩ = some (.int .i64 x0) := by rw [(Ext.cells hE).1 _ _ hb, show o + k = o + (k * 1) by omega, hc _ (by omega), hx0]
      have r0 : wr.cell? ⟨b', o' + k, none⟩ = some (.int .i64 x0) := by rw [(Ext.cells hE).1 _ _ hb', show o' + k = o' + (k * 1) by omega, hc' _ (by omega), hx0]
      clear hx0 hc hcell hc' hcell'
      go_wp2_with (fail)
      go_quiet (fail)
      go_wp2_with (fail)
      go_roundw
      case rel => exact ⟨k + 1, by omega, by go_num, (by repeat (first | exact Ext.refl _ | assumption | refine Ext.alloc ?_ _ | refine Ext.drew ?_ | refine Ext.drewN ?_ _ | refine Ext.setCell ?_ (by first | exact Nat.le_refl _ | (simp; done) | (dsimp only; omega) | (simp only [World.size_alloc, World.size_setCell]; omega)) _ | refine Ext.trans ?_ (by assumption)))⟩
      case measure => simp [intOf]; omega
    · obtain rfl : k = n := by omega
      clear hcell hcell'
      go_wp2_with (fail)
      go_ret
      exact ⟨rfl, hE⟩

theorem ne_b {a b : Int} (h : a ≠ b) : (!(a == b)) = true := by simpa using h
theorem eq_b {a b : Int} (h : a = b) : (!(a == b)) = false := by simpa using h
def hasZ (z : List Int) (n : Nat) (x : Int) : Bool := !allB (fun j => !(z.getD j 0 == x)) n
theorem hasZ_iff {z : List Int} {n : Nat} {x : Int} (hl : z.length = n) : hasZ z n x = true ↔ x ∈ z := by
  unfold hasZ
  constructor
  · intro h
    rw [Bool.not_eq_true', ← Bool.not_eq_true] at h
    rcases Classical.em (x ∈ z) with c | c
    · exact c
    · exfalso
      refine h (allB_t fun j hj => ?_)
      have : z.getD j 0 ≠ x := fun e => c (by rw [← e, List.getD_eq_getElem?_getD, List.getElem?_eq_getElem (show j < z.length by omega)]; exact List.getElem_mem _)
      exact ne_b this
  · intro h
    obtain ⟨j, hj, e⟩ := List.getElem_of_mem h
    rw [allB_f (k := j) (by omega) (eq_b (by rw [List.getD_eq_getElem?_getD, List.getElem?_eq_getElem hj]; exact e))]
    rfl

end Go.Proofs.Ytijeieacoaopcaa
