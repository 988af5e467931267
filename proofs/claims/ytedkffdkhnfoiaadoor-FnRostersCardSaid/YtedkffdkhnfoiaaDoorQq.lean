/- Helpers of the laws: lists of integers compared; a list that holds a number. No condition. -/
import Derived.Test.YtedkffdkhnfoiaaDoorRow
import Derived.Maps.RangeWalk
namespace Go.Proofs.YtedkffdkhnfoiaaDoor
open Go.RowKit
set_option linter.unusedSimpArgs false
set_option linter.unusedVariables false

set_option maxRecDepth 100000 in
set_option maxHeartbeats 600000 in
theorem qInts_same (v v' : Value) (n : Nat) (z : List Int) (w : World) (h : IntRow .i64 1 w v n z) (h' : IntRow .i64 1 w v' n z) :
    Calls Tryd.prog 23 #[v, v'] w fun e w' => e = .returned (.bool true) ∧ Ext w w' := by
  obtain ⟨hl, hm, hwf, a, c, rfl, hnc, hcm, hcell⟩ := h
  obtain ⟨_, _, _, a', c', rfl, hnc', hcm', hcell'⟩ := h'
  unfold maxLen at hm
  go_enter Tryd.func23, Tryd.ntmps23
  go_wp2_with (fail)
  go_loopw [13] (fun i wr => ∃ (k : Nat), k ≤ n ∧ i = .int .i64 (k : Int) ∧ Ext w wr)
    (fun i _ => n - (intOf i).toNat)
  case atStart => exact ⟨0, Nat.zero_le _, rfl, Ext.refl _⟩
  case round =>
    obtain ⟨k, hk, rfl, hE⟩ := hrel
    by_cases hlt : k < n
    · have hne : ¬ n = 0 := by omega
      obtain ⟨b, o, rfl, hb, hc⟩ := hcell.resolve_left hne
      obtain ⟨b', o', rfl, hb', hc'⟩ := hcell'.resolve_left hne
      obtain ⟨x0, hx0⟩ : ∃ x, x = z.getD (k * 1) 0 := ⟨_, rfl⟩
      have s0 : wr.cell? ⟨b, o + k, none⟩ = some (.int .i64 x0) := by rw [(Ext.cells hE).1 _ _ hb, show o + k = o + (k * 1) by omega, hc _ (by omega), hx0]
      have r0 : wr.cell? ⟨b', o' + k, none⟩ = some (.int .i64 x0) := by rw [(Ext.cells hE).1 _ _ hb', show o' + k = o' + (k * 1) by omega, hc' _ (by omega), hx0]
      clear hx0 hc hcell hc' hcell'
      go_wp2_with (fail)
      go_quiet (fail)
      go_wp2_with (fail)
      go_roundw
      case rel => exact ⟨k + 1, by omega, by go_num, (by repeat (first | exact Ext.refl _ | assumption | refine Ext.alloc ?_ _ | refine Ext.drew ?_ | refine Ext.drewN ?_ _ | refine Ext.setCell ?_ (by first | exact Nat.le_refl _ | (simp; done) | (dsimp only; omega) | (simp only [World.size_alloc, World.size_setCell]; omega)) _ | refine Ext.trans ?_ (by assumption)))⟩
      case measure => simp [intOf]; omega
    · obtain rfl : k = n := by omega
      clear hcell hcell'
      go_wp2_with (fail)
      go_ret
      exact ⟨rfl, hE⟩

theorem ne_b {a b : Int} (h : a ≠ b) : (!(a == b)) = true := by simpa using h
theorem eq_b {a b : Int} (h : a = b) : (!(a == b)) = false := by simpa using h
def hasZ (z : List Int) (n : Nat) (x : Int) : Bool := !allB (fun j => !(z.getD j 0 == x)) n
theorem hasZ_iff {z : List Int} {n : Nat} {x : Int} (hl : z.length = n) : hasZ z n x = true ↔ x ∈ z := by
  unfold hasZ
  constructor
  · intro h
    rw [Bool.not_eq_true', ← Bool.not_eq_true] at h
    rcases Classical.em (x ∈ z) with c | c
    · exact c
    · exfalso
      refine h (allB_t fun j hj => ?_)
      have : z.getD j 0 ≠ x := fun e => c (by rw [← e, List.getD_eq_getElem?_getD, List.getElem?_eq_getElem (show j < z.length by omega)]; exact List.getElem_mem _)
      exact ne_b this
  · intro h
    obtain ⟨j, hj, e⟩ := List.getElem_of_mem h
    rw [allB_f (k := j) (by omega) (eq_b (by rw [List.getD_eq_getElem?_getD, List.getElem?_eq_getElem hj]; exact e))]
    rfl

set_option maxRecDepth 100000 in
set_option maxHeartbeats 600000 in
theorem qHas_any (v : Value) (n : Nat) (z : List Int) (x : Int) (w : World) (h : IntRow .i64 1 w v n z) :
    Calls Tryd.prog 25 #[v, .int .i64 x] w fun e w' => e = .returned (.bool (hasZ z n x)) ∧ w = w' := by
  obtain ⟨hl, hm, hwf, a, c, rfl, hnc, hcm, hcell⟩ := h
  unfold maxLen at hm
  obtain ⟨R, hR⟩ : ∃ r, r = hasZ z n x := ⟨_, rfl⟩
  rw [← hR]
  have HR := hid hR
  clear hR
  go_enter Tryd.func25, Tryd.ntmps25
  go_wp2_with (fail)
  go_loopw [9] (fun i wr => ∃ (k : Nat), k ≤ n ∧ i = .int .i64 (k : Int) ∧ (∀ j, j < k → z.getD j 0 ≠ x) ∧ w = wr)
    (fun i _ => n - (intOf i).toNat)
  case atStart => exact ⟨0, Nat.zero_le _, rfl, fun j hj => absurd hj (by omega), rfl⟩
  case round =>
    obtain ⟨k, hk, rfl, hn, rfl⟩ := hrel
    have HN := hid hn
    clear hn
    by_cases hlt : k < n
    · have hne : ¬ n = 0 := by omega
      obtain ⟨b, o, rfl, hb, hc⟩ := hcell.resolve_left hne
      obtain ⟨x0, hx0⟩ : ∃ x, x = z.getD (k * 1) 0 := ⟨_, rfl⟩
      have s0 : w.cell? ⟨b, o + k, none⟩ = some (.int .i64 x0) := by rw [show o + k = o + (k * 1) by omega, hc _ (by omega), hx0]
      rw [Nat.mul_one] at hx0
      have HX := hid hx0
      clear hx0 hc hcell
      by_cases he : x0 = x
      · have HT := hid (show R = true by rw [HR.out]; unfold hasZ; rw [allB_f hlt (eq_b (by rw [← HX.out]; exact he))]; rfl)
        subst he
        go_wp2_with (fail)
        go_ret
        rw [HT.out]
        exact ⟨rfl, rfl⟩
      · have t1 : decide (x0 = x) = false := by simpa using he
        have t2 : (x0 == x) = false := by simpa using he
        have HE := hid he
        clear he
        go_wp2_with (fail)
        go_roundw
        case rel =>
          refine ⟨k + 1, by omega, by go_num, fun j hj => ?_, by first | rfl | trivial⟩
          by_cases e : j = k
          · subst e
            rw [← HX.out]
            exact HE.out
          · exact HN.out j (by omega)
        case measure => simp [intOf]; omega
    · obtain rfl : k = n := by omega
      have HT := hid (show R = false by rw [HR.out]; unfold hasZ; rw [allB_t (fun j hj => ne_b (HN.out j hj))]; rfl)
      clear hcell
      go_wp2_with (fail)
      go_ret
      rw [HT.out]
      exact ⟨rfl, rfl⟩
end Go.Proofs.YtedkffdkhnfoiaaDoor
