/- Shifts carried over, measured, compared, marked: what each helper of the statements returns. No condition. -/
import Derived.Test.YtedkffdkhnfoiaaDoorRow
import Derived.StillTailTactics
namespace Go.Proofs.YtedkffdkhnfoiaaDoor
open Go.RowKit
set_option linter.unusedSimpArgs false
set_option linter.unusedVariables false

theorem info_Shift : (Tryd.prog.info? 42).map (fun i => (i.zero, i.size, i.bytes)) = some (some (.agg #[.int .i64 0, .int .i64 0, .int .i64 0]), 3, 24) := by kernel_rfl

set_option maxHeartbeats 400000 in
theorem toShift_any (x0 x1 x2 : Int) (w : World) :
    Calls Tryd.prog 51 #[.agg #[.int .i64 x0, .int .i64 x1, .int .i64 x2]] w fun e w' => e = .returned (.agg #[.int .i64 x0, .int .i64 x1, .int .i64 x2]) ∧ Ext w w' := by
  go_enter Tryd.func51, Tryd.ntmps51
  go_wp2
  exact bodyPost_ret (v := .agg #[.int .i64 x0, .int .i64 x1, .int .i64 x2]) (by simp [results, Tryd.results51, go_sem]) rfl ⟨rfl, (by repeat (first | exact Ext.refl _ | assumption | refine Ext.alloc ?_ _ | refine Ext.drew ?_ | refine Ext.drewN ?_ _ | refine Ext.setCell ?_ (by first | exact Nat.le_refl _ | (simp; done) | (dsimp only; omega) | (simp only [World.size_alloc, World.size_setCell]; omega)) _ | refine Ext.trans ?_ (by assumption)))⟩

set_option maxHeartbeats 400000 in
theorem toShiftS_any (v : Value) (n : Nat) (z : List Int) (w : World) (h : IntRow .i64 3 w v n z) (hn : n ≤ 1048576) :
    Calls Tryd.prog 27 #[v] w fun e w' => ∃ g, e = .returned (.slice (some ⟨g, 0, none⟩) n n) ∧ w'.ownsRow w.heap.size 42 3 (.slice (some ⟨g, 0, none⟩) n n) n (z.map (Value.int .i64)) ∧ Ext w w' := by
  obtain ⟨i0, hi, hz0, hz1, hz2⟩ := info_parts info_Shift
  obtain ⟨hl, hm, hwf, a, c, rfl, hnc, hcm, hcell⟩ := h
  have hn9 : n ≤ 9223372036854775807 := by omega
  go_enter Tryd.func27, Tryd.ntmps27
  go_wp2_with (first | (at_make; refine wpList_make_full _ rfl _ _ 23 rfl w.heap.size 42 i0 _ 3 Tryd.underlying23 hi hz0 hz1 .i64 .i64 _ _ n rfl rfl rfl rfl (by rw [hz2]; omega) (by unfold maxLen; omega) (Nat.le_refl _) ?_; intro w1 hown hgrow))
  go_loopw [4] (fun i wr => ∃ (k : Nat) (xs : List Value), k ≤ n ∧ i = .int .i64 (k : Int) ∧ wr.ownsRow w.heap.size 42 3 (.slice (some ⟨w.heap.size, 0, none⟩) n n) n xs ∧ (∀ j, j < k * 3 → xs[j]? = (z.map (Value.int .i64))[j]?) ∧ Ext w wr)
    (fun i _ => n - (intOf i).toNat)
  case atStart => exact ⟨0, _, Nat.zero_le _, rfl, hown, by simp, (Ext.refl _).of_grown hgrow⟩
  case round =>
    obtain ⟨k, xs, hk, rfl, hrow, hpre, hE⟩ := hrel
    clear hown hgrow
    by_cases hlt : k < n
    · have hne : ¬ n = 0 := by omega
      obtain ⟨b, o, rfl, hb, hc⟩ := hcell.resolve_left hne

      obtain ⟨x0, hx0⟩ : ∃ x, x = z.getD (k * 3) 0 := ⟨_, rfl⟩
      obtain ⟨x1, hx1⟩ : ∃ x, x = z.getD (k * 3 + 1) 0 := ⟨_, rfl⟩
      obtain ⟨x2, hx2⟩ : ∃ x, x = z.getD (k * 3 + 2) 0 := ⟨_, rfl⟩
      have s0 : wr.cell? ⟨b, o + k * 3, none⟩ = some (.int .i64 x0) := by rw [(Ext.cells hE).1 _ _ hb, show o + k * 3 = o + (k * 3) by omega, hc _ (by omega), hx0]
      have s1 : wr.cell? ⟨b, o + k * 3 + 1, none⟩ = some (.int .i64 x1) := by rw [(Ext.cells hE).1 _ _ hb, show o + k * 3 + 1 = o + (k * 3 + 1) by omega, hc _ (by omega), hx1]
      have s2 : wr.cell? ⟨b, o + k * 3 + 2, none⟩ = some (.int .i64 x2) := by rw [(Ext.cells hE).1 _ _ hb, show o + k * 3 + 2 = o + (k * 3 + 2) by omega, hc _ (by omega), hx2]
      have HP := hid hpre
      have H0 := hid hx0
      have H1 := hid hx1
      have H2 := hid hx2
      clear hx0 hx1 hx2 hc hcell hpre
      go_wp2_with (fail)
      refine (toShift_any _ _ _ _).mono ?_
      rintro e w2 ⟨rfl, hb2⟩
      have hrow2 := row_ext hrow hb2
      obtain ⟨u0, c0, d0⟩ := row_cell hrow2 (k * 3) (by omega)
      obtain ⟨u1, c1, d1⟩ := row_cell hrow2 (k * 3 + 1) (by omega)
      obtain ⟨u2, c2, d2⟩ := row_cell hrow2 (k * 3 + 2) (by omega)
      have f0 := hrow2.frozenAt (k * 3)
      have f1 := hrow2.frozenAt (k * 3 + 1)
      have f2 := hrow2.frozenAt (k * 3 + 2)
      go_wp2_with (fail)
      go_roundw
      case rel =>
        have q0 := (hrow2.stored (k * 3) (.int .i64 x0)).1
        have q1 := (q0.stored (k * 3 + 1) (.int .i64 x1)).1
        have q2 := (q1.stored (k * 3 + 2) (.int .i64 x2)).1
        refine ⟨k + 1, _, by omega, by go_num, q2, fun j hj => ?_, ?_⟩
        · simp only [List.getElem?_set, List.length_set, hrow2.1]
          by_cases e2 : k * 3 + 2 = j
          · subst e2
            rw [if_pos rfl, if_pos (by omega), map_getD (by omega), H2.out]
          · rw [if_neg e2]
            by_cases e1 : k * 3 + 1 = j
            · subst e1
              rw [if_pos rfl, if_pos (by omega), map_getD (by omega), H1.out]
            · rw [if_neg e1]
              by_cases e0 : k * 3 = j
              · subst e0
                rw [if_pos rfl, if_pos (by omega), map_getD (by omega), H0.out]
              · rw [if_neg e0]
                exact HP.out j (by omega)
        · exact Ext.setCell (Ext.setCell (Ext.setCell (hE.trans hb2) (Nat.le_refl _) _) (Nat.le_refl _) _) (Nat.le_refl _) _
      case measure => simp [intOf]; omega
    · obtain rfl : k = n := by omega
      have e1 : xs = z.map (Value.int .i64) := list_full hrow.1 hl hpre
      have E1 := hid e1
      clear e1 hpre hcell
      go_wp2_with (fail)
      go_ret
      exact ⟨_, rfl, by rw [← E1.out]; exact hrow, hE⟩

set_option maxHeartbeats 400000 in
theorem szShiftS_any (v : Value) (n : Nat) (z : List Int) (w : World) (left : Int) (h : IntRow .i64 3 w v n z) (h1 : 0 ≤ left) (h2 : left ≤ 1048576) :
    Calls Tryd.prog 26 #[v, .int .i64 left] w fun e w' => e = .returned (.int .i64 (if (n : Int) ≤ left then left - n else -1)) ∧ w = w' := by
  obtain ⟨hl, hm, hwf, a, c, rfl, hnc, hcm, hcell⟩ := h
  unfold maxLen at hm
  clear hcell hwf
  by_cases hle : (n : Int) ≤ left
  · rw [if_pos hle]
    go_enter Tryd.func26, Tryd.ntmps26
    go_wp2
    go_ret
    exact ⟨rfl, rfl⟩
  · rw [if_neg hle]
    go_enter Tryd.func26, Tryd.ntmps26
    go_wp2
    go_ret
    exact ⟨rfl, rfl⟩

set_option maxHeartbeats 400000 in
theorem eqShift_same (x0 x1 x2 : Int) (w : World) :
    Calls Tryd.prog 52 #[.agg #[.int .i64 x0, .int .i64 x1, .int .i64 x2], .agg #[.int .i64 x0, .int .i64 x1, .int .i64 x2]] w fun e w' => e = .returned (.bool true) ∧ Ext w w' := by
  go_enter Tryd.func52, Tryd.ntmps52
  go_wp2
  go_ret
  exact ⟨rfl, (by repeat (first | exact Ext.refl _ | assumption | refine Ext.alloc ?_ _ | refine Ext.drew ?_ | refine Ext.drewN ?_ _ | refine Ext.setCell ?_ (by first | exact Nat.le_refl _ | (simp; done) | (dsimp only; omega) | (simp only [World.size_alloc, World.size_setCell]; omega)) _ | refine Ext.trans ?_ (by assumption)))⟩

set_option maxRecDepth 100000 in
set_option maxHeartbeats 400000 in
theorem eqShiftS_same (v v' : Value) (n : Nat) (z : List Int) (w : World) (h : IntRow .i64 3 w v n z) (h' : IntRow .i64 3 w v' n z) :
    Calls Tryd.prog 28 #[v, v'] w fun e w' => e = .returned (.bool true) ∧ Ext w w' := by
  obtain ⟨hl, hm, hwf, a, c, rfl, hnc, hcm, hcell⟩ := h
  obtain ⟨_, _, _, a', c', rfl, hnc', hcm', hcell'⟩ := h'
  unfold maxLen at hm
  go_enter Tryd.func28, Tryd.ntmps28
  go_wp2_with (fail)
  go_loopw [5] (fun i wr => ∃ (k : Nat), k ≤ n ∧ i = .int .i64 (k : Int) ∧ Ext w wr)
    (fun i _ => n - (intOf i).toNat)
  case atStart => exact ⟨0, Nat.zero_le _, rfl, Ext.refl _⟩
  case round =>
    obtain ⟨k, hk, rfl, hE⟩ := hrel
    by_cases hlt : k < n
    · have hne : ¬ n = 0 := by omega
      obtain ⟨b, o, rfl, hb, hc⟩ := hcell.resolve_left hne
      obtain ⟨b', o', rfl, hb', hc'⟩ := hcell'.resolve_left hne
      obtain ⟨x0, hx0⟩ : ∃ x, x = z.getD (k * 3) 0 := ⟨_, rfl⟩
      obtain ⟨x1, hx1⟩ : ∃ x, x = z.getD (k * 3 + 1) 0 := ⟨_, rfl⟩
      obtain ⟨x2, hx2⟩ : ∃ x, x = z.getD (k * 3 + 2) 0 := ⟨_, rfl⟩
      have s0 : wr.cell? ⟨b, o + k * 3, none⟩ = some (.int .i64 x0) := by rw [(Ext.cells hE).1 _ _ hb, show o + k * 3 = o + (k * 3) by omega, hc _ (by omega), hx0]
      have r0 : wr.cell? ⟨b', o' + k * 3, none⟩ = some (.int .i64 x0) := by rw [(Ext.cells hE).1 _ _ hb', show o' + k * 3 = o' + (k * 3) by omega, hc' _ (by omega), hx0]
      have s1 : wr.cell? ⟨b, o + k * 3 + 1, none⟩ = some (.int .i64 x1) := by rw [(Ext.cells hE).1 _ _ hb, show o + k * 3 + 1 = o + (k * 3 + 1) by omega, hc _ (by omega), hx1]
      have r1 : wr.cell? ⟨b', o' + k * 3 + 1, none⟩ = some (.int .i64 x1) := by rw [(Ext.cells hE).1 _ _ hb', show o' + k * 3 + 1 = o' + (k * 3 + 1) by omega, hc' _ (by omega), hx1]
      have s2 : wr.cell? ⟨b, o + k * 3 + 2, none⟩ = some (.int .i64 x2) := by rw [(Ext.cells hE).1 _ _ hb, show o + k * 3 + 2 = o + (k * 3 + 2) by omega, hc _ (by omega), hx2]
      have r2 : wr.cell? ⟨b', o' + k * 3 + 2, none⟩ = some (.int .i64 x2) := by rw [(Ext.cells hE).1 _ _ hb', show o' + k * 3 + 2 = o' + (k * 3 + 2) by omega, hc' _ (by omega), hx2]
      clear hx0 hx1 hx2 hc hcell hc' hcell'
      go_wp2_with (fail)
      go_still_tail 8, (by kernel_rfl)
      go_wp2_with (fail)
      refine (eqShift_same _ _ _ _).mono ?_
      rintro e w2 ⟨rfl, hb2⟩
      go_wp2_with (fail)
      go_roundw
      case rel => exact ⟨k + 1, by omega, by go_num, (by repeat (first | exact Ext.refl _ | assumption | refine Ext.alloc ?_ _ | refine Ext.drew ?_ | refine Ext.drewN ?_ _ | refine Ext.setCell ?_ (by first | exact Nat.le_refl _ | (simp; done) | (dsimp only; omega) | (simp only [World.size_alloc, World.size_setCell]; omega)) _ | refine Ext.trans ?_ (by assumption)))⟩
      case measure => simp [intOf]; omega
    · obtain rfl : k = n := by omega
      clear hcell hcell'
      go_wp2_with (fail)
      go_ret
      exact ⟨rfl, hE⟩

end Go.Proofs.YtedkffdkhnfoiaaDoor