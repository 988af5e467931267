/- Ints carried over, measured, compared, marked: what each helper of the statements returns. No condition. -/
import Derived.Test.YtlmfohjfbolhpaaRow
import Derived.StillTailTactics
namespace Go.Proofs.Ytlmfohjfbolhpaa
open Go.RowKit
set_option linter.unusedSimpArgs false
set_option linter.unusedVariables false

theorem info_Int : (Try.prog.info? 3).map (fun i => (i.zero, i.size, i.bytes)) = some (some (.int .i64 0), 1, 8) := by kernel_rfl

set_option maxHeartbeats 400000 in
theorem toIntS_any (v : Value) (n : Nat) (z : List Int) (w : World) (h : IntRow .i64 1 w v n z) (hn : n ≤ 1048576) :
    Calls Try.prog 141 #[v] w fun e w' => ∃ g, e = .returned (.slice (some ⟨g, 0, none⟩) n n) ∧ w'.ownsRow w.heap.size 3 1 (.slice (some ⟨g, 0, none⟩) n n) n (z.map (Value.int .i64)) ∧ Ext w w' := by
  obtain ⟨i0, hi, hz0, hz1, hz2⟩ := info_parts info_Int
  obtain ⟨hl, hm, hwf, a, c, rfl, hnc, hcm, hcell⟩ := h
  have hn9 : n ≤ 9223372036854775807 := by omega
  go_enter Try.func141, Try.ntmps141
  go_wp2_with (first | (at_make; refine wpList_make_full _ rfl _ _ 55 rfl w.heap.size 3 i0 _ 1 Try.underlying55 hi hz0 hz1 .i64 .i64 _ _ n rfl rfl rfl rfl (by rw [hz2]; omega) (by unfold maxLen; omega) (Nat.le_refl _) ?_; intro w1 hown hgrow))
  go_loopw [4] (fun i wr => ∃ (k : Nat) (xs : List Value), k ≤ n ∧ i = .int .i64 (k : Int) ∧ wr.ownsRow w.heap.size 3 1 (.slice (some ⟨w.heap.size, 0, none⟩) n n) n xs ∧ (∀ j, j < k * 1 → xs[j]? = (z.map (Value.int .i64))[j]?) ∧ Ext w wr)
    (fun i _ => n - (intOf i).toNat)
  case atStart => exact ⟨0, _, Nat.zero_le _, rfl, hown, by simp, (Ext.refl _).of_grown hgrow⟩
  case round =>
    obtain ⟨k, xs, hk, rfl, hrow, hpre, hE⟩ := hrel
    clear hown hgrow
    by_cases hlt : k < n
    · have hne : ¬ n = 0 := by omega
      obtain ⟨b, o, rfl, hb, hc⟩ := hcell.resolve_left hne

      obtain ⟨x0, hx0⟩ : ∃ x, x = z.getD (k * 1) 0 := ⟨_, rfl⟩
      have s0 : wr.cell? ⟨b, o + k, none⟩ = some (.int .i64 x0) := by rw [(Ext.cells hE).1 _ _ hb, show o + k = o + (k * 1) by omega, hc _ (by omega), hx0]
      have HP := hid hpre
      have H0 := hid hx0
      clear hx0 hc hcell hpre
      have hrow2 := hrow
      have hb2 : Ext wr wr := Ext.refl _
      obtain ⟨u0, c0, d0⟩ := row_cell hrow2 (k) (by omega)
      have f0 := hrow2.frozenAt (k)
      go_wp2_with (fail)
      go_roundw
      case rel =>
        have q0 := (hrow2.stored (k) (.int .i64 x0)).1
        refine ⟨k + 1, _, by omega, by go_num, q0, fun j hj => ?_, ?_⟩
        · simp only [List.getElem?_set, List.length_set, hrow2.1]
          by_cases e0 : k = j
          · subst e0
            rw [if_pos rfl, if_pos (by omega), map_getD (by omega)]; have := H0.out; simp only [Nat.mul_one] at this; rw [this]
          · rw [if_neg e0]
            exact HP.out j (by omega)
        · exact Ext.setCell (hE.trans hb2) (Nat.le_refl _) _
      case measure => simp [intOf]; omega
    · obtain rfl : k = n := by omega
      have e1 : xs = z.map (Value.int .i64) := list_full hrow.1 hl hpre
      have E1 := hid e1
      clear e1 hpre hcell
      go_wp2_with (fail)
      go_ret
      exact ⟨_, rfl, by rw [← E1.out]; exact hrow, hE⟩

set_option maxHeartbeats 400000 in
theorem szIntS_any (v : Value) (n : Nat) (z : List Int) (w : World) (left : Int) (h : IntRow .i64 1 w v n z) (h1 : 0 ≤ left) (h2 : left ≤ 1048576) :
    Calls Try.prog 140 #[v, .int .i64 left] w fun e w' => e = .returned (.int .i64 (if (n : Int) ≤ left then left - n else -1)) ∧ w = w' := by
  obtain ⟨hl, hm, hwf, a, c, rfl, hnc, hcm, hcell⟩ := h
  unfold maxLen at hm
  clear hcell hwf
  by_cases hle : (n : Int) ≤ left
  · rw [if_pos hle]
    go_enter Try.func140, Try.ntmps140
    go_wp2
    go_ret
    exact ⟨rfl, rfl⟩
  · rw [if_neg hle]
    go_enter Try.func140, Try.ntmps140
    go_wp2
    go_ret
    exact ⟨rfl, rfl⟩

set_option maxRecDepth 100000 in
set_option maxHeartbeats 400000 in
theorem eqIntS_same (v v' : Value) (n : Nat) (z : List Int) (w : World) (h : IntRow .i64 1 w v n z) (h' : IntRow .i64 1 w v' n z) :
    Calls Try.prog 52 #[v, v'] w fun e w' => e = .returned (.bool true) ∧ Ext w w' := by
  obtain ⟨hl, hm, hwf, a, c, rfl, hnc, hcm, hcell⟩ := h
  obtain ⟨_, _, _, a', c', rfl, hnc', hcm', hcell'⟩ := h'
  unfold maxLen at hm
  go_enter Try.func52, Try.ntmps52
  go_wp2_with (fail)
  go_loopw [5] (fun i wr => ∃ (k : Nat), k ≤ n ∧ i = .int .i64 (k : Int) ∧ Ext w wr)
    (fun i _ => n - (intOf i).toNat)
  case atStart => exact ⟨0, Nat.zero_le _, rfl, Ext.refl _⟩
  case round =>
    obtain ⟨k, hk, rfl, hE⟩ := hrel
    by_cases hlt : k < n
    · have hne : ¬ n = 0 := by omega
      obtain ⟨b, o, rfl, hb, hc⟩ := hcell.resolve_left hne
      obtain ⟨b', o', rfl, hb', hc'⟩ := hcell'.resolve_left hne
      obtain ⟨x0, hx0⟩ : ∃ x, x = z.getD (k * 1) 0 := ⟨_, rfl⟩
      have s0 : wr.cell? ⟨b, o + k, none⟩ = some (.int .i64 x0) := by rw [(Ext.cells hE).1 _ _ hb, show o + k = o + (k * 1) by omega, hc _ (by omega), hx0]
      have r0 : wr.cell? ⟨b', o' + k, none⟩ = some (.int .i64 x0) := by rw [(Ext.cells hE).1 _ _ hb', show o' + k = o' + (k * 1) by omega, hc' _ (by omega), hx0]
      clear hx0 hc hcell hc' hcell'
      go_wp2_with (fail)
      go_quiet (fail)
      go_wp2_with (fail)
      go_roundw
      case rel => exact ⟨k + 1, by omega, by go_num, (by repeat (first | exact Ext.refl _ | assumption | refine Ext.alloc ?_ _ | refine Ext.drew ?_ | refine Ext.drewN ?_ _ | refine Ext.setCell ?_ (by first | exact Nat.le_refl _ | (simp; done) | (dsimp only; omega) | (simp only [World.size_alloc, World.size_setCell]; omega)) _ | refine Ext.trans ?_ (by assumption)))⟩
      case measure => simp [intOf]; omega
    · obtain rfl : k = n := by omega
      clear hcell hcell'
      go_wp2_with (fail)
      go_ret
      exact ⟨rfl, hE⟩

set_option maxHeartbeats 600000 in
theorem markIntS_any (v : Value) (n : Nat) (xs : List Value) (base : Nat) (w : World) (k0 : Int) (h : w.ownsRow base 3 1 v n xs) (hn : n ≤ 16777216) (h0 : 0 ≤ k0) (h1 : k0 ≤ 20000000) :
    Calls Try.prog 54 #[v, .int .i64 k0] w fun e w' => e = .returned (.int .i64 (k0 + 1 * (n : Int))) ∧ w'.ownsRow base 3 1 v n ((marks k0 (n * 1)).map (Value.int .i64)) ∧ w.grownBy w' v.ownBlock := by
  obtain ⟨a, c, rfl, hnc, hcm, hg⟩ := row_shape h
  go_enter Try.func54, Try.ntmps54
  go_wp2_with (fail)
  go_loopw [1, 5] (fun m i wr => ∃ (k : Nat) (xs : List Value), k ≤ n ∧ i = .int .i64 (k : Int) ∧ m = .int .i64 (k0 + 1 * (k : Int)) ∧ wr.ownsRow base 3 1 (.slice a n c) n xs ∧ (∀ j, j < k * 1 → xs[j]? = some (.int .i64 (k0 + (j : Int)))) ∧ w.grownBy wr (Value.slice a n c).ownBlock)
    (fun _ i _ => n - (intOf i).toNat)
  case atStart => exact ⟨0, xs, Nat.zero_le _, rfl, by simp, h, by simp, World.grownBy.refl _ _⟩
  case round =>
    obtain ⟨k, xs', hk, rfl, rfl, hrow, hpre, hgr⟩ := hrel
    have HP := hid hpre
    clear h hpre
    by_cases hlt : k < n
    · obtain ⟨g, rfl, hbg, hgs⟩ := hg.resolve_left (by omega)
      clear hg
      obtain ⟨q, hq⟩ : ∃ q, q = k0 + 1 * (k : Int) := ⟨_, rfl⟩
      rw [← hq]
      have q1 : 0 ≤ q := by omega
      have q2 : q ≤ 1000000000 := by omega
      have HQ := hid hq
      clear hq
      obtain ⟨u0, c0, d0⟩ := row_cell hrow (k) (by omega)
      have f0 := hrow.frozenAt (k)
      go_wp2_with (fail)
      go_roundw
      case rel =>
        have HQ := HQ.out
        have r0 := hrow.stored (k) (.int .i64 (q))
        refine ⟨k + 1, _, by omega, by go_num, ?_, r0.1, fun j hj => ?_, (World.grownBy.trans hgr r0.2)⟩
        · first | rfl | (congr 1; push_cast; omega) | (rw [show q + 1 = k0 + 1 * ((k + 1 : Nat) : Int) by omega])
        · simp only [List.getElem?_set, List.length_set, hrow.1]
          by_cases e0 : k = j
          · subst e0
            rw [if_pos rfl, if_pos (by omega), show q = k0 + ((k : Nat) : Int) by omega]
          · rw [if_neg e0]
            exact HP.out j (by omega)
      case measure => simp [intOf]; omega
    · obtain rfl : k = n := by omega
      clear hg
      go_wp2_with (fail)
      go_ret
      refine ⟨rfl, ?_, hgr⟩
      have e : xs' = (marks k0 (k * 1)).map (Value.int .i64) := list_full hrow.1 (marks_length _ _) fun j hj => by rw [HP.out j hj, map_getD (by rw [marks_length]; exact hj), marks_getD hj]
      rw [← e]
      exact hrow

set_option maxHeartbeats 600000 in
theorem heldIntS_same (v : Value) (n : Nat) (w : World) (k0 : Int) (h : IntRow .i64 1 w v n (marks k0 (n * 1))) (hn : n ≤ 16777216) (h0 : 0 ≤ k0) (h1 : k0 ≤ 20000000) :
    Calls Try.prog 55 #[v, .int .i64 k0] w fun e w' => e = .returned (.int .i64 (k0 + 1 * (n : Int))) ∧ Ext w w' := by
  obtain ⟨hl, hm, hwf, a, c, rfl, hnc, hcm, hcell⟩ := h
  clear hwf
  go_enter Try.func55, Try.ntmps55
  go_wp2_with (fail)
  go_loopw [1, 5] (fun m i wr => ∃ (k : Nat), k ≤ n ∧ i = .int .i64 (k : Int) ∧ m = .int .i64 (k0 + 1 * (k : Int)) ∧ Ext w wr)
    (fun _ i _ => n - (intOf i).toNat)
  case atStart => exact ⟨0, Nat.zero_le _, rfl, by simp, Ext.refl _⟩
  case round =>
    obtain ⟨k, hk, rfl, rfl, hE⟩ := hrel
    by_cases hlt : k < n
    · obtain ⟨b, o, rfl, hb, hc⟩ := hcell.resolve_left (by omega)
      obtain ⟨q, hq⟩ : ∃ q, q = k0 + 1 * (k : Int) := ⟨_, rfl⟩
      rw [← hq]
      have q1 : 0 ≤ q := by omega
      have q2 : q ≤ 1000000000 := by omega
      have s0 : wr.cell? ⟨b, o + k, none⟩ = some (.int .i64 (q)) := by rw [(Ext.cells hE).1 _ _ hb, show o + k = o + (k) by omega, hc _ (by omega), marks_getD (by omega), show k0 + ((k : Nat) : Int) = q by omega]
      have HQ := hid hq
      clear hq hc hcell hl
      go_wp2_with (fail)
      go_roundw
      case rel =>
        have HQ := HQ.out
        refine ⟨k + 1, by omega, by go_num, ?_, (by repeat (first | exact Ext.refl _ | assumption | refine Ext.alloc ?_ _ | refine Ext.drew ?_ | refine Ext.drewN ?_ _ | refine Ext.setCell ?_ (by first | exact Nat.le_refl _ | (simp; done) | (dsimp only; omega) | (simp only [World.size_alloc, World.size_setCell]; omega)) _ | refine Ext.trans ?_ (by assumption)))⟩
        first | rfl | (rw [show q + 1 = k0 + 1 * ((k + 1 : Nat) : Int) by omega])
      case measure => simp [intOf]; omega
    · obtain rfl : k = n := by omega
      clear hcell hl
      go_wp2_with (fail)
      go_ret
      exact ⟨rfl, hE⟩

end Go.Proofs.Ytlmfohjfbolhpaa