/- Ints carried over, measured, compared, marked: what each helper of the statements returns. No condition. -/
import Derived.Test.YtabafhmeefeioaaRow
import Derived.StillTailTactics
namespace Go.Proofs.Ytabafhmeefeioaa
open Go.RowKit
set_option linter.unusedSimpArgs false
set_option linter.unusedVariables false

theorem info_Int : (Try.prog.info? 3).map (fun i => (i.zero, i.size, i.bytes)) = some (some (.int .i64 0), 1, 8) := by kernel_rfl

set_option maxRecDepth 100000 in
set_option maxHeartbeats 400000 in
theorem eqIntS_same (v v' : Value) (n : Nat) (z : List Int) (w : World) (h : IntRow .i64 1 w v n z) (h' : IntRow .i64 1 w v' n z) :
    Calls Try.prog 32 #[v, v'] w fun e w' => e = .returned (.bool true) ∧ Ext w w' := by
  obtain ⟨hl, hm, hwf, a, c, rfl, hnc, hcm, hcell⟩ := h
  obtain ⟨_, _, _, a', c', rfl, hnc', hcm', hcell'⟩ := h'
  unfold maxLen at hm
  go_enter Try.func32, Try.ntmps32
  go_wp2_with (fail)
  go_loopw [5] (fun i wr => ∃ (k : Nat), k ≤ n ∧ i = .int .i64 (k : Int) ∧ Ext w wr)
    (fun i _ => n - (intOf i).toNat)
  case atStart => exact ⟨0, Nat.zero_le _, rfl, Ext.refl _⟩
  case round =>
    obtain ⟨k, hk, rfl, hE⟩ := hrel
    by_cases hlt : k < n
    · have hne : ¬ n = 0 := by omega
      obtain ⟨b, o, rfl, hb, hc⟩ := hcell.resolve_left hne
      obtain ⟨b', o', rfl, hb', hc'⟩ := hcell'.resolve_left hne
      obtain ⟨x0, hx0⟩ : ∃ x, x = z.getD (k * 1) 0 := ⟨_, rfl⟩
      have s0 : wr.cell? ⟨b, o + k, none⟩ = some (.int .i64 x0) := by rw [(Ext.cells hE).1 _ _ hb, show o + k = o + (k * 1) by omega, hc _ (by omega), hx0]
      have r0 : wr.cell? ⟨b', o' + k, none⟩ = some (.int .i64 x0) := by rw [(Ext.cells hE).1 _ _ hb', show o' + k = o' + (k * 1) by omega, hc' _ (by omega), hx0]
      clear hx0 hc hcell hc' hcell'
      go_wp2_with (fail)
      go_quiet (fail)
      go_wp2_with (fail)
      go_roundw
      case rel => exact ⟨k + 1, by omega, by go_num, (by repeat (first | exact Ext.refl _ | assumption | refine Ext.alloc ?_ _ | refine Ext.drew ?_ | refine Ext.drewN ?_ _ | refine Ext.setCell ?_ (by first | exact Nat.le_refl _ | (simp; done) | (dsimp only; omega) | (simp only [World.size_alloc, World.size_setCell]; omega)) _ | refine Ext.trans ?_ (by assumption)))⟩
      case measure => simp [intOf]; omega
    · obtain rfl : k = n := by omega
      clear hcell hcell'
      go_wp2_with (fail)
      go_ret
      exact ⟨rfl, hE⟩

set_option maxHeartbeats 600000 in
theorem markIntS_any (v : Value) (n : Nat) (xs : List Value) (base : Nat) (w : World) (k0 : Int) (h : w.ownsRow base 3 1 v n xs) (hn : n ≤ 16777216) (h0 : 0 ≤ k0) (h1 : k0 ≤ 20000000) :
    Calls Try.prog 33 #[v, .int .i64 k0] w fun e w' => e = .returned (.int .i64 (k0 + 1 * (n : Int))) ∧ w'.ownsRow base 3 1 v n ((marks k0 (n * 1)).map (Value.int .i64)) ∧ w.grownBy w' v.ownBlock := by
  obtain ⟨a, c, rfl, hnc, hcm, hg⟩ := row_shape h
  go_enter Try.func33, Try.ntmps33
  go_wp2_with (fail)
  go_loopw [1, 5] (fun m i wr => ∃ (k : Nat) (xs : List Value), k ≤ n ∧ i = .int .i64 (k : Int) ∧ m = .int .i64 (k0 + 1 * (k : Int)) ∧ wr.ownsRow base 3 1 (.slice a n c) n xs ∧ (∀ j, j < k * 1 → xs[j]? = some (.int .i64 (k0 + (j : Int)))) ∧ w.grownBy wr (Value.slice a n c).ownBlock)
    (fun _ i _ => n - (intOf i).toNat)
  case atStart => exact ⟨0, xs, Nat.zero_le _, rfl, by simp, h, by simp, World.grownBy.refl _ _⟩
  case round =>
    obtain ⟨k, xs', hk, rfl, rfl, hrow, hpre, hgr⟩ := hrel
    have HP := hid hpre
    clear h hpre
    by_cases hlt : k < n
    · obtain ⟨g, rfl, hbg, hgs⟩ := hg.resolve_left (by omega)
      clear hg
      obtain ⟨q, hq⟩ : ∃ q, q = k0 + 1 * (k : Int) := ⟨_, rfl⟩
      rw [← hq]
      have q1 : 0 ≤ q := by omega
      have q2 : q ≤ 1000000000 := by omega
      have HQ := hid hq
      clear hq
      obtain ⟨u0, c0, d0⟩ := row_cell hrow (k) (by omega)
      have f0 := hrow.frozenAt (k)
      go_wp2_with (fail)
      go_roundw
      case rel =>
        have HQ := HQ.out
        have r0 := hrow.stored (k) (.int .i64 (q))
        refine ⟨k + 1, _, by omega, by go_num, ?_, r0.1, fun j hj => ?_, (World.grownBy.trans hgr r0.2)⟩
        · first | rfl | (congr 1; push_cast; omega) | (rw [show q + 1 = k0 + 1 * ((k + 1 : Nat) : Int) by omega])
        · simp only [List.getElem?_set, List.length_set, hrow.1]
          by_cases e0 : k = j
          · subst e0
            rw [if_pos rfl, if_pos (by omega), show q = k0 + ((k : Nat) : Int) by omega]
          · rw [if_neg e0]
            exact HP.out j (by omega)
      case measure => simp [intOf]; omega
    · obtain rfl : k = n := by omega
      clear hg
      go_wp2_with (fail)
      go_ret
      refine ⟨rfl, ?_, hgr⟩
      have e : xs' = (marks k0 (k * 1)).map (Value.int .i64) := list_full hrow.1 (marks_length _ _) fun j hj => by rw [HP.out j hj, map_getD (by rw [marks_length]; exact hj), marks_getD hj]
      rw [← e]
      exact hrow

set_option maxHeartbeats 600000 in
theorem heldIntS_same (v : Value) (n : Nat) (w : World) (k0 : Int) (h : IntRow .i64 1 w v n (marks k0 (n * 1))) (hn : n ≤ 16777216) (h0 : 0 ≤ k0) (h1 : k0 ≤ 20000000) :
    Calls Try.prog 34 #[v, .int .i64 k0] w fun e w' => e = .returned (.int .i64 (k0 + 1 * (n : Int))) ∧ Ext w w' := by
  obtain ⟨hl, hm, hwf, a, c, rfl, hnc, hcm, hcell⟩ := h
  clear hwf
  go_enter Try.func34, Try.ntmps34
  go_wp2_with (fail)
  go_loopw [1, 5] (fun m i wr => ∃ (k : Nat), k ≤ n ∧ i = .int .i64 (k : Int) ∧ m = .int .i64 (k0 + 1 * (k : Int)) ∧ Ext w wr)
    (fun _ i _ => n - (intOf i).toNat)
  case atStart => exact ⟨0, Nat.zero_le _, rfl, by simp, Ext.refl _⟩
  case round =>
    obtain ⟨k, hk, rfl, rfl, hE⟩ := hrel
    by_cases hlt : k < n
    · obtain ⟨b, o, rfl, hb, hc⟩ := hcell.resolve_left (by omega)
      obtain ⟨q, hq⟩ : ∃ q, q = k0 + 1 * (k : Int) := ⟨_, rfl⟩
      rw [← hq]
      have q1 : 0 ≤ q := by omega
      have q2 : q ≤ 1000000000 := by omega
      have s0 : wr.cell? ⟨b, o + k, none⟩ = some (.int .i64 (q)) := by rw [(Ext.cells hE).1 _ _ hb, show o + k = o + (k) by omega, hc _ (by omega), marks_getD (by omega), show k0 + ((k : Nat) : Int) = q by omega]
      have HQ := hid hq
      clear hq hc hcell hl
      go_wp2_with (fail)
      go_roundw
      case rel =>
        have HQ := HQ.out
        refine ⟨k + 1, by omega, by go_num, ?_, (by repeat (first | exact Ext.refl _ | assumption | refine Ext.alloc ?_ _ | refine Ext.drew ?_ | refine Ext.drewN ?_ _ | refine Ext.setCell ?_ (by first | exact Nat.le_refl _ | (simp; done) | (dsimp only; omega) | (simp only [World.size_alloc, World.size_setCell]; omega)) _ | refine Ext.trans ?_ (by assumption)))⟩
        first | rfl | (rw [show q + 1 = k0 + 1 * ((k + 1 : Nat) : Int) by omega])
      case measure => simp [intOf]; omega
    · obtain rfl : k = n := by omega
      clear hcell hl
      go_wp2_with (fail)
      go_ret
      exact ⟨rfl, hE⟩

end Go.Proofs.Ytabafhmeefeioaa