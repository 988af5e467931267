/- Lists compared by reads alone; rows of rows compared. No condition. -/
import Derived.Test.YtedkffdkhnfoiaaDoorQq
import Derived.Test.YtedkffdkhnfoiaaDoorLists
namespace Go.Proofs.YtedkffdkhnfoiaaDoor
open Go.RowKit
set_option linter.unusedSimpArgs false
set_option linter.unusedVariables false

set_option maxRecDepth 100000 in
set_option maxHeartbeats 600000 in
theorem qInts_q (v v' : Value) (n : Nat) (z : List Int) (w : World) (h : IntRow .i64 1 w v n z) (h' : IntRow .i64 1 w v' n z) :
    Calls Tryd.prog 23 #[v, v'] w fun e w' => e = .returned (.bool true) ∧ ∃ m, w' = w.drewN m := by
  obtain ⟨hl, hm, hwf, a, c, rfl, hnc, hcm, hcell⟩ := h
  obtain ⟨_, _, _, a', c', rfl, hnc', hcm', hcell'⟩ := h'
  unfold maxLen at hm
  go_enter Tryd.func23, Tryd.ntmps23
  go_wp2_with (fail)
  go_loopw [13] (fun i wr => ∃ (k : Nat), k ≤ n ∧ i = .int .i64 (k : Int) ∧ ∃ m, wr = w.drewN m)
    (fun i _ => n - (intOf i).toNat)
  case atStart => exact ⟨0, Nat.zero_le _, rfl, 0, rfl⟩
  case round =>
    obtain ⟨k, hk, rfl, nd, hwr⟩ := hrel
    have hE : Ext w wr := by rw [hwr]; exact (Ext.refl _).drewN _
    have HWR := hid hwr
    clear hwr
    by_cases hlt : k < n
    · have hne : ¬ n = 0 := by omega
      obtain ⟨b, o, rfl, hb, hc⟩ := hcell.resolve_left hne
      obtain ⟨b', o', rfl, hb', hc'⟩ := hcell'.resolve_left hne
      obtain ⟨x0, hx0⟩ : ∃ x, x = z.getD (k * 1) 0 := ⟨_, rfl⟩
      have s0 : wr.cell? ⟨b, o + k, none⟩ = some (.int .i64 x0) := by rw [(Ext.cells hE).1 _ _ hb, show o + k = o + (k * 1) by omega, hc _ (by omega), hx0]
      have r0 : wr.cell? ⟨b', o' + k, none⟩ = some (.int .i64 x0) := by rw [(Ext.cells hE).1 _ _ hb', show o' + k = o' + (k * 1) by omega, hc' _ (by omega), hx0]
      clear hx0 hc hcell hc' hcell'
      go_wp2_with (fail)
      go_quiet (fail)
      rename Nat => nq
      go_wp2_with (fail)
      go_roundw
      case rel => exact ⟨k + 1, by omega, by go_num, nd + nq, by rw [HWR.out, World.drewN_drewN]⟩
      case measure => simp [intOf]; omega
    · obtain rfl : k = n := by omega
      clear hcell hcell'
      go_wp2_with (fail)
      go_ret
      exact ⟨rfl, nd, HWR.out⟩


set_option maxRecDepth 100000 in
set_option maxHeartbeats 1000000 in
theorem qLists_same (v v' : Value) (base base' m : Nat) (gs gs' : List Nat) (Z : List (List Int)) (w : World) (h : Lists w base v m gs Z) (h' : Lists w base' v' m gs' Z) (hm : m ≤ 1000) (hw : ∀ x ∈ Z, ∀ y ∈ x, (Lit.int .i64 y).wf = true) :
    Calls Tryd.prog 22 #[v, v'] w fun e w' => e = .returned (.bool true) ∧ Ext w w' := by
  obtain ⟨a, c, rfl, hnc, hcm, hown⟩ := h.shape
  obtain ⟨a', c', rfl, hnc', hcm', hown'⟩ := h'.shape
  have hgg : gs'.length = gs.length := by rw [h.len, h'.len]
  have H := hid h
  have H' := hid h'
  have HG := hid hgg
  rw [hgg] at hnc' hown' ⊢
  have hcm2 := hcm
  unfold maxLen at hcm hcm'
  obtain ⟨N, hN⟩ : ∃ N, N = gs.length := ⟨_, rfl⟩
  have HN := hid hN
  rw [← hN] at hnc hown hnc' hown' ⊢
  clear h h' hgg hN
  go_enter Tryd.func22, Tryd.ntmps22
  go_wp2_with (fail)
  go_loopw [13] (fun i wr => ∃ (k : Nat), k ≤ N ∧ i = .int .i64 (k : Int) ∧ Ext w wr)
    (fun i _ => N - (intOf i).toNat)
  case atStart => exact ⟨0, Nat.zero_le _, rfl, Ext.refl _⟩
  case round =>
    obtain ⟨k, hk, rfl, hE⟩ := hrel
    by_cases hlt : k < N
    · obtain ⟨G, rfl, _, hG⟩ := hown.resolve_left (by omega)
      obtain ⟨G', rfl, _, hG'⟩ := hown'.resolve_left (by omega)
      have hk1 : k < gs.length := by rw [← HN.out]; exact hlt
      have hk2 : k < gs'.length := by rw [HG.out, ← HN.out]; exact hlt
      have s0 : wr.cell? ⟨G, k, none⟩ = some (.slice (some ⟨gs.getD k 0, 0, none⟩) m m) := by rw [(Ext.cells hE).1 _ _ hG, H.out.at_ (c := c) hk1 (by rw [← HN.out])]
      have r0 : wr.cell? ⟨G', k, none⟩ = some (.slice (some ⟨gs'.getD k 0, 0, none⟩) m m) := by rw [(Ext.cells hE).1 _ _ hG', H'.out.at_ (c := c') hk2 (by rw [HG.out, ← HN.out])]
      have hz : ∀ y ∈ Z.getD k [], (Lit.int .i64 y).wf = true := fun y hy => by
        refine hw _ ?_ y hy
        rw [List.getD_eq_getElem?_getD, List.getElem?_eq_getElem (by rw [← H.out.len]; exact hk1)]
        exact List.getElem_mem _
      have i1 := (row_ints (H.out.inner hk1) (by unfold maxLen; omega) hz).ext hE
      have i2 := (row_ints (H'.out.inner hk2) (by unfold maxLen; omega) hz).ext hE
      obtain ⟨g1, hg1⟩ : ∃ g, g = gs.getD k 0 := ⟨_, rfl⟩
      obtain ⟨g2, hg2⟩ : ∃ g, g = gs'.getD k 0 := ⟨_, rfl⟩
      rw [← hg1] at s0 i1
      rw [← hg2] at r0 i2
      have q1 := fun nn => qInts_q _ _ m (Z.getD k []) _ (i1.ext ((Ext.refl _).drewN nn)) (i2.ext ((Ext.refl _).drewN nn))
      clear hg1 hg2 i1 i2 hz hk1 hk2
      go_wp2_with (fail)
      go_quiet ((go_at_call 23; exact Calls.quiet_of (q1 _)))
      rename Nat => nq
      clear q1
      go_wp2_with (fail)
      go_roundw
      case rel => exact ⟨k + 1, by omega, by go_num, hE.drewN _⟩
      case measure => simp [intOf]; omega
    · obtain rfl : k = N := by omega
      clear hown hown'
      go_wp2_with (fail)
      go_ret
      exact ⟨rfl, hE⟩
end Go.Proofs.YtedkffdkhnfoiaaDoor
