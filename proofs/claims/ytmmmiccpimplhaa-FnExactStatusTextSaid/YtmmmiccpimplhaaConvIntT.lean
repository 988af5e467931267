/- A list of ints carried over. No condition. -/
import Derived.Test.YtmmmiccpimplhaaConvInt
namespace Go.Proofs.Ytmmmiccpimplhaa
open Go.RowKit
set_option linter.unusedSimpArgs false
set_option linter.unusedVariables false

set_option maxHeartbeats 400000 in
theorem toIntS_any (v : Value) (n : Nat) (z : List Int) (w : World) (h : IntRow .i64 1 w v n z) (hn : n ≤ 1048576) :
    Calls Try.prog 11 #[v] w fun e w' => ∃ g, e = .returned (.slice (some ⟨g, 0, none⟩) n n) ∧ w'.ownsRow w.heap.size 3 1 (.slice (some ⟨g, 0, none⟩) n n) n (z.map (Value.int .i64)) ∧ Ext w w' := by
  obtain ⟨i0, hi, hz0, hz1, hz2⟩ := info_parts info_Int
  obtain ⟨hl, hm, hwf, a, c, rfl, hnc, hcm, hcell⟩ := h
  have hn9 : n ≤ 9223372036854775807 := by omega
  go_enter Try.func11, Try.ntmps11
  go_wp2_with (first | (at_make; refine wpList_make_full _ rfl _ _ 22 rfl w.heap.size 3 i0 _ 1 Try.underlying22 hi hz0 hz1 .i64 .i64 _ _ n rfl rfl rfl rfl (by rw [hz2]; omega) (by unfold maxLen; omega) (Nat.le_refl _) ?_; intro w1 hown hgrow))
  go_loopw [4] (fun i wr => ∃ (k : Nat) (xs : List Value), k ≤ n ∧ i = .int .i64 (k : Int) ∧ wr.ownsRow w.heap.size 3 1 (.slice (some ⟨w.heap.size, 0, none⟩) n n) n xs ∧ (∀ j, j < k * 1 → xs[j]? = (z.map (Value.int .i64))[j]?) ∧ Ext w wr)
    (fun i _ => n - (intOf i).toNat)
  case atStart => exact ⟨0, _, Nat.zero_le _, rfl, hown, by simp, (Ext.refl _).of_grown hgrow⟩
  case round =>
    obtain ⟨k, xs, hk, rfl, hrow, hpre, hE⟩ := hrel
    clear hown hgrow
    by_cases hlt : k < n
    · have hne : ¬ n = 0 := by omega
      obtain ⟨b, o, rfl, hb, hc⟩ := hcell.resolve_left hne

      obtain ⟨x0, hx0⟩ : ∃ x, x = z.getD (k * 1) 0 := ⟨_, rfl⟩
      have s0 : wr.cell? ⟨b, o + k, none⟩ = some (.int .i64 x0) := by rw [(Ext.cells hE).1 _ _ hb, show o + k = o + (k * 1) by omega, hc _ (by omega), hx0]
      have HP := hid hpre
      have H0 := hid hx0
      clear hx0 hc hcell hpre
      have hrow2 := hrow
      have hb2 : Ext wr wr := Ext.refl _
      obtain ⟨u0, c0, d0⟩ := row_cell hrow2 (k) (by omega)
      have f0 := hrow2.frozenAt (k)
      go_wp2_with (fail)
      go_roundw
      case rel =>
        have q0 := (hrow2.stored (k) (.int .i64 x0)).1
        refine ⟨k + 1, _, by omega, by go_num, q0, fun j hj => ?_, ?_⟩
        · simp only [List.getElem?_set, List.length_set, hrow2.1]
          by_cases e0 : k = j
          · subst e0
            rw [if_pos rfl, if_pos (by omega), map_getD (by omega)]; have := H0.out; simp only [Nat.mul_one] at this; rw [this]
          · rw [if_neg e0]
            exact HP.out j (by omega)
        · exact Ext.setCell (hE.trans hb2) (Nat.le_refl _) _
      case measure => simp [intOf]; omega
    · obtain rfl : k = n := by omega
      have e1 : xs = z.map (Value.int .i64) := list_full hrow.1 hl hpre
      have E1 := hid e1
      clear e1 hpre hcell
      go_wp2_with (fail)
      go_ret
      exact ⟨_, rfl, by rw [← E1.out]; exact hrow, hE⟩


end Go.Proofs.Ytmmmiccpimplhaa
