/- The chapter of priorities: the whole runs, of the reference and of the program, return the plain run's ticks. Conditions: the jobs are valid (okJs). -/
import Derived.Test.YtabafhmeefeioaaPriB
namespace Go.Proofs.Ytabafhmeefeioaa
open Go.RowKit
set_option linter.unusedSimpArgs false
set_option linter.unusedVariables false

theorem stL_neg {z : List Int} {n t : Nat} (h : ¬ 0 ≤ tickB z n t) : stL z n (t + 1) = stL z n t ∧ stS z n (t + 1) = stS z n t := by
  have e := h
  unfold tickB at e
  rw [stL, stS]
  unfold less
  rw [if_neg e, if_neg h]
  exact ⟨rfl, rfl⟩
theorem stL_pos {z : List Int} {n t m : Nat} (h : tickB z n t = (m : Int)) : stL z n (t + 1) = (stL z n t).set m ((stL z n t).getD m 0 - 1) ∧ stS z n (t + 1) = stS z n t - 1 := by
  rw [stL, stS]
  unfold less
  have e : bestN z (stL z n t) t n = (m : Int) := h
  rw [e, h, if_pos (by omega), if_pos (by omega)]
  exact ⟨rfl, rfl⟩
theorem st_wf {z : List Int} {n : Nat} (h : okJs z n = true) (t : Nat) : ∀ x ∈ stL z n t, (Lit.int .i64 x).wf = true := by
  intro x hx
  have := (st_inv h t).2.1 x hx
  simp [Lit.wf, IntKind.min, IntKind.max, IntKind.signed, IntKind.bits]
  omega
theorem st_t {z : List Int} {n t : Nat} (h : okJs z n = true) (hs : ∀ s, s < t → 0 < stS z n s) : t ≤ 680 := by
  by_cases ht : 200 ≤ t
  · have := st_time h t hs ht
    have := (stS_bd h t).1
    omega
  · omega
theorem endT_le {z : List Int} {n : Nat} (h : okJs z n = true) : endT z n ≤ 680 := by
  have : ∃ t, t ≤ 680 ∧ (∀ s, s < t → 0 < stS z n s) ∧ stS z n t ≤ 0 := by
    have go : ∀ d t, (∀ s, s < t → 0 < stS z n s) → t + d = 681 → ∃ t, t ≤ 680 ∧ (∀ s, s < t → 0 < stS z n s) ∧ stS z n t ≤ 0 := by
      intro d
      induction d with
      | zero => intro t hs ht; have := st_t h hs; omega
      | succ d ih =>
        intro t hs ht
        by_cases h0 : stS z n t ≤ 0
        · exact ⟨t, by omega, hs, h0⟩
        · refine ih (t + 1) (fun s hst => ?_) (by omega)
          by_cases e : s = t
          · subst e; omega
          · exact hs s (by omega)
    exact go 681 0 (fun s hs => absurd hs (by omega)) rfl
  obtain ⟨t, h1, h2, h3⟩ := this
  rw [endT_eq z n t h2 h3 (by omega)]
  exact h1

set_option maxHeartbeats 1600000 in
theorem prRun_any (v : Value) (n : Nat) (z : List Int) (w : World) (h : IntRow .i64 3 w v n z) (hok : okJs z n = true) :
    Calls Try.prog 64 #[v] w fun e w' => ∃ v', e = .returned v' ∧ w'.ownsRow w.heap.size 3 1 v' (endT z n) ((ticks z n).map (Value.int .i64)) ∧ Ext w w' := by
  obtain ⟨i0, hi, hz0, hz1, hz2⟩ := info_parts info_Int
  have hn := okJs_n hok
  have HOK := hid hok
  clear hok
  go_enter Try.func64, Try.ntmps64
  go_wp2_with (fail)
  refine (prLengths_any v n z w h (by omega)).mono ?_
  rintro e w1 ⟨vL, rfl, hrL, hb1⟩
  obtain ⟨aL, cL, rfl, hnL, hcL, hgL⟩ := row_shape hrL
  have hz1' := hb1.size
  go_wp2_with (fail)
  go_loopw [5, 14] (fun s i wr => ∃ (k : Nat), k ≤ n ∧ i = .int .i64 (k : Int) ∧ s = .int .i64 (lens z k).sum ∧ wr = w1)
    (fun _ i _ => n - (intOf i).toNat)
  case atStart => exact ⟨0, Nat.zero_le _, rfl, rfl, rfl⟩
  case round =>
    obtain ⟨k, hk, rfl, rfl, rfl⟩ := hrel
    by_cases hlt : k < n
    · obtain ⟨g, rfl, hg1, hg2⟩ := hgL.resolve_left (by omega)
      obtain ⟨y, hy⟩ : ∃ y, y = jLen z k := ⟨_, rfl⟩
      have hyb := job_bd HOK.out k hlt
      rw [← hy] at hyb
      obtain ⟨_, _, hy1, hy2, _, _⟩ := hyb
      have sy : wr.cell? ⟨g, k, none⟩ = some (.int .i64 y) := by rw [hrL.cellAt k (by omega)]; simp [lens, hlt, hy]
      have hs1 : 0 ≤ (lens z k).sum := sum_nonneg _ fun x hx => by
        simp only [lens, List.mem_map, List.mem_range] at hx
        obtain ⟨i, hi, rfl⟩ := hx
        have := job_bd HOK.out i (by omega)
        omega
      have hs2 : (lens z k).sum ≤ 40 * k := by
        have := sum_le 40 (lens z k) fun x hx => by
          simp only [lens, List.mem_map, List.mem_range] at hx
          obtain ⟨i, hi, rfl⟩ := hx
          have := job_bd HOK.out i (by omega)
          omega
        rwa [lens_length] at this
      obtain ⟨q, hq⟩ : ∃ q, q = (lens z k).sum := ⟨_, rfl⟩
      rw [← hq] at hs1 hs2 ⊢
      have HQ := hid hq
      have HY := hid hy
      clear hq hy hgL h
      go_wp2_with (fail)
      go_roundw
      case rel =>
        refine ⟨k + 1, by omega, by go_num, ?_, by first | rfl | trivial⟩
        rw [lens_succ, List.sum_append, HQ.out, HY.out]
        simp
      case measure => simp [intOf]; omega
    · obtain rfl : k = n := by omega
      clear hlt hk
      go_wp2_with (fail)
      obtain ⟨wo, rfl⟩ : ∃ wo : World, wo = wr := ⟨_, rfl⟩
      go_loopw [3, 5, 8] (fun vo s tt wx => ∃ (t : Nat), tt = .int .i64 (t : Int) ∧ s = .int .i64 (stS z k t) ∧ (∀ j, j < t → 0 < stS z k j) ∧ wx.ownsRow wo.heap.size 3 1 vo t ((stO z k t).map (Value.int .i64)) ∧
          wx.ownsRow w.heap.size 3 1 (.slice aL k cL) k ((stL z k t).map (Value.int .i64)) ∧ wo.heap.size ≤ wx.heap.size ∧ Ext w wx)
        (fun _ s tt _ => (intOf s).toNat + (200 - (intOf tt).toNat))
      case atStart => exact ⟨0, rfl, rfl, fun j hj => absurd hj (by omega), World.ownsRow_nil _ _ _ _, hrL, Nat.le_refl _, hb1⟩
      case round =>
        clear hrL
        obtain ⟨t, rfl, rfl, hpos, hrO, hrL, hsz, hE⟩ := hrel
        have HP := hid hpos
        obtain ⟨i1, i2, i3⟩ := st_inv HOK.out t
        have sb := stS_bd HOK.out t
        have tb := st_t HOK.out hpos
        clear hpos
        by_cases hs : 0 < stS z k t
        · have hs' : ∀ j, j < t + 1 → 0 < stS z k j := fun j hj => by
            by_cases e : j = t
            · subst e; exact hs
            · exact HP.out j (by omega)
          have tb1 := st_t HOK.out hs'
          have HP' := hid hs'
          clear hs'
          have hk0 : 0 < k := by
            obtain ⟨i, hi, _⟩ := sum_pos _ (i3.symm ▸ hs)
            omega
          obtain ⟨g, rfl, hg1, hg2⟩ := hgL.resolve_left (by omega)
          have rm : roundM z k (t + 1) < roundM z k t := roundM_lt HOK.out t hs
          unfold roundM at rm
          have I2 := hid i2
          have I1 := hid i1
          clear i1 i2 i3 hgL
          obtain ⟨s, hsq⟩ : ∃ s, s = stS z k t := ⟨_, rfl⟩
          rw [← hsq] at hs sb rm ⊢
          have HS := hid hsq
          clear hsq
          go_wp2_with (fail)
          refine (prNext_any _ k z _ (stL z k t) _ _ (h.ext hE) (row_ints hrL (by unfold maxLen; omega) (st_wf HOK.out t))).mono ?_
          rintro e w2 ⟨rfl, hb2⟩
          obtain ⟨q, hq⟩ : ∃ q, q = tickB z k t := ⟨_, rfl⟩
          rw [show bestN z (stL z k t) (t : Int) k = q from hq.symm]
          have qr := bestN_range z (stL z k t) t k
          rw [show bestN z (stL z k t) (t : Int) k = q from hq.symm] at qr
          obtain ⟨qr1, qr2, _⟩ := qr
          have HQ := hid hq
          clear hq
          have hrO2 := row_ext hrO hb2
          have hrL2 := row_ext hrL hb2
          have hE2 : Ext w w2 := hE.trans hb2
          have hsz2 := hb2.size
          clear hrO hrL
          by_cases hq0 : 0 ≤ q
          · obtain ⟨m, rfl⟩ := Int.eq_ofNat_of_zero_le hq0
            obtain ⟨x, hx⟩ : ∃ x, x = (stL z k t).getD m 0 := ⟨_, rfl⟩
            have hxb := I2.out _ (getD_mem (show m < (stL z k t).length by rw [I1.out]; omega))
            rw [← hx] at hxb
            obtain ⟨hx1, hx2⟩ := hxb
            have HX := hid hx
            have Hst := hid (stL_pos HQ.out.symm)
            clear hx
            go_wp2_with (first | (at_builtin; refine wpList_append_own _ rfl _ _ 38 rfl wo.heap.size 3 i0 _ _ _ Try.underlying38 hi hz0 hz1 hz2 rfl (by decide) _ _ _ rfl (hrO2.alloc _) _ 1 1 [.int .i64 (m : Int)] rfl rfl (cell_new1 _ _ _ _ (by simp)) (fun x hx => by simp at hx; subst hx; rfl) (by unfold maxLen; omega) (by omega) (by simp; omega) ?_; intro v' w3 hrO3 hgr3 hnil'; have hrL3 : w3.ownsRow w.heap.size 3 1 (.slice (some ⟨g, 0, none⟩) k cL) k ((stL z k t).map (Value.int .i64)) := row_below (B := wo.heap.size) (hrL2.alloc _) (fun j hj => by simp [Value.ownBlock] at hj; omega) hgr3 (fun j hj => (hrO2.lt j hj).1); have hE3 : Ext w w3 := ext_append (hE2.alloc _) (hrO2.alloc _) (by omega) hgr3; have hsz3 : wo.heap.size ≤ w3.heap.size := (by have := hgr3.size; simp at this; omega); have sx : w3.cell? ⟨g, m, none⟩ = some (.int .i64 x) := (by rw [hrL3.cellAt m (by omega), map_getD (by rw [I1.out]; omega), HX.out]); have fx := hrL3.frozenAt m))
            go_roundw
            case rel =>
              refine ⟨t + 1, by go_num, ?_, HP'.out, ?_, ?_, by simpa using hsz3, hE3.setCell (by simpa using hg1) _⟩
              · rw [Hst.out.2, HS.out]
              · rw [stO_succ, int_map_append, ← HQ.out]
                exact ownsRow_setCell_below hrO3 (by simpa using hg2) _
              · rw [Hst.out.1, List.map_set, ← HX.out]
                exact (hrL3.stored m _).1
            case measure =>
              rw [Hst.out.2, ← HS.out] at rm
              simp [intOf]
              omega
          · have Hst := hid (stL_neg (z := z) (n := k) (t := t) (by rw [← HQ.out]; exact hq0))
            go_wp2_with (first | (at_builtin; refine wpList_append_own _ rfl _ _ 38 rfl wo.heap.size 3 i0 _ _ _ Try.underlying38 hi hz0 hz1 hz2 rfl (by decide) _ _ _ rfl (hrO2.alloc _) _ 1 1 [.int .i64 q] rfl rfl (cell_new1 _ _ _ _ (by simp)) (fun x hx => by simp at hx; subst hx; rfl) (by unfold maxLen; omega) (by omega) (by simp; omega) ?_; intro v' w3 hrO3 hgr3 hnil'))
            have hrL3 : w3.ownsRow w.heap.size 3 1 (.slice (some ⟨g, 0, none⟩) k cL) k ((stL z k t).map (Value.int .i64)) := row_below (B := wo.heap.size) (hrL2.alloc _) (fun j hj => by simp [Value.ownBlock] at hj; omega) hgr3 (fun j hj => (hrO2.lt j hj).1)
            have hE3 : Ext w w3 := ext_append (hE2.alloc _) (hrO2.alloc _) (by omega) hgr3
            have hsz3 : wo.heap.size ≤ w3.heap.size := by have := hgr3.size; simp at this; omega
            go_roundw
            case rel =>
              refine ⟨t + 1, by go_num, ?_, HP'.out, ?_, ?_, hsz3, hE3⟩
              · rw [Hst.out.2, HS.out]
              · rw [stO_succ, int_map_append, ← HQ.out]
                exact hrO3
              · rw [Hst.out.1]
                exact hrL3
            case measure =>
              rw [Hst.out.2, ← HS.out] at rm
              simp [intOf]
              omega
        · have hT : endT z k = t := endT_eq z k t HP.out (by omega) (by omega)
          have HT := hid hT
          clear hT
          go_wp2_with (fail)
          go_ret
          refine ⟨_, rfl, ?_, hE⟩
          unfold ticks
          rw [HT.out]
          exact row_mono hrO hz1'

end Go.Proofs.Ytabafhmeefeioaa