/- The chapter of priorities: what is left of each job at a tick. No condition. -/
import Derived.Test.YtabafhmeefeioaaPriG
namespace Go.Proofs.Ytabafhmeefeioaa
open Go.RowKit
set_option linter.unusedSimpArgs false
set_option linter.unusedVariables false


set_option maxHeartbeats 1600000 in
theorem sLeftAt_any (v : Value) (n : Nat) (z : List Int) (t : Int) (w : World) (h : IntRow .i64 3 w v n z) :
    Calls Try.prog 30 #[v, .int .i64 t] w fun e w' => ∃ v', e = .returned (.tuple #[v', .bool (lfC z n t)]) ∧ w'.ownsRow w.heap.size 3 1 v' ((lfV z n t).length / 1) ((lfV z n t).map (Value.int .i64)) ∧ Ext w w' := by
  obtain ⟨i0, hi, hz0, hz1, hz2⟩ := info_parts info_Int
  by_cases hc : lfC z n t = true
  · have hcc := hc
    unfold lfC at hcc
    rw [Bool.and_eq_true] at hcc
    have HOK := hid hcc.1
    have HT := hid hcc.2
    have hn := okJs_n hcc.1
    have hT := endT_le hcc.1
    have HV := hid (show lfV z n t = lfL z n t (endT z n) by unfold lfV; rw [if_pos hc])
    rw [HV.out, hc, Nat.div_one, (lfL_inv HOK.out t (endT z n)).1]
    clear hc hcc
    have hh := h
    obtain ⟨hl, hm, hwf, a, c, rfl, hnc, hcm, hcell⟩ := h
    clear hwf
    go_enter Try.func30, Try.ntmps30
    go_wp2_with (fail)
    refine (prGood_any _ n z w hh).mono ?_
    rw [HOK.out]
    rintro e w1 ⟨rfl, hb1⟩
    go_wp2_with (first | (go_at_call 63; go_in) | (go_at_call 60; refine (l1In_any _ _ _ _).mono ?_; rw [HT.out]; rintro e w' ⟨rfl, rfl⟩))
    refine (prLengths_any _ n z _ (hh.ext (by repeat (first | exact Ext.refl _ | assumption | refine Ext.alloc ?_ _ | refine Ext.drew ?_ | refine Ext.drewN ?_ _ | refine Ext.setCell ?_ (by first | exact Nat.le_refl _ | (simp; done) | (dsimp only; omega) | (simp only [World.size_alloc, World.size_setCell]; omega)) _ | refine Ext.trans ?_ (by assumption)))) (by omega)).mono ?_
    rintro e w2 ⟨vL, rfl, hrL, hb2⟩
    obtain ⟨aL, cL, rfl, hnL, hcL, hgL⟩ := row_shape hrL
    have hE2 : Ext w w2 := (by repeat (first | exact Ext.refl _ | assumption | refine Ext.alloc ?_ _ | refine Ext.drew ?_ | refine Ext.drewN ?_ _ | refine Ext.setCell ?_ (by first | exact Nat.le_refl _ | (simp; done) | (dsimp only; omega) | (simp only [World.size_alloc, World.size_setCell]; omega)) _ | refine Ext.trans ?_ (by assumption)))
    have hB : w.heap.size ≤ w1.heap.size := hb1.size
    go_wp2_with (fail)
    refine (prRun_any _ n z _ (hh.ext hE2) HOK.out).mono ?_
    rintro e w3 ⟨vr, rfl, hr, hb3⟩
    obtain ⟨ar, cr, rfl, _, _, hg⟩ := row_shape hr
    have hrL3 := row_ext hrL hb3
    have hE3 : Ext w w3 := hE2.trans hb3
    clear hrL hh
    go_wp2_with (fail)
    go_loopw [22] (fun i wr => ∃ (k : Nat), k ≤ endT z n ∧ i = .int .i64 (k : Int) ∧ wr.ownsRow w1.heap.size 3 1 (.slice aL n cL) n ((lfL z n t k).map (Value.int .i64)) ∧ wr.ownsRow w2.heap.size 3 1 (.slice ar (endT z n) cr) (endT z n) ((ticks z n).map (Value.int .i64)) ∧ Ext w wr)
      (fun i _ => endT z n - (intOf i).toNat)
    case atStart => exact ⟨0, Nat.zero_le _, rfl, hrL3, hr, hE3⟩
    case round =>
      clear hrL3 hr hE3
      obtain ⟨k, hk, rfl, hrow, hr, hE⟩ := hrel
      by_cases hlt : k < endT z n
      · obtain ⟨g, rfl, hg1, hg2⟩ := hg.resolve_left (by omega)
        obtain ⟨q, hq⟩ : ∃ q, q = tickB z n k := ⟨_, rfl⟩
        have sq := row_tick hr rfl k hlt
        rw [← hq] at sq
        have qr := tick_range z n k
        rw [← hq] at qr
        obtain ⟨q1, q2⟩ := qr
        have HQ := hid hq
        clear hq
        by_cases ht : (k : Int) < t
        · by_cases h0 : 0 ≤ q
          · obtain ⟨m, rfl⟩ := Int.eq_ofNat_of_zero_le h0
            obtain ⟨gL, rfl, hgL1, hgL2⟩ := hgL.resolve_left (by omega)
            obtain ⟨x, hx⟩ : ∃ x, x = (lfL z n t k).getD m 0 := ⟨_, rfl⟩
            have iv := lfL_inv HOK.out t k
            have xb := iv.2 _ (getD_mem (l := lfL z n t k) (i := m) (by rw [iv.1]; omega))
            rw [← hx] at xb
            obtain ⟨xb1, xb2⟩ := xb
            have sx : wr.cell? ⟨gL, m, none⟩ = some (.int .i64 x) := by rw [hrow.cellAt m (by omega), map_getD (by rw [iv.1]; omega), hx]
            have fx := hrow.frozenAt m
            have HX := hid hx
            clear hx iv
            go_wp2_with (fail)
            go_roundw
            case rel =>
              refine ⟨k + 1, by omega, by go_num, ?_, row_above hr (hrow.stored m (.int .i64 (x - 1))).2 (fun j hj => by simp at hj; omega), hE.setCell (by simp only []; omega) _⟩
              rw [lfL, ← HQ.out, if_pos ⟨ht, by omega⟩, List.map_set, show ((m : Nat) : Int).toNat = m by omega, ← HX.out]
              exact (hrow.stored m (.int .i64 (x - 1))).1
            case measure => simp [intOf]; omega
          · go_wp2_with (fail)
            go_roundw
            case rel =>
              refine ⟨k + 1, by omega, by go_num, ?_, hr, hE⟩
              rw [lfL, ← HQ.out, if_neg (fun hc => h0 hc.2)]
              exact hrow
            case measure => simp [intOf]; omega
        · go_wp2_with (fail)
          go_roundw
          case rel =>
            refine ⟨k + 1, by omega, by go_num, ?_, hr, hE⟩
            rw [lfL, if_neg (fun hc => ht hc.1)]
            exact hrow
          case measure => simp [intOf]; omega
      · obtain rfl : k = endT z n := by omega
        go_wp2_with (fail)
        go_ret2
        exact ⟨_, rfl, row_mono hrow hB, hE⟩

  · have hc : lfC z n t = false := by simpa using hc
    have HV := hid (show lfV z n t = [] by unfold lfV; rw [if_neg (by rw [hc]; decide)])
    rw [HV.out, hc]
    have hcc := hc
    unfold lfC at hcc
    clear hc
    by_cases hok : okJs z n = true
    · have HOK := hid hok
      have HT := hid (show inR t 0 700 = false by rw [hok] at hcc; simpa using hcc)
      clear hok hcc
      go_enter Try.func30, Try.ntmps30
      go_wp2_with (fail)
      refine (prGood_any _ n z w h).mono ?_
      rw [HOK.out]
      rintro e w1 ⟨rfl, hb1⟩
      go_wp2_with (first | (go_at_call 63; go_in) | (go_at_call 60; refine (l1In_any _ _ _ _).mono ?_; rw [HT.out]; rintro e w' ⟨rfl, rfl⟩))
      go_ret2
      exact ⟨_, rfl, World.ownsRow_nil _ _ _ _, (by repeat (first | exact Ext.refl _ | assumption | refine Ext.alloc ?_ _ | refine Ext.drew ?_ | refine Ext.drewN ?_ _ | refine Ext.setCell ?_ (by first | exact Nat.le_refl _ | (simp; done) | (dsimp only; omega) | (simp only [World.size_alloc, World.size_setCell]; omega)) _ | refine Ext.trans ?_ (by assumption)))⟩
    · have HOK := hid (show okJs z n = false by simpa using hok)
      clear hok hcc
      go_enter Try.func30, Try.ntmps30
      go_wp2_with (fail)
      refine (prGood_any _ n z w h).mono ?_
      rw [HOK.out]
      rintro e w1 ⟨rfl, hb1⟩
      go_wp2_with (fail)
      go_ret2
      exact ⟨_, rfl, World.ownsRow_nil _ _ _ _, (by repeat (first | exact Ext.refl _ | assumption | refine Ext.alloc ?_ _ | refine Ext.drew ?_ | refine Ext.drewN ?_ _ | refine Ext.setCell ?_ (by first | exact Nat.le_refl _ | (simp; done) | (dsimp only; omega) | (simp only [World.size_alloc, World.size_setCell]; omega)) _ | refine Ext.trans ?_ (by assumption)))⟩


set_option maxHeartbeats 1600000 in
theorem iLeftAt_any (v : Value) (n : Nat) (z : List Int) (t : Int) (w : World) (h : IntRow .i64 3 w v n z) :
    Calls Try.prog 31 #[v, .int .i64 t] w fun e w' => ∃ v', e = .returned (.tuple #[v', .bool (lfC z n t)]) ∧ w'.ownsRow w.heap.size 3 1 v' ((lfV z n t).length / 1) ((lfV z n t).map (Value.int .i64)) ∧ Ext w w' := by
  obtain ⟨i0, hi, hz0, hz1, hz2⟩ := info_parts info_Int
  by_cases hc : lfC z n t = true
  · have hcc := hc
    unfold lfC at hcc
    rw [Bool.and_eq_true] at hcc
    have HOK := hid hcc.1
    have HT := hid hcc.2
    have hn := okJs_n hcc.1
    have hT := endT_le hcc.1
    have HV := hid (show lfV z n t = lfL z n t (endT z n) by unfold lfV; rw [if_pos hc])
    rw [HV.out, hc, Nat.div_one, (lfL_inv HOK.out t (endT z n)).1]
    clear hc hcc
    have hh := h
    obtain ⟨hl, hm, hwf, a, c, rfl, hnc, hcm, hcell⟩ := h
    clear hwf
    go_enter Try.func31, Try.ntmps31
    go_wp2_with (fail)
    refine (iAreLineJobs_any _ n z w hh).mono ?_
    rw [HOK.out]
    rintro e w1 ⟨rfl, hb1⟩
    go_wp2_with (first | (go_at_call 57; refine (within_any _ _ _ _).mono ?_; rw [HT.out]; rintro e w' ⟨rfl, rfl⟩) | (at_make; refine wpList_make_full _ rfl _ _ 38 rfl w1.heap.size 3 i0 _ 1 Try.underlying38 hi hz0 hz1 .i64 .i64 _ _ n rfl rfl rfl rfl (by rw [hz2]; omega) (by unfold maxLen; omega) (Nat.le_refl _) ?_; intro w2 hown hgrow))
    have hB : w.heap.size ≤ w1.heap.size := hb1.size
    go_loopw [24] (fun i wr => ∃ (k : Nat) (xs : List Value), k ≤ n ∧ i = .int .i64 (k : Int) ∧ wr.ownsRow w1.heap.size 3 1 (.slice (some ⟨w1.heap.size, 0, none⟩) n n) n xs ∧ (∀ j, j < k → xs[j]? = some (.int .i64 (jLen z j))) ∧ Ext w wr)
      (fun i _ => n - (intOf i).toNat)
    case atStart => exact ⟨0, _, Nat.zero_le _, rfl, hown, fun j hj => absurd hj (by omega), Ext.of_grown (by repeat (first | exact Ext.refl _ | assumption | refine Ext.alloc ?_ _ | refine Ext.drew ?_ | refine Ext.drewN ?_ _ | refine Ext.setCell ?_ (by first | exact Nat.le_refl _ | (simp; done) | (dsimp only; omega) | (simp only [World.size_alloc, World.size_setCell]; omega)) _ | refine Ext.trans ?_ (by assumption))) hgrow⟩
    case round =>
      clear hown hgrow
      obtain ⟨k, xs, hk, rfl, hrow, hpre, hE⟩ := hrel
      have HP := hid hpre
      clear hpre
      by_cases hlt : k < n
      · obtain ⟨b, o, rfl, hb, hc⟩ := hcell.resolve_left (by omega)
        obtain ⟨x0, hx0⟩ : ∃ x, x = z.getD (k * 3) 0 := ⟨_, rfl⟩
        have s0 : wr.cell? ⟨b, o + k * 3, none⟩ = some (.int .i64 x0) := by rw [(Ext.cells hE).1 _ _ hb, show o + k * 3 = o + (k * 3) by omega, hc _ (by omega), hx0]
        have H0 := hid hx0
        clear hx0
        obtain ⟨x1, hx1⟩ : ∃ x, x = z.getD (k * 3 + 1) 0 := ⟨_, rfl⟩
        have s1 : wr.cell? ⟨b, o + k * 3 + 1, none⟩ = some (.int .i64 x1) := by rw [(Ext.cells hE).1 _ _ hb, show o + k * 3 + 1 = o + (k * 3 + 1) by omega, hc _ (by omega), hx1]
        have H1 := hid hx1
        clear hx1
        obtain ⟨x2, hx2⟩ : ∃ x, x = z.getD (k * 3 + 2) 0 := ⟨_, rfl⟩
        have s2 : wr.cell? ⟨b, o + k * 3 + 2, none⟩ = some (.int .i64 x2) := by rw [(Ext.cells hE).1 _ _ hb, show o + k * 3 + 2 = o + (k * 3 + 2) by omega, hc _ (by omega), hx2]
        have H2 := hid hx2
        clear hx2
        obtain ⟨u0, c0, d0⟩ := row_cell hrow k (by omega)
        have f0 := hrow.frozenAt k
        have hgs : w1.heap.size < wr.heap.size := (hrow.lt _ rfl).2
        clear hcell hc
        go_wp2_with (fail)
        go_roundw
        case rel =>
          refine ⟨k + 1, _, by omega, by go_num, ((hrow.stored k (.int .i64 x1)).1.alloc _), fun j hj => ?_, (by repeat (first | exact Ext.refl _ | assumption | refine Ext.alloc ?_ _ | refine Ext.drew ?_ | refine Ext.drewN ?_ _ | refine Ext.setCell ?_ (by first | exact Nat.le_refl _ | (simp; done) | (dsimp only; omega) | (simp only [World.size_alloc, World.size_setCell]; omega)) _ | refine Ext.trans ?_ (by assumption)))⟩
          rw [List.getElem?_set]
          by_cases e : k = j
          · subst e
            rw [if_pos rfl, if_pos (by rw [hrow.1]; omega), show jLen z k = x1 from H1.out.symm]
          · rw [if_neg e]
            exact HP.out j (by omega)
        case measure => simp [intOf]; omega
      · obtain rfl : n = k := by omega
        have hxs : xs = (lens z n).map (Value.int .i64) := list_full hrow.1 (by simp [lens]) fun j hj => by rw [HP.out j (by omega)]; simp [lens, show j < n by omega]
        rw [hxs] at hrow
        have hrL := hrow
        have hE2 := hE
        have hnL : n ≤ n := Nat.le_refl _
        have hgL : n = 0 ∨ ∃ g, (some ⟨w1.heap.size, 0, none⟩ : Option Addr) = some ⟨g, 0, none⟩ ∧ w1.heap.size ≤ g ∧ g < wr.heap.size := .inr ⟨_, rfl, Nat.le_refl _, (hrow.lt _ rfl).2⟩
        obtain ⟨w2, rfl⟩ : ∃ wo : World, wo = wr := ⟨_, rfl⟩
        have hgs0 : w1.heap.size < w2.heap.size := (hrow.lt _ rfl).2
        clear hxs hrow hE HP hcell hlt hk
        go_wp2_with (fail)
        refine (sentTicks_any _ n z _ (hh.ext hE2) HOK.out).mono ?_
        rintro e w3 ⟨vr, rfl, hr, hb3⟩
        obtain ⟨ar, cr, rfl, _, _, hg⟩ := row_shape hr
        have hrL3 := row_ext hrL hb3
        have hE3 : Ext w w3 := hE2.trans hb3
        clear hrL hh
        go_wp2_with (fail)
        go_loopw [38] (fun i wr => ∃ (k : Nat), k ≤ endT z n ∧ i = .int .i64 (k : Int) ∧ wr.ownsRow w1.heap.size 3 1 (.slice (some ⟨w1.heap.size, 0, none⟩) n n) n ((lfL z n t k).map (Value.int .i64)) ∧ wr.ownsRow w2.heap.size 3 1 (.slice ar (endT z n) cr) (endT z n) ((ticks z n).map (Value.int .i64)) ∧ Ext w wr)
          (fun i _ => endT z n - (intOf i).toNat)
        case atStart => exact ⟨0, Nat.zero_le _, rfl, hrL3, hr, hE3⟩
        case round =>
          clear hrL3 hr hE3
          obtain ⟨k, hk, rfl, hrow, hr, hE⟩ := hrel
          by_cases hlt : k < endT z n
          · obtain ⟨g, rfl, hg1, hg2⟩ := hg.resolve_left (by omega)
            obtain ⟨q, hq⟩ : ∃ q, q = tickB z n k := ⟨_, rfl⟩
            have sq := row_tick hr rfl k hlt
            rw [← hq] at sq
            have qr := tick_range z n k
            rw [← hq] at qr
            obtain ⟨q1, q2⟩ := qr
            have HQ := hid hq
            clear hq
            by_cases ht : (k : Int) < t
            · by_cases h0 : 0 ≤ q
              · obtain ⟨m, rfl⟩ := Int.eq_ofNat_of_zero_le h0
                have hgL2 := hgs0
                obtain ⟨x, hx⟩ : ∃ x, x = (lfL z n t k).getD m 0 := ⟨_, rfl⟩
                have iv := lfL_inv HOK.out t k
                have xb := iv.2 _ (getD_mem (l := lfL z n t k) (i := m) (by rw [iv.1]; omega))
                rw [← hx] at xb
                obtain ⟨xb1, xb2⟩ := xb
                have sx : wr.cell? ⟨w1.heap.size, m, none⟩ = some (.int .i64 x) := by rw [hrow.cellAt m (by omega), map_getD (by rw [iv.1]; omega), hx]
                have fx := hrow.frozenAt m
                have HX := hid hx
                clear hx iv
                go_wp2_with (fail)
                go_roundw
                case rel =>
                  refine ⟨k + 1, by omega, by go_num, ?_, row_above hr (hrow.stored m (.int .i64 (x - 1))).2 (fun j hj => by simp at hj; omega), hE.setCell (by simp only []; omega) _⟩
                  rw [lfL, ← HQ.out, if_pos ⟨ht, by omega⟩, List.map_set, show ((m : Nat) : Int).toNat = m by omega, ← HX.out]
                  exact (hrow.stored m (.int .i64 (x - 1))).1
                case measure => simp [intOf]; omega
              · go_wp2_with (fail)
                go_roundw
                case rel =>
                  refine ⟨k + 1, by omega, by go_num, ?_, hr, hE⟩
                  rw [lfL, ← HQ.out, if_neg (fun hc => h0 hc.2)]
                  exact hrow
                case measure => simp [intOf]; omega
            · go_wp2_with (fail)
              go_roundw
              case rel =>
                refine ⟨k + 1, by omega, by go_num, ?_, hr, hE⟩
                rw [lfL, if_neg (fun hc => ht hc.1)]
                exact hrow
              case measure => simp [intOf]; omega
          · obtain rfl : k = endT z n := by omega
            go_wp2_with (fail)
            go_ret2
            exact ⟨_, rfl, row_mono hrow hB, hE⟩

  · have hc : lfC z n t = false := by simpa using hc
    have HV := hid (show lfV z n t = [] by unfold lfV; rw [if_neg (by rw [hc]; decide)])
    rw [HV.out, hc]
    have hcc := hc
    unfold lfC at hcc
    clear hc
    by_cases hok : okJs z n = true
    · have HOK := hid hok
      have HT := hid (show inR t 0 700 = false by rw [hok] at hcc; simpa using hcc)
      clear hok hcc
      go_enter Try.func31, Try.ntmps31
      go_wp2_with (fail)
      refine (iAreLineJobs_any _ n z w h).mono ?_
      rw [HOK.out]
      rintro e w1 ⟨rfl, hb1⟩
      go_wp2_with (first | (go_at_call 57; refine (within_any _ _ _ _).mono ?_; rw [HT.out]; rintro e w' ⟨rfl, rfl⟩))
      go_ret2
      exact ⟨_, rfl, World.ownsRow_nil _ _ _ _, (by repeat (first | exact Ext.refl _ | assumption | refine Ext.alloc ?_ _ | refine Ext.drew ?_ | refine Ext.drewN ?_ _ | refine Ext.setCell ?_ (by first | exact Nat.le_refl _ | (simp; done) | (dsimp only; omega) | (simp only [World.size_alloc, World.size_setCell]; omega)) _ | refine Ext.trans ?_ (by assumption)))⟩
    · have HOK := hid (show okJs z n = false by simpa using hok)
      clear hok hcc
      go_enter Try.func31, Try.ntmps31
      go_wp2_with (fail)
      refine (iAreLineJobs_any _ n z w h).mono ?_
      rw [HOK.out]
      rintro e w1 ⟨rfl, hb1⟩
      go_wp2_with (fail)
      go_ret2
      exact ⟨_, rfl, World.ownsRow_nil _ _ _ _, (by repeat (first | exact Ext.refl _ | assumption | refine Ext.alloc ?_ _ | refine Ext.drew ?_ | refine Ext.drewN ?_ _ | refine Ext.setCell ?_ (by first | exact Nat.le_refl _ | (simp; done) | (dsimp only; omega) | (simp only [World.size_alloc, World.size_setCell]; omega)) _ | refine Ext.trans ?_ (by assumption)))⟩


set_option maxHeartbeats 2000000 in
theorem walkFnExactLeftAt (v0 : Value) (n0 : Nat) (z0 : List Int) (a1 : Int) (w : World) (r0 : IntRow .i64 3 w v0 n0 z0) (_ : (Lit.int .i64 a1).wf = true) :
    Calls Try.prog 8 #[v0, .int .i64 a1] w fun e w' => e = .returned (.bool true) ∧ Ext w w' := by
  have hsz := szLineJobS_any v0 n0 z0 w 1048576 r0 (by omega) (by omega)
  by_cases hn : n0 ≤ 1048576
  · rw [if_pos (by omega)] at hsz
    have hwf := r0.2.2.1
    obtain ⟨L, hL⟩ : ∃ L, L = lfV z0 n0 a1 := ⟨_, rfl⟩
    have hLw : ∀ x ∈ L, (Lit.int .i64 x).wf = true := by rw [hL]; exact lfV_wf _ _ _
    have hLl : L.length / 1 ≤ 16777216 := by rw [hL]; (have := lfV_len z0 n0 a1; omega)
    go_enter Try.func8, Try.ntmps8
    go_wp2_with (fail)
    refine hsz.mono ?_
    rintro e w' ⟨rfl, rfl⟩
    go_wp2_with (fail)
    refine (toLineJobS_any _ n0 z0 _ (r0.ext (by repeat (first | exact Ext.refl _ | assumption | refine Ext.alloc ?_ _ | refine Ext.drew ?_ | refine Ext.drewN ?_ _ | refine Ext.setCell ?_ (by first | exact Nat.le_refl _ | (simp; done) | (dsimp only; omega) | (simp only [World.size_alloc, World.size_setCell]; omega)) _ | refine Ext.trans ?_ (by assumption)))) hn).mono ?_
    rintro e w1 ⟨g1, rfl, hr1, hb1⟩
    go_wp2_with (fail)
    refine (sLeftAt_any _ n0 z0 a1 _ (row_ints (row_ext hr1 (by repeat (first | exact Ext.refl _ | assumption | refine Ext.alloc ?_ _ | refine Ext.drew ?_ | refine Ext.drewN ?_ _ | refine Ext.setCell ?_ (by first | exact Nat.le_refl _ | (simp; done) | (dsimp only; omega) | (simp only [World.size_alloc, World.size_setCell]; omega)) _ | refine Ext.trans ?_ (by assumption)))) (by unfold maxLen; omega) hwf)).mono ?_
    rintro e w2 ⟨vw, rfl, hrw, hb2⟩
    rw [← hL] at hrw
    go_wp2_with (fail)
    refine (toLineJobS_any _ n0 z0 _ (r0.ext (by repeat (first | exact Ext.refl _ | assumption | refine Ext.alloc ?_ _ | refine Ext.drew ?_ | refine Ext.drewN ?_ _ | refine Ext.setCell ?_ (by first | exact Nat.le_refl _ | (simp; done) | (dsimp only; omega) | (simp only [World.size_alloc, World.size_setCell]; omega)) _ | refine Ext.trans ?_ (by assumption)))) hn).mono ?_
    rintro e w3 ⟨g3, rfl, hr3, hb3⟩
    go_wp2_with (fail)
    refine (iLeftAt_any _ n0 z0 a1 _ (row_ints (row_ext hr3 (by repeat (first | exact Ext.refl _ | assumption | refine Ext.alloc ?_ _ | refine Ext.drew ?_ | refine Ext.drewN ?_ _ | refine Ext.setCell ?_ (by first | exact Nat.le_refl _ | (simp; done) | (dsimp only; omega) | (simp only [World.size_alloc, World.size_setCell]; omega)) _ | refine Ext.trans ?_ (by assumption)))) (by unfold maxLen; omega) hwf)).mono ?_
    rintro e w4 ⟨vg, rfl, hrg, hb4⟩
    rw [← hL] at hrg
    go_wp2_with (fail)
    refine (eqIntS_same _ _ (L.length / 1) L _ (row_ints (row_ext hrg (by repeat (first | exact Ext.refl _ | assumption | refine Ext.alloc ?_ _ | refine Ext.drew ?_ | refine Ext.drewN ?_ _ | refine Ext.setCell ?_ (by first | exact Nat.le_refl _ | (simp; done) | (dsimp only; omega) | (simp only [World.size_alloc, World.size_setCell]; omega)) _ | refine Ext.trans ?_ (by assumption)))) (by unfold maxLen; omega) hLw) (row_ints (row_ext hrw (by repeat (first | exact Ext.refl _ | assumption | refine Ext.alloc ?_ _ | refine Ext.drew ?_ | refine Ext.drewN ?_ _ | refine Ext.setCell ?_ (by first | exact Nat.le_refl _ | (simp; done) | (dsimp only; omega) | (simp only [World.size_alloc, World.size_setCell]; omega)) _ | refine Ext.trans ?_ (by assumption)))) (by unfold maxLen; omega) hLw)).mono ?_
    rintro e w5 ⟨rfl, hb5⟩
    go_wp2_with (fail)
    refine (toLineJobS_any _ n0 z0 _ (r0.ext (by repeat (first | exact Ext.refl _ | assumption | refine Ext.alloc ?_ _ | refine Ext.drew ?_ | refine Ext.drewN ?_ _ | refine Ext.setCell ?_ (by first | exact Nat.le_refl _ | (simp; done) | (dsimp only; omega) | (simp only [World.size_alloc, World.size_setCell]; omega)) _ | refine Ext.trans ?_ (by assumption)))) hn).mono ?_
    rintro e w6 ⟨g6, rfl, hr6, hb6⟩
    go_wp2_with (fail)
    refine (eqLineJobS_same _ _ n0 z0 _ (row_ints (row_ext hr3 (by repeat (first | exact Ext.refl _ | assumption | refine Ext.alloc ?_ _ | refine Ext.drew ?_ | refine Ext.drewN ?_ _ | refine Ext.setCell ?_ (by first | exact Nat.le_refl _ | (simp; done) | (dsimp only; omega) | (simp only [World.size_alloc, World.size_setCell]; omega)) _ | refine Ext.trans ?_ (by assumption)))) (by unfold maxLen; omega) hwf) (row_ints (row_ext hr6 (by repeat (first | exact Ext.refl _ | assumption | refine Ext.alloc ?_ _ | refine Ext.drew ?_ | refine Ext.drewN ?_ _ | refine Ext.setCell ?_ (by first | exact Nat.le_refl _ | (simp; done) | (dsimp only; omega) | (simp only [World.size_alloc, World.size_setCell]; omega)) _ | refine Ext.trans ?_ (by assumption)))) (by unfold maxLen; omega) hwf)).mono ?_
    rintro e w7 ⟨rfl, hb7⟩
    have hrw7 := row_ext hrw ((by repeat (first | exact Ext.refl _ | assumption | refine Ext.alloc ?_ _ | refine Ext.drew ?_ | refine Ext.drewN ?_ _ | refine Ext.setCell ?_ (by first | exact Nat.le_refl _ | (simp; done) | (dsimp only; omega) | (simp only [World.size_alloc, World.size_setCell]; omega)) _ | refine Ext.trans ?_ (by assumption))) : Ext w2 w7)
    have hrg7 := row_ext hrg ((by repeat (first | exact Ext.refl _ | assumption | refine Ext.alloc ?_ _ | refine Ext.drew ?_ | refine Ext.drewN ?_ _ | refine Ext.setCell ?_ (by first | exact Nat.le_refl _ | (simp; done) | (dsimp only; omega) | (simp only [World.size_alloc, World.size_setCell]; omega)) _ | refine Ext.trans ?_ (by assumption))) : Ext w4 w7)
    have hrx7 := row_ext hr3 ((by repeat (first | exact Ext.refl _ | assumption | refine Ext.alloc ?_ _ | refine Ext.drew ?_ | refine Ext.drewN ?_ _ | refine Ext.setCell ?_ (by first | exact Nat.le_refl _ | (simp; done) | (dsimp only; omega) | (simp only [World.size_alloc, World.size_setCell]; omega)) _ | refine Ext.trans ?_ (by assumption))) : Ext w3 w7)
    have hE7 : Ext w w7 := (by repeat (first | exact Ext.refl _ | assumption | refine Ext.alloc ?_ _ | refine Ext.drew ?_ | refine Ext.drewN ?_ _ | refine Ext.setCell ?_ (by first | exact Nat.le_refl _ | (simp; done) | (dsimp only; omega) | (simp only [World.size_alloc, World.size_setCell]; omega)) _ | refine Ext.trans ?_ (by assumption)))
    have hlw : ∀ k, vw.ownBlock = some k → k < w2.heap.size := fun k hk => (hrw.lt k hk).2
    have hz2 := (hE7.size)
    have hz4 : w.heap.size ≤ w2.heap.size := ((by repeat (first | exact Ext.refl _ | assumption | refine Ext.alloc ?_ _ | refine Ext.drew ?_ | refine Ext.drewN ?_ _ | refine Ext.setCell ?_ (by first | exact Nat.le_refl _ | (simp; done) | (dsimp only; omega) | (simp only [World.size_alloc, World.size_setCell]; omega)) _ | refine Ext.trans ?_ (by assumption))) : Ext w w2).size
    have hz5 : w2.heap.size ≤ w3.heap.size := hb3.size
    have hg3 : w2.heap.size ≤ g3 ∧ g3 < w3.heap.size := hr3.lt g3 rfl
    go_wp2_with (fail)
    refine (markLineJobS_any _ n0 _ w2.heap.size _ 1 hrx7 (by omega) (by omega) (by omega)).mono ?_
    rintro e w8 ⟨rfl, hrx, hm8⟩
    have hE8 : Ext w w8 := hE7.of_grownAt hm8 (fun k hk => by simp [Value.ownBlock] at hk; omega)
    have hrw8 := row_below (B := w2.heap.size) hrw7 hlw hm8 (fun k hk => by simp [Value.ownBlock] at hk; omega)
    have hrg8 := row_above hrg7 hm8 (fun k hk => by simp [Value.ownBlock] at hk; omega)
    clear hb1 hb2 hb3 hb4 hb5 hb6 hb7 hE7 hr1 hr3 hr6 hrx hrw hrg hrw7 hrg7 hrx7
    go_wp2_with (fail)
    refine (eqIntS_same _ _ (L.length / 1) L _ (row_ints (row_ext hrg8 (by repeat (first | exact Ext.refl _ | assumption | refine Ext.alloc ?_ _ | refine Ext.drew ?_ | refine Ext.drewN ?_ _ | refine Ext.setCell ?_ (by first | exact Nat.le_refl _ | (simp; done) | (dsimp only; omega) | (simp only [World.size_alloc, World.size_setCell]; omega)) _ | refine Ext.trans ?_ (by assumption)))) (by unfold maxLen; omega) hLw) (row_ints (row_ext hrw8 (by repeat (first | exact Ext.refl _ | assumption | refine Ext.alloc ?_ _ | refine Ext.drew ?_ | refine Ext.drewN ?_ _ | refine Ext.setCell ?_ (by first | exact Nat.le_refl _ | (simp; done) | (dsimp only; omega) | (simp only [World.size_alloc, World.size_setCell]; omega)) _ | refine Ext.trans ?_ (by assumption)))) (by unfold maxLen; omega) hLw)).mono ?_
    rintro e w9 ⟨rfl, hb9⟩
    have hrg9 := row_ext hrg8 hb9
    have hrw9 := row_ext hrw8 hb9
    have hE9 : Ext w w9 := hE8.trans hb9
    have hlg : ∀ k, vg.ownBlock = some k → w3.heap.size ≤ k := fun k hk => (hrg9.lt k hk).1
    go_wp2_with (fail)
    refine (markIntS_any _ _ _ w3.heap.size _ 1 hrg9 (by omega) (by omega) (by omega)).mono ?_
    rintro e w10 ⟨rfl, hrm, hm10⟩
    have hE10 : Ext w w10 := hE9.of_grownAt hm10 (fun k hk => by have := hlg k hk; omega)
    have hrw10 := row_below (B := w2.heap.size) hrw9 hlw hm10 (fun k hk => by have := hlg k hk; omega)
    clear hb9 hE8 hE9 hrg8 hrw8 hrg9 hrw9
    go_wp2_with (fail)
    refine (heldIntS_same _ (L.length / 1) _ 1 (row_ints (row_ext hrm (by repeat (first | exact Ext.refl _ | assumption | refine Ext.alloc ?_ _ | refine Ext.drew ?_ | refine Ext.drewN ?_ _ | refine Ext.setCell ?_ (by first | exact Nat.le_refl _ | (simp; done) | (dsimp only; omega) | (simp only [World.size_alloc, World.size_setCell]; omega)) _ | refine Ext.trans ?_ (by assumption)))) (by unfold maxLen; omega) (marks_wf (by omega) (by omega))) (by omega) (by omega) (by omega)).mono ?_
    rintro e w11 ⟨rfl, hb11⟩
    go_wp2_with (fail)
    refine (toLineJobS_any _ n0 z0 _ (r0.ext (by repeat (first | exact Ext.refl _ | assumption | refine Ext.alloc ?_ _ | refine Ext.drew ?_ | refine Ext.drewN ?_ _ | refine Ext.setCell ?_ (by first | exact Nat.le_refl _ | (simp; done) | (dsimp only; omega) | (simp only [World.size_alloc, World.size_setCell]; omega)) _ | refine Ext.trans ?_ (by assumption)))) hn).mono ?_
    rintro e w12 ⟨g12, rfl, hr12, hb12⟩
    go_wp2_with (fail)
    refine (iLeftAt_any _ n0 z0 a1 _ (row_ints (row_ext hr12 (by repeat (first | exact Ext.refl _ | assumption | refine Ext.alloc ?_ _ | refine Ext.drew ?_ | refine Ext.drewN ?_ _ | refine Ext.setCell ?_ (by first | exact Nat.le_refl _ | (simp; done) | (dsimp only; omega) | (simp only [World.size_alloc, World.size_setCell]; omega)) _ | refine Ext.trans ?_ (by assumption)))) (by unfold maxLen; omega) hwf)).mono ?_
    rintro e w13 ⟨vh, rfl, hrh, hb13⟩
    rw [← hL] at hrh
    go_wp2_with (fail)
    refine (eqIntS_same _ _ (L.length / 1) L _ (row_ints (row_ext hrh (by repeat (first | exact Ext.refl _ | assumption | refine Ext.alloc ?_ _ | refine Ext.drew ?_ | refine Ext.drewN ?_ _ | refine Ext.setCell ?_ (by first | exact Nat.le_refl _ | (simp; done) | (dsimp only; omega) | (simp only [World.size_alloc, World.size_setCell]; omega)) _ | refine Ext.trans ?_ (by assumption)))) (by unfold maxLen; omega) hLw) (row_ints (row_ext hrw10 (by repeat (first | exact Ext.refl _ | assumption | refine Ext.alloc ?_ _ | refine Ext.drew ?_ | refine Ext.drewN ?_ _ | refine Ext.setCell ?_ (by first | exact Nat.le_refl _ | (simp; done) | (dsimp only; omega) | (simp only [World.size_alloc, World.size_setCell]; omega)) _ | refine Ext.trans ?_ (by assumption)))) (by unfold maxLen; omega) hLw)).mono ?_
    rintro e w14 ⟨rfl, hb14⟩
    go_wp2_with (fail)
    refine (heldIntS_same _ (L.length / 1) _ 1 (row_ints (row_ext hrm (by repeat (first | exact Ext.refl _ | assumption | refine Ext.alloc ?_ _ | refine Ext.drew ?_ | refine Ext.drewN ?_ _ | refine Ext.setCell ?_ (by first | exact Nat.le_refl _ | (simp; done) | (dsimp only; omega) | (simp only [World.size_alloc, World.size_setCell]; omega)) _ | refine Ext.trans ?_ (by assumption)))) (by unfold maxLen; omega) (marks_wf (by omega) (by omega))) (by omega) (by omega) (by omega)).mono ?_
    rintro e w15 ⟨rfl, hb15⟩
    go_wp2_with (fail)
    go_ret
    exact ⟨rfl, (by repeat (first | exact Ext.refl _ | assumption | refine Ext.alloc ?_ _ | refine Ext.drew ?_ | refine Ext.drewN ?_ _ | refine Ext.setCell ?_ (by first | exact Nat.le_refl _ | (simp; done) | (dsimp only; omega) | (simp only [World.size_alloc, World.size_setCell]; omega)) _ | refine Ext.trans ?_ (by assumption)))⟩
  · rw [if_neg (by omega)] at hsz
    go_enter Try.func8, Try.ntmps8
    go_wp2_with (fail)
    refine hsz.mono ?_
    rintro e w' ⟨rfl, rfl⟩
    go_wp2_with (fail)
    go_ret
    exact ⟨rfl, Ext.refl _⟩

end Go.Proofs.Ytabafhmeefeioaa