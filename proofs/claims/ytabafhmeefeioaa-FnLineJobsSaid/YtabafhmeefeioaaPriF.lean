/- The chapter of priorities: idle ticks, finish times, waits, what is left at a tick. No condition. -/
import Derived.Test.YtabafhmeefeioaaPriE
namespace Go.Proofs.Ytabafhmeefeioaa
open Go.RowKit
set_option linter.unusedSimpArgs false
set_option linter.unusedVariables false

theorem made_ints (n : Nat) : (madeCells (Value.int .i64 0).cells (n * 1)).toList = (List.replicate n 0).map (Value.int .i64) := by
  rw [Nat.mul_one]
  exact (toList_madeCells_one _ _).trans (by simp)

/-- how many of the first k ticks are idle -/
def idleAt (z : List Int) (n : Nat) : Nat → Int
  | 0 => 0
  | k + 1 => if tickB z n k < 0 then idleAt z n k + 1 else idleAt z n k
theorem idleAt_bd (z : List Int) (n : Nat) : ∀ k, 0 ≤ idleAt z n k ∧ idleAt z n k ≤ k
  | 0 => by simp [idleAt]
  | k + 1 => by
    have := idleAt_bd z n k
    rw [idleAt]
    split <;> omega
def idleV (z : List Int) (n : Nat) : Int := if okJs z n = true then idleAt z n (endT z n) else 0

/-- the finish times after k ticks -/
def finL (z : List Int) (n : Nat) : Nat → List Int
  | 0 => List.replicate n 0
  | k + 1 => if 0 ≤ tickB z n k then (finL z n k).set (tickB z n k).toNat ((k : Int) + 1) else finL z n k
theorem finL_inv (z : List Int) (n : Nat) : ∀ k, (finL z n k).length = n ∧ ∀ x ∈ finL z n k, 0 ≤ x ∧ x ≤ k
  | 0 => ⟨by simp [finL], fun x hx => by simp [finL] at hx; omega⟩
  | k + 1 => by
    obtain ⟨h1, h2⟩ := finL_inv z n k
    rw [finL]
    by_cases h : 0 ≤ tickB z n k
    · rw [if_pos h]
      refine ⟨by simpa using h1, fun x hx => ?_⟩
      rcases List.mem_or_eq_of_mem_set hx with hx | rfl
      · have := h2 x hx
        omega
      · omega
    · rw [if_neg h]
      exact ⟨h1, fun x hx => by have := h2 x hx; omega⟩
def finJ (z : List Int) (n : Nat) : List Int := finL z n (endT z n)
theorem finJ_len (z : List Int) (n : Nat) : (finJ z n).length = n := (finL_inv z n _).1
theorem small_wf {x : Int} (h0 : -1000000 ≤ x) (h1 : x ≤ 1000000) : (Lit.int .i64 x).wf = true := by
  simp [Lit.wf, IntKind.min, IntKind.max, IntKind.signed, IntKind.bits]
  omega


set_option maxHeartbeats 800000 in
theorem sIdleTicks_any (v : Value) (n : Nat) (z : List Int) (w : World) (h : IntRow .i64 3 w v n z) :
    Calls Try.prog 26 #[v] w fun e w' => e = .returned (.tuple #[.int .i64 (idleV z n), .bool (okJs z n)]) ∧ Ext w w' := by
  by_cases hok : okJs z n = true
  · have HV := hid (show idleV z n = idleAt z n (endT z n) by unfold idleV; rw [if_pos hok])
    have HOK := hid hok
    have hT := endT_le hok
    rw [HV.out, hok]
    clear hok
    go_enter Try.func26, Try.ntmps26
    go_wp2_with (fail)
    refine (prGood_any v n z w h).mono ?_
    rw [HOK.out]
    rintro e w1 ⟨rfl, hb1⟩
    go_wp2_with (fail)
    refine (prRun_any v n z _ (h.ext (by repeat (first | exact Ext.refl _ | assumption | refine Ext.alloc ?_ _ | refine Ext.drew ?_ | refine Ext.drewN ?_ _ | refine Ext.setCell ?_ (by first | exact Nat.le_refl _ | (simp; done) | (dsimp only; omega) | (simp only [World.size_alloc, World.size_setCell]; omega)) _ | refine Ext.trans ?_ (by assumption)))) HOK.out).mono ?_
    rintro e w2 ⟨vr, rfl, hr, hb2⟩
    obtain ⟨ar, cr, rfl, _, _, hg⟩ := row_shape hr
    go_wp2_with (fail)
    go_loopw [4, 13] (fun s i wr => ∃ (k : Nat), k ≤ endT z n ∧ i = .int .i64 (k : Int) ∧ s = .int .i64 (idleAt z n k) ∧ Ext w2 wr)
      (fun _ i _ => endT z n - (intOf i).toNat)
    case atStart => exact ⟨0, Nat.zero_le _, rfl, rfl, Ext.refl _⟩
    case round =>
      obtain ⟨k, hk, rfl, rfl, hE⟩ := hrel
      by_cases hlt : k < endT z n
      · obtain ⟨g, rfl, hg1, hg2⟩ := hg.resolve_left (by omega)
        obtain ⟨m, hm⟩ : ∃ m, m = tickB z n k := ⟨_, rfl⟩
        have sq := row_tick (row_ext hr hE) rfl k hlt
        rw [← hm] at sq
        obtain ⟨q, hq⟩ : ∃ q, q = idleAt z n k := ⟨_, rfl⟩
        have qb := idleAt_bd z n k
        rw [← hq] at qb ⊢
        have HM := hid hm
        have HQ := hid hq
        clear hm hq
        by_cases h0 : m < 0
        · go_wp2_with (fail)
          go_roundw
          case rel =>
            refine ⟨k + 1, by omega, by go_num, ?_, hE⟩
            rw [idleAt, ← HM.out, if_pos h0, ← HQ.out]
          case measure => simp [intOf]; omega
        · go_wp2_with (fail)
          go_roundw
          case rel =>
            refine ⟨k + 1, by omega, by go_num, ?_, hE⟩
            rw [idleAt, ← HM.out, if_neg h0, ← HQ.out]
          case measure => simp [intOf]; omega
      · obtain rfl : k = endT z n := by omega
        go_wp2_with (fail)
        go_ret2
        exact ⟨rfl, (by repeat (first | exact Ext.refl _ | assumption | refine Ext.alloc ?_ _ | refine Ext.drew ?_ | refine Ext.drewN ?_ _ | refine Ext.setCell ?_ (by first | exact Nat.le_refl _ | (simp; done) | (dsimp only; omega) | (simp only [World.size_alloc, World.size_setCell]; omega)) _ | refine Ext.trans ?_ (by assumption)))⟩
  · have hok : okJs z n = false := by simpa using hok
    have HV := hid (show idleV z n = 0 by unfold idleV; rw [if_neg (by rw [hok]; decide)])
    have HOK := hid hok
    rw [HV.out, hok]
    clear hok
    go_enter Try.func26, Try.ntmps26
    go_wp2_with (fail)
    refine (prGood_any v n z w h).mono ?_
    rw [HOK.out]
    rintro e w1 ⟨rfl, hb1⟩
    go_wp2_with (fail)
    go_ret2
    exact ⟨rfl, (by repeat (first | exact Ext.refl _ | assumption | refine Ext.alloc ?_ _ | refine Ext.drew ?_ | refine Ext.drewN ?_ _ | refine Ext.setCell ?_ (by first | exact Nat.le_refl _ | (simp; done) | (dsimp only; omega) | (simp only [World.size_alloc, World.size_setCell]; omega)) _ | refine Ext.trans ?_ (by assumption)))⟩

set_option maxHeartbeats 1000000 in
theorem sFin_any (v : Value) (n : Nat) (z : List Int) (w : World) (h : IntRow .i64 3 w v n z) (hok : okJs z n = true) :
    Calls Try.prog 66 #[v] w fun e w' => ∃ g, e = .returned (.slice (some ⟨g, 0, none⟩) n n) ∧ w'.ownsRow w.heap.size 3 1 (.slice (some ⟨g, 0, none⟩) n n) n ((finJ z n).map (Value.int .i64)) ∧ Ext w w' := by
  obtain ⟨i0, hi, hz0, hz1, hz2⟩ := info_parts info_Int
  have hn := okJs_n hok
  have hT := endT_le hok
  have HOK := hid hok
  clear hok
  have hh := h
  obtain ⟨hl, hm, hwf, a, c, rfl, hnc, hcm, hcell⟩ := h
  clear hwf hcell
  go_enter Try.func66, Try.ntmps66
  go_wp2_with (first | (at_make; refine wpList_make_full _ rfl _ _ 38 rfl w.heap.size 3 i0 _ 1 Try.underlying38 hi hz0 hz1 .i64 .i64 _ _ n rfl rfl rfl rfl (by rw [hz2]; omega) (by unfold maxLen; omega) (Nat.le_refl _) ?_; intro w1 hown hgrow))
  have hE1 : Ext w w1 := (Ext.refl _).of_grown hgrow
  have hz1' : w.heap.size < w1.heap.size := (hown.lt _ rfl).2
  rw [made_ints] at hown
  refine (prRun_any _ n z _ (hh.ext hE1) HOK.out).mono ?_
  rintro e w2 ⟨vr, rfl, hr, hb2⟩
  obtain ⟨ar, cr, rfl, _, _, hg⟩ := row_shape hr
  have hown2 := row_ext hown hb2
  have hlr := hr.lt
  clear hown
  go_wp2_with (fail)
  go_loopw [12] (fun i wr => ∃ (k : Nat), k ≤ endT z n ∧ i = .int .i64 (k : Int) ∧ wr.ownsRow w.heap.size 3 1 (.slice (some ⟨w.heap.size, 0, none⟩) n n) n ((finL z n k).map (Value.int .i64)) ∧ wr.ownsRow w1.heap.size 3 1 (.slice ar (endT z n) cr) (endT z n) ((ticks z n).map (Value.int .i64)) ∧ Ext w wr)
    (fun i _ => endT z n - (intOf i).toNat)
  case atStart => exact ⟨0, Nat.zero_le _, rfl, hown2, hr, (by repeat (first | exact Ext.refl _ | assumption | refine Ext.alloc ?_ _ | refine Ext.drew ?_ | refine Ext.drewN ?_ _ | refine Ext.setCell ?_ (by first | exact Nat.le_refl _ | (simp; done) | (dsimp only; omega) | (simp only [World.size_alloc, World.size_setCell]; omega)) _ | refine Ext.trans ?_ (by assumption)))⟩
  case round =>
    clear hown2 hr
    obtain ⟨k, hk, rfl, hrow, hr, hE⟩ := hrel
    by_cases hlt : k < endT z n
    · obtain ⟨g, rfl, hg1, hg2⟩ := hg.resolve_left (by omega)
      obtain ⟨q, hq⟩ : ∃ q, q = tickB z n k := ⟨_, rfl⟩
      have sq := row_tick hr rfl k hlt
      rw [← hq] at sq
      have qr := tick_range z n k
      rw [← hq] at qr
      obtain ⟨q1, q2⟩ := qr
      have HQ := hid hq
      clear hq
      by_cases h0 : 0 ≤ q
      · obtain ⟨m, rfl⟩ := Int.eq_ofNat_of_zero_le h0
        obtain ⟨u0, c0, d0⟩ := row_cell hrow m (by omega)
        have f0 := hrow.frozenAt m
        go_wp2_with (fail)
        go_roundw
        case rel =>
          refine ⟨k + 1, by omega, by go_num, ?_, row_above hr (hrow.stored m (.int .i64 ((k : Int) + 1))).2 (fun j hj => by simp at hj; omega), hE.setCell (Nat.le_refl _) _⟩
          rw [finL, ← HQ.out, if_pos (by omega), List.map_set]
          exact (hrow.stored m (.int .i64 ((k : Int) + 1))).1
        case measure => simp [intOf]; omega
      · go_wp2_with (fail)
        go_roundw
        case rel =>
          refine ⟨k + 1, by omega, by go_num, ?_, hr, hE⟩
          rw [finL, ← HQ.out, if_neg h0]
          exact hrow
        case measure => simp [intOf]; omega
    · obtain rfl : k = endT z n := by omega
      go_wp2_with (fail)
      go_ret
      exact ⟨_, rfl, hrow, hE⟩


set_option maxHeartbeats 800000 in
theorem iIdleTicks_any (v : Value) (n : Nat) (z : List Int) (w : World) (h : IntRow .i64 3 w v n z) :
    Calls Try.prog 27 #[v] w fun e w' => e = .returned (.tuple #[.int .i64 (idleV z n), .bool (okJs z n)]) ∧ Ext w w' := by
  by_cases hok : okJs z n = true
  · have HV := hid (show idleV z n = idleAt z n (endT z n) by unfold idleV; rw [if_pos hok])
    have HOK := hid hok
    have hT := endT_le hok
    rw [HV.out, hok]
    clear hok
    go_enter Try.func27, Try.ntmps27
    go_wp2_with (fail)
    refine (iAreLineJobs_any v n z w h).mono ?_
    rw [HOK.out]
    rintro e w1 ⟨rfl, hb1⟩
    go_wp2_with (fail)
    refine (sentTicks_any v n z _ (h.ext (by repeat (first | exact Ext.refl _ | assumption | refine Ext.alloc ?_ _ | refine Ext.drew ?_ | refine Ext.drewN ?_ _ | refine Ext.setCell ?_ (by first | exact Nat.le_refl _ | (simp; done) | (dsimp only; omega) | (simp only [World.size_alloc, World.size_setCell]; omega)) _ | refine Ext.trans ?_ (by assumption)))) HOK.out).mono ?_
    rintro e w2 ⟨vr, rfl, hr, hb2⟩
    obtain ⟨ar, cr, rfl, _, _, hg⟩ := row_shape hr
    go_wp2_with (fail)
    go_loopw [4, 13] (fun s i wr => ∃ (k : Nat), k ≤ endT z n ∧ i = .int .i64 (k : Int) ∧ s = .int .i64 (idleAt z n k) ∧ Ext w2 wr)
      (fun _ i _ => endT z n - (intOf i).toNat)
    case atStart => exact ⟨0, Nat.zero_le _, rfl, rfl, Ext.refl _⟩
    case round =>
      obtain ⟨k, hk, rfl, rfl, hE⟩ := hrel
      by_cases hlt : k < endT z n
      · obtain ⟨g, rfl, hg1, hg2⟩ := hg.resolve_left (by omega)
        obtain ⟨m, hm⟩ : ∃ m, m = tickB z n k := ⟨_, rfl⟩
        have sq := row_tick (row_ext hr hE) rfl k hlt
        rw [← hm] at sq
        obtain ⟨q, hq⟩ : ∃ q, q = idleAt z n k := ⟨_, rfl⟩
        have qb := idleAt_bd z n k
        rw [← hq] at qb ⊢
        have HM := hid hm
        have HQ := hid hq
        clear hm hq
        by_cases h0 : m < 0
        · go_wp2_with (fail)
          go_roundw
          case rel =>
            refine ⟨k + 1, by omega, by go_num, ?_, hE⟩
            rw [idleAt, ← HM.out, if_pos h0, ← HQ.out]
          case measure => simp [intOf]; omega
        · go_wp2_with (fail)
          go_roundw
          case rel =>
            refine ⟨k + 1, by omega, by go_num, ?_, hE⟩
            rw [idleAt, ← HM.out, if_neg h0, ← HQ.out]
          case measure => simp [intOf]; omega
      · obtain rfl : k = endT z n := by omega
        go_wp2_with (fail)
        go_ret2
        exact ⟨rfl, (by repeat (first | exact Ext.refl _ | assumption | refine Ext.alloc ?_ _ | refine Ext.drew ?_ | refine Ext.drewN ?_ _ | refine Ext.setCell ?_ (by first | exact Nat.le_refl _ | (simp; done) | (dsimp only; omega) | (simp only [World.size_alloc, World.size_setCell]; omega)) _ | refine Ext.trans ?_ (by assumption)))⟩
  · have hok : okJs z n = false := by simpa using hok
    have HV := hid (show idleV z n = 0 by unfold idleV; rw [if_neg (by rw [hok]; decide)])
    have HOK := hid hok
    rw [HV.out, hok]
    clear hok
    go_enter Try.func27, Try.ntmps27
    go_wp2_with (fail)
    refine (iAreLineJobs_any v n z w h).mono ?_
    rw [HOK.out]
    rintro e w1 ⟨rfl, hb1⟩
    go_wp2_with (fail)
    go_ret2
    exact ⟨rfl, (by repeat (first | exact Ext.refl _ | assumption | refine Ext.alloc ?_ _ | refine Ext.drew ?_ | refine Ext.drewN ?_ _ | refine Ext.setCell ?_ (by first | exact Nat.le_refl _ | (simp; done) | (dsimp only; omega) | (simp only [World.size_alloc, World.size_setCell]; omega)) _ | refine Ext.trans ?_ (by assumption)))⟩

set_option maxHeartbeats 1000000 in
theorem iFin_any (v : Value) (n : Nat) (z : List Int) (w : World) (h : IntRow .i64 3 w v n z) (hok : okJs z n = true) :
    Calls Try.prog 67 #[v] w fun e w' => ∃ g, e = .returned (.slice (some ⟨g, 0, none⟩) n n) ∧ w'.ownsRow w.heap.size 3 1 (.slice (some ⟨g, 0, none⟩) n n) n ((finJ z n).map (Value.int .i64)) ∧ Ext w w' := by
  obtain ⟨i0, hi, hz0, hz1, hz2⟩ := info_parts info_Int
  have hn := okJs_n hok
  have hT := endT_le hok
  have HOK := hid hok
  clear hok
  have hh := h
  obtain ⟨hl, hm, hwf, a, c, rfl, hnc, hcm, hcell⟩ := h
  clear hwf hcell
  go_enter Try.func67, Try.ntmps67
  go_wp2_with (first | (at_make; refine wpList_make_full _ rfl _ _ 38 rfl w.heap.size 3 i0 _ 1 Try.underlying38 hi hz0 hz1 .i64 .i64 _ _ n rfl rfl rfl rfl (by rw [hz2]; omega) (by unfold maxLen; omega) (Nat.le_refl _) ?_; intro w1 hown hgrow))
  have hE1 : Ext w w1 := (Ext.refl _).of_grown hgrow
  have hz1' : w.heap.size < w1.heap.size := (hown.lt _ rfl).2
  rw [made_ints] at hown
  refine (sentTicks_any _ n z _ (hh.ext hE1) HOK.out).mono ?_
  rintro e w2 ⟨vr, rfl, hr, hb2⟩
  obtain ⟨ar, cr, rfl, _, _, hg⟩ := row_shape hr
  have hown2 := row_ext hown hb2
  have hlr := hr.lt
  clear hown
  go_wp2_with (fail)
  go_loopw [12] (fun i wr => ∃ (k : Nat), k ≤ endT z n ∧ i = .int .i64 (k : Int) ∧ wr.ownsRow w.heap.size 3 1 (.slice (some ⟨w.heap.size, 0, none⟩) n n) n ((finL z n k).map (Value.int .i64)) ∧ wr.ownsRow w1.heap.size 3 1 (.slice ar (endT z n) cr) (endT z n) ((ticks z n).map (Value.int .i64)) ∧ Ext w wr)
    (fun i _ => endT z n - (intOf i).toNat)
  case atStart => exact ⟨0, Nat.zero_le _, rfl, hown2, hr, (by repeat (first | exact Ext.refl _ | assumption | refine Ext.alloc ?_ _ | refine Ext.drew ?_ | refine Ext.drewN ?_ _ | refine Ext.setCell ?_ (by first | exact Nat.le_refl _ | (simp; done) | (dsimp only; omega) | (simp only [World.size_alloc, World.size_setCell]; omega)) _ | refine Ext.trans ?_ (by assumption)))⟩
  case round =>
    clear hown2 hr
    obtain ⟨k, hk, rfl, hrow, hr, hE⟩ := hrel
    by_cases hlt : k < endT z n
    · obtain ⟨g, rfl, hg1, hg2⟩ := hg.resolve_left (by omega)
      obtain ⟨q, hq⟩ : ∃ q, q = tickB z n k := ⟨_, rfl⟩
      have sq := row_tick hr rfl k hlt
      rw [← hq] at sq
      have qr := tick_range z n k
      rw [← hq] at qr
      obtain ⟨q1, q2⟩ := qr
      have HQ := hid hq
      clear hq
      by_cases h0 : 0 ≤ q
      · obtain ⟨m, rfl⟩ := Int.eq_ofNat_of_zero_le h0
        obtain ⟨u0, c0, d0⟩ := row_cell hrow m (by omega)
        have f0 := hrow.frozenAt m
        go_wp2_with (fail)
        go_roundw
        case rel =>
          refine ⟨k + 1, by omega, by go_num, ?_, row_above hr (hrow.stored m (.int .i64 ((k : Int) + 1))).2 (fun j hj => by simp at hj; omega), hE.setCell (Nat.le_refl _) _⟩
          rw [finL, ← HQ.out, if_pos (by omega), List.map_set]
          exact (hrow.stored m (.int .i64 ((k : Int) + 1))).1
        case measure => simp [intOf]; omega
      · go_wp2_with (fail)
        go_roundw
        case rel =>
          refine ⟨k + 1, by omega, by go_num, ?_, hr, hE⟩
          rw [finL, ← HQ.out, if_neg h0]
          exact hrow
        case measure => simp [intOf]; omega
    · obtain rfl : k = endT z n := by omega
      go_wp2_with (fail)
      go_ret
      exact ⟨_, rfl, hrow, hE⟩


set_option maxHeartbeats 2000000 in
theorem walkFnExactIdleTicks (v0 : Value) (n0 : Nat) (z0 : List Int) (w : World) (r0 : IntRow .i64 3 w v0 n0 z0) :
    Calls Try.prog 6 #[v0] w fun e w' => e = .returned (.bool true) ∧ Ext w w' := by
  have hsz := szLineJobS_any v0 n0 z0 w 1048576 r0 (by omega) (by omega)
  by_cases hn : n0 ≤ 1048576
  · rw [if_pos (by omega)] at hsz
    have hwf := r0.2.2.1
    go_enter Try.func6, Try.ntmps6
    go_wp2_with (fail)
    refine hsz.mono ?_
    rintro e w' ⟨rfl, rfl⟩
    go_wp2_with (fail)
    refine (toLineJobS_any _ n0 z0 _ (r0.ext (by repeat (first | exact Ext.refl _ | assumption | refine Ext.alloc ?_ _ | refine Ext.drew ?_ | refine Ext.drewN ?_ _ | refine Ext.setCell ?_ (by first | exact Nat.le_refl _ | (simp; done) | (dsimp only; omega) | (simp only [World.size_alloc, World.size_setCell]; omega)) _ | refine Ext.trans ?_ (by assumption)))) hn).mono ?_
    rintro e w1 ⟨g1, rfl, hr1, hb1⟩
    go_wp2_with (fail)
    refine (sIdleTicks_any _ n0 z0 _ (row_ints (row_ext hr1 (by repeat (first | exact Ext.refl _ | assumption | refine Ext.alloc ?_ _ | refine Ext.drew ?_ | refine Ext.drewN ?_ _ | refine Ext.setCell ?_ (by first | exact Nat.le_refl _ | (simp; done) | (dsimp only; omega) | (simp only [World.size_alloc, World.size_setCell]; omega)) _ | refine Ext.trans ?_ (by assumption)))) (by unfold maxLen; omega) hwf)).mono ?_
    rintro e w2 ⟨rfl, hb2⟩
    go_wp2_with (fail)
    refine (toLineJobS_any _ n0 z0 _ (r0.ext (by repeat (first | exact Ext.refl _ | assumption | refine Ext.alloc ?_ _ | refine Ext.drew ?_ | refine Ext.drewN ?_ _ | refine Ext.setCell ?_ (by first | exact Nat.le_refl _ | (simp; done) | (dsimp only; omega) | (simp only [World.size_alloc, World.size_setCell]; omega)) _ | refine Ext.trans ?_ (by assumption)))) hn).mono ?_
    rintro e w3 ⟨g3, rfl, hr3, hb3⟩
    go_wp2_with (fail)
    refine (iIdleTicks_any _ n0 z0 _ (row_ints (row_ext hr3 (by repeat (first | exact Ext.refl _ | assumption | refine Ext.alloc ?_ _ | refine Ext.drew ?_ | refine Ext.drewN ?_ _ | refine Ext.setCell ?_ (by first | exact Nat.le_refl _ | (simp; done) | (dsimp only; omega) | (simp only [World.size_alloc, World.size_setCell]; omega)) _ | refine Ext.trans ?_ (by assumption)))) (by unfold maxLen; omega) hwf)).mono ?_
    rintro e w4 ⟨rfl, hb4⟩
    go_wp2_with (fail)
    refine (toLineJobS_any _ n0 z0 _ (r0.ext (by repeat (first | exact Ext.refl _ | assumption | refine Ext.alloc ?_ _ | refine Ext.drew ?_ | refine Ext.drewN ?_ _ | refine Ext.setCell ?_ (by first | exact Nat.le_refl _ | (simp; done) | (dsimp only; omega) | (simp only [World.size_alloc, World.size_setCell]; omega)) _ | refine Ext.trans ?_ (by assumption)))) hn).mono ?_
    rintro e w5 ⟨g5, rfl, hr5, hb5⟩
    go_wp2_with (fail)
    refine (eqLineJobS_same _ _ n0 z0 _ (row_ints (row_ext hr3 (by repeat (first | exact Ext.refl _ | assumption | refine Ext.alloc ?_ _ | refine Ext.drew ?_ | refine Ext.drewN ?_ _ | refine Ext.setCell ?_ (by first | exact Nat.le_refl _ | (simp; done) | (dsimp only; omega) | (simp only [World.size_alloc, World.size_setCell]; omega)) _ | refine Ext.trans ?_ (by assumption)))) (by unfold maxLen; omega) hwf) (row_ints (row_ext hr5 (by repeat (first | exact Ext.refl _ | assumption | refine Ext.alloc ?_ _ | refine Ext.drew ?_ | refine Ext.drewN ?_ _ | refine Ext.setCell ?_ (by first | exact Nat.le_refl _ | (simp; done) | (dsimp only; omega) | (simp only [World.size_alloc, World.size_setCell]; omega)) _ | refine Ext.trans ?_ (by assumption)))) (by unfold maxLen; omega) hwf)).mono ?_
    rintro e w6 ⟨rfl, hb6⟩
    go_wp2_with (fail)
    go_ret
    exact ⟨rfl, (by repeat (first | exact Ext.refl _ | assumption | refine Ext.alloc ?_ _ | refine Ext.drew ?_ | refine Ext.drewN ?_ _ | refine Ext.setCell ?_ (by first | exact Nat.le_refl _ | (simp; done) | (dsimp only; omega) | (simp only [World.size_alloc, World.size_setCell]; omega)) _ | refine Ext.trans ?_ (by assumption)))⟩
  · rw [if_neg (by omega)] at hsz
    go_enter Try.func6, Try.ntmps6
    go_wp2_with (fail)
    refine hsz.mono ?_
    rintro e w' ⟨rfl, rfl⟩
    go_wp2_with (fail)
    go_ret
    exact ⟨rfl, Ext.refl _⟩

end Go.Proofs.Ytabafhmeefeioaa