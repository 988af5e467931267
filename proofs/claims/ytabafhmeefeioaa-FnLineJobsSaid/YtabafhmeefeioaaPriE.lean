/- The chapter of priorities: the job of a tick, the idle ticks. No condition. -/
import Derived.Test.YtabafhmeefeioaaPriD
namespace Go.Proofs.Ytabafhmeefeioaa
open Go.RowKit
set_option linter.unusedSimpArgs false
set_option linter.unusedVariables false

theorem ticks_length (z : List Int) (n : Nat) : (ticks z n).length = endT z n := stO_length _ _ _
theorem ticks_getD {z : List Int} {n j : Nat} (h : j < endT z n) : (ticks z n).getD j 0 = tickB z n j := by
  simp [ticks, stO, List.getD_eq_getElem?_getD, List.getElem?_eq_getElem (show j < (List.map (tickB z n) (List.range (endT z n))).length by simpa using h)]
theorem tick_range (z : List Int) (n j : Nat) : -1 ≤ tickB z n j ∧ tickB z n j < (n : Int) := by
  have := bestN_range z (stL z n j) j n
  exact ⟨this.1, this.2.1⟩
theorem ticks_wf {z : List Int} {n : Nat} (hn : n ≤ 12) : ∀ x ∈ ticks z n, (Lit.int .i64 x).wf = true := by
  intro x hx
  simp only [ticks, stO, List.mem_map] at hx
  obtain ⟨j, _, rfl⟩ := hx
  have := tick_range z n j
  simp [Lit.wf, IntKind.min, IntKind.max, IntKind.signed, IntKind.bits]
  omega
theorem row_tick {w : World} {base : Nat} {v : Value} {z : List Int} {n : Nat} {g c : Nat} (h : w.ownsRow base 3 1 v (endT z n) ((ticks z n).map (Value.int .i64))) (hv : v = .slice (some ⟨g, 0, none⟩) (endT z n) c) (j : Nat) (hj : j < endT z n) : w.cell? ⟨g, j, none⟩ = some (.int .i64 (tickB z n j)) := by
  subst hv
  rw [h.cellAt j (by omega), map_getD (by rw [ticks_length]; exact hj), ticks_getD hj]

/-- the job of a tick -/
def jobC (z : List Int) (n : Nat) (t : Int) : Bool := okJs z n && inR t 0 700 && (decide (t < endT z n) && decide (0 ≤ tickB z n t.toNat))
def jobV (z : List Int) (n : Nat) (t : Int) : Int := if jobC z n t = true then tickB z n t.toNat else 0


set_option maxHeartbeats 800000 in
theorem sJobAt_any (v : Value) (n : Nat) (z : List Int) (t : Int) (w : World) (h : IntRow .i64 3 w v n z) :
    Calls Try.prog 24 #[v, .int .i64 t] w fun e w' => e = .returned (.tuple #[.int .i64 (jobV z n t), .bool (jobC z n t)]) ∧ Ext w w' := by
  by_cases hok : okJs z n = true
  · by_cases ht : inR t 0 700 = true
    · obtain ⟨t1, t2⟩ := inR_iff.1 ht
      obtain ⟨q, rfl⟩ := Int.eq_ofNat_of_zero_le t1
      have HOK := hid hok
      have HT := hid ht
      have hT := endT_le hok
      by_cases hq : q < endT z n
      · by_cases hp : 0 ≤ tickB z n q
        · have hc : jobC z n q = true := by unfold jobC; rw [hok, ht]; simp [hq, hp]
          have HV := hid (show jobV z n q = tickB z n q by unfold jobV; rw [if_pos hc]; simp)
          rw [HV.out, hc]
          clear hc hok ht
          obtain ⟨m, hm⟩ : ∃ m, m = tickB z n q := ⟨_, rfl⟩
          rw [← hm] at hp ⊢
          have HM := hid hm
          clear hm
          go_enter Try.func24, Try.ntmps24
          go_wp2_with (fail)
          refine (prGood_any v n z w h).mono ?_
          rw [HOK.out]
          rintro e w1 ⟨rfl, hb1⟩
          go_wp2_with (first | (go_at_call 63; go_in) | (go_at_call 60; refine (l1In_any _ _ _ _).mono ?_; rw [HT.out]; rintro e w' ⟨rfl, rfl⟩))
          refine (prRun_any v n z _ (h.ext (by repeat (first | exact Ext.refl _ | assumption | refine Ext.alloc ?_ _ | refine Ext.drew ?_ | refine Ext.drewN ?_ _ | refine Ext.setCell ?_ (by first | exact Nat.le_refl _ | (simp; done) | (dsimp only; omega) | (simp only [World.size_alloc, World.size_setCell]; omega)) _ | refine Ext.trans ?_ (by assumption)))) HOK.out).mono ?_
          rintro e w2 ⟨vr, rfl, hr, hb2⟩
          obtain ⟨ar, cr, rfl, _, _, hg⟩ := row_shape hr
          obtain ⟨g, rfl, _, _⟩ := hg.resolve_left (by omega)
          have sq := row_tick hr rfl q hq
          rw [← HM.out] at sq
          go_wp2_with (fail)
          go_ret2
          exact ⟨rfl, (by repeat (first | exact Ext.refl _ | assumption | refine Ext.alloc ?_ _ | refine Ext.drew ?_ | refine Ext.drewN ?_ _ | refine Ext.setCell ?_ (by first | exact Nat.le_refl _ | (simp; done) | (dsimp only; omega) | (simp only [World.size_alloc, World.size_setCell]; omega)) _ | refine Ext.trans ?_ (by assumption)))⟩
        · have hc : jobC z n q = false := by unfold jobC; rw [hok, ht]; simp [hp]
          have HV := hid (show jobV z n q = 0 by unfold jobV; rw [if_neg (by rw [hc]; decide)])
          rw [HV.out, hc]
          clear hc hok ht
          obtain ⟨m, hm⟩ : ∃ m, m = tickB z n q := ⟨_, rfl⟩
          rw [← hm] at hp
          have HM := hid hm
          clear hm
          go_enter Try.func24, Try.ntmps24
          go_wp2_with (fail)
          refine (prGood_any v n z w h).mono ?_
          rw [HOK.out]
          rintro e w1 ⟨rfl, hb1⟩
          go_wp2_with (first | (go_at_call 63; go_in) | (go_at_call 60; refine (l1In_any _ _ _ _).mono ?_; rw [HT.out]; rintro e w' ⟨rfl, rfl⟩))
          refine (prRun_any v n z _ (h.ext (by repeat (first | exact Ext.refl _ | assumption | refine Ext.alloc ?_ _ | refine Ext.drew ?_ | refine Ext.drewN ?_ _ | refine Ext.setCell ?_ (by first | exact Nat.le_refl _ | (simp; done) | (dsimp only; omega) | (simp only [World.size_alloc, World.size_setCell]; omega)) _ | refine Ext.trans ?_ (by assumption)))) HOK.out).mono ?_
          rintro e w2 ⟨vr, rfl, hr, hb2⟩
          obtain ⟨ar, cr, rfl, _, _, hg⟩ := row_shape hr
          obtain ⟨g, rfl, _, _⟩ := hg.resolve_left (by omega)
          have sq := row_tick hr rfl q hq
          rw [← HM.out] at sq
          go_wp2_with (fail)
          go_ret2
          exact ⟨rfl, (by repeat (first | exact Ext.refl _ | assumption | refine Ext.alloc ?_ _ | refine Ext.drew ?_ | refine Ext.drewN ?_ _ | refine Ext.setCell ?_ (by first | exact Nat.le_refl _ | (simp; done) | (dsimp only; omega) | (simp only [World.size_alloc, World.size_setCell]; omega)) _ | refine Ext.trans ?_ (by assumption)))⟩
      · have hc : jobC z n q = false := by unfold jobC; rw [hok, ht]; simp [hq]
        have HV := hid (show jobV z n q = 0 by unfold jobV; rw [if_neg (by rw [hc]; decide)])
        rw [HV.out, hc]
        clear hc hok ht
        go_enter Try.func24, Try.ntmps24
        go_wp2_with (fail)
        refine (prGood_any v n z w h).mono ?_
        rw [HOK.out]
        rintro e w1 ⟨rfl, hb1⟩
        go_wp2_with (first | (go_at_call 63; go_in) | (go_at_call 60; refine (l1In_any _ _ _ _).mono ?_; rw [HT.out]; rintro e w' ⟨rfl, rfl⟩))
        refine (prRun_any v n z _ (h.ext (by repeat (first | exact Ext.refl _ | assumption | refine Ext.alloc ?_ _ | refine Ext.drew ?_ | refine Ext.drewN ?_ _ | refine Ext.setCell ?_ (by first | exact Nat.le_refl _ | (simp; done) | (dsimp only; omega) | (simp only [World.size_alloc, World.size_setCell]; omega)) _ | refine Ext.trans ?_ (by assumption)))) HOK.out).mono ?_
        rintro e w2 ⟨vr, rfl, hr, hb2⟩
        obtain ⟨ar, cr, rfl, _, _, _⟩ := row_shape hr
        go_wp2_with (fail)
        go_ret2
        exact ⟨rfl, (by repeat (first | exact Ext.refl _ | assumption | refine Ext.alloc ?_ _ | refine Ext.drew ?_ | refine Ext.drewN ?_ _ | refine Ext.setCell ?_ (by first | exact Nat.le_refl _ | (simp; done) | (dsimp only; omega) | (simp only [World.size_alloc, World.size_setCell]; omega)) _ | refine Ext.trans ?_ (by assumption)))⟩
    · have ht : inR t 0 700 = false := by simpa using ht
      have hc : jobC z n t = false := by unfold jobC; rw [ht]; simp
      have HV := hid (show jobV z n t = 0 by unfold jobV; rw [if_neg (by rw [hc]; decide)])
      have HOK := hid hok
      have HT := hid ht
      rw [HV.out, hc]
      clear hc hok ht
      go_enter Try.func24, Try.ntmps24
      go_wp2_with (fail)
      refine (prGood_any v n z w h).mono ?_
      rw [HOK.out]
      rintro e w1 ⟨rfl, hb1⟩
      go_wp2_with (first | (go_at_call 63; go_in) | (go_at_call 60; refine (l1In_any _ _ _ _).mono ?_; rw [HT.out]; rintro e w' ⟨rfl, rfl⟩))
      go_ret2
      exact ⟨rfl, (by repeat (first | exact Ext.refl _ | assumption | refine Ext.alloc ?_ _ | refine Ext.drew ?_ | refine Ext.drewN ?_ _ | refine Ext.setCell ?_ (by first | exact Nat.le_refl _ | (simp; done) | (dsimp only; omega) | (simp only [World.size_alloc, World.size_setCell]; omega)) _ | refine Ext.trans ?_ (by assumption)))⟩
  · have hok : okJs z n = false := by simpa using hok
    have hc : jobC z n t = false := by unfold jobC; rw [hok]; simp
    have HV := hid (show jobV z n t = 0 by unfold jobV; rw [if_neg (by rw [hc]; decide)])
    have HOK := hid hok
    rw [HV.out, hc]
    clear hc hok
    go_enter Try.func24, Try.ntmps24
    go_wp2_with (fail)
    refine (prGood_any v n z w h).mono ?_
    rw [HOK.out]
    rintro e w1 ⟨rfl, hb1⟩
    go_wp2_with (fail)
    go_ret2
    exact ⟨rfl, (by repeat (first | exact Ext.refl _ | assumption | refine Ext.alloc ?_ _ | refine Ext.drew ?_ | refine Ext.drewN ?_ _ | refine Ext.setCell ?_ (by first | exact Nat.le_refl _ | (simp; done) | (dsimp only; omega) | (simp only [World.size_alloc, World.size_setCell]; omega)) _ | refine Ext.trans ?_ (by assumption)))⟩


set_option maxHeartbeats 800000 in
theorem iJobAt_any (v : Value) (n : Nat) (z : List Int) (t : Int) (w : World) (h : IntRow .i64 3 w v n z) :
    Calls Try.prog 25 #[v, .int .i64 t] w fun e w' => e = .returned (.tuple #[.int .i64 (jobV z n t), .bool (jobC z n t)]) ∧ Ext w w' := by
  by_cases hok : okJs z n = true
  · by_cases ht : inR t 0 700 = true
    · obtain ⟨t1, t2⟩ := inR_iff.1 ht
      obtain ⟨q, rfl⟩ := Int.eq_ofNat_of_zero_le t1
      have HOK := hid hok
      have HT := hid ht
      have hT := endT_le hok
      by_cases hq : q < endT z n
      · by_cases hp : 0 ≤ tickB z n q
        · have hc : jobC z n q = true := by unfold jobC; rw [hok, ht]; simp [hq, hp]
          have HV := hid (show jobV z n q = tickB z n q by unfold jobV; rw [if_pos hc]; simp)
          rw [HV.out, hc]
          clear hc hok ht
          obtain ⟨m, hm⟩ : ∃ m, m = tickB z n q := ⟨_, rfl⟩
          rw [← hm] at hp ⊢
          have HM := hid hm
          clear hm
          go_enter Try.func25, Try.ntmps25
          go_wp2_with (fail)
          refine (iAreLineJobs_any v n z w h).mono ?_
          rw [HOK.out]
          rintro e w1 ⟨rfl, hb1⟩
          go_wp2_with (first | (go_at_call 57; refine (within_any _ _ _ _).mono ?_; rw [HT.out]; rintro e w' ⟨rfl, rfl⟩))
          refine (sentTicks_any v n z _ (h.ext (by repeat (first | exact Ext.refl _ | assumption | refine Ext.alloc ?_ _ | refine Ext.drew ?_ | refine Ext.drewN ?_ _ | refine Ext.setCell ?_ (by first | exact Nat.le_refl _ | (simp; done) | (dsimp only; omega) | (simp only [World.size_alloc, World.size_setCell]; omega)) _ | refine Ext.trans ?_ (by assumption)))) HOK.out).mono ?_
          rintro e w2 ⟨vr, rfl, hr, hb2⟩
          obtain ⟨ar, cr, rfl, _, _, hg⟩ := row_shape hr
          obtain ⟨g, rfl, _, _⟩ := hg.resolve_left (by omega)
          have sq := row_tick hr rfl q hq
          rw [← HM.out] at sq
          go_wp2_with (fail)
          go_ret2
          exact ⟨rfl, (by repeat (first | exact Ext.refl _ | assumption | refine Ext.alloc ?_ _ | refine Ext.drew ?_ | refine Ext.drewN ?_ _ | refine Ext.setCell ?_ (by first | exact Nat.le_refl _ | (simp; done) | (dsimp only; omega) | (simp only [World.size_alloc, World.size_setCell]; omega)) _ | refine Ext.trans ?_ (by assumption)))⟩
        · have hc : jobC z n q = false := by unfold jobC; rw [hok, ht]; simp [hp]
          have HV := hid (show jobV z n q = 0 by unfold jobV; rw [if_neg (by rw [hc]; decide)])
          rw [HV.out, hc]
          clear hc hok ht
          obtain ⟨m, hm⟩ : ∃ m, m = tickB z n q := ⟨_, rfl⟩
          rw [← hm] at hp
          have HM := hid hm
          clear hm
          go_enter Try.func25, Try.ntmps25
          go_wp2_with (fail)
          refine (iAreLineJobs_any v n z w h).mono ?_
          rw [HOK.out]
          rintro e w1 ⟨rfl, hb1⟩
          go_wp2_with (first | (go_at_call 57; refine (within_any _ _ _ _).mono ?_; rw [HT.out]; rintro e w' ⟨rfl, rfl⟩))
          refine (sentTicks_any v n z _ (h.ext (by repeat (first | exact Ext.refl _ | assumption | refine Ext.alloc ?_ _ | refine Ext.drew ?_ | refine Ext.drewN ?_ _ | refine Ext.setCell ?_ (by first | exact Nat.le_refl _ | (simp; done) | (dsimp only; omega) | (simp only [World.size_alloc, World.size_setCell]; omega)) _ | refine Ext.trans ?_ (by assumption)))) HOK.out).mono ?_
          rintro e w2 ⟨vr, rfl, hr, hb2⟩
          obtain ⟨ar, cr, rfl, _, _, hg⟩ := row_shape hr
          obtain ⟨g, rfl, _, _⟩ := hg.resolve_left (by omega)
          have sq := row_tick hr rfl q hq
          rw [← HM.out] at sq
          go_wp2_with (fail)
          go_ret2
          exact ⟨rfl, (by repeat (first | exact Ext.refl _ | assumption | refine Ext.alloc ?_ _ | refine Ext.drew ?_ | refine Ext.drewN ?_ _ | refine Ext.setCell ?_ (by first | exact Nat.le_refl _ | (simp; done) | (dsimp only; omega) | (simp only [World.size_alloc, World.size_setCell]; omega)) _ | refine Ext.trans ?_ (by assumption)))⟩
      · have hc : jobC z n q = false := by unfold jobC; rw [hok, ht]; simp [hq]
        have HV := hid (show jobV z n q = 0 by unfold jobV; rw [if_neg (by rw [hc]; decide)])
        rw [HV.out, hc]
        clear hc hok ht
        go_enter Try.func25, Try.ntmps25
        go_wp2_with (fail)
        refine (iAreLineJobs_any v n z w h).mono ?_
        rw [HOK.out]
        rintro e w1 ⟨rfl, hb1⟩
        go_wp2_with (first | (go_at_call 57; refine (within_any _ _ _ _).mono ?_; rw [HT.out]; rintro e w' ⟨rfl, rfl⟩))
        refine (sentTicks_any v n z _ (h.ext (by repeat (first | exact Ext.refl _ | assumption | refine Ext.alloc ?_ _ | refine Ext.drew ?_ | refine Ext.drewN ?_ _ | refine Ext.setCell ?_ (by first | exact Nat.le_refl _ | (simp; done) | (dsimp only; omega) | (simp only [World.size_alloc, World.size_setCell]; omega)) _ | refine Ext.trans ?_ (by assumption)))) HOK.out).mono ?_
        rintro e w2 ⟨vr, rfl, hr, hb2⟩
        obtain ⟨ar, cr, rfl, _, _, _⟩ := row_shape hr
        go_wp2_with (fail)
        go_ret2
        exact ⟨rfl, (by repeat (first | exact Ext.refl _ | assumption | refine Ext.alloc ?_ _ | refine Ext.drew ?_ | refine Ext.drewN ?_ _ | refine Ext.setCell ?_ (by first | exact Nat.le_refl _ | (simp; done) | (dsimp only; omega) | (simp only [World.size_alloc, World.size_setCell]; omega)) _ | refine Ext.trans ?_ (by assumption)))⟩
    · have ht : inR t 0 700 = false := by simpa using ht
      have hc : jobC z n t = false := by unfold jobC; rw [ht]; simp
      have HV := hid (show jobV z n t = 0 by unfold jobV; rw [if_neg (by rw [hc]; decide)])
      have HOK := hid hok
      have HT := hid ht
      rw [HV.out, hc]
      clear hc hok ht
      go_enter Try.func25, Try.ntmps25
      go_wp2_with (fail)
      refine (iAreLineJobs_any v n z w h).mono ?_
      rw [HOK.out]
      rintro e w1 ⟨rfl, hb1⟩
      go_wp2_with (first | (go_at_call 57; refine (within_any _ _ _ _).mono ?_; rw [HT.out]; rintro e w' ⟨rfl, rfl⟩))
      go_ret2
      exact ⟨rfl, (by repeat (first | exact Ext.refl _ | assumption | refine Ext.alloc ?_ _ | refine Ext.drew ?_ | refine Ext.drewN ?_ _ | refine Ext.setCell ?_ (by first | exact Nat.le_refl _ | (simp; done) | (dsimp only; omega) | (simp only [World.size_alloc, World.size_setCell]; omega)) _ | refine Ext.trans ?_ (by assumption)))⟩
  · have hok : okJs z n = false := by simpa using hok
    have hc : jobC z n t = false := by unfold jobC; rw [hok]; simp
    have HV := hid (show jobV z n t = 0 by unfold jobV; rw [if_neg (by rw [hc]; decide)])
    have HOK := hid hok
    rw [HV.out, hc]
    clear hc hok
    go_enter Try.func25, Try.ntmps25
    go_wp2_with (fail)
    refine (iAreLineJobs_any v n z w h).mono ?_
    rw [HOK.out]
    rintro e w1 ⟨rfl, hb1⟩
    go_wp2_with (fail)
    go_ret2
    exact ⟨rfl, (by repeat (first | exact Ext.refl _ | assumption | refine Ext.alloc ?_ _ | refine Ext.drew ?_ | refine Ext.drewN ?_ _ | refine Ext.setCell ?_ (by first | exact Nat.le_refl _ | (simp; done) | (dsimp only; omega) | (simp only [World.size_alloc, World.size_setCell]; omega)) _ | refine Ext.trans ?_ (by assumption)))⟩


set_option maxHeartbeats 2000000 in
theorem walkFnExactJobAt (v0 : Value) (n0 : Nat) (z0 : List Int) (a1 : Int) (w : World) (r0 : IntRow .i64 3 w v0 n0 z0) (_ : (Lit.int .i64 a1).wf = true) :
    Calls Try.prog 5 #[v0, .int .i64 a1] w fun e w' => e = .returned (.bool true) ∧ Ext w w' := by
  have hsz := szLineJobS_any v0 n0 z0 w 1048576 r0 (by omega) (by omega)
  by_cases hn : n0 ≤ 1048576
  · rw [if_pos (by omega)] at hsz
    have hwf := r0.2.2.1
    go_enter Try.func5, Try.ntmps5
    go_wp2_with (fail)
    refine hsz.mono ?_
    rintro e w' ⟨rfl, rfl⟩
    go_wp2_with (fail)
    refine (toLineJobS_any _ n0 z0 _ (r0.ext (by repeat (first | exact Ext.refl _ | assumption | refine Ext.alloc ?_ _ | refine Ext.drew ?_ | refine Ext.drewN ?_ _ | refine Ext.setCell ?_ (by first | exact Nat.le_refl _ | (simp; done) | (dsimp only; omega) | (simp only [World.size_alloc, World.size_setCell]; omega)) _ | refine Ext.trans ?_ (by assumption)))) hn).mono ?_
    rintro e w1 ⟨g1, rfl, hr1, hb1⟩
    go_wp2_with (fail)
    refine (sJobAt_any _ n0 z0 a1 _ (row_ints (row_ext hr1 (by repeat (first | exact Ext.refl _ | assumption | refine Ext.alloc ?_ _ | refine Ext.drew ?_ | refine Ext.drewN ?_ _ | refine Ext.setCell ?_ (by first | exact Nat.le_refl _ | (simp; done) | (dsimp only; omega) | (simp only [World.size_alloc, World.size_setCell]; omega)) _ | refine Ext.trans ?_ (by assumption)))) (by unfold maxLen; omega) hwf)).mono ?_
    rintro e w2 ⟨rfl, hb2⟩
    go_wp2_with (fail)
    refine (toLineJobS_any _ n0 z0 _ (r0.ext (by repeat (first | exact Ext.refl _ | assumption | refine Ext.alloc ?_ _ | refine Ext.drew ?_ | refine Ext.drewN ?_ _ | refine Ext.setCell ?_ (by first | exact Nat.le_refl _ | (simp; done) | (dsimp only; omega) | (simp only [World.size_alloc, World.size_setCell]; omega)) _ | refine Ext.trans ?_ (by assumption)))) hn).mono ?_
    rintro e w3 ⟨g3, rfl, hr3, hb3⟩
    go_wp2_with (fail)
    refine (iJobAt_any _ n0 z0 a1 _ (row_ints (row_ext hr3 (by repeat (first | exact Ext.refl _ | assumption | refine Ext.alloc ?_ _ | refine Ext.drew ?_ | refine Ext.drewN ?_ _ | refine Ext.setCell ?_ (by first | exact Nat.le_refl _ | (simp; done) | (dsimp only; omega) | (simp only [World.size_alloc, World.size_setCell]; omega)) _ | refine Ext.trans ?_ (by assumption)))) (by unfold maxLen; omega) hwf)).mono ?_
    rintro e w4 ⟨rfl, hb4⟩
    go_wp2_with (fail)
    refine (toLineJobS_any _ n0 z0 _ (r0.ext (by repeat (first | exact Ext.refl _ | assumption | refine Ext.alloc ?_ _ | refine Ext.drew ?_ | refine Ext.drewN ?_ _ | refine Ext.setCell ?_ (by first | exact Nat.le_refl _ | (simp; done) | (dsimp only; omega) | (simp only [World.size_alloc, World.size_setCell]; omega)) _ | refine Ext.trans ?_ (by assumption)))) hn).mono ?_
    rintro e w5 ⟨g5, rfl, hr5, hb5⟩
    go_wp2_with (fail)
    refine (eqLineJobS_same _ _ n0 z0 _ (row_ints (row_ext hr3 (by repeat (first | exact Ext.refl _ | assumption | refine Ext.alloc ?_ _ | refine Ext.drew ?_ | refine Ext.drewN ?_ _ | refine Ext.setCell ?_ (by first | exact Nat.le_refl _ | (simp; done) | (dsimp only; omega) | (simp only [World.size_alloc, World.size_setCell]; omega)) _ | refine Ext.trans ?_ (by assumption)))) (by unfold maxLen; omega) hwf) (row_ints (row_ext hr5 (by repeat (first | exact Ext.refl _ | assumption | refine Ext.alloc ?_ _ | refine Ext.drew ?_ | refine Ext.drewN ?_ _ | refine Ext.setCell ?_ (by first | exact Nat.le_refl _ | (simp; done) | (dsimp only; omega) | (simp only [World.size_alloc, World.size_setCell]; omega)) _ | refine Ext.trans ?_ (by assumption)))) (by unfold maxLen; omega) hwf)).mono ?_
    rintro e w6 ⟨rfl, hb6⟩
    go_wp2_with (fail)
    go_ret
    exact ⟨rfl, (by repeat (first | exact Ext.refl _ | assumption | refine Ext.alloc ?_ _ | refine Ext.drew ?_ | refine Ext.drewN ?_ _ | refine Ext.setCell ?_ (by first | exact Nat.le_refl _ | (simp; done) | (dsimp only; omega) | (simp only [World.size_alloc, World.size_setCell]; omega)) _ | refine Ext.trans ?_ (by assumption)))⟩
  · rw [if_neg (by omega)] at hsz
    go_enter Try.func5, Try.ntmps5
    go_wp2_with (fail)
    refine hsz.mono ?_
    rintro e w' ⟨rfl, rfl⟩
    go_wp2_with (fail)
    go_ret
    exact ⟨rfl, Ext.refl _⟩

end Go.Proofs.Ytabafhmeefeioaa