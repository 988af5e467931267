/- The chapter of shifts: shifts are valid: the program's and the reference's test. No condition. -/
import Derived.Test.YtedkffdkhnfoiaaDoorShfA
namespace Go.Proofs.YtedkffdkhnfoiaaDoor
open Go.RowKit
set_option linter.unusedSimpArgs false
set_option linter.unusedVariables false

set_option maxHeartbeats 400000 in
theorem shOperator_any (n : Int) (w : World) : Calls Tryd.prog 33 #[.int .i64 n] w fun e w' => e = .returned (.bool (inR n 1 30)) ∧ w = w' := by
  go_enter Tryd.func33, Tryd.ntmps33
  go_wp2_with (fail)
  refine (l1In_any _ _ _ _).mono ?_
  rintro e w' ⟨rfl, rfl⟩
  go_wp2_with (fail)
  go_ret
  exact ⟨rfl, rfl⟩
set_option maxHeartbeats 400000 in
theorem isOperator_any (n : Int) (w : World) : Calls Tryd.prog 31 #[.int .i64 n] w fun e w' => e = .returned (.bool (inR n 1 30)) ∧ w = w' := by
  go_enter Tryd.func31, Tryd.ntmps31
  go_wp2_with (fail)
  refine (within_any _ _ _ _).mono ?_
  rintro e w' ⟨rfl, rfl⟩
  go_wp2_with (fail)
  go_ret
  exact ⟨rfl, rfl⟩
set_option maxHeartbeats 400000 in
theorem shHour_any (n : Int) (w : World) : Calls Tryd.prog 41 #[.int .i64 n] w fun e w' => e = .returned (.bool (inR n 0 167)) ∧ w = w' := by
  go_enter Tryd.func41, Tryd.ntmps41
  go_wp2_with (fail)
  refine (l1In_any _ _ _ _).mono ?_
  rintro e w' ⟨rfl, rfl⟩
  go_wp2_with (fail)
  go_ret
  exact ⟨rfl, rfl⟩


set_option maxRecDepth 100000 in
set_option maxHeartbeats 4000000 in
theorem iAreShifts_any (v : Value) (n : Nat) (z : List Int) (w : World) (h : IntRow .i64 3 w v n z) :
    Calls Tryd.prog 24 #[v] w fun e w' => e = .returned (.bool (okSs z n)) ∧ Ext w w' := by
  obtain ⟨hl, hm, hwf, a, c, rfl, hnc, hcm, hcell⟩ := h
  unfold maxLen at hm
  by_cases hn : (n : Int) ≤ 60
  · go_enter Tryd.func24, Tryd.ntmps24
    go_wp2_with (fail)
    go_loopw [10] (fun i wr => ∃ (k : Nat), k ≤ n ∧ i = .int .i64 (k : Int) ∧ (∀ j, j < k → shAt z j = true) ∧ Ext w wr)
      (fun i _ => n - (intOf i).toNat)
    case atStart => exact ⟨0, Nat.zero_le _, rfl, fun j hj => absurd hj (by omega), Ext.refl _⟩
    case round =>
      obtain ⟨k, hk, rfl, hall, hE⟩ := hrel
      have HA := hid hall
      clear hall
      by_cases hlt : k < n
      · obtain ⟨b, o, rfl, hb, hc⟩ := hcell.resolve_left (by omega)
        obtain ⟨x0, hx0⟩ : ∃ x, x = z.getD (k * 3) 0 := ⟨_, rfl⟩
        have s0 : wr.cell? ⟨b, o + k * 3, none⟩ = some (.int .i64 x0) := by rw [(Ext.cells hE).1 _ _ hb, show o + k * 3 = o + (k * 3) by omega, hc _ (by omega), hx0]
        have H0 := hid hx0
        clear hx0
        obtain ⟨x1, hx1⟩ : ∃ x, x = z.getD (k * 3 + 1) 0 := ⟨_, rfl⟩
        have s1 : wr.cell? ⟨b, o + k * 3 + 1, none⟩ = some (.int .i64 x1) := by rw [(Ext.cells hE).1 _ _ hb, show o + k * 3 + 1 = o + (k * 3 + 1) by omega, hc _ (by omega), hx1]
        have H1 := hid hx1
        clear hx1
        obtain ⟨x2, hx2⟩ : ∃ x, x = z.getD (k * 3 + 2) 0 := ⟨_, rfl⟩
        have s2 : wr.cell? ⟨b, o + k * 3 + 2, none⟩ = some (.int .i64 x2) := by rw [(Ext.cells hE).1 _ _ hb, show o + k * 3 + 2 = o + (k * 3 + 2) by omega, hc _ (by omega), hx2]
        have H2 := hid hx2
        clear hx2
        have hbr : b < wr.heap.size := Nat.lt_of_lt_of_le hb hE.size
        have hc2 : ∀ j, j < n * 3 → wr.cell? ⟨b, o + j, none⟩ = some (.int .i64 (z.getD j 0)) := fun j hj => by rw [(Ext.cells hE).1 _ _ hb]; exact hc j hj
        have HPRE := hid (fun (wy : World) (hy : Ext wr wy) => row_take (w := wy) (i := k) hl hwf (by omega) hnc hcm (Nat.lt_of_lt_of_le hbr hy.size) (fun j hj => by rw [(Ext.cells hy).1 _ _ hbr]; exact hc2 j hj))
        obtain ⟨q0, hq0⟩ : ∃ x, x = shOp z (k - 1) := ⟨_, rfl⟩
        obtain ⟨q1, hq1⟩ : ∃ x, x = shFr z (k - 1) := ⟨_, rfl⟩
        obtain ⟨q2, hq2⟩ : ∃ x, x = shTo z (k - 1) := ⟨_, rfl⟩
        have H : Hid (shAt z k = (shOne x0 x1 x2 && ((decide (k = 0) || befB q0 q1 x0 x1) && allB (fun j => !conB x0 x1 (shOp z j) (shTo z j)) k))) := hid (by rw [hq0, hq1, H0.out, H1.out, H2.out]; rfl)
        have v0 : wr.cell? ⟨b, o + (k - 1) * 3, none⟩ = some (.int .i64 q0) := by rw [hc2 _ (by omega), hq0]; rfl
        have v1 : wr.cell? ⟨b, o + (k - 1) * 3 + 1, none⟩ = some (.int .i64 q1) := by rw [show o + (k - 1) * 3 + 1 = o + ((k - 1) * 3 + 1) by omega, hc2 _ (by omega), hq1]; rfl
        have v2 : wr.cell? ⟨b, o + (k - 1) * 3 + 2, none⟩ = some (.int .i64 q2) := by rw [show o + (k - 1) * 3 + 2 = o + ((k - 1) * 3 + 2) by omega, hc2 _ (by omega), hq2]; rfl
        clear hq0 hq1 hq2 hc hcell hwf
        have HC2 := hid hc2
        clear hc2
        go_wp2_with (fail)
        have hEx : Ext w (wr.alloc (.cells #[.int .i64 x0, .int .i64 x1, .int .i64 x2] 42)) := hE.alloc _
        have hxs : wr.heap.size < (wr.alloc (.cells #[.int .i64 x0, .int .i64 x1, .int .i64 x2] 42)).heap.size := by simp
        have p0 : (wr.alloc (.cells #[.int .i64 x0, .int .i64 x1, .int .i64 x2] 42)).cell? ⟨wr.heap.size, 0, none⟩ = some (.int .i64 x0) := by simp [go_sem]
        have p1 : (wr.alloc (.cells #[.int .i64 x0, .int .i64 x1, .int .i64 x2] 42)).cell? ⟨wr.heap.size, 1, none⟩ = some (.int .i64 x1) := by simp [go_sem]
        have p2 : (wr.alloc (.cells #[.int .i64 x0, .int .i64 x1, .int .i64 x2] 42)).cell? ⟨wr.heap.size, 2, none⟩ = some (.int .i64 x2) := by simp [go_sem]
        have y0 : (wr.alloc (.cells #[.int .i64 x0, .int .i64 x1, .int .i64 x2] 42)).cell? ⟨b, o + (k - 1) * 3, none⟩ = some (.int .i64 q0) := by simp [go_sem, *]
        have y1 : (wr.alloc (.cells #[.int .i64 x0, .int .i64 x1, .int .i64 x2] 42)).cell? ⟨b, o + (k - 1) * 3 + 1, none⟩ = some (.int .i64 q1) := by simp [go_sem, *]
        have y2 : (wr.alloc (.cells #[.int .i64 x0, .int .i64 x1, .int .i64 x2] 42)).cell? ⟨b, o + (k - 1) * 3 + 2, none⟩ = some (.int .i64 q2) := by simp [go_sem, *]
        have HCX := hid (fun (j : Nat) (hj : j < n * 3) => show (wr.alloc (.cells #[.int .i64 x0, .int .i64 x1, .int .i64 x2] 42)).cell? ⟨b, o + j, none⟩ = some (.int .i64 (z.getD j 0)) by rw [(Ext.cells ((Ext.refl wr).alloc _)).1 _ _ hbr, HC2.out j hj])
        have HBX : Hid (b < (wr.alloc (.cells #[.int .i64 x0, .int .i64 x1, .int .i64 x2] 42)).heap.size) := hid (by simp; omega)
        have HP2 := hid (HPRE.out (wr.alloc (.cells #[.int .i64 x0, .int .i64 x1, .int .i64 x2] 42)) ((Ext.refl _).alloc _))
        generalize wr.alloc (.cells #[.int .i64 x0, .int .i64 x1, .int .i64 x2] 42) = wx at *
        obtain ⟨gx, hgx⟩ : ∃ g, g = wr.heap.size := ⟨_, rfl⟩
        rw [← hgx] at p0 p1 p2 hxs ⊢
        clear s0 s1 s2 hgx hE
        clear v0 v1 v2 HPRE hbr HC2
        cases hA : inR x0 1 30 with
        | false =>
          have _u := hA
          go_wp2_with (fail)
          go_quiet ((go_at_call 39; exact quiet_same (within_any _ _ _ _)))
          go_wp2_with (fail)
          go_ret
          refine ⟨ret_bool ?_, (by repeat (first | exact Ext.refl _ | assumption | refine Ext.alloc ?_ _ | refine Ext.drew ?_ | refine Ext.drewN ?_ _ | refine Ext.setCell ?_ (by first | exact Nat.le_refl _ | (simp; done) | (dsimp only; omega) | (simp only [World.size_alloc, World.size_setCell]; omega)) _ | refine Ext.trans ?_ (by assumption)))⟩
          unfold okSs
          rw [allB_f hlt (by rw [H.out]; simp [shOne, hA]), Bool.and_false]
        | true =>
          by_cases hB : x1 < 0
          · have hB2 : decide (x1 < 0) = true := by simpa using hB
            go_wp2_with (fail)
            go_quiet ((go_at_call 39; exact quiet_same (within_any _ _ _ _)))
            go_wp2_with (fail)
            go_ret
            refine ⟨ret_bool ?_, (by repeat (first | exact Ext.refl _ | assumption | refine Ext.alloc ?_ _ | refine Ext.drew ?_ | refine Ext.drewN ?_ _ | refine Ext.setCell ?_ (by first | exact Nat.le_refl _ | (simp; done) | (dsimp only; omega) | (simp only [World.size_alloc, World.size_setCell]; omega)) _ | refine Ext.trans ?_ (by assumption)))⟩
            unfold okSs
            rw [allB_f hlt (by rw [H.out]; simp [shOne]; omega), Bool.and_false]
          · have hB2 : decide (x1 < 0) = false := by simpa using hB
            by_cases hC : x2 ≤ x1
            · have hC2 : decide (x2 ≤ x1) = true := by simpa using hC
              go_wp2_with (fail)
              go_quiet ((go_at_call 39; exact quiet_same (within_any _ _ _ _)))
              go_wp2_with (fail)
              go_ret
              refine ⟨ret_bool ?_, (by repeat (first | exact Ext.refl _ | assumption | refine Ext.alloc ?_ _ | refine Ext.drew ?_ | refine Ext.drewN ?_ _ | refine Ext.setCell ?_ (by first | exact Nat.le_refl _ | (simp; done) | (dsimp only; omega) | (simp only [World.size_alloc, World.size_setCell]; omega)) _ | refine Ext.trans ?_ (by assumption)))⟩
              unfold okSs
              rw [allB_f hlt (by rw [H.out]; simp [shOne]; omega), Bool.and_false]
            · have hC2 : decide (x2 ≤ x1) = false := by simpa using hC
              by_cases hD : 168 < x2
              · have hD2 : decide (168 < x2) = true := by simpa using hD
                go_wp2_with (fail)
                go_quiet ((go_at_call 39; exact quiet_same (within_any _ _ _ _)))
                go_wp2_with (fail)
                go_ret
                refine ⟨ret_bool ?_, (by repeat (first | exact Ext.refl _ | assumption | refine Ext.alloc ?_ _ | refine Ext.drew ?_ | refine Ext.drewN ?_ _ | refine Ext.setCell ?_ (by first | exact Nat.le_refl _ | (simp; done) | (dsimp only; omega) | (simp only [World.size_alloc, World.size_setCell]; omega)) _ | refine Ext.trans ?_ (by assumption)))⟩
                unfold okSs
                rw [allB_f hlt (by rw [H.out]; simp [shOne]; omega), Bool.and_false]
              · have hD2 : decide (168 < x2) = false := by simpa using hD
                have hone : shOne x0 x1 x2 = true := by unfold shOne; rw [hA]; simp; omega
                have HO := hid hone
                clear hone
                by_cases hk0 : k = 0
                · have HKF : Hid ((decide (k = 0) || befB q0 q1 x0 x1) = true) := hid (by rw [hk0]; rfl)
                  have hkz : (k : Int) ≤ 0 := by omega
                  have hkz2 : decide (0 < k) = false := by simp; omega
                  clear hk0
                  go_wp2_with (fail)
                  go_quiet ((go_at_call 39; exact quiet_same (within_any _ _ _ _)))
                  rename_i nq
                  go_wp2_with (fail)
                  have hEw5 : Ext wx (wx.drewN nq) := ((Ext.refl _).drewN _)
                  have m0 : (wx.drewN nq).cell? ⟨gx, 0, none⟩ = some (.int .i64 x0) := by rw [(Ext.cells hEw5).1 _ _ hxs, p0]
                  have m1 : (wx.drewN nq).cell? ⟨gx, 1, none⟩ = some (.int .i64 x1) := by rw [(Ext.cells hEw5).1 _ _ hxs, p1]
                  refine (shContains_any _ k (z.take (k * 3)) gx x0 x1 _ (HP2.out.ext hEw5) m0 m1 (Nat.lt_of_lt_of_le hxs hEw5.size)).mono ?_
                  rw [show allB (fun i => !conB x0 x1 (shOp (z.take (k * 3)) i) (shTo (z.take (k * 3)) i)) k = allB (fun i => !conB x0 x1 (shOp z i) (shTo z i)) k from allB_congr fun j hj => by rw [(take_at hj).1, (take_at hj).2.2]]
                  cases hcon : allB (fun i => !conB x0 x1 (shOp z i) (shTo z i)) k with
                  | true =>
                    rintro e w6 ⟨rfl, hb6⟩
                    go_wp2_with (fail)
                    go_roundw
                    case rel =>
                      refine ⟨k + 1, by omega, by go_num, fun j hj => ?_, (by repeat (first | exact Ext.refl _ | assumption | refine Ext.alloc ?_ _ | refine Ext.drew ?_ | refine Ext.drewN ?_ _ | refine Ext.setCell ?_ (by first | exact Nat.le_refl _ | (simp; done) | (dsimp only; omega) | (simp only [World.size_alloc, World.size_setCell]; omega)) _ | refine Ext.trans ?_ (by assumption)))⟩
                      by_cases e : j = k
                      · subst e
                        rw [H.out, HO.out, hcon, HKF.out]
                        rfl
                      · exact HA.out j (by omega)
                    case measure => simp [intOf]; omega
                  | false =>
                    rintro e w6 ⟨rfl, hb6⟩
                    go_wp2_with (fail)
                    go_ret
                    refine ⟨ret_bool ?_, (by repeat (first | exact Ext.refl _ | assumption | refine Ext.alloc ?_ _ | refine Ext.drew ?_ | refine Ext.drewN ?_ _ | refine Ext.setCell ?_ (by first | exact Nat.le_refl _ | (simp; done) | (dsimp only; omega) | (simp only [World.size_alloc, World.size_setCell]; omega)) _ | refine Ext.trans ?_ (by assumption)))⟩
                    unfold okSs
                    rw [allB_f hlt (by rw [H.out, hcon, Bool.and_false, Bool.and_false]), Bool.and_false]
                · have hk1 : 1 ≤ k := by omega
                  have hk2 : decide (0 < k) = true := by simp; omega
                  have hkf : decide (k = 0) = false := by simpa using hk0
                  clear hk0
                  cases hbef : befB q0 q1 x0 x1 with
                  | false =>
                    have hcs := cmpS_bef q0 q1 x0 x1
                    rw [hbef] at hcs
                    simp only [Bool.not_false] at hcs
                    have hs1 : IntKind.i64.wrap ((k : Int) - 1) = (k : Int) - 1 := IntWalk.i64_in _ (by omega)
                    have hs2 : ((k : Int) - 1).toNat = k - 1 := by omega
                    have hs3 : (1 : Int) ≤ (k : Int) := by omega
                    have hs4 : (k : Int) - 1 < n := by omega
                    have hs5 : k - 1 < n := by omega
                    refine wp_region_still_tail 31 (by kernel_rfl) (by kernel_rfl) ?_
                    simp only [List.take_succ_cons, List.take_zero, List.drop_succ_cons, List.drop_zero]
                    repeat (first | still_step | (still_call ((within_any _ _ _ _).mono fun _ _ h => ⟨h.1, h.2.symm⟩)))
                    try refine wpStill_nil ?_
                    clear hs1 hs2 hs3 hs4 hs5
                    change wpList _ _ _ _ _ wx.drew
                    have hEy : Ext wx wx.drew := (Ext.refl _).drew
                    generalize wx.drew = wy at *
                    go_wp2_with (fail)
                    refine (compareShifts_any _ _ _ _ _ _ _).mono ?_
                    rintro e w5 ⟨rfl, hb5⟩
                    go_wp2_with (fail)
                    go_ret
                    refine ⟨ret_bool ?_, (by repeat (first | exact Ext.refl _ | assumption | refine Ext.alloc ?_ _ | refine Ext.drew ?_ | refine Ext.drewN ?_ _ | refine Ext.setCell ?_ (by first | exact Nat.le_refl _ | (simp; done) | (dsimp only; omega) | (simp only [World.size_alloc, World.size_setCell]; omega)) _ | refine Ext.trans ?_ (by assumption)))⟩
                    unfold okSs
                    rw [allB_f hlt (by rw [H.out]; rw [hkf, hbef]; simp), Bool.and_false]
                  | true =>
                    have HKF : Hid ((decide (k = 0) || befB q0 q1 x0 x1) = true) := hid (by rw [hbef, Bool.or_true])
                    have hcs := cmpS_bef q0 q1 x0 x1
                    rw [hbef] at hcs
                    simp only [Bool.not_true] at hcs
                    have hs1 : IntKind.i64.wrap ((k : Int) - 1) = (k : Int) - 1 := IntWalk.i64_in _ (by omega)
                    have hs2 : ((k : Int) - 1).toNat = k - 1 := by omega
                    have hs3 : (1 : Int) ≤ (k : Int) := by omega
                    have hs4 : (k : Int) - 1 < n := by omega
                    have hs5 : k - 1 < n := by omega
                    refine wp_region_still_tail 31 (by kernel_rfl) (by kernel_rfl) ?_
                    simp only [List.take_succ_cons, List.take_zero, List.drop_succ_cons, List.drop_zero]
                    repeat (first | still_step | (still_call ((within_any _ _ _ _).mono fun _ _ h => ⟨h.1, h.2.symm⟩)))
                    try refine wpStill_nil ?_
                    clear hs1 hs2 hs3 hs4 hs5
                    change wpList _ _ _ _ _ wx.drew
                    have hEy : Ext wx wx.drew := (Ext.refl _).drew
                    generalize wx.drew = wy at *
                    go_wp2_with (fail)
                    refine (compareShifts_any _ _ _ _ _ _ _).mono ?_
                    rintro e w5 ⟨rfl, hb5⟩
                    go_wp2_with (fail)
                    have hEw5 : Ext wx w5 := (hEy.trans hb5)
                    have m0 : w5.cell? ⟨gx, 0, none⟩ = some (.int .i64 x0) := by rw [(Ext.cells hEw5).1 _ _ hxs, p0]
                    have m1 : w5.cell? ⟨gx, 1, none⟩ = some (.int .i64 x1) := by rw [(Ext.cells hEw5).1 _ _ hxs, p1]
                    refine (shContains_any _ k (z.take (k * 3)) gx x0 x1 _ (HP2.out.ext hEw5) m0 m1 (Nat.lt_of_lt_of_le hxs hEw5.size)).mono ?_
                    rw [show allB (fun i => !conB x0 x1 (shOp (z.take (k * 3)) i) (shTo (z.take (k * 3)) i)) k = allB (fun i => !conB x0 x1 (shOp z i) (shTo z i)) k from allB_congr fun j hj => by rw [(take_at hj).1, (take_at hj).2.2]]
                    cases hcon : allB (fun i => !conB x0 x1 (shOp z i) (shTo z i)) k with
                    | true =>
                      rintro e w6 ⟨rfl, hb6⟩
                      go_wp2_with (fail)
                      go_roundw
                      case rel =>
                        refine ⟨k + 1, by omega, by go_num, fun j hj => ?_, (by repeat (first | exact Ext.refl _ | assumption | refine Ext.alloc ?_ _ | refine Ext.drew ?_ | refine Ext.drewN ?_ _ | refine Ext.setCell ?_ (by first | exact Nat.le_refl _ | (simp; done) | (dsimp only; omega) | (simp only [World.size_alloc, World.size_setCell]; omega)) _ | refine Ext.trans ?_ (by assumption)))⟩
                        by_cases e : j = k
                        · subst e
                          rw [H.out, HO.out, hcon, HKF.out]
                          rfl
                        · exact HA.out j (by omega)
                      case measure => simp [intOf]; omega
                    | false =>
                      rintro e w6 ⟨rfl, hb6⟩
                      go_wp2_with (fail)
                      go_ret
                      refine ⟨ret_bool ?_, (by repeat (first | exact Ext.refl _ | assumption | refine Ext.alloc ?_ _ | refine Ext.drew ?_ | refine Ext.drewN ?_ _ | refine Ext.setCell ?_ (by first | exact Nat.le_refl _ | (simp; done) | (dsimp only; omega) | (simp only [World.size_alloc, World.size_setCell]; omega)) _ | refine Ext.trans ?_ (by assumption)))⟩
                      unfold okSs
                      rw [allB_f hlt (by rw [H.out, hcon, Bool.and_false, Bool.and_false]), Bool.and_false]

      · obtain rfl : k = n := by omega
        clear hcell
        go_wp2_with (fail)
        go_ret
        refine ⟨ret_bool ?_, hE⟩
        unfold okSs
        rw [allB_t HA.out, Bool.and_true]
        simp
        omega
  · have e1 : okSs z n = false := by unfold okSs; rw [and_f (by simp; omega)]
    have E1 := hid e1
    clear e1 hcell hwf
    go_enter Tryd.func24, Tryd.ntmps24
    go_wp2_with (fail)
    go_ret
    exact ⟨ret_bool (by rw [E1.out]), Ext.refl _⟩

end Go.Proofs.YtedkffdkhnfoiaaDoor