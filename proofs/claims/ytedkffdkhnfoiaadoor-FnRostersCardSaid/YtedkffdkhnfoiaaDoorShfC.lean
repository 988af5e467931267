/- The chapter of shifts: the reference's test; the statement on it. No condition. -/
import Derived.Test.YtedkffdkhnfoiaaDoorShfB
namespace Go.Proofs.YtedkffdkhnfoiaaDoor
open Go.RowKit
set_option linter.unusedSimpArgs false
set_option linter.unusedVariables false


set_option maxRecDepth 100000 in
set_option maxHeartbeats 4000000 in
theorem shGood_any (v : Value) (n : Nat) (z : List Int) (w : World) (h : IntRow .i64 3 w v n z) :
    Calls Tryd.prog 32 #[v] w fun e w' => e = .returned (.bool (okSs z n)) ∧ Ext w w' := by
  obtain ⟨hl, hm, hwf, a, c, rfl, hnc, hcm, hcell⟩ := h
  unfold maxLen at hm
  · go_enter Tryd.func32, Tryd.ntmps32
    go_wp2_with (fail)
    go_loopw [9] (fun i wr => ∃ (k : Nat), k ≤ n ∧ i = .int .i64 (k : Int) ∧ (∀ j, j < k → shAt z j = true) ∧ Ext w wr)
      (fun i _ => n - (intOf i).toNat)
    case atStart => exact ⟨0, Nat.zero_le _, rfl, fun j hj => absurd hj (by omega), Ext.refl _⟩
    case round =>
      obtain ⟨k, hk, rfl, hall, hE⟩ := hrel
      have HA := hid hall
      clear hall
      by_cases hlt : k < n
      · obtain ⟨b, o, rfl, hb, hc⟩ := hcell.resolve_left (by omega)
        obtain ⟨x0, hx0⟩ : ∃ x, x = z.getD (k * 3) 0 := ⟨_, rfl⟩
        have s0 : wr.cell? ⟨b, o + k * 3, none⟩ = some (.int .i64 x0) := by rw [(Ext.cells hE).1 _ _ hb, show o + k * 3 = o + (k * 3) by omega, hc _ (by omega), hx0]
        have H0 := hid hx0
        clear hx0
        obtain ⟨x1, hx1⟩ : ∃ x, x = z.getD (k * 3 + 1) 0 := ⟨_, rfl⟩
        have s1 : wr.cell? ⟨b, o + k * 3 + 1, none⟩ = some (.int .i64 x1) := by rw [(Ext.cells hE).1 _ _ hb, show o + k * 3 + 1 = o + (k * 3 + 1) by omega, hc _ (by omega), hx1]
        have H1 := hid hx1
        clear hx1
        obtain ⟨x2, hx2⟩ : ∃ x, x = z.getD (k * 3 + 2) 0 := ⟨_, rfl⟩
        have s2 : wr.cell? ⟨b, o + k * 3 + 2, none⟩ = some (.int .i64 x2) := by rw [(Ext.cells hE).1 _ _ hb, show o + k * 3 + 2 = o + (k * 3 + 2) by omega, hc _ (by omega), hx2]
        have H2 := hid hx2
        clear hx2
        have hbr : b < wr.heap.size := Nat.lt_of_lt_of_le hb hE.size
        have hc2 : ∀ j, j < n * 3 → wr.cell? ⟨b, o + j, none⟩ = some (.int .i64 (z.getD j 0)) := fun j hj => by rw [(Ext.cells hE).1 _ _ hb]; exact hc j hj
        have HPRE := hid (fun (wy : World) (hy : Ext wr wy) => row_take (w := wy) (i := k) hl hwf (by omega) hnc hcm (Nat.lt_of_lt_of_le hbr hy.size) (fun j hj => by rw [(Ext.cells hy).1 _ _ hbr]; exact hc2 j hj))
        obtain ⟨q0, hq0⟩ : ∃ x, x = shOp z (k - 1) := ⟨_, rfl⟩
        obtain ⟨q1, hq1⟩ : ∃ x, x = shFr z (k - 1) := ⟨_, rfl⟩
        obtain ⟨q2, hq2⟩ : ∃ x, x = shTo z (k - 1) := ⟨_, rfl⟩
        have H : Hid (shAt z k = (shOne x0 x1 x2 && ((decide (k = 0) || befB q0 q1 x0 x1) && allB (fun j => !conB x0 x1 (shOp z j) (shTo z j)) k))) := hid (by rw [hq0, hq1, H0.out, H1.out, H2.out]; rfl)
        have v0 : wr.cell? ⟨b, o + (k - 1) * 3, none⟩ = some (.int .i64 q0) := by rw [hc2 _ (by omega), hq0]; rfl
        have v1 : wr.cell? ⟨b, o + (k - 1) * 3 + 1, none⟩ = some (.int .i64 q1) := by rw [show o + (k - 1) * 3 + 1 = o + ((k - 1) * 3 + 1) by omega, hc2 _ (by omega), hq1]; rfl
        have v2 : wr.cell? ⟨b, o + (k - 1) * 3 + 2, none⟩ = some (.int .i64 q2) := by rw [show o + (k - 1) * 3 + 2 = o + ((k - 1) * 3 + 2) by omega, hc2 _ (by omega), hq2]; rfl
        clear hq0 hq1 hq2 hc hcell hwf
        have HC2 := hid hc2
        clear hc2
        go_wp2_with (fail)
        have hEx : Ext w (wr.alloc (.cells #[.int .i64 x0, .int .i64 x1, .int .i64 x2] 42)) := hE.alloc _
        have hxs : wr.heap.size < (wr.alloc (.cells #[.int .i64 x0, .int .i64 x1, .int .i64 x2] 42)).heap.size := by simp
        have p0 : (wr.alloc (.cells #[.int .i64 x0, .int .i64 x1, .int .i64 x2] 42)).cell? ⟨wr.heap.size, 0, none⟩ = some (.int .i64 x0) := by simp [go_sem]
        have p1 : (wr.alloc (.cells #[.int .i64 x0, .int .i64 x1, .int .i64 x2] 42)).cell? ⟨wr.heap.size, 1, none⟩ = some (.int .i64 x1) := by simp [go_sem]
        have p2 : (wr.alloc (.cells #[.int .i64 x0, .int .i64 x1, .int .i64 x2] 42)).cell? ⟨wr.heap.size, 2, none⟩ = some (.int .i64 x2) := by simp [go_sem]
        have y0 : (wr.alloc (.cells #[.int .i64 x0, .int .i64 x1, .int .i64 x2] 42)).cell? ⟨b, o + (k - 1) * 3, none⟩ = some (.int .i64 q0) := by simp [go_sem, *]
        have y1 : (wr.alloc (.cells #[.int .i64 x0, .int .i64 x1, .int .i64 x2] 42)).cell? ⟨b, o + (k - 1) * 3 + 1, none⟩ = some (.int .i64 q1) := by simp [go_sem, *]
        have y2 : (wr.alloc (.cells #[.int .i64 x0, .int .i64 x1, .int .i64 x2] 42)).cell? ⟨b, o + (k - 1) * 3 + 2, none⟩ = some (.int .i64 q2) := by simp [go_sem, *]
        have HCX := hid (fun (j : Nat) (hj : j < n * 3) => show (wr.alloc (.cells #[.int .i64 x0, .int .i64 x1, .int .i64 x2] 42)).cell? ⟨b, o + j, none⟩ = some (.int .i64 (z.getD j 0)) by rw [(Ext.cells ((Ext.refl wr).alloc _)).1 _ _ hbr, HC2.out j hj])
        have HBX : Hid (b < (wr.alloc (.cells #[.int .i64 x0, .int .i64 x1, .int .i64 x2] 42)).heap.size) := hid (by simp; omega)
        have HP2 := hid (HPRE.out (wr.alloc (.cells #[.int .i64 x0, .int .i64 x1, .int .i64 x2] 42)) ((Ext.refl _).alloc _))
        generalize wr.alloc (.cells #[.int .i64 x0, .int .i64 x1, .int .i64 x2] 42) = wx at *
        obtain ⟨gx, hgx⟩ : ∃ g, g = wr.heap.size := ⟨_, rfl⟩
        rw [← hgx] at p0 p1 p2 hxs ⊢
        clear s0 s1 s2 hgx hE
        clear v0 v1 v2 HPRE hbr HC2
        cases hA : inR x0 1 30 with
        | false =>
          have _u := hA
          go_wp2_with (fail)
          go_quiet ((first | (go_at_call 33; exact quiet_same (shOperator_any _ _)) | (go_at_call 41; exact quiet_same (shHour_any _ _)) | (go_at_call 42; exact quiet_same (l1In_any _ _ _ _))))
          go_wp2_with (fail)
          go_ret
          refine ⟨ret_bool ?_, (by repeat (first | exact Ext.refl _ | assumption | refine Ext.alloc ?_ _ | refine Ext.drew ?_ | refine Ext.drewN ?_ _ | refine Ext.setCell ?_ (by first | exact Nat.le_refl _ | (simp; done) | (dsimp only; omega) | (simp only [World.size_alloc, World.size_setCell]; omega)) _ | refine Ext.trans ?_ (by assumption)))⟩
          unfold okSs
          rw [allB_f hlt (by rw [H.out]; simp [shOne, hA]), Bool.and_false]
        | true =>
          cases hB : inR x1 0 167 with
          | false =>
            have hB3 := inR_not.1 hB
            go_wp2_with (fail)
            go_quiet ((first | (go_at_call 33; exact quiet_same (shOperator_any _ _)) | (go_at_call 41; exact quiet_same (shHour_any _ _)) | (go_at_call 42; exact quiet_same (l1In_any _ _ _ _))))
            go_wp2_with (fail)
            go_ret
            refine ⟨ret_bool ?_, (by repeat (first | exact Ext.refl _ | assumption | refine Ext.alloc ?_ _ | refine Ext.drew ?_ | refine Ext.drewN ?_ _ | refine Ext.setCell ?_ (by first | exact Nat.le_refl _ | (simp; done) | (dsimp only; omega) | (simp only [World.size_alloc, World.size_setCell]; omega)) _ | refine Ext.trans ?_ (by assumption)))⟩
            unfold okSs
            rw [allB_f hlt (by rw [H.out]; simp [shOne]; omega), Bool.and_false]
          | true =>
            obtain ⟨hB3, hB4⟩ := inR_iff.1 hB
            cases hC : inR x2 (x1 + 1) 168 with
            | false =>
              have hC3 := inR_not.1 hC
              go_wp2_with (fail)
              go_quiet ((first | (go_at_call 33; exact quiet_same (shOperator_any _ _)) | (go_at_call 41; exact quiet_same (shHour_any _ _)) | (go_at_call 42; exact quiet_same (l1In_any _ _ _ _))))
              go_wp2_with (fail)
              go_ret
              refine ⟨ret_bool ?_, (by repeat (first | exact Ext.refl _ | assumption | refine Ext.alloc ?_ _ | refine Ext.drew ?_ | refine Ext.drewN ?_ _ | refine Ext.setCell ?_ (by first | exact Nat.le_refl _ | (simp; done) | (dsimp only; omega) | (simp only [World.size_alloc, World.size_setCell]; omega)) _ | refine Ext.trans ?_ (by assumption)))⟩
              unfold okSs
              rw [allB_f hlt (by rw [H.out]; simp [shOne]; omega), Bool.and_false]
            | true =>
              obtain ⟨hC3, hC4⟩ := inR_iff.1 hC
              have hone : shOne x0 x1 x2 = true := by unfold shOne; rw [hA]; simp; omega
              have HO := hid hone
              clear hone
              by_cases hk0 : k = 0
              · have HKF : Hid ((decide (k = 0) || befB q0 q1 x0 x1) = true) := hid (by rw [hk0]; rfl)
                have hkz : (k : Int) ≤ 0 := by omega
                have hkz2 : decide (0 < k) = false := by simp; omega
                clear hk0
                go_wp2_with (fail)
                go_quiet ((first | (go_at_call 33; exact quiet_same (shOperator_any _ _)) | (go_at_call 41; exact quiet_same (shHour_any _ _)) | (go_at_call 42; exact quiet_same (l1In_any _ _ _ _))))
                rename_i nq
                have hEw5 : Ext wx (wx.drewN nq) := ((Ext.refl _).drewN _)
                have m0 : (wx.drewN nq).cell? ⟨gx, 0, none⟩ = some (.int .i64 x0) := by rw [(Ext.cells hEw5).1 _ _ hxs, p0]
                have m1 : (wx.drewN nq).cell? ⟨gx, 1, none⟩ = some (.int .i64 x1) := by rw [(Ext.cells hEw5).1 _ _ hxs, p1]
                have HW5 := hid (fun (j : Nat) (hj : j < n * 3) => show (wx.drewN nq).cell? ⟨b, o + j, none⟩ = some (.int .i64 (z.getD j 0)) by rw [(Ext.cells hEw5).1 _ _ HBX.out, HCX.out j hj])
                have hbw : b < (wx.drewN nq).heap.size := Nat.lt_of_lt_of_le HBX.out hEw5.size
                have hgw : gx < (wx.drewN nq).heap.size := Nat.lt_of_lt_of_le hxs hEw5.size
                have hEo : Ext w (wx.drewN nq) := hEx.trans hEw5
                generalize (wx.drewN nq) = wo at *
                clear p0 p1 p2 y0 y1 y2 HP2 hxs
                go_wp2_with (fail)
                go_loopw [51] (fun i wr => ∃ (j : Nat), j ≤ k ∧ i = .int .i64 (j : Int) ∧ (∀ m, m < j → conB x0 x1 (shOp z m) (shTo z m) = false) ∧ Ext wo wr)
                  (fun i _ => k - (intOf i).toNat)
                case atStart => exact ⟨0, Nat.zero_le _, rfl, fun j hj => absurd hj (by omega), Ext.refl _⟩
                case round =>
                  obtain ⟨j, hj, rfl, hnone, hEr⟩ := hrel
                  have HN := hid hnone
                  clear hnone
                  by_cases hjk : j < k
                  · exact absurd hjk (by omega)
                  · obtain rfl : k = j := by omega
                    have hEwr : Ext w wr := hEo.trans hEr
                    clear hEr hEo
                    go_wp2_with (fail)
                    go_roundw
                    case rel =>
                      refine ⟨k + 1, by omega, by go_num, fun j hj => ?_, (by repeat (first | exact Ext.refl _ | assumption | refine Ext.alloc ?_ _ | refine Ext.drew ?_ | refine Ext.drewN ?_ _ | refine Ext.setCell ?_ (by first | exact Nat.le_refl _ | (simp; done) | (dsimp only; omega) | (simp only [World.size_alloc, World.size_setCell]; omega)) _ | refine Ext.trans ?_ (by assumption)))⟩
                      by_cases e : j = k
                      · subst e
                        rw [H.out, HO.out, HKF.out, allB_t fun j hj => by rw [HN.out j hj]; rfl]
                        rfl
                      · exact HA.out j (by omega)
                    case measure => simp [intOf]; omega
              · have hk1 : 1 ≤ k := by omega
                have hk2 : decide (0 < k) = true := by simp; omega
                have hkf : decide (k = 0) = false := by simpa using hk0
                clear hk0
                cases hbef : befB q0 q1 x0 x1 with
                | false =>
                  have hs1 : IntKind.i64.wrap ((k : Int) - 1) = (k : Int) - 1 := IntWalk.i64_in _ (by omega)
                  have hs2 : ((k : Int) - 1).toNat = k - 1 := by omega
                  have hs6 : IntKind.i64.wrap (x1 + 1) = x1 + 1 := IntWalk.i64_in _ (by omega)
                  have hs3 : (1 : Int) ≤ (k : Int) := by omega
                  have hs4 : (k : Int) - 1 < n := by omega
                  have hs5 : k - 1 < n := by omega
                  refine wp_region_still_tail 29 (by kernel_rfl) (by kernel_rfl) ?_
                  simp only [List.take_succ_cons, List.take_zero, List.drop_succ_cons, List.drop_zero]
                  repeat (first | still_step | (first | still_call ((shOperator_any _ _).mono fun _ _ h => ⟨h.1, h.2.symm⟩) | still_call ((shHour_any _ _).mono fun _ _ h => ⟨h.1, h.2.symm⟩) | still_call ((l1In_any _ _ _ _).mono fun _ _ h => ⟨h.1, h.2.symm⟩)))
                  try refine wpStill_nil ?_
                  clear hs6
                  clear hs1 hs2 hs3 hs4 hs5
                  change wpList _ _ _ _ _ wx.drew
                  have hEy : Ext wx wx.drew := (Ext.refl _).drew
                  generalize wx.drew = wy at *
                  go_wp2_with (fail)
                  refine (shBefore_any _ _ _ _ _ _ _).mono ?_
                  rintro e w5 ⟨rfl, hb5⟩
                  rw [hbef]
                  go_wp2_with (fail)
                  go_ret
                  refine ⟨ret_bool ?_, (by repeat (first | exact Ext.refl _ | assumption | refine Ext.alloc ?_ _ | refine Ext.drew ?_ | refine Ext.drewN ?_ _ | refine Ext.setCell ?_ (by first | exact Nat.le_refl _ | (simp; done) | (dsimp only; omega) | (simp only [World.size_alloc, World.size_setCell]; omega)) _ | refine Ext.trans ?_ (by assumption)))⟩
                  unfold okSs
                  rw [allB_f hlt (by rw [H.out]; rw [hkf, hbef]; simp), Bool.and_false]
                | true =>
                  have HKF : Hid ((decide (k = 0) || befB q0 q1 x0 x1) = true) := hid (by rw [hbef, Bool.or_true])
                  have hs1 : IntKind.i64.wrap ((k : Int) - 1) = (k : Int) - 1 := IntWalk.i64_in _ (by omega)
                  have hs2 : ((k : Int) - 1).toNat = k - 1 := by omega
                  have hs6 : IntKind.i64.wrap (x1 + 1) = x1 + 1 := IntWalk.i64_in _ (by omega)
                  have hs3 : (1 : Int) ≤ (k : Int) := by omega
                  have hs4 : (k : Int) - 1 < n := by omega
                  have hs5 : k - 1 < n := by omega
                  refine wp_region_still_tail 29 (by kernel_rfl) (by kernel_rfl) ?_
                  simp only [List.take_succ_cons, List.take_zero, List.drop_succ_cons, List.drop_zero]
                  repeat (first | still_step | (first | still_call ((shOperator_any _ _).mono fun _ _ h => ⟨h.1, h.2.symm⟩) | still_call ((shHour_any _ _).mono fun _ _ h => ⟨h.1, h.2.symm⟩) | still_call ((l1In_any _ _ _ _).mono fun _ _ h => ⟨h.1, h.2.symm⟩)))
                  try refine wpStill_nil ?_
                  clear hs6
                  clear hs1 hs2 hs3 hs4 hs5
                  change wpList _ _ _ _ _ wx.drew
                  have hEy : Ext wx wx.drew := (Ext.refl _).drew
                  generalize wx.drew = wy at *
                  go_wp2_with (fail)
                  refine (shBefore_any _ _ _ _ _ _ _).mono ?_
                  rintro e w5 ⟨rfl, hb5⟩
                  have hEw5 : Ext wx w5 := (hEy.trans hb5)
                  have m0 : w5.cell? ⟨gx, 0, none⟩ = some (.int .i64 x0) := by rw [(Ext.cells hEw5).1 _ _ hxs, p0]
                  have m1 : w5.cell? ⟨gx, 1, none⟩ = some (.int .i64 x1) := by rw [(Ext.cells hEw5).1 _ _ hxs, p1]
                  have HW5 := hid (fun (j : Nat) (hj : j < n * 3) => show w5.cell? ⟨b, o + j, none⟩ = some (.int .i64 (z.getD j 0)) by rw [(Ext.cells hEw5).1 _ _ HBX.out, HCX.out j hj])
                  have hbw : b < w5.heap.size := Nat.lt_of_lt_of_le HBX.out hEw5.size
                  have hgw : gx < w5.heap.size := Nat.lt_of_lt_of_le hxs hEw5.size
                  have hEo : Ext w w5 := hEx.trans hEw5
                  generalize w5 = wo at *
                  clear p0 p1 p2 y0 y1 y2 HP2 hxs
                  go_wp2_with (fail)
                  go_loopw [51] (fun i wr => ∃ (j : Nat), j ≤ k ∧ i = .int .i64 (j : Int) ∧ (∀ m, m < j → conB x0 x1 (shOp z m) (shTo z m) = false) ∧ Ext wo wr)
                    (fun i _ => k - (intOf i).toNat)
                  case atStart => exact ⟨0, Nat.zero_le _, rfl, fun j hj => absurd hj (by omega), Ext.refl _⟩
                  case round =>
                    obtain ⟨j, hj, rfl, hnone, hEr⟩ := hrel
                    have HN := hid hnone
                    clear hnone
                    by_cases hjk : j < k
                    · obtain ⟨yo, hyo⟩ : ∃ x, x = shOp z j := ⟨_, rfl⟩
                      obtain ⟨yf, hyf⟩ : ∃ x, x = shFr z j := ⟨_, rfl⟩
                      obtain ⟨yt, hyt⟩ : ∃ x, x = shTo z j := ⟨_, rfl⟩
                      have c0 : wr.cell? ⟨b, o + j * 3, none⟩ = some (.int .i64 yo) := by rw [(Ext.cells hEr).1 _ _ hbw, HW5.out _ (by omega), hyo]; rfl
                      have c1 : wr.cell? ⟨b, o + j * 3 + 1, none⟩ = some (.int .i64 yf) := by rw [(Ext.cells hEr).1 _ _ hbw, show o + j * 3 + 1 = o + (j * 3 + 1) by omega, HW5.out _ (by omega), hyf]; rfl
                      have c2 : wr.cell? ⟨b, o + j * 3 + 2, none⟩ = some (.int .i64 yt) := by rw [(Ext.cells hEr).1 _ _ hbw, show o + j * 3 + 2 = o + (j * 3 + 2) by omega, HW5.out _ (by omega), hyt]; rfl
                      have n0 : wr.cell? ⟨gx, 0, none⟩ = some (.int .i64 x0) := by rw [(Ext.cells hEr).1 _ _ hgw, m0]
                      have n1 : wr.cell? ⟨gx, 1, none⟩ = some (.int .i64 x1) := by rw [(Ext.cells hEr).1 _ _ hgw, m1]
                      have hgr : gx < wr.heap.size := Nat.lt_of_lt_of_le hgw hEr.size
                      have HJ := hid (show conB x0 x1 (shOp z j) (shTo z j) = (yo == x0 && decide (x1 < yt)) by rw [← hyo, ← hyt]; rfl)
                      have hEwr : Ext w wr := hEo.trans hEr
                      clear hyo hyf hyt m0 m1
                      cases e1 : (yo == x0) with
                      | false =>
                        go_wp2_with (fail)
                        go_roundw
                        case rel =>
                          refine ⟨j + 1, by omega, by go_num, fun m hm => ?_, hEr.alloc _⟩
                          by_cases e : m = j
                          · subst e
                            rw [HJ.out, e1, Bool.false_and]
                          · exact HN.out m (by omega)
                        case measure => simp [intOf]; omega
                      | true =>
                        by_cases e2 : x1 < yt
                        · have e2b : decide (x1 < yt) = true := by simpa using e2
                          go_wp2_with (fail)
                          go_ret
                          refine ⟨ret_bool ?_, (by repeat (first | exact Ext.refl _ | assumption | refine Ext.alloc ?_ _ | refine Ext.drew ?_ | refine Ext.drewN ?_ _ | refine Ext.setCell ?_ (by first | exact Nat.le_refl _ | (simp; done) | (dsimp only; omega) | (simp only [World.size_alloc, World.size_setCell]; omega)) _ | refine Ext.trans ?_ (by assumption)))⟩
                          unfold okSs
                          rw [allB_f hlt (by rw [H.out, allB_f (k := j) hjk (by rw [HJ.out, e1, e2b]; rfl), Bool.and_false, Bool.and_false]), Bool.and_false]
                        · have e2b : decide (x1 < yt) = false := by simpa using e2
                          go_wp2_with (fail)
                          go_roundw
                          case rel =>
                            refine ⟨j + 1, by omega, by go_num, fun m hm => ?_, hEr.alloc _⟩
                            by_cases e : m = j
                            · subst e
                              rw [HJ.out, e2b, Bool.and_false]
                            · exact HN.out m (by omega)
                          case measure => simp [intOf]; omega
                    · obtain rfl : k = j := by omega
                      have hEwr : Ext w wr := hEo.trans hEr
                      clear hEr hEo
                      go_wp2_with (fail)
                      go_roundw
                      case rel =>
                        refine ⟨k + 1, by omega, by go_num, fun j hj => ?_, (by repeat (first | exact Ext.refl _ | assumption | refine Ext.alloc ?_ _ | refine Ext.drew ?_ | refine Ext.drewN ?_ _ | refine Ext.setCell ?_ (by first | exact Nat.le_refl _ | (simp; done) | (dsimp only; omega) | (simp only [World.size_alloc, World.size_setCell]; omega)) _ | refine Ext.trans ?_ (by assumption)))⟩
                        by_cases e : j = k
                        · subst e
                          rw [H.out, HO.out, HKF.out, allB_t fun j hj => by rw [HN.out j hj]; rfl]
                          rfl
                        · exact HA.out j (by omega)
                      case measure => simp [intOf]; omega

      · obtain rfl : k = n := by omega
        clear hcell
        go_wp2_with (fail)
        all_goals (go_ret; refine ⟨ret_bool ?_, hE⟩)
        all_goals (unfold okSs; rw [allB_t HA.out, Bool.and_true, Bool.eq_iff_iff]; simp; try omega)

end Go.Proofs.YtedkffdkhnfoiaaDoor