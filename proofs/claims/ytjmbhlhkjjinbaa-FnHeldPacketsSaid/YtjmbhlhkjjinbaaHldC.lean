/- The chapter of towers: nets are valid: the program's and the reference's test. No condition. -/
import Derived.Test.YtjmbhlhkjjinbaaHldB
namespace Go.Proofs.Ytjmbhlhkjjinbaa
open Go.RowKit
set_option linter.unusedSimpArgs false
set_option linter.unusedVariables false


theorem okNet_tw {nT nL k : Nat} {zT zL : List Int} (hk : k < nT) (h : twAt zT k = false) : okNet nT zT nL zL = false := by
  unfold okNet
  rw [allB_f hk h, Bool.false_and, Bool.and_false, Bool.and_false]
theorem okNet_lk {nT nL k : Nat} {zT zL : List Int} (hk : k < nL) (h : lkAt nT zL k = false) : okNet nT zT nL zL = false := by
  unfold okNet
  rw [allB_f hk h, Bool.and_false, Bool.and_false, Bool.and_false]

set_option maxRecDepth 100000 in
set_option maxHeartbeats 4000000 in
theorem iIsNet_any (v : Value) (nT : Nat) (zT : List Int) (nL : Nat) (zL : List Int) (w : World) (h : NetRow w v nT zT nL zL) :
    Calls Try.prog 35 #[v] w fun e w' => e = .returned (.bool (okNet nT zT nL zL)) ∧ Ext w w' := by
  obtain ⟨vT, vL, rfl, hT, hL⟩ := h
  have hT0 := hT
  have hL0 := hL
  obtain ⟨_, hmT, _, aT, cT, rfl, _, _, _⟩ := hT
  obtain ⟨_, hmL, _, aL, cL, rfl, _, _, _⟩ := hL
  have hnT : nT ≤ 9223372036854775807 := by unfold maxLen at hmT; omega
  have hnL : nL ≤ 9223372036854775807 := by unfold maxLen at hmL; omega
  clear hmT hmL
  cases hA : inR nT 1 16 with
  | false =>
    have E := hid (show okNet nT zT nL zL = false by unfold okNet; rw [hA]; rfl)
    have HA := hid hA
    clear hA
    go_enter Try.func35, Try.ntmps35
    go_wp2_with (go_at_call 27; refine (within_any _ _ _ _).mono ?_; rw [HA.out]; rintro e w' ⟨rfl, rfl⟩)
    go_ret
    exact ⟨ret_bool E.out.symm, (by repeat (first | exact Ext.refl _ | assumption | refine Ext.alloc ?_ _ | refine Ext.drew ?_ | refine Ext.drewN ?_ _ | refine Ext.setCell ?_ (by first | exact Nat.le_refl _ | (simp; done) | (dsimp only; omega) | (simp only [World.size_alloc, World.size_setCell]; omega)) _ | refine Ext.trans ?_ (by assumption)))⟩
  | true =>
    have HTA := hid hA
    clear hA
    by_cases hN : (nL : Int) ≤ 40
    · have HTN := hid (show decide (nL ≤ 40) = true by simp; omega)
      go_enter Try.func35, Try.ntmps35
      go_wp2_with (go_at_call 27; refine (within_any _ _ _ _).mono ?_; rw [HTA.out]; rintro e w' ⟨rfl, rfl⟩)
      have e0 : Ext w (w.alloc (.cells #[.slice aT nT cT, .slice aL nL cL] 27)) := (Ext.refl w).alloc _
      have p0 : (w.alloc (.cells #[.slice aT nT cT, .slice aL nL cL] 27)).cell? ⟨w.heap.size, 0, none⟩ = some (.slice aT nT cT) := by simp [go_sem]
      have p1 : (w.alloc (.cells #[.slice aT nT cT, .slice aL nL cL] 27)).cell? ⟨w.heap.size, 1, none⟩ = some (.slice aL nL cL) := by simp [go_sem]
      have hgs : w.heap.size < (w.alloc (.cells #[.slice aT nT cT, .slice aL nL cL] 27)).heap.size := by simp
      have hTw := hid (hT0.ext e0)
      have hLw := hid (hL0.ext e0)
      obtain ⟨g, hg⟩ : ∃ g, g = w.heap.size := ⟨_, rfl⟩
      rw [← hg] at p0 p1 hgs ⊢
      generalize (w.alloc (.cells #[.slice aT nT cT, .slice aL nL cL] 27)) = w0 at *
      have P0 := hid p0
      have P1 := hid p1
      clear hg hT0 hL0 p0 p1
      go_loopw [21] (fun i wr => ∃ (k : Nat), k ≤ nT ∧ i = .int .i64 (k : Int) ∧ (∀ j, j < k → twAt zT j = true) ∧ Ext w0 wr)
        (fun i _ => nT - (intOf i).toNat)
      case atStart => exact ⟨0, Nat.zero_le _, rfl, fun j hj => absurd hj (by omega), Ext.refl _⟩
      case round =>
        obtain ⟨k, hk, rfl, hall, hE⟩ := hrel
        have HA := hid hall
        clear hall
        by_cases hlt : k < nT
        · obtain ⟨hl, hm, hwf, a, c, he, hnc, hcm, hcell⟩ := hTw.out
          cases he
          obtain ⟨b, o, rfl, hb, hc⟩ := hcell.resolve_left (by omega)
          obtain ⟨z, hz⟩ : ∃ z, z = zT := ⟨_, rfl⟩
          rw [← hz] at hc hl
          obtain ⟨x0, hx0⟩ : ∃ x, x = z.getD (k * 3) 0 := ⟨_, rfl⟩
          have s0 : wr.cell? ⟨b, o + k * 3, none⟩ = some (.int .i64 x0) := by rw [(Ext.cells hE).1 _ _ hb, show o + k * 3 = o + (k * 3) by omega, hc _ (by omega), hx0]
          have H0 := hid hx0
          clear hx0
          obtain ⟨x1, hx1⟩ : ∃ x, x = z.getD (k * 3 + 1) 0 := ⟨_, rfl⟩
          have s1 : wr.cell? ⟨b, o + k * 3 + 1, none⟩ = some (.int .i64 x1) := by rw [(Ext.cells hE).1 _ _ hb, show o + k * 3 + 1 = o + (k * 3 + 1) by omega, hc _ (by omega), hx1]
          have H1 := hid hx1
          clear hx1
          obtain ⟨x2, hx2⟩ : ∃ x, x = z.getD (k * 3 + 2) 0 := ⟨_, rfl⟩
          have s2 : wr.cell? ⟨b, o + k * 3 + 2, none⟩ = some (.int .i64 x2) := by rw [(Ext.cells hE).1 _ _ hb, show o + k * 3 + 2 = o + (k * 3 + 2) by omega, hc _ (by omega), hx2]
          have H2 := hid hx2
          clear hx2
          have hbr : b < wr.heap.size := Nat.lt_of_lt_of_le hb hE.size
          have H := hid (show twAt zT k = twB x0 x1 x2 by rw [H0.out, H1.out, H2.out, hz]; rfl)
          clear hc hcell hwf hm hz hl
          cases h0 : inR x0 0 999 with
          | false =>
            have HV := hid (show twB x0 x1 x2 = false by unfold twB; rw [h0]; rfl)
            have E0 := hid h0
            clear h0
            go_wp2_with (go_at_call 27; refine (within_any _ _ _ _).mono ?_; rw [E0.out]; rintro e w' ⟨rfl, rfl⟩)
            go_ret
            exact ⟨ret_bool (by rw [okNet_tw hlt (by rw [H.out, HV.out])]), (by repeat (first | exact Ext.refl _ | assumption | refine Ext.alloc ?_ _ | refine Ext.drew ?_ | refine Ext.drewN ?_ _ | refine Ext.setCell ?_ (by first | exact Nat.le_refl _ | (simp; done) | (dsimp only; omega) | (simp only [World.size_alloc, World.size_setCell]; omega)) _ | refine Ext.trans ?_ (by assumption)))⟩
          | true =>
            have E0 := hid h0
            clear h0
            cases h1 : inR x1 0 999 with
            | false =>
              have HV := hid (show twB x0 x1 x2 = false by unfold twB; rw [h1, Bool.false_and, Bool.and_false])
              have E1 := hid h1
              clear h1
              go_wp2_with (go_at_call 27; refine (within_any _ _ _ _).mono ?_; (first | rw [E0.out] | rw [E1.out]); rintro e w' ⟨rfl, rfl⟩)
              go_ret
              exact ⟨ret_bool (by rw [okNet_tw hlt (by rw [H.out, HV.out])]), (by repeat (first | exact Ext.refl _ | assumption | refine Ext.alloc ?_ _ | refine Ext.drew ?_ | refine Ext.drewN ?_ _ | refine Ext.setCell ?_ (by first | exact Nat.le_refl _ | (simp; done) | (dsimp only; omega) | (simp only [World.size_alloc, World.size_setCell]; omega)) _ | refine Ext.trans ?_ (by assumption)))⟩
            | true =>
              have E1 := hid h1
              clear h1
              cases h2 : inR x2 0 500 with
              | false =>
                have HV := hid (show twB x0 x1 x2 = false by unfold twB; rw [h2, Bool.and_false, Bool.and_false])
                have E2 := hid h2
                clear h2
                go_wp2_with (go_at_call 27; refine (within_any _ _ _ _).mono ?_; (first | rw [E0.out] | rw [E1.out] | rw [E2.out]); rintro e w' ⟨rfl, rfl⟩)
                go_ret
                exact ⟨ret_bool (by rw [okNet_tw hlt (by rw [H.out, HV.out])]), (by repeat (first | exact Ext.refl _ | assumption | refine Ext.alloc ?_ _ | refine Ext.drew ?_ | refine Ext.drewN ?_ _ | refine Ext.setCell ?_ (by first | exact Nat.le_refl _ | (simp; done) | (dsimp only; omega) | (simp only [World.size_alloc, World.size_setCell]; omega)) _ | refine Ext.trans ?_ (by assumption)))⟩
              | true =>
                have HV := hid (show twB x0 x1 x2 = true by unfold twB; rw [h2, E0.out, E1.out]; rfl)
                have E2 := hid h2
                clear h2
                go_wp2_with (go_at_call 27; refine (within_any _ _ _ _).mono ?_; (first | rw [E0.out] | rw [E1.out] | rw [E2.out]); rintro e w' ⟨rfl, rfl⟩)
                go_roundw
                case rel =>
                  refine ⟨k + 1, by omega, by go_num, fun j hj => ?_, (by repeat (first | exact Ext.refl _ | assumption | refine Ext.alloc ?_ _ | refine Ext.drew ?_ | refine Ext.drewN ?_ _ | refine Ext.setCell ?_ (by first | exact Nat.le_refl _ | (simp; done) | (dsimp only; omega) | (simp only [World.size_alloc, World.size_setCell]; omega)) _ | refine Ext.trans ?_ (by assumption)))⟩
                  by_cases e : j = k
                  · subst e
                    rw [H.out, HV.out]
                  · exact HA.out j (by omega)
                case measure => simp [intOf]; omega
        · obtain rfl : nT = k := by omega
          have HT := hid (allB_t HA.out)
          clear HA
          have hE0 := hE
          have HP0 := hid (show wr.cell? ⟨g, 0, none⟩ = some (.slice aT nT cT) by rw [(Ext.cells hE0).1 _ _ hgs, P0.out])
          have HP1 := hid (show wr.cell? ⟨g, 1, none⟩ = some (.slice aL nL cL) by rw [(Ext.cells hE0).1 _ _ hgs, P1.out])
          have pr0 := HP0.out
          have pr1 := HP1.out
          go_wp2_with (fail)
          clear pr0 pr1 hE HP0 HP1
          go_loopw [45] (fun i wr => ∃ (k : Nat), k ≤ nL ∧ i = .int .i64 (k : Int) ∧ (∀ j, j < k → lkAt nT zL j = true) ∧ Ext w0 wr)
            (fun i _ => nL - (intOf i).toNat)
          case atStart => exact ⟨0, Nat.zero_le _, rfl, fun j hj => absurd hj (by omega), hE0⟩
          case round =>
            clear hE0
            obtain ⟨k, hk, rfl, hall, hE⟩ := hrel
            have HA := hid hall
            clear hall
            have hgr : g < wr.heap.size := Nat.lt_of_lt_of_le hgs hE.size
            have u0 : wr.cell? ⟨g, 0, none⟩ = some (.slice aT nT cT) := by rw [(Ext.cells hE).1 _ _ hgs, P0.out]
            have u1 : wr.cell? ⟨g, 1, none⟩ = some (.slice aL nL cL) := by rw [(Ext.cells hE).1 _ _ hgs, P1.out]
            by_cases hlt : k < nL
            · obtain ⟨hl, hm, hwf, a, c, he, hnc, hcm, hcell⟩ := hLw.out
              cases he
              obtain ⟨b, o, rfl, hb, hc⟩ := hcell.resolve_left (by omega)
              obtain ⟨z, hz⟩ : ∃ z, z = zL := ⟨_, rfl⟩
              rw [← hz] at hc hl hwf
              have hxw := wf_bd (getD_wf (j := k * 3 + 1) hwf (by omega))
              obtain ⟨x0, hx0⟩ : ∃ x, x = z.getD (k * 3) 0 := ⟨_, rfl⟩
              have s0 : wr.cell? ⟨b, o + k * 3, none⟩ = some (.int .i64 x0) := by rw [(Ext.cells hE).1 _ _ hb, show o + k * 3 = o + (k * 3) by omega, hc _ (by omega), hx0]
              have H0 := hid hx0
              clear hx0
              obtain ⟨x1, hx1⟩ : ∃ x, x = z.getD (k * 3 + 1) 0 := ⟨_, rfl⟩
              have s1 : wr.cell? ⟨b, o + k * 3 + 1, none⟩ = some (.int .i64 x1) := by rw [(Ext.cells hE).1 _ _ hb, show o + k * 3 + 1 = o + (k * 3 + 1) by omega, hc _ (by omega), hx1]
              have H1 := hid hx1
              clear hx1
              obtain ⟨x2, hx2⟩ : ∃ x, x = z.getD (k * 3 + 2) 0 := ⟨_, rfl⟩
              have s2 : wr.cell? ⟨b, o + k * 3 + 2, none⟩ = some (.int .i64 x2) := by rw [(Ext.cells hE).1 _ _ hb, show o + k * 3 + 2 = o + (k * 3 + 2) by omega, hc _ (by omega), hx2]
              have H2 := hid hx2
              clear hx2
              rw [← H1.out] at hxw
              obtain ⟨hxa, hxb⟩ := hxw
              have hbr : b < wr.heap.size := Nat.lt_of_lt_of_le hb hE.size
              obtain ⟨q0, hq0⟩ : ∃ x, x = f3a z (k - 1) := ⟨_, rfl⟩
              obtain ⟨q1, hq1⟩ : ∃ x, x = f3b z (k - 1) := ⟨_, rfl⟩
              obtain ⟨q2, hq2⟩ : ∃ x, x = f3c z (k - 1) := ⟨_, rfl⟩
              have v0 : wr.cell? ⟨b, o + (k - 1) * 3, none⟩ = some (.int .i64 q0) := by rw [(Ext.cells hE).1 _ _ hb, hc _ (by omega), hq0]; rfl
              have v1 : wr.cell? ⟨b, o + (k - 1) * 3 + 1, none⟩ = some (.int .i64 q1) := by rw [(Ext.cells hE).1 _ _ hb, show o + (k - 1) * 3 + 1 = o + ((k - 1) * 3 + 1) by omega, hc _ (by omega), hq1]; rfl
              have v2 : wr.cell? ⟨b, o + (k - 1) * 3 + 2, none⟩ = some (.int .i64 q2) := by rw [(Ext.cells hE).1 _ _ hb, show o + (k - 1) * 3 + 2 = o + ((k - 1) * 3 + 2) by omega, hc _ (by omega), hq2]; rfl
              have H : Hid (lkAt nT zL k = (lkB nT x0 x1 x2 && (decide (k = 0) || befL q0 q1 x0 x1))) := hid (by rw [hq0, hq1, H0.out, H1.out, H2.out, hz]; rfl)
              clear hq0 hq1 hq2 hc hcell hwf hz hl
              go_wp2_with (fail)
              have hEx : Ext w0 (wr.alloc (.cells #[.int .i64 x0, .int .i64 x1, .int .i64 x2] 72)) := hE.alloc _
              have hxs : wr.heap.size < (wr.alloc (.cells #[.int .i64 x0, .int .i64 x1, .int .i64 x2] 72)).heap.size := by simp
              have t0 : (wr.alloc (.cells #[.int .i64 x0, .int .i64 x1, .int .i64 x2] 72)).cell? ⟨wr.heap.size, 0, none⟩ = some (.int .i64 x0) := by simp [go_sem]
              have t1 : (wr.alloc (.cells #[.int .i64 x0, .int .i64 x1, .int .i64 x2] 72)).cell? ⟨wr.heap.size, 1, none⟩ = some (.int .i64 x1) := by simp [go_sem]
              have t2 : (wr.alloc (.cells #[.int .i64 x0, .int .i64 x1, .int .i64 x2] 72)).cell? ⟨wr.heap.size, 2, none⟩ = some (.int .i64 x2) := by simp [go_sem]
              have y0 : (wr.alloc (.cells #[.int .i64 x0, .int .i64 x1, .int .i64 x2] 72)).cell? ⟨b, o + (k - 1) * 3, none⟩ = some (.int .i64 q0) := by simp [go_sem, *]
              have y1 : (wr.alloc (.cells #[.int .i64 x0, .int .i64 x1, .int .i64 x2] 72)).cell? ⟨b, o + (k - 1) * 3 + 1, none⟩ = some (.int .i64 q1) := by simp [go_sem, *]
              have y2 : (wr.alloc (.cells #[.int .i64 x0, .int .i64 x1, .int .i64 x2] 72)).cell? ⟨b, o + (k - 1) * 3 + 2, none⟩ = some (.int .i64 q2) := by simp [go_sem, *]
              have n0 : (wr.alloc (.cells #[.int .i64 x0, .int .i64 x1, .int .i64 x2] 72)).cell? ⟨g, 0, none⟩ = some (.slice aT nT cT) := by simp [go_sem, *]
              have n1 : (wr.alloc (.cells #[.int .i64 x0, .int .i64 x1, .int .i64 x2] 72)).cell? ⟨g, 1, none⟩ = some (.slice (some ⟨b, o, none⟩) nL cL) := by simp [go_sem, *]
              generalize wr.alloc (.cells #[.int .i64 x0, .int .i64 x1, .int .i64 x2] 72) = wx at *
              obtain ⟨gx, hgx⟩ : ∃ g, g = wr.heap.size := ⟨_, rfl⟩
              rw [← hgx] at t0 t1 t2 hxs ⊢
              clear s0 s1 s2 v0 v1 v2 u0 u1 hgx hE hbr hgr
              by_cases hA : x0 < 0
              · have hA2 : decide (x0 < 0) = true := by simpa using hA
                go_wp2_with (fail)
                go_quiet ((go_at_call 27; exact quiet_same (within_any _ _ _ _)))
                go_wp2_with (fail)
                go_ret
                exact ⟨ret_bool (by rw [okNet_lk hlt (by rw [H.out]; rw [show lkB nT x0 x1 x2 = false by unfold lkB; simp; omega]; rfl)]), (by repeat (first | exact Ext.refl _ | assumption | refine Ext.alloc ?_ _ | refine Ext.drew ?_ | refine Ext.drewN ?_ _ | refine Ext.setCell ?_ (by first | exact Nat.le_refl _ | (simp; done) | (dsimp only; omega) | (simp only [World.size_alloc, World.size_setCell]; omega)) _ | refine Ext.trans ?_ (by assumption)))⟩
              · have hA2 : decide (x0 < 0) = false := by simpa using hA
                by_cases hB : x1 ≤ x0
                · have hB2 : decide (x1 ≤ x0) = true := by simpa using hB
                  go_wp2_with (fail)
                  go_quiet ((go_at_call 27; exact quiet_same (within_any _ _ _ _)))
                  go_wp2_with (fail)
                  go_ret
                  exact ⟨ret_bool (by rw [okNet_lk hlt (by rw [H.out]; rw [show lkB nT x0 x1 x2 = false by unfold lkB; simp; omega]; rfl)]), (by repeat (first | exact Ext.refl _ | assumption | refine Ext.alloc ?_ _ | refine Ext.drew ?_ | refine Ext.drewN ?_ _ | refine Ext.setCell ?_ (by first | exact Nat.le_refl _ | (simp; done) | (dsimp only; omega) | (simp only [World.size_alloc, World.size_setCell]; omega)) _ | refine Ext.trans ?_ (by assumption)))⟩
                · have hB2 : decide (x1 ≤ x0) = false := by simpa using hB
                  by_cases hC : (nT : Int) ≤ x1
                  · have hC2 : decide ((nT : Int) ≤ x1) = true := by simpa using hC
                    go_wp2_with (fail)
                    go_quiet ((go_at_call 27; exact quiet_same (within_any _ _ _ _)))
                    go_wp2_with (fail)
                    go_ret
                    exact ⟨ret_bool (by rw [okNet_lk hlt (by rw [H.out]; rw [show lkB nT x0 x1 x2 = false by unfold lkB; simp; omega]; rfl)]), (by repeat (first | exact Ext.refl _ | assumption | refine Ext.alloc ?_ _ | refine Ext.drew ?_ | refine Ext.drewN ?_ _ | refine Ext.setCell ?_ (by first | exact Nat.le_refl _ | (simp; done) | (dsimp only; omega) | (simp only [World.size_alloc, World.size_setCell]; omega)) _ | refine Ext.trans ?_ (by assumption)))⟩
                  · have hC2 : decide ((nT : Int) ≤ x1) = false := by simpa using hC
                    cases hD : inR x2 1 60 with
                    | false =>
                      have _u := hD
                      go_wp2_with (fail)
                      go_quiet ((go_at_call 27; exact quiet_same (within_any _ _ _ _)))
                      go_wp2_with (fail)
                      go_ret
                      exact ⟨ret_bool (by rw [okNet_lk hlt (by rw [H.out]; rw [show lkB nT x0 x1 x2 = false by unfold lkB; rw [hD]; simp]; rfl)]), (by repeat (first | exact Ext.refl _ | assumption | refine Ext.alloc ?_ _ | refine Ext.drew ?_ | refine Ext.drewN ?_ _ | refine Ext.setCell ?_ (by first | exact Nat.le_refl _ | (simp; done) | (dsimp only; omega) | (simp only [World.size_alloc, World.size_setCell]; omega)) _ | refine Ext.trans ?_ (by assumption)))⟩
                    | true =>
                      have HO := hid (show lkB nT x0 x1 x2 = true by unfold lkB; rw [hD]; simp; omega)
                      by_cases hk0 : k = 0
                      · have HKF : Hid ((decide (k = 0) || befL q0 q1 x0 x1) = true) := hid (by rw [hk0]; rfl)
                        have hkz : (k : Int) ≤ 0 := by omega
                        have hkz2 : decide (0 < k) = false := by simp; omega
                        clear hk0
                        go_wp2_with (fail)
                        go_quiet ((go_at_call 27; exact quiet_same (within_any _ _ _ _)))
                        go_wp2_with (fail)
                        go_roundw
                        case rel =>
                          refine ⟨k + 1, by omega, by go_num, fun j hj => ?_, (by repeat (first | exact Ext.refl _ | assumption | refine Ext.alloc ?_ _ | refine Ext.drew ?_ | refine Ext.drewN ?_ _ | refine Ext.setCell ?_ (by first | exact Nat.le_refl _ | (simp; done) | (dsimp only; omega) | (simp only [World.size_alloc, World.size_setCell]; omega)) _ | refine Ext.trans ?_ (by assumption)))⟩
                          by_cases e : j = k
                          · subst e
                            rw [H.out, HO.out, Bool.true_and, HKF.out]
                          · exact HA.out j (by omega)
                        case measure => simp [intOf]; omega
                      · have hk1 : 1 ≤ k := by omega
                        have hk2 : decide (0 < k) = true := by simp; omega
                        have hkf : decide (k = 0) = false := by simpa using hk0
                        clear hk0
                        cases hbef : befL q0 q1 x0 x1 with
                        | false =>
                          have hcs := cmp2_bef q0 q1 x0 x1
                          rw [hbef] at hcs
                          simp only [Bool.not_false] at hcs
                          have hs1 : IntKind.i64.wrap ((k : Int) - 1) = (k : Int) - 1 := IntWalk.i64_in _ (by omega)
                          have hs2 : ((k : Int) - 1).toNat = k - 1 := by omega
                          have hs3 : (1 : Int) ≤ (k : Int) := by omega
                          have hs4 : (k : Int) - 1 < nL := by omega
                          have hs5 : k - 1 < nL := by omega
                          refine wp_region_still_tail 35 (by kernel_rfl) (by kernel_rfl) ?_
                          simp only [List.take_succ_cons, List.take_zero, List.drop_succ_cons, List.drop_zero]
                          repeat (first | still_step | (still_call ((within_any _ _ _ _).mono fun _ _ h => ⟨h.1, h.2.symm⟩)))
                          try refine wpStill_nil ?_
                          clear hs1 hs2 hs3 hs4 hs5
                          change wpList _ _ _ _ _ wx.drew
                          have hEy : Ext wx wx.drew := (Ext.refl _).drew
                          generalize wx.drew = wy at *
                          go_wp2_with (fail)
                          refine (compareLinks_any _ _ _ _ _ _ _).mono ?_
                          rintro e w5 ⟨rfl, hb5⟩
                          go_wp2_with (fail)
                          go_ret
                          exact ⟨ret_bool (by rw [okNet_lk hlt (by rw [H.out]; rw [HO.out, hkf, hbef]; rfl)]), (by repeat (first | exact Ext.refl _ | assumption | refine Ext.alloc ?_ _ | refine Ext.drew ?_ | refine Ext.drewN ?_ _ | refine Ext.setCell ?_ (by first | exact Nat.le_refl _ | (simp; done) | (dsimp only; omega) | (simp only [World.size_alloc, World.size_setCell]; omega)) _ | refine Ext.trans ?_ (by assumption)))⟩
                        | true =>
                          have HKF : Hid ((decide (k = 0) || befL q0 q1 x0 x1) = true) := hid (by rw [hbef, Bool.or_true])
                          have hcs := cmp2_bef q0 q1 x0 x1
                          rw [hbef] at hcs
                          simp only [Bool.not_true] at hcs
                          have hs1 : IntKind.i64.wrap ((k : Int) - 1) = (k : Int) - 1 := IntWalk.i64_in _ (by omega)
                          have hs2 : ((k : Int) - 1).toNat = k - 1 := by omega
                          have hs3 : (1 : Int) ≤ (k : Int) := by omega
                          have hs4 : (k : Int) - 1 < nL := by omega
                          have hs5 : k - 1 < nL := by omega
                          refine wp_region_still_tail 35 (by kernel_rfl) (by kernel_rfl) ?_
                          simp only [List.take_succ_cons, List.take_zero, List.drop_succ_cons, List.drop_zero]
                          repeat (first | still_step | (still_call ((within_any _ _ _ _).mono fun _ _ h => ⟨h.1, h.2.symm⟩)))
                          try refine wpStill_nil ?_
                          clear hs1 hs2 hs3 hs4 hs5
                          change wpList _ _ _ _ _ wx.drew
                          have hEy : Ext wx wx.drew := (Ext.refl _).drew
                          generalize wx.drew = wy at *
                          go_wp2_with (fail)
                          refine (compareLinks_any _ _ _ _ _ _ _).mono ?_
                          rintro e w5 ⟨rfl, hb5⟩
                          go_wp2_with (fail)
                          go_roundw
                          case rel =>
                            refine ⟨k + 1, by omega, by go_num, fun j hj => ?_, (by repeat (first | exact Ext.refl _ | assumption | refine Ext.alloc ?_ _ | refine Ext.drew ?_ | refine Ext.drewN ?_ _ | refine Ext.setCell ?_ (by first | exact Nat.le_refl _ | (simp; done) | (dsimp only; omega) | (simp only [World.size_alloc, World.size_setCell]; omega)) _ | refine Ext.trans ?_ (by assumption)))⟩
                            by_cases e : j = k
                            · subst e
                              rw [H.out, HO.out, Bool.true_and, HKF.out]
                            · exact HA.out j (by omega)
                          case measure => simp [intOf]; omega

            · obtain rfl : k = nL := by omega
              go_wp2_with (fail)
              go_ret
              refine ⟨ret_bool ?_, (by repeat (first | exact Ext.refl _ | assumption | refine Ext.alloc ?_ _ | refine Ext.drew ?_ | refine Ext.drewN ?_ _ | refine Ext.setCell ?_ (by first | exact Nat.le_refl _ | (simp; done) | (dsimp only; omega) | (simp only [World.size_alloc, World.size_setCell]; omega)) _ | refine Ext.trans ?_ (by assumption)))⟩
              unfold okNet
              rw [HTA.out, HTN.out, HT.out, allB_t HA.out]
              rfl
    · have E := hid (show okNet nT zT nL zL = false by unfold okNet; rw [decide_eq_false (by omega), Bool.false_and, Bool.and_false])
      go_enter Try.func35, Try.ntmps35
      go_wp2_with (go_at_call 27; refine (within_any _ _ _ _).mono ?_; rw [HTA.out]; rintro e w' ⟨rfl, rfl⟩)
      go_ret
      exact ⟨ret_bool E.out.symm, (by repeat (first | exact Ext.refl _ | assumption | refine Ext.alloc ?_ _ | refine Ext.drew ?_ | refine Ext.drewN ?_ _ | refine Ext.setCell ?_ (by first | exact Nat.le_refl _ | (simp; done) | (dsimp only; omega) | (simp only [World.size_alloc, World.size_setCell]; omega)) _ | refine Ext.trans ?_ (by assumption)))⟩

end Go.Proofs.Ytjmbhlhkjjinbaa