/- The chapter of fog: fogs are valid: the reference's test; what is asked of a net, fogs, a link and jobs together. No condition. -/
import Derived.Test.YtjmbhlhkjjinbaaHldD
import Derived.Test.YtjmbhlhkjjinbaaHldE
namespace Go.Proofs.Ytjmbhlhkjjinbaa
open Go.RowKit
set_option linter.unusedSimpArgs false
set_option linter.unusedVariables false



set_option maxRecDepth 100000 in
set_option maxHeartbeats 4000000 in
theorem fgGood_any (v : Value) (nT : Nat) (zT : List Int) (nL : Nat) (zL : List Int) (u : Value) (n : Nat) (z : List Int) (w : World) (h : NetRow w v nT zT nL zL) (hu : IntRow .i64 3 w u n z) :
    Calls Try.prog 40 #[v, u] w fun e w' => e = .returned (.bool (okFg nL z n)) ∧ Ext w w' := by
  obtain ⟨vT, vL, rfl, hT, hL⟩ := h
  have hT0 := hT
  have hL0 := hL
  obtain ⟨_, hmT, _, aT, cT, rfl, _, _, _⟩ := hT
  obtain ⟨_, hmL, _, aL, cL, rfl, _, _, _⟩ := hL
  have hnT : nT ≤ 9223372036854775807 := by unfold maxLen at hmT; omega
  have hnL : nL ≤ 9223372036854775807 := by unfold maxLen at hmL; omega
  clear hmT
  have hu0 := hu
  obtain ⟨_, hmU, _, aU, cU, rfl, _, _, _⟩ := hu
  have hnU : n ≤ 9223372036854775807 := by unfold maxLen at hmU; omega
  clear hmU
  · go_enter Try.func40, Try.ntmps40
    go_wp2_with (fail)
    have hUw := hid (hu0.ext ((by repeat (first | exact Ext.refl _ | assumption | refine Ext.alloc ?_ _ | refine Ext.drew ?_ | refine Ext.drewN ?_ _ | refine Ext.setCell ?_ (by first | exact Nat.le_refl _ | (simp; done) | (dsimp only; omega) | (simp only [World.size_alloc, World.size_setCell]; omega)) _ | refine Ext.trans ?_ (by assumption))) : Ext w (w.alloc (.cells #[.slice aT nT cT, .slice aL nL cL] 27))))
    clear hu0
    have e0 : Ext w (w.alloc (.cells #[.slice aT nT cT, .slice aL nL cL] 27)) := (Ext.refl w).alloc _
    have p0 : (w.alloc (.cells #[.slice aT nT cT, .slice aL nL cL] 27)).cell? ⟨w.heap.size, 0, none⟩ = some (.slice aT nT cT) := by simp [go_sem]
    have p1 : (w.alloc (.cells #[.slice aT nT cT, .slice aL nL cL] 27)).cell? ⟨w.heap.size, 1, none⟩ = some (.slice aL nL cL) := by simp [go_sem]
    have hgs : w.heap.size < (w.alloc (.cells #[.slice aT nT cT, .slice aL nL cL] 27)).heap.size := by simp
    have hTw := hid (hT0.ext e0)
    have hLw := hid (hL0.ext e0)
    obtain ⟨g, hg⟩ : ∃ g, g = w.heap.size := ⟨_, rfl⟩
    rw [← hg] at p0 p1 hgs ⊢
    generalize (w.alloc (.cells #[.slice aT nT cT, .slice aL nL cL] 27)) = w0 at *
    have P0 := hid p0
    have P1 := hid p1
    clear hg hT0 hL0 p0 p1
    go_loopw [9] (fun i wr => ∃ (k : Nat), k ≤ n ∧ i = .int .i64 (k : Int) ∧ (∀ j, j < k → fgAt nL z j = true) ∧ Ext w0 wr)
      (fun i _ => n - (intOf i).toNat)
    case atStart => exact ⟨0, Nat.zero_le _, rfl, fun j hj => absurd hj (by omega), Ext.refl _⟩
    case round =>
      obtain ⟨k, hk, rfl, hall, hE⟩ := hrel
      have HA := hid hall
      clear hall
      have hgr : g < wr.heap.size := Nat.lt_of_lt_of_le hgs hE.size
      have u0 : wr.cell? ⟨g, 0, none⟩ = some (.slice aT nT cT) := by rw [(Ext.cells hE).1 _ _ hgs, P0.out]
      have u1 : wr.cell? ⟨g, 1, none⟩ = some (.slice aL nL cL) := by rw [(Ext.cells hE).1 _ _ hgs, P1.out]
      by_cases hlt : k < n
      · obtain ⟨hl, hm, hwf, a, c, he, hnc, hcm, hcell⟩ := hUw.out
        cases he
        obtain ⟨b, o, rfl, hb, hc⟩ := hcell.resolve_left (by omega)
        obtain ⟨x0, hx0⟩ : ∃ x, x = z.getD (k * 3) 0 := ⟨_, rfl⟩
        have s0 : wr.cell? ⟨b, o + k * 3, none⟩ = some (.int .i64 x0) := by rw [(Ext.cells hE).1 _ _ hb, show o + k * 3 = o + (k * 3) by omega, hc _ (by omega), hx0]
        have H0 := hid hx0
        clear hx0
        obtain ⟨x1, hx1⟩ : ∃ x, x = z.getD (k * 3 + 1) 0 := ⟨_, rfl⟩
        have s1 : wr.cell? ⟨b, o + k * 3 + 1, none⟩ = some (.int .i64 x1) := by rw [(Ext.cells hE).1 _ _ hb, show o + k * 3 + 1 = o + (k * 3 + 1) by omega, hc _ (by omega), hx1]
        have H1 := hid hx1
        clear hx1
        obtain ⟨x2, hx2⟩ : ∃ x, x = z.getD (k * 3 + 2) 0 := ⟨_, rfl⟩
        have s2 : wr.cell? ⟨b, o + k * 3 + 2, none⟩ = some (.int .i64 x2) := by rw [(Ext.cells hE).1 _ _ hb, show o + k * 3 + 2 = o + (k * 3 + 2) by omega, hc _ (by omega), hx2]
        have H2 := hid hx2
        clear hx2
        have hbr : b < wr.heap.size := Nat.lt_of_lt_of_le hb hE.size
        obtain ⟨q0, hq0⟩ : ∃ x, x = f3a z (k - 1) := ⟨_, rfl⟩
        obtain ⟨q1, hq1⟩ : ∃ x, x = f3b z (k - 1) := ⟨_, rfl⟩
        obtain ⟨q2, hq2⟩ : ∃ x, x = f3c z (k - 1) := ⟨_, rfl⟩
        have v0 : wr.cell? ⟨b, o + (k - 1) * 3, none⟩ = some (.int .i64 q0) := by rw [(Ext.cells hE).1 _ _ hb, hc _ (by omega), hq0]; rfl
        have v1 : wr.cell? ⟨b, o + (k - 1) * 3 + 1, none⟩ = some (.int .i64 q1) := by rw [(Ext.cells hE).1 _ _ hb, show o + (k - 1) * 3 + 1 = o + ((k - 1) * 3 + 1) by omega, hc _ (by omega), hq1]; rfl
        have v2 : wr.cell? ⟨b, o + (k - 1) * 3 + 2, none⟩ = some (.int .i64 q2) := by rw [(Ext.cells hE).1 _ _ hb, show o + (k - 1) * 3 + 2 = o + ((k - 1) * 3 + 2) by omega, hc _ (by omega), hq2]; rfl
        have H : Hid (fgAt nL z k = (fgB nL x0 x1 x2 && (decide (k = 0) || fpB q0 q2 x0 x1))) := hid (by rw [hq0, hq2, H0.out, H1.out, H2.out]; rfl)
        have HPV : Hid (k ≠ 0 → q1 < q2) := hid (fun h0 => by
          have := HA.out (k - 1) (by omega)
          unfold fgAt at this
          rw [Bool.and_eq_true] at this
          have := fgB_iff.1 this.1
          omega)
        clear hq0 hq1 hq2 hc hcell hwf hl
        have HF0 : Hid (k ≠ 0 → q1 < q2) := HPV
        have hbr2 := hbr
        cases hf : fgB nL x0 x1 x2 with
        | false =>
          have HF := hid hf
          clear hf v0 v1 v2
          go_wp2_with (fail)
          refine (fgFog_any _ _ _ _ _ _ _ _ _ _ hmL).mono ?_
          rw [HF.out]
          rintro e w5 ⟨rfl, hb5⟩
          go_wp2_with (fail)
          go_ret
          refine ⟨ret_bool ?_, (by repeat (first | exact Ext.refl _ | assumption | refine Ext.alloc ?_ _ | refine Ext.drew ?_ | refine Ext.drewN ?_ _ | refine Ext.setCell ?_ (by first | exact Nat.le_refl _ | (simp; done) | (dsimp only; omega) | (simp only [World.size_alloc, World.size_setCell]; omega)) _ | refine Ext.trans ?_ (by assumption)))⟩
          unfold okFg
          rw [allB_f hlt (by rw [H.out]; rw [HF.out]; rfl), Bool.and_false]
        | true =>
          have HO := hid hf
          clear hf
          go_wp2_with (fail)
          have hx0 : Ext wr (wr.alloc (.cells #[.int .i64 x0, .int .i64 x1, .int .i64 x2] 78)) := (Ext.refl wr).alloc _
          have t0 : (wr.alloc (.cells #[.int .i64 x0, .int .i64 x1, .int .i64 x2] 78)).cell? ⟨wr.heap.size, 0, none⟩ = some (.int .i64 x0) := by simp [go_sem]
          have t1 : (wr.alloc (.cells #[.int .i64 x0, .int .i64 x1, .int .i64 x2] 78)).cell? ⟨wr.heap.size, 1, none⟩ = some (.int .i64 x1) := by simp [go_sem]
          have t2 : (wr.alloc (.cells #[.int .i64 x0, .int .i64 x1, .int .i64 x2] 78)).cell? ⟨wr.heap.size, 2, none⟩ = some (.int .i64 x2) := by simp [go_sem]
          have hxs : wr.heap.size < (wr.alloc (.cells #[.int .i64 x0, .int .i64 x1, .int .i64 x2] 78)).heap.size := by simp
          refine (fgFog_any _ _ _ _ _ _ _ _ _ _ hmL).mono ?_
          rw [HO.out]
          rintro e w5 ⟨rfl, hb5⟩
          have hE5 : Ext w0 w5 := (by repeat (first | exact Ext.refl _ | assumption | refine Ext.alloc ?_ _ | refine Ext.drew ?_ | refine Ext.drewN ?_ _ | refine Ext.setCell ?_ (by first | exact Nat.le_refl _ | (simp; done) | (dsimp only; omega) | (simp only [World.size_alloc, World.size_setCell]; omega)) _ | refine Ext.trans ?_ (by assumption)))
          have y0 : w5.cell? ⟨b, o + (k - 1) * 3, none⟩ = some (.int .i64 q0) := by rw [(Ext.cells (hx0.trans hb5)).1 _ _ hbr, v0]
          have y2 : w5.cell? ⟨b, o + (k - 1) * 3 + 2, none⟩ = some (.int .i64 q2) := by rw [(Ext.cells (hx0.trans hb5)).1 _ _ hbr, v2]
          have m0 : w5.cell? ⟨wr.heap.size, 0, none⟩ = some (.int .i64 x0) := by rw [(Ext.cells hb5).1 _ _ hxs, t0]
          have m1 : w5.cell? ⟨wr.heap.size, 1, none⟩ = some (.int .i64 x1) := by rw [(Ext.cells hb5).1 _ _ hxs, t1]
          have m2 : w5.cell? ⟨wr.heap.size, 2, none⟩ = some (.int .i64 x2) := by rw [(Ext.cells hb5).1 _ _ hxs, t2]
          obtain ⟨gx, hgx⟩ : ∃ g, g = wr.heap.size := ⟨_, rfl⟩
          rw [← hgx] at m0 m1 m2 ⊢
          clear t0 t1 t2 hxs hx0 hb5 hE s0 s1 s2 v0 v1 v2 u0 u1 hgr hgx HPV HF0 hbr hbr2
          by_cases hk0 : k = 0
          · have HKF : Hid ((decide (k = 0) || fpB q0 q2 x0 x1) = true) := hid (by rw [hk0]; rfl)
            have hkz : (k : Int) ≤ 0 := by omega
            have hkz2 : decide (0 < k) = false := by simp; omega
            clear hk0 y0 y2
            go_wp2_with (fail)
            go_quiet (fail)
            go_wp2_with (fail)
            go_roundw
            case rel =>
              refine ⟨k + 1, by omega, by go_num, fun j hj => ?_, (by repeat (first | exact Ext.refl _ | assumption | refine Ext.alloc ?_ _ | refine Ext.drew ?_ | refine Ext.drewN ?_ _ | refine Ext.setCell ?_ (by first | exact Nat.le_refl _ | (simp; done) | (dsimp only; omega) | (simp only [World.size_alloc, World.size_setCell]; omega)) _ | refine Ext.trans ?_ (by assumption)))⟩
              by_cases e : j = k
              · subst e
                rw [H.out, HO.out, Bool.true_and, HKF.out]
              · exact HA.out j (by omega)
            case measure => simp [intOf]; omega
          · have hk1 : 1 ≤ k := by omega
            have hk2 : decide (0 < k) = true := by simp; omega
            have hkf : decide (k = 0) = false := by simpa using hk0
            clear hk0
            have hs1 : IntKind.i64.wrap ((k : Int) - 1) = (k : Int) - 1 := IntWalk.i64_in _ (by omega)
            have hs2 : ((k : Int) - 1).toNat = k - 1 := by omega
            have hs3 : (1 : Int) ≤ (k : Int) := by omega
            have hs4 : (k : Int) - 1 < n := by omega
            have hs5 : k - 1 < n := by omega
            by_cases h1 : x0 < q0
            · have HV := hid (show fpB q0 q2 x0 x1 = false by unfold fpB; simp; omega)
              have hd1 : decide (x0 < q0) = true := by simpa using h1
              go_wp2_with (fail)
              go_quiet (fail)
              go_wp2_with (fail)
              go_ret
              refine ⟨ret_bool ?_, (by repeat (first | exact Ext.refl _ | assumption | refine Ext.alloc ?_ _ | refine Ext.drew ?_ | refine Ext.drewN ?_ _ | refine Ext.setCell ?_ (by first | exact Nat.le_refl _ | (simp; done) | (dsimp only; omega) | (simp only [World.size_alloc, World.size_setCell]; omega)) _ | refine Ext.trans ?_ (by assumption)))⟩
              unfold okFg
              rw [allB_f hlt (by rw [H.out]; rw [HO.out, hkf, HV.out]; rfl), Bool.and_false]
            · have hd1 : decide (x0 < q0) = false := by simpa using h1
              cases heq : (q0 == x0) with
              | false =>
                have HKF : Hid ((decide (k = 0) || fpB q0 q2 x0 x1) = true) := hid (by
                  rw [hkf]
                  unfold fpB
                  rw [heq]
                  simp at heq ⊢
                  omega)
                go_wp2_with (fail)
                go_quiet (fail)
                go_wp2_with (fail)
                go_roundw
                case rel =>
                  refine ⟨k + 1, by omega, by go_num, fun j hj => ?_, (by repeat (first | exact Ext.refl _ | assumption | refine Ext.alloc ?_ _ | refine Ext.drew ?_ | refine Ext.drewN ?_ _ | refine Ext.setCell ?_ (by first | exact Nat.le_refl _ | (simp; done) | (dsimp only; omega) | (simp only [World.size_alloc, World.size_setCell]; omega)) _ | refine Ext.trans ?_ (by assumption)))⟩
                  by_cases e : j = k
                  · subst e
                    rw [H.out, HO.out, Bool.true_and, HKF.out]
                  · exact HA.out j (by omega)
                case measure => simp [intOf]; omega
              | true =>
                by_cases hto : x1 ≤ q2
                · have hto2 : decide (x1 ≤ q2) = true := by simpa using hto
                  have HV := hid (show fpB q0 q2 x0 x1 = false by
                    unfold fpB
                    rw [heq]
                    simp at heq ⊢
                    omega)
                  go_wp2_with (fail)
                  go_quiet (fail)
                  go_wp2_with (fail)
                  go_ret
                  refine ⟨ret_bool ?_, (by repeat (first | exact Ext.refl _ | assumption | refine Ext.alloc ?_ _ | refine Ext.drew ?_ | refine Ext.drewN ?_ _ | refine Ext.setCell ?_ (by first | exact Nat.le_refl _ | (simp; done) | (dsimp only; omega) | (simp only [World.size_alloc, World.size_setCell]; omega)) _ | refine Ext.trans ?_ (by assumption)))⟩
                  unfold okFg
                  rw [allB_f hlt (by rw [H.out]; rw [HO.out, hkf, HV.out]; rfl), Bool.and_false]
                · have hto2 : decide (x1 ≤ q2) = false := by simpa using hto
                  have HKF : Hid ((decide (k = 0) || fpB q0 q2 x0 x1) = true) := hid (by
                    rw [hkf]
                    unfold fpB
                    rw [heq]
                    simp at heq ⊢
                    omega)
                  go_wp2_with (fail)
                  go_quiet (fail)
                  go_wp2_with (fail)
                  go_roundw
                  case rel =>
                    refine ⟨k + 1, by omega, by go_num, fun j hj => ?_, (by repeat (first | exact Ext.refl _ | assumption | refine Ext.alloc ?_ _ | refine Ext.drew ?_ | refine Ext.drewN ?_ _ | refine Ext.setCell ?_ (by first | exact Nat.le_refl _ | (simp; done) | (dsimp only; omega) | (simp only [World.size_alloc, World.size_setCell]; omega)) _ | refine Ext.trans ?_ (by assumption)))⟩
                    by_cases e : j = k
                    · subst e
                      rw [H.out, HO.out, Bool.true_and, HKF.out]
                    · exact HA.out j (by omega)
                  case measure => simp [intOf]; omega

      · obtain rfl : k = n := by omega
        have E := hid (show okFg nL z k = decide ((k : Int) ≤ 60) by unfold okFg; rw [allB_t HA.out, Bool.and_true]; simp; omega)
        go_wp2_with (fail)
        all_goals (go_ret; refine ⟨ret_bool ?_, (by repeat (first | exact Ext.refl _ | assumption | refine Ext.alloc ?_ _ | refine Ext.drew ?_ | refine Ext.drewN ?_ _ | refine Ext.setCell ?_ (by first | exact Nat.le_refl _ | (simp; done) | (dsimp only; omega) | (simp only [World.size_alloc, World.size_setCell]; omega)) _ | refine Ext.trans ?_ (by assumption)))⟩)
        all_goals (rw [E.out]; try simp [*])


set_option maxRecDepth 100000 in
set_option maxHeartbeats 1600000 in
theorem isLink_any (v : Value) (nT : Nat) (zT : List Int) (nL : Nat) (zL : List Int) (i : Int) (w : World) (hN : NetRow w v nT zT nL zL) :
    Calls Try.prog 44 #[v, .int .i64 i] w fun e w' => e = .returned (.bool (okNet nT zT nL zL && inR i 0 ((nL : Int) - 1))) ∧ Ext w w' := by
  have hN0 := hN
  obtain ⟨vT, vL, rfl, hT, hL⟩ := hN
  obtain ⟨_, hmT, _, aT, cT, rfl, _, _, _⟩ := hT
  obtain ⟨_, hmL, _, aL, cL, rfl, _, _, _⟩ := hL
  have hnT : nT ≤ 9223372036854775807 := by unfold maxLen at hmT; omega
  have hnL : nL ≤ 9223372036854775807 := by unfold maxLen at hmL; omega
  clear hmT hmL
  obtain ⟨V, hV⟩ : ∃ b : Bool, b = (okNet nT zT nL zL && inR i 0 ((nL : Int) - 1)) := ⟨_, rfl⟩
  rw [← hV]
  have HV := hid hV
  clear hV
  have C0 := fun (W : World) (hW : Ext w W) => iIsNet_any _ nT zT nL zL W (hN0.ext hW)
  have C1 := fun (W : World) (hW : Ext w W) => within_any i 0 ((nL : Int) - 1) W
  cases h0 : okNet nT zT nL zL with
  | false =>
    rw [h0] at C0
    have H0 := hid h0
    clear h0
    rw [show V = false by rw [HV.out]; simp [H0.out]]
    go_enter Try.func44, Try.ntmps44
    go_wp2_with (fail)
    refine (C0 _ (by repeat (first | exact Ext.refl _ | assumption | refine Ext.alloc ?_ _ | refine Ext.drew ?_ | refine Ext.drewN ?_ _ | refine Ext.setCell ?_ (by first | exact Nat.le_refl _ | (simp; done) | (dsimp only; omega) | (simp only [World.size_alloc, World.size_setCell]; omega)) _ | refine Ext.trans ?_ (by assumption)))).mono ?_
    rintro e w1 ⟨rfl, hb1⟩
    have hz1 := Ext.size hb1
    try simp only [World.size_alloc, World.size_setCell] at hz1
    obtain ⟨hc1, hf1⟩ := Ext.cells hb1
    try have hk1_0_0 := fun o => hc1 (w.heap.size) o (by (try simp only [World.size_alloc, World.size_setCell]); omega)
    try have hj1_0_0 := fun o => hf1 (w.heap.size) o (by (try simp only [World.size_alloc, World.size_setCell]); omega)
    try have hy1_0_0 : w.heap.size < w1.heap.size := by omega
    try have hk1_0_1 := fun o => hc1 (w.heap.size + 1) o (by (try simp only [World.size_alloc, World.size_setCell]); omega)
    try have hj1_0_1 := fun o => hf1 (w.heap.size + 1) o (by (try simp only [World.size_alloc, World.size_setCell]); omega)
    try have hy1_0_1 : w.heap.size + 1 < w1.heap.size := by omega
    try have hk1_0_2 := fun o => hc1 (w.heap.size + 1 + 1) o (by (try simp only [World.size_alloc, World.size_setCell]); omega)
    try have hj1_0_2 := fun o => hf1 (w.heap.size + 1 + 1) o (by (try simp only [World.size_alloc, World.size_setCell]); omega)
    try have hy1_0_2 : w.heap.size + 1 + 1 < w1.heap.size := by omega
    clear hc1 hf1
    go_wp2_with (fail)
    go_ret
    exact ⟨rfl, (by repeat (first | exact Ext.refl _ | assumption | refine Ext.alloc ?_ _ | refine Ext.drew ?_ | refine Ext.drewN ?_ _ | refine Ext.setCell ?_ (by first | exact Nat.le_refl _ | (simp; done) | (dsimp only; omega) | (simp only [World.size_alloc, World.size_setCell]; omega)) _ | refine Ext.trans ?_ (by assumption)))⟩
  | true =>
    rw [h0] at C0
    have H0 := hid h0
    clear h0
    cases h1 : inR i 0 ((nL : Int) - 1) with
    | false =>
      rw [h1] at C1
      have H1 := hid h1
      clear h1
      rw [show V = false by rw [HV.out]; simp [H0.out, H1.out]]
      go_enter Try.func44, Try.ntmps44
      go_wp2_with (fail)
      refine (C0 _ (by repeat (first | exact Ext.refl _ | assumption | refine Ext.alloc ?_ _ | refine Ext.drew ?_ | refine Ext.drewN ?_ _ | refine Ext.setCell ?_ (by first | exact Nat.le_refl _ | (simp; done) | (dsimp only; omega) | (simp only [World.size_alloc, World.size_setCell]; omega)) _ | refine Ext.trans ?_ (by assumption)))).mono ?_
      rintro e w1 ⟨rfl, hb1⟩
      have hz1 := Ext.size hb1
      try simp only [World.size_alloc, World.size_setCell] at hz1
      obtain ⟨hc1, hf1⟩ := Ext.cells hb1
      try have hk1_0_0 := fun o => hc1 (w.heap.size) o (by (try simp only [World.size_alloc, World.size_setCell]); omega)
      try have hj1_0_0 := fun o => hf1 (w.heap.size) o (by (try simp only [World.size_alloc, World.size_setCell]); omega)
      try have hy1_0_0 : w.heap.size < w1.heap.size := by omega
      try have hk1_0_1 := fun o => hc1 (w.heap.size + 1) o (by (try simp only [World.size_alloc, World.size_setCell]); omega)
      try have hj1_0_1 := fun o => hf1 (w.heap.size + 1) o (by (try simp only [World.size_alloc, World.size_setCell]); omega)
      try have hy1_0_1 : w.heap.size + 1 < w1.heap.size := by omega
      try have hk1_0_2 := fun o => hc1 (w.heap.size + 1 + 1) o (by (try simp only [World.size_alloc, World.size_setCell]); omega)
      try have hj1_0_2 := fun o => hf1 (w.heap.size + 1 + 1) o (by (try simp only [World.size_alloc, World.size_setCell]); omega)
      try have hy1_0_2 : w.heap.size + 1 + 1 < w1.heap.size := by omega
      clear hc1 hf1
      go_wp2_with (fail)
      refine (C1 _ (by repeat (first | exact Ext.refl _ | assumption | refine Ext.alloc ?_ _ | refine Ext.drew ?_ | refine Ext.drewN ?_ _ | refine Ext.setCell ?_ (by first | exact Nat.le_refl _ | (simp; done) | (dsimp only; omega) | (simp only [World.size_alloc, World.size_setCell]; omega)) _ | refine Ext.trans ?_ (by assumption)))).mono ?_
      rintro e w2 ⟨rfl, rfl⟩
      go_wp2_with (fail)
      go_ret
      exact ⟨rfl, (by repeat (first | exact Ext.refl _ | assumption | refine Ext.alloc ?_ _ | refine Ext.drew ?_ | refine Ext.drewN ?_ _ | refine Ext.setCell ?_ (by first | exact Nat.le_refl _ | (simp; done) | (dsimp only; omega) | (simp only [World.size_alloc, World.size_setCell]; omega)) _ | refine Ext.trans ?_ (by assumption)))⟩
    | true =>
      rw [h1] at C1
      have H1 := hid h1
      clear h1
      rw [show V = true by rw [HV.out]; simp [H0.out, H1.out]]
      go_enter Try.func44, Try.ntmps44
      go_wp2_with (fail)
      refine (C0 _ (by repeat (first | exact Ext.refl _ | assumption | refine Ext.alloc ?_ _ | refine Ext.drew ?_ | refine Ext.drewN ?_ _ | refine Ext.setCell ?_ (by first | exact Nat.le_refl _ | (simp; done) | (dsimp only; omega) | (simp only [World.size_alloc, World.size_setCell]; omega)) _ | refine Ext.trans ?_ (by assumption)))).mono ?_
      rintro e w1 ⟨rfl, hb1⟩
      have hz1 := Ext.size hb1
      try simp only [World.size_alloc, World.size_setCell] at hz1
      obtain ⟨hc1, hf1⟩ := Ext.cells hb1
      try have hk1_0_0 := fun o => hc1 (w.heap.size) o (by (try simp only [World.size_alloc, World.size_setCell]); omega)
      try have hj1_0_0 := fun o => hf1 (w.heap.size) o (by (try simp only [World.size_alloc, World.size_setCell]); omega)
      try have hy1_0_0 : w.heap.size < w1.heap.size := by omega
      try have hk1_0_1 := fun o => hc1 (w.heap.size + 1) o (by (try simp only [World.size_alloc, World.size_setCell]); omega)
      try have hj1_0_1 := fun o => hf1 (w.heap.size + 1) o (by (try simp only [World.size_alloc, World.size_setCell]); omega)
      try have hy1_0_1 : w.heap.size + 1 < w1.heap.size := by omega
      try have hk1_0_2 := fun o => hc1 (w.heap.size + 1 + 1) o (by (try simp only [World.size_alloc, World.size_setCell]); omega)
      try have hj1_0_2 := fun o => hf1 (w.heap.size + 1 + 1) o (by (try simp only [World.size_alloc, World.size_setCell]); omega)
      try have hy1_0_2 : w.heap.size + 1 + 1 < w1.heap.size := by omega
      clear hc1 hf1
      go_wp2_with (fail)
      refine (C1 _ (by repeat (first | exact Ext.refl _ | assumption | refine Ext.alloc ?_ _ | refine Ext.drew ?_ | refine Ext.drewN ?_ _ | refine Ext.setCell ?_ (by first | exact Nat.le_refl _ | (simp; done) | (dsimp only; omega) | (simp only [World.size_alloc, World.size_setCell]; omega)) _ | refine Ext.trans ?_ (by assumption)))).mono ?_
      rintro e w2 ⟨rfl, rfl⟩
      go_wp2_with (fail)
      go_ret
      exact ⟨rfl, (by repeat (first | exact Ext.refl _ | assumption | refine Ext.alloc ?_ _ | refine Ext.drew ?_ | refine Ext.drewN ?_ _ | refine Ext.setCell ?_ (by first | exact Nat.le_refl _ | (simp; done) | (dsimp only; omega) | (simp only [World.size_alloc, World.size_setCell]; omega)) _ | refine Ext.trans ?_ (by assumption)))⟩


set_option maxRecDepth 100000 in
set_option maxHeartbeats 1600000 in
theorem fgHas_any (v : Value) (nT : Nat) (zT : List Int) (nL : Nat) (zL : List Int) (u : Value) (n : Nat) (z : List Int) (i : Int) (w : World) (hN : NetRow w v nT zT nL zL) (hU : IntRow .i64 3 w u n z) :
    Calls Try.prog 28 #[v, u, .int .i64 i] w fun e w' => e = .returned (.bool (okNet nT zT nL zL && (okFg nL z n && inR i 0 ((nL : Int) - 1)))) ∧ Ext w w' := by
  have hN0 := hN
  obtain ⟨vT, vL, rfl, hT, hL⟩ := hN
  obtain ⟨_, hmT, _, aT, cT, rfl, _, _, _⟩ := hT
  obtain ⟨_, hmL, _, aL, cL, rfl, _, _, _⟩ := hL
  have hnT : nT ≤ 9223372036854775807 := by unfold maxLen at hmT; omega
  have hnL : nL ≤ 9223372036854775807 := by unfold maxLen at hmL; omega
  clear hmT hmL
  obtain ⟨V, hV⟩ : ∃ b : Bool, b = (okNet nT zT nL zL && (okFg nL z n && inR i 0 ((nL : Int) - 1))) := ⟨_, rfl⟩
  rw [← hV]
  have HV := hid hV
  clear hV
  have C0 := fun (W : World) (hW : Ext w W) => neGood_any _ nT zT nL zL W (hN0.ext hW)
  have C1 := fun (W : World) (hW : Ext w W) => fgGood_any _ nT zT nL zL u n z W (hN0.ext hW) (hU.ext hW)
  have C2 := fun (W : World) (hW : Ext w W) => l1In_any i 0 ((nL : Int) - 1) W
  cases h0 : okNet nT zT nL zL with
  | false =>
    rw [h0] at C0
    have H0 := hid h0
    clear h0
    rw [show V = false by rw [HV.out]; simp [H0.out]]
    go_enter Try.func28, Try.ntmps28
    go_wp2_with (fail)
    refine (C0 _ (by repeat (first | exact Ext.refl _ | assumption | refine Ext.alloc ?_ _ | refine Ext.drew ?_ | refine Ext.drewN ?_ _ | refine Ext.setCell ?_ (by first | exact Nat.le_refl _ | (simp; done) | (dsimp only; omega) | (simp only [World.size_alloc, World.size_setCell]; omega)) _ | refine Ext.trans ?_ (by assumption)))).mono ?_
    rintro e w1 ⟨rfl, hb1⟩
    have hz1 := Ext.size hb1
    try simp only [World.size_alloc, World.size_setCell] at hz1
    obtain ⟨hc1, hf1⟩ := Ext.cells hb1
    try have hk1_0_0 := fun o => hc1 (w.heap.size) o (by (try simp only [World.size_alloc, World.size_setCell]); omega)
    try have hj1_0_0 := fun o => hf1 (w.heap.size) o (by (try simp only [World.size_alloc, World.size_setCell]); omega)
    try have hy1_0_0 : w.heap.size < w1.heap.size := by omega
    try have hk1_0_1 := fun o => hc1 (w.heap.size + 1) o (by (try simp only [World.size_alloc, World.size_setCell]); omega)
    try have hj1_0_1 := fun o => hf1 (w.heap.size + 1) o (by (try simp only [World.size_alloc, World.size_setCell]); omega)
    try have hy1_0_1 : w.heap.size + 1 < w1.heap.size := by omega
    try have hk1_0_2 := fun o => hc1 (w.heap.size + 1 + 1) o (by (try simp only [World.size_alloc, World.size_setCell]); omega)
    try have hj1_0_2 := fun o => hf1 (w.heap.size + 1 + 1) o (by (try simp only [World.size_alloc, World.size_setCell]); omega)
    try have hy1_0_2 : w.heap.size + 1 + 1 < w1.heap.size := by omega
    clear hc1 hf1
    go_wp2_with (fail)
    go_ret
    exact ⟨rfl, (by repeat (first | exact Ext.refl _ | assumption | refine Ext.alloc ?_ _ | refine Ext.drew ?_ | refine Ext.drewN ?_ _ | refine Ext.setCell ?_ (by first | exact Nat.le_refl _ | (simp; done) | (dsimp only; omega) | (simp only [World.size_alloc, World.size_setCell]; omega)) _ | refine Ext.trans ?_ (by assumption)))⟩
  | true =>
    rw [h0] at C0
    have H0 := hid h0
    clear h0
    cases h1 : okFg nL z n with
    | false =>
      rw [h1] at C1
      have H1 := hid h1
      clear h1
      rw [show V = false by rw [HV.out]; simp [H0.out, H1.out]]
      go_enter Try.func28, Try.ntmps28
      go_wp2_with (fail)
      refine (C0 _ (by repeat (first | exact Ext.refl _ | assumption | refine Ext.alloc ?_ _ | refine Ext.drew ?_ | refine Ext.drewN ?_ _ | refine Ext.setCell ?_ (by first | exact Nat.le_refl _ | (simp; done) | (dsimp only; omega) | (simp only [World.size_alloc, World.size_setCell]; omega)) _ | refine Ext.trans ?_ (by assumption)))).mono ?_
      rintro e w1 ⟨rfl, hb1⟩
      have hz1 := Ext.size hb1
      try simp only [World.size_alloc, World.size_setCell] at hz1
      obtain ⟨hc1, hf1⟩ := Ext.cells hb1
      try have hk1_0_0 := fun o => hc1 (w.heap.size) o (by (try simp only [World.size_alloc, World.size_setCell]); omega)
      try have hj1_0_0 := fun o => hf1 (w.heap.size) o (by (try simp only [World.size_alloc, World.size_setCell]); omega)
      try have hy1_0_0 : w.heap.size < w1.heap.size := by omega
      try have hk1_0_1 := fun o => hc1 (w.heap.size + 1) o (by (try simp only [World.size_alloc, World.size_setCell]); omega)
      try have hj1_0_1 := fun o => hf1 (w.heap.size + 1) o (by (try simp only [World.size_alloc, World.size_setCell]); omega)
      try have hy1_0_1 : w.heap.size + 1 < w1.heap.size := by omega
      try have hk1_0_2 := fun o => hc1 (w.heap.size + 1 + 1) o (by (try simp only [World.size_alloc, World.size_setCell]); omega)
      try have hj1_0_2 := fun o => hf1 (w.heap.size + 1 + 1) o (by (try simp only [World.size_alloc, World.size_setCell]); omega)
      try have hy1_0_2 : w.heap.size + 1 + 1 < w1.heap.size := by omega
      clear hc1 hf1
      go_wp2_with (fail)
      refine (C1 _ (by repeat (first | exact Ext.refl _ | assumption | refine Ext.alloc ?_ _ | refine Ext.drew ?_ | refine Ext.drewN ?_ _ | refine Ext.setCell ?_ (by first | exact Nat.le_refl _ | (simp; done) | (dsimp only; omega) | (simp only [World.size_alloc, World.size_setCell]; omega)) _ | refine Ext.trans ?_ (by assumption)))).mono ?_
      rintro e w2 ⟨rfl, hb2⟩
      have hz2 := Ext.size hb2
      try simp only [World.size_alloc, World.size_setCell] at hz2
      obtain ⟨hc2, hf2⟩ := Ext.cells hb2
      try have hk2_0_0 := fun o => hc2 (w.heap.size) o (by (try simp only [World.size_alloc, World.size_setCell]); omega)
      try have hj2_0_0 := fun o => hf2 (w.heap.size) o (by (try simp only [World.size_alloc, World.size_setCell]); omega)
      try have hy2_0_0 : w.heap.size < w2.heap.size := by omega
      try have hk2_0_1 := fun o => hc2 (w.heap.size + 1) o (by (try simp only [World.size_alloc, World.size_setCell]); omega)
      try have hj2_0_1 := fun o => hf2 (w.heap.size + 1) o (by (try simp only [World.size_alloc, World.size_setCell]); omega)
      try have hy2_0_1 : w.heap.size + 1 < w2.heap.size := by omega
      try have hk2_0_2 := fun o => hc2 (w.heap.size + 1 + 1) o (by (try simp only [World.size_alloc, World.size_setCell]); omega)
      try have hj2_0_2 := fun o => hf2 (w.heap.size + 1 + 1) o (by (try simp only [World.size_alloc, World.size_setCell]); omega)
      try have hy2_0_2 : w.heap.size + 1 + 1 < w2.heap.size := by omega
      try have hk2_1_0 := fun o => hc2 (w1.heap.size) o (by (try simp only [World.size_alloc, World.size_setCell]); omega)
      try have hj2_1_0 := fun o => hf2 (w1.heap.size) o (by (try simp only [World.size_alloc, World.size_setCell]); omega)
      try have hy2_1_0 : w1.heap.size < w2.heap.size := by omega
      try have hk2_1_1 := fun o => hc2 (w1.heap.size + 1) o (by (try simp only [World.size_alloc, World.size_setCell]); omega)
      try have hj2_1_1 := fun o => hf2 (w1.heap.size + 1) o (by (try simp only [World.size_alloc, World.size_setCell]); omega)
      try have hy2_1_1 : w1.heap.size + 1 < w2.heap.size := by omega
      clear hc2 hf2
      go_wp2_with (fail)
      go_ret
      exact ⟨rfl, (by repeat (first | exact Ext.refl _ | assumption | refine Ext.alloc ?_ _ | refine Ext.drew ?_ | refine Ext.drewN ?_ _ | refine Ext.setCell ?_ (by first | exact Nat.le_refl _ | (simp; done) | (dsimp only; omega) | (simp only [World.size_alloc, World.size_setCell]; omega)) _ | refine Ext.trans ?_ (by assumption)))⟩
    | true =>
      rw [h1] at C1
      have H1 := hid h1
      clear h1
      cases h2 : inR i 0 ((nL : Int) - 1) with
      | false =>
        rw [h2] at C2
        have H2 := hid h2
        clear h2
        rw [show V = false by rw [HV.out]; simp [H0.out, H1.out, H2.out]]
        go_enter Try.func28, Try.ntmps28
        go_wp2_with (fail)
        refine (C0 _ (by repeat (first | exact Ext.refl _ | assumption | refine Ext.alloc ?_ _ | refine Ext.drew ?_ | refine Ext.drewN ?_ _ | refine Ext.setCell ?_ (by first | exact Nat.le_refl _ | (simp; done) | (dsimp only; omega) | (simp only [World.size_alloc, World.size_setCell]; omega)) _ | refine Ext.trans ?_ (by assumption)))).mono ?_
        rintro e w1 ⟨rfl, hb1⟩
        have hz1 := Ext.size hb1
        try simp only [World.size_alloc, World.size_setCell] at hz1
        obtain ⟨hc1, hf1⟩ := Ext.cells hb1
        try have hk1_0_0 := fun o => hc1 (w.heap.size) o (by (try simp only [World.size_alloc, World.size_setCell]); omega)
        try have hj1_0_0 := fun o => hf1 (w.heap.size) o (by (try simp only [World.size_alloc, World.size_setCell]); omega)
        try have hy1_0_0 : w.heap.size < w1.heap.size := by omega
        try have hk1_0_1 := fun o => hc1 (w.heap.size + 1) o (by (try simp only [World.size_alloc, World.size_setCell]); omega)
        try have hj1_0_1 := fun o => hf1 (w.heap.size + 1) o (by (try simp only [World.size_alloc, World.size_setCell]); omega)
        try have hy1_0_1 : w.heap.size + 1 < w1.heap.size := by omega
        try have hk1_0_2 := fun o => hc1 (w.heap.size + 1 + 1) o (by (try simp only [World.size_alloc, World.size_setCell]); omega)
        try have hj1_0_2 := fun o => hf1 (w.heap.size + 1 + 1) o (by (try simp only [World.size_alloc, World.size_setCell]); omega)
        try have hy1_0_2 : w.heap.size + 1 + 1 < w1.heap.size := by omega
        clear hc1 hf1
        go_wp2_with (fail)
        refine (C1 _ (by repeat (first | exact Ext.refl _ | assumption | refine Ext.alloc ?_ _ | refine Ext.drew ?_ | refine Ext.drewN ?_ _ | refine Ext.setCell ?_ (by first | exact Nat.le_refl _ | (simp; done) | (dsimp only; omega) | (simp only [World.size_alloc, World.size_setCell]; omega)) _ | refine Ext.trans ?_ (by assumption)))).mono ?_
        rintro e w2 ⟨rfl, hb2⟩
        have hz2 := Ext.size hb2
        try simp only [World.size_alloc, World.size_setCell] at hz2
        obtain ⟨hc2, hf2⟩ := Ext.cells hb2
        try have hk2_0_0 := fun o => hc2 (w.heap.size) o (by (try simp only [World.size_alloc, World.size_setCell]); omega)
        try have hj2_0_0 := fun o => hf2 (w.heap.size) o (by (try simp only [World.size_alloc, World.size_setCell]); omega)
        try have hy2_0_0 : w.heap.size < w2.heap.size := by omega
        try have hk2_0_1 := fun o => hc2 (w.heap.size + 1) o (by (try simp only [World.size_alloc, World.size_setCell]); omega)
        try have hj2_0_1 := fun o => hf2 (w.heap.size + 1) o (by (try simp only [World.size_alloc, World.size_setCell]); omega)
        try have hy2_0_1 : w.heap.size + 1 < w2.heap.size := by omega
        try have hk2_0_2 := fun o => hc2 (w.heap.size + 1 + 1) o (by (try simp only [World.size_alloc, World.size_setCell]); omega)
        try have hj2_0_2 := fun o => hf2 (w.heap.size + 1 + 1) o (by (try simp only [World.size_alloc, World.size_setCell]); omega)
        try have hy2_0_2 : w.heap.size + 1 + 1 < w2.heap.size := by omega
        try have hk2_1_0 := fun o => hc2 (w1.heap.size) o (by (try simp only [World.size_alloc, World.size_setCell]); omega)
        try have hj2_1_0 := fun o => hf2 (w1.heap.size) o (by (try simp only [World.size_alloc, World.size_setCell]); omega)
        try have hy2_1_0 : w1.heap.size < w2.heap.size := by omega
        try have hk2_1_1 := fun o => hc2 (w1.heap.size + 1) o (by (try simp only [World.size_alloc, World.size_setCell]); omega)
        try have hj2_1_1 := fun o => hf2 (w1.heap.size + 1) o (by (try simp only [World.size_alloc, World.size_setCell]); omega)
        try have hy2_1_1 : w1.heap.size + 1 < w2.heap.size := by omega
        clear hc2 hf2
        go_wp2_with (fail)
        refine (C2 _ (by repeat (first | exact Ext.refl _ | assumption | refine Ext.alloc ?_ _ | refine Ext.drew ?_ | refine Ext.drewN ?_ _ | refine Ext.setCell ?_ (by first | exact Nat.le_refl _ | (simp; done) | (dsimp only; omega) | (simp only [World.size_alloc, World.size_setCell]; omega)) _ | refine Ext.trans ?_ (by assumption)))).mono ?_
        rintro e w3 ⟨rfl, rfl⟩
        go_wp2_with (fail)
        go_ret
        exact ⟨rfl, (by repeat (first | exact Ext.refl _ | assumption | refine Ext.alloc ?_ _ | refine Ext.drew ?_ | refine Ext.drewN ?_ _ | refine Ext.setCell ?_ (by first | exact Nat.le_refl _ | (simp; done) | (dsimp only; omega) | (simp only [World.size_alloc, World.size_setCell]; omega)) _ | refine Ext.trans ?_ (by assumption)))⟩
      | true =>
        rw [h2] at C2
        have H2 := hid h2
        clear h2
        rw [show V = true by rw [HV.out]; simp [H0.out, H1.out, H2.out]]
        go_enter Try.func28, Try.ntmps28
        go_wp2_with (fail)
        refine (C0 _ (by repeat (first | exact Ext.refl _ | assumption | refine Ext.alloc ?_ _ | refine Ext.drew ?_ | refine Ext.drewN ?_ _ | refine Ext.setCell ?_ (by first | exact Nat.le_refl _ | (simp; done) | (dsimp only; omega) | (simp only [World.size_alloc, World.size_setCell]; omega)) _ | refine Ext.trans ?_ (by assumption)))).mono ?_
        rintro e w1 ⟨rfl, hb1⟩
        have hz1 := Ext.size hb1
        try simp only [World.size_alloc, World.size_setCell] at hz1
        obtain ⟨hc1, hf1⟩ := Ext.cells hb1
        try have hk1_0_0 := fun o => hc1 (w.heap.size) o (by (try simp only [World.size_alloc, World.size_setCell]); omega)
        try have hj1_0_0 := fun o => hf1 (w.heap.size) o (by (try simp only [World.size_alloc, World.size_setCell]); omega)
        try have hy1_0_0 : w.heap.size < w1.heap.size := by omega
        try have hk1_0_1 := fun o => hc1 (w.heap.size + 1) o (by (try simp only [World.size_alloc, World.size_setCell]); omega)
        try have hj1_0_1 := fun o => hf1 (w.heap.size + 1) o (by (try simp only [World.size_alloc, World.size_setCell]); omega)
        try have hy1_0_1 : w.heap.size + 1 < w1.heap.size := by omega
        try have hk1_0_2 := fun o => hc1 (w.heap.size + 1 + 1) o (by (try simp only [World.size_alloc, World.size_setCell]); omega)
        try have hj1_0_2 := fun o => hf1 (w.heap.size + 1 + 1) o (by (try simp only [World.size_alloc, World.size_setCell]); omega)
        try have hy1_0_2 : w.heap.size + 1 + 1 < w1.heap.size := by omega
        clear hc1 hf1
        go_wp2_with (fail)
        refine (C1 _ (by repeat (first | exact Ext.refl _ | assumption | refine Ext.alloc ?_ _ | refine Ext.drew ?_ | refine Ext.drewN ?_ _ | refine Ext.setCell ?_ (by first | exact Nat.le_refl _ | (simp; done) | (dsimp only; omega) | (simp only [World.size_alloc, World.size_setCell]; omega)) _ | refine Ext.trans ?_ (by assumption)))).mono ?_
        rintro e w2 ⟨rfl, hb2⟩
        have hz2 := Ext.size hb2
        try simp only [World.size_alloc, World.size_setCell] at hz2
        obtain ⟨hc2, hf2⟩ := Ext.cells hb2
        try have hk2_0_0 := fun o => hc2 (w.heap.size) o (by (try simp only [World.size_alloc, World.size_setCell]); omega)
        try have hj2_0_0 := fun o => hf2 (w.heap.size) o (by (try simp only [World.size_alloc, World.size_setCell]); omega)
        try have hy2_0_0 : w.heap.size < w2.heap.size := by omega
        try have hk2_0_1 := fun o => hc2 (w.heap.size + 1) o (by (try simp only [World.size_alloc, World.size_setCell]); omega)
        try have hj2_0_1 := fun o => hf2 (w.heap.size + 1) o (by (try simp only [World.size_alloc, World.size_setCell]); omega)
        try have hy2_0_1 : w.heap.size + 1 < w2.heap.size := by omega
        try have hk2_0_2 := fun o => hc2 (w.heap.size + 1 + 1) o (by (try simp only [World.size_alloc, World.size_setCell]); omega)
        try have hj2_0_2 := fun o => hf2 (w.heap.size + 1 + 1) o (by (try simp only [World.size_alloc, World.size_setCell]); omega)
        try have hy2_0_2 : w.heap.size + 1 + 1 < w2.heap.size := by omega
        try have hk2_1_0 := fun o => hc2 (w1.heap.size) o (by (try simp only [World.size_alloc, World.size_setCell]); omega)
        try have hj2_1_0 := fun o => hf2 (w1.heap.size) o (by (try simp only [World.size_alloc, World.size_setCell]); omega)
        try have hy2_1_0 : w1.heap.size < w2.heap.size := by omega
        try have hk2_1_1 := fun o => hc2 (w1.heap.size + 1) o (by (try simp only [World.size_alloc, World.size_setCell]); omega)
        try have hj2_1_1 := fun o => hf2 (w1.heap.size + 1) o (by (try simp only [World.size_alloc, World.size_setCell]); omega)
        try have hy2_1_1 : w1.heap.size + 1 < w2.heap.size := by omega
        clear hc2 hf2
        go_wp2_with (fail)
        refine (C2 _ (by repeat (first | exact Ext.refl _ | assumption | refine Ext.alloc ?_ _ | refine Ext.drew ?_ | refine Ext.drewN ?_ _ | refine Ext.setCell ?_ (by first | exact Nat.le_refl _ | (simp; done) | (dsimp only; omega) | (simp only [World.size_alloc, World.size_setCell]; omega)) _ | refine Ext.trans ?_ (by assumption)))).mono ?_
        rintro e w3 ⟨rfl, rfl⟩
        go_wp2_with (fail)
        go_ret
        exact ⟨rfl, (by repeat (first | exact Ext.refl _ | assumption | refine Ext.alloc ?_ _ | refine Ext.drew ?_ | refine Ext.drewN ?_ _ | refine Ext.setCell ?_ (by first | exact Nat.le_refl _ | (simp; done) | (dsimp only; omega) | (simp only [World.size_alloc, World.size_setCell]; omega)) _ | refine Ext.trans ?_ (by assumption)))⟩


theorem ask_swap (a b c d : Bool) : ((a && (b && c)) && d) = ((a && c) && (b && d)) := by cases a <;> cases b <;> cases c <;> rfl
def askH (nT : Nat) (zT : List Int) (nL : Nat) (zL : List Int) (zF : List Int) (nF : Nat) (i : Int) : Bool := okNet nT zT nL zL && (okFg nL zF nF && inR i 0 ((nL : Int) - 1))
theorem askH_iff {nT nL nF : Nat} {zT zL zF : List Int} {i : Int} (h : askH nT zT nL zL zF nF i = true) : okNet nT zT nL zL = true ∧ okFg nL zF nF = true ∧ 0 ≤ i ∧ i < nL := by
  unfold askH at h
  rw [Bool.and_eq_true, Bool.and_eq_true, inR_iff] at h
  exact ⟨h.1, h.2.1, h.2.2.1, by omega⟩


set_option maxRecDepth 100000 in
set_option maxHeartbeats 1600000 in
theorem holdAsked_any (v : Value) (nT : Nat) (zT : List Int) (nL : Nat) (zL : List Int) (u : Value) (n : Nat) (z : List Int) (i : Int) (x : Value) (m : Nat) (y : List Int) (w : World) (hN : NetRow w v nT zT nL zL) (hU : IntRow .i64 3 w u n z) (hX : IntRow .i64 2 w x m y) :
    Calls Try.prog 32 #[v, u, .int .i64 i, x] w fun e w' => e = .returned (.bool (askH nT zT nL zL z n i && okHs y m)) ∧ Ext w w' := by
  have hN0 := hN
  obtain ⟨vT, vL, rfl, hT, hL⟩ := hN
  obtain ⟨_, hmT, _, aT, cT, rfl, _, _, _⟩ := hT
  obtain ⟨_, hmL, _, aL, cL, rfl, _, _, _⟩ := hL
  have hnT : nT ≤ 9223372036854775807 := by unfold maxLen at hmT; omega
  have hnL : nL ≤ 9223372036854775807 := by unfold maxLen at hmL; omega
  clear hmT hmL
  obtain ⟨V, hV⟩ : ∃ b : Bool, b = (askH nT zT nL zL z n i && okHs y m) := ⟨_, rfl⟩
  rw [← hV]
  have HV := hid hV
  clear hV
  have C0 := fun (W : World) (hW : Ext w W) => isLink_any _ nT zT nL zL i W (hN0.ext hW)
  have C1 := fun (W : World) (hW : Ext w W) => areFogs_any _ nT zT nL zL u n z W (hN0.ext hW) (hU.ext hW)
  have C2 := fun (W : World) (hW : Ext w W) => iAreHeldJobs_any x m y W (hX.ext hW)
  cases h0 : (okNet nT zT nL zL && inR i 0 ((nL : Int) - 1)) with
  | false =>
    rw [h0] at C0
    have H0 := hid h0
    clear h0
    rw [show V = false by rw [HV.out]; unfold askH; rw [ask_swap]; simp [H0.out]]
    go_enter Try.func32, Try.ntmps32
    go_wp2_with (fail)
    refine (C0 _ (by repeat (first | exact Ext.refl _ | assumption | refine Ext.alloc ?_ _ | refine Ext.drew ?_ | refine Ext.drewN ?_ _ | refine Ext.setCell ?_ (by first | exact Nat.le_refl _ | (simp; done) | (dsimp only; omega) | (simp only [World.size_alloc, World.size_setCell]; omega)) _ | refine Ext.trans ?_ (by assumption)))).mono ?_
    rintro e w1 ⟨rfl, hb1⟩
    have hz1 := Ext.size hb1
    try simp only [World.size_alloc, World.size_setCell] at hz1
    obtain ⟨hc1, hf1⟩ := Ext.cells hb1
    try have hk1_0_0 := fun o => hc1 (w.heap.size) o (by (try simp only [World.size_alloc, World.size_setCell]); omega)
    try have hj1_0_0 := fun o => hf1 (w.heap.size) o (by (try simp only [World.size_alloc, World.size_setCell]); omega)
    try have hy1_0_0 : w.heap.size < w1.heap.size := by omega
    try have hk1_0_1 := fun o => hc1 (w.heap.size + 1) o (by (try simp only [World.size_alloc, World.size_setCell]); omega)
    try have hj1_0_1 := fun o => hf1 (w.heap.size + 1) o (by (try simp only [World.size_alloc, World.size_setCell]); omega)
    try have hy1_0_1 : w.heap.size + 1 < w1.heap.size := by omega
    try have hk1_0_2 := fun o => hc1 (w.heap.size + 1 + 1) o (by (try simp only [World.size_alloc, World.size_setCell]); omega)
    try have hj1_0_2 := fun o => hf1 (w.heap.size + 1 + 1) o (by (try simp only [World.size_alloc, World.size_setCell]); omega)
    try have hy1_0_2 : w.heap.size + 1 + 1 < w1.heap.size := by omega
    clear hc1 hf1
    go_wp2_with (fail)
    go_ret
    exact ⟨rfl, (by repeat (first | exact Ext.refl _ | assumption | refine Ext.alloc ?_ _ | refine Ext.drew ?_ | refine Ext.drewN ?_ _ | refine Ext.setCell ?_ (by first | exact Nat.le_refl _ | (simp; done) | (dsimp only; omega) | (simp only [World.size_alloc, World.size_setCell]; omega)) _ | refine Ext.trans ?_ (by assumption)))⟩
  | true =>
    rw [h0] at C0
    have H0 := hid h0
    clear h0
    cases h1 : okFg nL z n with
    | false =>
      rw [h1] at C1
      have H1 := hid h1
      clear h1
      rw [show V = false by rw [HV.out]; unfold askH; rw [ask_swap]; simp [H0.out, H1.out]]
      go_enter Try.func32, Try.ntmps32
      go_wp2_with (fail)
      refine (C0 _ (by repeat (first | exact Ext.refl _ | assumption | refine Ext.alloc ?_ _ | refine Ext.drew ?_ | refine Ext.drewN ?_ _ | refine Ext.setCell ?_ (by first | exact Nat.le_refl _ | (simp; done) | (dsimp only; omega) | (simp only [World.size_alloc, World.size_setCell]; omega)) _ | refine Ext.trans ?_ (by assumption)))).mono ?_
      rintro e w1 ⟨rfl, hb1⟩
      have hz1 := Ext.size hb1
      try simp only [World.size_alloc, World.size_setCell] at hz1
      obtain ⟨hc1, hf1⟩ := Ext.cells hb1
      try have hk1_0_0 := fun o => hc1 (w.heap.size) o (by (try simp only [World.size_alloc, World.size_setCell]); omega)
      try have hj1_0_0 := fun o => hf1 (w.heap.size) o (by (try simp only [World.size_alloc, World.size_setCell]); omega)
      try have hy1_0_0 : w.heap.size < w1.heap.size := by omega
      try have hk1_0_1 := fun o => hc1 (w.heap.size + 1) o (by (try simp only [World.size_alloc, World.size_setCell]); omega)
      try have hj1_0_1 := fun o => hf1 (w.heap.size + 1) o (by (try simp only [World.size_alloc, World.size_setCell]); omega)
      try have hy1_0_1 : w.heap.size + 1 < w1.heap.size := by omega
      try have hk1_0_2 := fun o => hc1 (w.heap.size + 1 + 1) o (by (try simp only [World.size_alloc, World.size_setCell]); omega)
      try have hj1_0_2 := fun o => hf1 (w.heap.size + 1 + 1) o (by (try simp only [World.size_alloc, World.size_setCell]); omega)
      try have hy1_0_2 : w.heap.size + 1 + 1 < w1.heap.size := by omega
      clear hc1 hf1
      go_wp2_with (fail)
      refine (C1 _ (by repeat (first | exact Ext.refl _ | assumption | refine Ext.alloc ?_ _ | refine Ext.drew ?_ | refine Ext.drewN ?_ _ | refine Ext.setCell ?_ (by first | exact Nat.le_refl _ | (simp; done) | (dsimp only; omega) | (simp only [World.size_alloc, World.size_setCell]; omega)) _ | refine Ext.trans ?_ (by assumption)))).mono ?_
      rintro e w2 ⟨rfl, hb2⟩
      have hz2 := Ext.size hb2
      try simp only [World.size_alloc, World.size_setCell] at hz2
      obtain ⟨hc2, hf2⟩ := Ext.cells hb2
      try have hk2_0_0 := fun o => hc2 (w.heap.size) o (by (try simp only [World.size_alloc, World.size_setCell]); omega)
      try have hj2_0_0 := fun o => hf2 (w.heap.size) o (by (try simp only [World.size_alloc, World.size_setCell]); omega)
      try have hy2_0_0 : w.heap.size < w2.heap.size := by omega
      try have hk2_0_1 := fun o => hc2 (w.heap.size + 1) o (by (try simp only [World.size_alloc, World.size_setCell]); omega)
      try have hj2_0_1 := fun o => hf2 (w.heap.size + 1) o (by (try simp only [World.size_alloc, World.size_setCell]); omega)
      try have hy2_0_1 : w.heap.size + 1 < w2.heap.size := by omega
      try have hk2_0_2 := fun o => hc2 (w.heap.size + 1 + 1) o (by (try simp only [World.size_alloc, World.size_setCell]); omega)
      try have hj2_0_2 := fun o => hf2 (w.heap.size + 1 + 1) o (by (try simp only [World.size_alloc, World.size_setCell]); omega)
      try have hy2_0_2 : w.heap.size + 1 + 1 < w2.heap.size := by omega
      try have hk2_1_0 := fun o => hc2 (w1.heap.size) o (by (try simp only [World.size_alloc, World.size_setCell]); omega)
      try have hj2_1_0 := fun o => hf2 (w1.heap.size) o (by (try simp only [World.size_alloc, World.size_setCell]); omega)
      try have hy2_1_0 : w1.heap.size < w2.heap.size := by omega
      try have hk2_1_1 := fun o => hc2 (w1.heap.size + 1) o (by (try simp only [World.size_alloc, World.size_setCell]); omega)
      try have hj2_1_1 := fun o => hf2 (w1.heap.size + 1) o (by (try simp only [World.size_alloc, World.size_setCell]); omega)
      try have hy2_1_1 : w1.heap.size + 1 < w2.heap.size := by omega
      clear hc2 hf2
      go_wp2_with (fail)
      go_ret
      exact ⟨rfl, (by repeat (first | exact Ext.refl _ | assumption | refine Ext.alloc ?_ _ | refine Ext.drew ?_ | refine Ext.drewN ?_ _ | refine Ext.setCell ?_ (by first | exact Nat.le_refl _ | (simp; done) | (dsimp only; omega) | (simp only [World.size_alloc, World.size_setCell]; omega)) _ | refine Ext.trans ?_ (by assumption)))⟩
    | true =>
      rw [h1] at C1
      have H1 := hid h1
      clear h1
      cases h2 : okHs y m with
      | false =>
        rw [h2] at C2
        have H2 := hid h2
        clear h2
        rw [show V = false by rw [HV.out]; unfold askH; rw [ask_swap]; simp [H0.out, H1.out, H2.out]]
        go_enter Try.func32, Try.ntmps32
        go_wp2_with (fail)
        refine (C0 _ (by repeat (first | exact Ext.refl _ | assumption | refine Ext.alloc ?_ _ | refine Ext.drew ?_ | refine Ext.drewN ?_ _ | refine Ext.setCell ?_ (by first | exact Nat.le_refl _ | (simp; done) | (dsimp only; omega) | (simp only [World.size_alloc, World.size_setCell]; omega)) _ | refine Ext.trans ?_ (by assumption)))).mono ?_
        rintro e w1 ⟨rfl, hb1⟩
        have hz1 := Ext.size hb1
        try simp only [World.size_alloc, World.size_setCell] at hz1
        obtain ⟨hc1, hf1⟩ := Ext.cells hb1
        try have hk1_0_0 := fun o => hc1 (w.heap.size) o (by (try simp only [World.size_alloc, World.size_setCell]); omega)
        try have hj1_0_0 := fun o => hf1 (w.heap.size) o (by (try simp only [World.size_alloc, World.size_setCell]); omega)
        try have hy1_0_0 : w.heap.size < w1.heap.size := by omega
        try have hk1_0_1 := fun o => hc1 (w.heap.size + 1) o (by (try simp only [World.size_alloc, World.size_setCell]); omega)
        try have hj1_0_1 := fun o => hf1 (w.heap.size + 1) o (by (try simp only [World.size_alloc, World.size_setCell]); omega)
        try have hy1_0_1 : w.heap.size + 1 < w1.heap.size := by omega
        try have hk1_0_2 := fun o => hc1 (w.heap.size + 1 + 1) o (by (try simp only [World.size_alloc, World.size_setCell]); omega)
        try have hj1_0_2 := fun o => hf1 (w.heap.size + 1 + 1) o (by (try simp only [World.size_alloc, World.size_setCell]); omega)
        try have hy1_0_2 : w.heap.size + 1 + 1 < w1.heap.size := by omega
        clear hc1 hf1
        go_wp2_with (fail)
        refine (C1 _ (by repeat (first | exact Ext.refl _ | assumption | refine Ext.alloc ?_ _ | refine Ext.drew ?_ | refine Ext.drewN ?_ _ | refine Ext.setCell ?_ (by first | exact Nat.le_refl _ | (simp; done) | (dsimp only; omega) | (simp only [World.size_alloc, World.size_setCell]; omega)) _ | refine Ext.trans ?_ (by assumption)))).mono ?_
        rintro e w2 ⟨rfl, hb2⟩
        have hz2 := Ext.size hb2
        try simp only [World.size_alloc, World.size_setCell] at hz2
        obtain ⟨hc2, hf2⟩ := Ext.cells hb2
        try have hk2_0_0 := fun o => hc2 (w.heap.size) o (by (try simp only [World.size_alloc, World.size_setCell]); omega)
        try have hj2_0_0 := fun o => hf2 (w.heap.size) o (by (try simp only [World.size_alloc, World.size_setCell]); omega)
        try have hy2_0_0 : w.heap.size < w2.heap.size := by omega
        try have hk2_0_1 := fun o => hc2 (w.heap.size + 1) o (by (try simp only [World.size_alloc, World.size_setCell]); omega)
        try have hj2_0_1 := fun o => hf2 (w.heap.size + 1) o (by (try simp only [World.size_alloc, World.size_setCell]); omega)
        try have hy2_0_1 : w.heap.size + 1 < w2.heap.size := by omega
        try have hk2_0_2 := fun o => hc2 (w.heap.size + 1 + 1) o (by (try simp only [World.size_alloc, World.size_setCell]); omega)
        try have hj2_0_2 := fun o => hf2 (w.heap.size + 1 + 1) o (by (try simp only [World.size_alloc, World.size_setCell]); omega)
        try have hy2_0_2 : w.heap.size + 1 + 1 < w2.heap.size := by omega
        try have hk2_1_0 := fun o => hc2 (w1.heap.size) o (by (try simp only [World.size_alloc, World.size_setCell]); omega)
        try have hj2_1_0 := fun o => hf2 (w1.heap.size) o (by (try simp only [World.size_alloc, World.size_setCell]); omega)
        try have hy2_1_0 : w1.heap.size < w2.heap.size := by omega
        try have hk2_1_1 := fun o => hc2 (w1.heap.size + 1) o (by (try simp only [World.size_alloc, World.size_setCell]); omega)
        try have hj2_1_1 := fun o => hf2 (w1.heap.size + 1) o (by (try simp only [World.size_alloc, World.size_setCell]); omega)
        try have hy2_1_1 : w1.heap.size + 1 < w2.heap.size := by omega
        clear hc2 hf2
        go_wp2_with (fail)
        refine (C2 _ (by repeat (first | exact Ext.refl _ | assumption | refine Ext.alloc ?_ _ | refine Ext.drew ?_ | refine Ext.drewN ?_ _ | refine Ext.setCell ?_ (by first | exact Nat.le_refl _ | (simp; done) | (dsimp only; omega) | (simp only [World.size_alloc, World.size_setCell]; omega)) _ | refine Ext.trans ?_ (by assumption)))).mono ?_
        rintro e w3 ⟨rfl, hb3⟩
        have hz3 := Ext.size hb3
        try simp only [World.size_alloc, World.size_setCell] at hz3
        obtain ⟨hc3, hf3⟩ := Ext.cells hb3
        try have hk3_0_0 := fun o => hc3 (w.heap.size) o (by (try simp only [World.size_alloc, World.size_setCell]); omega)
        try have hj3_0_0 := fun o => hf3 (w.heap.size) o (by (try simp only [World.size_alloc, World.size_setCell]); omega)
        try have hy3_0_0 : w.heap.size < w3.heap.size := by omega
        try have hk3_0_1 := fun o => hc3 (w.heap.size + 1) o (by (try simp only [World.size_alloc, World.size_setCell]); omega)
        try have hj3_0_1 := fun o => hf3 (w.heap.size + 1) o (by (try simp only [World.size_alloc, World.size_setCell]); omega)
        try have hy3_0_1 : w.heap.size + 1 < w3.heap.size := by omega
        try have hk3_0_2 := fun o => hc3 (w.heap.size + 1 + 1) o (by (try simp only [World.size_alloc, World.size_setCell]); omega)
        try have hj3_0_2 := fun o => hf3 (w.heap.size + 1 + 1) o (by (try simp only [World.size_alloc, World.size_setCell]); omega)
        try have hy3_0_2 : w.heap.size + 1 + 1 < w3.heap.size := by omega
        try have hk3_1_0 := fun o => hc3 (w1.heap.size) o (by (try simp only [World.size_alloc, World.size_setCell]); omega)
        try have hj3_1_0 := fun o => hf3 (w1.heap.size) o (by (try simp only [World.size_alloc, World.size_setCell]); omega)
        try have hy3_1_0 : w1.heap.size < w3.heap.size := by omega
        try have hk3_1_1 := fun o => hc3 (w1.heap.size + 1) o (by (try simp only [World.size_alloc, World.size_setCell]); omega)
        try have hj3_1_1 := fun o => hf3 (w1.heap.size + 1) o (by (try simp only [World.size_alloc, World.size_setCell]); omega)
        try have hy3_1_1 : w1.heap.size + 1 < w3.heap.size := by omega
        try have hk3_2_0 := fun o => hc3 (w2.heap.size) o (by (try simp only [World.size_alloc, World.size_setCell]); omega)
        try have hj3_2_0 := fun o => hf3 (w2.heap.size) o (by (try simp only [World.size_alloc, World.size_setCell]); omega)
        try have hy3_2_0 : w2.heap.size < w3.heap.size := by omega
        try have hk3_2_1 := fun o => hc3 (w2.heap.size + 1) o (by (try simp only [World.size_alloc, World.size_setCell]); omega)
        try have hj3_2_1 := fun o => hf3 (w2.heap.size + 1) o (by (try simp only [World.size_alloc, World.size_setCell]); omega)
        try have hy3_2_1 : w2.heap.size + 1 < w3.heap.size := by omega
        clear hc3 hf3
        go_wp2_with (fail)
        go_ret
        exact ⟨rfl, (by repeat (first | exact Ext.refl _ | assumption | refine Ext.alloc ?_ _ | refine Ext.drew ?_ | refine Ext.drewN ?_ _ | refine Ext.setCell ?_ (by first | exact Nat.le_refl _ | (simp; done) | (dsimp only; omega) | (simp only [World.size_alloc, World.size_setCell]; omega)) _ | refine Ext.trans ?_ (by assumption)))⟩
      | true =>
        rw [h2] at C2
        have H2 := hid h2
        clear h2
        rw [show V = true by rw [HV.out]; unfold askH; rw [ask_swap]; simp [H0.out, H1.out, H2.out]]
        go_enter Try.func32, Try.ntmps32
        go_wp2_with (fail)
        refine (C0 _ (by repeat (first | exact Ext.refl _ | assumption | refine Ext.alloc ?_ _ | refine Ext.drew ?_ | refine Ext.drewN ?_ _ | refine Ext.setCell ?_ (by first | exact Nat.le_refl _ | (simp; done) | (dsimp only; omega) | (simp only [World.size_alloc, World.size_setCell]; omega)) _ | refine Ext.trans ?_ (by assumption)))).mono ?_
        rintro e w1 ⟨rfl, hb1⟩
        have hz1 := Ext.size hb1
        try simp only [World.size_alloc, World.size_setCell] at hz1
        obtain ⟨hc1, hf1⟩ := Ext.cells hb1
        try have hk1_0_0 := fun o => hc1 (w.heap.size) o (by (try simp only [World.size_alloc, World.size_setCell]); omega)
        try have hj1_0_0 := fun o => hf1 (w.heap.size) o (by (try simp only [World.size_alloc, World.size_setCell]); omega)
        try have hy1_0_0 : w.heap.size < w1.heap.size := by omega
        try have hk1_0_1 := fun o => hc1 (w.heap.size + 1) o (by (try simp only [World.size_alloc, World.size_setCell]); omega)
        try have hj1_0_1 := fun o => hf1 (w.heap.size + 1) o (by (try simp only [World.size_alloc, World.size_setCell]); omega)
        try have hy1_0_1 : w.heap.size + 1 < w1.heap.size := by omega
        try have hk1_0_2 := fun o => hc1 (w.heap.size + 1 + 1) o (by (try simp only [World.size_alloc, World.size_setCell]); omega)
        try have hj1_0_2 := fun o => hf1 (w.heap.size + 1 + 1) o (by (try simp only [World.size_alloc, World.size_setCell]); omega)
        try have hy1_0_2 : w.heap.size + 1 + 1 < w1.heap.size := by omega
        clear hc1 hf1
        go_wp2_with (fail)
        refine (C1 _ (by repeat (first | exact Ext.refl _ | assumption | refine Ext.alloc ?_ _ | refine Ext.drew ?_ | refine Ext.drewN ?_ _ | refine Ext.setCell ?_ (by first | exact Nat.le_refl _ | (simp; done) | (dsimp only; omega) | (simp only [World.size_alloc, World.size_setCell]; omega)) _ | refine Ext.trans ?_ (by assumption)))).mono ?_
        rintro e w2 ⟨rfl, hb2⟩
        have hz2 := Ext.size hb2
        try simp only [World.size_alloc, World.size_setCell] at hz2
        obtain ⟨hc2, hf2⟩ := Ext.cells hb2
        try have hk2_0_0 := fun o => hc2 (w.heap.size) o (by (try simp only [World.size_alloc, World.size_setCell]); omega)
        try have hj2_0_0 := fun o => hf2 (w.heap.size) o (by (try simp only [World.size_alloc, World.size_setCell]); omega)
        try have hy2_0_0 : w.heap.size < w2.heap.size := by omega
        try have hk2_0_1 := fun o => hc2 (w.heap.size + 1) o (by (try simp only [World.size_alloc, World.size_setCell]); omega)
        try have hj2_0_1 := fun o => hf2 (w.heap.size + 1) o (by (try simp only [World.size_alloc, World.size_setCell]); omega)
        try have hy2_0_1 : w.heap.size + 1 < w2.heap.size := by omega
        try have hk2_0_2 := fun o => hc2 (w.heap.size + 1 + 1) o (by (try simp only [World.size_alloc, World.size_setCell]); omega)
        try have hj2_0_2 := fun o => hf2 (w.heap.size + 1 + 1) o (by (try simp only [World.size_alloc, World.size_setCell]); omega)
        try have hy2_0_2 : w.heap.size + 1 + 1 < w2.heap.size := by omega
        try have hk2_1_0 := fun o => hc2 (w1.heap.size) o (by (try simp only [World.size_alloc, World.size_setCell]); omega)
        try have hj2_1_0 := fun o => hf2 (w1.heap.size) o (by (try simp only [World.size_alloc, World.size_setCell]); omega)
        try have hy2_1_0 : w1.heap.size < w2.heap.size := by omega
        try have hk2_1_1 := fun o => hc2 (w1.heap.size + 1) o (by (try simp only [World.size_alloc, World.size_setCell]); omega)
        try have hj2_1_1 := fun o => hf2 (w1.heap.size + 1) o (by (try simp only [World.size_alloc, World.size_setCell]); omega)
        try have hy2_1_1 : w1.heap.size + 1 < w2.heap.size := by omega
        clear hc2 hf2
        go_wp2_with (fail)
        refine (C2 _ (by repeat (first | exact Ext.refl _ | assumption | refine Ext.alloc ?_ _ | refine Ext.drew ?_ | refine Ext.drewN ?_ _ | refine Ext.setCell ?_ (by first | exact Nat.le_refl _ | (simp; done) | (dsimp only; omega) | (simp only [World.size_alloc, World.size_setCell]; omega)) _ | refine Ext.trans ?_ (by assumption)))).mono ?_
        rintro e w3 ⟨rfl, hb3⟩
        have hz3 := Ext.size hb3
        try simp only [World.size_alloc, World.size_setCell] at hz3
        obtain ⟨hc3, hf3⟩ := Ext.cells hb3
        try have hk3_0_0 := fun o => hc3 (w.heap.size) o (by (try simp only [World.size_alloc, World.size_setCell]); omega)
        try have hj3_0_0 := fun o => hf3 (w.heap.size) o (by (try simp only [World.size_alloc, World.size_setCell]); omega)
        try have hy3_0_0 : w.heap.size < w3.heap.size := by omega
        try have hk3_0_1 := fun o => hc3 (w.heap.size + 1) o (by (try simp only [World.size_alloc, World.size_setCell]); omega)
        try have hj3_0_1 := fun o => hf3 (w.heap.size + 1) o (by (try simp only [World.size_alloc, World.size_setCell]); omega)
        try have hy3_0_1 : w.heap.size + 1 < w3.heap.size := by omega
        try have hk3_0_2 := fun o => hc3 (w.heap.size + 1 + 1) o (by (try simp only [World.size_alloc, World.size_setCell]); omega)
        try have hj3_0_2 := fun o => hf3 (w.heap.size + 1 + 1) o (by (try simp only [World.size_alloc, World.size_setCell]); omega)
        try have hy3_0_2 : w.heap.size + 1 + 1 < w3.heap.size := by omega
        try have hk3_1_0 := fun o => hc3 (w1.heap.size) o (by (try simp only [World.size_alloc, World.size_setCell]); omega)
        try have hj3_1_0 := fun o => hf3 (w1.heap.size) o (by (try simp only [World.size_alloc, World.size_setCell]); omega)
        try have hy3_1_0 : w1.heap.size < w3.heap.size := by omega
        try have hk3_1_1 := fun o => hc3 (w1.heap.size + 1) o (by (try simp only [World.size_alloc, World.size_setCell]); omega)
        try have hj3_1_1 := fun o => hf3 (w1.heap.size + 1) o (by (try simp only [World.size_alloc, World.size_setCell]); omega)
        try have hy3_1_1 : w1.heap.size + 1 < w3.heap.size := by omega
        try have hk3_2_0 := fun o => hc3 (w2.heap.size) o (by (try simp only [World.size_alloc, World.size_setCell]); omega)
        try have hj3_2_0 := fun o => hf3 (w2.heap.size) o (by (try simp only [World.size_alloc, World.size_setCell]); omega)
        try have hy3_2_0 : w2.heap.size < w3.heap.size := by omega
        try have hk3_2_1 := fun o => hc3 (w2.heap.size + 1) o (by (try simp only [World.size_alloc, World.size_setCell]); omega)
        try have hj3_2_1 := fun o => hf3 (w2.heap.size + 1) o (by (try simp only [World.size_alloc, World.size_setCell]); omega)
        try have hy3_2_1 : w2.heap.size + 1 < w3.heap.size := by omega
        clear hc3 hf3
        go_wp2_with (fail)
        go_ret
        exact ⟨rfl, (by repeat (first | exact Ext.refl _ | assumption | refine Ext.alloc ?_ _ | refine Ext.drew ?_ | refine Ext.drewN ?_ _ | refine Ext.setCell ?_ (by first | exact Nat.le_refl _ | (simp; done) | (dsimp only; omega) | (simp only [World.size_alloc, World.size_setCell]; omega)) _ | refine Ext.trans ?_ (by assumption)))⟩


set_option maxRecDepth 100000 in
set_option maxHeartbeats 1600000 in
theorem hoAsked_any (v : Value) (nT : Nat) (zT : List Int) (nL : Nat) (zL : List Int) (u : Value) (n : Nat) (z : List Int) (i : Int) (x : Value) (m : Nat) (y : List Int) (w : World) (hN : NetRow w v nT zT nL zL) (hU : IntRow .i64 3 w u n z) (hX : IntRow .i64 2 w x m y) :
    Calls Try.prog 45 #[v, u, .int .i64 i, x] w fun e w' => e = .returned (.bool (askH nT zT nL zL z n i && okHs y m)) ∧ Ext w w' := by
  have hN0 := hN
  obtain ⟨vT, vL, rfl, hT, hL⟩ := hN
  obtain ⟨_, hmT, _, aT, cT, rfl, _, _, _⟩ := hT
  obtain ⟨_, hmL, _, aL, cL, rfl, _, _, _⟩ := hL
  have hnT : nT ≤ 9223372036854775807 := by unfold maxLen at hmT; omega
  have hnL : nL ≤ 9223372036854775807 := by unfold maxLen at hmL; omega
  clear hmT hmL
  obtain ⟨V, hV⟩ : ∃ b : Bool, b = (askH nT zT nL zL z n i && okHs y m) := ⟨_, rfl⟩
  rw [← hV]
  have HV := hid hV
  clear hV
  have C0 := fun (W : World) (hW : Ext w W) => fgHas_any _ nT zT nL zL u n z i W (hN0.ext hW) (hU.ext hW)
  have C1 := fun (W : World) (hW : Ext w W) => hoGood_any x m y W (hX.ext hW)
  cases h0 : (okNet nT zT nL zL && (okFg nL z n && inR i 0 ((nL : Int) - 1))) with
  | false =>
    rw [h0] at C0
    have H0 := hid h0
    clear h0
    rw [show V = false by rw [HV.out]; unfold askH; simp [H0.out]]
    go_enter Try.func45, Try.ntmps45
    go_wp2_with (fail)
    refine (C0 _ (by repeat (first | exact Ext.refl _ | assumption | refine Ext.alloc ?_ _ | refine Ext.drew ?_ | refine Ext.drewN ?_ _ | refine Ext.setCell ?_ (by first | exact Nat.le_refl _ | (simp; done) | (dsimp only; omega) | (simp only [World.size_alloc, World.size_setCell]; omega)) _ | refine Ext.trans ?_ (by assumption)))).mono ?_
    rintro e w1 ⟨rfl, hb1⟩
    have hz1 := Ext.size hb1
    try simp only [World.size_alloc, World.size_setCell] at hz1
    obtain ⟨hc1, hf1⟩ := Ext.cells hb1
    try have hk1_0_0 := fun o => hc1 (w.heap.size) o (by (try simp only [World.size_alloc, World.size_setCell]); omega)
    try have hj1_0_0 := fun o => hf1 (w.heap.size) o (by (try simp only [World.size_alloc, World.size_setCell]); omega)
    try have hy1_0_0 : w.heap.size < w1.heap.size := by omega
    try have hk1_0_1 := fun o => hc1 (w.heap.size + 1) o (by (try simp only [World.size_alloc, World.size_setCell]); omega)
    try have hj1_0_1 := fun o => hf1 (w.heap.size + 1) o (by (try simp only [World.size_alloc, World.size_setCell]); omega)
    try have hy1_0_1 : w.heap.size + 1 < w1.heap.size := by omega
    try have hk1_0_2 := fun o => hc1 (w.heap.size + 1 + 1) o (by (try simp only [World.size_alloc, World.size_setCell]); omega)
    try have hj1_0_2 := fun o => hf1 (w.heap.size + 1 + 1) o (by (try simp only [World.size_alloc, World.size_setCell]); omega)
    try have hy1_0_2 : w.heap.size + 1 + 1 < w1.heap.size := by omega
    clear hc1 hf1
    go_wp2_with (fail)
    go_ret
    exact ⟨rfl, (by repeat (first | exact Ext.refl _ | assumption | refine Ext.alloc ?_ _ | refine Ext.drew ?_ | refine Ext.drewN ?_ _ | refine Ext.setCell ?_ (by first | exact Nat.le_refl _ | (simp; done) | (dsimp only; omega) | (simp only [World.size_alloc, World.size_setCell]; omega)) _ | refine Ext.trans ?_ (by assumption)))⟩
  | true =>
    rw [h0] at C0
    have H0 := hid h0
    clear h0
    cases h1 : okHs y m with
    | false =>
      rw [h1] at C1
      have H1 := hid h1
      clear h1
      rw [show V = false by rw [HV.out]; unfold askH; simp [H0.out, H1.out]]
      go_enter Try.func45, Try.ntmps45
      go_wp2_with (fail)
      refine (C0 _ (by repeat (first | exact Ext.refl _ | assumption | refine Ext.alloc ?_ _ | refine Ext.drew ?_ | refine Ext.drewN ?_ _ | refine Ext.setCell ?_ (by first | exact Nat.le_refl _ | (simp; done) | (dsimp only; omega) | (simp only [World.size_alloc, World.size_setCell]; omega)) _ | refine Ext.trans ?_ (by assumption)))).mono ?_
      rintro e w1 ⟨rfl, hb1⟩
      have hz1 := Ext.size hb1
      try simp only [World.size_alloc, World.size_setCell] at hz1
      obtain ⟨hc1, hf1⟩ := Ext.cells hb1
      try have hk1_0_0 := fun o => hc1 (w.heap.size) o (by (try simp only [World.size_alloc, World.size_setCell]); omega)
      try have hj1_0_0 := fun o => hf1 (w.heap.size) o (by (try simp only [World.size_alloc, World.size_setCell]); omega)
      try have hy1_0_0 : w.heap.size < w1.heap.size := by omega
      try have hk1_0_1 := fun o => hc1 (w.heap.size + 1) o (by (try simp only [World.size_alloc, World.size_setCell]); omega)
      try have hj1_0_1 := fun o => hf1 (w.heap.size + 1) o (by (try simp only [World.size_alloc, World.size_setCell]); omega)
      try have hy1_0_1 : w.heap.size + 1 < w1.heap.size := by omega
      try have hk1_0_2 := fun o => hc1 (w.heap.size + 1 + 1) o (by (try simp only [World.size_alloc, World.size_setCell]); omega)
      try have hj1_0_2 := fun o => hf1 (w.heap.size + 1 + 1) o (by (try simp only [World.size_alloc, World.size_setCell]); omega)
      try have hy1_0_2 : w.heap.size + 1 + 1 < w1.heap.size := by omega
      clear hc1 hf1
      go_wp2_with (fail)
      refine (C1 _ (by repeat (first | exact Ext.refl _ | assumption | refine Ext.alloc ?_ _ | refine Ext.drew ?_ | refine Ext.drewN ?_ _ | refine Ext.setCell ?_ (by first | exact Nat.le_refl _ | (simp; done) | (dsimp only; omega) | (simp only [World.size_alloc, World.size_setCell]; omega)) _ | refine Ext.trans ?_ (by assumption)))).mono ?_
      rintro e w2 ⟨rfl, hb2⟩
      have hz2 := Ext.size hb2
      try simp only [World.size_alloc, World.size_setCell] at hz2
      obtain ⟨hc2, hf2⟩ := Ext.cells hb2
      try have hk2_0_0 := fun o => hc2 (w.heap.size) o (by (try simp only [World.size_alloc, World.size_setCell]); omega)
      try have hj2_0_0 := fun o => hf2 (w.heap.size) o (by (try simp only [World.size_alloc, World.size_setCell]); omega)
      try have hy2_0_0 : w.heap.size < w2.heap.size := by omega
      try have hk2_0_1 := fun o => hc2 (w.heap.size + 1) o (by (try simp only [World.size_alloc, World.size_setCell]); omega)
      try have hj2_0_1 := fun o => hf2 (w.heap.size + 1) o (by (try simp only [World.size_alloc, World.size_setCell]); omega)
      try have hy2_0_1 : w.heap.size + 1 < w2.heap.size := by omega
      try have hk2_0_2 := fun o => hc2 (w.heap.size + 1 + 1) o (by (try simp only [World.size_alloc, World.size_setCell]); omega)
      try have hj2_0_2 := fun o => hf2 (w.heap.size + 1 + 1) o (by (try simp only [World.size_alloc, World.size_setCell]); omega)
      try have hy2_0_2 : w.heap.size + 1 + 1 < w2.heap.size := by omega
      try have hk2_1_0 := fun o => hc2 (w1.heap.size) o (by (try simp only [World.size_alloc, World.size_setCell]); omega)
      try have hj2_1_0 := fun o => hf2 (w1.heap.size) o (by (try simp only [World.size_alloc, World.size_setCell]); omega)
      try have hy2_1_0 : w1.heap.size < w2.heap.size := by omega
      try have hk2_1_1 := fun o => hc2 (w1.heap.size + 1) o (by (try simp only [World.size_alloc, World.size_setCell]); omega)
      try have hj2_1_1 := fun o => hf2 (w1.heap.size + 1) o (by (try simp only [World.size_alloc, World.size_setCell]); omega)
      try have hy2_1_1 : w1.heap.size + 1 < w2.heap.size := by omega
      clear hc2 hf2
      go_wp2_with (fail)
      go_ret
      exact ⟨rfl, (by repeat (first | exact Ext.refl _ | assumption | refine Ext.alloc ?_ _ | refine Ext.drew ?_ | refine Ext.drewN ?_ _ | refine Ext.setCell ?_ (by first | exact Nat.le_refl _ | (simp; done) | (dsimp only; omega) | (simp only [World.size_alloc, World.size_setCell]; omega)) _ | refine Ext.trans ?_ (by assumption)))⟩
    | true =>
      rw [h1] at C1
      have H1 := hid h1
      clear h1
      rw [show V = true by rw [HV.out]; unfold askH; simp [H0.out, H1.out]]
      go_enter Try.func45, Try.ntmps45
      go_wp2_with (fail)
      refine (C0 _ (by repeat (first | exact Ext.refl _ | assumption | refine Ext.alloc ?_ _ | refine Ext.drew ?_ | refine Ext.drewN ?_ _ | refine Ext.setCell ?_ (by first | exact Nat.le_refl _ | (simp; done) | (dsimp only; omega) | (simp only [World.size_alloc, World.size_setCell]; omega)) _ | refine Ext.trans ?_ (by assumption)))).mono ?_
      rintro e w1 ⟨rfl, hb1⟩
      have hz1 := Ext.size hb1
      try simp only [World.size_alloc, World.size_setCell] at hz1
      obtain ⟨hc1, hf1⟩ := Ext.cells hb1
      try have hk1_0_0 := fun o => hc1 (w.heap.size) o (by (try simp only [World.size_alloc, World.size_setCell]); omega)
      try have hj1_0_0 := fun o => hf1 (w.heap.size) o (by (try simp only [World.size_alloc, World.size_setCell]); omega)
      try have hy1_0_0 : w.heap.size < w1.heap.size := by omega
      try have hk1_0_1 := fun o => hc1 (w.heap.size + 1) o (by (try simp only [World.size_alloc, World.size_setCell]); omega)
      try have hj1_0_1 := fun o => hf1 (w.heap.size + 1) o (by (try simp only [World.size_alloc, World.size_setCell]); omega)
      try have hy1_0_1 : w.heap.size + 1 < w1.heap.size := by omega
      try have hk1_0_2 := fun o => hc1 (w.heap.size + 1 + 1) o (by (try simp only [World.size_alloc, World.size_setCell]); omega)
      try have hj1_0_2 := fun o => hf1 (w.heap.size + 1 + 1) o (by (try simp only [World.size_alloc, World.size_setCell]); omega)
      try have hy1_0_2 : w.heap.size + 1 + 1 < w1.heap.size := by omega
      clear hc1 hf1
      go_wp2_with (fail)
      refine (C1 _ (by repeat (first | exact Ext.refl _ | assumption | refine Ext.alloc ?_ _ | refine Ext.drew ?_ | refine Ext.drewN ?_ _ | refine Ext.setCell ?_ (by first | exact Nat.le_refl _ | (simp; done) | (dsimp only; omega) | (simp only [World.size_alloc, World.size_setCell]; omega)) _ | refine Ext.trans ?_ (by assumption)))).mono ?_
      rintro e w2 ⟨rfl, hb2⟩
      have hz2 := Ext.size hb2
      try simp only [World.size_alloc, World.size_setCell] at hz2
      obtain ⟨hc2, hf2⟩ := Ext.cells hb2
      try have hk2_0_0 := fun o => hc2 (w.heap.size) o (by (try simp only [World.size_alloc, World.size_setCell]); omega)
      try have hj2_0_0 := fun o => hf2 (w.heap.size) o (by (try simp only [World.size_alloc, World.size_setCell]); omega)
      try have hy2_0_0 : w.heap.size < w2.heap.size := by omega
      try have hk2_0_1 := fun o => hc2 (w.heap.size + 1) o (by (try simp only [World.size_alloc, World.size_setCell]); omega)
      try have hj2_0_1 := fun o => hf2 (w.heap.size + 1) o (by (try simp only [World.size_alloc, World.size_setCell]); omega)
      try have hy2_0_1 : w.heap.size + 1 < w2.heap.size := by omega
      try have hk2_0_2 := fun o => hc2 (w.heap.size + 1 + 1) o (by (try simp only [World.size_alloc, World.size_setCell]); omega)
      try have hj2_0_2 := fun o => hf2 (w.heap.size + 1 + 1) o (by (try simp only [World.size_alloc, World.size_setCell]); omega)
      try have hy2_0_2 : w.heap.size + 1 + 1 < w2.heap.size := by omega
      try have hk2_1_0 := fun o => hc2 (w1.heap.size) o (by (try simp only [World.size_alloc, World.size_setCell]); omega)
      try have hj2_1_0 := fun o => hf2 (w1.heap.size) o (by (try simp only [World.size_alloc, World.size_setCell]); omega)
      try have hy2_1_0 : w1.heap.size < w2.heap.size := by omega
      try have hk2_1_1 := fun o => hc2 (w1.heap.size + 1) o (by (try simp only [World.size_alloc, World.size_setCell]); omega)
      try have hj2_1_1 := fun o => hf2 (w1.heap.size + 1) o (by (try simp only [World.size_alloc, World.size_setCell]); omega)
      try have hy2_1_1 : w1.heap.size + 1 < w2.heap.size := by omega
      clear hc2 hf2
      go_wp2_with (fail)
      go_ret
      exact ⟨rfl, (by repeat (first | exact Ext.refl _ | assumption | refine Ext.alloc ?_ _ | refine Ext.drew ?_ | refine Ext.drewN ?_ _ | refine Ext.setCell ?_ (by first | exact Nat.le_refl _ | (simp; done) | (dsimp only; omega) | (simp only [World.size_alloc, World.size_setCell]; omega)) _ | refine Ext.trans ?_ (by assumption)))⟩

end Go.Proofs.Ytjmbhlhkjjinbaa