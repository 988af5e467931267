/- The law of clocks: turned bounds turn back, chains add their widths, and what all bounds have in common lies in each of them. No condition. -/
import Derived.Test.YtiemkobgpaekoaaClkN
import Derived.Test.YtiemkobgpaekoaaClkL
namespace Go.Proofs.Ytiemkobgpaekoaa
open Go.RowKit
set_option linter.unusedSimpArgs false
set_option linter.unusedVariables false

theorem maxF_ge (g : Nat → Int) : ∀ n j, j < n → g j ≤ maxF g n
  | 0, _, h => absurd h (by omega)
  | n + 1, j, h => by
    rw [maxF]
    by_cases e : j = n
    · subst e; exact Int.le_max_right _ _
    · exact Int.le_trans (maxF_ge g n j (by omega)) (Int.le_max_left _ _)
theorem minF_le (g : Nat → Int) : ∀ n j, j < n → minF g n ≤ g j
  | 0, _, h => absurd h (by omega)
  | n + 1, j, h => by
    rw [minF]
    by_cases e : j = n
    · subst e; exact Int.min_le_right _ _
    · exact Int.le_trans (Int.min_le_left _ _) (minF_le g n j (by omega))

theorem meetPair (v : Value) (n : Nat) (z : List Int) : ∃ (P Q : Int) (b : Bool), (∀ w, IntRow .i64 2 w v n z → Calls Try.prog 42 #[v] w fun e w' => e = .returned (.tuple #[.agg #[.int .i64 P, .int .i64 Q], .bool b]) ∧ Ext w w') ∧ (∀ w, IntRow .i64 2 w v n z → Calls Try.prog 41 #[v] w fun e w' => e = .returned (.tuple #[.agg #[.int .i64 P, .int .i64 Q], .bool b]) ∧ Ext w w') ∧ (b = true → okBs z n = true ∧ n ≤ 20 ∧ bnd P Q = true ∧ ∀ j, j < n → loAt z j ≤ P ∧ Q ≤ hiAt z j) := by
  refine ⟨_, _, _, fun w h => iMeet_any v n z w h, fun w h => sMeet_any v n z w h, ?_⟩
  intro h
  rw [Bool.and_eq_true] at h
  obtain ⟨h1, h2⟩ := h
  rw [h1, h2, okV_t, okV_t, okV_t, okV_t]
  rw [Bool.and_eq_true, inR_iff] at h1
  exact ⟨h1.1, by omega, h2, fun j hj => ⟨maxF_ge _ _ _ hj, minF_le _ _ _ hj⟩⟩

theorem chainPair (v : Value) (n : Nat) (z : List Int) : ∃ (P Q : Int) (b : Bool), (∀ w, IntRow .i64 2 w v n z → Calls Try.prog 39 #[v] w fun e w' => e = .returned (.tuple #[.agg #[.int .i64 P, .int .i64 Q], .bool b]) ∧ Ext w w') ∧ (∀ w, IntRow .i64 2 w v n z → Calls Try.prog 37 #[v] w fun e w' => e = .returned (.tuple #[.agg #[.int .i64 P, .int .i64 Q], .bool b]) ∧ Ext w w') ∧ (b = true → okBs z n = true ∧ n ≤ 20 ∧ bnd P Q = true ∧ sumF (hiAt z) n - sumF (loAt z) n = Q - P) := by
  refine ⟨_, _, _, fun w h => iChain_any v n z w h, fun w h => sChain_any v n z w h, ?_⟩
  intro h
  rw [Bool.and_eq_true] at h
  obtain ⟨h1, h2⟩ := h
  rw [h1, h2, okV_t, okV_t, okV_t, okV_t]
  rw [Bool.and_eq_true, inR_iff] at h1
  exact ⟨h1.1, by omega, h2, rfl⟩

theorem turnPair (x y : Int) : ∃ (P Q d : Int) (b : Bool), (∀ w, Calls Try.prog 26 #[.agg #[.int .i64 x, .int .i64 y]] w fun e w' => e = .returned (.tuple #[.agg #[.int .i64 P, .int .i64 Q], .bool b]) ∧ Ext w w') ∧ (∀ w, Calls Try.prog 25 #[.agg #[.int .i64 x, .int .i64 y]] w fun e w' => e = .returned (.tuple #[.agg #[.int .i64 P, .int .i64 Q], .bool b]) ∧ Ext w w') ∧ (∀ w, Calls Try.prog 20 #[.agg #[.int .i64 x, .int .i64 y]] w fun e w' => e = .returned (.tuple #[.int .i64 d, .bool b]) ∧ Ext w w') ∧ (∀ w, Calls Try.prog 19 #[.agg #[.int .i64 x, .int .i64 y]] w fun e w' => e = .returned (.tuple #[.int .i64 d, .bool b]) ∧ Ext w w') ∧ (∀ w, Calls Try.prog 18 #[.agg #[.int .i64 x, .int .i64 y]] w fun e w' => e = .returned (.bool b) ∧ Ext w w') ∧ (b = true → ∀ w, Calls Try.prog 26 #[.agg #[.int .i64 P, .int .i64 Q]] w fun e w' => e = .returned (.tuple #[.agg #[.int .i64 x, .int .i64 y], .bool true]) ∧ Ext w w') := by
  refine ⟨_, _, _, _, fun w => iTurnBound_any x y w, fun w => sTurnBound_any x y w, fun w => iWidthOf_any x y w, fun w => sWidthOf_any x y w, fun w => iIsBound_any x y w, fun h w => ?_⟩
  rw [h, okV_t, okV_t]
  have := iTurnBound_any (-y) (-x) w
  have hb : bnd (-y) (-x) = true := by rw [bnd_iff] at *; omega
  rw [hb, okV_t, okV_t, Int.neg_neg, Int.neg_neg] at this
  exact this
theorem agedPair (x y d s : Int) : ∃ (P Q : Int) (b : Bool), (∀ w, Calls Try.prog 35 #[.agg #[.int .i64 x, .int .i64 y], .int .i64 d, .int .i64 s] w fun e w' => e = .returned (.tuple #[.agg #[.int .i64 P, .int .i64 Q], .bool b]) ∧ Ext w w') ∧ (∀ w, Calls Try.prog 34 #[.agg #[.int .i64 x, .int .i64 y], .int .i64 d, .int .i64 s] w fun e w' => e = .returned (.tuple #[.agg #[.int .i64 P, .int .i64 Q], .bool b]) ∧ Ext w w') ∧ (b = true → P ≤ x ∧ y ≤ Q) := by
  refine ⟨_, _, _, fun w => iAgedBound_any x y d s w, fun w => sAgedBound_any x y d s w, fun h => ?_⟩
  rw [Bool.and_eq_true] at h
  obtain ⟨h1, h2⟩ := h
  rw [h1, h2, okV_t, okV_t, okV_t, okV_t]
  rw [Bool.and_eq_true, Bool.and_eq_true, inR_iff, inR_iff] at h1
  have := ageI_bd h1.1.2.1 h1.1.2.2 h1.2.1 h1.2.2
  omega


set_option maxRecDepth 100000 in
set_option maxHeartbeats 8000000 in
theorem walkFnClocks (v0 : Value) (n0 : Nat) (z0 : List Int) (v1 : Value) (n1 : Nat) (z1 : List Int) (w : World) (r0 : IntRow .u8 1 w v0 n0 z0) (r1 : IntRow .u8 1 w v1 n1 z1) :
    Calls Try.prog 15 #[v0, v1] w fun e w' => e = .returned (.bool true) ∧ Ext w w' := by
  go_enter Try.func15, Try.ntmps15
  go_wp2_with (fail)
  refine (big_any v0 n0 z0 v1 n1 z1 w r0 r1).mono ?_
  rintro e w0 ⟨bg, rfl, hbg, rfl⟩
  cases bg
  case true =>
    go_wp2_with (fail)
    go_ret
    exact ⟨rfl, Ext.refl _⟩
  case false =>
  obtain ⟨hn0, hn1⟩ := hbg rfl
  clear hbg
  have E : Ext w w := Ext.refl w
  go_wp2_with (fail)
  refine (drawMeet v0 n0 z0 _ r0 hn0).mono ?_
  rintro e w1 ⟨v, m, zs, rfl, hr, hm22, k1⟩
  replace E := E.trans k1
  clear k1
  have HR := hid hr
  obtain ⟨hl, hmm, _, av, cv, rfl, hnc, hcm, hcell⟩ := hr
  clear hcell hmm
  obtain ⟨P, Q, mb, c1, c2, hmb⟩ := meetPair (.slice av m cv) m zs
  obtain ⟨P2, Q2, cb, c3, c4, hcb⟩ := chainPair (.slice av m cv) m zs
  have HMB := hid hmb
  have HCB := hid hcb
  clear hmb hcb
  go_wp2_with (fail)
  refine (c1 _ HR.out).mono ?_
  rintro e w2 ⟨rfl, k2⟩
  replace E := E.trans k2
  replace HR := hid (HR.out.ext k2)
  clear k2
  have T6 := Two.new w2 P Q
  go_wp2_with (fail)
  have k3 : Ext w2 (w2.alloc (.cells #[.int .i64 P, .int .i64 Q] 25)) := (Ext.refl _).alloc _
  replace E := E.trans k3
  replace HR := hid (HR.out.ext k3)
  clear k3
  obtain ⟨bT6, hbT6⟩ : ∃ b, b = w2.heap.size := ⟨_, rfl⟩
  rw [← hbT6] at T6 ⊢
  clear hbT6
  generalize (w2.alloc (.cells #[.int .i64 P, .int .i64 Q] 25)) = w3 at T6 HR E ⊢
  have T6a := T6.1
  have T6b := T6.2.1
  have T6c := T6.2.2.2.2
  refine (c2 _ (HR.out.ext (by repeat (first | exact Ext.refl _ | assumption | refine Ext.alloc ?_ _ | refine Ext.drew ?_ | refine Ext.drewN ?_ _ | refine Ext.setCell ?_ (by first | exact Nat.le_refl _ | (simp; done) | (dsimp only; omega) | (simp only [World.size_alloc, World.size_setCell]; omega)) _ | refine Ext.trans ?_ (by assumption))))).mono ?_
  rintro e w4 ⟨rfl, k4⟩
  clear T6a T6b T6c
  replace E := E.trans k4
  replace T6 := T6.ext k4
  replace HR := hid (HR.out.ext k4)
  clear k4
  have T6a := T6.1
  have T6b := T6.2.1
  have T6c := T6.2.2.2.2
  have T8 := Two.new w4 P Q
  go_wp2_with (fail)
  have k5 : Ext w4 (w4.alloc (.cells #[.int .i64 P, .int .i64 Q] 25)) := (Ext.refl _).alloc _
  clear T6a T6b T6c
  replace E := E.trans k5
  replace T6 := T6.ext k5
  replace HR := hid (HR.out.ext k5)
  clear k5
  obtain ⟨bT8, hbT8⟩ : ∃ b, b = w4.heap.size := ⟨_, rfl⟩
  rw [← hbT8] at T8 ⊢
  clear hbT8
  generalize (w4.alloc (.cells #[.int .i64 P, .int .i64 Q] 25)) = w5 at T6 T8 HR E ⊢
  have T6a := T6.1
  have T6b := T6.2.1
  have T6c := T6.2.2.2.2
  have T8a := T8.1
  have T8b := T8.2.1
  have T8c := T8.2.2.2.2
  refine (c3 _ (HR.out.ext (by repeat (first | exact Ext.refl _ | assumption | refine Ext.alloc ?_ _ | refine Ext.drew ?_ | refine Ext.drewN ?_ _ | refine Ext.setCell ?_ (by first | exact Nat.le_refl _ | (simp; done) | (dsimp only; omega) | (simp only [World.size_alloc, World.size_setCell]; omega)) _ | refine Ext.trans ?_ (by assumption))))).mono ?_
  rintro e w6 ⟨rfl, k6⟩
  clear T6a T6b T6c T8a T8b T8c
  replace E := E.trans k6
  replace T6 := T6.ext k6
  replace T8 := T8.ext k6
  replace HR := hid (HR.out.ext k6)
  clear k6
  have T6a := T6.1
  have T6b := T6.2.1
  have T6c := T6.2.2.2.2
  have T8a := T8.1
  have T8b := T8.2.1
  have T8c := T8.2.2.2.2
  have T10 := Two.new w6 P2 Q2
  go_wp2_with (fail)
  have k7 : Ext w6 (w6.alloc (.cells #[.int .i64 P2, .int .i64 Q2] 25)) := (Ext.refl _).alloc _
  clear T6a T6b T6c T8a T8b T8c
  replace E := E.trans k7
  replace T6 := T6.ext k7
  replace T8 := T8.ext k7
  replace HR := hid (HR.out.ext k7)
  clear k7
  obtain ⟨bT10, hbT10⟩ : ∃ b, b = w6.heap.size := ⟨_, rfl⟩
  rw [← hbT10] at T10 ⊢
  clear hbT10
  generalize (w6.alloc (.cells #[.int .i64 P2, .int .i64 Q2] 25)) = w7 at T6 T8 T10 HR E ⊢
  have T6a := T6.1
  have T6b := T6.2.1
  have T6c := T6.2.2.2.2
  have T8a := T8.1
  have T8b := T8.2.1
  have T8c := T8.2.2.2.2
  have T10a := T10.1
  have T10b := T10.2.1
  have T10c := T10.2.2.2.2
  refine (c4 _ (HR.out.ext (by repeat (first | exact Ext.refl _ | assumption | refine Ext.alloc ?_ _ | refine Ext.drew ?_ | refine Ext.drewN ?_ _ | refine Ext.setCell ?_ (by first | exact Nat.le_refl _ | (simp; done) | (dsimp only; omega) | (simp only [World.size_alloc, World.size_setCell]; omega)) _ | refine Ext.trans ?_ (by assumption))))).mono ?_
  rintro e w8 ⟨rfl, k8⟩
  clear T6a T6b T6c T8a T8b T8c T10a T10b T10c
  replace E := E.trans k8
  replace T6 := T6.ext k8
  replace T8 := T8.ext k8
  replace T10 := T10.ext k8
  replace HR := hid (HR.out.ext k8)
  clear k8
  have T6a := T6.1
  have T6b := T6.2.1
  have T6c := T6.2.2.2.2
  have T8a := T8.1
  have T8b := T8.2.1
  have T8c := T8.2.2.2.2
  have T10a := T10.1
  have T10b := T10.2.1
  have T10c := T10.2.2.2.2
  have T12 := Two.new w8 P2 Q2
  go_upto_if 89 with (fail)
  have k9 : Ext w8 (w8.alloc (.cells #[.int .i64 P2, .int .i64 Q2] 25)) := (Ext.refl _).alloc _
  clear T6a T6b T6c T8a T8b T8c T10a T10b T10c
  replace E := E.trans k9
  replace T6 := T6.ext k9
  replace T8 := T8.ext k9
  replace T10 := T10.ext k9
  replace HR := hid (HR.out.ext k9)
  clear k9
  obtain ⟨bT12, hbT12⟩ : ∃ b, b = w8.heap.size := ⟨_, rfl⟩
  rw [← hbT12] at T12 ⊢
  clear hbT12
  generalize (w8.alloc (.cells #[.int .i64 P2, .int .i64 Q2] 25)) = w9 at T6 T8 T10 T12 HR E ⊢
  have T6a := T6.1
  have T6b := T6.2.1
  have T6c := T6.2.2.2.2
  have T8a := T8.1
  have T8b := T8.2.1
  have T8c := T8.2.2.2.2
  have T10a := T10.1
  have T10b := T10.2.1
  have T10c := T10.2.2.2.2
  have T12a := T12.1
  have T12b := T12.2.1
  have T12c := T12.2.2.2.2
  go_cut [15] from 46 to 111 (fun s15 wx => Ext w wx ∧ IntRow .i64 2 wx (.slice av m cv) m zs ∧ Two wx bT10 P2 Q2)
  case first =>
    cases mb with
    | false =>
      go_wp2_with (fail)
      go_meet
      exact ⟨E, HR.out, T10⟩
    | true =>
      obtain ⟨hok, hm20, hbn, hmin⟩ := HMB.out rfl
      have HOK := hid hok
      have HMIN := hid hmin
      clear hok hmin
      go_wp2_with (fail)
      go_loopw [92] (fun i wr => ∃ k : Nat, k ≤ m ∧ i = .int .i64 (k : Int) ∧ Ext w9 wr)
        (fun i _ => m - (intOf i).toNat)
      case atStart => exact ⟨0, Nat.zero_le _, rfl, Ext.refl _⟩
      case round =>
        obtain ⟨k, hk, rfl, hE⟩ := hrel
        clear T6a T6b T6c T8a T8b T8c T10a T10b T10c T12a T12b T12c
        have HR0 := HR
        replace E := E.trans hE
        replace T6 := T6.ext hE
        replace T8 := T8.ext hE
        replace T10 := T10.ext hE
        replace T12 := T12.ext hE
        replace HR := hid (HR.out.ext hE)
        have T6a := T6.1
        have T6b := T6.2.1
        have T6c := T6.2.2.2.2
        have T8a := T8.1
        have T8b := T8.2.1
        have T8c := T8.2.2.2.2
        have T10a := T10.1
        have T10b := T10.2.1
        have T10c := T10.2.2.2.2
        have T12a := T12.1
        have T12b := T12.2.1
        have T12c := T12.2.2.2.2
        by_cases hlt : k < m
        · obtain ⟨_, _, _, _, _, he, _, _, hcell⟩ := (HR0.out)
          obtain ⟨b, o, hav, hb, hc⟩ := hcell.resolve_left (by omega)
          simp only [Value.slice.injEq, true_and] at he
          obtain ⟨rfl, rfl⟩ := he
          subst hav
          clear hcell
          obtain ⟨x0, hx0⟩ : ∃ a, a = loAt zs k := ⟨_, rfl⟩
          obtain ⟨x1, hx1⟩ : ∃ a, a = hiAt zs k := ⟨_, rfl⟩
          have s0 : wr.cell? ⟨b, o + k * 2, none⟩ = some (.int .i64 x0) := by rw [(Ext.cells hE).1 _ _ hb, hc _ (by omega), hx0]; rfl
          have s1 : wr.cell? ⟨b, o + k * 2 + 1, none⟩ = some (.int .i64 x1) := by rw [(Ext.cells hE).1 _ _ hb, show o + k * 2 + 1 = o + (k * 2 + 1) by omega, hc _ (by omega), hx1]; rfl
          have hbr : b < wr.heap.size := Nat.lt_of_lt_of_le hb hE.size
          clear hc
          obtain ⟨g1, g2⟩ := HMIN.out k hlt
          rw [← hx0] at g1
          rw [← hx1] at g2
          clear hx0 hx1
          have t1 : decide (P < x0) = false := by simp; omega
          have t2 : decide (x1 < Q) = false := by simp; omega
          have tl : decide ((k : Int) < (m : Int)) = true := by simp; omega
          go_wp2_with (fail)
          go_roundw
          case rel => exact ⟨k + 1, by omega, by go_num, hE.alloc _⟩
          case measure => simp [intOf]; omega
        · obtain rfl : k = m := by omega
          have tl : decide ((k : Int) < (k : Int)) = false := by simp
          go_wp2_with (fail)
          refine (iIsBound_any P Q _).mono ?_
          rw [hbn]
          rintro e w99 ⟨rfl, k99⟩
          clear T6a T6b T6c T8a T8b T8c T10a T10b T10c T12a T12b T12c
          replace E := E.trans k99
          replace T6 := T6.ext k99
          replace T8 := T8.ext k99
          replace T10 := T10.ext k99
          replace T12 := T12.ext k99
          replace HR := hid (HR.out.ext k99)
          clear k99
          have T6a := T6.1
          have T6b := T6.2.1
          have T6c := T6.2.2.2.2
          have T8a := T8.1
          have T8b := T8.2.1
          have T8c := T8.2.2.2.2
          have T10a := T10.1
          have T10b := T10.2.1
          have T10c := T10.2.2.2.2
          have T12a := T12.1
          have T12b := T12.2.1
          have T12c := T12.2.2.2.2
          go_wp2_with (fail)
          go_meet
          exact ⟨E, HR.out, T10⟩
  case rest =>
  clear T6a T6b T6c T8a T8b T8c T10a T10b T10c T12a T12b T12c
  clear E HR T6 T8 T10 T12
  obtain ⟨E, hr, T10⟩ := hcut
  have HR := hid hr
  clear hr
  have T10a := T10.1
  have T10b := T10.2.1
  have T10c := T10.2.2.2.2
  go_upto_if 112 with (fail)
  go_cut [16, 18, 19, 20, 21, 22] from 112 to 141 (fun s16 s18 s19 s20 s21 s22 wx => Ext w wx)
  case first =>
    cases cb with
    | false =>
      go_wp2_with (fail)
      go_meet
      exact E
    | true =>
      obtain ⟨hok, hm20, hbn, hsum⟩ := HCB.out rfl
      have HOK := hid hok
      have HSUM := hid hsum
      clear hok hsum
      go_wp2_with (fail)
      go_loopw [16, 115] (fun q16 i wr => ∃ k : Nat, k ≤ m ∧ i = .int .i64 (k : Int) ∧ q16 = .int .i64 (sumF (hiAt zs) k - sumF (loAt zs) k) ∧ Ext wc wr)
        (fun _ i _ => m - (intOf i).toNat)
      case atStart => exact ⟨0, Nat.zero_le _, rfl, rfl, Ext.refl _⟩
      case round =>
        obtain ⟨k, hk, rfl, rfl, hE⟩ := hrel
        have HR0 := HR
        clear T10a T10b T10c
        replace E := E.trans hE
        replace T10 := T10.ext hE
        replace HR := hid (HR.out.ext hE)
        have T10a := T10.1
        have T10b := T10.2.1
        have T10c := T10.2.2.2.2
        obtain ⟨S, hS⟩ : ∃ a, a = sumF (hiAt zs) k - sumF (loAt zs) k := ⟨_, rfl⟩
        rw [← hS]
        by_cases hlt : k < m
        · obtain ⟨_, _, _, _, _, he, _, _, hcell⟩ := (HR0.out)
          obtain ⟨b, o, hav, hb, hc⟩ := hcell.resolve_left (by omega)
          simp only [Value.slice.injEq, true_and] at he
          obtain ⟨rfl, rfl⟩ := he
          subst hav
          clear hcell
          obtain ⟨x0, hx0⟩ : ∃ a, a = loAt zs k := ⟨_, rfl⟩
          obtain ⟨x1, hx1⟩ : ∃ a, a = hiAt zs k := ⟨_, rfl⟩
          have s0 : wr.cell? ⟨b, o + k * 2, none⟩ = some (.int .i64 x0) := by rw [(Ext.cells hE).1 _ _ hb, hc _ (by omega), hx0]; rfl
          have s1 : wr.cell? ⟨b, o + k * 2 + 1, none⟩ = some (.int .i64 x1) := by rw [(Ext.cells hE).1 _ _ hb, show o + k * 2 + 1 = o + (k * 2 + 1) by omega, hc _ (by omega), hx1]; rfl
          have hbr : b < wr.heap.size := Nat.lt_of_lt_of_le hb hE.size
          clear hc
          have hb01 : bnd x0 x1 = true := by rw [hx0, hx1]; exact okBs_get HOK.out k hlt
          have hbb := bnd_iff.1 hb01
          have hsb1 := sumF_bd (g := loAt zs) (m := 100000) (n := m) (by omega) (fun j hj => by have := okBs_bd HOK.out j hj; omega) k (by omega)
          have hsb2 := sumF_bd (g := hiAt zs) (m := 100000) (n := m) (by omega) (fun j hj => by have := okBs_bd HOK.out j hj; omega) k (by omega)
          have hw1 : IntKind.i64.wrap (S + (x1 - x0)) = S + (x1 - x0) := IntWalk.i64_in _ (by omega)
          have HN := hid (show sumF (hiAt zs) (k + 1) - sumF (loAt zs) (k + 1) = S + (x1 - x0) by rw [sumF, sumF, ← hx0, ← hx1, hS]; omega)
          clear hx0 hx1 hsb1 hsb2 hS
          have tl : decide ((k : Int) < (m : Int)) = true := by simp; omega
          have T18 := Two.new wr x0 x1
          go_wp2_with (fail)
          obtain ⟨b18, hb18⟩ : ∃ b, b = wr.heap.size := ⟨_, rfl⟩
          rw [← hb18] at T18 ⊢
          clear hb18
          have hE2 := hE.alloc (.cells #[.int .i64 x0, .int .i64 x1] 25)
          generalize wr.alloc (.cells #[.int .i64 x0, .int .i64 x1] 25) = wq at T18 hE2 ⊢
          refine (widT hb01 _).mono ?_
          rintro e w98 ⟨rfl, k98⟩
          go_wp2_with (fail)
          go_roundw
          case rel => exact ⟨k + 1, by omega, by go_num, by rw [HN.out], hE2.trans k98⟩
          case measure => simp [intOf]; omega
        · obtain rfl : k = m := by omega
          have tl : decide ((k : Int) < (k : Int)) = false := by simp
          have hSQ : S = Q2 - P2 := by rw [hS]; exact HSUM.out
          clear hS
          subst hSQ
          go_wp2_with (fail)
          refine (widT hbn _).mono ?_
          rintro e w10 ⟨rfl, k10⟩
          clear T10a T10b T10c
          replace E := E.trans k10
          replace T10 := T10.ext k10
          replace HR := hid (HR.out.ext k10)
          clear k10
          have T10a := T10.1
          have T10b := T10.2.1
          have T10c := T10.2.2.2.2
          go_wp2_with (fail)
          go_meet
          exact E
  case rest =>
  clear T10a T10b T10c
  clear E HR T10
  have E := hcut
  clear hcut
  go_wp2_with (fail)
  refine (drawTurn v1 n1 z1 _ (r1.ext E) hn1).mono ?_
  rintro e y10 ⟨x, y, rfl, k10⟩
  replace E := E.trans k10
  clear k10
  have T23 := Two.new y10 x y
  obtain ⟨P, Q, d, tb, c1, c2, c3, c4, c5, htb⟩ := turnPair x y
  have HTB := hid htb
  clear htb
  go_wp2_with (fail)
  have k11 : Ext y10 (y10.alloc (.cells #[.int .i64 x, .int .i64 y] 25)) := (Ext.refl _).alloc _
  replace E := E.trans k11
  clear k11
  obtain ⟨bT23, hbT23⟩ : ∃ b, b = y10.heap.size := ⟨_, rfl⟩
  rw [← hbT23] at T23 ⊢
  clear hbT23
  generalize (y10.alloc (.cells #[.int .i64 x, .int .i64 y] 25)) = y11 at T23 E ⊢
  have T23a := T23.1
  have T23b := T23.2.1
  have T23c := T23.2.2.2.2
  refine (c1 _).mono ?_
  rintro e y12 ⟨rfl, k12⟩
  clear T23a T23b T23c
  replace E := E.trans k12
  replace T23 := T23.ext k12
  clear k12
  have T23a := T23.1
  have T23b := T23.2.1
  have T23c := T23.2.2.2.2
  have T24 := Two.new y12 P Q
  go_wp2_with (fail)
  have k13 : Ext y12 (y12.alloc (.cells #[.int .i64 P, .int .i64 Q] 25)) := (Ext.refl _).alloc _
  clear T23a T23b T23c
  replace E := E.trans k13
  replace T23 := T23.ext k13
  clear k13
  obtain ⟨bT24, hbT24⟩ : ∃ b, b = y12.heap.size := ⟨_, rfl⟩
  rw [← hbT24] at T24 ⊢
  clear hbT24
  generalize (y12.alloc (.cells #[.int .i64 P, .int .i64 Q] 25)) = y13 at T23 T24 E ⊢
  have T23a := T23.1
  have T23b := T23.2.1
  have T23c := T23.2.2.2.2
  have T24a := T24.1
  have T24b := T24.2.1
  have T24c := T24.2.2.2.2
  refine (c2 _).mono ?_
  rintro e y14 ⟨rfl, k14⟩
  clear T23a T23b T23c T24a T24b T24c
  replace E := E.trans k14
  replace T23 := T23.ext k14
  replace T24 := T24.ext k14
  clear k14
  have T23a := T23.1
  have T23b := T23.2.1
  have T23c := T23.2.2.2.2
  have T24a := T24.1
  have T24b := T24.2.1
  have T24c := T24.2.2.2.2
  have T26 := Two.new y14 P Q
  go_wp2_with (fail)
  have k15 : Ext y14 (y14.alloc (.cells #[.int .i64 P, .int .i64 Q] 25)) := (Ext.refl _).alloc _
  clear T23a T23b T23c T24a T24b T24c
  replace E := E.trans k15
  replace T23 := T23.ext k15
  replace T24 := T24.ext k15
  clear k15
  obtain ⟨bT26, hbT26⟩ : ∃ b, b = y14.heap.size := ⟨_, rfl⟩
  rw [← hbT26] at T26 ⊢
  clear hbT26
  generalize (y14.alloc (.cells #[.int .i64 P, .int .i64 Q] 25)) = y15 at T23 T24 T26 E ⊢
  have T23a := T23.1
  have T23b := T23.2.1
  have T23c := T23.2.2.2.2
  have T24a := T24.1
  have T24b := T24.2.1
  have T24c := T24.2.2.2.2
  have T26a := T26.1
  have T26b := T26.2.1
  have T26c := T26.2.2.2.2
  refine (c3 _).mono ?_
  rintro e y16 ⟨rfl, k16⟩
  clear T23a T23b T23c T24a T24b T24c T26a T26b T26c
  replace E := E.trans k16
  replace T23 := T23.ext k16
  replace T24 := T24.ext k16
  replace T26 := T26.ext k16
  clear k16
  have T23a := T23.1
  have T23b := T23.2.1
  have T23c := T23.2.2.2.2
  have T24a := T24.1
  have T24b := T24.2.1
  have T24c := T24.2.2.2.2
  have T26a := T26.1
  have T26b := T26.2.1
  have T26c := T26.2.2.2.2
  go_wp2_with (fail)
  refine (c4 _).mono ?_
  rintro e y17 ⟨rfl, k17⟩
  clear T23a T23b T23c T24a T24b T24c T26a T26b T26c
  replace E := E.trans k17
  replace T23 := T23.ext k17
  replace T24 := T24.ext k17
  replace T26 := T26.ext k17
  clear k17
  have T23a := T23.1
  have T23b := T23.2.1
  have T23c := T23.2.2.2.2
  have T24a := T24.1
  have T24b := T24.2.1
  have T24c := T24.2.2.2.2
  have T26a := T26.1
  have T26b := T26.2.1
  have T26c := T26.2.2.2.2
  go_wp2_with (fail)
  refine (c5 _).mono ?_
  rintro e y18 ⟨rfl, k18⟩
  clear T23a T23b T23c T24a T24b T24c T26a T26b T26c
  replace E := E.trans k18
  replace T23 := T23.ext k18
  replace T24 := T24.ext k18
  replace T26 := T26.ext k18
  clear k18
  have T23a := T23.1
  have T23b := T23.2.1
  have T23c := T23.2.2.2.2
  have T24a := T24.1
  have T24b := T24.2.1
  have T24c := T24.2.2.2.2
  have T26a := T26.1
  have T26b := T26.2.1
  have T26c := T26.2.2.2.2
  go_upto_if 193 with (fail)
  go_cut [32, 33] from 142 to 205 (fun s32 s33 wx => Ext w wx)
  case first =>
    cases tb with
    | false =>
      go_wp2_with (fail)
      go_meet
      exact E
    | true =>
      go_wp2_with (fail)
      refine (HTB.out (by first | rfl | trivial) _).mono ?_
      rintro e y19 ⟨rfl, k19⟩
      clear T23a T23b T23c T24a T24b T24c T26a T26b T26c
      replace E := E.trans k19
      replace T23 := T23.ext k19
      replace T24 := T24.ext k19
      replace T26 := T26.ext k19
      clear k19
      have T23a := T23.1
      have T23b := T23.2.1
      have T23c := T23.2.2.2.2
      have T24a := T24.1
      have T24b := T24.2.1
      have T24c := T24.2.2.2.2
      have T26a := T26.1
      have T26b := T26.2.1
      have T26c := T26.2.2.2.2
      have T32 := Two.new y19 x y
      go_wp2_with (fail)
      have k20 : Ext y19 (y19.alloc (.cells #[.int .i64 x, .int .i64 y] 25)) := (Ext.refl _).alloc _
      clear T23a T23b T23c T24a T24b T24c T26a T26b T26c
      replace E := E.trans k20
      replace T23 := T23.ext k20
      replace T24 := T24.ext k20
      replace T26 := T26.ext k20
      clear k20
      obtain ⟨bT32, hbT32⟩ : ∃ b, b = y19.heap.size := ⟨_, rfl⟩
      rw [← hbT32] at T32 ⊢
      clear hbT32
      generalize (y19.alloc (.cells #[.int .i64 x, .int .i64 y] 25)) = y20 at T23 T24 T26 T32 E ⊢
      have T23a := T23.1
      have T23b := T23.2.1
      have T23c := T23.2.2.2.2
      have T24a := T24.1
      have T24b := T24.2.1
      have T24c := T24.2.2.2.2
      have T26a := T26.1
      have T26b := T26.2.1
      have T26c := T26.2.2.2.2
      have T32a := T32.1
      have T32b := T32.2.1
      have T32c := T32.2.2.2.2
      go_meet
      exact E
  case rest =>
  clear T23a T23b T23c T24a T24b T24c T26a T26b T26c
  clear E T23 T24 T26
  have E := hcut
  clear hcut
  go_wp2_with (fail)
  refine (drawAged v1 n1 z1 _ (r1.ext E) hn1).mono ?_
  rintro e g21 ⟨ax, ay, ad, asx, rfl, k21⟩
  replace E := E.trans k21
  clear k21
  have T34 := Two.new g21 ax ay
  obtain ⟨P3, Q3, ab, c6, c7, hab⟩ := agedPair ax ay ad asx
  have HAB := hid hab
  clear hab
  go_wp2_with (fail)
  have k22 : Ext g21 (g21.alloc (.cells #[.int .i64 ax, .int .i64 ay] 25)) := (Ext.refl _).alloc _
  replace E := E.trans k22
  clear k22
  obtain ⟨bT34, hbT34⟩ : ∃ b, b = g21.heap.size := ⟨_, rfl⟩
  rw [← hbT34] at T34 ⊢
  clear hbT34
  generalize (g21.alloc (.cells #[.int .i64 ax, .int .i64 ay] 25)) = g22 at T34 E ⊢
  have T34a := T34.1
  have T34b := T34.2.1
  have T34c := T34.2.2.2.2
  refine (c6 _).mono ?_
  rintro e g23 ⟨rfl, k23⟩
  clear T34a T34b T34c
  replace E := E.trans k23
  replace T34 := T34.ext k23
  clear k23
  have T34a := T34.1
  have T34b := T34.2.1
  have T34c := T34.2.2.2.2
  have T37 := Two.new g23 P3 Q3
  go_wp2_with (fail)
  have k24 : Ext g23 (g23.alloc (.cells #[.int .i64 P3, .int .i64 Q3] 25)) := (Ext.refl _).alloc _
  clear T34a T34b T34c
  replace E := E.trans k24
  replace T34 := T34.ext k24
  clear k24
  obtain ⟨bT37, hbT37⟩ : ∃ b, b = g23.heap.size := ⟨_, rfl⟩
  rw [← hbT37] at T37 ⊢
  clear hbT37
  generalize (g23.alloc (.cells #[.int .i64 P3, .int .i64 Q3] 25)) = g24 at T34 T37 E ⊢
  have T34a := T34.1
  have T34b := T34.2.1
  have T34c := T34.2.2.2.2
  have T37a := T37.1
  have T37b := T37.2.1
  have T37c := T37.2.2.2.2
  refine (c7 _).mono ?_
  rintro e g25 ⟨rfl, k25⟩
  clear T34a T34b T34c T37a T37b T37c
  replace E := E.trans k25
  replace T34 := T34.ext k25
  replace T37 := T37.ext k25
  clear k25
  have T34a := T34.1
  have T34b := T34.2.1
  have T34c := T34.2.2.2.2
  have T37a := T37.1
  have T37b := T37.2.1
  have T37c := T37.2.2.2.2
  have T39 := Two.new g25 P3 Q3
  go_wp2_with (fail)
  have k26 : Ext g25 (g25.alloc (.cells #[.int .i64 P3, .int .i64 Q3] 25)) := (Ext.refl _).alloc _
  clear T34a T34b T34c T37a T37b T37c
  replace E := E.trans k26
  replace T34 := T34.ext k26
  replace T37 := T37.ext k26
  clear k26
  obtain ⟨bT39, hbT39⟩ : ∃ b, b = g25.heap.size := ⟨_, rfl⟩
  rw [← hbT39] at T39 ⊢
  clear hbT39
  generalize (g25.alloc (.cells #[.int .i64 P3, .int .i64 Q3] 25)) = g26 at T34 T37 T39 E ⊢
  have T34a := T34.1
  have T34b := T34.2.1
  have T34c := T34.2.2.2.2
  have T37a := T37.1
  have T37b := T37.2.1
  have T37c := T37.2.2.2.2
  have T39a := T39.1
  have T39b := T39.2.1
  have T39c := T39.2.2.2.2
  refine (drawChain v1 n1 z1 _ (r1.ext E) hn1).mono ?_
  rintro e g27 ⟨v2, m2, zs2, rfl, hr2, hm2, k27⟩
  clear T34a T34b T34c T37a T37b T37c T39a T39b T39c
  replace E := E.trans k27
  replace T34 := T34.ext k27
  replace T37 := T37.ext k27
  replace T39 := T39.ext k27
  clear k27
  have T34a := T34.1
  have T34b := T34.2.1
  have T34c := T34.2.2.2.2
  have T37a := T37.1
  have T37b := T37.2.1
  have T37c := T37.2.2.2.2
  have T39a := T39.1
  have T39b := T39.2.1
  have T39c := T39.2.2.2.2
  have HR2 := hid hr2
  obtain ⟨_, _, _, av2, cv2, rfl, _, _, hcell2⟩ := hr2
  clear hcell2
  obtain ⟨P4, Q4, eb, c8, c9, heb⟩ := chainPair (.slice av2 m2 cv2) m2 zs2
  clear heb
  go_wp2_with (fail)
  refine (c8 _ HR2.out).mono ?_
  rintro e g28 ⟨rfl, k28⟩
  clear T34a T34b T34c T37a T37b T37c T39a T39b T39c
  replace E := E.trans k28
  replace T34 := T34.ext k28
  replace T37 := T37.ext k28
  replace T39 := T39.ext k28
  replace HR2 := hid (HR2.out.ext k28)
  clear k28
  have T34a := T34.1
  have T34b := T34.2.1
  have T34c := T34.2.2.2.2
  have T37a := T37.1
  have T37b := T37.2.1
  have T37c := T37.2.2.2.2
  have T39a := T39.1
  have T39b := T39.2.1
  have T39c := T39.2.2.2.2
  have T42 := Two.new g28 P4 Q4
  go_wp2_with (fail)
  have k29 : Ext g28 (g28.alloc (.cells #[.int .i64 P4, .int .i64 Q4] 25)) := (Ext.refl _).alloc _
  clear T34a T34b T34c T37a T37b T37c T39a T39b T39c
  replace E := E.trans k29
  replace T34 := T34.ext k29
  replace T37 := T37.ext k29
  replace T39 := T39.ext k29
  replace HR2 := hid (HR2.out.ext k29)
  clear k29
  obtain ⟨bT42, hbT42⟩ : ∃ b, b = g28.heap.size := ⟨_, rfl⟩
  rw [← hbT42] at T42 ⊢
  clear hbT42
  generalize (g28.alloc (.cells #[.int .i64 P4, .int .i64 Q4] 25)) = g29 at T34 T37 T39 T42 HR2 E ⊢
  have T34a := T34.1
  have T34b := T34.2.1
  have T34c := T34.2.2.2.2
  have T37a := T37.1
  have T37b := T37.2.1
  have T37c := T37.2.2.2.2
  have T39a := T39.1
  have T39b := T39.2.1
  have T39c := T39.2.2.2.2
  have T42a := T42.1
  have T42b := T42.2.1
  have T42c := T42.2.2.2.2
  refine (c9 _ (HR2.out.ext (by repeat (first | exact Ext.refl _ | assumption | refine Ext.alloc ?_ _ | refine Ext.drew ?_ | refine Ext.drewN ?_ _ | refine Ext.setCell ?_ (by first | exact Nat.le_refl _ | (simp; done) | (dsimp only; omega) | (simp only [World.size_alloc, World.size_setCell]; omega)) _ | refine Ext.trans ?_ (by assumption))))).mono ?_
  rintro e g30 ⟨rfl, k30⟩
  clear T34a T34b T34c T37a T37b T37c T39a T39b T39c T42a T42b T42c
  replace E := E.trans k30
  replace T34 := T34.ext k30
  replace T37 := T37.ext k30
  replace T39 := T39.ext k30
  replace T42 := T42.ext k30
  replace HR2 := hid (HR2.out.ext k30)
  clear k30
  have T34a := T34.1
  have T34b := T34.2.1
  have T34c := T34.2.2.2.2
  have T37a := T37.1
  have T37b := T37.2.1
  have T37c := T37.2.2.2.2
  have T39a := T39.1
  have T39b := T39.2.1
  have T39c := T39.2.2.2.2
  have T42a := T42.1
  have T42b := T42.2.1
  have T42c := T42.2.2.2.2
  have T44 := Two.new g30 P4 Q4
  cases ab with
  | false =>
    go_wp2_with (fail)
    have k31 : Ext g30 (g30.alloc (.cells #[.int .i64 P4, .int .i64 Q4] 25)) := (Ext.refl _).alloc _
    clear T34a T34b T34c T37a T37b T37c T39a T39b T39c T42a T42b T42c
    replace E := E.trans k31
    replace T34 := T34.ext k31
    replace T37 := T37.ext k31
    replace T39 := T39.ext k31
    replace T42 := T42.ext k31
    replace HR2 := hid (HR2.out.ext k31)
    clear k31
    obtain ⟨bT44, hbT44⟩ : ∃ b, b = g30.heap.size := ⟨_, rfl⟩
    rw [← hbT44] at T44 ⊢
    clear hbT44
    generalize (g30.alloc (.cells #[.int .i64 P4, .int .i64 Q4] 25)) = g31 at T34 T37 T39 T42 T44 HR2 E ⊢
    have T34a := T34.1
    have T34b := T34.2.1
    have T34c := T34.2.2.2.2
    have T37a := T37.1
    have T37b := T37.2.1
    have T37c := T37.2.2.2.2
    have T39a := T39.1
    have T39b := T39.2.1
    have T39c := T39.2.2.2.2
    have T42a := T42.1
    have T42b := T42.2.1
    have T42c := T42.2.2.2.2
    have T44a := T44.1
    have T44b := T44.2.1
    have T44c := T44.2.2.2.2
    go_ret
    exact ⟨rfl, by first | exact E | exact (by repeat (first | exact Ext.refl _ | assumption | refine Ext.alloc ?_ _ | refine Ext.drew ?_ | refine Ext.drewN ?_ _ | refine Ext.setCell ?_ (by first | exact Nat.le_refl _ | (simp; done) | (dsimp only; omega) | (simp only [World.size_alloc, World.size_setCell]; omega)) _ | refine Ext.trans ?_ (by assumption)))⟩
  | true =>
    obtain ⟨h1, h2⟩ := HAB.out (by first | rfl | trivial)
    have t1 : decide (P3 ≤ ax) = true := by simpa using h1
    have t2 : decide (ay ≤ Q3) = true := by simpa using h2
    go_wp2_with (fail)
    have k31 : Ext g30 (g30.alloc (.cells #[.int .i64 P4, .int .i64 Q4] 25)) := (Ext.refl _).alloc _
    clear T34a T34b T34c T37a T37b T37c T39a T39b T39c T42a T42b T42c
    replace E := E.trans k31
    replace T34 := T34.ext k31
    replace T37 := T37.ext k31
    replace T39 := T39.ext k31
    replace T42 := T42.ext k31
    replace HR2 := hid (HR2.out.ext k31)
    clear k31
    obtain ⟨bT44, hbT44⟩ : ∃ b, b = g30.heap.size := ⟨_, rfl⟩
    rw [← hbT44] at T44 ⊢
    clear hbT44
    generalize (g30.alloc (.cells #[.int .i64 P4, .int .i64 Q4] 25)) = g31 at T34 T37 T39 T42 T44 HR2 E ⊢
    have T34a := T34.1
    have T34b := T34.2.1
    have T34c := T34.2.2.2.2
    have T37a := T37.1
    have T37b := T37.2.1
    have T37c := T37.2.2.2.2
    have T39a := T39.1
    have T39b := T39.2.1
    have T39c := T39.2.2.2.2
    have T42a := T42.1
    have T42b := T42.2.1
    have T42c := T42.2.2.2.2
    have T44a := T44.1
    have T44b := T44.2.1
    have T44c := T44.2.2.2.2
    go_ret
    exact ⟨rfl, by first | exact E | exact (by repeat (first | exact Ext.refl _ | assumption | refine Ext.alloc ?_ _ | refine Ext.drew ?_ | refine Ext.drewN ?_ _ | refine Ext.setCell ?_ (by first | exact Nat.le_refl _ | (simp; done) | (dsimp only; omega) | (simp only [World.size_alloc, World.size_setCell]; omega)) _ | refine Ext.trans ?_ (by assumption)))⟩
end Go.Proofs.Ytiemkobgpaekoaa