/- What the reference draws for the laws of shifts, on. Condition: the code's length. -/
import Derived.Test.YtedkffdkhnfoiaaDoorShoD
namespace Go.Proofs.YtedkffdkhnfoiaaDoor
open Go.RowKit
set_option linter.unusedSimpArgs false
set_option linter.unusedVariables false

set_option maxRecDepth 100000 in
set_option maxHeartbeats 4000000 in
theorem anyShiftsS {w : World} {B : Nat} {vc : Value} {n : Nat} {zc : List Int} {q : Nat} (h : CS w B vc n zc q) (hq : q ≤ 10000000000) :
    Calls Tryd.prog 29 #[.pointer (some ⟨B, 0, none⟩)] w fun e w' => ∃ (v : Value) (m : Nat) (zs : List Int) (q' : Nat), e = .returned v ∧ w'.ownsRow w.heap.size 42 3 v m (zs.map (Value.int .i64)) ∧ m ≤ 61 ∧ (∀ z ∈ zs, (Lit.int .i64 z).wf = true) ∧ q' ≤ q + 4000 ∧ CS w' B vc n zc q' ∧ w.grownBy w' (some B) := by
  obtain ⟨i0, hi, hz0, hz1, hz2⟩ := info_parts info_Shift
  have hBs := h.size
  go_enter Tryd.func29, Tryd.ntmps29
  go_wp2_with (fail)
  refine (shiftsS h (by omega)).mono ?_
  rintro e wr ⟨v, m, zs, qr, rfl, hrow, hm, hzw, hqr, hcr, hgr⟩
  obtain ⟨a3, c3, rfl, hnc, hcm, hown⟩ := row_shape hrow
  have HROW := hid hrow
  have hl3 : zs.length = m * 3 := by simpa using hrow.1
  have hfar : ∀ k, (Value.slice a3 m c3).ownBlock = some k → B < k ∧ w.heap.size ≤ k := fun k hk => by have := (hrow.lt k hk).1; omega
  have HFAR := hid hfar
  clear hrow hfar hown h
  by_cases h0 : 0 < m
  · have t2 : decide ((0 : Int) < (m : Int)) = true := by simpa using h0
    have t3 : decide (0 < m) = true := by simpa using h0
    go_wp2_with (fail)
    refine (pickS (m : Int) hcr (by omega)).mono ?_
    rintro e w5 ⟨x5, q5, rfl, hx5, _, hx5', hq5, hq5', hc5, hg5⟩
    have hx5'' := hx5' (by omega)
    obtain ⟨k, rfl⟩ := Int.eq_ofNat_of_zero_le hx5
    have hkm : k < m := by omega
    clear hx5'
    have hrow5 := HROW.out.kept hg5 (.inr (fun e => by have := (HFAR.out _ e).1; omega))
    have hg05 := World.grownBy.trans hgr hg5
    obtain ⟨_, _, he, _, _, hgo⟩ := row_shape hrow5
    obtain ⟨g, hge, hg1, hg2⟩ := hgo.resolve_left (by omega)
    simp only [Value.slice.injEq, true_and] at he
    obtain ⟨rfl, rfl⟩ := he
    subst hge
    have HROW5 := hid hrow5
    clear hrow5 hcr hgr hg5
    have hk0 : (0 : Int) ≤ (k : Int) := Int.natCast_nonneg _
    have hkm2 : (k : Int) < m := by omega
    have hBg : B < g := by omega
    go_wp2_with (fail)
    refine (pickS 30 hc5 (by omega)).mono ?_
    rintro e w6 ⟨x6, q6, rfl, hx6, _, _, hq6, hq6', hc6, hg6⟩
    have HROW6 := hid (HROW5.out.kept hg6 (.inr (fun e => by simp [Value.ownBlock] at e; omega)))
    have hg06 := World.grownBy.trans hg05 hg6
    clear HROW5 hc5 hg05 hg6 HROW
    by_cases e0 : x6 = 0
    · have u0 : decide (x6 = 0) = true := by simpa using e0
      have u0' : (x6 == 0) = true := by simpa using e0
      clear e0
      go_wp2_with (fail)
      refine (amongL [0, 30, 31] hc6 (by omega) rfl (by simp) (by simp) rfl (by intro z hz; simp at hz; omega)).mono ?_
      rintro e w7 ⟨y, q7, rfl, hy, hq7, hq7', hc7, hg7⟩
      have wy : (Lit.int .i64 y).wf = true := wf_i64 (by simp at hy; omega)
      clear hy
      have hrow7 := HROW6.out.kept hg7 (.inr (fun e => by simp [Value.ownBlock] at e; omega))
      have hg07 := World.grownBy.trans hg06 hg7
      have HS := hid (hrow7.stored (k * 3) (.int .i64 y)).1
      obtain ⟨u, cu, _⟩ := row_cell hrow7 (k * 3) (by omega)
      have fu := hrow7.frozenAt (k * 3)
      have hc8 := hc7.set hBg (k * 3) (.int .i64 y)
      have hg08 := grow_set hg07 hg1 (k * 3) (.int .i64 y)
      clear hrow7 hc6 hg06 hg7 HROW6
      go_wp2_with (fail)
      go_ret
      refine ⟨_, m, zs.set (k * 3) y, q7, rfl, ?_, by omega, set_wf hzw wy, by omega, hc8, hg08⟩
      rw [List.map_set]
      exact HS.out
    · have u0 : decide (x6 = 0) = false := by simpa using e0
      have u0' : (x6 == 0) = false := by simpa using e0
      by_cases e1 : x6 = 1
      · have u1 : decide (x6 = 1) = true := by simpa using e1
        have u1' : (x6 == 1) = true := by simpa using e1
        obtain ⟨X, hX⟩ : ∃ x, x = zs.getD (k * 3 + 2) 0 := ⟨_, rfl⟩
        have sX : w6.cell? ⟨g, k * 3 + 2, none⟩ = some (.int .i64 X) := by
          obtain ⟨_, _, _, a', c', he, _, _, hcell⟩ := row_ints HROW6.out (by unfold maxLen; omega) hzw
          simp only [Value.slice.injEq, true_and] at he
          obtain ⟨rfl, rfl⟩ := he
          obtain ⟨b, oo, hbe, _, hcc⟩ := hcell.resolve_left (by omega)
          simp only [Option.some.injEq, Addr.mk.injEq, and_true] at hbe
          obtain ⟨rfl, rfl⟩ := hbe
          have := hcc (k * 3 + 2) (by omega)
          rw [Nat.zero_add] at this
          rw [this, hX]
        have hXw := wf_bd (hzw X (by rw [hX, List.getD_eq_getElem?_getD, List.getElem?_eq_getElem (by omega)]; exact List.getElem_mem _))
        clear hX
        clear e0 e1
        go_wp2_with (fail)
        refine (amongL [-1, X] hc6 (by omega) rfl (by simp) (by simp) rfl (by intro z hz; simp at hz; omega)).mono ?_
        rintro e w7 ⟨y, q7, rfl, hy, hq7, hq7', hc7, hg7⟩
        have wy : (Lit.int .i64 y).wf = true := wf_i64 (by simp at hy; omega)
        clear hy
        have hrow7 := HROW6.out.kept hg7 (.inr (fun e => by simp [Value.ownBlock] at e; omega))
        have hg07 := World.grownBy.trans hg06 hg7
        have HS := hid (hrow7.stored (k * 3 + 1) (.int .i64 y)).1
        obtain ⟨u, cu, _⟩ := row_cell hrow7 (k * 3 + 1) (by omega)
        have fu := hrow7.frozenAt (k * 3 + 1)
        have hc8 := hc7.set hBg (k * 3 + 1) (.int .i64 y)
        have hg08 := grow_set hg07 hg1 (k * 3 + 1) (.int .i64 y)
        clear hrow7 hc6 hg06 hg7 HROW6
        go_wp2_with (fail)
        go_ret
        refine ⟨_, m, zs.set (k * 3 + 1) y, q7, rfl, ?_, by omega, set_wf hzw wy, by omega, hc8, hg08⟩
        rw [List.map_set]
        exact HS.out
      · have u1 : decide (x6 = 1) = false := by simpa using e1
        have u1' : (x6 == 1) = false := by simpa using e1
        by_cases e2 : x6 = 2
        · have u2 : decide (x6 = 2) = true := by simpa using e2
          have u2' : (x6 == 2) = true := by simpa using e2
          obtain ⟨X, hX⟩ : ∃ x, x = zs.getD (k * 3 + 1) 0 := ⟨_, rfl⟩
          have sX : w6.cell? ⟨g, k * 3 + 1, none⟩ = some (.int .i64 X) := by
            obtain ⟨_, _, _, a', c', he, _, _, hcell⟩ := row_ints HROW6.out (by unfold maxLen; omega) hzw
            simp only [Value.slice.injEq, true_and] at he
            obtain ⟨rfl, rfl⟩ := he
            obtain ⟨b, oo, hbe, _, hcc⟩ := hcell.resolve_left (by omega)
            simp only [Option.some.injEq, Addr.mk.injEq, and_true] at hbe
            obtain ⟨rfl, rfl⟩ := hbe
            have := hcc (k * 3 + 1) (by omega)
            rw [Nat.zero_add] at this
            rw [this, hX]
          have hXw := wf_bd (hzw X (by rw [hX, List.getD_eq_getElem?_getD, List.getElem?_eq_getElem (by omega)]; exact List.getElem_mem _))
          clear hX
          clear e0 e1 e2
          go_wp2_with (fail)
          refine (amongL [X, 168, 169] hc6 (by omega) rfl (by simp) (by simp) rfl (by intro z hz; simp at hz; omega)).mono ?_
          rintro e w7 ⟨y, q7, rfl, hy, hq7, hq7', hc7, hg7⟩
          have wy : (Lit.int .i64 y).wf = true := wf_i64 (by simp at hy; omega)
          clear hy
          have hrow7 := HROW6.out.kept hg7 (.inr (fun e => by simp [Value.ownBlock] at e; omega))
          have hg07 := World.grownBy.trans hg06 hg7
          have HS := hid (hrow7.stored (k * 3 + 2) (.int .i64 y)).1
          obtain ⟨u, cu, _⟩ := row_cell hrow7 (k * 3 + 2) (by omega)
          have fu := hrow7.frozenAt (k * 3 + 2)
          have hc8 := hc7.set hBg (k * 3 + 2) (.int .i64 y)
          have hg08 := grow_set hg07 hg1 (k * 3 + 2) (.int .i64 y)
          clear hrow7 hc6 hg06 hg7 HROW6
          go_wp2_with (fail)
          go_ret
          refine ⟨_, m, zs.set (k * 3 + 2) y, q7, rfl, ?_, by omega, set_wf hzw wy, by omega, hc8, hg08⟩
          rw [List.map_set]
          exact HS.out
        · have u2 : decide (x6 = 2) = false := by simpa using e2
          have u2' : (x6 == 2) = false := by simpa using e2
          by_cases e3 : x6 = 3
          · have u3 : decide (x6 = 3) = true := by simpa using e3
            have u3' : (x6 == 3) = true := by simpa using e3
            clear e0 e1 e2 e3
            have w7 : (Lit.int .i64 7).wf = true := by decide
            have w167 : (Lit.int .i64 167).wf = true := by decide
            have w168 : (Lit.int .i64 168).wf = true := by decide
            have hb6 : w.heap.size ≤ w6.heap.size := hg06.size
            have hfarg : ∀ k, (Value.slice (some ⟨g, 0, none⟩) m c3).ownBlock = some k → g = k := fun k hk => by simpa [Value.ownBlock] using hk
            go_wp2_with (at_builtin; go_loud (refine wpList_src3 rfl (.tmp 52) (.tmp 54) 23 rfl w.heap.size 42 i0 _ Tryd.underlying23 hi hz0 hz1 hz2 rfl _ m (zs.map (Value.int .i64)) rfl (row_ext HROW6.out ((Ext.refl _).alloc _)) _ 1 [7, 167, 168] rfl (lit3_row _ 7 167 168 _ w7 w167 w168) (by omega) (by simp only [World.size_alloc]; omega) ?_; intro v1 wz hr1 hgz; obtain ⟨a1, c1', rfl, _, _, _⟩ := row_shape hr1; have hcz : CS wz B vc n zc q6 := CS.far (hc6.ext ((Ext.refl _).alloc _)) hgz (fun k hk => by have := hfarg k hk; omega); have hgz0 : w.grownBy wz (some B) := World.grownBy.andThen (World.grownBy.trans hg06 (((Ext.refl _).alloc _ : Ext w6 _).grown.but (some B))) hgz (fun k hk => .inl (by have := hfarg k hk; omega))))
            go_ret
            refine ⟨_, m + 1, zs ++ [7, 167, 168], q6, rfl, ?_, by omega, mem_wf3 hzw w7 w167 w168, by omega, hcz, hgz0⟩
            rw [List.map_append]
            exact hr1
          · have u3 : decide (x6 = 3) = false := by simpa using e3
            have u3' : (x6 == 3) = false := by simpa using e3
            clear e0 e1 e2 e3
            go_wp2_with (fail)
            go_ret
            exact ⟨_, m, zs, q6, rfl, HROW6.out, by omega, hzw, by omega, hc6, hg06⟩
  · obtain rfl : m = 0 := by omega
    have t2 : decide ((0 : Int) < ((0 : Nat) : Int)) = false := by simp
    have t3 : decide (0 < 0) = false := by simp
    go_wp2_with (fail)
    go_ret
    exact ⟨_, 0, zs, qr, rfl, HROW.out, by omega, hzw, by omega, hcr, hgr⟩

set_option maxRecDepth 100000 in
set_option maxHeartbeats 1000000 in
theorem operatorS {w : World} {B : Nat} {vc : Value} {n : Nat} {zc : List Int} {q : Nat} (h : CS w B vc n zc q) (hq : q ≤ 100000000000) :
    Calls Tryd.prog 35 #[.pointer (some ⟨B, 0, none⟩)] w fun e w' => ∃ (x : Int) (q' : Nat), e = .returned (.int .i64 x) ∧ 0 ≤ x ∧ x ≤ 31 ∧ q' ≤ q + 4 ∧ CS w' B vc n zc q' ∧ w.grownBy w' (some B) := by
  go_enter Tryd.func35, Tryd.ntmps35
  go_wp2_with (fail)
  refine (amongL [0, 31] h (by omega) rfl (by simp) (by simp) rfl (by intro z hz; simp at hz; omega)).mono ?_
  rintro e w1 ⟨x1, q1, rfl, hm1, hq1, hq1', hc1, hg1⟩
  replace hm1 : 0 ≤ x1 ∧ x1 ≤ 31 := by simp at hm1; omega
  go_wp2_with (fail)
  refine (amongL [1, 2, 3, 4, 5, 30, x1] hc1 (by omega) rfl (by simp) (by simp) rfl (by intro z hz; simp at hz; omega)).mono ?_
  rintro e w2 ⟨x2, q2, rfl, hm2, hq2, hq2', hc2, hg2⟩
  replace hm2 : 0 ≤ x2 ∧ x2 ≤ 31 := by simp at hm2; omega
  go_wp2_with (fail)
  go_ret
  exact ⟨x2, q2, rfl, hm2.1, hm2.2, by omega, hc2, World.grownBy.trans hg1 hg2⟩

set_option maxRecDepth 100000 in
set_option maxHeartbeats 1000000 in
theorem shiftHourS {w : World} {B : Nat} {vc : Value} {n : Nat} {zc : List Int} {q : Nat} (h : CS w B vc n zc q) (hq : q ≤ 100000000000) :
    Calls Tryd.prog 38 #[.pointer (some ⟨B, 0, none⟩)] w fun e w' => ∃ (x : Int) (q' : Nat), e = .returned (.int .i64 x) ∧ -1 ≤ x ∧ x ≤ 168 ∧ q' ≤ q + 8 ∧ CS w' B vc n zc q' ∧ w.grownBy w' (some B) := by
  go_enter Tryd.func38, Tryd.ntmps38
  go_wp2_with (fail)
  refine (pickS 60 h (by omega)).mono ?_
  rintro e w1 ⟨x1, q1, rfl, b1, _, b2, hq1, hq1', hc1, hg1⟩
  have b2' := b2 (by omega)
  go_wp2_with (fail)
  refine (pickS 160 hc1 (by omega)).mono ?_
  rintro e w2 ⟨x2, q2, rfl, b3, _, b4, hq2, hq2', hc2, hg2⟩
  have b4' := b4 (by omega)
  go_wp2_with (fail)
  refine (amongL [168, -1] hc2 (by omega) rfl (by simp) (by simp) rfl (by intro z hz; simp at hz; omega)).mono ?_
  rintro e w3 ⟨x3, q3, rfl, hm3, hq3, hq3', hc3, hg3⟩
  replace hm3 : -1 ≤ x3 ∧ x3 ≤ 168 := by simp at hm3; omega
  go_wp2_with (fail)
  refine (amongL [0, 5, 22, x1, x2, 167, x3] hc3 (by omega) rfl (by simp) (by simp) rfl (by intro z hz; simp at hz; omega)).mono ?_
  rintro e w4 ⟨x4, q4, rfl, hm4, hq4, hq4', hc4, hg4⟩
  replace hm4 : -1 ≤ x4 ∧ x4 ≤ 168 := by simp at hm4; omega
  go_wp2_with (fail)
  go_ret
  exact ⟨x4, q4, rfl, hm4.1, hm4.2, by omega, hc4, World.grownBy.trans hg1 (World.grownBy.trans hg2 (World.grownBy.trans hg3 hg4))⟩

set_option maxRecDepth 100000 in
set_option maxHeartbeats 1000000 in
theorem drawRests (vc : Value) (n : Nat) (zc : List Int) (w : World) (h : IntRow .u8 1 w vc n zc) (hn : n ≤ 9223372036854775807) :
    Calls Tryd.prog 16 #[vc] w fun e w' => ∃ (x : Int) (v : Value) (m : Nat) (zs : List Int), e = .returned (.tuple #[v, .int .i64 x]) ∧ IntRow .i64 3 w' v m zs ∧ m ≤ 61 ∧ Ext w w' := by
  have hc := cur_new h (by omega)
  obtain ⟨a, c, rfl⟩ := introw_slice h
  go_enter Tryd.func16, Tryd.ntmps16
  go_wp2_with (fail)
  refine (anyShiftsS hc (by omega)).mono ?_
  rintro e w1 ⟨v, m, zs, q1, rfl, hr, hm, hw, hq1, hc1, hg1⟩
  have hsz := hg1.size
  rw [World.size_alloc] at hr hsz
  have HFAR : Hid (∀ k, v.ownBlock = some k → w.heap.size ≠ k) := hid (fun k hk => by have := (hr.lt k hk).1; omega)
  have HR := hid hr
  clear hr
  obtain ⟨av, cv, rfl, _, _, _⟩ := row_shape HR.out
  go_wp2_with (fail)
  refine (amongL [169, -1] hc1 (by omega) rfl (by simp) (by simp) rfl (by intro z hz; simp at hz; omega)).mono ?_
  rintro e w2 ⟨x2, q2, rfl, hm2, hq2, hq2', hc2, hg2⟩
  replace hm2 : -1 ≤ x2 ∧ x2 ≤ 169 := by simp at hm2; omega
  go_wp2_with (fail)
  refine (amongL [0, 1, 8, 11, 40, 168, x2] hc2 (by omega) rfl (by simp) (by simp) rfl (by intro z hz; simp at hz; omega)).mono ?_
  rintro e w3 ⟨x3, q3, rfl, hm3, hq3, hq3', hc3, hg3⟩
  go_wp2_with (fail)
  go_returns
  refine ⟨x3, _, m, zs, rfl, row_ints ((HR.out.kept hg2 (.inr (fun e => HFAR.out _ e rfl))).kept hg3 (.inr (fun e => HFAR.out _ e rfl))) (by unfold maxLen; omega) hw, by omega, ?_⟩
  exact fresh (World.grownBy.trans hg1 (World.grownBy.trans hg2 hg3))

end Go.Proofs.YtedkffdkhnfoiaaDoor
