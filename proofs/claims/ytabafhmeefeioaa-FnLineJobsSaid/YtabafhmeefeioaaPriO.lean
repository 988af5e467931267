/- What the reference draws for the laws of priorities: jobs, an index, a tick. Condition: the code's length. -/
import Derived.Test.YtabafhmeefeioaaPriN
import Derived.Test.YtabafhmeefeioaaCurC
import Derived.Test.YtabafhmeefeioaaApp3
import Derived.Handy
namespace Go.Proofs.Ytabafhmeefeioaa
open Go.RowKit
set_option linter.unusedSimpArgs false
set_option linter.unusedVariables false

set_option maxRecDepth 100000 in
set_option maxHeartbeats 4000000 in
theorem jobsS {w : World} {B : Nat} {vc : Value} {n : Nat} {zc : List Int} {q : Nat} (h : CS w B vc n zc q) (hq : q ≤ 1000) :
    Calls Try.prog 71 #[.pointer (some ⟨B, 0, none⟩)] w fun e w' => ∃ (v : Value) (m : Nat) (zs : List Int) (q' : Nat), e = .returned v ∧ w'.ownsRow w.heap.size 53 3 v m (zs.map (Value.int .i64)) ∧ m ≤ 13 ∧ (∀ z ∈ zs, (Lit.int .i64 z).wf = true) ∧ q' ≤ q + 1000 ∧ CS w' B vc n zc q' ∧ w.grownBy w' (some B) := by
  obtain ⟨i0, hi, hz0, hz1, hz2⟩ := info_parts info_LineJob
  have hBs := h.size
  go_enter Try.func71, Try.ntmps71
  go_wp2_with (fail)
  refine (pickS 7 h (by omega)).mono ?_
  rintro e w1 ⟨x1, q1, rfl, hx1, _, hx1', hq1, hq1', hc1, hg1⟩
  have hx1'' := hx1' (by omega)
  go_wp2_with (fail)
  refine (oneS 16 hc1 (by omega)).mono ?_
  rintro e w2 ⟨o2, q2, rfl, hq2, hq2', hc2, hg2⟩
  have hg02 := World.grownBy.trans hg1 hg2
  clear hc1 hg1 hg2 h
  go_upto_if 10 with (fail)
  go_cut [4] from 7 to 13 (fun s4 wx => ∃ (N q3 : Nat), s4 = .int .i64 (N : Int) ∧ N ≤ 13 ∧ q3 ≤ q + 6 ∧ CS wx B vc n zc q3 ∧ w.grownBy wx (some B))
  case first =>
    cases o2 with
    | false =>
      go_wp2_with (fail)
      go_meet
      obtain ⟨k, rfl⟩ := Int.eq_ofNat_of_zero_le hx1
      exact ⟨k, q2, rfl, by omega, by omega, hc2, hg02⟩
    | true =>
      go_wp2_with (fail)
      refine (pickS 2 hc2 (by omega)).mono ?_
      rintro e w3 ⟨x3, q3, rfl, hx3, _, hx3', hq3, hq3', hc3, hg3⟩
      have hx3'' := hx3' (by omega)
      obtain ⟨k, rfl⟩ := Int.eq_ofNat_of_zero_le hx3
      have hw3 : IntKind.i64.wrap (12 + (k : Int)) = ((12 + k : Nat) : Int) := by rw [IntWalk.i64_in _ (by omega)]; omega
      go_wp2_with (fail)
      go_meet
      exact ⟨12 + k, q3, by first | rfl | (simp [hw3]), by omega, by omega, hc3, World.grownBy.trans hg02 hg3⟩
  case rest =>
    obtain ⟨N, q3, rfl, hN, hq3, hc3, hg3⟩ := hcut
    clear hc2 hg02
    go_wp2_with (fail)
    refine (amongL [6, 20, 200] hc3 (by omega) rfl (by simp) (by simp) rfl (by intro z hz; simp at hz; omega)).mono ?_
    rintro e w4 ⟨mo, q4, rfl, hmo, hq4, hq4', hc4, hg4⟩
    replace hmo : 6 ≤ mo ∧ mo ≤ 200 := by simp at hmo; omega
    obtain ⟨hmo1, hmo2⟩ := hmo
    have hg04 := World.grownBy.trans hg3 hg4
    clear hc3 hg3 hg4
    go_wp2_with (fail)
    go_loopw [3] (fun s3 wr => ∃ (m : Nat) (zs : List Int) (qr : Nat), m ≤ N ∧ wr.ownsRow w.heap.size 53 3 s3 m (zs.map (Value.int .i64)) ∧ (∀ z ∈ zs, (Lit.int .i64 z).wf = true) ∧ qr ≤ q + 10 + 20 * m ∧ CS wr B vc n zc qr ∧ w.grownBy wr (some B))
      (fun s3 _ => N - lenOf s3)
    case atStart => exact ⟨0, [], q4, Nat.zero_le _, World.ownsRow_nil _ _ _ _, by simp, by omega, hc4, hg04⟩
    case round =>
      obtain ⟨m, zs, qr, hm, hrow, hzw, hqr, hcr, hgr⟩ := hrel
      clear hc4 hg04
      obtain ⟨a3, c3, rfl, hnc, hcm, hown⟩ := row_shape hrow
      have HROW := hid hrow
      have hl3 : zs.length = m * 3 := by simpa using hrow.1
      have hfar : ∀ k, (Value.slice a3 m c3).ownBlock = some k → B < k ∧ w.heap.size ≤ k := fun k hk => by have := (hrow.lt k hk).1; omega
      have HFAR := hid hfar
      clear hrow hfar hown
      by_cases hlt : m < N
      · have t1 : decide ((m : Int) < (N : Int)) = true := by simpa using hlt
        go_wp2_with (fail)
        refine (pickS mo hcr (by omega)).mono ?_
        rintro e w5 ⟨x, q5, rfl, hx0, hx2, _, hq5, hq5', hc5, hg5⟩
        go_wp2_with (fail)
        refine (amongL [1, 2, 3, 5, 9, 20] hc5 (by omega) rfl (by simp) (by simp) rfl (by intro z hz; simp at hz; omega)).mono ?_
        rintro e w6 ⟨y, q6, rfl, hy, hq6, hq6', hc6, hg6⟩
        have wy : (Lit.int .i64 y).wf = true := wf_i64 (by simp at hy; omega)
        clear hy
        go_wp2_with (fail)
        refine (pickS 4 hc6 (by omega)).mono ?_
        rintro e w7 ⟨u, q7, rfl, hu0, hu2, _, hq7, hq7', hc7, hg7⟩
        have wx : (Lit.int .i64 x).wf = true := wf_i64 (by omega)
        have wu : (Lit.int .i64 u).wf = true := wf_i64 (by omega)
        have hg07 := World.grownBy.trans (World.grownBy.trans (World.grownBy.trans hgr hg5) hg6) hg7
        have HROW7 := hid (((HROW.out.kept hg5 (.inr (fun e => by have := (HFAR.out _ e).1; omega))).kept hg6 (.inr (fun e => by have := (HFAR.out _ e).1; omega))).kept hg7 (.inr (fun e => by have := (HFAR.out _ e).1; omega)))
        have hb7 : w.heap.size ≤ w7.heap.size := hg07.size
        have hm13 : m + 1 ≤ 13 := by omega
        clear hcr hc5 hc6 hgr hg5 hg6 hg7
        go_wp2_with (at_builtin; go_loud (refine wpList_src3 rfl (.tmp 21) (.tmp 31) 25 rfl w.heap.size 53 i0 _ Try.underlying25 hi hz0 hz1 hz2 rfl _ m (zs.map (Value.int .i64)) rfl (row_ext HROW7.out ((Ext.refl _).alloc _)) _ 1 [x, y, u] rfl (lit3_row _ x y u _ wx wy wu) (by omega) (by simp only [World.size_alloc]; omega) ?_; intro v1 wz hr1 hgz; obtain ⟨a1, c1', rfl, _, _, _⟩ := row_shape hr1; have hcz : CS wz B vc n zc q7 := CS.far (hc7.ext ((Ext.refl _).alloc _)) hgz (fun k hk => (HFAR.out k hk).1); have hgz0 : w.grownBy wz (some B) := World.grownBy.andThen (World.grownBy.trans hg07 (((Ext.refl _).alloc _ : Ext w7 _).grown.but (some B))) hgz (fun k hk => .inl (HFAR.out k hk).2)))
        go_roundw
        case rel =>
          refine ⟨m + 1, zs ++ [x, y, u], q7, by omega, ?_, mem_wf3 hzw wx wy wu, by omega, hcz, hgz0⟩
          rw [List.map_append]
          exact hr1
        case measure => simp [lenOf]; omega
      · obtain rfl : m = N := by omega
        have t1 : decide ((m : Int) < (m : Int)) = false := by simp
        by_cases h0 : 0 < m
        · have t2 : decide ((0 : Int) < (m : Int)) = true := by simpa using h0
          have t3 : decide (0 < m) = true := by simpa using h0
          go_wp2_with (fail)
          refine (pickS (m : Int) hcr (by omega)).mono ?_
          rintro e w5 ⟨x5, q5, rfl, hx5, _, hx5', hq5, hq5', hc5, hg5⟩
          have hx5'' := hx5' (by omega)
          obtain ⟨k, rfl⟩ := Int.eq_ofNat_of_zero_le hx5
          have hkm : k < m := by omega
          clear hx5'
          have hrow5 := HROW.out.kept hg5 (.inr (fun e => by have := (HFAR.out _ e).1; omega))
          have hg05 := World.grownBy.trans hgr hg5
          obtain ⟨_, _, he, _, _, hgo⟩ := row_shape hrow5
          obtain ⟨g, hge, hg1, hg2⟩ := hgo.resolve_left (by omega)
          simp only [Value.slice.injEq, true_and] at he
          obtain ⟨rfl, rfl⟩ := he
          subst hge
          have HROW5 := hid hrow5
          clear hrow5 hcr hgr hg5
          have hk0 : (0 : Int) ≤ (k : Int) := Int.natCast_nonneg _
          have hkm2 : (k : Int) < m := by omega
          have hBg : B < g := by omega
          go_wp2_with (fail)
          refine (pickS 30 hc5 (by omega)).mono ?_
          rintro e w6 ⟨x6, q6, rfl, hx6, _, _, hq6, hq6', hc6, hg6⟩
          have HROW6 := hid (HROW5.out.kept hg6 (.inr (fun e => by simp [Value.ownBlock] at e; omega)))
          have hg06 := World.grownBy.trans hg05 hg6
          clear HROW5 hc5 hg05 hg6 HROW
          by_cases e0 : x6 = 0
          · have u0 : decide (x6 = 0) = true := by simpa using e0
            have u0' : (x6 == 0) = true := by simpa using e0
            clear e0
            go_wp2_with (fail)
            refine (amongL [-1, 200, 201] hc6 (by omega) rfl (by simp) (by simp) rfl (by intro z hz; simp at hz; omega)).mono ?_
            rintro e w7 ⟨y, q7, rfl, hy, hq7, hq7', hc7, hg7⟩
            have wy : (Lit.int .i64 y).wf = true := wf_i64 (by simp at hy; omega)
            clear hy
            have hrow7 := HROW6.out.kept hg7 (.inr (fun e => by simp [Value.ownBlock] at e; omega))
            have hg07 := World.grownBy.trans hg06 hg7
            have HS := hid (hrow7.stored (k * 3) (.int .i64 y)).1
            obtain ⟨u, cu, _⟩ := row_cell hrow7 (k * 3) (by omega)
            have fu := hrow7.frozenAt (k * 3)
            have hc8 := hc7.set hBg (k * 3) (.int .i64 y)
            have hg08 := grow_set hg07 hg1 (k * 3) (.int .i64 y)
            clear hrow7 hc6 hg06 hg7 HROW6
            go_wp2_with (fail)
            go_ret
            refine ⟨_, m, zs.set (k * 3) y, q7, rfl, ?_, by omega, set_wf hzw wy, by omega, hc8, hg08⟩
            rw [List.map_set]
            exact HS.out
          · have u0 : decide (x6 = 0) = false := by simpa using e0
            have u0' : (x6 == 0) = false := by simpa using e0
            by_cases e1 : x6 = 1
            · have u1 : decide (x6 = 1) = true := by simpa using e1
              have u1' : (x6 == 1) = true := by simpa using e1
              clear e0 e1
              go_wp2_with (fail)
              refine (amongL [0, 40, 41] hc6 (by omega) rfl (by simp) (by simp) rfl (by intro z hz; simp at hz; omega)).mono ?_
              rintro e w7 ⟨y, q7, rfl, hy, hq7, hq7', hc7, hg7⟩
              have wy : (Lit.int .i64 y).wf = true := wf_i64 (by simp at hy; omega)
              clear hy
              have hrow7 := HROW6.out.kept hg7 (.inr (fun e => by simp [Value.ownBlock] at e; omega))
              have hg07 := World.grownBy.trans hg06 hg7
              have HS := hid (hrow7.stored (k * 3 + 1) (.int .i64 y)).1
              obtain ⟨u, cu, _⟩ := row_cell hrow7 (k * 3 + 1) (by omega)
              have fu := hrow7.frozenAt (k * 3 + 1)
              have hc8 := hc7.set hBg (k * 3 + 1) (.int .i64 y)
              have hg08 := grow_set hg07 hg1 (k * 3 + 1) (.int .i64 y)
              clear hrow7 hc6 hg06 hg7 HROW6
              go_wp2_with (fail)
              go_ret
              refine ⟨_, m, zs.set (k * 3 + 1) y, q7, rfl, ?_, by omega, set_wf hzw wy, by omega, hc8, hg08⟩
              rw [List.map_set]
              exact HS.out
            · have u1 : decide (x6 = 1) = false := by simpa using e1
              have u1' : (x6 == 1) = false := by simpa using e1
              by_cases e2 : x6 = 2
              · have u2 : decide (x6 = 2) = true := by simpa using e2
                have u2' : (x6 == 2) = true := by simpa using e2
                clear e0 e1 e2
                go_wp2_with (fail)
                refine (amongL [-1, 4] hc6 (by omega) rfl (by simp) (by simp) rfl (by intro z hz; simp at hz; omega)).mono ?_
                rintro e w7 ⟨y, q7, rfl, hy, hq7, hq7', hc7, hg7⟩
                have wy : (Lit.int .i64 y).wf = true := wf_i64 (by simp at hy; omega)
                clear hy
                have hrow7 := HROW6.out.kept hg7 (.inr (fun e => by simp [Value.ownBlock] at e; omega))
                have hg07 := World.grownBy.trans hg06 hg7
                have HS := hid (hrow7.stored (k * 3 + 2) (.int .i64 y)).1
                obtain ⟨u, cu, _⟩ := row_cell hrow7 (k * 3 + 2) (by omega)
                have fu := hrow7.frozenAt (k * 3 + 2)
                have hc8 := hc7.set hBg (k * 3 + 2) (.int .i64 y)
                have hg08 := grow_set hg07 hg1 (k * 3 + 2) (.int .i64 y)
                clear hrow7 hc6 hg06 hg7 HROW6
                go_wp2_with (fail)
                go_ret
                refine ⟨_, m, zs.set (k * 3 + 2) y, q7, rfl, ?_, by omega, set_wf hzw wy, by omega, hc8, hg08⟩
                rw [List.map_set]
                exact HS.out
              · have u2 : decide (x6 = 2) = false := by simpa using e2
                have u2' : (x6 == 2) = false := by simpa using e2
                clear e0 e1 e2
                go_wp2_with (fail)
                go_ret
                exact ⟨_, m, zs, q6, rfl, HROW6.out, by omega, hzw, by omega, hc6, hg06⟩
        · obtain rfl : m = 0 := by omega
          have t2 : decide ((0 : Int) < ((0 : Nat) : Int)) = false := by simp
          have t3 : decide (0 < 0) = false := by simp
          go_wp2_with (fail)
          go_ret
          exact ⟨_, 0, zs, qr, rfl, HROW.out, by omega, hzw, by omega, hcr, hgr⟩


set_option maxRecDepth 100000 in
set_option maxHeartbeats 1000000 in
theorem indexS {w : World} {B : Nat} {vc : Value} {n : Nat} {zc : List Int} {q : Nat} (a : Option Addr) (m c : Nat) (h : CS w B vc n zc q) (hq : q ≤ 100000) (hm : m ≤ 13) :
    Calls Try.prog 72 #[.pointer (some ⟨B, 0, none⟩), .slice a m c] w fun e w' => ∃ (x : Int) (q' : Nat), e = .returned (.int .i64 x) ∧ -1 ≤ x ∧ x ≤ 65535 ∧ q' ≤ q + 6 ∧ CS w' B vc n zc q' ∧ w.grownBy w' (some B) := by
  go_enter Try.func72, Try.ntmps72
  go_wp2_with (fail)
  refine (pickS 16 h (by omega)).mono ?_
  rintro e w1 ⟨x1, q1, rfl, b1, _, b2, hq1, hq1', hc1, hg1⟩
  have b2' := b2 (by omega)
  have d1 : x1.tdiv 15 = x1 / 15 := Int.tdiv_eq_ediv_of_nonneg b1
  have d2 : IntKind.i64.wrap (x1 / 15) = x1 / 15 := IntWalk.i64_in _ (by omega)
  have d3 : IntKind.i64.wrap ((m : Int) + x1 / 15) = (m : Int) + x1 / 15 := IntWalk.i64_in _ (by omega)
  go_wp2_with (fail)
  refine (pickS _ hc1 (by omega)).mono ?_
  rintro e w2 ⟨x2, q2, rfl, b3, b4, _, hq2, hq2', hc2, hg2⟩
  go_wp2_with (fail)
  refine (pickS 20 hc2 (by omega)).mono ?_
  rintro e w3 ⟨x3, q3, rfl, b5, _, b6, hq3, hq3', hc3, hg3⟩
  have b6' := b6 (by omega)
  have d4 : x3.tdiv 19 = x3 / 19 := Int.tdiv_eq_ediv_of_nonneg b5
  have d5 : IntKind.i64.wrap (x3 / 19) = x3 / 19 := IntWalk.i64_in _ (by omega)
  have d6 : IntKind.i64.wrap (x2 - x3 / 19) = x2 - x3 / 19 := IntWalk.i64_in _ (by omega)
  go_wp2_with (fail)
  go_ret
  exact ⟨_, q3, rfl, by omega, by omega, by omega, hc3, World.grownBy.trans hg1 (World.grownBy.trans hg2 hg3)⟩

set_option maxRecDepth 100000 in
set_option maxHeartbeats 1000000 in
theorem tickS {w : World} {B : Nat} {vc : Value} {n : Nat} {zc : List Int} {q : Nat} (h : CS w B vc n zc q) (hq : q ≤ 100000) :
    Calls Try.prog 73 #[.pointer (some ⟨B, 0, none⟩)] w fun e w' => ∃ (x : Int) (q' : Nat), e = .returned (.int .i64 x) ∧ -1 ≤ x ∧ x ≤ 701 ∧ q' ≤ q + 8 ∧ CS w' B vc n zc q' ∧ w.grownBy w' (some B) := by
  go_enter Try.func73, Try.ntmps73
  go_wp2_with (fail)
  refine (pickS 40 h (by omega)).mono ?_
  rintro e w1 ⟨x1, q1, rfl, b1, _, b2, hq1, hq1', hc1, hg1⟩
  have b2' := b2 (by omega)
  go_wp2_with (fail)
  refine (pickS 40 hc1 (by omega)).mono ?_
  rintro e w2 ⟨x2, q2, rfl, b3, _, b4, hq2, hq2', hc2, hg2⟩
  have b4' := b4 (by omega)
  go_wp2_with (fail)
  refine (amongL [701, -1] hc2 (by omega) rfl (by simp) (by simp) rfl (by intro z hz; simp at hz; omega)).mono ?_
  rintro e w3 ⟨x3, q3, rfl, hm3, hq3, hq3', hc3, hg3⟩
  replace hm3 : -1 ≤ x3 ∧ x3 ≤ 701 := by simp at hm3; omega
  go_wp2_with (fail)
  refine (amongL [0, 1, 3, x1, x2, 200, 700, x3] hc3 (by omega) rfl (by simp) (by simp) rfl (by intro z hz; simp at hz; omega)).mono ?_
  rintro e w4 ⟨x4, q4, rfl, hm4, hq4, hq4', hc4, hg4⟩
  replace hm4 : -1 ≤ x4 ∧ x4 ≤ 701 := by simp at hm4; omega
  go_wp2_with (fail)
  go_ret
  exact ⟨x4, q4, rfl, hm4.1, hm4.2, by omega, hc4, World.grownBy.trans hg1 (World.grownBy.trans hg2 (World.grownBy.trans hg3 hg4))⟩
end Go.Proofs.Ytabafhmeefeioaa