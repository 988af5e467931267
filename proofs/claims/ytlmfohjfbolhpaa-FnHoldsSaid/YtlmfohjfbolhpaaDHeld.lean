/- What the reference draws: held jobs. Condition: the code's length. -/
import Derived.Test.YtlmfohjfbolhpaaCurC
import Derived.Test.YtlmfohjfbolhpaaApp2h
import Derived.Test.YtlmfohjfbolhpaaConvHeldJob
import Derived.Handy
namespace Go.Proofs.Ytlmfohjfbolhpaa
open Go.RowKit
set_option linter.unusedSimpArgs false
set_option linter.unusedVariables false

theorem set_wfH {zs : List Int} {j : Nat} {z : Int} (h : ∀ x ∈ zs, (Lit.int .i64 x).wf = true) (hz : (Lit.int .i64 z).wf = true) : ∀ x ∈ zs.set j z, (Lit.int .i64 x).wf = true := fun x hx => by
  rcases List.mem_or_eq_of_mem_set hx with hx | rfl
  · exact h x hx
  · exact hz
theorem app_wf2 {zs : List Int} {x0 x1 : Int} (h : ∀ z ∈ zs, (Lit.int .i64 z).wf = true) (w0 : (Lit.int .i64 x0).wf = true) (w1 : (Lit.int .i64 x1).wf = true) : ∀ z ∈ zs ++ [x0, x1], (Lit.int .i64 z).wf = true := fun z hz => by
  rcases List.mem_append.1 hz with hz | hz
  · exact h z hz
  · simp only [List.mem_cons, List.not_mem_nil, or_false] at hz
    rcases hz with rfl | rfl <;> assumption
set_option maxRecDepth 100000 in
set_option maxHeartbeats 4000000 in
theorem heldJobsS {w : World} {B : Nat} {vc : Value} {n : Nat} {zc : List Int} {q : Nat} (h : CS w B vc n zc q) (hq : q ≤ 100000000000) :
    Calls Try.prog 139 #[.pointer (some ⟨B, 0, none⟩)] w fun e w' => ∃ (v : Value) (m : Nat) (zs : List Int) (q' : Nat), e = .returned v ∧ w'.ownsRow w.heap.size 62 2 v m (zs.map (Value.int .i64)) ∧ m ≤ 21 ∧ (∀ z ∈ zs, (Lit.int .i64 z).wf = true) ∧ q' ≤ q + 1000 ∧ CS w' B vc n zc q' ∧ w.grownBy w' (some B) := by
  obtain ⟨i0, hi, hz0, hz1, hz2⟩ := info_parts info_HeldJob
  have hBs := h.size
  go_enter Try.func139, Try.ntmps139
  go_wp2_with (fail)
  refine (pickS 6 h (by omega)).mono ?_
  rintro e w1 ⟨x1, q1, rfl, hx1, _, hx1', hq1, hq1', hc1, hg1⟩
  have hx1'' := hx1' (by omega)
  go_wp2_with (fail)
  refine (oneS 20 hc1 (by omega)).mono ?_
  rintro e w2 ⟨o2, q2, rfl, hq2, hq2', hc2, hg2⟩
  have hg02 := World.grownBy.trans hg1 hg2
  clear hc1 hg1 hg2 h
  go_upto_if 10 with (fail)
  go_cut [4] from 7 to 13 (fun s4 wx => ∃ (N q3 : Nat), s4 = .int .i64 (N : Int) ∧ N ≤ 21 ∧ q3 ≤ q + 6 ∧ CS wx B vc n zc q3 ∧ w.grownBy wx (some B))
  case first =>
    cases o2 with
    | false =>
      go_wp2_with (fail)
      go_meet
      obtain ⟨k, rfl⟩ := Int.eq_ofNat_of_zero_le hx1
      exact ⟨k, q2, rfl, by omega, by omega, hc2, hg02⟩
    | true =>
      go_wp2_with (fail)
      refine (pickS 2 hc2 (by omega)).mono ?_
      rintro e w3 ⟨x3, q3, rfl, hx3, _, hx3', hq3, hq3', hc3, hg3⟩
      have hx3'' := hx3' (by omega)
      obtain ⟨k, rfl⟩ := Int.eq_ofNat_of_zero_le hx3
      have hw3 : IntKind.i64.wrap (20 + (k : Int)) = ((20 + k : Nat) : Int) := by rw [IntWalk.i64_in _ (by omega)]; omega
      go_wp2_with (fail)
      go_meet
      exact ⟨20 + k, q3, by first | rfl | (simp [hw3]), by omega, by omega, hc3, World.grownBy.trans hg02 hg3⟩
  case rest =>
    obtain ⟨N, q3, rfl, hN, hq3, hc3, hg3⟩ := hcut
    clear hc2 hg02
    go_wp2_with (fail)
    refine (pickS 40 hc3 (by omega)).mono ?_
    rintro e w4 ⟨r0, q4, rfl, hr0, _, hr0', hq4, hq4', hc4, hg4⟩
    have hr0'' := hr0' (by omega)
    have hg04 := World.grownBy.trans hg3 hg4
    clear hc3 hg3 hg4 hr0'
    go_wp2_with (fail)
    go_loopw [3, 5] (fun s3 s5 wr => ∃ (m : Nat) (zs : List Int) (qr : Nat) (r : Int), m ≤ N ∧ s5 = .int .i64 r ∧ 0 ≤ r ∧ r ≤ 40 + m * 60 ∧ wr.ownsRow w.heap.size 62 2 s3 m (zs.map (Value.int .i64)) ∧ (∀ z ∈ zs, (Lit.int .i64 z).wf = true) ∧ qr ≤ q + 10 + m * 20 ∧ CS wr B vc n zc qr ∧ w.grownBy wr (some B))
      (fun s3 _ _ => N - lenOf s3)
    case atStart => exact ⟨0, [], q4, r0, Nat.zero_le _, rfl, hr0, by omega, World.ownsRow_nil _ _ _ _, by simp, by omega, hc4, hg04⟩
    case round =>
      obtain ⟨m, zs, qr, r, hm, rfl, hr1, hr2, hrow, hzw, hqr, hcr, hgr⟩ := hrel
      clear hc4 hg04
      obtain ⟨a3, c3, rfl, hnc, hcm, hown⟩ := row_shape hrow
      have HROW := hid hrow
      have hl3 : zs.length = m * 2 := by simpa using hrow.1
      have hfar : ∀ k, (Value.slice a3 m c3).ownBlock = some k → B < k ∧ w.heap.size ≤ k := fun k hk => by have := (hrow.lt k hk).1; omega
      have HFAR := hid hfar
      clear hrow hfar hown
      by_cases hlt : m < N
      · have t1 : decide ((m : Int) < (N : Int)) = true := by simpa using hlt
        go_wp2_with (fail)
        refine (pickS 8 hcr (by omega)).mono ?_
        rintro e w5 ⟨x, q5, rfl, hx0, _, hx2, hq5, hq5', hc5, hg5⟩
        have hx2' := hx2 (by omega)
        go_wp2_with (fail)
        refine (amongL [1, 2, 2, 5, 1 + x] hc5 (by omega) rfl (by simp) (by simp) rfl (by intro z hz; simp at hz; omega)).mono ?_
        rintro e w6 ⟨y, q6, rfl, hy, hq6, hq6', hc6, hg6⟩
        have wy : (Lit.int .i64 y).wf = true := wf_i64 (by simp at hy; omega)
        have wr1 : (Lit.int .i64 r).wf = true := wf_i64 (by omega)
        clear hy hx2
        have hg06 := World.grownBy.trans (World.grownBy.trans hgr hg5) hg6
        have HROW6 := hid ((HROW.out.kept hg5 (.inr (fun e => by have := (HFAR.out _ e).1; omega))).kept hg6 (.inr (fun e => by have := (HFAR.out _ e).1; omega)))
        have hb6 : w.heap.size ≤ w6.heap.size := hg06.size
        clear hcr hc5 hgr hg5 hg6
        go_wp2_with (at_builtin; go_loud (refine wpList_src2 rfl (.tmp 20) (.tmp 29) 46 rfl w.heap.size 62 i0 _ Try.underlying46 hi hz0 hz1 hz2 rfl (.slice a3 m c3) m (zs.map (Value.int .i64)) rfl (row_ext HROW6.out ((Ext.refl _).alloc _)) _ 1 [r, y] rfl (lit2_rowB _ r y _ wr1 wy) (by omega) (by simp only [World.size_alloc]; omega) ?_; intro v1 wz hr1 hgz; obtain ⟨a1, c1', rfl, _, _, _⟩ := row_shape hr1; have hcz : CS wz B vc n zc q6 := CS.far (hc6.ext ((Ext.refl _).alloc _)) hgz (fun k hk => (HFAR.out k hk).1); have hgz0 : w.grownBy wz (some B) := World.grownBy.andThen (World.grownBy.trans hg06 (((Ext.refl _).alloc _ : Ext w6 _).grown.but (some B))) hgz (fun k hk => .inl (HFAR.out k hk).2)))
        refine (amongL [0, 0, 5, 20, 60] hcz (by omega) rfl (by simp) (by simp) rfl (by intro z hz; simp at hz; omega)).mono ?_
        rintro e w8 ⟨u, q8, rfl, hu, hq8, hq8', hc8, hg8⟩
        have hu' : 0 ≤ u ∧ u ≤ 60 := by simp at hu; omega
        obtain ⟨hu0, hu1⟩ := hu'
        clear hu
        have hfar1 : ∀ k, (Value.slice a1 (m + 1) c1').ownBlock = some k → w.heap.size ≤ k := fun k hk => (hr1.lt k hk).1
        have HR1 := hid (hr1.kept hg8 (.inr (fun e => by have := hfar1 _ e; omega)))
        have hg08 := World.grownBy.trans hgz0 hg8
        clear hr1 hgz hcz hgz0 hg8 hfar1
        go_wp2_with (fail)
        go_roundw
        case rel =>
          refine ⟨m + 1, zs ++ [r, y], q8, r + u, by omega, by first | rfl | go_num, by omega, by omega, ?_, app_wf2 hzw wr1 wy, by omega, hc8, hg08⟩
          rw [List.map_append]
          exact HR1.out
        case measure => simp [lenOf]; omega
      · obtain rfl : m = N := by omega
        have t1 : decide ((m : Int) < (m : Int)) = false := by simp
        by_cases h0 : 0 < m
        · have t2 : decide ((0 : Int) < (m : Int)) = true := by simpa using h0
          have t3 : decide (0 < m) = true := by simpa using h0
          go_wp2_with (fail)
          refine (pickS (m : Int) hcr (by omega)).mono ?_
          rintro e w5 ⟨x5, q5, rfl, hx5, _, hx5', hq5, hq5', hc5, hg5⟩
          have hx5'' := hx5' (by omega)
          obtain ⟨k, rfl⟩ := Int.eq_ofNat_of_zero_le hx5
          have hkm : k < m := by omega
          clear hx5'
          have hrow5 := HROW.out.kept hg5 (.inr (fun e => by have := (HFAR.out _ e).1; omega))
          have hg05 := World.grownBy.trans hgr hg5
          obtain ⟨_, _, he, _, _, hgo⟩ := row_shape hrow5
          obtain ⟨g, hge, hg1, hg2⟩ := hgo.resolve_left (by omega)
          simp only [Value.slice.injEq, true_and] at he
          obtain ⟨rfl, rfl⟩ := he
          subst hge
          have HROW5 := hid hrow5
          clear hrow5 hcr hgr hg5
          have hk0 : (0 : Int) ≤ (k : Int) := Int.natCast_nonneg _
          have hkm2 : (k : Int) < m := by omega
          have hBg : B < g := by omega
          go_wp2_with (fail)
          refine (pickS 30 hc5 (by omega)).mono ?_
          rintro e w6 ⟨x6, q6, rfl, hx6, _, _, hq6, hq6', hc6, hg6⟩
          have HROW6 := hid (HROW5.out.kept hg6 (.inr (fun e => by simp [Value.ownBlock] at e; omega)))
          have hg06 := World.grownBy.trans hg05 hg6
          clear HROW5 hc5 hg05 hg6 HROW
          by_cases e0 : x6 = 0
          · have u0 : decide (x6 = 0) = true := by simpa using e0
            have u0' : (x6 == 0) = true := by simpa using e0
            clear e0
            go_wp2_with (fail)
            refine (amongL [-1, 0, 10000, 10001] hc6 (by omega) rfl (by simp) (by simp) rfl (by intro z hz; simp at hz; omega)).mono ?_
            rintro e w7 ⟨y, q7, rfl, hy, hq7, hq7', hc7, hg7⟩
            have wy : (Lit.int .i64 y).wf = true := wf_i64 (by simp at hy; omega)
            clear hy
            have hrow7 := HROW6.out.kept hg7 (.inr (fun e => by simp [Value.ownBlock] at e; omega))
            have hg07 := World.grownBy.trans hg06 hg7
            have HS := hid (hrow7.stored (k * 2) (.int .i64 y)).1
            obtain ⟨u, cu, _⟩ := row_cell hrow7 (k * 2) (by omega)
            have fu := hrow7.frozenAt (k * 2)
            have hc8 := hc7.set hBg (k * 2) (.int .i64 y)
            have hg08 := grow_set hg07 hg1 (k * 2) (.int .i64 y)
            clear hrow7 hc6 hg06 hg7 HROW6
            go_wp2_with (fail)
            go_ret
            refine ⟨_, m, zs.set (k * 2) y, q7, rfl, ?_, by omega, set_wfH hzw wy, by omega, hc8, hg08⟩
            rw [List.map_set]
            exact HS.out
          · have u0 : decide (x6 = 0) = false := by simpa using e0
            have u0' : (x6 == 0) = false := by simpa using e0
            by_cases e1 : x6 = 1
            · have u1 : decide (x6 = 1) = true := by simpa using e1
              have u1' : (x6 == 1) = true := by simpa using e1
              clear e0 e1
              go_wp2_with (fail)
              refine (amongL [0, 80, 81] hc6 (by omega) rfl (by simp) (by simp) rfl (by intro z hz; simp at hz; omega)).mono ?_
              rintro e w7 ⟨y, q7, rfl, hy, hq7, hq7', hc7, hg7⟩
              have wy : (Lit.int .i64 y).wf = true := wf_i64 (by simp at hy; omega)
              clear hy
              have hrow7 := HROW6.out.kept hg7 (.inr (fun e => by simp [Value.ownBlock] at e; omega))
              have hg07 := World.grownBy.trans hg06 hg7
              have HS := hid (hrow7.stored (k * 2 + 1) (.int .i64 y)).1
              obtain ⟨u, cu, _⟩ := row_cell hrow7 (k * 2 + 1) (by omega)
              have fu := hrow7.frozenAt (k * 2 + 1)
              have hc8 := hc7.set hBg (k * 2 + 1) (.int .i64 y)
              have hg08 := grow_set hg07 hg1 (k * 2 + 1) (.int .i64 y)
              clear hrow7 hc6 hg06 hg7 HROW6
              go_wp2_with (fail)
              go_ret
              refine ⟨_, m, zs.set (k * 2 + 1) y, q7, rfl, ?_, by omega, set_wfH hzw wy, by omega, hc8, hg08⟩
              rw [List.map_set]
              exact HS.out
            · have u1 : decide (x6 = 1) = false := by simpa using e1
              have u1' : (x6 == 1) = false := by simpa using e1
              clear e0 e1
              go_wp2_with (fail)
              go_ret
              exact ⟨_, m, zs, q6, rfl, HROW6.out, by omega, hzw, by omega, hc6, hg06⟩
        · obtain rfl : m = 0 := by omega
          have t2 : decide ((0 : Int) < ((0 : Nat) : Int)) = false := by simp
          have t3 : decide (0 < 0) = false := by simp
          go_wp2_with (fail)
          go_ret
          exact ⟨_, 0, zs, qr, rfl, HROW.out, by omega, hzw, by omega, hcr, hgr⟩
end Go.Proofs.Ytlmfohjfbolhpaa