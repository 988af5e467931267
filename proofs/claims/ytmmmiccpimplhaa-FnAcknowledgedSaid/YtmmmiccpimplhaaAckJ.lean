/- What the reference draws for the laws of acknowledgements: scripts, parts, windows. Condition: the code's length. -/
import Derived.Test.YtmmmiccpimplhaaAckI
import Derived.Test.YtmmmiccpimplhaaCurB
namespace Go.Proofs.Ytmmmiccpimplhaa
open Go.RowKit
set_option linter.unusedSimpArgs false
set_option linter.unusedVariables false

theorem CS.far {w w' : World} {B : Nat} {vc : Value} {n : Nat} {zc : List Int} {q : Nat} {r : Option Nat} (h : CS w B vc n zc q) (g : w.grownBy w' r) (hr : ∀ k, r = some k → B < k) : CS w' B vc n zc q := by
  obtain ⟨⟨s, h1⟩, h2, h3, h4⟩ := h
  cases r with
  | none => exact CS.ext ⟨⟨s, h1⟩, h2, h3, h4⟩ ⟨g.os, g.tape, g.output, g.size, fun k hk => g.block k hk (by simp)⟩
  | some b =>
    have hb := hr b rfl
    refine ⟨⟨s, h1.kept g (.inr (by simp [Value.ownBlock]; omega))⟩, introw_grown h2 (fun h0 a l c e => ?_) g, h3, h4⟩
    have := h3 h0 a l c e
    omega
def lenOf : Value → Nat
  | .slice _ n _ => n
  | _ => 0
theorem mem_wf1 {zs : List Int} {a : Int} (h : ∀ z ∈ zs, (Lit.int .i64 z).wf = true) (ha : (Lit.int .i64 a).wf = true) : ∀ z ∈ zs ++ [a], (Lit.int .i64 z).wf = true := by
  intro z hz
  rcases List.mem_append.1 hz with hz | hz
  · exact h z hz
  · rw [List.mem_singleton] at hz
    subst hz
    exact ha
theorem fresh {w w' : World} {vc : Value} (g : (w.alloc (.cells #[vc, .int .i64 0, .int .u64 0] 62)).grownBy w' (some w.heap.size)) : Ext w w' :=
  Ext.of_grownAt ((by repeat (first | exact Ext.refl _ | assumption | refine Ext.alloc ?_ _ | refine Ext.drew ?_ | refine Ext.drewN ?_ _ | refine Ext.setCell ?_ (by first | exact Nat.le_refl _ | (simp; done) | (dsimp only; omega) | (simp only [World.size_alloc, World.size_setCell]; omega)) _ | refine Ext.trans ?_ (by assumption))) : Ext w (w.alloc (.cells #[vc, .int .i64 0, .int .u64 0] 62))) g (by intro k hk; simp at hk; omega)
theorem introw_slice {kd : IntKind} {k : Nat} {w : World} {v : Value} {n : Nat} {zs : List Int} (h : IntRow kd k w v n zs) : ∃ a c, v = .slice a n c := by
  obtain ⟨_, _, _, a, c, rfl, _⟩ := h
  exact ⟨a, c, rfl⟩

set_option maxRecDepth 100000 in
set_option maxHeartbeats 2000000 in
theorem scriptS {w : World} {B : Nat} {vc : Value} {n : Nat} {zc : List Int} {q : Nat} (h : CS w B vc n zc q) (hq : q ≤ 1000) :
    Calls Try.prog 47 #[.pointer (some ⟨B, 0, none⟩)] w fun e w' => ∃ (v : Value) (m : Nat) (zs : List Int) (q' : Nat), e = .returned v ∧ w'.ownsRow w.heap.size 3 1 v m (zs.map (Value.int .i64)) ∧ m ≤ 31 ∧ (∀ z ∈ zs, (Lit.int .i64 z).wf = true) ∧ q' ≤ q + 1000 ∧ CS w' B vc n zc q' ∧ w.grownBy w' (some B) := by
  obtain ⟨i0, hi, hz0, hz1, hz2⟩ := info_parts info_Int
  have hBs := h.size
  go_enter Try.func47, Try.ntmps47
  go_wp2_with (fail)
  refine (pickS 9 h (by omega)).mono ?_
  rintro e w1 ⟨x1, q1, rfl, hx1, _, hx1', hq1, hq1', hc1, hg1⟩
  have hx1'' := hx1' (by omega)
  go_wp2_with (fail)
  refine (oneS 16 hc1 (by omega)).mono ?_
  rintro e w2 ⟨o2, q2, rfl, hq2, hq2', hc2, hg2⟩
  have hg02 := World.grownBy.trans hg1 hg2
  clear hc1 hg1 hg2 h
  go_upto_if 8 with (fail)
  go_cut [4] from 5 to 11 (fun s4 wx => ∃ (N q3 : Nat), s4 = .int .i64 (N : Int) ∧ N ≤ 31 ∧ q3 ≤ q + 6 ∧ CS wx B vc n zc q3 ∧ w.grownBy wx (some B))
  case first =>
    cases o2 with
    | false =>
      go_wp2_with (fail)
      go_meet
      obtain ⟨k, rfl⟩ := Int.eq_ofNat_of_zero_le hx1
      exact ⟨k, q2, rfl, by omega, by omega, hc2, hg02⟩
    | true =>
      go_wp2_with (fail)
      refine (pickS 2 hc2 (by omega)).mono ?_
      rintro e w3 ⟨x3, q3, rfl, hx3, _, hx3', hq3, hq3', hc3, hg3⟩
      have hx3'' := hx3' (by omega)
      obtain ⟨k, rfl⟩ := Int.eq_ofNat_of_zero_le hx3
      have hw3 : IntKind.i64.wrap (30 + (k : Int)) = ((30 + k : Nat) : Int) := by rw [IntWalk.i64_in _ (by omega)]; omega
      go_wp2_with (fail)
      go_meet
      exact ⟨30 + k, q3, by first | rfl | (simp [hw3]), by omega, by omega, hc3, World.grownBy.trans hg02 hg3⟩
  case rest =>
    obtain ⟨N, q3, rfl, hN, hq3, hc3, hg3⟩ := hcut
    clear hc2 hg02
    go_wp2_with (fail)
    go_loopw [3] (fun s3 wr => ∃ (m : Nat) (zs : List Int) (qr : Nat), m ≤ N ∧ wr.ownsRow w.heap.size 3 1 s3 m (zs.map (Value.int .i64)) ∧ (∀ z ∈ zs, (Lit.int .i64 z).wf = true) ∧ qr ≤ q + 10 + 20 * m ∧ CS wr B vc n zc qr ∧ w.grownBy wr (some B))
      (fun s3 _ => N - lenOf s3)
    case atStart => exact ⟨0, [], q3, Nat.zero_le _, World.ownsRow_nil _ _ _ _, by simp, by omega, hc3, hg3⟩
    case round =>
      obtain ⟨m, zs, qr, hm, hrow, hzw, hqr, hcr, hgr⟩ := hrel
      clear hc3 hg3
      obtain ⟨a3, c3, rfl, hnc, hcm, hown⟩ := row_shape hrow
      have HROW := hid hrow
      have hl3 : zs.length = m * 1 := by simpa using hrow.1
      have hfar : ∀ k, (Value.slice a3 m c3).ownBlock = some k → B < k ∧ w.heap.size ≤ k := fun k hk => by have := (hrow.lt k hk).1; omega
      have HFAR := hid hfar
      clear hrow hfar hown
      by_cases hlt : m < N
      · have t1 : decide ((m : Int) < (N : Int)) = true := by simpa using hlt
        go_wp2_with (fail)
        refine (pickS 1024 hcr (by omega)).mono ?_
        rintro e w5 ⟨x, q5, rfl, hx0, _, hx1, hq5, hq5', hc5, hg5⟩
        have hx1' := hx1 (by omega)
        go_wp2_with (fail)
        refine (amongL [0, 0, 512, 1, 3, 511, 1023, x] hc5 (by omega) rfl (by simp) (by simp) rfl (by intro z hz; simp at hz; omega)).mono ?_
        rintro e w6 ⟨y, q6, rfl, hy, hq6, hq6', hc6, hg6⟩
        have wy : (Lit.int .i64 y).wf = true := wf_i64 (by simp at hy; omega)
        clear hy
        have hg06 := World.grownBy.trans (World.grownBy.trans hgr hg5) hg6
        have HROW6 := hid ((HROW.out.kept hg5 (.inr (fun e => by have := (HFAR.out _ e).1; omega))).kept hg6 (.inr (fun e => by have := (HFAR.out _ e).1; omega)))
        have hb6 : w.heap.size ≤ w6.heap.size := hg06.size
        have hm31 : m + 1 ≤ 31 := by omega
        clear hcr hc5 hgr hg5 hg6 hx1
        go_wp2_with (first | (at_builtin; refine wpList_append_own _ rfl _ _ 22 rfl w.heap.size 3 i0 _ _ _ Try.underlying22 hi hz0 hz1 hz2 rfl (by decide) _ _ _ rfl (HROW6.out.alloc _) _ 1 1 [.int .i64 y] rfl rfl (cell_new1 _ _ _ _ (by simp)) (fun x hx => by simp at hx; subst hx; rfl) (by unfold maxLen; omega) (by omega) (by simp; omega) ?_; intro v' wz hr1 hgz hnil'; obtain ⟨a1, c1', rfl, _, _, _⟩ := row_shape hr1; have hcz : CS wz B vc n zc q6 := CS.far (hc6.ext ((Ext.refl _).alloc _)) hgz (fun k hk => (HFAR.out k hk).1); have hgz0 : w.grownBy wz (some B) := World.grownBy.andThen (World.grownBy.trans hg06 (((Ext.refl _).alloc _ : Ext w6 _).grown.but (some B))) hgz (fun k hk => .inl (HFAR.out k hk).2)))
        go_roundw
        case rel =>
          refine ⟨m + 1, zs ++ [y], q6, by omega, ?_, mem_wf1 hzw wy, by omega, hcz, hgz0⟩
          rw [List.map_append]
          exact hr1
        case measure => simp [lenOf]; omega
      · obtain rfl : m = N := by omega
        have t1 : decide ((m : Int) < (m : Int)) = false := by simp
        by_cases h0 : 0 < m
        · have t2 : decide ((0 : Int) < (m : Int)) = true := by simpa using h0
          have t3 : decide (0 < m) = true := by simpa using h0
          go_wp2_with (fail)
          refine (oneS 20 hcr (by omega)).mono ?_
          rintro e w4 ⟨o4, q4, rfl, hq4, hq4', hc4, hg4⟩
          have HROW4 := hid (HROW.out.kept hg4 (.inr (fun e => by have := (HFAR.out _ e).1; omega)))
          have hg04 := World.grownBy.trans hgr hg4
          clear hcr hgr hg4
          cases o4 with
          | false =>
            go_wp2_with (fail)
            go_ret
            exact ⟨_, m, zs, q4, rfl, HROW4.out, by omega, hzw, by omega, hc4, hg04⟩
          | true =>
            go_wp2_with (fail)
            refine (pickS (m : Int) hc4 (by omega)).mono ?_
            rintro e w5 ⟨x5, q5, rfl, hx5, _, hx5', hq5, hq5', hc5, hg5⟩
            have hx5'' := hx5' (by omega)
            obtain ⟨k, rfl⟩ := Int.eq_ofNat_of_zero_le hx5
            have hkm : k < m := by omega
            clear hx5'
            go_wp2_with (fail)
            refine (amongL [-1, 1024] hc5 (by omega) rfl (by simp) (by simp) rfl (by intro z hz; simp at hz; omega)).mono ?_
            rintro e w6 ⟨y, q6, rfl, hy, hq6, hq6', hc6, hg6⟩
            have wy : (Lit.int .i64 y).wf = true := wf_i64 (by simp at hy; omega)
            clear hy
            have hg06 := World.grownBy.trans (World.grownBy.trans hg04 hg5) hg6
            have hrow6 := (HROW4.out.kept hg5 (.inr (fun e => by have := (HFAR.out _ e).1; omega))).kept hg6 (.inr (fun e => by have := (HFAR.out _ e).1; omega))
            obtain ⟨_, _, he, _, _, hgo⟩ := row_shape hrow6
            obtain ⟨g, hge, hg1, hg2⟩ := hgo.resolve_left (by omega)
            simp only [Value.slice.injEq, true_and] at he
            obtain ⟨rfl, rfl⟩ := he
            subst hge
            have hst := (hrow6.stored k (.int .i64 y)).1
            obtain ⟨u, cu, _⟩ := row_cell hrow6 k (by omega)
            have fu := hrow6.frozenAt k
            have hBg : B < g := by omega
            have hc7 := hc6.set hBg k (.int .i64 y)
            have hg07 := grow_set hg06 hg1 k (.int .i64 y)
            have HS := hid hst
            clear hrow6 hst hc5 hc4 hg04 hg5 hg6
            have hk0 : (0 : Int) ≤ (k : Int) := Int.natCast_nonneg _
            have hkm2 : (k : Int) < m := by omega
            go_wp2_with (fail)
            go_ret
            refine ⟨_, m, zs.set k y, q6, rfl, ?_, by omega, ?_, by omega, hc7, hg07⟩
            · rw [List.map_set]
              exact HS.out
            · intro z hz
              rcases List.mem_or_eq_of_mem_set hz with hz | rfl
              · exact hzw z hz
              · exact wy
        · obtain rfl : m = 0 := by omega
          have t2 : decide ((0 : Int) < ((0 : Nat) : Int)) = false := by simp
          have t3 : decide (0 < 0) = false := by simp
          go_wp2_with (fail)
          go_ret
          exact ⟨_, 0, zs, qr, rfl, HROW.out, by omega, hzw, by omega, hcr, hgr⟩

set_option maxRecDepth 100000 in
set_option maxHeartbeats 1000000 in
theorem partsS {w : World} {B : Nat} {vc : Value} {n : Nat} {zc : List Int} {q : Nat} (h : CS w B vc n zc q) (hq : q ≤ 100000) :
    Calls Try.prog 46 #[.pointer (some ⟨B, 0, none⟩)] w fun e w' => ∃ (x : Int) (q' : Nat), e = .returned (.int .i64 x) ∧ 0 ≤ x ∧ x ≤ 10 ∧ q' ≤ q + 4 ∧ CS w' B vc n zc q' ∧ w.grownBy w' (some B) := by
  go_enter Try.func46, Try.ntmps46
  go_wp2_with (fail)
  refine (amongL [0, 10] h (by omega) rfl (by simp) (by simp) rfl (by intro z hz; simp at hz; omega)).mono ?_
  rintro e w1 ⟨x1, q1, rfl, hm1, hq1, hq2, hc1, hg1⟩
  replace hm1 : 0 ≤ x1 ∧ x1 ≤ 10 := by simp at hm1; omega
  obtain ⟨a1, a2⟩ := hm1
  go_wp2_with (fail)
  refine (amongL [1, 2, 3, 5, 9, 9, x1] hc1 (by omega) rfl (by simp) (by simp) rfl (by intro z hz; simp at hz; omega)).mono ?_
  rintro e w2 ⟨x2, q2, rfl, hm2, hq3, hq4, hc2, hg2⟩
  replace hm2 : 0 ≤ x2 ∧ x2 ≤ 10 := by simp at hm2; omega
  go_wp2_with (fail)
  go_ret
  exact ⟨x2, q2, rfl, hm2.1, hm2.2, by omega, hc2, World.grownBy.trans hg1 hg2⟩

set_option maxRecDepth 100000 in
set_option maxHeartbeats 1000000 in
theorem windowS {w : World} {B : Nat} {vc : Value} {n : Nat} {zc : List Int} {q : Nat} (h : CS w B vc n zc q) (hq : q ≤ 100000) :
    Calls Try.prog 58 #[.pointer (some ⟨B, 0, none⟩)] w fun e w' => ∃ (x : Int) (q' : Nat), e = .returned (.int .i64 x) ∧ 0 ≤ x ∧ x ≤ 10 ∧ q' ≤ q + 4 ∧ CS w' B vc n zc q' ∧ w.grownBy w' (some B) := by
  go_enter Try.func58, Try.ntmps58
  go_wp2_with (fail)
  refine (amongL [0, 10] h (by omega) rfl (by simp) (by simp) rfl (by intro z hz; simp at hz; omega)).mono ?_
  rintro e w1 ⟨x1, q1, rfl, hm1, hq1, hq2, hc1, hg1⟩
  replace hm1 : 0 ≤ x1 ∧ x1 ≤ 10 := by simp at hm1; omega
  obtain ⟨a1, a2⟩ := hm1
  go_wp2_with (fail)
  refine (amongL [1, 2, 3, 4, 9, x1] hc1 (by omega) rfl (by simp) (by simp) rfl (by intro z hz; simp at hz; omega)).mono ?_
  rintro e w2 ⟨x2, q2, rfl, hm2, hq3, hq4, hc2, hg2⟩
  replace hm2 : 0 ≤ x2 ∧ x2 ≤ 10 := by simp at hm2; omega
  go_wp2_with (fail)
  go_ret
  exact ⟨x2, q2, rfl, hm2.1, hm2.2, by omega, hc2, World.grownBy.trans hg1 hg2⟩

set_option maxRecDepth 100000 in
set_option maxHeartbeats 1000000 in
theorem drawScript (vc : Value) (n : Nat) (zc : List Int) (w : World) (h : IntRow .u8 1 w vc n zc) (hn : n ≤ 9223372036854775807) :
    Calls Try.prog 30 #[vc] w fun e w' => ∃ (v : Value) (m : Nat) (zs : List Int), e = .returned v ∧ IntRow .i64 1 w' v m zs ∧ m ≤ 31 ∧ Ext w w' := by
  have hc := cur_new h (by omega)
  obtain ⟨a, c, rfl⟩ := introw_slice h
  go_enter Try.func30, Try.ntmps30
  go_wp2_with (fail)
  refine (scriptS hc (by omega)).mono ?_
  rintro e w1 ⟨v, m, zs, q1, rfl, hr, hm, hw, _, hc1, hg1⟩
  go_wp2_with (fail)
  go_ret
  exact ⟨_, m, zs, rfl, row_ints hr (by unfold maxLen; omega) hw, by omega, fresh hg1⟩

set_option maxRecDepth 100000 in
set_option maxHeartbeats 1000000 in
theorem drawBest (vc : Value) (n : Nat) (zc : List Int) (w : World) (h : IntRow .u8 1 w vc n zc) (hn : n ≤ 9223372036854775807) :
    Calls Try.prog 24 #[vc] w fun e w' => ∃ (x : Int) (v : Value) (m : Nat) (zs : List Int), e = .returned (.tuple #[.int .i64 x, v]) ∧ (0 ≤ x ∧ x ≤ 10) ∧ IntRow .i64 1 w' v m zs ∧ m ≤ 31 ∧ Ext w w' := by
  have hc := cur_new h (by omega)
  obtain ⟨a, c, rfl⟩ := introw_slice h
  go_enter Try.func24, Try.ntmps24
  go_wp2_with (fail)
  refine (partsS hc (by omega)).mono ?_
  rintro e w1 ⟨x, q1, rfl, b1, b2, hq1, hc1, hg1⟩
  go_wp2_with (fail)
  refine (scriptS hc1 (by omega)).mono ?_
  rintro e w2 ⟨v, m, zs, q2, rfl, hr, hm, hw, _, hc2, hg2⟩
  go_wp2_with (fail)
  go_ret2
  exact ⟨x, _, m, zs, rfl, ⟨b1, b2⟩, row_ints hr (by unfold maxLen; omega) hw, by omega, fresh (World.grownBy.trans hg1 hg2)⟩

set_option maxRecDepth 100000 in
set_option maxHeartbeats 1000000 in
theorem drawRounds (vc : Value) (n : Nat) (zc : List Int) (w : World) (h : IntRow .u8 1 w vc n zc) (hn : n ≤ 9223372036854775807) :
    Calls Try.prog 48 #[vc] w fun e w' => ∃ (x y : Int) (v : Value) (m : Nat) (zs : List Int), e = .returned (.tuple #[.int .i64 x, .int .i64 y, v]) ∧ ((0 ≤ x ∧ x ≤ 10) ∧ 0 ≤ y ∧ y ≤ 10) ∧ IntRow .i64 1 w' v m zs ∧ m ≤ 31 ∧ Ext w w' := by
  have hc := cur_new h (by omega)
  obtain ⟨a, c, rfl⟩ := introw_slice h
  go_enter Try.func48, Try.ntmps48
  go_wp2_with (fail)
  refine (partsS hc (by omega)).mono ?_
  rintro e w1 ⟨x, q1, rfl, b1, b2, hq1, hc1, hg1⟩
  go_wp2_with (fail)
  refine (windowS hc1 (by omega)).mono ?_
  rintro e w2 ⟨y, q2, rfl, b3, b4, hq2, hc2, hg2⟩
  go_wp2_with (fail)
  refine (scriptS hc2 (by omega)).mono ?_
  rintro e w3 ⟨v, m, zs, q3, rfl, hr, hm, hw, _, hc3, hg3⟩
  go_wp2_with (fail)
  go_ret3
  exact ⟨x, y, _, m, zs, rfl, ⟨⟨b1, b2⟩, b3, b4⟩, row_ints hr (by unfold maxLen; omega) hw, by omega, fresh (World.grownBy.trans hg1 (World.grownBy.trans hg2 hg3))⟩
set_option maxHeartbeats 1000000 in
theorem drawSent (vc : Value) (n : Nat) (zc : List Int) (w : World) (h : IntRow .u8 1 w vc n zc) (hn : n ≤ 9223372036854775807) :
    Calls Try.prog 25 #[vc] w fun e w' => ∃ (x y : Int) (v : Value) (m : Nat) (zs : List Int), e = .returned (.tuple #[.int .i64 x, .int .i64 y, v]) ∧ ((0 ≤ x ∧ x ≤ 10) ∧ 0 ≤ y ∧ y ≤ 10) ∧ IntRow .i64 1 w' v m zs ∧ m ≤ 31 ∧ Ext w w' := by
  go_enter Try.func25, Try.ntmps25
  go_wp2_with (fail)
  refine (drawRounds vc n zc _ h hn).mono ?_
  rintro e w1 ⟨x, y, v, m, zs, rfl, h1, h2, h3, h4⟩
  go_wp2_with (fail)
  go_ret3
  exact ⟨x, y, _, m, zs, rfl, h1, h2, h3, h4⟩
end Go.Proofs.Ytmmmiccpimplhaa
