/- What the reference draws for the laws of the clocks: bounds, a turned bound, an aged bound. Condition: the code's length. -/
import Derived.Test.YtiemkobgpaekoaaClkK
import Derived.Test.YtiemkobgpaekoaaApp2
import Derived.Test.YtiemkobgpaekoaaClkF
namespace Go.Proofs.Ytiemkobgpaekoaa
open Go.RowKit
set_option linter.unusedSimpArgs false
set_option linter.unusedVariables false

theorem CS.far {w w' : World} {B : Nat} {vc : Value} {n : Nat} {zc : List Int} {q : Nat} {r : Option Nat} (h : CS w B vc n zc q) (g : w.grownBy w' r) (hr : ∀ k, r = some k → B < k) : CS w' B vc n zc q := by
  obtain ⟨⟨s, h1⟩, h2, h3, h4⟩ := h
  cases r with
  | none => exact CS.ext ⟨⟨s, h1⟩, h2, h3, h4⟩ ⟨g.os, g.tape, g.output, g.size, fun k hk => g.block k hk (by simp)⟩
  | some b =>
    have hb := hr b rfl
    refine ⟨⟨s, h1.kept g (.inr (by simp [Value.ownBlock]; omega))⟩, introw_grown h2 (fun h0 a l c e => ?_) g, h3, h4⟩
    have := h3 h0 a l c e
    omega
def lenOf : Value → Nat
  | .slice _ n _ => n
  | _ => 0
theorem mem_wf2 {zs : List Int} {a b : Int} (h : ∀ z ∈ zs, (Lit.int .i64 z).wf = true) (ha : (Lit.int .i64 a).wf = true) (hb : (Lit.int .i64 b).wf = true) : ∀ z ∈ zs ++ [a, b], (Lit.int .i64 z).wf = true := by
  intro z hz
  rcases List.mem_append.1 hz with hz | hz
  · exact h z hz
  · simp only [List.mem_cons, List.not_mem_nil, or_false] at hz
    rcases hz with rfl | rfl
    · exact ha
    · exact hb

set_option maxRecDepth 100000 in
set_option maxHeartbeats 2000000 in
theorem boundsS {w : World} {B : Nat} {vc : Value} {n : Nat} {zc : List Int} {q : Nat} (h : CS w B vc n zc q) (hq : q ≤ 1000) :
    Calls Try.prog 70 #[.pointer (some ⟨B, 0, none⟩)] w fun e w' => ∃ (v : Value) (m : Nat) (zs : List Int) (q' : Nat), e = .returned v ∧ w'.ownsRow w.heap.size 25 2 v m (zs.map (Value.int .i64)) ∧ m ≤ 21 ∧ (∀ z ∈ zs, (Lit.int .i64 z).wf = true) ∧ q' ≤ q + 1000 ∧ CS w' B vc n zc q' ∧ w.grownBy w' (some B) := by
  obtain ⟨i0, hi, hz0, hz1, hz2⟩ := info_parts info_Bound
  have hBs := h.size
  go_enter Try.func70, Try.ntmps70
  go_wp2_with (fail)
  refine (pickS 6 h (by omega)).mono ?_
  rintro e w1 ⟨x1, q1, rfl, hx1, _, hx1', hq1, hq1', hc1, hg1⟩
  have hx1'' := hx1' (by omega)
  go_wp2_with (fail)
  refine (oneS 20 hc1 (by omega)).mono ?_
  rintro e w2 ⟨o2, q2, rfl, hq2, hq2', hc2, hg2⟩
  have hg02 := World.grownBy.trans hg1 hg2
  clear hc1 hg1 hg2 h
  go_upto_if 10 with (fail)
  go_cut [4] from 7 to 13 (fun s4 wx => ∃ (N q3 : Nat), s4 = .int .i64 (N : Int) ∧ N ≤ 21 ∧ q3 ≤ q + 6 ∧ CS wx B vc n zc q3 ∧ w.grownBy wx (some B))
  case first =>
    cases o2 with
    | false =>
      go_wp2_with (fail)
      go_meet
      obtain ⟨k, rfl⟩ := Int.eq_ofNat_of_zero_le hx1
      exact ⟨k, q2, rfl, by omega, by omega, hc2, hg02⟩
    | true =>
      go_wp2_with (fail)
      refine (pickS 2 hc2 (by omega)).mono ?_
      rintro e w3 ⟨x3, q3, rfl, hx3, _, hx3', hq3, hq3', hc3, hg3⟩
      have hx3'' := hx3' (by omega)
      obtain ⟨k, rfl⟩ := Int.eq_ofNat_of_zero_le hx3
      have hw3 : IntKind.i64.wrap (20 + (k : Int)) = ((20 + k : Nat) : Int) := by rw [IntWalk.i64_in _ (by omega)]; omega
      go_wp2_with (fail)
      go_meet
      exact ⟨20 + k, q3, by first | rfl | (simp [hw3]), by omega, by omega, hc3, World.grownBy.trans hg02 hg3⟩
  case rest =>
    obtain ⟨N, q3, rfl, hN, hq3, hc3, hg3⟩ := hcut
    clear hc2 hg02
    go_wp2_with (fail)
    refine (pickS 100 hc3 (by omega)).mono ?_
    rintro e w4 ⟨mid, q4, rfl, hm0, _, hm1, hq4, hq4', hc4, hg4⟩
    have hm1' := hm1 (by omega)
    have hg04 := World.grownBy.trans hg3 hg4
    clear hc3 hg3 hg4
    have hwm : IntKind.i64.wrap (mid - 50) = mid - 50 := IntWalk.i64_in _ (by omega)
    go_wp2_with (fail)
    go_loopw [3] (fun s3 wr => ∃ (m : Nat) (zs : List Int) (qr : Nat), m ≤ N ∧ wr.ownsRow w.heap.size 25 2 s3 m (zs.map (Value.int .i64)) ∧ (∀ z ∈ zs, (Lit.int .i64 z).wf = true) ∧ qr ≤ q + 10 + 20 * m ∧ CS wr B vc n zc qr ∧ w.grownBy wr (some B))
      (fun s3 _ => N - lenOf s3)
    case atStart => exact ⟨0, [], q4, Nat.zero_le _, World.ownsRow_nil _ _ _ _, by simp, by omega, hc4, hg04⟩
    case round =>
      obtain ⟨m, zs, qr, hm, hrow, hzw, hqr, hcr, hgr⟩ := hrel
      clear hc4 hg04
      obtain ⟨a3, c3, rfl, hnc, hcm, hown⟩ := row_shape hrow
      have HROW := hid hrow
      have hl3 : zs.length = m * 2 := by simpa using hrow.1
      clear hrow
      by_cases hlt : m < N
      · have t1 : decide ((m : Int) < (N : Int)) = true := by simpa using hlt
        have hfar : ∀ k, (Value.slice a3 m c3).ownBlock = some k → B < k ∧ w.heap.size ≤ k := fun k hk => by have := (HROW.out.lt k hk).1; omega
        have HFAR := hid hfar
        clear hfar hown
        go_wp2_with (fail)
        refine (pickS 30 hcr (by omega)).mono ?_
        rintro e w5 ⟨x, q5, rfl, hx0, _, hx1, hq5, hq5', hc5, hg5⟩
        have hx1' := hx1 (by omega)
        go_wp2_with (fail)
        refine (pickS 30 hc5 (by omega)).mono ?_
        rintro e w6 ⟨y, q6, rfl, hy0, _, hy1, hq6, hq6', hc6, hg6⟩
        have hy1' := hy1 (by omega)
        have hg06 := World.grownBy.trans (World.grownBy.trans hgr hg5) hg6
        have HROW6 := hid ((HROW.out.kept hg5 (.inr (fun e => by have := (HFAR.out _ e).1; omega))).kept hg6 (.inr (fun e => by have := (HFAR.out _ e).1; omega)))
        clear hcr hc5 hgr hg5 hg6 hx1 hy1
        have hw1 : IntKind.i64.wrap (mid - 50 - x) = mid - 50 - x := IntWalk.i64_in _ (by omega)
        have hw2 : IntKind.i64.wrap (mid - 50 + y) = mid - 50 + y := IntWalk.i64_in _ (by omega)
        obtain ⟨L1, hL1⟩ : ∃ a, a = mid - 50 - x := ⟨_, rfl⟩
        obtain ⟨L2, hL2⟩ : ∃ a, a = mid - 50 + y := ⟨_, rfl⟩
        have wl1 : (Lit.int .i64 L1).wf = true := wf_i64 (by omega)
        have wl2 : (Lit.int .i64 L2).wf = true := wf_i64 (by omega)
        have T := Two.new w6 L1 L2
        go_wp2_with (fail)
        rw [← hL1, ← hL2]
        clear hL1 hL2 hw1 hw2
        have e7 : Ext w6 (w6.alloc (.cells #[.int .i64 L1, .int .i64 L2] 25)) := (by repeat (first | exact Ext.refl _ | assumption | refine Ext.alloc ?_ _ | refine Ext.drew ?_ | refine Ext.drewN ?_ _ | refine Ext.setCell ?_ (by first | exact Nat.le_refl _ | (simp; done) | (dsimp only; omega) | (simp only [World.size_alloc, World.size_setCell]; omega)) _ | refine Ext.trans ?_ (by assumption)))
        have hc7 := hc6.ext e7
        have HROW7 := hid (row_ext HROW6.out e7)
        have hg07 := World.grownBy.trans hg06 (e7.grown.but (some B))
        have hbx1 : w.heap.size ≤ w6.heap.size := hg06.size
        have hbx2 : ∀ k, (Value.slice a3 m c3).ownBlock = some k → k < w6.heap.size := fun k hk => (HROW6.out.lt k hk).2
        clear hc6 hg06 e7
        obtain ⟨bx, hbx⟩ : ∃ b, b = w6.heap.size := ⟨_, rfl⟩
        rw [← hbx] at T hbx1 hbx2 ⊢
        have HBX2 := hid hbx2
        clear hbx hbx2
        generalize w6.alloc (.cells #[.int .i64 L1, .int .i64 L2] 25) = w7 at T hc7 HROW7 hg07 ⊢
        clear HROW6
        refine (oneS 6 hc7 (by omega)).mono ?_
        rintro e w8 ⟨o8, q8, rfl, hq8, hq8', hc8, hg8⟩
        have T8 := T.grown hg8 (by omega)
        have HROW8 := hid (HROW7.out.kept hg8 (.inr (fun e => by have := (HFAR.out _ e).1; omega)))
        have hg08 := World.grownBy.trans hg07 hg8
        clear T HROW7 hg07 hg8 hc7
        cases o8 with
        | false =>
          have d1 := T8.1
          have d2 := T8.2.1
          go_wp2_with (at_builtin; go_loud (refine wpList_src2 rfl (.tmp 34) (.tmp 36) 48 rfl w.heap.size 25 i0 _ Try.underlying48 hi hz0 hz1 hz2 rfl _ m (zs.map (Value.int .i64)) rfl (row_ext HROW8.out ((Ext.refl _).alloc _)) _ 1 [L1, L2] rfl (lit2_row _ L1 L2 _ wl1 wl2) (by omega) (by have := hg08.size; simp only [World.size_alloc]; omega) ?_; intro v1 wz hr1 hgz; obtain ⟨a1, c1', rfl, _, _, _⟩ := row_shape hr1; have hcz : CS wz B vc n zc q8 := CS.far (hc8.ext ((Ext.refl _).alloc _)) hgz (fun k hk => (HFAR.out k hk).1); have hgz0 : w.grownBy wz (some B) := World.grownBy.andThen (World.grownBy.trans hg08 (((Ext.refl _).alloc _ : Ext w8 _).grown.but (some B))) hgz (fun k hk => .inl (HFAR.out k hk).2)))
          go_roundw
          case rel =>
            refine ⟨m + 1, zs ++ [L1, L2], q8, by omega, ?_, mem_wf2 hzw wl1 wl2, by omega, hcz, hgz0⟩
            rw [List.map_append]
            exact hr1
          case measure => simp [lenOf]; omega
        | true =>
          go_wp2_with (fail)
          refine (boundS hc8 (by omega)).mono ?_
          rintro e w9 ⟨lo, hi9, q9, rfl, u1, u2, u3, u4, hq9, hq9', hc9, hg9⟩
          have T9 := T8.grown hg9 (by omega)
          have HROW9 := hid (HROW8.out.kept hg9 (.inr (fun e => by have := (HFAR.out _ e).1; omega)))
          have hg09 := World.grownBy.trans hg08 hg9
          clear T8 HROW8 hg08 hg9 hc8
          have d1 := T9.1
          have d2 := T9.2.1
          have d3 := T9.2.2.1
          have d4 := T9.2.2.2.1
          go_upto_region 10 with (fail)
          have T10 := (T9.set0 lo).set1 hi9
          have HROW10 := hid ((HROW9.out.kept (grow_cell w9 ⟨bx, 0, none⟩ (.int .i64 lo)) (.inr (fun e => by have := HBX2.out _ e; simp at this))).kept (grow_cell _ ⟨bx, 1, none⟩ (.int .i64 hi9)) (.inr (fun e => by have := HBX2.out _ e; simp at this)))
          have hc10 := (hc9.set (by omega : B < bx) 0 (.int .i64 lo)).set (by omega : B < bx) 1 (.int .i64 hi9)
          have hg010 := grow_set (grow_set hg09 hbx1 0 (.int .i64 lo)) hbx1 1 (.int .i64 hi9)
          have wl3 : (Lit.int .i64 lo).wf = true := wf_i64 (by omega)
          have wl4 : (Lit.int .i64 hi9).wf = true := wf_i64 (by omega)
          clear d1 d2 d3 d4 T9 HROW9 hg09 hc9
          generalize (w9.setCell ⟨bx, 0, none⟩ (.int .i64 lo)).setCell ⟨bx, 1, none⟩ (.int .i64 hi9) = w10 at T10 HROW10 hc10 hg010 ⊢
          have d1 := T10.1
          have d2 := T10.2.1
          go_wp2_with (at_builtin; go_loud (refine wpList_src2 rfl (.tmp 34) (.tmp 36) 48 rfl w.heap.size 25 i0 _ Try.underlying48 hi hz0 hz1 hz2 rfl _ m (zs.map (Value.int .i64)) rfl (row_ext HROW10.out ((Ext.refl _).alloc _)) _ 1 [lo, hi9] rfl (lit2_row _ lo hi9 _ wl3 wl4) (by omega) (by have := hg010.size; simp only [World.size_alloc]; omega) ?_; intro v1 wz hr1 hgz; obtain ⟨a1, c1', rfl, _, _, _⟩ := row_shape hr1; have hcz : CS wz B vc n zc q9 := CS.far (hc10.ext ((Ext.refl _).alloc _)) hgz (fun k hk => (HFAR.out k hk).1); have hgz0 : w.grownBy wz (some B) := World.grownBy.andThen (World.grownBy.trans hg010 (((Ext.refl _).alloc _ : Ext w10 _).grown.but (some B))) hgz (fun k hk => .inl (HFAR.out k hk).2)))
          go_roundw
          case rel =>
            refine ⟨m + 1, zs ++ [lo, hi9], q9, by omega, ?_, mem_wf2 hzw wl3 wl4, by omega, hcz, hgz0⟩
            rw [List.map_append]
            exact hr1
          case measure => simp [lenOf]; omega
      · obtain rfl : m = N := by omega
        have t1 : decide ((m : Int) < (m : Int)) = false := by simp
        clear hown
        go_wp2_with (fail)
        go_ret
        exact ⟨_, m, zs, qr, rfl, HROW.out, by omega, hzw, by omega, hcr, hgr⟩
end Go.Proofs.Ytiemkobgpaekoaa
