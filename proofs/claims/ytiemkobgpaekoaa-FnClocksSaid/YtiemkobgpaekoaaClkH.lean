/- What the reference draws for the laws of the clocks: a signal, an answer. Condition: the code's length. -/
import Derived.Test.YtiemkobgpaekoaaClkG
namespace Go.Proofs.Ytiemkobgpaekoaa
open Go.RowKit
set_option linter.unusedSimpArgs false
set_option linter.unusedVariables false

theorem introw_slice {kd : IntKind} {k : Nat} {w : World} {v : Value} {n : Nat} {zs : List Int} (h : IntRow kd k w v n zs) : ∃ a c, v = .slice a n c := by
  obtain ⟨_, _, _, a, c, e, _⟩ := h
  exact ⟨a, c, e⟩

theorem fresh {w w' : World} {vc : Value} (g : (w.alloc (.cells #[vc, .int .i64 0, .int .u64 0] 69)).grownBy w' (some w.heap.size)) : Ext w w' :=
  Ext.of_grownAt ((by repeat (first | exact Ext.refl _ | assumption | refine Ext.alloc ?_ _ | refine Ext.drew ?_ | refine Ext.drewN ?_ _ | refine Ext.setCell ?_ (by first | exact Nat.le_refl _ | (simp; done) | (dsimp only; omega) | (simp only [World.size_alloc, World.size_setCell]; omega)) _ | refine Ext.trans ?_ (by assumption))) : Ext w (w.alloc (.cells #[vc, .int .i64 0, .int .u64 0] 69))) g (by intro k hk; simp at hk; omega)

set_option maxRecDepth 100000 in
set_option maxHeartbeats 1000000 in
theorem drawSignal (vc : Value) (n : Nat) (zc : List Int) (w : World) (h : IntRow .u8 1 w vc n zc) (hn : n ≤ 1048576) :
    Calls Try.prog 44 #[vc] w fun e w' => ∃ x y z u : Int, e = .returned (.tuple #[.int .i64 x, .int .i64 y, .int .i64 z, .int .i64 u]) ∧ Ext w w' := by
  have hc := cur_new h (by omega)
  obtain ⟨a, c, rfl⟩ := introw_slice h
  go_enter Try.func44, Try.ntmps44
  go_wp2_with (fail)
  refine (amongB [-1, 3601] hc (by rw [World.size_alloc]) (by omega) rfl (by simp) (by simp) rfl (by intro z hz; simp at hz; omega)).mono ?_
  rintro e w1 ⟨x1, q1, rfl, hm1, hq1, hq2, hc1, hg1⟩
  replace hm1 : -1 ≤ x1 ∧ x1 ≤ 3601 := by simp at hm1; omega
  obtain ⟨a1, a2⟩ := hm1
  go_wp2_with (fail)
  refine (amongL [0, 10, 60, 3600, x1] hc1 (by omega) rfl (by simp) (by simp) rfl (by intro z hz; simp at hz; omega)).mono ?_
  rintro e w2 ⟨x2, q2, rfl, hm2, hq3, hq4, hc2, hg2⟩
  replace hm2 : -1 ≤ x2 ∧ x2 ≤ 3601 := by simp at hm2; omega
  obtain ⟨a3, a4⟩ := hm2
  go_wp2_with (fail)
  refine (timeS hc2 (by omega)).mono ?_
  rintro e w3 ⟨x3, q3, rfl, hb1, hb2, hq5, hq6, hc3, hg3⟩
  go_wp2_with (fail)
  refine (timeS hc3 (by omega)).mono ?_
  rintro e w4 ⟨x4, q4, rfl, hb3, hb4, hq7, hq8, hc4, hg4⟩
  go_wp2_with (fail)
  refine (amongL [0, 5, 100, -1] hc4 (by omega) rfl (by simp) (by simp) rfl (by intro z hz; simp at hz; omega)).mono ?_
  rintro e w5 ⟨x5, q5, rfl, hm5, hq9, hq10, hc5, hg5⟩
  replace hm5 : -1 ≤ x5 ∧ x5 ≤ 100 := by simp at hm5; omega
  obtain ⟨a5, a6⟩ := hm5
  go_wp2_with (fail)
  go_returns
  exact ⟨_, _, _, _, rfl, fresh (hg1.trans (hg2.trans (hg3.trans (hg4.trans hg5))))⟩

set_option maxRecDepth 100000 in
set_option maxHeartbeats 1000000 in
theorem drawAnswer (vc : Value) (n : Nat) (zc : List Int) (w : World) (h : IntRow .u8 1 w vc n zc) (hn : n ≤ 1048576) :
    Calls Try.prog 45 #[vc] w fun e w' => ∃ x y z : Int, e = .returned (.tuple #[.int .i64 x, .int .i64 y, .int .i64 z]) ∧ Ext w w' := by
  have hc := cur_new h (by omega)
  obtain ⟨a, c, rfl⟩ := introw_slice h
  go_enter Try.func45, Try.ntmps45
  go_wp2_with (fail)
  refine (timeS hc (by omega)).mono ?_
  rintro e w3 ⟨x3, q3, rfl, hb1, hb2, hq5, hq6, hc3, hg3⟩
  go_wp2_with (fail)
  refine (timeS hc3 (by omega)).mono ?_
  rintro e w4 ⟨x4, q4, rfl, hb3, hb4, hq7, hq8, hc4, hg4⟩
  go_wp2_with (fail)
  refine (amongL [0, 1, 20, 90, -1] hc4 (by omega) rfl (by simp) (by simp) rfl (by intro z hz; simp at hz; omega)).mono ?_
  rintro e w5 ⟨x5, q5, rfl, hm5, hq9, hq10, hc5, hg5⟩
  replace hm5 : -1 ≤ x5 ∧ x5 ≤ 100 := by simp at hm5; omega
  obtain ⟨a5, a6⟩ := hm5
  go_wp2_with (fail)
  go_ret3
  exact ⟨_, _, _, rfl, fresh (hg3.trans (hg4.trans hg5))⟩

set_option maxRecDepth 100000 in
set_option maxHeartbeats 1000000 in
theorem big_any (v0 : Value) (n0 : Nat) (z0 : List Int) (v1 : Value) (n1 : Nat) (z1 : List Int) (w : World) (r0 : IntRow .u8 1 w v0 n0 z0) (r1 : IntRow .u8 1 w v1 n1 z1) :
    Calls Try.prog 43 #[v0, v1] w fun e w' => ∃ b : Bool, e = .returned (.bool b) ∧ (b = false → n0 ≤ 1048576 ∧ n1 ≤ 1048576) ∧ w = w' := by
  obtain ⟨_, hm0, _, a0, c0, rfl, hnc0, hcm0, _⟩ := r0
  obtain ⟨_, hm1, _, a1, c1, rfl, hnc1, hcm1, _⟩ := r1
  by_cases h0 : n0 > 1048576
  · have t0 : decide ((1048576 : Int) < n0) = true := by simp; omega
    have t0' : decide (1048576 < n0) = true := by simp; omega
    go_enter Try.func43, Try.ntmps43
    go_wp2_with (fail)
    go_ret
    exact ⟨true, rfl, by simp, rfl⟩
  · have t0 : decide ((1048576 : Int) < n0) = false := by simp; omega
    have t0' : decide (1048576 < n0) = false := by simp; omega
    by_cases h1 : n1 > 1048576 - n0
    · have t1 : decide ((1048576 : Int) - n0 < n1) = true := by simp; omega
      go_enter Try.func43, Try.ntmps43
      go_wp2_with (fail)
      go_ret
      exact ⟨true, rfl, by simp, rfl⟩
    · have t1 : decide ((1048576 : Int) - n0 < n1) = false := by simp; omega
      go_enter Try.func43, Try.ntmps43
      go_wp2_with (fail)
      go_ret
      exact ⟨false, rfl, by omega, rfl⟩
end Go.Proofs.Ytiemkobgpaekoaa
