/- What the reference draws for the law of clocks. Condition: the code's length. -/
import Derived.Test.YtiemkobgpaekoaaClkM
namespace Go.Proofs.Ytiemkobgpaekoaa
open Go.RowKit
set_option linter.unusedSimpArgs false
set_option linter.unusedVariables false

set_option maxRecDepth 100000 in
set_option maxHeartbeats 1000000 in
theorem drawMeet (vc : Value) (n : Nat) (zc : List Int) (w : World) (h : IntRow .u8 1 w vc n zc) (hn : n ≤ 1048576) :
    Calls Try.prog 48 #[vc] w fun e w' => ∃ (v : Value) (m : Nat) (zs : List Int), e = .returned v ∧ IntRow .i64 2 w' v m zs ∧ m ≤ 22 ∧ Ext w w' := by
  have hc := cur_new h (by omega)
  obtain ⟨a, c, rfl⟩ := introw_slice h
  go_enter Try.func48, Try.ntmps48
  go_wp2_with (fail)
  refine (boundsS hc (by omega)).mono ?_
  rintro e w1 ⟨v, m, zs, q1, rfl, hr, hm, hw, _, hc1, hg1⟩
  go_wp2_with (fail)
  go_ret
  exact ⟨_, m, zs, rfl, row_ints hr (by unfold maxLen; omega) hw, by omega, fresh hg1⟩

set_option maxRecDepth 100000 in
set_option maxHeartbeats 1000000 in
theorem drawChain (vc : Value) (n : Nat) (zc : List Int) (w : World) (h : IntRow .u8 1 w vc n zc) (hn : n ≤ 1048576) :
    Calls Try.prog 51 #[vc] w fun e w' => ∃ (v : Value) (m : Nat) (zs : List Int), e = .returned v ∧ IntRow .i64 2 w' v m zs ∧ m ≤ 22 ∧ Ext w w' := by
  obtain ⟨i0, hi, hz0, hz1, hz2⟩ := info_parts info_Bound
  have hc := cur_new h (by omega)
  obtain ⟨a, c, rfl⟩ := introw_slice h
  go_enter Try.func51, Try.ntmps51
  go_wp2_with (fail)
  refine (boundsS hc (by omega)).mono ?_
  rintro e w1 ⟨v, m, zs, q1, rfl, hr, hm, hw, hq1, hc1, hg1⟩
  have hsz := hg1.size
  rw [World.size_alloc] at hr hsz
  have hfar : ∀ k, v.ownBlock = some k → w.heap.size < k := fun k hk => by have := (hr.lt k hk).1; omega
  have HFAR := hid hfar
  have hl : zs.length = m * 2 := by simpa using hr.1
  clear hfar
  go_wp2_with (fail)
  refine (oneS 8 hc1 (by omega)).mono ?_
  rintro e w2 ⟨o, q2, rfl, _, _, hc2, hg2⟩
  have HR2 := hid (hr.kept hg2 (.inr (fun e => by have := HFAR.out _ e; omega)))
  have hE2 : Ext w w2 := fresh (World.grownBy.trans hg1 hg2)
  clear hr hg1 hg2 hc hc1
  obtain ⟨a3, c3, rfl, hnc, hcm, _⟩ := row_shape HR2.out
  have hsz2 := hE2.size
  cases o with
  | false =>
    go_wp2_with (fail)
    go_ret
    exact ⟨_, m, zs, rfl, row_ints HR2.out (by unfold maxLen; omega) hw, by omega, hE2⟩
  | true =>
    have hs2 : w.heap.size + 1 ≤ w2.heap.size := hc2.size
    go_wp2_with (at_builtin; go_loud (refine wpList_src2 rfl (.tmp 12) (.tmp 14) 48 rfl (w.heap.size + 1) 25 i0 _ Try.underlying48 hi hz0 hz1 hz2 rfl _ m (zs.map (Value.int .i64)) rfl (row_ext HR2.out ((Ext.refl _).alloc _)) _ 1 [99990, 100000] rfl (lit2_row _ 99990 100000 _ (by decide) (by decide)) (by omega) (by simp only [World.size_alloc]; omega) ?_; intro v1 wz hr1 hgz; have hEz : Ext w wz := Ext.of_grownAt (hE2.alloc _) hgz (fun k hk => by have := HFAR.out k hk; omega)))
    go_ret
    rw [← List.map_append] at hr1
    exact ⟨_, m + 1, zs ++ [99990, 100000], rfl, row_ints hr1 (by unfold maxLen; omega) (mem_wf2 hw (by decide) (by decide)), by omega, hEz⟩

set_option maxRecDepth 100000 in
set_option maxHeartbeats 1000000 in
theorem drawIs (vc : Value) (n : Nat) (zc : List Int) (w : World) (h : IntRow .u8 1 w vc n zc) (hn : n ≤ 1048576) :
    Calls Try.prog 71 #[vc] w fun e w' => ∃ x y : Int, e = .returned (.agg #[.int .i64 x, .int .i64 y]) ∧ Ext w w' := by
  have hc := cur_new (h.ext ((by repeat (first | exact Ext.refl _ | assumption | refine Ext.alloc ?_ _ | refine Ext.drew ?_ | refine Ext.drewN ?_ _ | refine Ext.setCell ?_ (by first | exact Nat.le_refl _ | (simp; done) | (dsimp only; omega) | (simp only [World.size_alloc, World.size_setCell]; omega)) _ | refine Ext.trans ?_ (by assumption))) : Ext w (w.alloc (.cells #[.int .i64 0, .int .i64 0] 25)))) (by omega)
  have T2 := (Two.new w 0 0).ext ((by repeat (first | exact Ext.refl _ | assumption | refine Ext.alloc ?_ _ | refine Ext.drew ?_ | refine Ext.drewN ?_ _ | refine Ext.setCell ?_ (by first | exact Nat.le_refl _ | (simp; done) | (dsimp only; omega) | (simp only [World.size_alloc, World.size_setCell]; omega)) _ | refine Ext.trans ?_ (by assumption))) : Ext (w.alloc (.cells #[.int .i64 0, .int .i64 0] 25)) ((w.alloc (.cells #[.int .i64 0, .int .i64 0] 25)).alloc (.cells #[vc, .int .i64 0, .int .u64 0] 69)))
  have E0 : Ext w ((w.alloc (.cells #[.int .i64 0, .int .i64 0] 25)).alloc (.cells #[vc, .int .i64 0, .int .u64 0] 69)) := (by repeat (first | exact Ext.refl _ | assumption | refine Ext.alloc ?_ _ | refine Ext.drew ?_ | refine Ext.drewN ?_ _ | refine Ext.setCell ?_ (by first | exact Nat.le_refl _ | (simp; done) | (dsimp only; omega) | (simp only [World.size_alloc, World.size_setCell]; omega)) _ | refine Ext.trans ?_ (by assumption)))
  rw [World.size_alloc] at hc
  obtain ⟨a, c, rfl⟩ := introw_slice h
  go_enter Try.func71, Try.ntmps71
  go_wp2_with (fail)
  obtain ⟨b2, hb2⟩ : ∃ b, b = w.heap.size := ⟨_, rfl⟩
  rw [← hb2] at hc T2 ⊢
  have hb2' : w.heap.size ≤ b2 := by omega
  clear hb2
  refine (boundS hc (by omega)).mono ?_
  rintro e w1 ⟨lo, hi, q1, rfl, u1, u2, u3, u4, hq1, hq2, hc1, hg1⟩
  replace E0 := E0.of_grownAt hg1 (by intro k hk; simp at hk; omega)
  replace T2 := T2.grown hg1 (by omega)
  clear hc hg1
  have d5 := T2.1
  have d6 := T2.2.1
  have d7 := T2.2.2.1
  have d8 := T2.2.2.2.1
  go_wp2_with (fail)
  have W := (T2.set0 lo).set1 hi
  refine bodyPost_ret (results_two rfl _ W rfl) rfl ?_
  exact ⟨_, _, rfl, (E0.setCell (by simpa using hb2') _).setCell (by simpa using hb2') _⟩

set_option maxRecDepth 100000 in
set_option maxHeartbeats 1000000 in
theorem drawTurn (vc : Value) (n : Nat) (zc : List Int) (w : World) (h : IntRow .u8 1 w vc n zc) (hn : n ≤ 1048576) :
    Calls Try.prog 49 #[vc] w fun e w' => ∃ x y : Int, e = .returned (.agg #[.int .i64 x, .int .i64 y]) ∧ Ext w w' := by
  have E0 : Ext w (w.alloc (.cells #[.int .i64 0, .int .i64 0] 25)) := (by repeat (first | exact Ext.refl _ | assumption | refine Ext.alloc ?_ _ | refine Ext.drew ?_ | refine Ext.drewN ?_ _ | refine Ext.setCell ?_ (by first | exact Nat.le_refl _ | (simp; done) | (dsimp only; omega) | (simp only [World.size_alloc, World.size_setCell]; omega)) _ | refine Ext.trans ?_ (by assumption)))
  have T2 := Two.new w 0 0
  go_enter Try.func49, Try.ntmps49
  go_wp2_with (fail)
  refine (drawIs vc n zc _ (h.ext E0) hn).mono ?_
  rintro e w1 ⟨lo, hi, rfl, k1⟩
  replace E0 := E0.trans k1
  replace T2 := T2.ext k1
  obtain ⟨b2, hb2⟩ : ∃ b, b = w.heap.size := ⟨_, rfl⟩
  rw [← hb2] at T2 ⊢
  have hb2' : w.heap.size ≤ b2 := by omega
  clear hb2 k1
  have d5 := T2.1
  have d6 := T2.2.1
  have d7 := T2.2.2.1
  have d8 := T2.2.2.2.1
  go_wp2_with (fail)
  have W := (T2.set0 lo).set1 hi
  refine bodyPost_ret (results_two rfl _ W rfl) rfl ?_
  exact ⟨_, _, rfl, (E0.setCell (by simpa using hb2') _).setCell (by simpa using hb2') _⟩

set_option maxRecDepth 100000 in
set_option maxHeartbeats 1000000 in
theorem drawAged (vc : Value) (n : Nat) (zc : List Int) (w : World) (h : IntRow .u8 1 w vc n zc) (hn : n ≤ 1048576) :
    Calls Try.prog 50 #[vc] w fun e w' => ∃ x y z u : Int, e = .returned (.tuple #[.agg #[.int .i64 x, .int .i64 y], .int .i64 z, .int .i64 u]) ∧ Ext w w' := by
  have hc := cur_new (h.ext ((by repeat (first | exact Ext.refl _ | assumption | refine Ext.alloc ?_ _ | refine Ext.drew ?_ | refine Ext.drewN ?_ _ | refine Ext.setCell ?_ (by first | exact Nat.le_refl _ | (simp; done) | (dsimp only; omega) | (simp only [World.size_alloc, World.size_setCell]; omega)) _ | refine Ext.trans ?_ (by assumption))) : Ext w (w.alloc (.cells #[.int .i64 0, .int .i64 0] 25)))) (by omega)
  have T2 := (Two.new w 0 0).ext ((by repeat (first | exact Ext.refl _ | assumption | refine Ext.alloc ?_ _ | refine Ext.drew ?_ | refine Ext.drewN ?_ _ | refine Ext.setCell ?_ (by first | exact Nat.le_refl _ | (simp; done) | (dsimp only; omega) | (simp only [World.size_alloc, World.size_setCell]; omega)) _ | refine Ext.trans ?_ (by assumption))) : Ext (w.alloc (.cells #[.int .i64 0, .int .i64 0] 25)) ((w.alloc (.cells #[.int .i64 0, .int .i64 0] 25)).alloc (.cells #[vc, .int .i64 0, .int .u64 0] 69)))
  have E0 : Ext w ((w.alloc (.cells #[.int .i64 0, .int .i64 0] 25)).alloc (.cells #[vc, .int .i64 0, .int .u64 0] 69)) := (by repeat (first | exact Ext.refl _ | assumption | refine Ext.alloc ?_ _ | refine Ext.drew ?_ | refine Ext.drewN ?_ _ | refine Ext.setCell ?_ (by first | exact Nat.le_refl _ | (simp; done) | (dsimp only; omega) | (simp only [World.size_alloc, World.size_setCell]; omega)) _ | refine Ext.trans ?_ (by assumption)))
  rw [World.size_alloc] at hc
  obtain ⟨a, c, rfl⟩ := introw_slice h
  go_enter Try.func50, Try.ntmps50
  go_wp2_with (fail)
  obtain ⟨b2, hb2⟩ : ∃ b, b = w.heap.size := ⟨_, rfl⟩
  rw [← hb2] at hc T2 ⊢
  have hb2' : w.heap.size ≤ b2 := by omega
  clear hb2
  refine (boundS hc (by omega)).mono ?_
  rintro e w1 ⟨lo, hi, q1, rfl, u1, u2, u3, u4, hq1, hq2, hc1, hg1⟩
  replace E0 := E0.of_grownAt hg1 (by intro k hk; simp at hk; omega)
  replace T2 := T2.grown hg1 (by omega)
  clear hc hg1
  go_wp2_with (fail)
  refine (amongL [101, -1] hc1 (by omega) rfl (by simp) (by simp) rfl (by intro z hz; simp at hz; omega)).mono ?_
  rintro e w2 ⟨x1, q2, rfl, hm1, hq3, hq4, hc2, hg2⟩
  replace hm1 : -1 ≤ x1 ∧ x1 ≤ 101 := by simp at hm1; omega
  replace E0 := E0.of_grownAt hg2 (by intro k hk; simp at hk; omega)
  replace T2 := T2.grown hg2 (by omega)
  clear hc1 hg2
  go_wp2_with (fail)
  refine (amongL [0, 1, 5, 100, x1] hc2 (by omega) rfl (by simp) (by simp) rfl (by intro z hz; simp at hz; omega)).mono ?_
  rintro e w3 ⟨x2, q3, rfl, hm2, hq5, hq6, hc3, hg3⟩
  replace E0 := E0.of_grownAt hg3 (by intro k hk; simp at hk; omega)
  replace T2 := T2.grown hg3 (by omega)
  clear hc2 hg3 hm2
  go_wp2_with (fail)
  refine (amongL [100001, -1] hc3 (by omega) rfl (by simp) (by simp) rfl (by intro z hz; simp at hz; omega)).mono ?_
  rintro e w4 ⟨x3, q4, rfl, hm3, hq7, hq8, hc4, hg4⟩
  replace hm3 : -1 ≤ x3 ∧ x3 ≤ 100001 := by simp at hm3; omega
  replace E0 := E0.of_grownAt hg4 (by intro k hk; simp at hk; omega)
  replace T2 := T2.grown hg4 (by omega)
  clear hc3 hg4
  go_wp2_with (fail)
  refine (amongL [0, 1, 999, 1000, 1001, 100000, x3] hc4 (by omega) rfl (by simp) (by simp) rfl (by intro z hz; simp at hz; omega)).mono ?_
  rintro e w5 ⟨x4, q5, rfl, hm4, hq9, hq10, hc5, hg5⟩
  replace E0 := E0.of_grownAt hg5 (by intro k hk; simp at hk; omega)
  replace T2 := T2.grown hg5 (by omega)
  clear hc4 hg5 hm4
  have d5 := T2.1
  have d6 := T2.2.1
  have d7 := T2.2.2.1
  have d8 := T2.2.2.2.1
  go_wp2_with (fail)
  have W := (T2.set0 lo).set1 hi
  refine bodyPost_ret (results_two3 rfl _ W rfl) rfl ?_
  exact ⟨_, _, _, _, rfl, (E0.setCell (by simpa using hb2') _).setCell (by simpa using hb2') _⟩
end Go.Proofs.Ytiemkobgpaekoaa
