/- What the reference draws for the law of rosters. Condition: the code's length. -/
import Derived.Test.YtedkffdkhnfoiaaDoorShoE
namespace Go.Proofs.YtedkffdkhnfoiaaDoor
open Go.RowKit
set_option linter.unusedSimpArgs false
set_option linter.unusedVariables false

set_option maxRecDepth 100000 in
set_option maxHeartbeats 1000000 in
theorem drawOpen (vc : Value) (n : Nat) (zc : List Int) (w : World) (h : IntRow .u8 1 w vc n zc) (hn : n ≤ 9223372036854775807) :
    Calls Tryd.prog 5 #[vc] w fun e w' => ∃ (x : Int) (v : Value) (m : Nat) (zs : List Int), e = .returned (.tuple #[v, .int .i64 x]) ∧ IntRow .i64 3 w' v m zs ∧ m ≤ 61 ∧ Ext w w' := by
  have hc := cur_new h (by omega)
  obtain ⟨a, c, rfl⟩ := introw_slice h
  go_enter Tryd.func5, Tryd.ntmps5
  go_wp2_with (fail)
  refine (anyShiftsS hc (by omega)).mono ?_
  rintro e w1 ⟨v, m, zs, q1, rfl, hr, hm, hw, hq1, hc1, hg1⟩
  have hsz := hg1.size
  rw [World.size_alloc] at hr hsz
  have HFAR : Hid (∀ k, v.ownBlock = some k → w.heap.size ≠ k) := hid (fun k hk => by have := (hr.lt k hk).1; omega)
  have HR := hid hr
  clear hr
  obtain ⟨av, cv, rfl, _, _, _⟩ := row_shape HR.out
  go_wp2_with (fail)
  refine (amongL [0, 31] hc1 (by omega) rfl (by simp) (by simp) rfl (by intro z hz; simp at hz; omega)).mono ?_
  rintro e w2 ⟨x2, q2, rfl, hm2, hq2, hq2', hc2, hg2⟩
  replace hm2 : 0 ≤ x2 ∧ x2 ≤ 31 := by simp at hm2; omega
  go_wp2_with (fail)
  refine (amongL [1, 1, 2, 3, 30, x2] hc2 (by omega) rfl (by simp) (by simp) rfl (by intro z hz; simp at hz; omega)).mono ?_
  rintro e w3 ⟨x3, q3, rfl, hm3, hq3, hq3', hc3, hg3⟩
  go_wp2_with (fail)
  go_returns
  refine ⟨x3, _, m, zs, rfl, row_ints ((HR.out.kept hg2 (.inr (fun e => HFAR.out _ e rfl))).kept hg3 (.inr (fun e => HFAR.out _ e rfl))) (by unfold maxLen; omega) hw, by omega, ?_⟩
  exact fresh (World.grownBy.trans hg1 (World.grownBy.trans hg2 hg3))

set_option maxRecDepth 100000 in
set_option maxHeartbeats 1000000 in
theorem drawDuty (vc : Value) (n : Nat) (zc : List Int) (w : World) (h : IntRow .u8 1 w vc n zc) (hn : n ≤ 9223372036854775807) :
    Calls Tryd.prog 8 #[vc] w fun e w' => ∃ (x : Int) (v : Value) (m : Nat) (zs : List Int), e = .returned (.tuple #[v, .int .i64 x]) ∧ IntRow .i64 3 w' v m zs ∧ m ≤ 61 ∧ Ext w w' := by
  have hc := cur_new h (by omega)
  obtain ⟨a, c, rfl⟩ := introw_slice h
  go_enter Tryd.func8, Tryd.ntmps8
  go_wp2_with (fail)
  refine (anyShiftsS hc (by omega)).mono ?_
  rintro e w1 ⟨v, m, zs, q1, rfl, hr, hm, hw, hq1, hc1, hg1⟩
  have hsz := hg1.size
  rw [World.size_alloc] at hr hsz
  have HFAR : Hid (∀ k, v.ownBlock = some k → w.heap.size ≠ k) := hid (fun k hk => by have := (hr.lt k hk).1; omega)
  have HR := hid hr
  clear hr
  obtain ⟨av, cv, rfl, _, _, _⟩ := row_shape HR.out
  go_wp2_with (fail)
  refine (operatorS hc1 (by omega)).mono ?_
  rintro e w2 ⟨x2, q2, rfl, b1, b2, hq2, hc2, hg2⟩
  go_wp2_with (fail)
  go_returns
  refine ⟨x2, _, m, zs, rfl, row_ints (HR.out.kept hg2 (.inr (fun e => HFAR.out _ e rfl))) (by unfold maxLen; omega) hw, by omega, ?_⟩
  exact fresh (World.grownBy.trans hg1 hg2)

set_option maxRecDepth 100000 in
set_option maxHeartbeats 1000000 in
theorem drawOn (vc : Value) (n : Nat) (zc : List Int) (w : World) (h : IntRow .u8 1 w vc n zc) (hn : n ≤ 9223372036854775807) :
    Calls Tryd.prog 13 #[vc] w fun e w' => ∃ (x : Int) (v : Value) (m : Nat) (zs : List Int), e = .returned (.tuple #[v, .int .i64 x]) ∧ IntRow .i64 3 w' v m zs ∧ m ≤ 61 ∧ Ext w w' := by
  have hc := cur_new h (by omega)
  obtain ⟨a, c, rfl⟩ := introw_slice h
  go_enter Tryd.func13, Tryd.ntmps13
  go_wp2_with (fail)
  refine (anyShiftsS hc (by omega)).mono ?_
  rintro e w1 ⟨v, m, zs, q1, rfl, hr, hm, hw, hq1, hc1, hg1⟩
  have hsz := hg1.size
  rw [World.size_alloc] at hr hsz
  have HFAR : Hid (∀ k, v.ownBlock = some k → w.heap.size ≠ k) := hid (fun k hk => by have := (hr.lt k hk).1; omega)
  have HR := hid hr
  clear hr
  obtain ⟨av, cv, rfl, _, _, _⟩ := row_shape HR.out
  go_wp2_with (fail)
  refine (shiftHourS hc1 (by omega)).mono ?_
  rintro e w2 ⟨x2, q2, rfl, b1, b2, hq2, hc2, hg2⟩
  go_wp2_with (fail)
  go_returns
  refine ⟨x2, _, m, zs, rfl, row_ints (HR.out.kept hg2 (.inr (fun e => HFAR.out _ e rfl))) (by unfold maxLen; omega) hw, by omega, ?_⟩
  exact fresh (World.grownBy.trans hg1 hg2)

set_option maxRecDepth 100000 in
set_option maxHeartbeats 1000000 in
theorem drawAre (vc : Value) (n : Nat) (zc : List Int) (w : World) (h : IntRow .u8 1 w vc n zc) (hn : n ≤ 9223372036854775807) :
    Calls Tryd.prog 43 #[vc] w fun e w' => ∃ (v : Value) (m : Nat) (zs : List Int), e = .returned v ∧ IntRow .i64 3 w' v m zs ∧ m ≤ 61 ∧ Ext w w' := by
  have hc := cur_new h (by omega)
  obtain ⟨a, c, rfl⟩ := introw_slice h
  go_enter Tryd.func43, Tryd.ntmps43
  go_wp2_with (fail)
  refine (anyShiftsS hc (by omega)).mono ?_
  rintro e w1 ⟨v, m, zs, q1, rfl, hr, hm, hw, hq1, hc1, hg1⟩
  have hsz := hg1.size
  rw [World.size_alloc] at hr hsz
  have HFAR : Hid (∀ k, v.ownBlock = some k → w.heap.size ≠ k) := hid (fun k hk => by have := (hr.lt k hk).1; omega)
  have HR := hid hr
  clear hr
  obtain ⟨av, cv, rfl, _, _, _⟩ := row_shape HR.out
  go_wp2_with (fail)
  go_ret
  exact ⟨_, m, zs, rfl, row_ints HR.out (by unfold maxLen; omega) hw, by omega, fresh hg1⟩

set_option maxRecDepth 100000 in
set_option maxHeartbeats 1000000 in
theorem drawText (vc : Value) (n : Nat) (zc : List Int) (w : World) (h : IntRow .u8 1 w vc n zc) (hn : n ≤ 9223372036854775807) :
    Calls Tryd.prog 19 #[vc] w fun e w' => ∃ (v : Value) (m : Nat) (zs : List Int), e = .returned v ∧ IntRow .i64 3 w' v m zs ∧ m ≤ 61 ∧ Ext w w' := by
  obtain ⟨a, c, rfl⟩ := introw_slice h
  go_enter Tryd.func19, Tryd.ntmps19
  go_wp2_with (fail)
  refine (drawAre _ n zc w h hn).mono ?_
  rintro e w1 ⟨v, m, zs, rfl, hr, hm, hE⟩
  go_wp2_with (fail)
  go_ret
  exact ⟨v, m, zs, rfl, hr, hm, hE⟩
end Go.Proofs.YtedkffdkhnfoiaaDoor