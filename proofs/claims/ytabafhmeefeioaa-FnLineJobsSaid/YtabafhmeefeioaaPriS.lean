/- What the reference draws for the law of line jobs. Condition: the code's length. -/
import Derived.Test.YtabafhmeefeioaaPriP
namespace Go.Proofs.Ytabafhmeefeioaa
open Go.RowKit
set_option linter.unusedSimpArgs false
set_option linter.unusedVariables false

set_option maxRecDepth 100000 in
set_option maxHeartbeats 1000000 in
theorem drawAre (vc : Value) (n : Nat) (zc : List Int) (w : World) (h : IntRow .u8 1 w vc n zc) (hn : n ≤ 9223372036854775807) :
    Calls Try.prog 76 #[vc] w fun e w' => ∃ (v : Value) (m : Nat) (zs : List Int), e = .returned v ∧ IntRow .i64 3 w' v m zs ∧ m ≤ 13 ∧ Ext w w' := by
  have hc := cur_new h (by omega)
  obtain ⟨a, c, rfl⟩ := introw_slice h
  go_enter Try.func76, Try.ntmps76
  go_wp2_with (fail)
  refine (jobsS hc (by omega)).mono ?_
  rintro e w1 ⟨v, m, zs, q1, rfl, hr, hm, hw, hq1, hc1, hg1⟩
  have HR := hid hr
  clear hr
  obtain ⟨av, cv, rfl, _, _, _⟩ := row_shape HR.out
  go_wp2_with (fail)
  go_ret
  exact ⟨_, m, zs, rfl, row_ints HR.out (by unfold maxLen; omega) hw, hm, fresh hg1⟩
set_option maxRecDepth 100000 in
set_option maxHeartbeats 1000000 in
theorem drawSegs (vc : Value) (n : Nat) (zc : List Int) (w : World) (h : IntRow .u8 1 w vc n zc) (hn : n ≤ 9223372036854775807) :
    Calls Try.prog 50 #[vc] w fun e w' => ∃ (v : Value) (m : Nat) (zs : List Int), e = .returned v ∧ IntRow .i64 3 w' v m zs ∧ m ≤ 13 ∧ Ext w w' := by
  obtain ⟨a, c, rfl⟩ := introw_slice h
  go_enter Try.func50, Try.ntmps50
  go_wp2_with (fail)
  refine (drawAre _ n zc _ h hn).mono ?_
  rintro e w1 ⟨v, m, zs, rfl, hr, hm, hx⟩
  go_wp2_with (fail)
  go_ret
  exact ⟨v, m, zs, rfl, hr, hm, hx⟩
set_option maxRecDepth 100000 in
set_option maxHeartbeats 1000000 in
theorem drawJobAt (vc : Value) (n : Nat) (zc : List Int) (w : World) (h : IntRow .u8 1 w vc n zc) (hn : n ≤ 9223372036854775807) :
    Calls Try.prog 77 #[vc] w fun e w' => ∃ (x : Int) (v : Value) (m : Nat) (zs : List Int), e = .returned (.tuple #[v, .int .i64 x]) ∧ IntRow .i64 3 w' v m zs ∧ m ≤ 13 ∧ (-1 ≤ x ∧ x ≤ 701) ∧ Ext w w' := by
  have hc := cur_new h (by omega)
  obtain ⟨a, c, rfl⟩ := introw_slice h
  go_enter Try.func77, Try.ntmps77
  go_wp2_with (fail)
  refine (jobsS hc (by omega)).mono ?_
  rintro e w1 ⟨v, m, zs, q1, rfl, hr, hm, hw, hq1, hc1, hg1⟩
  have hsz := hg1.size
  rw [World.size_alloc] at hr hsz
  have HFAR : Hid (∀ k, v.ownBlock = some k → w.heap.size ≠ k) := hid (fun k hk => by have := (hr.lt k hk).1; omega)
  have HR := hid hr
  clear hr
  obtain ⟨av, cv, rfl, _, _, _⟩ := row_shape HR.out
  go_wp2_with (fail)
  refine (tickS hc1 (by omega)).mono ?_
  rintro e w2 ⟨y, q2, rfl, b3, b4, hq2, hc2, hg2⟩
  go_wp2_with (fail)
  go_returns
  exact ⟨y, _, m, zs, rfl, row_ints (HR.out.kept hg2 (.inr (fun e => HFAR.out _ e rfl))) (by unfold maxLen; omega) hw, hm, ⟨b3, b4⟩, fresh (World.grownBy.trans hg1 hg2)⟩
set_option maxRecDepth 100000 in
set_option maxHeartbeats 1000000 in
theorem drawLeft (vc : Value) (n : Nat) (zc : List Int) (w : World) (h : IntRow .u8 1 w vc n zc) (hn : n ≤ 9223372036854775807) :
    Calls Try.prog 51 #[vc] w fun e w' => ∃ (x : Int) (v : Value) (m : Nat) (zs : List Int), e = .returned (.tuple #[v, .int .i64 x]) ∧ IntRow .i64 3 w' v m zs ∧ m ≤ 13 ∧ (-1 ≤ x ∧ x ≤ 701) ∧ Ext w w' := by
  obtain ⟨a, c, rfl⟩ := introw_slice h
  go_enter Try.func51, Try.ntmps51
  go_wp2_with (fail)
  refine (drawJobAt _ n zc _ h hn).mono ?_
  rintro e w1 ⟨x, v, m, zs, rfl, hr, hm, hxb, hx⟩
  obtain ⟨av, cv, rfl⟩ := introw_slice hr
  go_wp2_with (fail)
  go_returns
  exact ⟨x, _, m, zs, rfl, hr, hm, hxb, hx⟩
end Go.Proofs.Ytabafhmeefeioaa
