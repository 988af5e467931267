/- What the reference draws: a second. Condition: the code's length. -/
import Derived.Test.YtlmfohjfbolhpaaCurC
import Derived.Handy
namespace Go.Proofs.Ytlmfohjfbolhpaa
open Go.RowKit
set_option linter.unusedSimpArgs false
set_option linter.unusedVariables false

set_option maxRecDepth 100000 in
set_option maxHeartbeats 2000000 in
theorem secondS {w : World} {B : Nat} {vc : Value} {n : Nat} {zc : List Int} {q : Nat} (h : CS w B vc n zc q) (hq : q ≤ 800000000000) :
    Calls Try.prog 90 #[.pointer (some ⟨B, 0, none⟩)] w fun e w' => ∃ (x : Int) (q' : Nat), e = .returned (.int .i64 x) ∧ -1 ≤ x ∧ x ≤ 10001 ∧ q ≤ q' ∧ q' ≤ q + 10 ∧ CS w' B vc n zc q' ∧ w.grownBy w' (some B) := by
  go_enter Try.func90, Try.ntmps90
  go_wp2_with (fail)
  refine (pickS 100 h (by omega)).mono ?_
  rintro e w1 ⟨x1, q1, rfl, a1, _, b1, hq1, hq1', hc1, hg1⟩
  have b1' := b1 (by omega)
  go_wp2_with (fail)
  refine (pickS 100 hc1 (by omega)).mono ?_
  rintro e w2 ⟨x2, q2, rfl, a2, _, b2, hq2, hq2', hc2, hg2⟩
  have b2' := b2 (by omega)
  go_wp2_with (fail)
  refine (pickS 200 hc2 (by omega)).mono ?_
  rintro e w3 ⟨x3, q3, rfl, a3, _, b3, hq3, hq3', hc3, hg3⟩
  have b3' := b3 (by omega)
  clear b1 b2 b3
  go_wp2_with (fail)
  refine (amongL [10000, 10001, -1] hc3 (by omega) rfl (by simp) (by simp) rfl (by intro z hz; simp at hz; omega)).mono ?_
  rintro e w4 ⟨x4, q4, rfl, hm4, hq4, hq4', hc4, hg4⟩
  have hm4' : -1 ≤ x4 ∧ x4 ≤ 10001 := by simp at hm4; omega
  obtain ⟨a4, b4⟩ := hm4'
  clear hm4
  go_wp2_with (fail)
  refine (amongL [0, 12, x1, x2, x3, x4] hc4 (by omega) rfl (by simp) (by simp) rfl (by intro z hz; simp at hz; omega)).mono ?_
  rintro e w5 ⟨x5, q5, rfl, hm5, hq5, hq5', hc5, hg5⟩
  have hm5' : -1 ≤ x5 ∧ x5 ≤ 10001 := by simp at hm5; omega
  go_wp2_with (fail)
  go_ret
  exact ⟨x5, q5, rfl, hm5'.1, hm5'.2, by omega, by omega, hc5, World.grownBy.trans hg1 (World.grownBy.trans hg2 (World.grownBy.trans hg3 (World.grownBy.trans hg4 hg5)))⟩
end Go.Proofs.Ytlmfohjfbolhpaa
