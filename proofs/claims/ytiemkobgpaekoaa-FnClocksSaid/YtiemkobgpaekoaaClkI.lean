/- What the reference draws for the laws of the clocks: a bound and two times. Condition: the code's length. -/
import Derived.Test.YtiemkobgpaekoaaClkH
import Derived.Test.YtiemkobgpaekoaaClkA
namespace Go.Proofs.Ytiemkobgpaekoaa
open Go.RowKit
set_option linter.unusedSimpArgs false
set_option linter.unusedVariables false

theorem results_two3 {fn : Func} {p u v : Tmp} (h : fn.results = #[.cell p 25, .tmp u, .tmp v]) (tmps : Array Value) {w : World} {b : Nat} {x y : Int} (T : Two w b x y) (hp : tmps.getD p undef = .pointer (some ⟨b, 0, none⟩)) :
    (results fn tmps).run Try.prog w = .ok (.tuple #[.agg #[.int .i64 x, .int .i64 y], tmps.getD u undef, tmps.getD v undef]) w := by
  have d1 := T.1
  have d2 := T.2.1
  have hp' : tmps[p]?.getD undef = .pointer (some ⟨b, 0, none⟩) := by simpa using hp
  simp [results, h, hp', asAddr, go_sem, d1, d2]
  try rfl

set_option maxRecDepth 100000 in
set_option maxHeartbeats 1000000 in
theorem drawSurely (vc : Value) (n : Nat) (zc : List Int) (w : World) (h : IntRow .u8 1 w vc n zc) (hn : n ≤ 1048576) :
    Calls Try.prog 46 #[vc] w fun e w' => ∃ x y z u : Int, e = .returned (.tuple #[.agg #[.int .i64 x, .int .i64 y], .int .i64 z, .int .i64 u]) ∧ Ext w w' := by
  have hc := cur_new (h.ext ((by repeat (first | exact Ext.refl _ | assumption | refine Ext.alloc ?_ _ | refine Ext.drew ?_ | refine Ext.drewN ?_ _ | refine Ext.setCell ?_ (by first | exact Nat.le_refl _ | (simp; done) | (dsimp only; omega) | (simp only [World.size_alloc, World.size_setCell]; omega)) _ | refine Ext.trans ?_ (by assumption))) : Ext w (w.alloc (.cells #[.int .i64 0, .int .i64 0] 25)))) (by omega)
  have T2 := (Two.new w 0 0).ext ((by repeat (first | exact Ext.refl _ | assumption | refine Ext.alloc ?_ _ | refine Ext.drew ?_ | refine Ext.drewN ?_ _ | refine Ext.setCell ?_ (by first | exact Nat.le_refl _ | (simp; done) | (dsimp only; omega) | (simp only [World.size_alloc, World.size_setCell]; omega)) _ | refine Ext.trans ?_ (by assumption))) : Ext (w.alloc (.cells #[.int .i64 0, .int .i64 0] 25)) ((w.alloc (.cells #[.int .i64 0, .int .i64 0] 25)).alloc (.cells #[vc, .int .i64 0, .int .u64 0] 69)))
  have E0 : Ext w ((w.alloc (.cells #[.int .i64 0, .int .i64 0] 25)).alloc (.cells #[vc, .int .i64 0, .int .u64 0] 69)) := (by repeat (first | exact Ext.refl _ | assumption | refine Ext.alloc ?_ _ | refine Ext.drew ?_ | refine Ext.drewN ?_ _ | refine Ext.setCell ?_ (by first | exact Nat.le_refl _ | (simp; done) | (dsimp only; omega) | (simp only [World.size_alloc, World.size_setCell]; omega)) _ | refine Ext.trans ?_ (by assumption)))
  rw [World.size_alloc] at hc
  obtain ⟨a, c, rfl⟩ := introw_slice h
  go_enter Try.func46, Try.ntmps46
  go_wp2_with (fail)
  obtain ⟨b2, hb2⟩ : ∃ b, b = w.heap.size := ⟨_, rfl⟩
  rw [← hb2] at hc T2 ⊢
  have hb2' : w.heap.size ≤ b2 := by omega
  clear hb2
  refine (boundS hc (by omega)).mono ?_
  rintro e w1 ⟨lo, hi, q1, rfl, u1, u2, u3, u4, hq1, hq2, hc1, hg1⟩
  replace E0 := E0.of_grownAt hg1 (by intro k hk; simp at hk; omega)
  replace T2 := T2.grown hg1 (by omega)
  clear hc hg1
  go_wp2_with (fail)
  refine (timeS hc1 (by omega)).mono ?_
  rintro e w2 ⟨t, q2, rfl, u5, u6, hq3, hq4, hc2, hg2⟩
  replace E0 := E0.of_grownAt hg2 (by intro k hk; simp at hk; omega)
  replace T2 := T2.grown hg2 (by omega)
  clear hc1 hg2
  have hs2 := hc2.size
  have T6 := Two.new w2 lo hi
  replace T2 := T2.ext ((by repeat (first | exact Ext.refl _ | assumption | refine Ext.alloc ?_ _ | refine Ext.drew ?_ | refine Ext.drewN ?_ _ | refine Ext.setCell ?_ (by first | exact Nat.le_refl _ | (simp; done) | (dsimp only; omega) | (simp only [World.size_alloc, World.size_setCell]; omega)) _ | refine Ext.trans ?_ (by assumption))) : Ext w2 (w2.alloc (.cells #[.int .i64 lo, .int .i64 hi] 25)))
  replace E0 := E0.trans ((by repeat (first | exact Ext.refl _ | assumption | refine Ext.alloc ?_ _ | refine Ext.drew ?_ | refine Ext.drewN ?_ _ | refine Ext.setCell ?_ (by first | exact Nat.le_refl _ | (simp; done) | (dsimp only; omega) | (simp only [World.size_alloc, World.size_setCell]; omega)) _ | refine Ext.trans ?_ (by assumption))) : Ext w2 (w2.alloc (.cells #[.int .i64 lo, .int .i64 hi] 25)))
  replace hc2 := hc2.ext ((by repeat (first | exact Ext.refl _ | assumption | refine Ext.alloc ?_ _ | refine Ext.drew ?_ | refine Ext.drewN ?_ _ | refine Ext.setCell ?_ (by first | exact Nat.le_refl _ | (simp; done) | (dsimp only; omega) | (simp only [World.size_alloc, World.size_setCell]; omega)) _ | refine Ext.trans ?_ (by assumption))) : Ext w2 (w2.alloc (.cells #[.int .i64 lo, .int .i64 hi] 25)))
  go_wp2_with (fail)
  obtain ⟨b6, hb6⟩ : ∃ b, b = w2.heap.size := ⟨_, rfl⟩
  rw [← hb6] at T6 hs2 ⊢
  clear hb6
  have B6 : b2 + 1 < b6 := hs2
  have e62 : b2 ≠ b6 := by omega
  generalize w2.alloc (.cells #[.int .i64 lo, .int .i64 hi] 25) = wa at T2 T6 hc2 E0 ⊢
  refine (timeS hc2 (by omega)).mono ?_
  rintro e w3 ⟨t2, q3, rfl, u7, u8, hq5, hq6, hc3, hg3⟩
  replace E0 := E0.of_grownAt hg3 (by intro k hk; simp at hk; omega)
  replace T2 := T2.grown hg3 (by omega)
  replace T6 := T6.grown hg3 (by omega)
  clear hc2 hg3 hs2
  have d1 := T6.1
  have d2 := T6.2.1
  go_wp2_with (fail)
  refine (clBound_any lo hi _).mono ?_
  rintro e w4 ⟨rfl, k4⟩
  replace E0 := E0.trans k4
  replace T2 := T2.ext k4
  replace T6 := T6.ext k4
  replace hc3 := hc3.ext k4
  clear k4 d1 d2
  have d1 := T6.1
  have d2 := T6.2.1
  have d5 := T2.1
  have d6 := T2.2.1
  have d7 := T2.2.2.1
  have d8 := T2.2.2.2.1
  generalize bnd lo hi = cb
  cases cb
  · go_wp2_with (fail)
    have W := (T2.set0 lo).set1 hi
    refine bodyPost_ret (results_two3 rfl _ W rfl) rfl ?_
    exact ⟨_, _, _, _, rfl, (E0.setCell (by simpa using hb2') _).setCell (by simpa using hb2') _⟩
  · go_wp2_with (fail)
    refine (oneS 2 hc3 (by omega)).mono ?_
    rintro e w5 ⟨o, q5, rfl, hq7, hq8, hc5, hg5⟩
    replace E0 := E0.of_grownAt hg5 (by intro k hk; simp at hk; omega)
    replace T2 := T2.grown hg5 (by omega)
    replace T6 := T6.grown hg5 (by omega)
    clear hc3 hg5 d1 d2 d5 d6 d7 d8
    have d1 := T6.1
    have d2 := T6.2.1
    have d5 := T2.1
    have d6 := T2.2.1
    have d7 := T2.2.2.1
    have d8 := T2.2.2.2.1
    cases o
    · go_wp2_with (fail)
      have W := (T2.set0 lo).set1 hi
      refine bodyPost_ret (results_two3 rfl _ W rfl) rfl ?_
      exact ⟨_, _, _, _, rfl, (E0.setCell (by simpa using hb2') _).setCell (by simpa using hb2') _⟩
    · go_wp2_with (fail)
      have c3 : w5.drew.cell? ⟨b6, 0, none⟩ = some (.int .i64 lo) := d1
      go_region_held3 (fun w' => w'.cell? ⟨b6, 0, none⟩ = some (.int .i64 lo)) (first | exact c4 | exact c3) (first
        | (go_at_call 69
           refine (pickS 3 (hc5.ext (by repeat (first | exact Ext.refl _ | assumption | refine Ext.alloc ?_ _ | refine Ext.drew ?_ | refine Ext.drewN ?_ _ | refine Ext.setCell ?_ (by first | exact Nat.le_refl _ | (simp; done) | (dsimp only; omega) | (simp only [World.size_alloc, World.size_setCell]; omega)) _ | refine Ext.trans ?_ (by assumption)))) (by omega)).mono ?_
           rintro e w6 ⟨x6, q6, rfl, hy1, hy2, hy, hq9, hq10, hc6, hg6⟩
           replace hy := hy (by omega)
           replace hg6 := (((by repeat (first | exact Ext.refl _ | assumption | refine Ext.alloc ?_ _ | refine Ext.drew ?_ | refine Ext.drewN ?_ _ | refine Ext.setCell ?_ (by first | exact Nat.le_refl _ | (simp; done) | (dsimp only; omega) | (simp only [World.size_alloc, World.size_setCell]; omega)) _ | refine Ext.trans ?_ (by assumption))) : Ext w5 w5.drew).grown.but (some (b2 + 1))).trans hg6
           replace E0 := E0.of_grownAt hg6 (by intro k hk; simp at hk; omega)
           replace T2 := T2.grown hg6 (by omega)
           replace T6 := T6.grown hg6 (by omega)
           have c4 := T6.1
           go_wp2_with (fail)))
      have d1 := T6.1
      have d2 := T6.2.1
      have d5 := T2.1
      have d6 := T2.2.1
      have d7 := T2.2.2.1
      have d8 := T2.2.2.2.1
      go_wp2_with (fail)
      have W := (T2.set0 lo).set1 hi
      refine bodyPost_ret (results_two3 rfl _ W rfl) rfl ?_
      exact ⟨_, _, _, _, rfl, (E0.setCell (by simpa using hb2') _).setCell (by simpa using hb2') _⟩
end Go.Proofs.Ytiemkobgpaekoaa
