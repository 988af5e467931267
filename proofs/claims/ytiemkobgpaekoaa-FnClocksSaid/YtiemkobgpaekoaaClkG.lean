/- The drawn values of the clocks: times and bounds. -/
import Derived.Test.YtiemkobgpaekoaaCurB
import Derived.Deep.RegionHeld3
import Derived.Handy
import Derived.Deep.AppendLies
namespace Go.Proofs.Ytiemkobgpaekoaa
open Go.RowKit
set_option linter.unusedSimpArgs false
set_option linter.unusedVariables false

set_option maxRecDepth 100000 in
set_option maxHeartbeats 800000 in
theorem timeS {w : World} {B : Nat} {vc : Value} {n : Nat} {zc : List Int} {q : Nat} (h : CS w B vc n zc q) (hq : q ≤ 800000000) :
    Calls Try.prog 66 #[.pointer (some ⟨B, 0, none⟩)] w fun e w' => ∃ (x : Int) (q' : Nat), e = .returned (.int .i64 x) ∧ -100001 ≤ x ∧ x ≤ 100001 ∧ q ≤ q' ∧ q' ≤ q + 8 ∧ CS w' B vc n zc q' ∧ w.grownBy w' (some B) := by
  go_enter Try.func66, Try.ntmps66
  go_wp2_with (fail)
  refine (pickS _ h (by omega)).mono ?_
  rintro e w1 ⟨x1, q1, rfl, hx1, hx2, hx, hq1, hq2, hc1, hg1⟩
  replace hx := hx (by omega)
  go_wp2_with (fail)
  refine (pickS _ hc1 (by omega)).mono ?_
  rintro e w2 ⟨x2, q2, rfl, hy1, hy2, hy, hq3, hq4, hc2, hg2⟩
  replace hy := hy (by omega)
  go_wp2_with (fail)
  refine (amongL [100000, 100001, -1] hc2 (by omega) rfl (by simp) (by simp) rfl (by intro z hz; simp at hz; omega)).mono ?_
  rintro e w3 ⟨x3, q3, rfl, hm3, hq5, hq6, hc3, hg3⟩
  simp at hm3
  go_wp2_with (fail)
  refine (amongL [0, 30, 50, 100, 130, x1, x2, x3] hc3 (by omega) rfl (by simp) (by simp) rfl (by intro z hz; simp at hz; omega)).mono ?_
  rintro e w4 ⟨x4, q4, rfl, hm4, hq7, hq8, hc4, hg4⟩
  simp at hm4
  go_wp2_with (fail)
  go_ret
  exact ⟨x4, q4, rfl, by omega, by omega, by omega, by omega, hc4, hg1.trans (hg2.trans (hg3.trans hg4))⟩

/-- the two cells of a struct that lies in a block of its own -/
def Two (w : World) (b : Nat) (x y : Int) : Prop :=
  w.cell? ⟨b, 0, none⟩ = some (.int .i64 x) ∧ w.cell? ⟨b, 1, none⟩ = some (.int .i64 y) ∧ w.frozen? ⟨b, 0, none⟩ = false ∧ w.frozen? ⟨b, 1, none⟩ = false ∧ b < w.heap.size
theorem Two.grown {w w' : World} {b B : Nat} {x y : Int} (h : Two w b x y) (g : w.grownBy w' (some B)) (hne : b ≠ B) : Two w' b x y := by
  obtain ⟨h1, h2, h3, h4, h5⟩ := h
  refine ⟨World.grownBy.cell g h1 (by simpa using hne), World.grownBy.cell g h2 (by simpa using hne), ?_, ?_, Nat.lt_of_lt_of_le h5 g.size⟩
  · rw [World.grownBy.frozen_far g _ h5 (by simpa using hne)]; exact h3
  · rw [World.grownBy.frozen_far g _ h5 (by simpa using hne)]; exact h4
theorem Two.ext {w w' : World} {b : Nat} {x y : Int} (h : Two w b x y) (e : Ext w w') : Two w' b x y :=
  h.grown (B := b + 1) (e.grown.but _) (by omega)
theorem Two.new (w : World) (x y : Int) : Two (w.alloc (.cells #[.int .i64 x, .int .i64 y] 25)) w.heap.size x y := by
  refine ⟨by simp, by simp, by simp, by simp, by rw [World.size_alloc]; omega⟩
theorem Two.set0 {w : World} {b : Nat} {x y : Int} (h : Two w b x y) (z : Int) : Two (w.setCell ⟨b, 0, none⟩ (.int .i64 z)) b z y := by
  obtain ⟨h1, h2, h3, h4, h5⟩ := h
  refine ⟨World.cell?_setCell_same _ _ _ h1, ?_, ?_, ?_, by rw [World.size_setCell]; exact h5⟩
  · rw [World.cell?_setCell_other _ _ _ _ (by simp)]; exact h2
  · rw [World.frozen?_setCell]; exact h3
  · rw [World.frozen?_setCell]; exact h4
theorem Two.set1 {w : World} {b : Nat} {x y : Int} (h : Two w b x y) (z : Int) : Two (w.setCell ⟨b, 1, none⟩ (.int .i64 z)) b x z := by
  obtain ⟨h1, h2, h3, h4, h5⟩ := h
  refine ⟨?_, World.cell?_setCell_same _ _ _ h2, ?_, ?_, by rw [World.size_setCell]; exact h5⟩
  · rw [World.cell?_setCell_other _ _ _ _ (by simp)]; exact h1
  · rw [World.frozen?_setCell]; exact h3
  · rw [World.frozen?_setCell]; exact h4

theorem results_two {fn : Func} {p : Tmp} (h : fn.results = #[.cell p 25]) (tmps : Array Value) {w : World} {b : Nat} {x y : Int} (T : Two w b x y) (hp : tmps.getD p undef = .pointer (some ⟨b, 0, none⟩)) :
    (results fn tmps).run Try.prog w = .ok (.agg #[.int .i64 x, .int .i64 y]) w := by
  have d1 := T.1
  have d2 := T.2.1
  have hp' : tmps[p]?.getD undef = .pointer (some ⟨b, 0, none⟩) := by simpa using hp
  simp [results, h, hp', asAddr, go_sem, d1, d2]
  try rfl

set_option maxRecDepth 100000 in
set_option maxHeartbeats 800000 in
theorem boundS {w : World} {B : Nat} {vc : Value} {n : Nat} {zc : List Int} {q : Nat} (h : CS w B vc n zc q) (hq : q ≤ 800000000) :
    Calls Try.prog 67 #[.pointer (some ⟨B, 0, none⟩)] w fun e w' => ∃ (x y : Int) (q' : Nat), e = .returned (.agg #[.int .i64 x, .int .i64 y]) ∧ -100001 ≤ x ∧ x ≤ 100001 ∧ -100001 ≤ y ∧ y ≤ 100001 ∧ q ≤ q' ∧ q' ≤ q + 10 ∧ CS w' B vc n zc q' ∧ w.grownBy w' (some B) := by
  go_enter Try.func67, Try.ntmps67
  go_wp2_with (fail)
  refine (pickS _ (h.ext (by repeat (first | exact Ext.refl _ | assumption | refine Ext.alloc ?_ _ | refine Ext.drew ?_ | refine Ext.drewN ?_ _ | refine Ext.setCell ?_ (by first | exact Nat.le_refl _ | (simp; done) | (dsimp only; omega) | (simp only [World.size_alloc, World.size_setCell]; omega)) _ | refine Ext.trans ?_ (by assumption)))) (by omega)).mono ?_
  rintro e w1 ⟨x1, q1, rfl, hx1, hx2, hx, hq1, hq2, hc1, hg1⟩
  replace hx := hx (by omega)
  go_wp2_with (fail)
  have hs1 := hg1.size
  rw [World.size_alloc] at hs1
  have hB := h.size
  have T2 := (Two.new w 0 0).grown hg1 (by omega)
  have T3 := Two.new w1 (x1 - 100) 0
  replace T2 := T2.ext ((by repeat (first | exact Ext.refl _ | assumption | refine Ext.alloc ?_ _ | refine Ext.drew ?_ | refine Ext.drewN ?_ _ | refine Ext.setCell ?_ (by first | exact Nat.le_refl _ | (simp; done) | (dsimp only; omega) | (simp only [World.size_alloc, World.size_setCell]; omega)) _ | refine Ext.trans ?_ (by assumption))) : Ext w1 (w1.alloc (.cells #[.int .i64 (x1 - 100), .int .i64 0] 25)))
  have ha1 : CS (w1.alloc (.cells #[.int .i64 (x1 - 100), .int .i64 0] 25)) B vc n zc q1 := hc1.ext (by repeat (first | exact Ext.refl _ | assumption | refine Ext.alloc ?_ _ | refine Ext.drew ?_ | refine Ext.drewN ?_ _ | refine Ext.setCell ?_ (by first | exact Nat.le_refl _ | (simp; done) | (dsimp only; omega) | (simp only [World.size_alloc, World.size_setCell]; omega)) _ | refine Ext.trans ?_ (by assumption)))
  have ga := (((by repeat (first | exact Ext.refl _ | assumption | refine Ext.alloc ?_ _ | refine Ext.drew ?_ | refine Ext.drewN ?_ _ | refine Ext.setCell ?_ (by first | exact Nat.le_refl _ | (simp; done) | (dsimp only; omega) | (simp only [World.size_alloc, World.size_setCell]; omega)) _ | refine Ext.trans ?_ (by assumption))) : Ext w (w.alloc (.cells #[.int .i64 0, .int .i64 0] 25))).grown.but (some B)).trans <| hg1.trans (((by repeat (first | exact Ext.refl _ | assumption | refine Ext.alloc ?_ _ | refine Ext.drew ?_ | refine Ext.drewN ?_ _ | refine Ext.setCell ?_ (by first | exact Nat.le_refl _ | (simp; done) | (dsimp only; omega) | (simp only [World.size_alloc, World.size_setCell]; omega)) _ | refine Ext.trans ?_ (by assumption))) : Ext w1 (w1.alloc (.cells #[.int .i64 (x1 - 100), .int .i64 0] 25))).grown.but (some B))
  generalize w1.alloc (.cells #[.int .i64 (x1 - 100), .int .i64 0] 25) = wa at T2 T3 ha1 ga ⊢
  obtain ⟨b2, hb2⟩ : ∃ b, b = w.heap.size := ⟨_, rfl⟩
  obtain ⟨b3, hb3⟩ : ∃ b, b = w1.heap.size := ⟨_, rfl⟩
  rw [← hb2] at T2 hs1 hB
  rw [← hb3] at T3 hs1
  rw [← hb2, ← hb3]
  replace hb2 := hid hb2
  clear hb3
  have c3 : wa.drew.cell? ⟨b3, 0, none⟩ = some (.int .i64 (x1 - 100)) := T3.1
  go_region_held3 (fun w' => w'.cell? ⟨b3, 0, none⟩ = some (.int .i64 (x1 - 100))) (first | exact c8 _ | exact c7 | exact c5 _ | exact c4 | exact c3) (first
    | (go_at_call 69
       refine (pickS 200 (ha1.ext (by repeat (first | exact Ext.refl _ | assumption | refine Ext.alloc ?_ _ | refine Ext.drew ?_ | refine Ext.drewN ?_ _ | refine Ext.setCell ?_ (by first | exact Nat.le_refl _ | (simp; done) | (dsimp only; omega) | (simp only [World.size_alloc, World.size_setCell]; omega)) _ | refine Ext.trans ?_ (by assumption)))) (by omega)).mono ?_
       rintro e w2 ⟨x2, q2, rfl, hy1, hy2, hy, hq3, hq4, hc2, hg2⟩
       replace hy := hy (by omega)
       replace hg2 := (((by repeat (first | exact Ext.refl _ | assumption | refine Ext.alloc ?_ _ | refine Ext.drew ?_ | refine Ext.drewN ?_ _ | refine Ext.setCell ?_ (by first | exact Nat.le_refl _ | (simp; done) | (dsimp only; omega) | (simp only [World.size_alloc, World.size_setCell]; omega)) _ | refine Ext.trans ?_ (by assumption))) : Ext wa wa.drew).grown.but (some B)).trans hg2
       have U2 := T2.grown hg2 (by omega)
       have U3 := T3.grown hg2 (by omega)
       have c4 := U3.1
       have c5 : ∀ o, (w2.alloc o).cell? ⟨b3, 0, none⟩ = some (.int .i64 (x1 - 100)) := fun o => (U3.ext ((by repeat (first | exact Ext.refl _ | assumption | refine Ext.alloc ?_ _ | refine Ext.drew ?_ | refine Ext.drewN ?_ _ | refine Ext.setCell ?_ (by first | exact Nat.le_refl _ | (simp; done) | (dsimp only; omega) | (simp only [World.size_alloc, World.size_setCell]; omega)) _ | refine Ext.trans ?_ (by assumption))) : Ext w2 (w2.alloc o))).1
       go_wp2_with (fail))
    | (go_at_call 65
       refine (amongL [0, 1, 5, 30, x2] hc2 (by omega) rfl (by simp) (by simp) rfl (by intro z hz; simp at hz; omega)).mono ?_
       rintro e w3 ⟨x3, q3, rfl, hm3, hq5, hq6, hc3, hg3⟩
       simp at hm3
       have V2 := U2.grown hg3 (by omega)
       have V3 := U3.grown hg3 (by omega)
       have c7 := V3.1
       have f7 := V3.2.2.2.1
       have c9 := V3.2.1
       have c8 : ∀ z, (w3.setCell ⟨b3, 1, none⟩ z).cell? ⟨b3, 0, none⟩ = some (.int .i64 (x1 - 100)) := fun z => by rw [World.cell?_setCell_other _ _ _ _ (by simp)]; exact c7
       go_wp2_with (fail)))
  have e1 : IntKind.i64.wrap (x1 - 100 + x3) = x1 - 100 + x3 := IntWalk.i64_in _ (by omega)
  rw [e1]
  replace V2 : Two (w3.setCell ⟨b3, 1, none⟩ (.int .i64 (x1 - 100 + x3))) b2 0 0 := V2.grown (grow_cell _ _ _) (by simp; omega)
  replace V3 := V3.set1 (x1 - 100 + x3)
  replace hc3 := hc3.set (b := b3) (by omega) 1 (.int .i64 (x1 - 100 + x3))
  have g3 := grow_set (ga.trans (hg2.trans hg3)) (b := b3) (by have := hb2.out; omega) 1 (.int .i64 (x1 - 100 + x3))
  clear e1 c7 f7 c9 c8 c4 c5 U2 U3 hc2 hg2 hg3 c3 T2 T3 ha1 ga hc1 hg1
  generalize w3.setCell ⟨b3, 1, none⟩ (.int .i64 (x1 - 100 + x3)) = wb at V2 V3 hc3 g3 ⊢
  obtain ⟨lo, hlo⟩ : ∃ lo, lo = x1 - 100 := ⟨_, rfl⟩
  obtain ⟨hi, hhi⟩ : ∃ hi, hi = x1 - 100 + x3 := ⟨_, rfl⟩
  rw [← hhi, ← hlo] at V3
  have hlb : -100 ≤ lo ∧ lo ≤ 99 ∧ -100 ≤ hi ∧ hi ≤ 300 := by omega
  clear hlo hhi hm3
  have d1 := V3.1
  have d2 := V3.2.1
  have d3 := V3.2.2.1
  have d4 := V3.2.2.2.1
  have d5 := V2.1
  have d6 := V2.2.1
  have d7 := V2.2.2.1
  have d8 := V2.2.2.2.1
  go_wp2_with (fail)
  refine (pickS 24 hc3 (by omega)).mono ?_
  rintro e w4 ⟨x4, q4, rfl, hz1, hz2, hz, hq7, hq8, hc4, hg4⟩
  replace hz := hz (by omega)
  have g4 := g3.trans hg4
  replace V2 := V2.grown hg4 (by omega)
  replace V3 := V3.grown hg4 (by omega)
  clear d1 d2 d3 d4 d5 d6 d7 d8 hg4 hc3 g3
  have d1 := V3.1
  have d2 := V3.2.1
  have d3 := V3.2.2.1
  have d4 := V3.2.2.2.1
  have d5 := V2.1
  have d6 := V2.2.1
  have d7 := V2.2.2.1
  have d8 := V2.2.2.2.1
  have hb2' : w.heap.size ≤ b2 := by have := hb2.out; omega
  by_cases h0 : x4 = 0
  · subst h0
    go_wp2_with (fail)
    refine (amongL [-100000, -100001, hi + 1] hc4 (by omega) rfl (by simp) (by simp) rfl (by intro z hz; simp at hz; omega)).mono ?_
    rintro e w5 ⟨x5, q5, rfl, hm5, hq9, hq10, hc5, hg5⟩
    simp at hm5
    have g5 := g4.trans hg5
    replace V2 := V2.grown hg5 (by omega)
    replace V3 := V3.grown hg5 (by omega)
    clear d1 d2 d3 d4 d5 d6 d7 d8 hg5 g4 hc4
    have d1 := V3.1
    have d2 := V3.2.1
    have d3 := V3.2.2.1
    have d4 := V3.2.2.2.1
    have d5 := V2.1
    have d6 := V2.2.1
    have d7 := V2.2.2.1
    have d8 := V2.2.2.2.1
    go_wp2_with (fail)
    have W := (((V2.grown (grow_cell w5 ⟨b3, 0, none⟩ (.int .i64 x5)) (by simp; omega)).set0 x5).set1 hi)
    refine bodyPost_ret (results_two rfl _ W rfl) rfl ?_
    exact ⟨x5, hi, q5, rfl, by omega, by omega, by omega, by omega, by omega, by omega, (((hc5.set (by omega) _ _).set hB _ _).set hB _ _), grow_set (grow_set (grow_set g5 (by omega) _ _) hb2' _ _) hb2' _ _⟩
  · by_cases h1 : x4 = 1
    · subst h1
      go_wp2_with (fail)
      refine (amongL [100000, 100001, lo - 1] hc4 (by omega) rfl (by simp) (by simp) rfl (by intro z hz; simp at hz; omega)).mono ?_
      rintro e w5 ⟨x5, q5, rfl, hm5, hq9, hq10, hc5, hg5⟩
      simp at hm5
      have g5 := g4.trans hg5
      replace V2 := V2.grown hg5 (by omega)
      replace V3 := V3.grown hg5 (by omega)
      clear d1 d2 d3 d4 d5 d6 d7 d8 hg5 g4 hc4
      have d1 := V3.1
      have d2 := V3.2.1
      have d3 := V3.2.2.1
      have d4 := V3.2.2.2.1
      have d5 := V2.1
      have d6 := V2.2.1
      have d7 := V2.2.2.1
      have d8 := V2.2.2.2.1
      go_wp2_with (fail)
      have W := (((V2.grown (grow_cell w5 ⟨b3, 1, none⟩ (.int .i64 x5)) (by simp; omega)).set0 lo).set1 x5)
      refine bodyPost_ret (results_two rfl _ W rfl) rfl ?_
      exact ⟨lo, x5, q5, rfl, by omega, by omega, by omega, by omega, by omega, by omega, (((hc5.set (by omega) _ _).set hB _ _).set hB _ _), grow_set (grow_set (grow_set g5 (by omega) _ _) hb2' _ _) hb2' _ _⟩
    · have t0 : decide (x4 = 0) = false := by simpa using h0
      have t1 : decide (x4 = 1) = false := by simpa using h1
      go_wp2_with (fail)
      have W := (V2.set0 lo).set1 hi
      refine bodyPost_ret (results_two rfl _ W rfl) rfl ?_
      exact ⟨lo, hi, q4, rfl, by omega, by omega, by omega, by omega, by omega, by omega, ((hc4.set hB _ _).set hB _ _), grow_set (grow_set g4 hb2' _ _) hb2' _ _⟩
end Go.Proofs.Ytiemkobgpaekoaa
