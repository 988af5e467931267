/- The chapter of acknowledgements: the statements' walks. No condition. -/
import Derived.Test.YtmmmiccpimplhaaAckE
import Derived.Test.YtmmmiccpimplhaaConvIntT
namespace Go.Proofs.Ytmmmiccpimplhaa
open Go.RowKit
set_option linter.unusedSimpArgs false
set_option linter.unusedVariables false

theorem arrL_facts (N W : Int) (z : List Int) (n : Nat) (k : Int) : (∀ x ∈ arrL N W z n k, (Lit.int .i64 x).wf = true) ∧ (arrL N W z n k).length ≤ 16777216 := by
  unfold arrL
  cases h : askB N W z n k with
  | false => simp
  | true =>
    obtain ⟨a, b, c, rfl, rfl, rfl, h1, h2, h3, h4, h5, h6⟩ := askB_nat h
    rw [if_pos rfl, Int.toNat_natCast]
    refine ⟨bitsL_wf _ h2, ?_⟩
    have := bitsL_len_le (akS a (b : Int).toNat (lfZ z n) (c : Int).toNat).A a
    omega
theorem knL_facts (N W : Int) (z : List Int) (n : Nat) (k : Int) : (∀ x ∈ knL N W z n k, (Lit.int .i64 x).wf = true) ∧ (knL N W z n k).length ≤ 16777216 := by
  unfold knL
  cases h : askB N W z n k with
  | false => simp
  | true =>
    obtain ⟨a, b, c, rfl, rfl, rfl, h1, h2, h3, h4, h5, h6⟩ := askB_nat h
    rw [if_pos rfl, Int.toNat_natCast]
    refine ⟨bitsL_wf _ h2, ?_⟩
    have := bitsL_len_le (akS a (b : Int).toNat (lfZ z n) (c : Int).toNat).K a
    omega


set_option maxHeartbeats 2000000 in
theorem walkFnExactStandsAfter (a0 : Int) (a1 : Int) (v0 : Value) (n0 : Nat) (z0 : List Int) (a3 : Int) (w : World) (_ : (Lit.int .i64 a0).wf = true) (_ : (Lit.int .i64 a1).wf = true) (r0 : IntRow .i64 1 w v0 n0 z0) (_ : (Lit.int .i64 a3).wf = true) :
    Calls Try.prog 3 #[.int .i64 a0, .int .i64 a1, v0, .int .i64 a3] w fun e w' => e = .returned (.bool true) ∧ Ext w w' := by
  obtain ⟨hl, hm, hwf, ad, cd, rfl, hnc, hcm, hcell⟩ := id r0
  unfold maxLen at hm
  clear hcell
  by_cases hn : n0 ≤ 1048576
  · have hnd : decide ((1048576 : Int) < n0) = false := decide_eq_false (by omega)
    have hwf := r0.2.2.1
    go_enter Try.func3, Try.ntmps3
    go_wp2_with (fail)
    refine (toIntS_any _ n0 z0 _ (r0.ext (by repeat (first | exact Ext.refl _ | assumption | refine Ext.alloc ?_ _ | refine Ext.drew ?_ | refine Ext.drewN ?_ _ | refine Ext.setCell ?_ (by first | exact Nat.le_refl _ | (simp; done) | (dsimp only; omega) | (simp only [World.size_alloc, World.size_setCell]; omega)) _ | refine Ext.trans ?_ (by assumption)))) hn).mono ?_
    rintro e w1 ⟨g1, rfl, hr1, hb1⟩
    go_wp2_with (fail)
    refine (sStandsAfter_any a0 a1 _ n0 z0 a3 _ (row_ints (row_ext hr1 (by repeat (first | exact Ext.refl _ | assumption | refine Ext.alloc ?_ _ | refine Ext.drew ?_ | refine Ext.drewN ?_ _ | refine Ext.setCell ?_ (by first | exact Nat.le_refl _ | (simp; done) | (dsimp only; omega) | (simp only [World.size_alloc, World.size_setCell]; omega)) _ | refine Ext.trans ?_ (by assumption)))) (by unfold maxLen; omega) hwf)).mono ?_
    rintro e w2 ⟨rfl, hb2⟩
    go_wp2_with (fail)
    refine (toIntS_any _ n0 z0 _ (r0.ext (by repeat (first | exact Ext.refl _ | assumption | refine Ext.alloc ?_ _ | refine Ext.drew ?_ | refine Ext.drewN ?_ _ | refine Ext.setCell ?_ (by first | exact Nat.le_refl _ | (simp; done) | (dsimp only; omega) | (simp only [World.size_alloc, World.size_setCell]; omega)) _ | refine Ext.trans ?_ (by assumption)))) hn).mono ?_
    rintro e w3 ⟨g3, rfl, hr3, hb3⟩
    go_wp2_with (fail)
    refine (iStandsAfter_any a0 a1 _ n0 z0 a3 _ (row_ints (row_ext hr3 (by repeat (first | exact Ext.refl _ | assumption | refine Ext.alloc ?_ _ | refine Ext.drew ?_ | refine Ext.drewN ?_ _ | refine Ext.setCell ?_ (by first | exact Nat.le_refl _ | (simp; done) | (dsimp only; omega) | (simp only [World.size_alloc, World.size_setCell]; omega)) _ | refine Ext.trans ?_ (by assumption)))) (by unfold maxLen; omega) hwf)).mono ?_
    rintro e w4 ⟨rfl, hb4⟩
    go_wp2_with (fail)
    refine (toIntS_any _ n0 z0 _ (r0.ext (by repeat (first | exact Ext.refl _ | assumption | refine Ext.alloc ?_ _ | refine Ext.drew ?_ | refine Ext.drewN ?_ _ | refine Ext.setCell ?_ (by first | exact Nat.le_refl _ | (simp; done) | (dsimp only; omega) | (simp only [World.size_alloc, World.size_setCell]; omega)) _ | refine Ext.trans ?_ (by assumption)))) hn).mono ?_
    rintro e w5 ⟨g5, rfl, hr5, hb5⟩
    go_wp2_with (fail)
    refine (eqIntS_same _ _ n0 z0 _ (row_ints (row_ext hr3 (by repeat (first | exact Ext.refl _ | assumption | refine Ext.alloc ?_ _ | refine Ext.drew ?_ | refine Ext.drewN ?_ _ | refine Ext.setCell ?_ (by first | exact Nat.le_refl _ | (simp; done) | (dsimp only; omega) | (simp only [World.size_alloc, World.size_setCell]; omega)) _ | refine Ext.trans ?_ (by assumption)))) (by unfold maxLen; omega) hwf) (row_ints (row_ext hr5 (by repeat (first | exact Ext.refl _ | assumption | refine Ext.alloc ?_ _ | refine Ext.drew ?_ | refine Ext.drewN ?_ _ | refine Ext.setCell ?_ (by first | exact Nat.le_refl _ | (simp; done) | (dsimp only; omega) | (simp only [World.size_alloc, World.size_setCell]; omega)) _ | refine Ext.trans ?_ (by assumption)))) (by unfold maxLen; omega) hwf)).mono ?_
    rintro e w6 ⟨rfl, hb6⟩
    go_wp2_with (fail)
    go_ret
    exact ⟨rfl, (by repeat (first | exact Ext.refl _ | assumption | refine Ext.alloc ?_ _ | refine Ext.drew ?_ | refine Ext.drewN ?_ _ | refine Ext.setCell ?_ (by first | exact Nat.le_refl _ | (simp; done) | (dsimp only; omega) | (simp only [World.size_alloc, World.size_setCell]; omega)) _ | refine Ext.trans ?_ (by assumption)))⟩
  · have hnd : decide ((1048576 : Int) < n0) = true := decide_eq_true (by omega)
    go_enter Try.func3, Try.ntmps3
    go_wp2_with (fail)
    go_ret
    exact ⟨rfl, Ext.refl _⟩


set_option maxHeartbeats 2000000 in
theorem walkFnExactArrivedAfter (a0 : Int) (a1 : Int) (v0 : Value) (n0 : Nat) (z0 : List Int) (a3 : Int) (w : World) (_ : (Lit.int .i64 a0).wf = true) (_ : (Lit.int .i64 a1).wf = true) (r0 : IntRow .i64 1 w v0 n0 z0) (_ : (Lit.int .i64 a3).wf = true) :
    Calls Try.prog 6 #[.int .i64 a0, .int .i64 a1, v0, .int .i64 a3] w fun e w' => e = .returned (.bool true) ∧ Ext w w' := by
  obtain ⟨hl, hm, hwf, ad, cd, rfl, hnc, hcm, hcell⟩ := id r0
  unfold maxLen at hm
  clear hcell
  by_cases hn : n0 ≤ 1048576
  · have hnd : decide ((1048576 : Int) < n0) = false := decide_eq_false (by omega)
    have hwf := r0.2.2.1
    obtain ⟨L, hL⟩ : ∃ L, L = arrL a0 a1 z0 n0 a3 := ⟨_, rfl⟩
    have hLw : ∀ x ∈ L, (Lit.int .i64 x).wf = true := by rw [hL]; exact (arrL_facts a0 a1 z0 n0 a3).1
    have hLl : L.length ≤ 16777216 := by rw [hL]; exact (arrL_facts a0 a1 z0 n0 a3).2
    have HLW := hid hLw
    clear hLw
    go_enter Try.func6, Try.ntmps6
    go_wp2_with (fail)
    refine (toIntS_any _ n0 z0 _ (r0.ext (by repeat (first | exact Ext.refl _ | assumption | refine Ext.alloc ?_ _ | refine Ext.drew ?_ | refine Ext.drewN ?_ _ | refine Ext.setCell ?_ (by first | exact Nat.le_refl _ | (simp; done) | (dsimp only; omega) | (simp only [World.size_alloc, World.size_setCell]; omega)) _ | refine Ext.trans ?_ (by assumption)))) hn).mono ?_
    rintro e w1 ⟨g1, rfl, hr1, hb1⟩
    go_wp2_with (fail)
    refine (sArrivedAfter_any a0 a1 _ n0 z0 a3 _ (row_ints (row_ext hr1 (by repeat (first | exact Ext.refl _ | assumption | refine Ext.alloc ?_ _ | refine Ext.drew ?_ | refine Ext.drewN ?_ _ | refine Ext.setCell ?_ (by first | exact Nat.le_refl _ | (simp; done) | (dsimp only; omega) | (simp only [World.size_alloc, World.size_setCell]; omega)) _ | refine Ext.trans ?_ (by assumption)))) (by unfold maxLen; omega) hwf)).mono ?_
    rintro e w2 ⟨vw, rfl, hrw, hb2⟩
    rw [← hL] at hrw
    go_wp2_with (fail)
    refine (toIntS_any _ n0 z0 _ (r0.ext (by repeat (first | exact Ext.refl _ | assumption | refine Ext.alloc ?_ _ | refine Ext.drew ?_ | refine Ext.drewN ?_ _ | refine Ext.setCell ?_ (by first | exact Nat.le_refl _ | (simp; done) | (dsimp only; omega) | (simp only [World.size_alloc, World.size_setCell]; omega)) _ | refine Ext.trans ?_ (by assumption)))) hn).mono ?_
    rintro e w3 ⟨g3, rfl, hr3, hb3⟩
    go_wp2_with (fail)
    refine (iArrivedAfter_any a0 a1 _ n0 z0 a3 _ (row_ints (row_ext hr3 (by repeat (first | exact Ext.refl _ | assumption | refine Ext.alloc ?_ _ | refine Ext.drew ?_ | refine Ext.drewN ?_ _ | refine Ext.setCell ?_ (by first | exact Nat.le_refl _ | (simp; done) | (dsimp only; omega) | (simp only [World.size_alloc, World.size_setCell]; omega)) _ | refine Ext.trans ?_ (by assumption)))) (by unfold maxLen; omega) hwf)).mono ?_
    rintro e w4 ⟨vg, rfl, hrg, hb4⟩
    rw [← hL] at hrg
    go_wp2_with (fail)
    refine (eqIntS_same _ _ L.length L _ (row_ints (row_ext hrg (by repeat (first | exact Ext.refl _ | assumption | refine Ext.alloc ?_ _ | refine Ext.drew ?_ | refine Ext.drewN ?_ _ | refine Ext.setCell ?_ (by first | exact Nat.le_refl _ | (simp; done) | (dsimp only; omega) | (simp only [World.size_alloc, World.size_setCell]; omega)) _ | refine Ext.trans ?_ (by assumption)))) (by unfold maxLen; omega) HLW.out) (row_ints (row_ext hrw (by repeat (first | exact Ext.refl _ | assumption | refine Ext.alloc ?_ _ | refine Ext.drew ?_ | refine Ext.drewN ?_ _ | refine Ext.setCell ?_ (by first | exact Nat.le_refl _ | (simp; done) | (dsimp only; omega) | (simp only [World.size_alloc, World.size_setCell]; omega)) _ | refine Ext.trans ?_ (by assumption)))) (by unfold maxLen; omega) HLW.out)).mono ?_
    rintro e w5 ⟨rfl, hb5⟩
    go_wp2_with (fail)
    refine (toIntS_any _ n0 z0 _ (r0.ext (by repeat (first | exact Ext.refl _ | assumption | refine Ext.alloc ?_ _ | refine Ext.drew ?_ | refine Ext.drewN ?_ _ | refine Ext.setCell ?_ (by first | exact Nat.le_refl _ | (simp; done) | (dsimp only; omega) | (simp only [World.size_alloc, World.size_setCell]; omega)) _ | refine Ext.trans ?_ (by assumption)))) hn).mono ?_
    rintro e w6 ⟨g6, rfl, hr6, hb6⟩
    go_wp2_with (fail)
    refine (eqIntS_same _ _ n0 z0 _ (row_ints (row_ext hr3 (by repeat (first | exact Ext.refl _ | assumption | refine Ext.alloc ?_ _ | refine Ext.drew ?_ | refine Ext.drewN ?_ _ | refine Ext.setCell ?_ (by first | exact Nat.le_refl _ | (simp; done) | (dsimp only; omega) | (simp only [World.size_alloc, World.size_setCell]; omega)) _ | refine Ext.trans ?_ (by assumption)))) (by unfold maxLen; omega) hwf) (row_ints (row_ext hr6 (by repeat (first | exact Ext.refl _ | assumption | refine Ext.alloc ?_ _ | refine Ext.drew ?_ | refine Ext.drewN ?_ _ | refine Ext.setCell ?_ (by first | exact Nat.le_refl _ | (simp; done) | (dsimp only; omega) | (simp only [World.size_alloc, World.size_setCell]; omega)) _ | refine Ext.trans ?_ (by assumption)))) (by unfold maxLen; omega) hwf)).mono ?_
    rintro e w7 ⟨rfl, hb7⟩
    have hrw7 := row_ext hrw ((by repeat (first | exact Ext.refl _ | assumption | refine Ext.alloc ?_ _ | refine Ext.drew ?_ | refine Ext.drewN ?_ _ | refine Ext.setCell ?_ (by first | exact Nat.le_refl _ | (simp; done) | (dsimp only; omega) | (simp only [World.size_alloc, World.size_setCell]; omega)) _ | refine Ext.trans ?_ (by assumption))) : Ext w2 w7)
    have hrg7 := row_ext hrg ((by repeat (first | exact Ext.refl _ | assumption | refine Ext.alloc ?_ _ | refine Ext.drew ?_ | refine Ext.drewN ?_ _ | refine Ext.setCell ?_ (by first | exact Nat.le_refl _ | (simp; done) | (dsimp only; omega) | (simp only [World.size_alloc, World.size_setCell]; omega)) _ | refine Ext.trans ?_ (by assumption))) : Ext w4 w7)
    have hrx7 := row_ext hr3 ((by repeat (first | exact Ext.refl _ | assumption | refine Ext.alloc ?_ _ | refine Ext.drew ?_ | refine Ext.drewN ?_ _ | refine Ext.setCell ?_ (by first | exact Nat.le_refl _ | (simp; done) | (dsimp only; omega) | (simp only [World.size_alloc, World.size_setCell]; omega)) _ | refine Ext.trans ?_ (by assumption))) : Ext w3 w7)
    have hE7 : Ext w w7 := (by repeat (first | exact Ext.refl _ | assumption | refine Ext.alloc ?_ _ | refine Ext.drew ?_ | refine Ext.drewN ?_ _ | refine Ext.setCell ?_ (by first | exact Nat.le_refl _ | (simp; done) | (dsimp only; omega) | (simp only [World.size_alloc, World.size_setCell]; omega)) _ | refine Ext.trans ?_ (by assumption)))
    have hlw : ∀ k, vw.ownBlock = some k → k < w2.heap.size := fun k hk => (hrw.lt k hk).2
    have hz2 := (hE7.size)
    have hz4 : w.heap.size ≤ w2.heap.size := ((by repeat (first | exact Ext.refl _ | assumption | refine Ext.alloc ?_ _ | refine Ext.drew ?_ | refine Ext.drewN ?_ _ | refine Ext.setCell ?_ (by first | exact Nat.le_refl _ | (simp; done) | (dsimp only; omega) | (simp only [World.size_alloc, World.size_setCell]; omega)) _ | refine Ext.trans ?_ (by assumption))) : Ext w w2).size
    have hz5 : w2.heap.size ≤ w3.heap.size := hb3.size
    have hg3 : w2.heap.size ≤ g3 ∧ g3 < w3.heap.size := hr3.lt g3 rfl
    go_wp2_with (fail)
    refine (markIntS_any _ n0 _ w2.heap.size _ 1 hrx7 (by omega) (by omega) (by omega)).mono ?_
    rintro e w8 ⟨rfl, hrx, hm8⟩
    have hE8 : Ext w w8 := hE7.of_grownAt hm8 (fun k hk => by simp [Value.ownBlock] at hk; omega)
    have hrw8 := row_below (B := w2.heap.size) hrw7 hlw hm8 (fun k hk => by simp [Value.ownBlock] at hk; omega)
    have hrg8 := row_above hrg7 hm8 (fun k hk => by simp [Value.ownBlock] at hk; omega)
    clear hb1 hb2 hb3 hb4 hb5 hb6 hb7 hE7 hr1 hr3 hr6 hrx hrw hrg hrw7 hrg7 hrx7
    go_wp2_with (fail)
    refine (eqIntS_same _ _ L.length L _ (row_ints (row_ext hrg8 (by repeat (first | exact Ext.refl _ | assumption | refine Ext.alloc ?_ _ | refine Ext.drew ?_ | refine Ext.drewN ?_ _ | refine Ext.setCell ?_ (by first | exact Nat.le_refl _ | (simp; done) | (dsimp only; omega) | (simp only [World.size_alloc, World.size_setCell]; omega)) _ | refine Ext.trans ?_ (by assumption)))) (by unfold maxLen; omega) HLW.out) (row_ints (row_ext hrw8 (by repeat (first | exact Ext.refl _ | assumption | refine Ext.alloc ?_ _ | refine Ext.drew ?_ | refine Ext.drewN ?_ _ | refine Ext.setCell ?_ (by first | exact Nat.le_refl _ | (simp; done) | (dsimp only; omega) | (simp only [World.size_alloc, World.size_setCell]; omega)) _ | refine Ext.trans ?_ (by assumption)))) (by unfold maxLen; omega) HLW.out)).mono ?_
    rintro e w9 ⟨rfl, hb9⟩
    have hrg9 := row_ext hrg8 hb9
    have hrw9 := row_ext hrw8 hb9
    have hE9 : Ext w w9 := hE8.trans hb9
    have hlg : ∀ k, vg.ownBlock = some k → w3.heap.size ≤ k := fun k hk => (hrg9.lt k hk).1
    go_wp2_with (fail)
    refine (markIntS_any _ _ _ w3.heap.size _ 1 hrg9 (by omega) (by omega) (by omega)).mono ?_
    rintro e w10 ⟨rfl, hrm, hm10⟩
    have hE10 : Ext w w10 := hE9.of_grownAt hm10 (fun k hk => by have := hlg k hk; omega)
    have hrw10 := row_below (B := w2.heap.size) hrw9 hlw hm10 (fun k hk => by have := hlg k hk; omega)
    clear hb9 hE8 hE9 hrg8 hrw8 hrg9 hrw9
    go_wp2_with (fail)
    refine (heldIntS_same _ L.length _ 1 (row_ints (row_ext hrm (by repeat (first | exact Ext.refl _ | assumption | refine Ext.alloc ?_ _ | refine Ext.drew ?_ | refine Ext.drewN ?_ _ | refine Ext.setCell ?_ (by first | exact Nat.le_refl _ | (simp; done) | (dsimp only; omega) | (simp only [World.size_alloc, World.size_setCell]; omega)) _ | refine Ext.trans ?_ (by assumption)))) (by unfold maxLen; omega) (marks_wf (by omega) (by omega))) (by omega) (by omega) (by omega)).mono ?_
    rintro e w11 ⟨rfl, hb11⟩
    go_wp2_with (fail)
    refine (toIntS_any _ n0 z0 _ (r0.ext (by repeat (first | exact Ext.refl _ | assumption | refine Ext.alloc ?_ _ | refine Ext.drew ?_ | refine Ext.drewN ?_ _ | refine Ext.setCell ?_ (by first | exact Nat.le_refl _ | (simp; done) | (dsimp only; omega) | (simp only [World.size_alloc, World.size_setCell]; omega)) _ | refine Ext.trans ?_ (by assumption)))) hn).mono ?_
    rintro e w12 ⟨g12, rfl, hr12, hb12⟩
    go_wp2_with (fail)
    refine (iArrivedAfter_any a0 a1 _ n0 z0 a3 _ (row_ints (row_ext hr12 (by repeat (first | exact Ext.refl _ | assumption | refine Ext.alloc ?_ _ | refine Ext.drew ?_ | refine Ext.drewN ?_ _ | refine Ext.setCell ?_ (by first | exact Nat.le_refl _ | (simp; done) | (dsimp only; omega) | (simp only [World.size_alloc, World.size_setCell]; omega)) _ | refine Ext.trans ?_ (by assumption)))) (by unfold maxLen; omega) hwf)).mono ?_
    rintro e w13 ⟨vh, rfl, hrh, hb13⟩
    rw [← hL] at hrh
    go_wp2_with (fail)
    refine (eqIntS_same _ _ L.length L _ (row_ints (row_ext hrh (by repeat (first | exact Ext.refl _ | assumption | refine Ext.alloc ?_ _ | refine Ext.drew ?_ | refine Ext.drewN ?_ _ | refine Ext.setCell ?_ (by first | exact Nat.le_refl _ | (simp; done) | (dsimp only; omega) | (simp only [World.size_alloc, World.size_setCell]; omega)) _ | refine Ext.trans ?_ (by assumption)))) (by unfold maxLen; omega) HLW.out) (row_ints (row_ext hrw10 (by repeat (first | exact Ext.refl _ | assumption | refine Ext.alloc ?_ _ | refine Ext.drew ?_ | refine Ext.drewN ?_ _ | refine Ext.setCell ?_ (by first | exact Nat.le_refl _ | (simp; done) | (dsimp only; omega) | (simp only [World.size_alloc, World.size_setCell]; omega)) _ | refine Ext.trans ?_ (by assumption)))) (by unfold maxLen; omega) HLW.out)).mono ?_
    rintro e w14 ⟨rfl, hb14⟩
    go_wp2_with (fail)
    refine (heldIntS_same _ L.length _ 1 (row_ints (row_ext hrm (by repeat (first | exact Ext.refl _ | assumption | refine Ext.alloc ?_ _ | refine Ext.drew ?_ | refine Ext.drewN ?_ _ | refine Ext.setCell ?_ (by first | exact Nat.le_refl _ | (simp; done) | (dsimp only; omega) | (simp only [World.size_alloc, World.size_setCell]; omega)) _ | refine Ext.trans ?_ (by assumption)))) (by unfold maxLen; omega) (marks_wf (by omega) (by omega))) (by omega) (by omega) (by omega)).mono ?_
    rintro e w15 ⟨rfl, hb15⟩
    go_wp2_with (fail)
    go_ret
    exact ⟨rfl, (by repeat (first | exact Ext.refl _ | assumption | refine Ext.alloc ?_ _ | refine Ext.drew ?_ | refine Ext.drewN ?_ _ | refine Ext.setCell ?_ (by first | exact Nat.le_refl _ | (simp; done) | (dsimp only; omega) | (simp only [World.size_alloc, World.size_setCell]; omega)) _ | refine Ext.trans ?_ (by assumption)))⟩
  · have hnd : decide ((1048576 : Int) < n0) = true := decide_eq_true (by omega)
    go_enter Try.func6, Try.ntmps6
    go_wp2_with (fail)
    go_ret
    exact ⟨rfl, Ext.refl _⟩


set_option maxHeartbeats 2000000 in
theorem walkFnExactKnownAfter (a0 : Int) (a1 : Int) (v0 : Value) (n0 : Nat) (z0 : List Int) (a3 : Int) (w : World) (_ : (Lit.int .i64 a0).wf = true) (_ : (Lit.int .i64 a1).wf = true) (r0 : IntRow .i64 1 w v0 n0 z0) (_ : (Lit.int .i64 a3).wf = true) :
    Calls Try.prog 7 #[.int .i64 a0, .int .i64 a1, v0, .int .i64 a3] w fun e w' => e = .returned (.bool true) ∧ Ext w w' := by
  obtain ⟨hl, hm, hwf, ad, cd, rfl, hnc, hcm, hcell⟩ := id r0
  unfold maxLen at hm
  clear hcell
  by_cases hn : n0 ≤ 1048576
  · have hnd : decide ((1048576 : Int) < n0) = false := decide_eq_false (by omega)
    have hwf := r0.2.2.1
    obtain ⟨L, hL⟩ : ∃ L, L = knL a0 a1 z0 n0 a3 := ⟨_, rfl⟩
    have hLw : ∀ x ∈ L, (Lit.int .i64 x).wf = true := by rw [hL]; exact (knL_facts a0 a1 z0 n0 a3).1
    have hLl : L.length ≤ 16777216 := by rw [hL]; exact (knL_facts a0 a1 z0 n0 a3).2
    have HLW := hid hLw
    clear hLw
    go_enter Try.func7, Try.ntmps7
    go_wp2_with (fail)
    refine (toIntS_any _ n0 z0 _ (r0.ext (by repeat (first | exact Ext.refl _ | assumption | refine Ext.alloc ?_ _ | refine Ext.drew ?_ | refine Ext.drewN ?_ _ | refine Ext.setCell ?_ (by first | exact Nat.le_refl _ | (simp; done) | (dsimp only; omega) | (simp only [World.size_alloc, World.size_setCell]; omega)) _ | refine Ext.trans ?_ (by assumption)))) hn).mono ?_
    rintro e w1 ⟨g1, rfl, hr1, hb1⟩
    go_wp2_with (fail)
    refine (sKnownAfter_any a0 a1 _ n0 z0 a3 _ (row_ints (row_ext hr1 (by repeat (first | exact Ext.refl _ | assumption | refine Ext.alloc ?_ _ | refine Ext.drew ?_ | refine Ext.drewN ?_ _ | refine Ext.setCell ?_ (by first | exact Nat.le_refl _ | (simp; done) | (dsimp only; omega) | (simp only [World.size_alloc, World.size_setCell]; omega)) _ | refine Ext.trans ?_ (by assumption)))) (by unfold maxLen; omega) hwf)).mono ?_
    rintro e w2 ⟨vw, rfl, hrw, hb2⟩
    rw [← hL] at hrw
    go_wp2_with (fail)
    refine (toIntS_any _ n0 z0 _ (r0.ext (by repeat (first | exact Ext.refl _ | assumption | refine Ext.alloc ?_ _ | refine Ext.drew ?_ | refine Ext.drewN ?_ _ | refine Ext.setCell ?_ (by first | exact Nat.le_refl _ | (simp; done) | (dsimp only; omega) | (simp only [World.size_alloc, World.size_setCell]; omega)) _ | refine Ext.trans ?_ (by assumption)))) hn).mono ?_
    rintro e w3 ⟨g3, rfl, hr3, hb3⟩
    go_wp2_with (fail)
    refine (iKnownAfter_any a0 a1 _ n0 z0 a3 _ (row_ints (row_ext hr3 (by repeat (first | exact Ext.refl _ | assumption | refine Ext.alloc ?_ _ | refine Ext.drew ?_ | refine Ext.drewN ?_ _ | refine Ext.setCell ?_ (by first | exact Nat.le_refl _ | (simp; done) | (dsimp only; omega) | (simp only [World.size_alloc, World.size_setCell]; omega)) _ | refine Ext.trans ?_ (by assumption)))) (by unfold maxLen; omega) hwf)).mono ?_
    rintro e w4 ⟨vg, rfl, hrg, hb4⟩
    rw [← hL] at hrg
    go_wp2_with (fail)
    refine (eqIntS_same _ _ L.length L _ (row_ints (row_ext hrg (by repeat (first | exact Ext.refl _ | assumption | refine Ext.alloc ?_ _ | refine Ext.drew ?_ | refine Ext.drewN ?_ _ | refine Ext.setCell ?_ (by first | exact Nat.le_refl _ | (simp; done) | (dsimp only; omega) | (simp only [World.size_alloc, World.size_setCell]; omega)) _ | refine Ext.trans ?_ (by assumption)))) (by unfold maxLen; omega) HLW.out) (row_ints (row_ext hrw (by repeat (first | exact Ext.refl _ | assumption | refine Ext.alloc ?_ _ | refine Ext.drew ?_ | refine Ext.drewN ?_ _ | refine Ext.setCell ?_ (by first | exact Nat.le_refl _ | (simp; done) | (dsimp only; omega) | (simp only [World.size_alloc, World.size_setCell]; omega)) _ | refine Ext.trans ?_ (by assumption)))) (by unfold maxLen; omega) HLW.out)).mono ?_
    rintro e w5 ⟨rfl, hb5⟩
    go_wp2_with (fail)
    refine (toIntS_any _ n0 z0 _ (r0.ext (by repeat (first | exact Ext.refl _ | assumption | refine Ext.alloc ?_ _ | refine Ext.drew ?_ | refine Ext.drewN ?_ _ | refine Ext.setCell ?_ (by first | exact Nat.le_refl _ | (simp; done) | (dsimp only; omega) | (simp only [World.size_alloc, World.size_setCell]; omega)) _ | refine Ext.trans ?_ (by assumption)))) hn).mono ?_
    rintro e w6 ⟨g6, rfl, hr6, hb6⟩
    go_wp2_with (fail)
    refine (eqIntS_same _ _ n0 z0 _ (row_ints (row_ext hr3 (by repeat (first | exact Ext.refl _ | assumption | refine Ext.alloc ?_ _ | refine Ext.drew ?_ | refine Ext.drewN ?_ _ | refine Ext.setCell ?_ (by first | exact Nat.le_refl _ | (simp; done) | (dsimp only; omega) | (simp only [World.size_alloc, World.size_setCell]; omega)) _ | refine Ext.trans ?_ (by assumption)))) (by unfold maxLen; omega) hwf) (row_ints (row_ext hr6 (by repeat (first | exact Ext.refl _ | assumption | refine Ext.alloc ?_ _ | refine Ext.drew ?_ | refine Ext.drewN ?_ _ | refine Ext.setCell ?_ (by first | exact Nat.le_refl _ | (simp; done) | (dsimp only; omega) | (simp only [World.size_alloc, World.size_setCell]; omega)) _ | refine Ext.trans ?_ (by assumption)))) (by unfold maxLen; omega) hwf)).mono ?_
    rintro e w7 ⟨rfl, hb7⟩
    have hrw7 := row_ext hrw ((by repeat (first | exact Ext.refl _ | assumption | refine Ext.alloc ?_ _ | refine Ext.drew ?_ | refine Ext.drewN ?_ _ | refine Ext.setCell ?_ (by first | exact Nat.le_refl _ | (simp; done) | (dsimp only; omega) | (simp only [World.size_alloc, World.size_setCell]; omega)) _ | refine Ext.trans ?_ (by assumption))) : Ext w2 w7)
    have hrg7 := row_ext hrg ((by repeat (first | exact Ext.refl _ | assumption | refine Ext.alloc ?_ _ | refine Ext.drew ?_ | refine Ext.drewN ?_ _ | refine Ext.setCell ?_ (by first | exact Nat.le_refl _ | (simp; done) | (dsimp only; omega) | (simp only [World.size_alloc, World.size_setCell]; omega)) _ | refine Ext.trans ?_ (by assumption))) : Ext w4 w7)
    have hrx7 := row_ext hr3 ((by repeat (first | exact Ext.refl _ | assumption | refine Ext.alloc ?_ _ | refine Ext.drew ?_ | refine Ext.drewN ?_ _ | refine Ext.setCell ?_ (by first | exact Nat.le_refl _ | (simp; done) | (dsimp only; omega) | (simp only [World.size_alloc, World.size_setCell]; omega)) _ | refine Ext.trans ?_ (by assumption))) : Ext w3 w7)
    have hE7 : Ext w w7 := (by repeat (first | exact Ext.refl _ | assumption | refine Ext.alloc ?_ _ | refine Ext.drew ?_ | refine Ext.drewN ?_ _ | refine Ext.setCell ?_ (by first | exact Nat.le_refl _ | (simp; done) | (dsimp only; omega) | (simp only [World.size_alloc, World.size_setCell]; omega)) _ | refine Ext.trans ?_ (by assumption)))
    have hlw : ∀ k, vw.ownBlock = some k → k < w2.heap.size := fun k hk => (hrw.lt k hk).2
    have hz2 := (hE7.size)
    have hz4 : w.heap.size ≤ w2.heap.size := ((by repeat (first | exact Ext.refl _ | assumption | refine Ext.alloc ?_ _ | refine Ext.drew ?_ | refine Ext.drewN ?_ _ | refine Ext.setCell ?_ (by first | exact Nat.le_refl _ | (simp; done) | (dsimp only; omega) | (simp only [World.size_alloc, World.size_setCell]; omega)) _ | refine Ext.trans ?_ (by assumption))) : Ext w w2).size
    have hz5 : w2.heap.size ≤ w3.heap.size := hb3.size
    have hg3 : w2.heap.size ≤ g3 ∧ g3 < w3.heap.size := hr3.lt g3 rfl
    go_wp2_with (fail)
    refine (markIntS_any _ n0 _ w2.heap.size _ 1 hrx7 (by omega) (by omega) (by omega)).mono ?_
    rintro e w8 ⟨rfl, hrx, hm8⟩
    have hE8 : Ext w w8 := hE7.of_grownAt hm8 (fun k hk => by simp [Value.ownBlock] at hk; omega)
    have hrw8 := row_below (B := w2.heap.size) hrw7 hlw hm8 (fun k hk => by simp [Value.ownBlock] at hk; omega)
    have hrg8 := row_above hrg7 hm8 (fun k hk => by simp [Value.ownBlock] at hk; omega)
    clear hb1 hb2 hb3 hb4 hb5 hb6 hb7 hE7 hr1 hr3 hr6 hrx hrw hrg hrw7 hrg7 hrx7
    go_wp2_with (fail)
    refine (eqIntS_same _ _ L.length L _ (row_ints (row_ext hrg8 (by repeat (first | exact Ext.refl _ | assumption | refine Ext.alloc ?_ _ | refine Ext.drew ?_ | refine Ext.drewN ?_ _ | refine Ext.setCell ?_ (by first | exact Nat.le_refl _ | (simp; done) | (dsimp only; omega) | (simp only [World.size_alloc, World.size_setCell]; omega)) _ | refine Ext.trans ?_ (by assumption)))) (by unfold maxLen; omega) HLW.out) (row_ints (row_ext hrw8 (by repeat (first | exact Ext.refl _ | assumption | refine Ext.alloc ?_ _ | refine Ext.drew ?_ | refine Ext.drewN ?_ _ | refine Ext.setCell ?_ (by first | exact Nat.le_refl _ | (simp; done) | (dsimp only; omega) | (simp only [World.size_alloc, World.size_setCell]; omega)) _ | refine Ext.trans ?_ (by assumption)))) (by unfold maxLen; omega) HLW.out)).mono ?_
    rintro e w9 ⟨rfl, hb9⟩
    have hrg9 := row_ext hrg8 hb9
    have hrw9 := row_ext hrw8 hb9
    have hE9 : Ext w w9 := hE8.trans hb9
    have hlg : ∀ k, vg.ownBlock = some k → w3.heap.size ≤ k := fun k hk => (hrg9.lt k hk).1
    go_wp2_with (fail)
    refine (markIntS_any _ _ _ w3.heap.size _ 1 hrg9 (by omega) (by omega) (by omega)).mono ?_
    rintro e w10 ⟨rfl, hrm, hm10⟩
    have hE10 : Ext w w10 := hE9.of_grownAt hm10 (fun k hk => by have := hlg k hk; omega)
    have hrw10 := row_below (B := w2.heap.size) hrw9 hlw hm10 (fun k hk => by have := hlg k hk; omega)
    clear hb9 hE8 hE9 hrg8 hrw8 hrg9 hrw9
    go_wp2_with (fail)
    refine (heldIntS_same _ L.length _ 1 (row_ints (row_ext hrm (by repeat (first | exact Ext.refl _ | assumption | refine Ext.alloc ?_ _ | refine Ext.drew ?_ | refine Ext.drewN ?_ _ | refine Ext.setCell ?_ (by first | exact Nat.le_refl _ | (simp; done) | (dsimp only; omega) | (simp only [World.size_alloc, World.size_setCell]; omega)) _ | refine Ext.trans ?_ (by assumption)))) (by unfold maxLen; omega) (marks_wf (by omega) (by omega))) (by omega) (by omega) (by omega)).mono ?_
    rintro e w11 ⟨rfl, hb11⟩
    go_wp2_with (fail)
    refine (toIntS_any _ n0 z0 _ (r0.ext (by repeat (first | exact Ext.refl _ | assumption | refine Ext.alloc ?_ _ | refine Ext.drew ?_ | refine Ext.drewN ?_ _ | refine Ext.setCell ?_ (by first | exact Nat.le_refl _ | (simp; done) | (dsimp only; omega) | (simp only [World.size_alloc, World.size_setCell]; omega)) _ | refine Ext.trans ?_ (by assumption)))) hn).mono ?_
    rintro e w12 ⟨g12, rfl, hr12, hb12⟩
    go_wp2_with (fail)
    refine (iKnownAfter_any a0 a1 _ n0 z0 a3 _ (row_ints (row_ext hr12 (by repeat (first | exact Ext.refl _ | assumption | refine Ext.alloc ?_ _ | refine Ext.drew ?_ | refine Ext.drewN ?_ _ | refine Ext.setCell ?_ (by first | exact Nat.le_refl _ | (simp; done) | (dsimp only; omega) | (simp only [World.size_alloc, World.size_setCell]; omega)) _ | refine Ext.trans ?_ (by assumption)))) (by unfold maxLen; omega) hwf)).mono ?_
    rintro e w13 ⟨vh, rfl, hrh, hb13⟩
    rw [← hL] at hrh
    go_wp2_with (fail)
    refine (eqIntS_same _ _ L.length L _ (row_ints (row_ext hrh (by repeat (first | exact Ext.refl _ | assumption | refine Ext.alloc ?_ _ | refine Ext.drew ?_ | refine Ext.drewN ?_ _ | refine Ext.setCell ?_ (by first | exact Nat.le_refl _ | (simp; done) | (dsimp only; omega) | (simp only [World.size_alloc, World.size_setCell]; omega)) _ | refine Ext.trans ?_ (by assumption)))) (by unfold maxLen; omega) HLW.out) (row_ints (row_ext hrw10 (by repeat (first | exact Ext.refl _ | assumption | refine Ext.alloc ?_ _ | refine Ext.drew ?_ | refine Ext.drewN ?_ _ | refine Ext.setCell ?_ (by first | exact Nat.le_refl _ | (simp; done) | (dsimp only; omega) | (simp only [World.size_alloc, World.size_setCell]; omega)) _ | refine Ext.trans ?_ (by assumption)))) (by unfold maxLen; omega) HLW.out)).mono ?_
    rintro e w14 ⟨rfl, hb14⟩
    go_wp2_with (fail)
    refine (heldIntS_same _ L.length _ 1 (row_ints (row_ext hrm (by repeat (first | exact Ext.refl _ | assumption | refine Ext.alloc ?_ _ | refine Ext.drew ?_ | refine Ext.drewN ?_ _ | refine Ext.setCell ?_ (by first | exact Nat.le_refl _ | (simp; done) | (dsimp only; omega) | (simp only [World.size_alloc, World.size_setCell]; omega)) _ | refine Ext.trans ?_ (by assumption)))) (by unfold maxLen; omega) (marks_wf (by omega) (by omega))) (by omega) (by omega) (by omega)).mono ?_
    rintro e w15 ⟨rfl, hb15⟩
    go_wp2_with (fail)
    go_ret
    exact ⟨rfl, (by repeat (first | exact Ext.refl _ | assumption | refine Ext.alloc ?_ _ | refine Ext.drew ?_ | refine Ext.drewN ?_ _ | refine Ext.setCell ?_ (by first | exact Nat.le_refl _ | (simp; done) | (dsimp only; omega) | (simp only [World.size_alloc, World.size_setCell]; omega)) _ | refine Ext.trans ?_ (by assumption)))⟩
  · have hnd : decide ((1048576 : Int) < n0) = true := decide_eq_true (by omega)
    go_enter Try.func7, Try.ntmps7
    go_wp2_with (fail)
    go_ret
    exact ⟨rfl, Ext.refl _⟩


end Go.Proofs.Ytmmmiccpimplhaa