/- The program's ShiftsText returns what the reference's returns. Condition: the library's table of powers of ten lies as its text lays it. -/
import Derived.Test.YtedkffdkhnfoiaaDoorStB
namespace Go.Proofs.YtedkffdkhnfoiaaDoor
open Go.RowKit
set_option linter.unusedSimpArgs false
set_option linter.unusedVariables false

set_option maxRecDepth 100000 in
set_option maxHeartbeats 2000000 in
theorem walkFnExactShiftsText (v0 : Value) (n0 : Nat) (z0 : List Int) (w : World) (r0 : IntRow .i64 3 w v0 n0 z0) (ht : PowTab w) :
    Calls Tryd.prog 4 #[v0] w fun e w' => e = .returned (.bool true) ∧ Ext w w' := by
  have hsz := szShiftS_any v0 n0 z0 w 1048576 r0 (by omega) (by omega)
  have HPT := hid ht
  clear ht
  by_cases hn : n0 ≤ 1048576
  · rw [if_pos (by omega)] at hsz
    have hwf := r0.2.2.1
    have hcS := sShiftsText_any v0 n0 z0
    obtain ⟨TX, hTX⟩ : ∃ t, t = stS z0 n0 := ⟨_, rfl⟩
    obtain ⟨OK, hOK⟩ : ∃ t, t = okSs z0 n0 := ⟨_, rfl⟩
    have HTX := hid hTX
    have HOK := hid hOK
    clear hTX hOK hcS
    go_enter Tryd.func4, Tryd.ntmps4
    go_wp2_with (fail)
    refine hsz.mono ?_
    rintro e w' ⟨rfl, rfl⟩
    go_wp2_with (fail)
    refine (toShiftS_any _ n0 z0 _ (r0.ext (by repeat (first | exact Ext.refl _ | assumption | refine Ext.alloc ?_ _ | refine Ext.drew ?_ | refine Ext.drewN ?_ _ | refine Ext.setCell ?_ (by first | exact Nat.le_refl _ | (simp; done) | (dsimp only; omega) | (simp only [World.size_alloc, World.size_setCell]; omega)) _ | refine Ext.trans ?_ (by assumption)))) hn).mono ?_
    rintro e w1 ⟨g1, rfl, hr1, hb1⟩
    go_wp2_with (fail)
    refine (sShiftsText_any _ n0 z0 _ (row_ints (row_ext hr1 (by repeat (first | exact Ext.refl _ | assumption | refine Ext.alloc ?_ _ | refine Ext.drew ?_ | refine Ext.drewN ?_ _ | refine Ext.setCell ?_ (by first | exact Nat.le_refl _ | (simp; done) | (dsimp only; omega) | (simp only [World.size_alloc, World.size_setCell]; omega)) _ | refine Ext.trans ?_ (by assumption)))) (by unfold maxLen; omega) hwf)).mono ?_
    rw [← HTX.out, ← HOK.out]
    rintro e w2 ⟨rfl, hb2⟩
    go_wp2_with (fail)
    refine (toShiftS_any _ n0 z0 _ (r0.ext (by repeat (first | exact Ext.refl _ | assumption | refine Ext.alloc ?_ _ | refine Ext.drew ?_ | refine Ext.drewN ?_ _ | refine Ext.setCell ?_ (by first | exact Nat.le_refl _ | (simp; done) | (dsimp only; omega) | (simp only [World.size_alloc, World.size_setCell]; omega)) _ | refine Ext.trans ?_ (by assumption)))) hn).mono ?_
    rintro e w3 ⟨g3, rfl, hr3, hb3⟩
    go_wp2_with (fail)
    refine (iShiftsText_any _ n0 z0 _ (row_ints (row_ext hr3 (by repeat (first | exact Ext.refl _ | assumption | refine Ext.alloc ?_ _ | refine Ext.drew ?_ | refine Ext.drewN ?_ _ | refine Ext.setCell ?_ (by first | exact Nat.le_refl _ | (simp; done) | (dsimp only; omega) | (simp only [World.size_alloc, World.size_setCell]; omega)) _ | refine Ext.trans ?_ (by assumption)))) (by unfold maxLen; omega) hwf) (HPT.out.ext (by repeat (first | exact Ext.refl _ | assumption | refine Ext.alloc ?_ _ | refine Ext.drew ?_ | refine Ext.drewN ?_ _ | refine Ext.setCell ?_ (by first | exact Nat.le_refl _ | (simp; done) | (dsimp only; omega) | (simp only [World.size_alloc, World.size_setCell]; omega)) _ | refine Ext.trans ?_ (by assumption))))).mono ?_
    rw [← HTX.out, ← HOK.out]
    rintro e w4 ⟨rfl, hb4⟩
    go_wp2_with (fail)
    refine (toShiftS_any _ n0 z0 _ (r0.ext (by repeat (first | exact Ext.refl _ | assumption | refine Ext.alloc ?_ _ | refine Ext.drew ?_ | refine Ext.drewN ?_ _ | refine Ext.setCell ?_ (by first | exact Nat.le_refl _ | (simp; done) | (dsimp only; omega) | (simp only [World.size_alloc, World.size_setCell]; omega)) _ | refine Ext.trans ?_ (by assumption)))) hn).mono ?_
    rintro e w5 ⟨g5, rfl, hr5, hb5⟩
    go_wp2_with (fail)
    refine (eqShiftS_same _ _ n0 z0 _ (row_ints (row_ext hr3 (by repeat (first | exact Ext.refl _ | assumption | refine Ext.alloc ?_ _ | refine Ext.drew ?_ | refine Ext.drewN ?_ _ | refine Ext.setCell ?_ (by first | exact Nat.le_refl _ | (simp; done) | (dsimp only; omega) | (simp only [World.size_alloc, World.size_setCell]; omega)) _ | refine Ext.trans ?_ (by assumption)))) (by unfold maxLen; omega) hwf) (row_ints (row_ext hr5 (by repeat (first | exact Ext.refl _ | assumption | refine Ext.alloc ?_ _ | refine Ext.drew ?_ | refine Ext.drewN ?_ _ | refine Ext.setCell ?_ (by first | exact Nat.le_refl _ | (simp; done) | (dsimp only; omega) | (simp only [World.size_alloc, World.size_setCell]; omega)) _ | refine Ext.trans ?_ (by assumption)))) (by unfold maxLen; omega) hwf)).mono ?_
    rintro e w6 ⟨rfl, hb6⟩
    go_wp2_with (fail)
    go_ret
    exact ⟨rfl, (by repeat (first | exact Ext.refl _ | assumption | refine Ext.alloc ?_ _ | refine Ext.drew ?_ | refine Ext.drewN ?_ _ | refine Ext.setCell ?_ (by first | exact Nat.le_refl _ | (simp; done) | (dsimp only; omega) | (simp only [World.size_alloc, World.size_setCell]; omega)) _ | refine Ext.trans ?_ (by assumption)))⟩
  · rw [if_neg (by omega)] at hsz
    go_enter Tryd.func4, Tryd.ntmps4
    go_wp2_with (fail)
    refine hsz.mono ?_
    rintro e w' ⟨rfl, rfl⟩
    go_wp2_with (fail)
    go_ret
    exact ⟨rfl, Ext.refl _⟩
end Go.Proofs.YtedkffdkhnfoiaaDoor