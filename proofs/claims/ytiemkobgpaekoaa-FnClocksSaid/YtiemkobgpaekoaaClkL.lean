/- The law of offsets: bounds are as wide as what is unknown, and surely before is so for all offsets. No condition. -/
import Derived.Test.YtiemkobgpaekoaaClkK
import Derived.Test.YtiemkobgpaekoaaClkE
namespace Go.Proofs.Ytiemkobgpaekoaa
open Go.RowKit
set_option linter.unusedSimpArgs false
set_option linter.unusedVariables false

def agg2 (P Q : Int) : Value := .agg #[.int .i64 P, .int .i64 Q]
theorem sigPair (x y z u : Int) : ∃ (P Q : Int) (b : Bool), (∀ w, Calls Try.prog 33 #[.int .i64 x, .int .i64 y, .int .i64 z, .int .i64 u] w fun e w' => e = .returned (.tuple #[.agg #[.int .i64 P, .int .i64 Q], .bool b]) ∧ Ext w w') ∧
    (∀ w, Calls Try.prog 32 #[.int .i64 x, .int .i64 y, .int .i64 z, .int .i64 u] w fun e w' => e = .returned (.tuple #[.agg #[.int .i64 P, .int .i64 Q], .bool b]) ∧ Ext w w') ∧ (b = true → bnd P Q = true ∧ IntKind.i64.wrap (u - z) = Q - P) := by
  refine ⟨_, _, _, fun w => iSetBySignal_any x y z u w, fun w => sSetBySignal_any x y z u w, fun h => ?_⟩
  rw [Bool.and_eq_true] at h
  obtain ⟨h1, h2⟩ := h
  rw [h1, h2, okV_t, okV_t, okV_t, okV_t]
  rw [Bool.and_eq_true, sigB_iff] at h1
  refine ⟨h2, ?_⟩
  rw [IntWalk.i64_in _ (by omega)]
  omega
theorem ansPair (x y z : Int) : ∃ (P Q : Int) (b : Bool), (∀ w, Calls Try.prog 31 #[.int .i64 x, .int .i64 y, .int .i64 z] w fun e w' => e = .returned (.tuple #[.agg #[.int .i64 P, .int .i64 Q], .bool b]) ∧ Ext w w') ∧
    (∀ w, Calls Try.prog 30 #[.int .i64 x, .int .i64 y, .int .i64 z] w fun e w' => e = .returned (.tuple #[.agg #[.int .i64 P, .int .i64 Q], .bool b]) ∧ Ext w w') ∧ (b = true → bnd P Q = true ∧ IntKind.i64.wrap (z - x) = Q - P) := by
  refine ⟨_, _, _, fun w => iSetByAnswer_any x y z w, fun w => sSetByAnswer_any x y z w, fun h => ?_⟩
  rw [Bool.and_eq_true] at h
  obtain ⟨h1, h2⟩ := h
  rw [h1, h2, okV_t, okV_t, okV_t, okV_t]
  rw [Bool.and_eq_true, Bool.and_eq_true, Bool.and_eq_true, inR_iff, inR_iff, inR_iff, leB_iff] at h1
  refine ⟨h2, ?_⟩
  rw [IntWalk.i64_in _ (by omega)]
  omega
theorem widT {P Q : Int} (h : bnd P Q = true) (w : World) : Calls Try.prog 20 #[.agg #[.int .i64 P, .int .i64 Q]] w fun e w' => e = .returned (.tuple #[.int .i64 (Q - P), .bool true]) ∧ Ext w w' := by
  have := iWidthOf_any P Q w
  rw [h, okV_t] at this
  exact this
theorem surPair (x y t u : Int) : ∃ (r b : Bool), (∀ w, Calls Try.prog 22 #[.agg #[.int .i64 x, .int .i64 y], .int .i64 t, .int .i64 u] w fun e w' => e = .returned (.tuple #[.bool r, .bool b]) ∧ Ext w w') ∧
    (∀ w, Calls Try.prog 21 #[.agg #[.int .i64 x, .int .i64 y], .int .i64 t, .int .i64 u] w fun e w' => e = .returned (.tuple #[.bool r, .bool b]) ∧ Ext w w') ∧ (b = true → (bnd x y && inR t 0 100000) = true ∧ r = decide (t - x < u)) := by
  refine ⟨_, _, fun w => iSurelyBefore_any x y t u w, fun w => sSurelyBefore_any x y t u w, fun h => ?_⟩
  rw [h]
  rw [Bool.and_eq_true] at h
  exact ⟨h.1, by simp⟩
theorem timPair {x y t : Int} (h : (bnd x y && inR t 0 100000) = true) : (∀ w, Calls Try.prog 24 #[.agg #[.int .i64 x, .int .i64 y], .int .i64 t] w fun e w' => e = .returned (.tuple #[.int .i64 (t - y), .int .i64 (t - x), .bool true]) ∧ Ext w w') ∧
    (∀ w, Calls Try.prog 23 #[.agg #[.int .i64 x, .int .i64 y], .int .i64 t] w fun e w' => e = .returned (.tuple #[.int .i64 (t - y), .int .i64 (t - x), .bool true]) ∧ Ext w w') := by
  refine ⟨fun w => ?_, fun w => ?_⟩
  · have := iTimesAt_any x y t w
    rw [h, okV_t, okV_t] at this
    exact this
  · have := sTimesAt_any x y t w
    rw [h, okV_t, okV_t] at this
    exact this
/-- what a number of seconds to a width is -/
theorem secs_prop {lo hi drift width : Int} (k1 : 0 ≤ drift) (hw : hi - lo ≤ width) : 0 ≤ secs lo hi drift width ∧ secs lo hi drift width ≤ 100000 ∧ hi - lo + 2 * ageI drift (secs lo hi drift width) ≤ width ∧ (secs lo hi drift width < 100000 → width < hi - lo + 2 * ageI drift (secs lo hi drift width + 1)) := by
  obtain ⟨b, h1, h2, h3, h4⟩ := bestAt_some (hi - lo) drift width hw 101
  rw [← bestAt_secs lo hi drift width hw k1, h1]
  have e1 : ageI drift (1000 * (b : Int)) = drift * b := by unfold ageI; rw [show (1000 * (b : Int) + 999) / 1000 = b by omega]
  have e2 : ageI drift (1000 * (b : Int) + 1) = drift * ((b + 1 : Nat) : Int) := by unfold ageI; rw [show (1000 * (b : Int) + 1 + 999) / 1000 = ((b + 1 : Nat) : Int) by omega]
  refine ⟨by omega, by omega, by rw [e1]; exact h3, fun hlt => ?_⟩
  rw [e2]
  rcases Int.lt_or_le width (hi - lo + 2 * (drift * ((b + 1 : Nat) : Int))) with h | h
  · exact h
  · have := h4 (b + 1) (by omega) h
    omega
theorem secPair (x y d v : Int) : ∃ (s : Int) (b : Bool), (∀ w, Calls Try.prog 29 #[.agg #[.int .i64 x, .int .i64 y], .int .i64 d, .int .i64 v] w fun e w' => e = .returned (.tuple #[.int .i64 s, .bool b]) ∧ Ext w w') ∧
    (∀ w, Calls Try.prog 28 #[.agg #[.int .i64 x, .int .i64 y], .int .i64 d, .int .i64 v] w fun e w' => e = .returned (.tuple #[.int .i64 s, .bool b]) ∧ Ext w w') ∧ (b = true → (0 ≤ s ∧ s ≤ 100000) ∧ y - x + 2 * ageI d s ≤ v ∧ (s < 100000 → v < y - x + 2 * ageI d (s + 1))) := by
  refine ⟨_, _, fun w => iSecondsToWidth_any x y d v w, fun w => sSecondsToWidth_any x y d v w, fun h => ?_⟩
  rw [h, okV_t]
  rw [Bool.and_eq_true, Bool.and_eq_true, Bool.and_eq_true, inR_iff, inR_iff, leB_iff] at h
  obtain ⟨h1, h2, h3, h4⟩ := secs_prop (lo := x) (hi := y) (drift := d) (width := v) (by omega) (by omega)
  exact ⟨⟨h1, h2⟩, h3, h4⟩
theorem ageT (x y d s : Int) : ∃ (P Q : Int) (b : Bool), (∀ w, Calls Try.prog 35 #[.agg #[.int .i64 x, .int .i64 y], .int .i64 d, .int .i64 s] w fun e w' => e = .returned (.tuple #[.agg #[.int .i64 P, .int .i64 Q], .bool b]) ∧ Ext w w') ∧
    (b = true → bnd P Q = true ∧ Q - P = y - x + 2 * ageI d s) := by
  refine ⟨_, _, _, fun w => iAgedBound_any x y d s w, fun h => ?_⟩
  rw [Bool.and_eq_true] at h
  obtain ⟨h1, h2⟩ := h
  rw [h1, h2, okV_t, okV_t, okV_t, okV_t]
  exact ⟨h2, by omega⟩

set_option maxRecDepth 100000 in
set_option maxHeartbeats 8000000 in
theorem walkFnOffsets (v0 : Value) (n0 : Nat) (z0 : List Int) (v1 : Value) (n1 : Nat) (z1 : List Int) (w : World) (r0 : IntRow .u8 1 w v0 n0 z0) (r1 : IntRow .u8 1 w v1 n1 z1) :
    Calls Try.prog 14 #[v0, v1] w fun e w' => e = .returned (.bool true) ∧ Ext w w' := by
  go_enter Try.func14, Try.ntmps14
  go_wp2_with (fail)
  refine (big_any v0 n0 z0 v1 n1 z1 w r0 r1).mono ?_
  rintro e w0 ⟨bg, rfl, hbg, rfl⟩
  cases bg
  case true =>
    go_wp2_with (fail)
    go_ret
    exact ⟨rfl, Ext.refl _⟩
  case false =>
  obtain ⟨hn0, hn1⟩ := hbg rfl
  have E : Ext w w := Ext.refl w
  go_wp2_with (fail)
  refine (drawSignal v0 n0 z0 _ r0 hn0).mono ?_
  rintro e w1 ⟨x, y, z, u, rfl, k1⟩
  replace E := E.trans k1
  clear k1
  obtain ⟨P, Q, sb, c1, c2, hs⟩ := sigPair x y z u
  go_wp2_with (fail)
  refine (c1 _).mono ?_
  rintro e w2 ⟨rfl, k2⟩
  replace E := E.trans k2
  clear k2
  have T9 := Two.new w2 P Q
  go_wp2_with (fail)
  replace E := E.trans ((by repeat (first | exact Ext.refl _ | assumption | refine Ext.alloc ?_ _ | refine Ext.drew ?_ | refine Ext.drewN ?_ _ | refine Ext.setCell ?_ (by first | exact Nat.le_refl _ | (simp; done) | (dsimp only; omega) | (simp only [World.size_alloc, World.size_setCell]; omega)) _ | refine Ext.trans ?_ (by assumption))) : Ext w2 (w2.alloc (.cells #[.int .i64 P, .int .i64 Q] 25)))
  obtain ⟨bT9, hbT9⟩ : ∃ b, b = w2.heap.size := ⟨_, rfl⟩
  rw [← hbT9] at T9 ⊢
  clear hbT9
  generalize (w2.alloc (.cells #[.int .i64 P, .int .i64 Q] 25)) = w4 at T9 E ⊢
  have T9a := T9.1
  have T9b := T9.2.1
  have T9c := T9.2.2.2.2
  refine (c2 _).mono ?_
  rintro e w3 ⟨rfl, k3⟩
  clear T9a T9b T9c
  replace E := E.trans k3
  replace T9 := T9.ext k3
  clear k3
  have T9a := T9.1
  have T9b := T9.2.1
  have T9c := T9.2.2.2.2
  have T11 := Two.new w3 P Q
  go_upto_if 86 with (fail)
  replace T9 := T9.ext ((by repeat (first | exact Ext.refl _ | assumption | refine Ext.alloc ?_ _ | refine Ext.drew ?_ | refine Ext.drewN ?_ _ | refine Ext.setCell ?_ (by first | exact Nat.le_refl _ | (simp; done) | (dsimp only; omega) | (simp only [World.size_alloc, World.size_setCell]; omega)) _ | refine Ext.trans ?_ (by assumption))) : Ext w3 (w3.alloc (.cells #[.int .i64 P, .int .i64 Q] 25)))
  replace E := E.trans ((by repeat (first | exact Ext.refl _ | assumption | refine Ext.alloc ?_ _ | refine Ext.drew ?_ | refine Ext.drewN ?_ _ | refine Ext.setCell ?_ (by first | exact Nat.le_refl _ | (simp; done) | (dsimp only; omega) | (simp only [World.size_alloc, World.size_setCell]; omega)) _ | refine Ext.trans ?_ (by assumption))) : Ext w3 (w3.alloc (.cells #[.int .i64 P, .int .i64 Q] 25)))
  obtain ⟨bT11, hbT11⟩ : ∃ b, b = w3.heap.size := ⟨_, rfl⟩
  rw [← hbT11] at T11 ⊢
  clear hbT11
  clear T9a T9b T9c
  generalize (w3.alloc (.cells #[.int .i64 P, .int .i64 Q] 25)) = w5 at T9 T11 E ⊢
  have T9a := T9.1
  have T9b := T9.2.1
  have T9c := T9.2.2.2.2
  have T11a := T11.1
  have T11b := T11.2.1
  have T11c := T11.2.2.2.2
  go_cut [13, 14] from 52 to 100 (fun s13 s14 wx => Ext w wx)
  case first =>
    cases sb with
    | false =>
      clear hs
      go_wp2_with (fail)
      go_meet
      exact E
    | true =>
      obtain ⟨hb1, hw1⟩ := hs rfl
      clear hs
      go_wp2_with (fail)
      refine (widT hb1 _).mono ?_
      rintro e w6 ⟨rfl, k6⟩
      clear T9a T9b T9c T11a T11b T11c
      replace E := E.trans k6
      replace T9 := T9.ext k6
      replace T11 := T11.ext k6
      clear k6
      have T9a := T9.1
      have T9b := T9.2.1
      have T9c := T9.2.2.2.2
      have T11a := T11.1
      have T11b := T11.2.1
      have T11c := T11.2.2.2.2
      go_wp2_with (fail)
      go_meet
      exact E
  case rest =>
  clear T9a T9b T9c T11a T11b T11c
  clear E T9 T11
  have E := hcut
  clear hcut
  go_wp2_with (fail)
  refine (drawAnswer v1 n1 z1 _ (r1.ext E) hn1).mono ?_
  rintro e w8 ⟨ax, ay, az, rfl, k8⟩
  replace E := E.trans k8
  clear k8
  obtain ⟨P2, Q2, ab, c3, c4, ha⟩ := ansPair ax ay az
  go_wp2_with (fail)
  refine (c3 _).mono ?_
  rintro e w9 ⟨rfl, k9⟩
  replace E := E.trans k9
  clear k9
  have T18 := Two.new w9 P2 Q2
  go_wp2_with (fail)
  replace E := E.trans ((by repeat (first | exact Ext.refl _ | assumption | refine Ext.alloc ?_ _ | refine Ext.drew ?_ | refine Ext.drewN ?_ _ | refine Ext.setCell ?_ (by first | exact Nat.le_refl _ | (simp; done) | (dsimp only; omega) | (simp only [World.size_alloc, World.size_setCell]; omega)) _ | refine Ext.trans ?_ (by assumption))) : Ext w9 (w9.alloc (.cells #[.int .i64 P2, .int .i64 Q2] 25)))
  obtain ⟨bT18, hbT18⟩ : ∃ b, b = w9.heap.size := ⟨_, rfl⟩
  rw [← hbT18] at T18 ⊢
  clear hbT18
  generalize (w9.alloc (.cells #[.int .i64 P2, .int .i64 Q2] 25)) = w11 at T18 E ⊢
  have T18a := T18.1
  have T18b := T18.2.1
  have T18c := T18.2.2.2.2
  refine (c4 _).mono ?_
  rintro e w10 ⟨rfl, k10⟩
  clear T18a T18b T18c
  replace E := E.trans k10
  replace T18 := T18.ext k10
  clear k10
  have T18a := T18.1
  have T18b := T18.2.1
  have T18c := T18.2.2.2.2
  have T20 := Two.new w10 P2 Q2
  go_upto_if 129 with (fail)
  replace T18 := T18.ext ((by repeat (first | exact Ext.refl _ | assumption | refine Ext.alloc ?_ _ | refine Ext.drew ?_ | refine Ext.drewN ?_ _ | refine Ext.setCell ?_ (by first | exact Nat.le_refl _ | (simp; done) | (dsimp only; omega) | (simp only [World.size_alloc, World.size_setCell]; omega)) _ | refine Ext.trans ?_ (by assumption))) : Ext w10 (w10.alloc (.cells #[.int .i64 P2, .int .i64 Q2] 25)))
  replace E := E.trans ((by repeat (first | exact Ext.refl _ | assumption | refine Ext.alloc ?_ _ | refine Ext.drew ?_ | refine Ext.drewN ?_ _ | refine Ext.setCell ?_ (by first | exact Nat.le_refl _ | (simp; done) | (dsimp only; omega) | (simp only [World.size_alloc, World.size_setCell]; omega)) _ | refine Ext.trans ?_ (by assumption))) : Ext w10 (w10.alloc (.cells #[.int .i64 P2, .int .i64 Q2] 25)))
  obtain ⟨bT20, hbT20⟩ : ∃ b, b = w10.heap.size := ⟨_, rfl⟩
  rw [← hbT20] at T20 ⊢
  clear hbT20
  clear T18a T18b T18c
  generalize (w10.alloc (.cells #[.int .i64 P2, .int .i64 Q2] 25)) = w12 at T18 T20 E ⊢
  have T18a := T18.1
  have T18b := T18.2.1
  have T18c := T18.2.2.2.2
  have T20a := T20.1
  have T20b := T20.2.1
  have T20c := T20.2.2.2.2
  go_cut [22, 23] from 101 to 143 (fun s22 s23 wx => Ext w wx)
  case first =>
    cases ab with
    | false =>
      clear ha
      go_wp2_with (fail)
      go_meet
      exact E
    | true =>
      obtain ⟨hb2, hw2⟩ := ha rfl
      clear ha
      go_wp2_with (fail)
      refine (widT hb2 _).mono ?_
      rintro e w13 ⟨rfl, k13⟩
      clear T18a T18b T18c T20a T20b T20c
      replace E := E.trans k13
      replace T18 := T18.ext k13
      replace T20 := T20.ext k13
      clear k13
      have T18a := T18.1
      have T18b := T18.2.1
      have T18c := T18.2.2.2.2
      have T20a := T20.1
      have T20b := T20.2.1
      have T20c := T20.2.2.2.2
      go_wp2_with (fail)
      go_meet
      exact E
  case rest =>
  clear T18a T18b T18c T20a T20b T20c
  clear E T18 T20
  have E := hcut
  clear hcut
  go_wp2_with (fail)
  refine (drawSurely v1 n1 z1 _ (r1.ext E) hn1).mono ?_
  rintro e w15 ⟨ux, uy, ut, uu, rfl, k15⟩
  replace E := E.trans k15
  clear k15
  have T24 := Two.new w15 ux uy
  obtain ⟨rs, rb, c5, c6, hr⟩ := surPair ux uy ut uu
  go_wp2_with (fail)
  replace E := E.trans ((by repeat (first | exact Ext.refl _ | assumption | refine Ext.alloc ?_ _ | refine Ext.drew ?_ | refine Ext.drewN ?_ _ | refine Ext.setCell ?_ (by first | exact Nat.le_refl _ | (simp; done) | (dsimp only; omega) | (simp only [World.size_alloc, World.size_setCell]; omega)) _ | refine Ext.trans ?_ (by assumption))) : Ext w15 (w15.alloc (.cells #[.int .i64 ux, .int .i64 uy] 25)))
  obtain ⟨bT24, hbT24⟩ : ∃ b, b = w15.heap.size := ⟨_, rfl⟩
  rw [← hbT24] at T24 ⊢
  clear hbT24
  generalize (w15.alloc (.cells #[.int .i64 ux, .int .i64 uy] 25)) = w17 at T24 E ⊢
  have T24a := T24.1
  have T24b := T24.2.1
  have T24c := T24.2.2.2.2
  refine (c5 _).mono ?_
  rintro e w16 ⟨rfl, k16⟩
  clear T24a T24b T24c
  replace E := E.trans k16
  replace T24 := T24.ext k16
  clear k16
  have T24a := T24.1
  have T24b := T24.2.1
  have T24c := T24.2.2.2.2
  go_wp2_with (fail)
  refine (c6 _).mono ?_
  rintro e w18 ⟨rfl, k18⟩
  clear T24a T24b T24c
  replace E := E.trans k18
  replace T24 := T24.ext k18
  clear k18
  have T24a := T24.1
  have T24b := T24.2.1
  have T24c := T24.2.2.2.2
  go_upto_if 172 with (fail)
  go_cut [31, 32, 33, 34, 35, 36] from 144 to 220 (fun s31 s32 s33 s34 s35 s36 wx => Ext w wx)
  case first =>
    cases rb with
    | false =>
      clear hr
      go_wp2_with (fail)
      go_meet
      exact E
    | true =>
      obtain ⟨hr1, hr2⟩ := hr rfl
      obtain ⟨d1, d2⟩ := timPair hr1
      rw [Bool.and_eq_true, bnd_iff, inR_iff] at hr1
      have HR2 := hid hr2.symm
      clear hr2
      go_wp2_with (fail)
      refine (d1 _).mono ?_
      rintro e w19 ⟨rfl, k19⟩
      clear T24a T24b T24c
      replace E := E.trans k19
      replace T24 := T24.ext k19
      clear k19
      have T24a := T24.1
      have T24b := T24.2.1
      have T24c := T24.2.2.2.2
      go_wp2_with (fail)
      refine (d2 _).mono ?_
      rintro e w20 ⟨rfl, k20⟩
      clear T24a T24b T24c
      replace E := E.trans k20
      replace T24 := T24.ext k20
      clear k20
      have T24a := T24.1
      have T24b := T24.2.1
      have T24c := T24.2.2.2.2
      have hw3 : IntKind.i64.wrap (ut - ux - (ut - uy)) = uy - ux := by rw [IntWalk.i64_in _ (by omega)]; omega
      have hw4 : IntKind.i64.wrap (uy - ux) = uy - ux := IntWalk.i64_in _ (by omega)
      clear hr
      have hr2 := HR2.out
      go_wp2_with (fail)
      go_meet
      exact E
  case rest =>
  clear T24a T24b T24c
  clear E T24
  have E := hcut
  clear hcut
  go_wp2_with (fail)
  refine (drawWidth v1 n1 z1 _ (r1.ext E) hn1).mono ?_
  rintro e w22 ⟨sx, sy, d, v, rfl, _, k22⟩
  replace E := E.trans k22
  clear k22
  have T37 := Two.new w22 sx sy
  obtain ⟨s, qb, c7, c8, hq⟩ := secPair sx sy d v
  go_wp2_with (fail)
  replace E := E.trans ((by repeat (first | exact Ext.refl _ | assumption | refine Ext.alloc ?_ _ | refine Ext.drew ?_ | refine Ext.drewN ?_ _ | refine Ext.setCell ?_ (by first | exact Nat.le_refl _ | (simp; done) | (dsimp only; omega) | (simp only [World.size_alloc, World.size_setCell]; omega)) _ | refine Ext.trans ?_ (by assumption))) : Ext w22 (w22.alloc (.cells #[.int .i64 sx, .int .i64 sy] 25)))
  obtain ⟨bT37, hbT37⟩ : ∃ b, b = w22.heap.size := ⟨_, rfl⟩
  rw [← hbT37] at T37 ⊢
  clear hbT37
  generalize (w22.alloc (.cells #[.int .i64 sx, .int .i64 sy] 25)) = w24 at T37 E ⊢
  have T37a := T37.1
  have T37b := T37.2.1
  have T37c := T37.2.2.2.2
  refine (c7 _).mono ?_
  rintro e w23 ⟨rfl, k23⟩
  clear T37a T37b T37c
  replace E := E.trans k23
  replace T37 := T37.ext k23
  clear k23
  have T37a := T37.1
  have T37b := T37.2.1
  have T37c := T37.2.2.2.2
  go_wp2_with (fail)
  refine (c8 _).mono ?_
  rintro e w25 ⟨rfl, k25⟩
  clear T37a T37b T37c
  replace E := E.trans k25
  replace T37 := T37.ext k25
  clear k25
  have T37a := T37.1
  have T37b := T37.2.1
  have T37c := T37.2.2.2.2
  go_upto_if 249 with (fail)
  cases qb with
  | false =>
    clear hq
    go_wp2_with (fail)
    go_ret
    exact ⟨rfl, E⟩
  | true =>
  obtain ⟨⟨hs0, hs1⟩, hs2, hs3⟩ := hq rfl
  clear hq
  obtain ⟨P3, Q3, ab3, c9, hab3⟩ := ageT sx sy d s
  go_wp2_with (fail)
  refine (c9 _).mono ?_
  rintro e w26 ⟨rfl, k26⟩
  clear T37a T37b T37c
  replace E := E.trans k26
  replace T37 := T37.ext k26
  clear k26
  have T37a := T37.1
  have T37b := T37.2.1
  have T37c := T37.2.2.2.2
  have T44 := Two.new w26 P3 Q3
  go_upto_if 257 with (fail)
  replace T37 := T37.ext ((by repeat (first | exact Ext.refl _ | assumption | refine Ext.alloc ?_ _ | refine Ext.drew ?_ | refine Ext.drewN ?_ _ | refine Ext.setCell ?_ (by first | exact Nat.le_refl _ | (simp; done) | (dsimp only; omega) | (simp only [World.size_alloc, World.size_setCell]; omega)) _ | refine Ext.trans ?_ (by assumption))) : Ext w26 (w26.alloc (.cells #[.int .i64 P3, .int .i64 Q3] 25)))
  replace E := E.trans ((by repeat (first | exact Ext.refl _ | assumption | refine Ext.alloc ?_ _ | refine Ext.drew ?_ | refine Ext.drewN ?_ _ | refine Ext.setCell ?_ (by first | exact Nat.le_refl _ | (simp; done) | (dsimp only; omega) | (simp only [World.size_alloc, World.size_setCell]; omega)) _ | refine Ext.trans ?_ (by assumption))) : Ext w26 (w26.alloc (.cells #[.int .i64 P3, .int .i64 Q3] 25)))
  obtain ⟨bT44, hbT44⟩ : ∃ b, b = w26.heap.size := ⟨_, rfl⟩
  rw [← hbT44] at T44 ⊢
  clear hbT44
  clear T37a T37b T37c
  generalize (w26.alloc (.cells #[.int .i64 P3, .int .i64 Q3] 25)) = w27 at T37 T44 E ⊢
  have T37a := T37.1
  have T37b := T37.2.1
  have T37c := T37.2.2.2.2
  have T44a := T44.1
  have T44b := T44.2.1
  have T44c := T44.2.2.2.2
  go_cut [46, 47] from 221 to 269 (fun s46 s47 wx => Ext w wx ∧ Two wx bT37 sx sy)
  case first =>
    cases ab3 with
    | false =>
      clear hab3
      go_wp2_with (fail)
      go_meet
      exact ⟨E, T37⟩
    | true =>
      obtain ⟨hb3, he3⟩ := hab3 rfl
      have t3 : decide (v < Q3 - P3) = false := by simp; omega
      clear hab3
      go_wp2_with (fail)
      refine (widT hb3 _).mono ?_
      rintro e w28 ⟨rfl, k28⟩
      clear T37a T37b T37c T44a T44b T44c
      replace E := E.trans k28
      replace T37 := T37.ext k28
      replace T44 := T44.ext k28
      clear k28
      have T37a := T37.1
      have T37b := T37.2.1
      have T37c := T37.2.2.2.2
      have T44a := T44.1
      have T44b := T44.2.1
      have T44c := T44.2.2.2.2
      go_wp2_with (fail)
      go_meet
      exact ⟨E, T37⟩
  case rest =>
  clear T37a T37b T37c T44a T44b T44c
  clear E T37 T44
  obtain ⟨E, T37⟩ := hcut
  have T37a := T37.1
  have T37b := T37.2.1
  have T37c := T37.2.2.2.2
  by_cases hlt : s < 100000
  · have tl : decide (s < 100000) = true := by simpa using hlt
    have hs5 := hs3 hlt
    have hw5 : IntKind.i64.wrap (s + 1) = s + 1 := IntWalk.i64_in _ (by omega)
    clear hs3 hlt
    obtain ⟨P4, Q4, ab4, c10, hab4⟩ := ageT sx sy d (s + 1)
    go_wp2_with (fail)
    refine (c10 _).mono ?_
    rintro e w30 ⟨rfl, k30⟩
    clear T37a T37b T37c
    replace E := E.trans k30
    replace T37 := T37.ext k30
    clear k30
    have T37a := T37.1
    have T37b := T37.2.1
    have T37c := T37.2.2.2.2
    have T48 := Two.new w30 P4 Q4
    go_upto_if 280 with (fail)
    replace T37 := T37.ext ((by repeat (first | exact Ext.refl _ | assumption | refine Ext.alloc ?_ _ | refine Ext.drew ?_ | refine Ext.drewN ?_ _ | refine Ext.setCell ?_ (by first | exact Nat.le_refl _ | (simp; done) | (dsimp only; omega) | (simp only [World.size_alloc, World.size_setCell]; omega)) _ | refine Ext.trans ?_ (by assumption))) : Ext w30 (w30.alloc (.cells #[.int .i64 P4, .int .i64 Q4] 25)))
    replace E := E.trans ((by repeat (first | exact Ext.refl _ | assumption | refine Ext.alloc ?_ _ | refine Ext.drew ?_ | refine Ext.drewN ?_ _ | refine Ext.setCell ?_ (by first | exact Nat.le_refl _ | (simp; done) | (dsimp only; omega) | (simp only [World.size_alloc, World.size_setCell]; omega)) _ | refine Ext.trans ?_ (by assumption))) : Ext w30 (w30.alloc (.cells #[.int .i64 P4, .int .i64 Q4] 25)))
    obtain ⟨bT48, hbT48⟩ : ∃ b, b = w30.heap.size := ⟨_, rfl⟩
    rw [← hbT48] at T48 ⊢
    clear hbT48
    clear T37a T37b T37c
    generalize (w30.alloc (.cells #[.int .i64 P4, .int .i64 Q4] 25)) = w31 at T37 T48 E ⊢
    have T37a := T37.1
    have T37b := T37.2.1
    have T37c := T37.2.2.2.2
    have T48a := T48.1
    have T48b := T48.2.1
    have T48c := T48.2.2.2.2
    cases ab4 with
    | false =>
      clear hab4
      go_wp2_with (fail)
      go_ret
      exact ⟨rfl, E⟩
    | true =>
    obtain ⟨hb4, he4⟩ := hab4 rfl
    have t4 : decide (Q4 - P4 ≤ v) = false := by simp; omega
    clear hab4
    go_wp2_with (fail)
    refine (widT hb4 _).mono ?_
    rintro e w32 ⟨rfl, k32⟩
    clear T37a T37b T37c T48a T48b T48c
    replace E := E.trans k32
    replace T37 := T37.ext k32
    replace T48 := T48.ext k32
    clear k32
    have T37a := T37.1
    have T37b := T37.2.1
    have T37c := T37.2.2.2.2
    have T48a := T48.1
    have T48b := T48.2.1
    have T48c := T48.2.2.2.2
    go_wp2_with (fail)
    go_ret
    exact ⟨rfl, by first | exact E | exact (by repeat (first | exact Ext.refl _ | assumption | refine Ext.alloc ?_ _ | refine Ext.drew ?_ | refine Ext.drewN ?_ _ | refine Ext.setCell ?_ (by first | exact Nat.le_refl _ | (simp; done) | (dsimp only; omega) | (simp only [World.size_alloc, World.size_setCell]; omega)) _ | refine Ext.trans ?_ (by assumption)))⟩
  · have tl : decide (s < 100000) = false := by simpa using hlt
    go_wp2_with (fail)
    go_ret
    exact ⟨rfl, by first | exact E | exact (by repeat (first | exact Ext.refl _ | assumption | refine Ext.alloc ?_ _ | refine Ext.drew ?_ | refine Ext.drewN ?_ _ | refine Ext.setCell ?_ (by first | exact Nat.le_refl _ | (simp; done) | (dsimp only; omega) | (simp only [World.size_alloc, World.size_setCell]; omega)) _ | refine Ext.trans ?_ (by assumption)))⟩
end Go.Proofs.Ytiemkobgpaekoaa