/- The law of rosters: duties are hours of the shifts, open hours are those with too few, the longest duty is without a gap. Condition: the library's table of powers of ten lies as its text lays it. -/
import Derived.Test.YtedkffdkhnfoiaaDoorRosQ
import Derived.Test.YtedkffdkhnfoiaaDoorRosD
import Derived.Test.YtedkffdkhnfoiaaDoorQl
namespace Go.Proofs.YtedkffdkhnfoiaaDoor
open Go.RowKit
set_option linter.unusedSimpArgs false
set_option linter.unusedVariables false

theorem row3_at {w : World} {a : Option Addr} {n c : Nat} {z : List Int} (h : IntRow .i64 3 w (.slice a n c) n z) {k : Nat} (hk : k < n) : ∃ b o, a = some ⟨b, o, none⟩ ∧ b < w.heap.size ∧ w.cell? ⟨b, o + k * 3, none⟩ = some (.int .i64 (shOp z k)) ∧ w.cell? ⟨b, o + k * 3 + 1, none⟩ = some (.int .i64 (shFr z k)) ∧ w.cell? ⟨b, o + k * 3 + 2, none⟩ = some (.int .i64 (shTo z k)) := by
  obtain ⟨_, _, _, a', c', he, _, _, hcell⟩ := h
  simp only [Value.slice.injEq, true_and] at he
  obtain ⟨rfl, rfl⟩ := he
  obtain ⟨b, oo, rfl, hbq, hc⟩ := hcell.resolve_left (by omega)
  exact ⟨b, oo, rfl, hbq, hc _ (by omega), by rw [Nat.add_assoc]; exact hc _ (by omega), by rw [Nat.add_assoc]; exact hc _ (by omega)⟩
theorem introw_sl {kd : IntKind} {s : Nat} {w : World} {v : Value} {n : Nat} {z : List Int} (h : IntRow kd s w v n z) : ∃ a c, v = .slice a n c := by
  obtain ⟨_, _, _, a, c, rfl, _⟩ := h
  exact ⟨a, c, rfl⟩
/-- hours that lie in one of the first i ranges -/
def cov (O : List (List Int)) : Nat → Nat → Bool
  | 0, _ => false
  | i + 1, x => cov O i x || inR (x : Int) (loZ O i) (hiZ O i - 1)
theorem cov_iff (O : List (List Int)) (x : Nat) : ∀ i, cov O i x = true ↔ ∃ j, j < i ∧ loZ O j ≤ x ∧ x < hiZ O j
  | 0 => by simp [cov]
  | i + 1 => by
    rw [cov, Bool.or_eq_true, cov_iff O x i, inR_iff]
    constructor
    · rintro (⟨j, h1, h2, h3⟩ | ⟨h1, h2⟩)
      · exact ⟨j, by omega, h2, h3⟩
      · exact ⟨i, by omega, h1, by omega⟩
    · rintro ⟨j, h1, h2, h3⟩
      by_cases e : j = i
      · subst e; exact .inr ⟨h2, by omega⟩
      · exact .inl ⟨j, by omega, h2, h3⟩
def fnL (F : Nat → Bool) : List Value := (List.range 168).map fun x => Value.bool (F x)
theorem fnL_at (F : Nat → Bool) {x : Nat} (hx : x < 168) : (fnL F)[x]? = some (.bool (F x)) := by simp [fnL, hx]
theorem fnL_set (F : Nat → Bool) (h : Nat) : (fnL F).set h (.bool true) = fnL (fun x => F x || decide (x = h)) := by
  apply List.ext_getElem?
  intro i
  rw [List.getElem?_set]
  by_cases e : h = i
  · subst e
    rw [if_pos rfl]
    by_cases hx : h < 168
    · rw [if_pos (by simpa [fnL] using hx), fnL_at _ hx]; simp
    · rw [if_neg (by simpa [fnL] using hx), List.getElem?_eq_none (by simp [fnL]; omega)]
  · rw [if_neg e]
    by_cases hx : i < 168
    · rw [fnL_at _ hx, fnL_at _ hx]; simp [Ne.symm e]
    · rw [List.getElem?_eq_none (by simp [fnL]; omega), List.getElem?_eq_none (by simp [fnL]; omega)]
theorem fnL_congr {F G : Nat → Bool} (h : ∀ x, x < 168 → F x = G x) : fnL F = fnL G := by
  unfold fnL
  refine List.map_congr_left fun x hx => ?_
  rw [h x (by simpa using hx)]
theorem info_bool : (Tryd.prog.info? 4).map (fun i => (i.zero, i.size, i.bytes)) = some (some (.bool false), 1, 1) := by kernel_rfl
theorem few_cell {w : World} {g h : Nat} {F : Nat → Bool} (hr : w.ownsRow g 4 1 (.slice (some ⟨g, 0, none⟩) 168 168) 168 (fnL F)) (hx : h < 168) : w.cell? ⟨g, h, none⟩ = some (.bool (F h)) := by
  have := hr.cellAt h (by omega)
  rw [fnL_at F hx] at this
  exact this
theorem made_bool : (madeCells (Value.bool false).cells 168).toList = fnL (fun _ => false) := by kernel_rfl
theorem has_on {z : List Int} {n : Nat} {p h : Int} : hasZ (onL z h n) (onL z h n).length p = onB z n p h := by
  rw [Bool.eq_iff_iff, hasZ_iff rfl]
  unfold onB
  exact decide_eq_true_iff.symm

set_option maxRecDepth 100000 in
set_option maxHeartbeats 40000000 in
theorem walkFnRosters (v0 : Value) (n0 : Nat) (z0 : List Int) (v1 : Value) (n1 : Nat) (z1 : List Int) (w : World) (r0 : IntRow .u8 1 w v0 n0 z0) (r1 : IntRow .u8 1 w v1 n1 z1) (ht : PowTab w) :
    Calls Tryd.prog 3 #[v0, v1] w fun e w' => e = .returned (.bool true) ∧ Ext w w' := by
  obtain ⟨a0, c0, rfl⟩ := introw_sl r0
  obtain ⟨a1, c1, rfl⟩ := introw_sl r1
  have hm0 := r0.2.1
  have hm1 := r1.2.1
  unfold maxLen at hm0 hm1
  have HPT := hid ht
  clear ht
  obtain ⟨TS, hTS⟩ : ∃ t, t = IntKind.i64.wrap ((n0 : Int) + (n1 : Int)) := ⟨_, rfl⟩
  have hws := hTS.symm
  by_cases hbig : (1048576 : Int) < TS
  · have tb : decide ((1048576 : Int) < TS) = true := by simpa using hbig
    clear hTS hbig
    go_enter Tryd.func3, Tryd.ntmps3
    go_wp2_with (fail)
    go_ret
    exact ⟨rfl, Ext.refl _⟩
  have tb : decide ((1048576 : Int) < TS) = false := by simpa using hbig
  clear hTS
  go_enter Tryd.func3, Tryd.ntmps3
  have E : Ext w w := Ext.refl w
  have R1 := hid r1
  clear r1
  go_wp2_with (fail)
  refine (drawOpen _ n0 z0 _ r0 hm0).mono ?_
  rintro e w1 ⟨X, vA, m, zs, rfl, hr, hm, k1⟩
  replace E := E.trans k1
  replace R1 := hid (R1.out.ext k1)
  have HA := hid hr
  obtain ⟨aA, dA, rfl⟩ := introw_sl HA.out
  clear hr k1
  clear hws tb hbig r0
  obtain ⟨O, okO, c1, c2, hw, hF⟩ := openAll (.slice aA m dA) m zs X
  have HFO := hid hF
  have HWO := hid hw
  clear hF hw
  go_wp2_with (fail)
  refine (c1 _ HA.out).mono ?_
  rintro e w2 ⟨vO1, gO1, rfl, hr, k2⟩
  replace E := E.trans k2
  replace R1 := hid (R1.out.ext k2)
  replace HA := hid (HA.out.ext k2)
  have HO1 := hid hr
  obtain ⟨aO1, dO1, rfl, _, _, _⟩ := HO1.out.shape
  clear hr k2
  go_wp2_with (fail)
  refine (c2 _ HA.out).mono ?_
  rintro e w3 ⟨vO2, gO2, rfl, hr, k3⟩
  replace E := E.trans k3
  replace R1 := hid (R1.out.ext k3)
  replace HA := hid (HA.out.ext k3)
  replace HO1 := hid (HO1.out.ext k3)
  have HO2 := hid hr
  obtain ⟨aO2, dO2, rfl, _, _, _⟩ := HO2.out.shape
  clear hr k3
  clear c1 c2
  go_wp2_with (fail)
  refine (drawDuty _ n1 z1 _ R1.out hm1).mono ?_
  rintro e w4 ⟨P, vB, m2, zs2, rfl, hr, hm2, k4⟩
  replace E := E.trans k4
  replace R1 := hid (R1.out.ext k4)
  replace HA := hid (HA.out.ext k4)
  replace HO1 := hid (HO1.out.ext k4)
  replace HO2 := hid (HO2.out.ext k4)
  have HB := hid hr
  obtain ⟨aB, dB, rfl⟩ := introw_sl HB.out
  clear hr k4
  obtain ⟨DH, DN, FR, TO, one, three, c1, c2, c3, c4, h31, hF⟩ := dutyAll (.slice aB m2 dB) m2 zs2 P
  have HFD := hid hF
  have H31 := hid h31
  clear hF h31
  go_wp2_with (fail)
  refine (c1 _ HB.out).mono ?_
  rintro e w5 ⟨rfl, k5⟩
  replace E := E.trans k5
  replace R1 := hid (R1.out.ext k5)
  replace HA := hid (HA.out.ext k5)
  replace HO1 := hid (HO1.out.ext k5)
  replace HO2 := hid (HO2.out.ext k5)
  replace HB := hid (HB.out.ext k5)
  clear k5
  go_wp2_with (fail)
  refine (c2 _ HB.out).mono ?_
  rintro e w6 ⟨rfl, k6⟩
  replace E := E.trans k6
  replace R1 := hid (R1.out.ext k6)
  replace HA := hid (HA.out.ext k6)
  replace HO1 := hid (HO1.out.ext k6)
  replace HO2 := hid (HO2.out.ext k6)
  replace HB := hid (HB.out.ext k6)
  clear k6
  go_wp2_with (fail)
  refine (c3 _ HB.out).mono ?_
  rintro e w7 ⟨rfl, k7⟩
  replace E := E.trans k7
  replace R1 := hid (R1.out.ext k7)
  replace HA := hid (HA.out.ext k7)
  replace HO1 := hid (HO1.out.ext k7)
  replace HO2 := hid (HO2.out.ext k7)
  replace HB := hid (HB.out.ext k7)
  clear k7
  go_wp2_with (fail)
  refine (c4 _ HB.out).mono ?_
  rintro e w8 ⟨rfl, k8⟩
  replace E := E.trans k8
  replace R1 := hid (R1.out.ext k8)
  replace HA := hid (HA.out.ext k8)
  replace HO1 := hid (HO1.out.ext k8)
  replace HO2 := hid (HO2.out.ext k8)
  replace HB := hid (HB.out.ext k8)
  clear k8
  clear c1 c2 c3 c4
  go_wp2_with (fail)
  refine (drawOn _ n1 z1 _ R1.out hm1).mono ?_
  rintro e w9 ⟨HR, vC, m3, zs3, rfl, hr, hm3, k9⟩
  replace E := E.trans k9
  replace R1 := hid (R1.out.ext k9)
  replace HA := hid (HA.out.ext k9)
  replace HO1 := hid (HO1.out.ext k9)
  replace HO2 := hid (HO2.out.ext k9)
  replace HB := hid (HB.out.ext k9)
  have HC := hid hr
  obtain ⟨aC, dC, rfl⟩ := introw_sl HC.out
  clear hr k9
  obtain ⟨DL, nD, okD, c1, c2, hw, hn⟩ := onAll (.slice aC m3 dC) m3 zs3 HR
  have HWD := hid (And.intro hw hn)
  clear hw hn
  go_wp2_with (fail)
  refine (c1 _ HC.out).mono ?_
  rintro e w10 ⟨vD1, rfl, hr, k10⟩
  replace E := E.trans k10
  replace R1 := hid (R1.out.ext k10)
  replace HA := hid (HA.out.ext k10)
  replace HO1 := hid (HO1.out.ext k10)
  replace HO2 := hid (HO2.out.ext k10)
  replace HB := hid (HB.out.ext k10)
  replace HC := hid (HC.out.ext k10)
  have HD1 := hid (row_ints hr (by have := HWD.out.2; unfold maxLen; omega) HWD.out.1)
  obtain ⟨aD1, dD1, rfl⟩ := introw_sl HD1.out
  clear hr k10
  go_wp2_with (fail)
  refine (c2 _ HC.out).mono ?_
  rintro e w11 ⟨vD2, rfl, hr, k11⟩
  replace E := E.trans k11
  replace R1 := hid (R1.out.ext k11)
  replace HA := hid (HA.out.ext k11)
  replace HO1 := hid (HO1.out.ext k11)
  replace HO2 := hid (HO2.out.ext k11)
  replace HB := hid (HB.out.ext k11)
  replace HC := hid (HC.out.ext k11)
  replace HD1 := hid (HD1.out.ext k11)
  have HD2 := hid (row_ints hr (by have := HWD.out.2; unfold maxLen; omega) HWD.out.1)
  obtain ⟨aD2, dD2, rfl⟩ := introw_sl HD2.out
  clear hr k11
  clear c1 c2
  go_wp2_with (fail)
  refine (drawRests _ n1 z1 _ R1.out hm1).mono ?_
  rintro e w12 ⟨LS, vG, m4, zs4, rfl, hr, hm4, k12⟩
  replace E := E.trans k12
  replace R1 := hid (R1.out.ext k12)
  replace HA := hid (HA.out.ext k12)
  replace HO1 := hid (HO1.out.ext k12)
  replace HO2 := hid (HO2.out.ext k12)
  replace HB := hid (HB.out.ext k12)
  replace HC := hid (HC.out.ext k12)
  replace HD1 := hid (HD1.out.ext k12)
  replace HD2 := hid (HD2.out.ext k12)
  have HG := hid hr
  obtain ⟨aG, dG, rfl⟩ := introw_sl HG.out
  clear hr k12
  obtain ⟨SR, okS, c1, c2, hw, hF⟩ := restAll (.slice aG m4 dG) m4 zs4 LS
  have HFS := hid hF
  have HWS := hid hw
  clear hF hw
  go_wp2_with (fail)
  refine (c1 _ HG.out).mono ?_
  rintro e w13 ⟨vS1, gS1, rfl, hr, k13⟩
  replace E := E.trans k13
  replace R1 := hid (R1.out.ext k13)
  replace HA := hid (HA.out.ext k13)
  replace HO1 := hid (HO1.out.ext k13)
  replace HO2 := hid (HO2.out.ext k13)
  replace HB := hid (HB.out.ext k13)
  replace HC := hid (HC.out.ext k13)
  replace HD1 := hid (HD1.out.ext k13)
  replace HD2 := hid (HD2.out.ext k13)
  replace HG := hid (HG.out.ext k13)
  have HS1 := hid hr
  obtain ⟨aS1, dS1, rfl, _, _, _⟩ := HS1.out.shape
  clear hr k13
  go_wp2_with (fail)
  refine (c2 _ HG.out).mono ?_
  rintro e w14 ⟨vS2, gS2, rfl, hr, k14⟩
  replace E := E.trans k14
  replace R1 := hid (R1.out.ext k14)
  replace HA := hid (HA.out.ext k14)
  replace HO1 := hid (HO1.out.ext k14)
  replace HO2 := hid (HO2.out.ext k14)
  replace HB := hid (HB.out.ext k14)
  replace HC := hid (HC.out.ext k14)
  replace HD1 := hid (HD1.out.ext k14)
  replace HD2 := hid (HD2.out.ext k14)
  replace HG := hid (HG.out.ext k14)
  replace HS1 := hid (HS1.out.ext k14)
  have HS2 := hid hr
  obtain ⟨aS2, dS2, rfl, _, _, _⟩ := HS2.out.shape
  clear hr k14
  clear c1 c2
  go_wp2_with (fail)
  refine (drawText _ n1 z1 _ R1.out hm1).mono ?_
  rintro e w15 ⟨vT, m5, zs5, rfl, hr, hm5, k15⟩
  replace E := E.trans k15
  replace R1 := hid (R1.out.ext k15)
  replace HA := hid (HA.out.ext k15)
  replace HO1 := hid (HO1.out.ext k15)
  replace HO2 := hid (HO2.out.ext k15)
  replace HB := hid (HB.out.ext k15)
  replace HC := hid (HC.out.ext k15)
  replace HD1 := hid (HD1.out.ext k15)
  replace HD2 := hid (HD2.out.ext k15)
  replace HG := hid (HG.out.ext k15)
  replace HS1 := hid (HS1.out.ext k15)
  replace HS2 := hid (HS2.out.ext k15)
  have HT := hid hr
  obtain ⟨aT, dT, rfl⟩ := introw_sl HT.out
  clear hr k15
  obtain ⟨TX, okT, c1, c2, c3⟩ := textAll (.slice aT m5 dT) m5 zs5
  go_wp2_with (fail)
  refine (c1 _ HT.out (HPT.out.ext E)).mono ?_
  rintro e w16 ⟨rfl, k16⟩
  replace E := E.trans k16
  replace R1 := hid (R1.out.ext k16)
  replace HA := hid (HA.out.ext k16)
  replace HO1 := hid (HO1.out.ext k16)
  replace HO2 := hid (HO2.out.ext k16)
  replace HB := hid (HB.out.ext k16)
  replace HC := hid (HC.out.ext k16)
  replace HD1 := hid (HD1.out.ext k16)
  replace HD2 := hid (HD2.out.ext k16)
  replace HG := hid (HG.out.ext k16)
  replace HS1 := hid (HS1.out.ext k16)
  replace HS2 := hid (HS2.out.ext k16)
  replace HT := hid (HT.out.ext k16)
  clear k16
  clear R1
  obtain ⟨bO, hbO⟩ : ∃ b, Lists w16 b (.slice aO2 gO2.length dO2) 2 gO2 O := ⟨_, HO2.out⟩
  obtain ⟨bS, hbS⟩ : ∃ b, Lists w16 b (.slice aS2 gS2.length dS2) 2 gS2 SR := ⟨_, HS2.out⟩
  replace HO2 := hid hbO
  replace HS2 := hid hbS
  clear hbO hbS
  go_wp2_with (fail)
  refine (c2 _ HT.out).mono ?_
  rintro e w17 ⟨rfl, k17⟩
  replace E := E.trans k17
  replace HA := hid (HA.out.ext k17)
  replace HO1 := hid (HO1.out.ext k17)
  replace HO2 := hid (HO2.out.ext k17)
  replace HB := hid (HB.out.ext k17)
  replace HC := hid (HC.out.ext k17)
  replace HD1 := hid (HD1.out.ext k17)
  replace HD2 := hid (HD2.out.ext k17)
  replace HG := hid (HG.out.ext k17)
  replace HS1 := hid (HS1.out.ext k17)
  replace HS2 := hid (HS2.out.ext k17)
  replace HT := hid (HT.out.ext k17)
  clear k17
  go_upto_region 20 with (fail)
  go_cut [243] from 160 to 244 (fun s243 wx => s243 = .bool false ∧ Ext w wx ∧ IntRow .i64 3 wx (.slice aA m dA) m zs ∧ Lists wx bO (.slice aO2 gO2.length dO2) 2 gO2 O ∧ IntRow .i64 3 wx (.slice aB m2 dB) m2 zs2 ∧ IntRow .i64 3 wx (.slice aG m4 dG) m4 zs4 ∧ Lists wx bS (.slice aS2 gS2.length dS2) 2 gS2 SR)
  case first =>
    as_aux_lemma =>
      go_wp2_with (fail)
      refine (qLists_same _ _ _ _ 2 gO1 gO2 O _ HO1.out HO2.out (by omega) HWO.out.2).mono ?_
      rintro e w18 ⟨rfl, k18⟩
      replace E := E.trans k18
      replace HA := hid (HA.out.ext k18)
      replace HO1 := hid (HO1.out.ext k18)
      replace HO2 := hid (HO2.out.ext k18)
      replace HB := hid (HB.out.ext k18)
      replace HC := hid (HC.out.ext k18)
      replace HD1 := hid (HD1.out.ext k18)
      replace HD2 := hid (HD2.out.ext k18)
      replace HG := hid (HG.out.ext k18)
      replace HS1 := hid (HS1.out.ext k18)
      replace HS2 := hid (HS2.out.ext k18)
      replace HT := hid (HT.out.ext k18)
      clear k18
      go_wp2_with (fail)
      refine (qInts_same _ _ nD DL _ HD1.out HD2.out).mono ?_
      rintro e w19 ⟨rfl, k19⟩
      replace E := E.trans k19
      replace HA := hid (HA.out.ext k19)
      replace HO1 := hid (HO1.out.ext k19)
      replace HO2 := hid (HO2.out.ext k19)
      replace HB := hid (HB.out.ext k19)
      replace HC := hid (HC.out.ext k19)
      replace HD1 := hid (HD1.out.ext k19)
      replace HD2 := hid (HD2.out.ext k19)
      replace HG := hid (HG.out.ext k19)
      replace HS1 := hid (HS1.out.ext k19)
      replace HS2 := hid (HS2.out.ext k19)
      replace HT := hid (HT.out.ext k19)
      clear k19
      go_wp2_with (fail)
      refine (qLists_same _ _ _ _ 2 gS1 gS2 SR _ HS1.out HS2.out (by omega) HWS.out.2).mono ?_
      rintro e w20 ⟨rfl, k20⟩
      replace E := E.trans k20
      replace HA := hid (HA.out.ext k20)
      replace HO1 := hid (HO1.out.ext k20)
      replace HO2 := hid (HO2.out.ext k20)
      replace HB := hid (HB.out.ext k20)
      replace HC := hid (HC.out.ext k20)
      replace HD1 := hid (HD1.out.ext k20)
      replace HD2 := hid (HD2.out.ext k20)
      replace HG := hid (HG.out.ext k20)
      replace HS1 := hid (HS1.out.ext k20)
      replace HS2 := hid (HS2.out.ext k20)
      replace HT := hid (HT.out.ext k20)
      clear k20
      go_wp2_with (fail)
      refine (c3 _ HT.out).mono ?_
      rintro e w21 ⟨rfl, k21⟩
      replace E := E.trans k21
      replace HA := hid (HA.out.ext k21)
      replace HO1 := hid (HO1.out.ext k21)
      replace HO2 := hid (HO2.out.ext k21)
      replace HB := hid (HB.out.ext k21)
      replace HC := hid (HC.out.ext k21)
      replace HD1 := hid (HD1.out.ext k21)
      replace HD2 := hid (HD2.out.ext k21)
      replace HG := hid (HG.out.ext k21)
      replace HS1 := hid (HS1.out.ext k21)
      replace HS2 := hid (HS2.out.ext k21)
      replace HT := hid (HT.out.ext k21)
      clear k21
      cases three with
      | false =>
        go_wp2_with (fail)
        go_meet
        exact ⟨rfl, E, HA.out, HO2.out, HB.out, HG.out, HS2.out⟩
      | true =>
        obtain rfl := H31.out rfl
        go_wp2_with (fail)
        go_meet
        exact ⟨rfl, E, HA.out, HO2.out, HB.out, HG.out, HS2.out⟩
  case rest =>
  clear E HA HO1 HO2 HB HC HD1 HD2 HG HS1 HS2 HT c1 c2 c3 HWD HPT
  obtain ⟨rfl, hcut⟩ := hcut
  obtain ⟨E, qHA, qHO2, qHB, qHG, qHS2⟩ := hcut
  have HA := hid qHA
  have HO2 := hid qHO2
  have HB := hid qHB
  have HG := hid qHG
  have HS2 := hid qHS2
  clear qHA qHO2 qHB qHG qHS2
  go_upto_if 244 with (fail)
  go_cut [42, 43, 44, 45, 46, 47] from 245 to 326 (fun s42 s43 s44 s45 s46 s47 wx => Ext w wx ∧ IntRow .i64 3 wx (.slice aA m dA) m zs ∧ Lists wx bO (.slice aO2 gO2.length dO2) 2 gO2 O ∧ IntRow .i64 3 wx (.slice aG m4 dG) m4 zs4 ∧ Lists wx bS (.slice aS2 gS2.length dS2) 2 gS2 SR)
  case first =>
    cases one with
    | false =>
      go_wp2_with (fail)
      go_meet
      exact ⟨E, HA.out, HO2.out, HG.out, HS2.out⟩
    | true =>
      as_aux_lemma =>
        obtain ⟨ok2, hcn, ⟨hH0, hH1⟩, hNH, h3H, ⟨hf0, hf1, ht0, ht1⟩, h3⟩ := HFD.out rfl
        have HOK := hid ok2
        have HCN := hid hcn
        have H3H := hid h3H
        have H3 := hid h3
        clear ok2 hcn h3H h3 HFD H31
        go_wp2_with (fail)
        go_loopw [42, 43] (fun s42 s43 wr => ∃ h : Nat, h ≤ 168 ∧ s43 = .int .i64 (h : Int) ∧ s42 = .int .i64 ((cnB (onB zs2 m2 P) h : Nat) : Int) ∧ Ext wc wr)
          (fun _ i _ => 168 - (intOf i).toNat)
        case atStart => exact ⟨0, Nat.zero_le _, rfl, rfl, Ext.refl _⟩
        case round =>
          obtain ⟨h, hh, rfl, rfl, hE⟩ := hrel
          replace E := E.trans hE
          replace HA := hid (HA.out.ext hE)
          replace HO2 := hid (HO2.out.ext hE)
          replace HB := hid (HB.out.ext hE)
          replace HG := hid (HG.out.ext hE)
          replace HS2 := hid (HS2.out.ext hE)
          have E2 := hE
          clear hE
          have hCL := cnB_le (onB zs2 m2 P) h
          obtain ⟨CN, hCNe⟩ : ∃ c, c = cnB (onB zs2 m2 P) h := ⟨_, rfl⟩
          rw [← hCNe] at hCL ⊢
          have HCE := hid hCNe
          clear hCNe
          by_cases hlt : h < 168
          · as_aux_lemma =>
              have tl : decide ((h : Int) < 168) = true := by simp; omega
              obtain ⟨d1, d2, hw, hn⟩ := onOk (h := (h : Int)) HOK.out (by omega) (by omega) (.slice aB m2 dB)
              have HON := hid (has_on (z := zs2) (n := m2) (p := P) (h := (h : Int)))
              have HCS := hid (show cnB (onB zs2 m2 P) (h + 1) = if onB zs2 m2 P (h : Int) = true then cnB (onB zs2 m2 P) h + 1 else cnB (onB zs2 m2 P) h from rfl)
              obtain ⟨L, hL⟩ : ∃ L, L = onL zs2 (h : Int) m2 := ⟨_, rfl⟩
              rw [← hL] at d1 d2 hw hn HON
              clear hL
              obtain ⟨nL, hnL⟩ : ∃ k, k = L.length := ⟨_, rfl⟩
              rw [← hnL] at d1 d2 hn HON
              clear hnL
              have HWL := hid (And.intro hw hn)
              clear hw hn
              obtain ⟨OB, hOB⟩ : ∃ b, b = onB zs2 m2 P (h : Int) := ⟨_, rfl⟩
              rw [← hOB] at HON HCS
              have HOB := hid hOB
              clear hOB
              have hh0 : (0 : Int) ≤ (h : Int) := Int.natCast_nonneg _
              go_wp2_with (fail)
              refine (d1 _ HB.out).mono ?_
              rintro e p18 ⟨vU1, rfl, hr, k18⟩
              replace E := E.trans k18
              replace E2 := E2.trans k18
              replace HA := hid (HA.out.ext k18)
              replace HO2 := hid (HO2.out.ext k18)
              replace HB := hid (HB.out.ext k18)
              replace HG := hid (HG.out.ext k18)
              replace HS2 := hid (HS2.out.ext k18)
              have HU1 := hid (row_ints hr (by have := HWL.out.2; unfold maxLen; omega) HWL.out.1)
              obtain ⟨aU1, dU1, rfl⟩ := introw_sl HU1.out
              clear hr k18
              go_wp2_with (fail)
              refine (d2 _ HB.out).mono ?_
              rintro e p19 ⟨vU2, rfl, hr, k19⟩
              replace E := E.trans k19
              replace E2 := E2.trans k19
              replace HA := hid (HA.out.ext k19)
              replace HO2 := hid (HO2.out.ext k19)
              replace HB := hid (HB.out.ext k19)
              replace HG := hid (HG.out.ext k19)
              replace HS2 := hid (HS2.out.ext k19)
              replace HU1 := hid (HU1.out.ext k19)
              have HU2 := hid (row_ints hr (by have := HWL.out.2; unfold maxLen; omega) HWL.out.1)
              obtain ⟨aU2, dU2, rfl⟩ := introw_sl HU2.out
              clear hr k19
              clear d1 d2
              go_upto_region 29 with (fail)
              go_cut [291] from 261 to 292 (fun s291 wx => s291 = .bool false ∧ Ext p19 wx)
              case first =>
                as_aux_lemma =>
                  have EY := Ext.refl p19
                  go_wp2_with (fail)
                  refine (qInts_same _ _ nL L _ HU1.out HU2.out).mono ?_
                  rintro e p20 ⟨rfl, k20⟩
                  replace E := E.trans k20
                  replace E2 := E2.trans k20
                  replace EY := EY.trans k20
                  replace HA := hid (HA.out.ext k20)
                  replace HO2 := hid (HO2.out.ext k20)
                  replace HB := hid (HB.out.ext k20)
                  replace HG := hid (HG.out.ext k20)
                  replace HS2 := hid (HS2.out.ext k20)
                  replace HU1 := hid (HU1.out.ext k20)
                  replace HU2 := hid (HU2.out.ext k20)
                  clear k20
                  skip
                  cases three with
                  | false =>
                    go_wp2_with (fail)
                    go_meet
                    exact ⟨rfl, EY⟩
                  | true =>
                    have h3a := (H3.out rfl).2.2
                    have HXA := hid h3a
                    clear h3a
                    by_cases hc1 : FR ≤ (h : Int)
                    · have u1 : decide (FR ≤ (h : Int)) = true := by simpa using hc1
                      by_cases hc2 : (h : Int) < TO
                      · have u2 : decide ((h : Int) < TO) = true := by simpa using hc2
                        have hb := HOB.out
                        rw [HXA.out _ hc1 hc2] at hb
                        subst hb
                        go_wp2_with (fail)
                        refine (qHas_any _ nL L P _ HU2.out).mono ?_
                        rw [HON.out]
                        rintro e w9 ⟨rfl, rfl⟩
                        go_wp2_with (fail)
                        go_meet
                        exact ⟨rfl, EY⟩
                      · have u2 : decide ((h : Int) < TO) = false := by simpa using hc2
                        go_wp2_with (fail)
                        go_meet
                        exact ⟨rfl, EY⟩
                    · have u1 : decide (FR ≤ (h : Int)) = false := by simpa using hc1
                      go_wp2_with (fail)
                      go_meet
                      exact ⟨rfl, EY⟩
              case rest =>
              obtain ⟨rfl, hE⟩ := hcut
              clear HU1
              replace E := E.trans hE
              replace E2 := E2.trans hE
              replace HA := hid (HA.out.ext hE)
              replace HO2 := hid (HO2.out.ext hE)
              replace HB := hid (HB.out.ext hE)
              replace HG := hid (HG.out.ext hE)
              replace HS2 := hid (HS2.out.ext hE)
              replace HU2 := hid (HU2.out.ext hE)
              clear hE
              go_wp2_with (fail)
              refine (qHas_any _ nL L P _ HU2.out).mono ?_
              rw [HON.out]
              rintro e w9 ⟨rfl, rfl⟩
              cases OB with
              | false =>
                have hcs := HCS.out
                rw [if_neg (by simp), ← HCE.out] at hcs
                have HC1 := hid hcs
                clear hcs HCS
                go_wp2_with (fail)
                go_roundw
                case rel => exact ⟨h + 1, by omega, by go_num, by rw [HC1.out]; first | done | (simp; done) | rfl, E2⟩
                case measure => simp [intOf]; omega
              | true =>
                have hcs := HCS.out
                rw [if_pos rfl, ← HCE.out] at hcs
                have HC1 := hid hcs
                clear hcs HCS
                have e1 : IntKind.i64.wrap ((CN : Int) + 1) = ((CN + 1 : Nat) : Int) := by rw [IntWalk.i64_in _ (by omega)]; omega
                go_wp2_with (fail)
                go_roundw
                case rel => exact ⟨h + 1, by omega, by go_num, by rw [HC1.out]; first | done | (simp; done) | rfl, E2⟩
                case measure => simp [intOf]; omega
          · as_aux_lemma =>
              obtain rfl : h = 168 := by omega
              have tl : decide (((168 : Nat) : Int) < 168) = false := by simp
              have hcn := HCN.out
              rw [← HCE.out] at hcn
              have u1 : decide ((CN : Int) = DH) = true := by simpa using hcn
              have u2 : ((CN : Int) == DH) = true := by simpa using hcn
              have u3 : decide (DH < DN) = false := by simp; omega
              have u1b : ((CN : Int) != DH) = false := by simpa using hcn
              have h3h := H3H.out
              clear hcn HCN HCE H3H
              cases three with
              | false =>
                have u4 : decide (0 < DH) = false := h3h.symm
                clear h3h
                go_wp2_with (fail)
                go_meet
                exact ⟨E, HA.out, HO2.out, HG.out, HS2.out⟩
              | true =>
                have u4 : decide (0 < DH) = true := h3h.symm
                obtain ⟨q1, q2, _⟩ := H3.out rfl
                have e1 : IntKind.i64.wrap (TO - FR) = TO - FR := IntWalk.i64_in _ (by omega)
                have u5 : decide (DH < TO - FR) = false := by simp; omega
                have u6 : decide (TO ≤ FR) = false := by simp; omega
                clear h3h
                go_wp2_with (fail)
                go_meet
                exact ⟨E, HA.out, HO2.out, HG.out, HS2.out⟩
  case rest =>
  clear E HA HO2 HB HG HS2 HFD H31
  obtain ⟨E, qHA, qHO2, qHG, qHS2⟩ := hcut
  have HA := hid qHA
  have HO2 := hid qHO2
  have HG := hid qHG
  have HS2 := hid qHS2
  clear qHA qHO2 qHG qHS2
  go_upto_if 326 with (fail)
  go_cut [49] from 327 to 399 (fun s49 wx => Ext w wx ∧ IntRow .i64 3 wx (.slice aA m dA) m zs ∧ Lists wx bO (.slice aO2 gO2.length dO2) 2 gO2 O)
  case first =>
    cases okS with
    | false =>
      go_wp2_with (fail)
      go_meet
      exact ⟨E, HA.out, HO2.out⟩
    | true =>
      as_aux_lemma =>
        obtain ⟨ok4, ⟨hl0, hl1⟩, hent⟩ := HFS.out rfl
        have HENT := hid hent
        have HOK := hid ok4
        have hSL := HS2.out.len
        have hSB : gS2.length ≤ 1000 := by rw [hSL]; exact HWS.out.1
        clear hent ok4 HFS
        go_wp2_with (fail)
        go_loopw [329] (fun s329 wr => ∃ i : Nat, i ≤ gS2.length ∧ s329 = .int .i64 (i : Int) ∧ Ext wc wr)
          (fun i _ => gS2.length - (intOf i).toNat)
        case atStart => exact ⟨0, Nat.zero_le _, rfl, Ext.refl _⟩
        case round =>
          obtain ⟨i, hi, rfl, hE⟩ := hrel
          replace E := E.trans hE
          replace HA := hid (HA.out.ext hE)
          replace HO2 := hid (HO2.out.ext hE)
          replace HG := hid (HG.out.ext hE)
          replace HS2 := hid (HS2.out.ext hE)
          have E2 := hE
          clear hE
          by_cases hlt : i < gS2.length
          · as_aux_lemma =>
              have tl : decide ((i : Int) < (gS2.length : Int)) = true := by simpa using hlt
              obtain ⟨a', c', he, hcc1, hcc2, hown⟩ := HS2.out.shape
              simp only [Value.slice.injEq, true_and] at he
              obtain ⟨rfl, rfl⟩ := he
              obtain ⟨G, rfl, hG1, hG2⟩ := hown.resolve_left (by omega)
              have sH := HS2.out.at_ hlt rfl
              have sL := HS2.out.icell (j := 0) hlt (by omega)
              have sU := HS2.out.icell (j := 1) hlt (by omega)
              obtain ⟨ia, ib, h1, h2, h3, h4, h5, h6, h7⟩ := HENT.out i (by omega)
              rw [show (SR.getD i []).getD 0 0 = (ia : Int) from h1] at sL
              rw [show (SR.getD i []).getD 1 0 = (ib : Int) from h2] at sU
              obtain ⟨gi, hgi⟩ : ∃ g, g = gS2.getD i 0 := ⟨_, rfl⟩
              rw [← hgi] at sH sL sU
              clear hgi h1 h2
              obtain ⟨bG, oG, hbe, hbG, q0, q1, q2⟩ := row3_at HG.out (show ia < m4 by omega)
              subst hbe
              obtain ⟨b2, o2, hbe, _, p0, p1, p2⟩ := row3_at HG.out h4
              simp only [Option.some.injEq, Addr.mk.injEq, and_true] at hbe
              obtain ⟨rfl, rfl⟩ := hbe
              rw [h5] at p0
              have hba := okSs_bd HOK.out ia (by omega)
              have hbb := okSs_bd HOK.out ib h4
              obtain ⟨OA, hOA⟩ : ∃ x, x = shOp zs4 ia := ⟨_, rfl⟩
              obtain ⟨TA, hTA⟩ : ∃ x, x = shTo zs4 ia := ⟨_, rfl⟩
              obtain ⟨FB, hFB⟩ : ∃ x, x = shFr zs4 ib := ⟨_, rfl⟩
              obtain ⟨TB, hTB⟩ : ∃ x, x = shTo zs4 ib := ⟨_, rfl⟩
              rw [← hTA] at hba h6 h7 q2
              rw [← hFB] at hbb h6 h7 p1
              rw [← hTB] at hbb
              rw [← hOA] at p0 q0
              obtain ⟨_, _, _, hta1, hta2⟩ := hba
              obtain ⟨_, _, hfb1, hfb2, hfb3⟩ := hbb
              have hfa : (0 : Int) ≤ shFr zs4 ia := (okSs_bd HOK.out ia (by omega)).2.2.1
              clear hOA hTA hFB hTB q1 p2 h5 hcc1 hcc2 hown
              have hA0 : (0 : Int) ≤ (ia : Int) := Int.natCast_nonneg _
              have hA1 : (ia : Int) < (m4 : Int) := by omega
              have hB0 : (0 : Int) ≤ (ib : Int) := Int.natCast_nonneg _
              have hB1 : (ib : Int) < (m4 : Int) := by omega
              have hA2 : ia < m4 := by omega
              have hi0 : (0 : Int) ≤ (i : Int) := Int.natCast_nonneg _
              have u1 : decide ((ib : Int) ≤ (ia : Int)) = false := by simp; omega
              have u1b : decide (ib ≤ ia) = false := by simp; omega
              have e1 : IntKind.i64.wrap (FB - TA) = FB - TA := IntWalk.i64_in _ (by omega)
              have u2 : decide (LS ≤ FB - TA) = false := by simp; omega
              have u3 : decide (FB ≤ TA) = false := by simp; omega
              go_wp2_with (fail)
              change (Code.region 39 (List.toArray (_ :: _ :: _ :: _ :: _ :: _ :: _ :: _ :: _ :: _ :: _ :: _ :: _ :: _ :: _ :: _ :: _ :: _ :: _ :: _ :: _ :: _ :: _ :: _ :: _ :: _ :: _ :: _ :: _ :: _ :: _ :: _ :: _ :: _ :: _ :: _ :: _ :: _ :: _ :: _ :: _ :: _ :: _ :: _ :: _ :: _ :: _ :: _ :: _ :: _ :: _ :: _ :: _ :: _ :: _ :: _ :: _ :: _ :: _ :: _ :: _ :: _ :: _ :: _ :: _ :: [])) true).wp _ _ _ _
              go_quiet (fail)
              go_wp2_with (fail)
              go_roundw
              case rel => exact ⟨i + 1, by omega, by go_num, E2.drewN _⟩
              case measure => simp [intOf]; omega
          · as_aux_lemma =>
              obtain rfl : i = gS2.length := by omega
              have tl : decide ((gS2.length : Int) < (gS2.length : Int)) = false := by simp
              go_wp2_with (fail)
              go_meet
              exact ⟨E, HA.out, HO2.out⟩
  case rest =>
  clear E HA HO2 HG HS2 HFS HWS
  obtain ⟨E, qHA, qHO2⟩ := hcut
  have HA := hid qHA
  have HO2 := hid qHO2
  clear qHA qHO2
  cases okO with
  | false =>
    go_wp2_with (fail)
    go_ret
    exact ⟨rfl, E⟩
  | true =>
    as_aux_lemma =>
      obtain ⟨okA, ⟨hX0, hX1⟩, hbd, hch, hcv⟩ := HFO.out rfl
      have HOK := hid okA
      have HBD := hid hbd
      have HCH := hid hch
      have HCV := hid hcv
      have hOL := HO2.out.len
      have hOB1 : gO2.length ≤ 1000 := by rw [hOL]; exact HWO.out.1
      have HOL := hid hOL
      clear hOL okA hbd hch hcv HFO
      obtain ⟨i0, hib, hz0, hz1, hz2⟩ := info_parts info_bool
      go_wp2_with (first | (at_make; refine wpList_make_full _ rfl _ _ 43 rfl wc.heap.size 4 i0 _ 1 Tryd.underlying43 hib hz0 hz1 .i64 .i64 _ _ 168 rfl rfl rfl rfl (by rw [hz2]; omega) (by unfold maxLen; omega) (Nat.le_refl _) ?_; intro wM hown hgrow))
      have hEM : Ext wc wM := (Ext.refl _).of_grown hgrow
      have hrow0 : wM.ownsRow wc.heap.size 4 1 (.slice (some ⟨wc.heap.size, 0, none⟩) 168 168) 168 (fnL (cov O 0)) := by
        rw [show fnL (cov O 0) = fnL (fun _ => false) from rfl]
        rw [← made_bool]
        exact hown
      clear hown hgrow
      obtain ⟨gF, hgF⟩ : ∃ g, g = wc.heap.size := ⟨_, rfl⟩
      rw [← hgF] at hrow0 ⊢
      have hgW : wc.heap.size ≤ gF := by omega
      clear hgF
      have HO2c := hid (show Lists wc bO (.slice aO2 gO2.length dO2) 2 gO2 O from HO2.out)
      go_loopw [51, 404] (fun s51 s404 wr => ∃ i : Nat, i ≤ gO2.length ∧ s404 = .int .i64 (i : Int) ∧ s51 = .int .i64 (if i = 0 then -1 else hiZ O (i - 1)) ∧ wr.ownsRow gF 4 1 (.slice (some ⟨gF, 0, none⟩) 168 168) 168 (fnL (cov O i)) ∧ Ext wc wr)
        (fun _ i _ => gO2.length - (intOf i).toNat)
      case atStart => exact ⟨0, Nat.zero_le _, rfl, rfl, hrow0, hEM⟩
      case round =>
        obtain ⟨i, hi, rfl, rfl, hrow, hE⟩ := hrel
        clear hrow0 hEM
        obtain ⟨BH, hBH⟩ : ∃ b, b = (if i = 0 then (-1 : Int) else hiZ O (i - 1)) := ⟨_, rfl⟩
        rw [← hBH]
        have HBH := hid hBH
        clear hBH
        replace E := E.trans hE
        replace HA := hid (HA.out.ext hE)
        replace HO2 := hid (HO2.out.ext hE)
        have E2 := hE
        clear hE
        by_cases hlt : i < gO2.length
        · as_aux_lemma =>
            have tl : decide ((i : Int) < (gO2.length : Int)) = true := by simpa using hlt
            obtain ⟨a', c', he, hcc1, hcc2, hown⟩ := HO2.out.shape
            simp only [Value.slice.injEq, true_and] at he
            obtain ⟨rfl, rfl⟩ := he
            obtain ⟨G, rfl, hG1, hG2⟩ := hown.resolve_left (by omega)
            have sH := HO2.out.at_ hlt rfl
            have sL := HO2.out.icell (j := 0) hlt (by omega)
            have sU := HO2.out.icell (j := 1) hlt (by omega)
            have cL := HO2c.out.icell (j := 0) hlt (by omega)
            have cU := HO2c.out.icell (j := 1) hlt (by omega)
            have hgl := (HO2c.out.inlt i hlt).2
            have hiO : i < O.length := by have := HOL.out; omega
            obtain ⟨hb1, hb2, hb3⟩ := HBD.out i hiO
            have hbeh : BH < loZ O i := by
              rw [HBH.out]
              by_cases e : i = 0
              · rw [if_pos e]; omega
              · rw [if_neg e]
                have := HCH.out (i - 1) (by omega)
                rw [show i - 1 + 1 = i by omega] at this
                exact this
            clear HBH hiO
            rw [show (O.getD i []).getD 0 0 = loZ O i from rfl] at sL cL
            rw [show (O.getD i []).getD 1 0 = hiZ O i from rfl] at sU cU
            obtain ⟨gi, hgi⟩ : ∃ g, g = gO2.getD i 0 := ⟨_, rfl⟩
            rw [← hgi] at sH sL sU cL cU hgl
            clear hgi hown hcc1 hcc2
            obtain ⟨LO, hLO⟩ : ∃ x, x = loZ O i := ⟨_, rfl⟩
            obtain ⟨HI, hHI⟩ : ∃ x, x = hiZ O i := ⟨_, rfl⟩
            have HCI := hid (show ∀ x, cov O (i + 1) x = (cov O i x || inR (x : Int) LO (HI - 1)) from fun x => by rw [hLO, hHI]; rfl)
            have HHI := hid hHI
            rw [← hLO] at sL cL hb1 hb2 hbeh
            rw [← hHI] at sU cU hb2 hb3
            clear hLO hHI
            have HCL := hid cL
            have HCU := hid cU
            clear cL cU
            obtain ⟨lo, rfl⟩ := Int.eq_ofNat_of_zero_le hb1
            have hi0 : (0 : Int) ≤ (i : Int) := Int.natCast_nonneg _
            have u1 : decide ((lo : Int) ≤ BH) = false := by simp; omega
            have u2 : decide (HI ≤ (lo : Int)) = false := by simp; omega
            have u3 : decide (168 < HI) = false := by simp; omega
            have u4 : decide ((lo : Int) < 0) = false := by simp
            go_wp2_with (fail)
            go_quiet (fail)
            rename Nat => nq
            have hrow2 := row_ext hrow ((Ext.refl wr).drewN nq)
            have kq : Ext wr (wr.drewN nq) := (Ext.refl wr).drewN nq
            generalize wr.drewN nq = wy at hrow2 kq ⊢
            clear hrow
            replace E2 := E2.trans kq
            have hL1 := (Ext.cells E2).1 gi 0 hgl
            have hU1 := (Ext.cells E2).1 gi 1 hgl
            rw [HCL.out] at hL1
            rw [HCU.out] at hU1
            clear sH sL sU kq HA HO2 HO2c E
            go_wp2_with (fail)
            have hcov0 : wy.ownsRow gF 4 1 (.slice (some ⟨gF, 0, none⟩) 168 168) 168 (fnL (fun x => cov O i x || inR (x : Int) lo ((lo : Int) - 1))) := by
              rw [show fnL (fun x => cov O i x || inR (x : Int) lo ((lo : Int) - 1)) = fnL (cov O i) from fnL_congr fun x _ => by
                rw [show inR (x : Int) lo ((lo : Int) - 1) = false by rw [← Bool.not_eq_true, inR_iff]; omega, Bool.or_false]]
              exact hrow2
            go_loopw [54] (fun s54 wr => ∃ h : Nat, lo ≤ h ∧ (h : Int) ≤ HI ∧ s54 = .int .i64 (h : Int) ∧ wr.ownsRow gF 4 1 (.slice (some ⟨gF, 0, none⟩) 168 168) 168 (fnL (fun x => cov O i x || inR (x : Int) lo ((h : Int) - 1))) ∧ Ext wc wr)
              (fun j _ => 168 - (intOf j).toNat)
            case atStart => exact ⟨lo, Nat.le_refl _, by omega, rfl, hcov0, E2⟩
            case round =>
              obtain ⟨h, hlo, hhi, rfl, hrow, E3⟩ := hrel
              clear hcov0 hrow2 hL1 hU1 E2
              have hL2 := (Ext.cells E3).1 gi 0 hgl
              have hU2 := (Ext.cells E3).1 gi 1 hgl
              rw [HCL.out] at hL2
              rw [HCU.out] at hU2
              by_cases hc : (h : Int) < HI
              · as_aux_lemma =>
                  have u5 : decide ((h : Int) < HI) = true := by simpa using hc
                  have hh0 : (0 : Int) ≤ (h : Int) := Int.natCast_nonneg _
                  have hh1 : (h : Int) < 168 := by omega
                  have hh2 : h < 168 := by omega
                  obtain ⟨uu, cu, _⟩ := row_cell hrow h (by omega)
                  have fu := hrow.frozenAt h
                  have HS := hid (hrow.stored h (.bool true)).1
                  go_wp2_with (fail)
                  go_roundw
                  case rel =>
                    refine ⟨h + 1, by omega, by omega, by go_num, ?_, Ext.setCell E3 hgW _⟩
                    have hs := HS.out
                    rw [fnL_set] at hs
                    rw [show fnL (fun x => cov O i x || inR (x : Int) lo (((h + 1 : Nat) : Int) - 1)) = fnL (fun x => (cov O i x || inR (x : Int) lo ((h : Int) - 1)) || decide (x = h)) from fnL_congr fun x _ => by
                      rw [Bool.or_assoc]
                      congr 1
                      rw [Bool.eq_iff_iff, Bool.or_eq_true, inR_iff, inR_iff, decide_eq_true_eq]
                      omega]
                    exact hs
                  case measure => simp [intOf]; omega
              · as_aux_lemma =>
                  have u5 : decide ((h : Int) < HI) = false := by simpa using hc
                  have ehi : (h : Int) = HI := by omega
                  have HR3 := hid (show wr.ownsRow gF 4 1 (.slice (some ⟨gF, 0, none⟩) 168 168) 168 (fnL (cov O (i + 1))) by
                    rw [show fnL (cov O (i + 1)) = fnL (fun x => cov O i x || inR (x : Int) lo ((h : Int) - 1)) from fnL_congr fun x _ => by rw [HCI.out x, ehi]]
                    exact hrow)
                  clear hrow ehi
                  go_wp2_with (fail)
                  go_roundw
                  case rel => exact ⟨i + 1, by omega, by go_num, by rw [if_neg (by omega), show i + 1 - 1 = i by omega, HHI.out], HR3.out, E3⟩
                  case measure => simp [intOf]; omega
        · as_aux_lemma =>
            obtain rfl : i = gO2.length := by omega
            have tl : decide ((gO2.length : Int) < (gO2.length : Int)) = false := by simp
            have HCF := hid (fun (x : Nat) (hx : x < 168) => show cov O gO2.length x = decide (((onL zs (x : Int) m).length : Int) < X) by
              rw [Bool.eq_iff_iff, cov_iff, decide_eq_true_eq, HOL.out]
              exact HCV.out x hx)
            clear HCV HBD HCH
            go_wp2_with (fail)
            clear hi hlt tl HBH HO2c HOL
            have HRW := hid hrow
            clear hrow
            go_loopw [458] (fun s458 wq => ∃ h : Nat, h ≤ 168 ∧ s458 = .int .i64 (h : Int) ∧ Ext wr wq)
              (fun j _ => 168 - (intOf j).toNat)
            case atStart => exact ⟨0, Nat.zero_le _, rfl, Ext.refl _⟩
            case round =>
              obtain ⟨h, hh, rfl, hE⟩ := hrel
              have HRW2 := hid (row_ext HRW.out hE)
              replace E := E.trans hE
              replace E2 := E2.trans hE
              replace HA := hid (HA.out.ext hE)
              replace HO2 := hid (HO2.out.ext hE)
              have E3 := hE
              clear hE HRW
              by_cases hc : h < 168
              · as_aux_lemma =>
                  have u5 : decide ((h : Int) < 168) = true := by simp; omega
                  obtain ⟨dd, d2, hw, hn⟩ := onOk (h := (h : Int)) HOK.out (by omega) (by omega) (.slice aA m dA)
                  clear dd
                  have hcf := HCF.out h hc
                  obtain ⟨L, hL⟩ : ∃ L, L = onL zs (h : Int) m := ⟨_, rfl⟩
                  rw [← hL] at d2 hw hn hcf
                  clear hL
                  obtain ⟨nL, hnL⟩ : ∃ k, k = L.length := ⟨_, rfl⟩
                  rw [← hnL] at d2 hn hcf
                  clear hnL
                  have HWL := hid (And.intro hw hn)
                  have HCFH := hid hcf
                  clear hw hn hcf
                  go_wp2_with (fail)
                  refine (d2 _ HA.out).mono ?_
                  rintro e s18 ⟨vU, rfl, hr, k18⟩
                  replace E := E.trans k18
                  replace E2 := E2.trans k18
                  replace E3 := E3.trans k18
                  replace HA := hid (HA.out.ext k18)
                  replace HO2 := hid (HO2.out.ext k18)
                  have HRW3 := hid (row_ext HRW2.out k18)
                  obtain ⟨aU, dU, rfl, _, _, _⟩ := row_shape hr
                  clear hr d2 HRW2 k18
                  have sF := few_cell HRW3.out hc
                  rw [HCFH.out] at sF
                  have hh0 : (0 : Int) ≤ (h : Int) := Int.natCast_nonneg _
                  have hh1 : (h : Int) < 168 := by omega
                  clear HRW3 HCFH HCF
                  by_cases hlx : (nL : Int) < X
                  · have u6 : decide ((nL : Int) < X) = true := by simpa using hlx
                    rw [u6] at sF
                    go_wp2_with (fail)
                    go_roundw
                    case rel => exact ⟨h + 1, by omega, by go_num, E3⟩
                    case measure => simp [intOf]; omega
                  · have u6 : decide ((nL : Int) < X) = false := by simpa using hlx
                    rw [u6] at sF
                    go_wp2_with (fail)
                    go_roundw
                    case rel => exact ⟨h + 1, by omega, by go_num, E3⟩
                    case measure => simp [intOf]; omega
              · as_aux_lemma =>
                  obtain rfl : h = 168 := by omega
                  have u5 : decide (((168 : Nat) : Int) < 168) = false := by simp
                  go_wp2_with (fail)
                  go_ret
                  exact ⟨rfl, E⟩
end Go.Proofs.YtedkffdkhnfoiaaDoor