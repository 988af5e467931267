/- The law of held messages: starts are clear and follow each other, arrivals come after them, waits add up. No condition. -/
import Derived.Test.YtlmfohjfbolhpaaHolR
import Derived.Deep.RegionHeld3
namespace Go.Proofs.Ytlmfohjfbolhpaa
open Go.RowKit
set_option linter.unusedSimpArgs false
set_option linter.unusedVariables false

set_option maxRecDepth 100000 in
set_option maxHeartbeats 20000000 in
theorem walkFnHolds (v0 : Value) (n0 : Nat) (z0 : List Int) (v1 : Value) (n1 : Nat) (z1 : List Int) (w : World) (r0 : IntRow .u8 1 w v0 n0 z0) (r1 : IntRow .u8 1 w v1 n1 z1) :
    Calls Try.prog 12 #[v0, v1] w fun e w' => e = .returned (.bool true) ∧ Ext w w' := by
  obtain ⟨a0, c0, rfl⟩ := introw_sl r0
  obtain ⟨a1, c1, rfl⟩ := introw_sl r1
  go_enter Try.func12, Try.ntmps12
  go_wp2_with (fail)
  refine (big_any _ n0 z0 _ n1 z1 _ r0 r1).mono ?_
  rintro e w' ⟨bg, rfl, hbg, rfl⟩
  cases bg with
  | true =>
    go_wp2_with (fail)
    go_ret
    exact ⟨rfl, Ext.refl _⟩
  | false =>
  obtain ⟨hm0, hm1⟩ := hbg rfl
  clear hbg

  have E : Ext w w := Ext.refl w
  have R1 := hid r1
  clear r1
  go_wp2_with (fail)
  refine (drawHold _ n0 z0 _ r0 (by omega)).mono ?_
  rintro e w1 ⟨vN, vF, vJ, lk, rfl, hq, hlk, k1⟩
  replace E := E.trans k1
  replace R1 := hid (R1.out.ext k1)
  clear k1
  obtain ⟨nT, zT, nL, zL, nF, zF, m, y, hN, hF, hJ, _, hL45, hF61, hm21⟩ := hq
  obtain ⟨aT, cT, aL, cL, rfl⟩ := hN.shape
  obtain ⟨aF, cF, rfl⟩ := introw_sl hF
  obtain ⟨aJ, cJ, rfl⟩ := introw_sl hJ
  have HN := hid hN
  have HF := hid hF
  have HJ := hid hJ
  clear hN hF hJ
  go_wp2_with (fail)
  obtain ⟨b5, hb5⟩ : ∃ b, b = w1.heap.size := ⟨_, rfl⟩
  have N5 := NBx.new w1 (.slice aT nT cT) (.slice aL nL cL)
  have k2 : Ext w1 (w1.alloc (.cells #[.slice aT nT cT, .slice aL nL cL] 35)) := (Ext.refl _).alloc _
  replace E := E.trans k2
  replace R1 := hid (R1.out.ext k2)
  replace HN := hid (HN.out.ext k2)
  replace HF := hid (HF.out.ext k2)
  replace HJ := hid (HJ.out.ext k2)
  clear k2
  rw [← hb5] at N5 ⊢
  clear hb5
  generalize w1.alloc (.cells #[.slice aT nT cT, .slice aL nL cL] 35) = w2 at N5 E R1 HN HF HJ ⊢
  have N5a := N5.1
  have N5b := N5.2.1
  have N5c := N5.2.2.2.2
  clear r0
  obtain ⟨LS, LA, WS, MT, MK, ok, jb, c1, c2, c3, c4, c5, c6, c7, c8, c9, c10, ⟨hwS, hwA, hlS, hlA⟩, hok⟩ := holdAll (.agg #[.slice aT nT cT, .slice aL nL cL]) nT zT nL zL (.slice aF nF cF) nF zF lk (.slice aJ m cJ) m y
  obtain ⟨nS, hnS⟩ : ∃ x, x = LS.length := ⟨_, rfl⟩
  obtain ⟨nA, hnA⟩ : ∃ x, x = LA.length := ⟨_, rfl⟩
  have HWS := hid (And.intro hwS hlS)
  have HWA := hid (And.intro hwA hlA)
  have HOK := hid hok
  rw [← hnS] at c1 c2 HWS
  rw [← hnA] at c3 c4 HWA
  have HNS := hid hnS
  have HNA := hid hnA
  clear hwS hwA hlS hlA hok hnS hnA
  go_wp2_with (fail)
  refine (c1 _ HN.out HF.out HJ.out).mono ?_
  rintro e w3 ⟨vS1, rfl, hr, k3⟩
  clear N5a N5b N5c
  replace E := E.trans k3
  replace N5 := N5.ext k3
  replace R1 := hid (R1.out.ext k3)
  replace HN := hid (HN.out.ext k3)
  replace HF := hid (HF.out.ext k3)
  replace HJ := hid (HJ.out.ext k3)
  have HS1 := hid (row_ints hr (by have := HWS.out.2; unfold maxLen; omega) HWS.out.1)
  obtain ⟨aS1, dS1, rfl⟩ := introw_sl HS1.out
  clear hr k3
  have N5a := N5.1
  have N5b := N5.2.1
  have N5c := N5.2.2.2.2
  go_wp2_with (fail)
  refine (c2 _ HN.out HF.out HJ.out).mono ?_
  rintro e w4 ⟨vS2, rfl, hr, k4⟩
  clear N5a N5b N5c
  replace E := E.trans k4
  replace N5 := N5.ext k4
  replace R1 := hid (R1.out.ext k4)
  replace HN := hid (HN.out.ext k4)
  replace HF := hid (HF.out.ext k4)
  replace HJ := hid (HJ.out.ext k4)
  replace HS1 := hid (HS1.out.ext k4)
  have HS2 := hid (row_ints hr (by have := HWS.out.2; unfold maxLen; omega) HWS.out.1)
  obtain ⟨aS2, dS2, rfl⟩ := introw_sl HS2.out
  clear hr k4
  have N5a := N5.1
  have N5b := N5.2.1
  have N5c := N5.2.2.2.2
  go_wp2_with (fail)
  refine (c3 _ HN.out HF.out HJ.out).mono ?_
  rintro e w5 ⟨vA1, rfl, hr, k5⟩
  clear N5a N5b N5c
  replace E := E.trans k5
  replace N5 := N5.ext k5
  replace R1 := hid (R1.out.ext k5)
  replace HN := hid (HN.out.ext k5)
  replace HF := hid (HF.out.ext k5)
  replace HJ := hid (HJ.out.ext k5)
  replace HS1 := hid (HS1.out.ext k5)
  replace HS2 := hid (HS2.out.ext k5)
  have HA1 := hid (row_ints hr (by have := HWA.out.2; unfold maxLen; omega) HWA.out.1)
  obtain ⟨aA1, dA1, rfl⟩ := introw_sl HA1.out
  clear hr k5
  have N5a := N5.1
  have N5b := N5.2.1
  have N5c := N5.2.2.2.2
  go_wp2_with (fail)
  refine (c4 _ HN.out HF.out HJ.out).mono ?_
  rintro e w6 ⟨vA2, rfl, hr, k6⟩
  clear N5a N5b N5c
  replace E := E.trans k6
  replace N5 := N5.ext k6
  replace R1 := hid (R1.out.ext k6)
  replace HN := hid (HN.out.ext k6)
  replace HF := hid (HF.out.ext k6)
  replace HJ := hid (HJ.out.ext k6)
  replace HS1 := hid (HS1.out.ext k6)
  replace HS2 := hid (HS2.out.ext k6)
  replace HA1 := hid (HA1.out.ext k6)
  have HA2 := hid (row_ints hr (by have := HWA.out.2; unfold maxLen; omega) HWA.out.1)
  obtain ⟨aA2, dA2, rfl⟩ := introw_sl HA2.out
  clear hr k6
  have N5a := N5.1
  have N5b := N5.2.1
  have N5c := N5.2.2.2.2
  go_wp2_with (fail)
  refine (c5 _ HN.out HF.out HJ.out).mono ?_
  rintro e w7 ⟨rfl, k7⟩
  clear N5a N5b N5c
  replace E := E.trans k7
  replace N5 := N5.ext k7
  replace R1 := hid (R1.out.ext k7)
  replace HN := hid (HN.out.ext k7)
  replace HF := hid (HF.out.ext k7)
  replace HJ := hid (HJ.out.ext k7)
  replace HS1 := hid (HS1.out.ext k7)
  replace HS2 := hid (HS2.out.ext k7)
  replace HA1 := hid (HA1.out.ext k7)
  replace HA2 := hid (HA2.out.ext k7)
  clear k7
  have N5a := N5.1
  have N5b := N5.2.1
  have N5c := N5.2.2.2.2
  go_wp2_with (fail)
  refine (c6 _ HN.out HF.out HJ.out).mono ?_
  rintro e w8 ⟨rfl, k8⟩
  clear N5a N5b N5c
  replace E := E.trans k8
  replace N5 := N5.ext k8
  replace R1 := hid (R1.out.ext k8)
  replace HN := hid (HN.out.ext k8)
  replace HF := hid (HF.out.ext k8)
  replace HJ := hid (HJ.out.ext k8)
  replace HS1 := hid (HS1.out.ext k8)
  replace HS2 := hid (HS2.out.ext k8)
  replace HA1 := hid (HA1.out.ext k8)
  replace HA2 := hid (HA2.out.ext k8)
  clear k8
  have N5a := N5.1
  have N5b := N5.2.1
  have N5c := N5.2.2.2.2
  go_wp2_with (fail)
  refine (sameInts_same _ _ nS LS _ HS1.out HS2.out).mono ?_
  rintro e w9 ⟨rfl, k9⟩
  clear N5a N5b N5c
  replace E := E.trans k9
  replace N5 := N5.ext k9
  replace R1 := hid (R1.out.ext k9)
  replace HN := hid (HN.out.ext k9)
  replace HF := hid (HF.out.ext k9)
  replace HJ := hid (HJ.out.ext k9)
  replace HS1 := hid (HS1.out.ext k9)
  replace HS2 := hid (HS2.out.ext k9)
  replace HA1 := hid (HA1.out.ext k9)
  replace HA2 := hid (HA2.out.ext k9)
  clear k9
  have N5a := N5.1
  have N5b := N5.2.1
  have N5c := N5.2.2.2.2
  go_wp2_with (fail)
  refine (sameInts_same _ _ nA LA _ HA1.out HA2.out).mono ?_
  rintro e w10 ⟨rfl, k10⟩
  clear N5a N5b N5c
  replace E := E.trans k10
  replace N5 := N5.ext k10
  replace R1 := hid (R1.out.ext k10)
  replace HN := hid (HN.out.ext k10)
  replace HF := hid (HF.out.ext k10)
  replace HJ := hid (HJ.out.ext k10)
  replace HS1 := hid (HS1.out.ext k10)
  replace HS2 := hid (HS2.out.ext k10)
  replace HA1 := hid (HA1.out.ext k10)
  replace HA2 := hid (HA2.out.ext k10)
  clear k10
  have N5a := N5.1
  have N5b := N5.2.1
  have N5c := N5.2.2.2.2
  go_wp2_with (fail)
  refine (c7 _ HN.out HF.out HJ.out).mono ?_
  rintro e w11 ⟨rfl, k11⟩
  clear N5a N5b N5c
  replace E := E.trans k11
  replace N5 := N5.ext k11
  replace R1 := hid (R1.out.ext k11)
  replace HN := hid (HN.out.ext k11)
  replace HF := hid (HF.out.ext k11)
  replace HJ := hid (HJ.out.ext k11)
  replace HS1 := hid (HS1.out.ext k11)
  replace HS2 := hid (HS2.out.ext k11)
  replace HA1 := hid (HA1.out.ext k11)
  replace HA2 := hid (HA2.out.ext k11)
  clear k11
  have N5a := N5.1
  have N5b := N5.2.1
  have N5c := N5.2.2.2.2
  go_wp2_with (fail)
  refine (c8 _ HN.out HF.out HJ.out).mono ?_
  rintro e w12 ⟨rfl, k12⟩
  clear N5a N5b N5c
  replace E := E.trans k12
  replace N5 := N5.ext k12
  replace R1 := hid (R1.out.ext k12)
  replace HN := hid (HN.out.ext k12)
  replace HF := hid (HF.out.ext k12)
  replace HJ := hid (HJ.out.ext k12)
  replace HS1 := hid (HS1.out.ext k12)
  replace HS2 := hid (HS2.out.ext k12)
  replace HA1 := hid (HA1.out.ext k12)
  replace HA2 := hid (HA2.out.ext k12)
  clear k12
  have N5a := N5.1
  have N5b := N5.2.1
  have N5c := N5.2.2.2.2
  clear c1 c2 c3 c4 c5 c6 c7 c8 HS1 HA1
  go_upto_if 150 with (fail)
  go_cut [] from 24 to 303 (fun wx => Ext w wx ∧ IntRow .u8 1 wx (.slice a1 n1 c1) n1 z1)
  case first =>
    as_aux_lemma =>
      cases ok with
      | false =>
        clear c9 c10 HOK
        go_wp2_with (fail)
        go_meet
        exact ⟨E, R1.out⟩
      | true =>
        obtain ⟨D, EN, SM, hlS, hlA, hm20, ⟨hl0, hl1, hnL40⟩, hD, ⟨hD1, hD60⟩, hE0, hS0, hSm, hk, c11, hMW, ⟨hMK0, hMK20⟩⟩ := HOK.out rfl
        obtain ⟨lk, rfl⟩ := Int.eq_ofNat_of_zero_le hl0
        rw [Int.toNat_natCast] at hD
        obtain rfl : nS = m := HNS.out.trans hlS
        obtain rfl : nA = nS := HNA.out.trans hlA
        have HD := hid hD
        have HK := hid hk
        have HE0 := hid hE0
        have HS0 := hid hS0
        have HSM := hid hSm
        have HMW := hid hMW
        clear HOK HNS HNA hlS hlA hD hk hE0 hS0 hSm hMW hlk
        go_wp2_with (fail)
        go_loopw [21, 22, 153] (fun s21 s22 s153 wr => ∃ k : Nat, k ≤ nA ∧ s153 = .int .i64 (k : Int) ∧ s21 = .int .i64 (EN k) ∧ s22 = .int .i64 (SM k) ∧ Ext w12 wr)
          (fun _ _ i _ => nA - (intOf i).toNat)
        case atStart => exact ⟨0, Nat.zero_le _, rfl, by rw [HE0.out], by rw [HS0.out], Ext.refl _⟩
        case round =>
          obtain ⟨k, hk, rfl, rfl, rfl, hE⟩ := hrel
          clear HE0 HS0
          clear N5a N5b N5c
          replace E := E.trans hE
          replace N5 := N5.ext hE
          replace R1 := hid (R1.out.ext hE)
          replace HN := hid (HN.out.ext hE)
          replace HF := hid (HF.out.ext hE)
          replace HJ := hid (HJ.out.ext hE)
          replace HS2 := hid (HS2.out.ext hE)
          replace HA2 := hid (HA2.out.ext hE)
          have E2 := hE
          clear hE
          have N5a := N5.1
          have N5b := N5.2.1
          have N5c := N5.2.2.2.2
          by_cases hlt : k < nA
          · as_aux_lemma =>
              have tl : decide ((k : Int) < (nA : Int)) = true := by simpa using hlt
              obtain ⟨f0, ⟨g1, g2, g3, g4⟩, g5, g6, g7, ⟨g8, g9⟩, g10⟩ := HK.out k hlt
              obtain ⟨f1, f2, f3, f4⟩ := f0
              obtain ⟨R, hR⟩ : ∃ x, x = hRd y k := ⟨_, rfl⟩
              obtain ⟨C, hC⟩ : ∃ x, x = hCt y k := ⟨_, rfl⟩
              obtain ⟨ST, hST⟩ : ∃ x, x = LS.getD k 0 := ⟨_, rfl⟩
              obtain ⟨EK, hEK⟩ : ∃ x, x = EN k := ⟨_, rfl⟩
              obtain ⟨SK, hSK⟩ : ∃ x, x = SM k := ⟨_, rfl⟩
              rw [← hR] at f1 f2 g3 g7
              rw [← hC] at f3 f4 g5 g6 g10
              rw [← hST] at g1 g2 g3 g4 g5 g6 g7 g10
              rw [← hEK] at g4 ⊢
              rw [← hSK] at g7 g8 g9 ⊢
              have G6 := hid g6
              have G7 := hid g7
              have G10 := hid g10
              obtain ⟨bJ, oJ, hbJ, hqJ, q0, q1⟩ : ∃ bJ oJ, aJ = some ⟨bJ, oJ, none⟩ ∧ bJ < wr.heap.size ∧ wr.cell? ⟨bJ, oJ + k * 2, none⟩ = some (.int .i64 R) ∧ wr.cell? ⟨bJ, oJ + k * 2 + 1, none⟩ = some (.int .i64 C) := by
                obtain ⟨_, _, _, a', c', he, _, _, hcell⟩ := HJ.out
                simp only [Value.slice.injEq, true_and] at he
                obtain ⟨rfl, rfl⟩ := he
                obtain ⟨b, oo, rfl, hbq, hc⟩ := hcell.resolve_left (by omega)
                exact ⟨b, oo, rfl, hbq, by rw [hR]; exact hc _ (by omega), by rw [hC, Nat.add_assoc]; exact hc _ (by omega)⟩
              obtain ⟨bS, oS, hbS, hqS, q2⟩ : ∃ bS oS, aS2 = some ⟨bS, oS, none⟩ ∧ bS < wr.heap.size ∧ wr.cell? ⟨bS, oS + k, none⟩ = some (.int .i64 ST) := by
                obtain ⟨_, _, _, a', c', he, _, _, hcell⟩ := HS2.out
                simp only [Value.slice.injEq, true_and] at he
                obtain ⟨rfl, rfl⟩ := he
                obtain ⟨b, oo, rfl, hbq, hc⟩ := hcell.resolve_left (by omega)
                exact ⟨b, oo, rfl, hbq, by rw [hST]; exact hc _ (by omega)⟩
              obtain ⟨bA, oA, hbA, hqA, q3⟩ : ∃ bA oA, aA2 = some ⟨bA, oA, none⟩ ∧ bA < wr.heap.size ∧ wr.cell? ⟨bA, oA + k, none⟩ = some (.int .i64 (ST + C * 10 + D)) := by
                obtain ⟨_, _, _, a', c', he, _, _, hcell⟩ := HA2.out
                simp only [Value.slice.injEq, true_and] at he
                obtain ⟨rfl, rfl⟩ := he
                obtain ⟨b, oo, rfl, hbq, hc⟩ := hcell.resolve_left (by omega)
                exact ⟨b, oo, rfl, hbq, by rw [show ST + C * 10 + D = ST + (C * 10 + D) by omega, ← g5]; exact hc _ (by omega)⟩
              obtain ⟨bL, oL, hbL, hqL, q4⟩ : ∃ bL oL, aL = some ⟨bL, oL, none⟩ ∧ bL < wr.heap.size ∧ wr.cell? ⟨bL, oL + lk * 3 + 2, none⟩ = some (.int .i64 D) := by
                obtain ⟨vT', vL', he, _, hL'⟩ := HN.out
                simp only [Value.agg.injEq, Array.mk.injEq, List.cons.injEq, and_true] at he
                obtain ⟨_, rfl⟩ := he
                obtain ⟨_, _, _, a', c', he, _, _, hcell⟩ := hL'
                simp only [Value.slice.injEq, true_and] at he
                obtain ⟨rfl, rfl⟩ := he
                obtain ⟨b, oo, rfl, hbq, hc⟩ := hcell.resolve_left (by omega)
                exact ⟨b, oo, rfl, hbq, by rw [← HD.out, Nat.add_assoc]; exact hc _ (by omega)⟩
              subst hbJ hbS hbA hbL
              have QS := hid (show CellAt wr bS (oS + k) (.int .i64 ST) from ⟨q2, hqS⟩)
              have QA := hid (show CellAt wr bA (oA + k) (.int .i64 (ST + C * 10 + D)) from ⟨q3, hqA⟩)
              have QL := hid (show CellAt wr bL (oL + lk * 3 + 2) (.int .i64 D) from ⟨q4, hqL⟩)
              have t1 : decide (ST < EK) = false := by simp; omega
              have t2 : decide (ST < R) = false := by simp; omega
              have e1 : IntKind.i64.wrap (C * 10) = C * 10 := IntWalk.i64_in _ (by omega)
              have e2 : IntKind.i64.wrap (ST + C * 10) = ST + C * 10 := IntWalk.i64_in _ (by omega)
              have e3 : IntKind.i64.wrap (ST + C * 10 + D) = ST + C * 10 + D := IntWalk.i64_in _ (by omega)
              have e4 : IntKind.i64.wrap (ST - R) = ST - R := IntWalk.i64_in _ (by omega)
              have e5 : IntKind.i64.wrap (SK + (ST - R)) = SK + (ST - R) := IntWalk.i64_in _ (by omega)
              have tk : decide ((lk : Int) < (nL : Int)) = true := by simp; omega
              clear hR hC hST hEK hSK g5 g6 g7 g10 q2 q3 q4 hqS hqA hqL
              go_upto_region 17 with (fail)
              obtain ⟨b6, hb6⟩ : ∃ b, b = wr.heap.size := ⟨_, rfl⟩
              have N6 : NBx (wr.alloc (.cells #[.int .i64 R, .int .i64 C] 62)) b6 (.int .i64 R) (.int .i64 C) := by rw [hb6]; exact ⟨by simp, by simp, trivial, trivial, by simp⟩
              rw [← hb6]
              clear hb6 q0 q1 hqJ
              have k13 : Ext wr (wr.alloc (.cells #[.int .i64 R, .int .i64 C] 62)) := (by repeat (first | exact Ext.refl _ | assumption | refine Ext.alloc ?_ _ | refine Ext.drew ?_ | refine Ext.drewN ?_ _ | refine Ext.setCell ?_ (by first | exact Nat.le_refl _ | (simp; done) | (dsimp only; omega) | (simp only [World.size_alloc, World.size_setCell]; omega)) _ | refine Ext.trans ?_ (by assumption)))
              skip
              clear N5a N5b N5c
              replace E := E.trans k13
              replace E2 := E2.trans k13
              replace N5 := N5.ext k13
              replace R1 := hid (R1.out.ext k13)
              replace HN := hid (HN.out.ext k13)
              replace HF := hid (HF.out.ext k13)
              replace HJ := hid (HJ.out.ext k13)
              replace HS2 := hid (HS2.out.ext k13)
              replace HA2 := hid (HA2.out.ext k13)
              replace QS := hid (QS.out.ext k13)
              replace QA := hid (QA.out.ext k13)
              replace QL := hid (QL.out.ext k13)
              clear k13
              generalize wr.alloc (.cells #[.int .i64 R, .int .i64 C] 62) = wx at E E2 R1 HN HF HJ HS2 HA2 QS QA QL N5 N6 ⊢
              have N5a := N5.1
              have N5b := N5.2.1
              have N5c := N5.2.2.2.2
              have N6a := N6.1
              have N6b := N6.2.1
              have N6c := N6.2.2.2.2
              have c2 := QS.out.1
              have b2 := QS.out.2
              have c3 := QA.out.1
              have b3 := QA.out.2
              have c4 := QL.out.1
              have b4 := QL.out.2
              by_cases hle : ST + C * 10 ≤ 10000
              · as_aux_lemma =>
                  have tle : decide (ST + C * 10 ≤ 10000) = true := by simpa using hle
                  go_wp2_with (fail)
                  go_quiet (fail)
                  rename Nat => nq
                  clear c2 b2 c3 b3 c4 b4
                  have k14 : Ext wx (wx.drewN nq) := (by repeat (first | exact Ext.refl _ | assumption | refine Ext.alloc ?_ _ | refine Ext.drew ?_ | refine Ext.drewN ?_ _ | refine Ext.setCell ?_ (by first | exact Nat.le_refl _ | (simp; done) | (dsimp only; omega) | (simp only [World.size_alloc, World.size_setCell]; omega)) _ | refine Ext.trans ?_ (by assumption)))
                  clear N5a N5b N5c N6a N6b N6c
                  replace E := E.trans k14
                  replace E2 := E2.trans k14
                  replace N5 := N5.ext k14
                  replace N6 := N6.ext k14
                  replace R1 := hid (R1.out.ext k14)
                  replace HN := hid (HN.out.ext k14)
                  replace HF := hid (HF.out.ext k14)
                  replace HJ := hid (HJ.out.ext k14)
                  replace HS2 := hid (HS2.out.ext k14)
                  replace HA2 := hid (HA2.out.ext k14)
                  replace QS := hid (QS.out.ext k14)
                  replace QA := hid (QA.out.ext k14)
                  replace QL := hid (QL.out.ext k14)
                  clear k14
                  generalize wx.drewN nq = wy at E E2 R1 HN HF HJ HS2 HA2 QS QA QL N5 N6 ⊢
                  have N5a := N5.1
                  have N5b := N5.2.1
                  have N5c := N5.2.2.2.2
                  have N6a := N6.1
                  have N6b := N6.2.1
                  have N6c := N6.2.2.2.2
                  have c2 := QS.out.1
                  have b2 := QS.out.2
                  have c3 := QA.out.1
                  have b3 := QA.out.2
                  have c4 := QL.out.1
                  have b4 := QL.out.2
                  go_upto_region 21 with (fail)
                  have c5 := G10.out hle
                  have SKP : ∀ w', Ext wy w' → (w'.cell? ⟨b5, 0, none⟩ = some (.slice aT nT cT) ∧ w'.cell? ⟨b5, 1, none⟩ = some (.slice (some ⟨bL, oL, none⟩) nL cL) ∧ w'.cell? ⟨bS, oS + k, none⟩ = some (.int .i64 ST)) := fun w' h => ⟨(N5.ext h).1, (N5.ext h).2.1, (QS.out.ext h).1⟩
                  have SK0 := SKP _ ((Ext.refl wy).drew)
                  have HSK := hid SKP
                  clear SKP
                  clear c2 b2 c3 b3 c4 b4
                  clear N5a N5b N5c N6a N6b N6c
                  go_region_held3 (fun w' => w'.cell? ⟨b5, 0, none⟩ = some (.slice aT nT cT) ∧ w'.cell? ⟨b5, 1, none⟩ = some (.slice (some ⟨bL, oL, none⟩) nL cL) ∧ w'.cell? ⟨bS, oS + k, none⟩ = some (.int .i64 ST))
                    (first | exact SK | exact SK0 | go_keep)
                    (first
                      | (go_at_call 57; refine (c5 _ (HN.out.ext (by repeat (first | exact Ext.refl _ | assumption | refine Ext.alloc ?_ _ | refine Ext.drew ?_ | refine Ext.drewN ?_ _ | refine Ext.setCell ?_ (by first | exact Nat.le_refl _ | (simp; done) | (dsimp only; omega) | (simp only [World.size_alloc, World.size_setCell]; omega)) _ | refine Ext.trans ?_ (by assumption)))) (HF.out.ext (by repeat (first | exact Ext.refl _ | assumption | refine Ext.alloc ?_ _ | refine Ext.drew ?_ | refine Ext.drewN ?_ _ | refine Ext.setCell ?_ (by first | exact Nat.le_refl _ | (simp; done) | (dsimp only; omega) | (simp only [World.size_alloc, World.size_setCell]; omega)) _ | refine Ext.trans ?_ (by assumption)))) (HJ.out.ext (by repeat (first | exact Ext.refl _ | assumption | refine Ext.alloc ?_ _ | refine Ext.drew ?_ | refine Ext.drewN ?_ _ | refine Ext.setCell ?_ (by first | exact Nat.le_refl _ | (simp; done) | (dsimp only; omega) | (simp only [World.size_alloc, World.size_setCell]; omega)) _ | refine Ext.trans ?_ (by assumption))))).mono ?_; rintro e w5 ⟨rfl, hb5⟩; have hE5 : Ext wy w5 := (by repeat (first | exact Ext.refl _ | assumption | refine Ext.alloc ?_ _ | refine Ext.drew ?_ | refine Ext.drewN ?_ _ | refine Ext.setCell ?_ (by first | exact Nat.le_refl _ | (simp; done) | (dsimp only; omega) | (simp only [World.size_alloc, World.size_setCell]; omega)) _ | refine Ext.trans ?_ (by assumption))); have SK := HSK.out _ hE5; clear hb5))
                  clear c5 SK0 HSK
                  try clear SK
                  replace E := E.trans hE5
                  replace E2 := E2.trans hE5
                  replace N5 := N5.ext hE5
                  replace N6 := N6.ext hE5
                  replace R1 := hid (R1.out.ext hE5)
                  replace HN := hid (HN.out.ext hE5)
                  replace HF := hid (HF.out.ext hE5)
                  replace HJ := hid (HJ.out.ext hE5)
                  replace HS2 := hid (HS2.out.ext hE5)
                  replace HA2 := hid (HA2.out.ext hE5)
                  replace QS := hid (QS.out.ext hE5)
                  replace QA := hid (QA.out.ext hE5)
                  replace QL := hid (QL.out.ext hE5)
                  have N5a := N5.1
                  have N5b := N5.2.1
                  have N5c := N5.2.2.2.2
                  have N6a := N6.1
                  have N6b := N6.2.1
                  have N6c := N6.2.2.2.2
                  have c2 := QS.out.1
                  have b2 := QS.out.2
                  have c3 := QA.out.1
                  have b3 := QA.out.2
                  have c4 := QL.out.1
                  have b4 := QL.out.2
                  clear hE5
                  clear c2 b2 c3 b3 c4 b4
                  have c2 := QS.out.1
                  have b2 := QS.out.2
                  have c3 := QA.out.1
                  have b3 := QA.out.2
                  have c4 := QL.out.1
                  have b4 := QL.out.2
                  go_wp2_with (fail)
                  go_quiet (fail)
                  go_wp2_with (fail)
                  go_roundw
                  case rel => exact ⟨k + 1, by omega, by go_num, by rw [G6.out], by rw [G7.out], (by repeat (first | exact Ext.refl _ | assumption | refine Ext.alloc ?_ _ | refine Ext.drew ?_ | refine Ext.drewN ?_ _ | refine Ext.setCell ?_ (by first | exact Nat.le_refl _ | (simp; done) | (dsimp only; omega) | (simp only [World.size_alloc, World.size_setCell]; omega)) _ | refine Ext.trans ?_ (by assumption)))⟩
                  case measure => simp [intOf]; omega
              · as_aux_lemma =>
                  have tle : decide (ST + C * 10 ≤ 10000) = false := by simpa using hle
                  go_wp2_with (fail)
                  go_quiet (fail)
                  rename Nat => nq
                  clear c2 b2 c3 b3 c4 b4
                  have k14 : Ext wx (wx.drewN nq) := (by repeat (first | exact Ext.refl _ | assumption | refine Ext.alloc ?_ _ | refine Ext.drew ?_ | refine Ext.drewN ?_ _ | refine Ext.setCell ?_ (by first | exact Nat.le_refl _ | (simp; done) | (dsimp only; omega) | (simp only [World.size_alloc, World.size_setCell]; omega)) _ | refine Ext.trans ?_ (by assumption)))
                  clear N5a N5b N5c N6a N6b N6c
                  replace E := E.trans k14
                  replace E2 := E2.trans k14
                  replace N5 := N5.ext k14
                  replace N6 := N6.ext k14
                  replace R1 := hid (R1.out.ext k14)
                  replace HN := hid (HN.out.ext k14)
                  replace HF := hid (HF.out.ext k14)
                  replace HJ := hid (HJ.out.ext k14)
                  replace HS2 := hid (HS2.out.ext k14)
                  replace HA2 := hid (HA2.out.ext k14)
                  replace QS := hid (QS.out.ext k14)
                  replace QA := hid (QA.out.ext k14)
                  replace QL := hid (QL.out.ext k14)
                  clear k14
                  generalize wx.drewN nq = wy at E E2 R1 HN HF HJ HS2 HA2 QS QA QL N5 N6 ⊢
                  have N5a := N5.1
                  have N5b := N5.2.1
                  have N5c := N5.2.2.2.2
                  have N6a := N6.1
                  have N6b := N6.2.1
                  have N6c := N6.2.2.2.2
                  have c2 := QS.out.1
                  have b2 := QS.out.2
                  have c3 := QA.out.1
                  have b3 := QA.out.2
                  have c4 := QL.out.1
                  have b4 := QL.out.2
                  clear c2 b2 c3 b3 c4 b4
                  have c2 := QS.out.1
                  have b2 := QS.out.2
                  have c3 := QA.out.1
                  have b3 := QA.out.2
                  have c4 := QL.out.1
                  have b4 := QL.out.2
                  go_wp2_with (fail)
                  go_quiet (fail)
                  go_wp2_with (fail)
                  go_roundw
                  case rel => exact ⟨k + 1, by omega, by go_num, by rw [G6.out], by rw [G7.out], (by repeat (first | exact Ext.refl _ | assumption | refine Ext.alloc ?_ _ | refine Ext.drew ?_ | refine Ext.drewN ?_ _ | refine Ext.setCell ?_ (by first | exact Nat.le_refl _ | (simp; done) | (dsimp only; omega) | (simp only [World.size_alloc, World.size_setCell]; omega)) _ | refine Ext.trans ?_ (by assumption)))⟩
                  case measure => simp [intOf]; omega
          · as_aux_lemma =>
              obtain rfl : k = nA := by omega
              have tl : decide ((k : Int) < (k : Int)) = false := by simp
              have hSW := HSM.out
              rw [hSW]
              clear hSW HSM HK
              go_wp2_with (fail)
              refine (c9 _ HN.out HF.out HJ.out).mono ?_
              rintro e q13 ⟨rfl, k13⟩
              clear N5a N5b N5c
              replace E := E.trans k13
              replace E2 := E2.trans k13
              replace N5 := N5.ext k13
              replace R1 := hid (R1.out.ext k13)
              replace HN := hid (HN.out.ext k13)
              replace HF := hid (HF.out.ext k13)
              replace HJ := hid (HJ.out.ext k13)
              replace HS2 := hid (HS2.out.ext k13)
              replace HA2 := hid (HA2.out.ext k13)
              clear k13
              have N5a := N5.1
              have N5b := N5.2.1
              have N5c := N5.2.2.2.2
              go_wp2_with (fail)
              refine (c10 _ HN.out HF.out HJ.out).mono ?_
              rintro e q14 ⟨rfl, k14⟩
              clear N5a N5b N5c
              replace E := E.trans k14
              replace E2 := E2.trans k14
              replace N5 := N5.ext k14
              replace R1 := hid (R1.out.ext k14)
              replace HN := hid (HN.out.ext k14)
              replace HF := hid (HF.out.ext k14)
              replace HJ := hid (HJ.out.ext k14)
              replace HS2 := hid (HS2.out.ext k14)
              replace HA2 := hid (HA2.out.ext k14)
              clear k14
              have N5a := N5.1
              have N5b := N5.2.1
              have N5c := N5.2.2.2.2
              go_wp2_with (fail)
              refine (c11 _ HN.out HF.out HJ.out).mono ?_
              rintro e q15 ⟨rfl, k15⟩
              clear N5a N5b N5c
              replace E := E.trans k15
              replace E2 := E2.trans k15
              replace N5 := N5.ext k15
              replace R1 := hid (R1.out.ext k15)
              replace HN := hid (HN.out.ext k15)
              replace HF := hid (HF.out.ext k15)
              replace HJ := hid (HJ.out.ext k15)
              replace HS2 := hid (HS2.out.ext k15)
              replace HA2 := hid (HA2.out.ext k15)
              clear k15
              have N5a := N5.1
              have N5b := N5.2.1
              have N5c := N5.2.2.2.2
              clear c9 c10 c11
              by_cases hz : MK = 0
              · have hw : WS = 0 := HMW.out.1 hz
                have u1 : decide (MK = 0) = true := by simpa using hz
                have u2 : (MK == 0) = true := by simpa using hz
                have u3 : decide (WS = 0) = true := by simpa using hw
                have u4 : (WS == 0) = true := by simpa using hw
                clear hz hw
                go_wp2_with (fail)
                go_meet
                exact ⟨E, R1.out⟩
              · have hw : ¬ WS = 0 := fun h => hz (HMW.out.2 h)
                have u1 : decide (MK = 0) = false := by simpa using hz
                have u2 : (MK == 0) = false := by simpa using hz
                have u3 : decide (WS = 0) = false := by simpa using hw
                have u4 : (WS == 0) = false := by simpa using hw
                clear hz hw
                go_wp2_with (fail)
                go_meet
                exact ⟨E, R1.out⟩
  case rest =>
    as_aux_lemma =>
      clear E R1 HN HF HJ HS2 HA2
      clear N5a N5b N5c
      clear N5
      clear c9 c10 HOK
      obtain ⟨E, r1⟩ := hcut
      have R1 := hid r1
      clear r1
      go_wp2_with (fail)
      refine (drawHeldAt _ n1 z1 _ R1.out (by omega)).mono ?_
      rintro e p13 ⟨vN, vF, vJ, lk2, tt, rfl, hq, _, k13⟩
      replace E := E.trans k13
      replace R1 := hid (R1.out.ext k13)
      clear k13
      obtain ⟨nTq, zTq, nLq, zLq, nFq, zFq, mq, yq, hN, hF, hJ, _, hL45q, hF61q, hm21q⟩ := hq
      obtain ⟨aTq, cTq, aLq, cLq, rfl⟩ := hN.shape
      obtain ⟨aFq, cFq, rfl⟩ := introw_sl hF
      obtain ⟨aJq, cJq, rfl⟩ := introw_sl hJ
      have HNq := hid hN
      have HFq := hid hF
      have HJq := hid hJ
      clear hN hF hJ
      go_wp2_with (fail)
      obtain ⟨b5q, hb5⟩ : ∃ b, b = p13.heap.size := ⟨_, rfl⟩
      have N5q := NBx.new p13 (.slice aTq nTq cTq) (.slice aLq nLq cLq)
      have k14 : Ext p13 (p13.alloc (.cells #[.slice aTq nTq cTq, .slice aLq nLq cLq] 35)) := (Ext.refl _).alloc _
      replace E := E.trans k14
      replace R1 := hid (R1.out.ext k14)
      replace HNq := hid (HNq.out.ext k14)
      replace HFq := hid (HFq.out.ext k14)
      replace HJq := hid (HJq.out.ext k14)
      clear k14
      rw [← hb5] at N5q ⊢
      clear hb5
      generalize p13.alloc (.cells #[.slice aTq nTq cTq, .slice aLq nLq cLq] 35) = p14 at N5q E R1 HNq HFq HJq ⊢
      have N5qa := N5q.1
      have N5qb := N5q.2.1
      have N5qc := N5q.2.2.2.2
      obtain ⟨hv, g, d1, d2, hg⟩ := heldPair (.agg #[.slice aTq nTq cTq, .slice aLq nLq cLq]) nTq zTq nLq zLq (.slice aFq nFq cFq) nFq zFq lk2 (.slice aJq mq cJq) mq yq tt
      have HG := hid hg
      clear hg
      go_wp2_with (fail)
      refine (d1 _ HNq.out HFq.out HJq.out).mono ?_
      rintro e p15 ⟨rfl, k15⟩
      clear N5qa N5qb N5qc
      replace E := E.trans k15
      replace N5q := N5q.ext k15
      replace R1 := hid (R1.out.ext k15)
      replace HNq := hid (HNq.out.ext k15)
      replace HFq := hid (HFq.out.ext k15)
      replace HJq := hid (HJq.out.ext k15)
      clear k15
      have N5qa := N5q.1
      have N5qb := N5q.2.1
      have N5qc := N5q.2.2.2.2
      go_wp2_with (fail)
      refine (d2 _ HNq.out HFq.out HJq.out).mono ?_
      rintro e p16 ⟨rfl, k16⟩
      clear N5qa N5qb N5qc
      replace E := E.trans k16
      replace N5q := N5q.ext k16
      replace R1 := hid (R1.out.ext k16)
      replace HNq := hid (HNq.out.ext k16)
      replace HFq := hid (HFq.out.ext k16)
      replace HJq := hid (HJq.out.ext k16)
      clear k16
      have N5qa := N5q.1
      have N5qb := N5q.2.1
      have N5qc := N5q.2.2.2.2
      cases g with
      | false =>
        go_wp2_with (fail)
        go_ret
        exact ⟨rfl, E⟩
      | true =>
        have hle := HG.out rfl
        have u1 : decide (hv ≤ (mq : Int)) = true := by simpa using hle
        go_wp2_with (fail)
        go_ret
        exact ⟨rfl, E⟩
end Go.Proofs.Ytlmfohjfbolhpaa