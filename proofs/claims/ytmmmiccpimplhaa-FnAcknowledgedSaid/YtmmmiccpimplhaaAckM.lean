/- The law of acknowledgements: what the sender knows has arrived, nothing is lost again, and in the end it knows all. No condition. -/
import Derived.Test.YtmmmiccpimplhaaAckL
namespace Go.Proofs.Ytmmmiccpimplhaa
open Go.RowKit
set_option linter.unusedSimpArgs false
set_option linter.unusedVariables false

set_option maxRecDepth 100000 in
set_option maxHeartbeats 8000000 in
theorem walkFnAcknowledged (v0 : Value) (n0 : Nat) (z0 : List Int) (v1 : Value) (n1 : Nat) (z1 : List Int) (w : World) (r0 : IntRow .u8 1 w v0 n0 z0) (r1 : IntRow .u8 1 w v1 n1 z1) :
    Calls Try.prog 9 #[v0, v1] w fun e w' => e = .returned (.bool true) ∧ Ext w w' := by
  obtain ⟨a0, c0, rfl⟩ := introw_slice r0
  obtain ⟨a1, c1, rfl⟩ := introw_slice r1
  have hm0 := r0.2.1
  unfold maxLen at hm0
  obtain ⟨TS, hTS⟩ : ∃ t, t = IntKind.i64.wrap ((n0 : Int) + (n1 : Int)) := ⟨_, rfl⟩
  have hws := hTS.symm
  by_cases hbig : (1048576 : Int) < TS
  · have tb : decide ((1048576 : Int) < TS) = true := by simpa using hbig
    clear hTS hbig
    go_enter Try.func9, Try.ntmps9
    go_wp2_with (fail)
    go_ret
    exact ⟨rfl, Ext.refl _⟩
  have tb : decide ((1048576 : Int) < TS) = false := by simpa using hbig
  clear hTS
  go_enter Try.func9, Try.ntmps9
  have E : Ext w w := Ext.refl w
  go_wp2_with (fail)
  refine (drawKnown _ n0 z0 _ r0 hm0).mono ?_
  rintro e w1 ⟨N, V, K, v, m, zs, rfl, hr, hm31, k1⟩
  replace E := E.trans k1
  clear k1
  clear hws tb hbig
  obtain ⟨av, cv, rfl⟩ := introw_slice hr
  have HR := hid hr
  clear hr
  obtain ⟨LK, LA, ST, R, TX, ok, g, c1, c2, c3, c4, c5, c6, c7, c8, c9, c10, hog, hwK, hwA, hg, hok⟩ := ackAll N V K (.slice av m cv) m zs
  have HG := hid hg
  have HOK := hid hok
  have HWK := hid hwK
  have HWA := hid hwA
  clear hg hok hwK hwA
  go_wp2_with (fail)
  refine (c1 _ HR.out).mono ?_
  rintro e w2 ⟨vXK, rfl, hr, k2⟩
  replace E := E.trans k2
  replace HR := hid (HR.out.ext k2)
  have HXK := hid (row_ints hr (by have := HWK.out.2; unfold maxLen; omega) HWK.out.1)
  obtain ⟨aXK, dXK, rfl⟩ := introw_slice HXK.out
  clear hr k2
  go_wp2_with (fail)
  refine (c2 _ HR.out).mono ?_
  rintro e w3 ⟨vSK, rfl, hr, k3⟩
  replace E := E.trans k3
  replace HR := hid (HR.out.ext k3)
  replace HXK := hid (HXK.out.ext k3)
  have HSK := hid (row_ints hr (by have := HWK.out.2; unfold maxLen; omega) HWK.out.1)
  obtain ⟨aSK, dSK, rfl⟩ := introw_slice HSK.out
  clear hr k3
  go_wp2_with (fail)
  refine (c3 _ HR.out).mono ?_
  rintro e w4 ⟨vXA, rfl, hr, k4⟩
  replace E := E.trans k4
  replace HR := hid (HR.out.ext k4)
  replace HXK := hid (HXK.out.ext k4)
  replace HSK := hid (HSK.out.ext k4)
  have HXA := hid (row_ints hr (by have := HWA.out.2; unfold maxLen; omega) HWA.out.1)
  obtain ⟨aXA, dXA, rfl⟩ := introw_slice HXA.out
  clear hr k4
  go_wp2_with (fail)
  refine (c4 _ HR.out).mono ?_
  rintro e w5 ⟨vSA, rfl, hr, k5⟩
  replace E := E.trans k5
  replace HR := hid (HR.out.ext k5)
  replace HXK := hid (HXK.out.ext k5)
  replace HSK := hid (HSK.out.ext k5)
  replace HXA := hid (HXA.out.ext k5)
  have HSA := hid (row_ints hr (by have := HWA.out.2; unfold maxLen; omega) HWA.out.1)
  obtain ⟨aSA, dSA, rfl⟩ := introw_slice HSA.out
  clear hr k5
  go_wp2_with (fail)
  refine (c5 _ HR.out).mono ?_
  rintro e w6 ⟨rfl, k6⟩
  replace E := E.trans k6
  replace HR := hid (HR.out.ext k6)
  replace HXK := hid (HXK.out.ext k6)
  replace HSK := hid (HSK.out.ext k6)
  replace HXA := hid (HXA.out.ext k6)
  replace HSA := hid (HSA.out.ext k6)
  clear k6
  go_wp2_with (fail)
  refine (c6 _ HR.out).mono ?_
  rintro e w7 ⟨rfl, k7⟩
  replace E := E.trans k7
  replace HR := hid (HR.out.ext k7)
  replace HXK := hid (HXK.out.ext k7)
  replace HSK := hid (HSK.out.ext k7)
  replace HXA := hid (HXA.out.ext k7)
  replace HSA := hid (HSA.out.ext k7)
  clear k7
  go_wp2_with (fail)
  refine (c7 _ HR.out).mono ?_
  rintro e w8 ⟨rfl, k8⟩
  replace E := E.trans k8
  replace HR := hid (HR.out.ext k8)
  replace HXK := hid (HXK.out.ext k8)
  replace HSK := hid (HSK.out.ext k8)
  replace HXA := hid (HXA.out.ext k8)
  replace HSA := hid (HSA.out.ext k8)
  clear k8
  go_wp2_with (fail)
  refine (c8 _ HR.out).mono ?_
  rintro e w9 ⟨rfl, k9⟩
  replace E := E.trans k9
  replace HR := hid (HR.out.ext k9)
  replace HXK := hid (HXK.out.ext k9)
  replace HSK := hid (HSK.out.ext k9)
  replace HXA := hid (HXA.out.ext k9)
  replace HSA := hid (HSA.out.ext k9)
  clear k9
  go_wp2_with (fail)
  refine (c9 _ HR.out).mono ?_
  rintro e w10 ⟨rfl, k10⟩
  replace E := E.trans k10
  replace HR := hid (HR.out.ext k10)
  replace HXK := hid (HXK.out.ext k10)
  replace HSK := hid (HSK.out.ext k10)
  replace HXA := hid (HXA.out.ext k10)
  replace HSA := hid (HSA.out.ext k10)
  clear k10
  go_wp2_with (fail)
  refine (c10 _ HR.out).mono ?_
  rintro e w11 ⟨rfl, k11⟩
  replace E := E.trans k11
  replace HR := hid (HR.out.ext k11)
  replace HXK := hid (HXK.out.ext k11)
  replace HSK := hid (HSK.out.ext k11)
  replace HXA := hid (HXA.out.ext k11)
  replace HSA := hid (HSA.out.ext k11)
  clear k11
  clear c1 c2 c3 c4 c5 c6 c7 c8 c9 c10
  go_wp2_with (fail)
  refine (qInts_same _ _ LK.length LK _ HXK.out HSK.out).mono ?_
  rintro e w12 ⟨rfl, k12⟩
  replace E := E.trans k12
  replace HR := hid (HR.out.ext k12)
  replace HXK := hid (HXK.out.ext k12)
  replace HSK := hid (HSK.out.ext k12)
  replace HXA := hid (HXA.out.ext k12)
  replace HSA := hid (HSA.out.ext k12)
  clear k12
  go_wp2_with (fail)
  refine (qInts_same _ _ LA.length LA _ HXA.out HSA.out).mono ?_
  rintro e w13 ⟨rfl, k13⟩
  replace E := E.trans k13
  replace HR := hid (HR.out.ext k13)
  replace HXK := hid (HXK.out.ext k13)
  replace HSK := hid (HSK.out.ext k13)
  replace HXA := hid (HXA.out.ext k13)
  replace HSA := hid (HSA.out.ext k13)
  clear k13
  clear HXK HXA
  have hog2 : ok = true → g = true := hog
  clear hog
  have HOG := hid hog2
  clear hog2
  cases ok with
  | true =>
    cases g with
    | false => exact absurd (HOG.out rfl) (by simp)
    | true =>
      obtain ⟨⟨⟨f1, f2⟩, f3, f4, f5⟩, e1, S2, e2, e3⟩ := HG.out (by first | rfl | trivial)
      have t1 : decide (R < 1) = false := by simp; omega
      have tw : IntKind.i64.wrap ((m : Int) + N) = (m : Int) + N := IntWalk.i64_in _ (by omega)
      have t2 : decide ((m : Int) + N < R) = false := by simp; omega
      have tw2 : IntKind.i64.wrap (R - 1) = R - 1 := IntWalk.i64_in _ (by omega)
      have t3 : decide (S2 = 2) = false := by simpa using e2
      have t4 : (S2 == 2) = false := by simpa using e2
      clear f1 f2 f3 f4 f5 e2
      go_wp2_with (fail)
      refine (e1 _ HR.out).mono ?_
      rintro e p14 ⟨rfl, k14⟩
      replace E := E.trans k14
      replace HR := hid (HR.out.ext k14)
      replace HSK := hid (HSK.out.ext k14)
      replace HSA := hid (HSA.out.ext k14)
      clear k14
      go_wp2_with (fail)
      refine (e3 _ HR.out).mono ?_
      rintro e p15 ⟨rfl, k15⟩
      replace E := E.trans k15
      replace HR := hid (HR.out.ext k15)
      replace HSK := hid (HSK.out.ext k15)
      replace HSA := hid (HSA.out.ext k15)
      clear k15
      clear e1 e3
      obtain ⟨a, b, q, A, B, rfl, rfl, rfl, ⟨⟨h1, h2⟩, ⟨h3, h4⟩, h5⟩, hLA, hLK, hTX, hsub, hst2, hst1, h60, hlat⟩ := HOK.out (by first | rfl | trivial)
      have HST2 := hid hst2
      have HST1 := hid hst1
      have HLAT := hid hlat
      have HSUB := hid hsub
      have H60 := hid h60
      have HLA := hid hLA
      have HLK := hid hLK
      have htl : TX.size = a := by rw [hTX]; show (txL A B a).toArray.size = a; rw [List.size_toArray, txL_length]
      have HTX := hid hTX
      have HTL := hid htl
      clear hst2 hst1 hlat hsub h60 hLA hLK hTX htl HG HOK HOG
      go_wp2_with (fail)
      go_loopw [33] (fun i wr => ∃ p : Nat, p ≤ a ∧ i = .int .i64 (p : Int) ∧ Ext p15 wr)
        (fun i _ => a - (intOf i).toNat)
      case atStart => exact ⟨0, Nat.zero_le _, rfl, Ext.refl _⟩
      case round =>
        obtain ⟨p, hp, rfl, hE⟩ := hrel
        replace E := E.trans hE
        replace HR := hid (HR.out.ext hE)
        replace HSK := hid (HSK.out.ext hE)
        replace HSA := hid (HSA.out.ext hE)
        have E2 := hE
        clear hE
        by_cases hlt : p < a
        · have tl : decide ((p : Int) < (a : Int)) = true := by simpa using hlt
          have hhA : hasZ LA LA.length (p : Int) = A.testBit p := by rw [HLA.out]; exact has_bits hlt
          have hhK : hasZ LK LK.length (p : Int) = B.testBit p := by rw [HLK.out]; exact has_bits hlt
          have hbyte : ∀ w : World, (Instr.index 9 (.string TX) (.int .i64 (p : Int))).run Try.prog w = .ok (.int .u8 ((txV A B p).toNat : Int)) w := by
            intro w
            have hget : TX.data[p]? = some (txV A B p) := by rw [HTX.out]; show (txL A B a).toArray[p]? = _; rw [List.getElem?_toArray]; exact txL_get A B a p hlt
            have hs := HTL.out
            simp [Instr.index, go_sem, hs, hget, hlt]
            obtain ⟨_, hgv⟩ := Array.getElem?_eq_some_iff.1 hget
            exact congrArg (fun (x : UInt8) => (x.toNat : Int)) hgv
          have hAq := fun w h => qHas_any (.slice aSA LA.length dSA) LA.length LA (p : Int) w h
          have hKq := fun w h => qHas_any (.slice aSK LK.length dSK) LK.length LK (p : Int) w h
          rw [hhA] at hAq
          rw [hhK] at hKq
          clear hhA hhK
          obtain ⟨TB, hTB⟩ : ∃ x : Int, x = ((txV A B p).toNat : Int) := ⟨_, rfl⟩
          rw [← hTB] at hbyte
          have hsb := HSUB.out p
          unfold txV at hTB
          obtain ⟨BA, hBA⟩ : ∃ x, x = A.testBit p := ⟨_, rfl⟩
          obtain ⟨BK, hBK⟩ : ∃ x, x = B.testBit p := ⟨_, rfl⟩
          rw [← hBA] at hAq hsb hTB
          rw [← hBK] at hKq hsb hTB
          clear hBA hBK
          cases BK with
          | true =>
            cases BA with
            | false => exact absurd (hsb rfl) (by simp)
            | true =>
              have hTV : TB = 107 := by rw [hTB]; rfl
              subst hTV
              clear hTB hsb
              go_wp2_with (fail)
              refine (hAq _ HSA.out).mono ?_
              rintro e w' ⟨rfl, rfl⟩
              go_wp2_with (fail)
              refine (hKq _ HSK.out).mono ?_
              rintro e w' ⟨rfl, rfl⟩
              go_wp2_with (fail)
              refine (hKq _ HSK.out).mono ?_
              rintro e w' ⟨rfl, rfl⟩
              go_wp2_with (fail)
              refine (hAq _ HSA.out).mono ?_
              rintro e w' ⟨rfl, rfl⟩
              go_wp2_with (fail)
              go_roundw
              case rel => exact ⟨p + 1, by omega, by go_num, E2⟩
              case measure => simp [intOf]; omega
          | false =>
            cases BA with
            | true =>
              have hTV : TB = 97 := by rw [hTB]; rfl
              subst hTV
              clear hTB hsb
              go_wp2_with (fail)
              refine (hAq _ HSA.out).mono ?_
              rintro e w' ⟨rfl, rfl⟩
              go_wp2_with (fail)
              refine (hKq _ HSK.out).mono ?_
              rintro e w' ⟨rfl, rfl⟩
              go_wp2_with (fail)
              refine (hKq _ HSK.out).mono ?_
              rintro e w' ⟨rfl, rfl⟩
              go_wp2_with (fail)
              go_roundw
              case rel => exact ⟨p + 1, by omega, by go_num, E2⟩
              case measure => simp [intOf]; omega
            | false =>
              have hTV : TB = 46 := by rw [hTB]; rfl
              subst hTV
              clear hTB hsb
              go_wp2_with (fail)
              refine (hAq _ HSA.out).mono ?_
              rintro e w' ⟨rfl, rfl⟩
              go_wp2_with (fail)
              refine (hKq _ HSK.out).mono ?_
              rintro e w' ⟨rfl, rfl⟩
              go_wp2_with (fail)
              refine (hKq _ HSK.out).mono ?_
              rintro e w' ⟨rfl, rfl⟩
              go_wp2_with (fail)
              go_roundw
              case rel => exact ⟨p + 1, by omega, by go_num, E2⟩
              case measure => simp [intOf]; omega
        · obtain rfl : p = a := by omega
          have tl : decide ((p : Int) < (p : Int)) = false := by simp
          have hsz := HTL.out
          have u1 : (decide ((TX.size : Int) = (p : Int))) = true := by simp; omega
          have u2 : decide (TX.size = p) = true := by simpa using hsz
          by_cases h6 : q = 60
          · have hS := H60.out h6
            have hS1 := HST1.out.1 (by omega)
            have hS2 := HST2.out.1 hS
            have v1 : decide (ST = 2) = true := by simpa using hS
            have v2 : (ST == 2) = true := by simpa using hS
            have v3 : decide ((q : Int) = 60) = true := by simp; omega
            have v4 : ((q : Int) == 60) = true := by simp; omega
            have v5 : decide (R ≤ (q : Int)) = true := by simpa using hS2
            have v6 : decide (1 ≤ ST) = true := by simp; omega
            have v7 : decide ((LA.length : Int) = (p : Int)) = true := by simp; omega
            have v8 : decide (LA.length = p) = true := by simpa using hS1
            have v9 : ((LA.length : Int) == (p : Int)) = true := by simp; omega
            clear hS hS1 hS2 h6
            go_wp2_with (fail)
            go_ret
            exact ⟨rfl, by first | exact E | exact (by repeat (first | exact Ext.refl _ | assumption | refine Ext.alloc ?_ _ | refine Ext.drew ?_ | refine Ext.drewN ?_ _ | refine Ext.setCell ?_ (by first | exact Nat.le_refl _ | (simp; done) | (dsimp only; omega) | (simp only [World.size_alloc, World.size_setCell]; omega)) _ | refine Ext.trans ?_ (by assumption)))⟩
          · have v3 : decide ((q : Int) = 60) = false := by simp; omega
            have v4 : ((q : Int) == 60) = false := by simp; omega
            obtain ⟨A2, d1, d2, hle, hsb2⟩ := HLAT.out (by omega)
            have HSB2 := hid hsb2
            have hl9 := bitsL_len_le A p
            rw [← HLA.out] at hl9
            have hl92 := bitsL_len_le A2 p
            have twq : IntKind.i64.wrap ((q : Int) + 1) = ((q + 1 : Nat) : Int) := by rw [IntWalk.i64_in _ (by omega)]; omega
            have twl : IntKind.i64.wrap ((LA.length : Int) + (b : Int)) = (LA.length : Int) + (b : Int) := IntWalk.i64_in _ (by omega)
            obtain ⟨L2, hL2⟩ : ∃ l, l = bitsL A2 p := ⟨_, rfl⟩
            rw [← hL2] at d1 d2 hle hl92
            have HW2 := hid (show (∀ x ∈ L2, (Lit.int .i64 x).wf = true) ∧ L2.length ≤ 16777216 from ⟨by rw [hL2]; exact bitsL_wf A2 h2, by omega⟩)
            have HL2 := hid hL2
            have v5 : decide ((LA.length : Int) + (b : Int) < (L2.length : Int)) = false := by simp; omega
            clear hsb2 hL2 h6
            by_cases hz2 : ST = 2
            · have hS1 := HST1.out.1 (by omega)
              have hS2 := HST2.out.1 hz2
              have w1' : decide (ST = 2) = true := by simpa using hz2
              have w2' : (ST == 2) = true := by simpa using hz2
              have w5' : decide (R ≤ (q : Int)) = true := by simpa using hS2
              have w6' : decide (1 ≤ ST) = true := by simp; omega
              have w7' : decide ((LA.length : Int) = (p : Int)) = true := by simp; omega
              have w8' : decide (LA.length = p) = true := by simpa using hS1
              have w9' : ((LA.length : Int) == (p : Int)) = true := by simp; omega
              clear hS1 hS2 hz2
              go_wp2_with (fail)
              refine (d1 _ HR.out).mono ?_
              rintro e q16 ⟨vL1, rfl, hr, k16⟩
              replace E := E.trans k16
              replace E2 := E2.trans k16
              replace HR := hid (HR.out.ext k16)
              replace HSK := hid (HSK.out.ext k16)
              replace HSA := hid (HSA.out.ext k16)
              have HL1 := hid (row_ints hr (by have := HW2.out.2; unfold maxLen; omega) HW2.out.1)
              obtain ⟨aL1, dL1, rfl⟩ := introw_slice HL1.out
              clear hr k16
              go_wp2_with (fail)
              refine (d2 _ HR.out).mono ?_
              rintro e q17 ⟨vL2r, rfl, hr, k17⟩
              replace E := E.trans k17
              replace E2 := E2.trans k17
              replace HR := hid (HR.out.ext k17)
              replace HSK := hid (HSK.out.ext k17)
              replace HSA := hid (HSA.out.ext k17)
              replace HL1 := hid (HL1.out.ext k17)
              have HL2r := hid (row_ints hr (by have := HW2.out.2; unfold maxLen; omega) HW2.out.1)
              obtain ⟨aL2r, dL2r, rfl⟩ := introw_slice HL2r.out
              clear hr k17
              go_wp2_with (fail)
              refine (qInts_same _ _ L2.length L2 _ HL1.out HL2r.out).mono ?_
              rintro e q18 ⟨rfl, k18⟩
              replace E := E.trans k18
              replace E2 := E2.trans k18
              replace HR := hid (HR.out.ext k18)
              replace HSK := hid (HSK.out.ext k18)
              replace HSA := hid (HSA.out.ext k18)
              replace HL1 := hid (HL1.out.ext k18)
              replace HL2r := hid (HL2r.out.ext k18)
              clear k18
              clear d1 d2 HL1
              go_wp2_with (fail)
              go_loopw [341] (fun i wr2 => ∃ j : Nat, j ≤ LA.length ∧ i = .int .i64 (j : Int) ∧ Ext q18 wr2)
                (fun i _ => LA.length - (intOf i).toNat)
              case atStart => exact ⟨0, Nat.zero_le _, rfl, Ext.refl _⟩
              case round =>
                obtain ⟨j, hj, rfl, hE3⟩ := hrel
                have hlb : LA.length ≤ 9 := by omega
                clear twq twl v3 v4 v5 w1' w2' w5' w6' w7' w8' w9' u1 u2 tl hle hl9 hl92 hsz
                replace E := E.trans hE3
                replace HR := hid (HR.out.ext hE3)
                replace HSK := hid (HSK.out.ext hE3)
                replace HSA := hid (HSA.out.ext hE3)
                replace HL2r := hid (HL2r.out.ext hE3)
                have E3 := hE3
                clear hE3
                by_cases hlt2 : j < LA.length
                · have tl2 : decide ((j : Int) < (LA.length : Int)) = true := by simpa using hlt2
                  obtain ⟨hzl1, hzl2, hwf, _, _, he, hzl3, hzl4, hcell⟩ := id HSA.out
                  clear hzl1 hzl2 hzl3 hzl4
                  simp only [Value.slice.injEq, true_and] at he
                  obtain ⟨rfl, rfl⟩ := he
                  obtain ⟨bb, oo, rfl, hb, hc⟩ := hcell.resolve_left (by omega)
                  obtain ⟨x0, hx0⟩ : ∃ x, x = LA.getD j 0 := ⟨_, rfl⟩
                  have s0 : wr.cell? ⟨bb, oo + j, none⟩ = some (.int .i64 x0) := by rw [hc j (by omega), hx0]
                  have hh : hasZ L2 L2.length x0 = true := by
                    rw [hasZ_iff rfl, hx0, HL2.out]
                    have hmem : LA.getD j 0 ∈ bitsL A p := by rw [← HLA.out, List.getD_eq_getElem?_getD, List.getElem?_eq_getElem hlt2]; exact List.getElem_mem _
                    obtain ⟨i, hi1, hi2, hi3⟩ := mem_bitsL.1 hmem
                    exact mem_bitsL.2 ⟨i, hi1, hi2, HSB2.out i hi3⟩
                  have hLq := fun w h => qHas_any (.slice aL2r L2.length dL2r) L2.length L2 x0 w h
                  rw [hh] at hLq
                  clear hx0 hc hcell hh hwf
                  go_wp2_with (fail)
                  refine (hLq _ HL2r.out).mono ?_
                  rintro e w' ⟨rfl, rfl⟩
                  go_wp2_with (fail)
                  go_roundw
                  case rel => exact ⟨j + 1, by omega, by go_num, E3⟩
                  case measure => simp [intOf]; omega
                · obtain rfl : j = LA.length := by omega
                  have tl2 : decide ((LA.length : Int) < (LA.length : Int)) = false := by simp
                  go_wp2_with (fail)
                  go_ret
                  exact ⟨rfl, E⟩
            · have hS2 : ¬ R ≤ (q : Int) := fun h => hz2 (HST2.out.2 h)
              have w1' : decide (ST = 2) = false := by simpa using hz2
              have w2' : (ST == 2) = false := by simpa using hz2
              have w5' : decide (R ≤ (q : Int)) = false := by simpa using hS2
              by_cases hz1 : 1 ≤ ST
              · have hS1 := HST1.out.1 hz1
                have w6' : decide (1 ≤ ST) = true := by simpa using hz1
                have w7' : decide ((LA.length : Int) = (p : Int)) = true := by simp; omega
                have w8' : decide (LA.length = p) = true := by simpa using hS1
                have w9' : ((LA.length : Int) == (p : Int)) = true := by simp; omega
                clear hS1 hS2 hz2 hz1
                go_wp2_with (fail)
                refine (d1 _ HR.out).mono ?_
                rintro e s16 ⟨vL1, rfl, hr, k16⟩
                replace E := E.trans k16
                replace E2 := E2.trans k16
                replace HR := hid (HR.out.ext k16)
                replace HSK := hid (HSK.out.ext k16)
                replace HSA := hid (HSA.out.ext k16)
                have HL1 := hid (row_ints hr (by have := HW2.out.2; unfold maxLen; omega) HW2.out.1)
                obtain ⟨aL1, dL1, rfl⟩ := introw_slice HL1.out
                clear hr k16
                go_wp2_with (fail)
                refine (d2 _ HR.out).mono ?_
                rintro e s17 ⟨vL2r, rfl, hr, k17⟩
                replace E := E.trans k17
                replace E2 := E2.trans k17
                replace HR := hid (HR.out.ext k17)
                replace HSK := hid (HSK.out.ext k17)
                replace HSA := hid (HSA.out.ext k17)
                replace HL1 := hid (HL1.out.ext k17)
                have HL2r := hid (row_ints hr (by have := HW2.out.2; unfold maxLen; omega) HW2.out.1)
                obtain ⟨aL2r, dL2r, rfl⟩ := introw_slice HL2r.out
                clear hr k17
                go_wp2_with (fail)
                refine (qInts_same _ _ L2.length L2 _ HL1.out HL2r.out).mono ?_
                rintro e s18 ⟨rfl, k18⟩
                replace E := E.trans k18
                replace E2 := E2.trans k18
                replace HR := hid (HR.out.ext k18)
                replace HSK := hid (HSK.out.ext k18)
                replace HSA := hid (HSA.out.ext k18)
                replace HL1 := hid (HL1.out.ext k18)
                replace HL2r := hid (HL2r.out.ext k18)
                clear k18
                clear d1 d2 HL1
                go_wp2_with (fail)
                go_loopw [341] (fun i wr2 => ∃ j : Nat, j ≤ LA.length ∧ i = .int .i64 (j : Int) ∧ Ext s18 wr2)
                  (fun i _ => LA.length - (intOf i).toNat)
                case atStart => exact ⟨0, Nat.zero_le _, rfl, Ext.refl _⟩
                case round =>
                  obtain ⟨j, hj, rfl, hE3⟩ := hrel
                  have hlb : LA.length ≤ 9 := by omega
                  clear twq twl v3 v4 v5 w1' w2' w5' w6' w7' w8' w9' u1 u2 tl hle hl9 hl92 hsz
                  replace E := E.trans hE3
                  replace HR := hid (HR.out.ext hE3)
                  replace HSK := hid (HSK.out.ext hE3)
                  replace HSA := hid (HSA.out.ext hE3)
                  replace HL2r := hid (HL2r.out.ext hE3)
                  have E3 := hE3
                  clear hE3
                  by_cases hlt2 : j < LA.length
                  · have tl2 : decide ((j : Int) < (LA.length : Int)) = true := by simpa using hlt2
                    obtain ⟨hzl1, hzl2, hwf, _, _, he, hzl3, hzl4, hcell⟩ := id HSA.out
                    clear hzl1 hzl2 hzl3 hzl4
                    simp only [Value.slice.injEq, true_and] at he
                    obtain ⟨rfl, rfl⟩ := he
                    obtain ⟨bb, oo, rfl, hb, hc⟩ := hcell.resolve_left (by omega)
                    obtain ⟨x0, hx0⟩ : ∃ x, x = LA.getD j 0 := ⟨_, rfl⟩
                    have s0 : wr.cell? ⟨bb, oo + j, none⟩ = some (.int .i64 x0) := by rw [hc j (by omega), hx0]
                    have hh : hasZ L2 L2.length x0 = true := by
                      rw [hasZ_iff rfl, hx0, HL2.out]
                      have hmem : LA.getD j 0 ∈ bitsL A p := by rw [← HLA.out, List.getD_eq_getElem?_getD, List.getElem?_eq_getElem hlt2]; exact List.getElem_mem _
                      obtain ⟨i, hi1, hi2, hi3⟩ := mem_bitsL.1 hmem
                      exact mem_bitsL.2 ⟨i, hi1, hi2, HSB2.out i hi3⟩
                    have hLq := fun w h => qHas_any (.slice aL2r L2.length dL2r) L2.length L2 x0 w h
                    rw [hh] at hLq
                    clear hx0 hc hcell hh hwf
                    go_wp2_with (fail)
                    refine (hLq _ HL2r.out).mono ?_
                    rintro e w' ⟨rfl, rfl⟩
                    go_wp2_with (fail)
                    go_roundw
                    case rel => exact ⟨j + 1, by omega, by go_num, E3⟩
                    case measure => simp [intOf]; omega
                  · obtain rfl : j = LA.length := by omega
                    have tl2 : decide ((LA.length : Int) < (LA.length : Int)) = false := by simp
                    go_wp2_with (fail)
                    go_ret
                    exact ⟨rfl, E⟩
              · have hS1 : ¬ LA.length = p := fun h => hz1 (HST1.out.2 h)
                have w6' : decide (1 ≤ ST) = false := by simpa using hz1
                have w7' : decide ((LA.length : Int) = (p : Int)) = false := by simp; omega
                have w8' : decide (LA.length = p) = false := by simpa using hS1
                have w9' : ((LA.length : Int) == (p : Int)) = false := by simp; omega
                clear hS1 hS2 hz2 hz1
                go_wp2_with (fail)
                refine (d1 _ HR.out).mono ?_
                rintro e s16 ⟨vL1, rfl, hr, k16⟩
                replace E := E.trans k16
                replace E2 := E2.trans k16
                replace HR := hid (HR.out.ext k16)
                replace HSK := hid (HSK.out.ext k16)
                replace HSA := hid (HSA.out.ext k16)
                have HL1 := hid (row_ints hr (by have := HW2.out.2; unfold maxLen; omega) HW2.out.1)
                obtain ⟨aL1, dL1, rfl⟩ := introw_slice HL1.out
                clear hr k16
                go_wp2_with (fail)
                refine (d2 _ HR.out).mono ?_
                rintro e s17 ⟨vL2r, rfl, hr, k17⟩
                replace E := E.trans k17
                replace E2 := E2.trans k17
                replace HR := hid (HR.out.ext k17)
                replace HSK := hid (HSK.out.ext k17)
                replace HSA := hid (HSA.out.ext k17)
                replace HL1 := hid (HL1.out.ext k17)
                have HL2r := hid (row_ints hr (by have := HW2.out.2; unfold maxLen; omega) HW2.out.1)
                obtain ⟨aL2r, dL2r, rfl⟩ := introw_slice HL2r.out
                clear hr k17
                go_wp2_with (fail)
                refine (qInts_same _ _ L2.length L2 _ HL1.out HL2r.out).mono ?_
                rintro e s18 ⟨rfl, k18⟩
                replace E := E.trans k18
                replace E2 := E2.trans k18
                replace HR := hid (HR.out.ext k18)
                replace HSK := hid (HSK.out.ext k18)
                replace HSA := hid (HSA.out.ext k18)
                replace HL1 := hid (HL1.out.ext k18)
                replace HL2r := hid (HL2r.out.ext k18)
                clear k18
                clear d1 d2 HL1
                go_wp2_with (fail)
                go_loopw [341] (fun i wr2 => ∃ j : Nat, j ≤ LA.length ∧ i = .int .i64 (j : Int) ∧ Ext s18 wr2)
                  (fun i _ => LA.length - (intOf i).toNat)
                case atStart => exact ⟨0, Nat.zero_le _, rfl, Ext.refl _⟩
                case round =>
                  obtain ⟨j, hj, rfl, hE3⟩ := hrel
                  have hlb : LA.length ≤ 9 := by omega
                  clear twq twl v3 v4 v5 w1' w2' w5' w6' w7' w8' w9' u1 u2 tl hle hl9 hl92 hsz
                  replace E := E.trans hE3
                  replace HR := hid (HR.out.ext hE3)
                  replace HSK := hid (HSK.out.ext hE3)
                  replace HSA := hid (HSA.out.ext hE3)
                  replace HL2r := hid (HL2r.out.ext hE3)
                  have E3 := hE3
                  clear hE3
                  by_cases hlt2 : j < LA.length
                  · have tl2 : decide ((j : Int) < (LA.length : Int)) = true := by simpa using hlt2
                    obtain ⟨hzl1, hzl2, hwf, _, _, he, hzl3, hzl4, hcell⟩ := id HSA.out
                    clear hzl1 hzl2 hzl3 hzl4
                    simp only [Value.slice.injEq, true_and] at he
                    obtain ⟨rfl, rfl⟩ := he
                    obtain ⟨bb, oo, rfl, hb, hc⟩ := hcell.resolve_left (by omega)
                    obtain ⟨x0, hx0⟩ : ∃ x, x = LA.getD j 0 := ⟨_, rfl⟩
                    have s0 : wr.cell? ⟨bb, oo + j, none⟩ = some (.int .i64 x0) := by rw [hc j (by omega), hx0]
                    have hh : hasZ L2 L2.length x0 = true := by
                      rw [hasZ_iff rfl, hx0, HL2.out]
                      have hmem : LA.getD j 0 ∈ bitsL A p := by rw [← HLA.out, List.getD_eq_getElem?_getD, List.getElem?_eq_getElem hlt2]; exact List.getElem_mem _
                      obtain ⟨i, hi1, hi2, hi3⟩ := mem_bitsL.1 hmem
                      exact mem_bitsL.2 ⟨i, hi1, hi2, HSB2.out i hi3⟩
                    have hLq := fun w h => qHas_any (.slice aL2r L2.length dL2r) L2.length L2 x0 w h
                    rw [hh] at hLq
                    clear hx0 hc hcell hh hwf
                    go_wp2_with (fail)
                    refine (hLq _ HL2r.out).mono ?_
                    rintro e w' ⟨rfl, rfl⟩
                    go_wp2_with (fail)
                    go_roundw
                    case rel => exact ⟨j + 1, by omega, by go_num, E3⟩
                    case measure => simp [intOf]; omega
                  · obtain rfl : j = LA.length := by omega
                    have tl2 : decide ((LA.length : Int) < (LA.length : Int)) = false := by simp
                    go_wp2_with (fail)
                    go_ret
                    exact ⟨rfl, E⟩
  | false =>
    cases g with
    | true =>
      obtain ⟨⟨⟨f1, f2⟩, f3, f4, f5⟩, e1, S2, e2, e3⟩ := HG.out (by first | rfl | trivial)
      have t1 : decide (R < 1) = false := by simp; omega
      have tw : IntKind.i64.wrap ((m : Int) + N) = (m : Int) + N := IntWalk.i64_in _ (by omega)
      have t2 : decide ((m : Int) + N < R) = false := by simp; omega
      have tw2 : IntKind.i64.wrap (R - 1) = R - 1 := IntWalk.i64_in _ (by omega)
      have t3 : decide (S2 = 2) = false := by simpa using e2
      have t4 : (S2 == 2) = false := by simpa using e2
      clear f1 f2 f3 f4 f5 e2
      go_wp2_with (fail)
      refine (e1 _ HR.out).mono ?_
      rintro e p14 ⟨rfl, k14⟩
      replace E := E.trans k14
      replace HR := hid (HR.out.ext k14)
      replace HSK := hid (HSK.out.ext k14)
      replace HSA := hid (HSA.out.ext k14)
      clear k14
      go_wp2_with (fail)
      refine (e3 _ HR.out).mono ?_
      rintro e p15 ⟨rfl, k15⟩
      replace E := E.trans k15
      replace HR := hid (HR.out.ext k15)
      replace HSK := hid (HSK.out.ext k15)
      replace HSA := hid (HSA.out.ext k15)
      clear k15
      clear e1 e3
      go_wp2_with (fail)
      go_ret
      exact ⟨rfl, E⟩
    | false =>
      go_wp2_with (fail)
      go_ret
      exact ⟨rfl, E⟩
end Go.Proofs.Ytmmmiccpimplhaa