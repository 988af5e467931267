/- The law of line jobs: segments, finish times, breaks, waits and idle ticks belong together; what is left turns by the job of the tick. No condition. -/
import Derived.Test.YtabafhmeefeioaaPriU
import Derived.Test.YtabafhmeefeioaaPriS
import Derived.Test.YtabafhmeefeioaaQl
import Derived.Test.YtabafhmeefeioaaPriW
namespace Go.Proofs.Ytabafhmeefeioaa
open Go.RowKit
set_option linter.unusedSimpArgs false
set_option linter.unusedVariables false

theorem row_setp {w : World} {base : Nat} {e : TypeId} {size : Nat} {v : Value} {n : Nat} {xs : List Value} (h : w.ownsRow base e size v n xs) {b j : Nat} {u : Value} (hb : ∀ k, v.ownBlock = some k → k ≠ b) : (w.setCell ⟨b, j, none⟩ u).ownsRow base e size v n xs := by
  refine ⟨h.1, ?_⟩
  rcases h.2 with h2 | ⟨g, cap, cur, rfl, h3, h4, h5⟩
  · exact .inl h2
  · exact .inr ⟨g, cap, cur, rfl, h3, (heap_setCell_other w ⟨b, j, none⟩ g u (hb g rfl)).trans h4, h5⟩
/-- a box of three integers -/
def Tri3 (w : World) (b : Nat) (x y z : Int) : Prop := w.cell? ⟨b, 0, none⟩ = some (.int .i64 x) ∧ w.cell? ⟨b, 1, none⟩ = some (.int .i64 y) ∧ w.cell? ⟨b, 2, none⟩ = some (.int .i64 z) ∧ b < w.heap.size
theorem Tri3.new (w : World) (x y z : Int) : Tri3 (w.alloc (.cells #[.int .i64 x, .int .i64 y, .int .i64 z] 53)) w.heap.size x y z := by
  refine ⟨by simp, by simp, by simp, by rw [World.size_alloc]; omega⟩

set_option maxRecDepth 100000 in
set_option maxHeartbeats 60000000 in
theorem walkFnLineJobs (v0 : Value) (n0 : Nat) (z0 : List Int) (v1 : Value) (n1 : Nat) (z1 : List Int) (w : World) (r0 : IntRow .u8 1 w v0 n0 z0) (r1 : IntRow .u8 1 w v1 n1 z1) :
    Calls Try.prog 14 #[v0, v1] w fun e w' => e = .returned (.bool true) ∧ Ext w w' := by
  obtain ⟨a0, c0, rfl⟩ := introw_slice r0
  obtain ⟨a1, c1, rfl⟩ := introw_slice r1
  have hm0 := r0.2.1
  have hm1 := r1.2.1
  unfold maxLen at hm0 hm1
  obtain ⟨TS, hTS⟩ : ∃ t, t = IntKind.i64.wrap ((n0 : Int) + (n1 : Int)) := ⟨_, rfl⟩
  have hws := hTS.symm
  by_cases hbig : (1048576 : Int) < TS
  · have tb : decide ((1048576 : Int) < TS) = true := by simpa using hbig
    clear hTS hbig
    go_enter Try.func14, Try.ntmps14
    go_wp2_with (fail)
    go_ret
    exact ⟨rfl, Ext.refl _⟩
  have tb : decide ((1048576 : Int) < TS) = false := by simpa using hbig
  clear hTS
  go_enter Try.func14, Try.ntmps14
  have E : Ext w w := Ext.refl w
  have R1 := hid r1
  clear r1
  go_wp2_with (fail)
  refine (drawSegs _ n0 z0 _ r0 hm0).mono ?_
  rintro e w1 ⟨vA, m, zs, rfl, hr, hm, k1⟩
  replace E := E.trans k1
  replace R1 := hid (R1.out.ext k1)
  have HA := hid hr
  obtain ⟨aA, dA, rfl⟩ := introw_slice HA.out
  clear hr k1
  clear hws tb hbig
  obtain ⟨F, B, Wt, S, I, ok, c1, c2, c3, c4, c5, c6, c7, c8, c9, c10, c11, hS, hF⟩ := lineAll (.slice aA m dA) m zs
  have HF := hid hF
  have HS := hid hS
  clear hF hS
  go_wp2_with (fail)
  refine (c1 _ HA.out).mono ?_
  rintro e w2 ⟨vS1, gS1, rfl, hr, k2⟩
  replace E := E.trans k2
  replace R1 := hid (R1.out.ext k2)
  replace HA := hid (HA.out.ext k2)
  have HS1 := hid hr
  obtain ⟨aS1, dS1, rfl, _, _, _⟩ := HS1.out.shape
  clear hr k2
  go_wp2_with (fail)
  refine (c2 _ HA.out).mono ?_
  rintro e w3 ⟨vS2, gS2, rfl, hr, k3⟩
  replace E := E.trans k3
  replace R1 := hid (R1.out.ext k3)
  replace HA := hid (HA.out.ext k3)
  replace HS1 := hid (HS1.out.ext k3)
  have HS2 := hid hr
  obtain ⟨aS2, dS2, rfl, _, _, _⟩ := HS2.out.shape
  clear hr k3
  go_wp2_with (fail)
  refine (c3 _ HA.out).mono ?_
  rintro e w4 ⟨vF1, rfl, hr, k4⟩
  replace E := E.trans k4
  replace R1 := hid (R1.out.ext k4)
  replace HA := hid (HA.out.ext k4)
  replace HS1 := hid (HS1.out.ext k4)
  replace HS2 := hid (HS2.out.ext k4)
  have HF1 := hid hr
  obtain ⟨aF1, dF1, rfl⟩ := introw_slice HF1.out
  clear hr k4
  go_wp2_with (fail)
  refine (c4 _ HA.out).mono ?_
  rintro e w5 ⟨vF2, rfl, hr, k5⟩
  replace E := E.trans k5
  replace R1 := hid (R1.out.ext k5)
  replace HA := hid (HA.out.ext k5)
  replace HS1 := hid (HS1.out.ext k5)
  replace HS2 := hid (HS2.out.ext k5)
  replace HF1 := hid (HF1.out.ext k5)
  have HF2 := hid hr
  obtain ⟨aF2, dF2, rfl⟩ := introw_slice HF2.out
  clear hr k5
  go_wp2_with (fail)
  refine (c5 _ HA.out).mono ?_
  rintro e w6 ⟨vB1, rfl, hr, k6⟩
  replace E := E.trans k6
  replace R1 := hid (R1.out.ext k6)
  replace HA := hid (HA.out.ext k6)
  replace HS1 := hid (HS1.out.ext k6)
  replace HS2 := hid (HS2.out.ext k6)
  replace HF1 := hid (HF1.out.ext k6)
  replace HF2 := hid (HF2.out.ext k6)
  have HB1 := hid hr
  obtain ⟨aB1, dB1, rfl⟩ := introw_slice HB1.out
  clear hr k6
  go_wp2_with (fail)
  refine (c6 _ HA.out).mono ?_
  rintro e w7 ⟨vB2, rfl, hr, k7⟩
  replace E := E.trans k7
  replace R1 := hid (R1.out.ext k7)
  replace HA := hid (HA.out.ext k7)
  replace HS1 := hid (HS1.out.ext k7)
  replace HS2 := hid (HS2.out.ext k7)
  replace HF1 := hid (HF1.out.ext k7)
  replace HF2 := hid (HF2.out.ext k7)
  replace HB1 := hid (HB1.out.ext k7)
  have HB2 := hid hr
  obtain ⟨aB2, dB2, rfl⟩ := introw_slice HB2.out
  clear hr k7
  go_wp2_with (fail)
  refine (c7 _ HA.out).mono ?_
  rintro e w8 ⟨vW1, rfl, hr, k8⟩
  replace E := E.trans k8
  replace R1 := hid (R1.out.ext k8)
  replace HA := hid (HA.out.ext k8)
  replace HS1 := hid (HS1.out.ext k8)
  replace HS2 := hid (HS2.out.ext k8)
  replace HF1 := hid (HF1.out.ext k8)
  replace HF2 := hid (HF2.out.ext k8)
  replace HB1 := hid (HB1.out.ext k8)
  replace HB2 := hid (HB2.out.ext k8)
  have HW1 := hid hr
  obtain ⟨aW1, dW1, rfl⟩ := introw_slice HW1.out
  clear hr k8
  go_wp2_with (fail)
  refine (c8 _ HA.out).mono ?_
  rintro e w9 ⟨vW2, rfl, hr, k9⟩
  replace E := E.trans k9
  replace R1 := hid (R1.out.ext k9)
  replace HA := hid (HA.out.ext k9)
  replace HS1 := hid (HS1.out.ext k9)
  replace HS2 := hid (HS2.out.ext k9)
  replace HF1 := hid (HF1.out.ext k9)
  replace HF2 := hid (HF2.out.ext k9)
  replace HB1 := hid (HB1.out.ext k9)
  replace HB2 := hid (HB2.out.ext k9)
  replace HW1 := hid (HW1.out.ext k9)
  have HW2 := hid hr
  obtain ⟨aW2, dW2, rfl⟩ := introw_slice HW2.out
  clear hr k9
  go_wp2_with (fail)
  refine (c9 _ HA.out).mono ?_
  rintro e w10 ⟨rfl, k10⟩
  replace E := E.trans k10
  replace R1 := hid (R1.out.ext k10)
  replace HA := hid (HA.out.ext k10)
  replace HS1 := hid (HS1.out.ext k10)
  replace HS2 := hid (HS2.out.ext k10)
  replace HF1 := hid (HF1.out.ext k10)
  replace HF2 := hid (HF2.out.ext k10)
  replace HB1 := hid (HB1.out.ext k10)
  replace HB2 := hid (HB2.out.ext k10)
  replace HW1 := hid (HW1.out.ext k10)
  replace HW2 := hid (HW2.out.ext k10)
  clear k10
  go_wp2_with (fail)
  refine (c10 _ HA.out).mono ?_
  rintro e w11 ⟨rfl, k11⟩
  replace E := E.trans k11
  replace R1 := hid (R1.out.ext k11)
  replace HA := hid (HA.out.ext k11)
  replace HS1 := hid (HS1.out.ext k11)
  replace HS2 := hid (HS2.out.ext k11)
  replace HF1 := hid (HF1.out.ext k11)
  replace HF2 := hid (HF2.out.ext k11)
  replace HB1 := hid (HB1.out.ext k11)
  replace HB2 := hid (HB2.out.ext k11)
  replace HW1 := hid (HW1.out.ext k11)
  replace HW2 := hid (HW2.out.ext k11)
  clear k11
  go_wp2_with (fail)
  refine (drawLeft _ n1 z1 _ R1.out hm1).mono ?_
  rintro e w12 ⟨T, vC, m2, zs2, rfl, hr, hm2, ⟨hT1, hT2⟩, k12⟩
  replace E := E.trans k12
  replace R1 := hid (R1.out.ext k12)
  replace HA := hid (HA.out.ext k12)
  replace HS1 := hid (HS1.out.ext k12)
  replace HS2 := hid (HS2.out.ext k12)
  replace HF1 := hid (HF1.out.ext k12)
  replace HF2 := hid (HF2.out.ext k12)
  replace HB1 := hid (HB1.out.ext k12)
  replace HB2 := hid (HB2.out.ext k12)
  replace HW1 := hid (HW1.out.ext k12)
  replace HW2 := hid (HW2.out.ext k12)
  have HC := hid hr
  obtain ⟨aC, dC, rfl⟩ := introw_slice HC.out
  clear hr k12
  clear r0 R1
  obtain ⟨L, JV, okL, on, e1, e2, e3, e4, hon, hL⟩ := leftAll (.slice aC m2 dC) m2 zs2 T
  have HL := hid hL
  have HON := hid hon
  clear hL hon
  go_wp2_with (fail)
  refine (e1 _ HC.out).mono ?_
  rintro e w13 ⟨vL1, rfl, hr, k13⟩
  replace E := E.trans k13
  replace HA := hid (HA.out.ext k13)
  replace HS1 := hid (HS1.out.ext k13)
  replace HS2 := hid (HS2.out.ext k13)
  replace HF1 := hid (HF1.out.ext k13)
  replace HF2 := hid (HF2.out.ext k13)
  replace HB1 := hid (HB1.out.ext k13)
  replace HB2 := hid (HB2.out.ext k13)
  replace HW1 := hid (HW1.out.ext k13)
  replace HW2 := hid (HW2.out.ext k13)
  replace HC := hid (HC.out.ext k13)
  have HL1 := hid hr
  obtain ⟨aL1, dL1, rfl⟩ := introw_slice HL1.out
  clear hr k13
  go_wp2_with (fail)
  refine (e2 _ HC.out).mono ?_
  rintro e w14 ⟨vL2, rfl, hr, k14⟩
  replace E := E.trans k14
  replace HA := hid (HA.out.ext k14)
  replace HS1 := hid (HS1.out.ext k14)
  replace HS2 := hid (HS2.out.ext k14)
  replace HF1 := hid (HF1.out.ext k14)
  replace HF2 := hid (HF2.out.ext k14)
  replace HB1 := hid (HB1.out.ext k14)
  replace HB2 := hid (HB2.out.ext k14)
  replace HW1 := hid (HW1.out.ext k14)
  replace HW2 := hid (HW2.out.ext k14)
  replace HC := hid (HC.out.ext k14)
  replace HL1 := hid (HL1.out.ext k14)
  have HL2 := hid hr
  obtain ⟨aL2, dL2, rfl⟩ := introw_slice HL2.out
  clear hr k14
  obtain ⟨nL, hnL⟩ : ∃ x, x = L.length := ⟨_, rfl⟩
  rw [← hnL] at HL1 HL2 ⊢
  have HNL := hid hnL
  clear hnL
  go_wp2_with (fail)
  refine (e3 _ HC.out).mono ?_
  rintro e w15 ⟨rfl, k15⟩
  replace E := E.trans k15
  replace HA := hid (HA.out.ext k15)
  replace HS1 := hid (HS1.out.ext k15)
  replace HS2 := hid (HS2.out.ext k15)
  replace HF1 := hid (HF1.out.ext k15)
  replace HF2 := hid (HF2.out.ext k15)
  replace HB1 := hid (HB1.out.ext k15)
  replace HB2 := hid (HB2.out.ext k15)
  replace HW1 := hid (HW1.out.ext k15)
  replace HW2 := hid (HW2.out.ext k15)
  replace HC := hid (HC.out.ext k15)
  replace HL1 := hid (HL1.out.ext k15)
  replace HL2 := hid (HL2.out.ext k15)
  clear k15
  go_wp2_with (fail)
  refine (e4 _ HC.out).mono ?_
  rintro e w16 ⟨rfl, k16⟩
  replace E := E.trans k16
  replace HA := hid (HA.out.ext k16)
  replace HS1 := hid (HS1.out.ext k16)
  replace HS2 := hid (HS2.out.ext k16)
  replace HF1 := hid (HF1.out.ext k16)
  replace HF2 := hid (HF2.out.ext k16)
  replace HB1 := hid (HB1.out.ext k16)
  replace HB2 := hid (HB2.out.ext k16)
  replace HW1 := hid (HW1.out.ext k16)
  replace HW2 := hid (HW2.out.ext k16)
  replace HC := hid (HC.out.ext k16)
  replace HL1 := hid (HL1.out.ext k16)
  replace HL2 := hid (HL2.out.ext k16)
  clear k16
  go_upto_region 19 with (fail)
  go_cut [243] from 138 to 243 (fun s243 wx => s243 = .bool false ∧ Ext w wx ∧ IntRow .i64 3 wx (.slice aA m dA) m zs ∧ (∃ bs, Lists wx bs (.slice aS2 gS2.length dS2) 3 gS2 S) ∧ IntRow .i64 1 wx (.slice aF2 F.length dF2) F.length F ∧ IntRow .i64 1 wx (.slice aB2 B.length dB2) B.length B ∧ IntRow .i64 1 wx (.slice aW2 Wt.length dW2) Wt.length Wt ∧ IntRow .i64 3 wx (.slice aC m2 dC) m2 zs2 ∧ IntRow .i64 1 wx (.slice aL2 nL dL2) nL L)
  case first =>
    as_aux_lemma =>
      clear c1 c2 c3 c4 c5 c6 c7 c8 c9 c10 e1 e2 e3 e4
      go_wp2_with (fail)
      refine (qLists_same _ _ _ _ 3 gS1 gS2 S _ HS1.out HS2.out (by omega) HS.out).mono ?_
      rintro e w17 ⟨rfl, k17⟩
      replace E := E.trans k17
      replace HA := hid (HA.out.ext k17)
      replace HS1 := hid (HS1.out.ext k17)
      replace HS2 := hid (HS2.out.ext k17)
      replace HF1 := hid (HF1.out.ext k17)
      replace HF2 := hid (HF2.out.ext k17)
      replace HB1 := hid (HB1.out.ext k17)
      replace HB2 := hid (HB2.out.ext k17)
      replace HW1 := hid (HW1.out.ext k17)
      replace HW2 := hid (HW2.out.ext k17)
      replace HC := hid (HC.out.ext k17)
      replace HL1 := hid (HL1.out.ext k17)
      replace HL2 := hid (HL2.out.ext k17)
      clear k17
      clear HS1
      go_wp2_with (fail)
      refine (qInts_same _ _ F.length F _ HF1.out HF2.out).mono ?_
      rintro e w18 ⟨rfl, k18⟩
      replace E := E.trans k18
      replace HA := hid (HA.out.ext k18)
      replace HS2 := hid (HS2.out.ext k18)
      replace HF1 := hid (HF1.out.ext k18)
      replace HF2 := hid (HF2.out.ext k18)
      replace HB1 := hid (HB1.out.ext k18)
      replace HB2 := hid (HB2.out.ext k18)
      replace HW1 := hid (HW1.out.ext k18)
      replace HW2 := hid (HW2.out.ext k18)
      replace HC := hid (HC.out.ext k18)
      replace HL1 := hid (HL1.out.ext k18)
      replace HL2 := hid (HL2.out.ext k18)
      clear k18
      clear HF1
      go_wp2_with (fail)
      refine (qInts_same _ _ B.length B _ HB1.out HB2.out).mono ?_
      rintro e w19 ⟨rfl, k19⟩
      replace E := E.trans k19
      replace HA := hid (HA.out.ext k19)
      replace HS2 := hid (HS2.out.ext k19)
      replace HF2 := hid (HF2.out.ext k19)
      replace HB1 := hid (HB1.out.ext k19)
      replace HB2 := hid (HB2.out.ext k19)
      replace HW1 := hid (HW1.out.ext k19)
      replace HW2 := hid (HW2.out.ext k19)
      replace HC := hid (HC.out.ext k19)
      replace HL1 := hid (HL1.out.ext k19)
      replace HL2 := hid (HL2.out.ext k19)
      clear k19
      clear HB1
      go_wp2_with (fail)
      refine (qInts_same _ _ Wt.length Wt _ HW1.out HW2.out).mono ?_
      rintro e w20 ⟨rfl, k20⟩
      replace E := E.trans k20
      replace HA := hid (HA.out.ext k20)
      replace HS2 := hid (HS2.out.ext k20)
      replace HF2 := hid (HF2.out.ext k20)
      replace HB2 := hid (HB2.out.ext k20)
      replace HW1 := hid (HW1.out.ext k20)
      replace HW2 := hid (HW2.out.ext k20)
      replace HC := hid (HC.out.ext k20)
      replace HL1 := hid (HL1.out.ext k20)
      replace HL2 := hid (HL2.out.ext k20)
      clear k20
      clear HW1
      go_wp2_with (fail)
      refine (qInts_same _ _ nL L _ HL1.out HL2.out).mono ?_
      rintro e w21 ⟨rfl, k21⟩
      replace E := E.trans k21
      replace HA := hid (HA.out.ext k21)
      replace HS2 := hid (HS2.out.ext k21)
      replace HF2 := hid (HF2.out.ext k21)
      replace HB2 := hid (HB2.out.ext k21)
      replace HW2 := hid (HW2.out.ext k21)
      replace HC := hid (HC.out.ext k21)
      replace HL1 := hid (HL1.out.ext k21)
      replace HL2 := hid (HL2.out.ext k21)
      clear k21
      clear HL1
      go_wp2_with (fail)
      refine (c11 _ HA.out).mono ?_
      rintro e w22 ⟨rfl, k22⟩
      replace E := E.trans k22
      replace HA := hid (HA.out.ext k22)
      replace HS2 := hid (HS2.out.ext k22)
      replace HF2 := hid (HF2.out.ext k22)
      replace HB2 := hid (HB2.out.ext k22)
      replace HW2 := hid (HW2.out.ext k22)
      replace HC := hid (HC.out.ext k22)
      replace HL2 := hid (HL2.out.ext k22)
      clear k22
      clear c11
      cases on with
      | false =>
        go_wp2_with (fail)
        go_meet
        exact ⟨rfl, E, HA.out, ⟨_, HS2.out⟩, HF2.out, HB2.out, HW2.out, HC.out, HL2.out⟩
      | true =>
        obtain rfl := HON.out rfl
        go_wp2_with (fail)
        go_meet
        exact ⟨rfl, E, HA.out, ⟨_, HS2.out⟩, HF2.out, HB2.out, HW2.out, HC.out, HL2.out⟩
  case rest =>
  as_aux_lemma =>
  clear c1 c2 c3 c4 c5 c6 c7 c8 c9 c10 c11 e1 e2 e3 e4 HON
  clear E HA HS1 HS2 HF1 HF2 HB1 HB2 HW1 HW2 HC HL1 HL2
  obtain ⟨rfl, E, rHA, ⟨bs, rHS2⟩, rHF2, rHB2, rHW2, rHC, rHL2⟩ := hcut
  have HA := hid rHA
  have HS2 := hid rHS2
  have HF2 := hid rHF2
  have HB2 := hid rHB2
  have HW2 := hid rHW2
  have HC := hid rHC
  have HL2 := hid rHL2
  clear rHA rHS2 rHF2 rHB2 rHW2 rHC rHL2
  obtain ⟨BB, hBB⟩ : ∃ b, b = (okL && decide (T < 700)) := ⟨_, rfl⟩
  have HBB := hid hBB
  clear hBB
  go_upto_region 21 with (fail)
  go_cut [248] from 244 to 248 (fun s248 wx => s248 = .bool BB ∧ Ext w wx ∧ IntRow .i64 3 wx (.slice aA m dA) m zs ∧ (∃ bs, Lists wx bs (.slice aS2 gS2.length dS2) 3 gS2 S) ∧ IntRow .i64 1 wx (.slice aF2 F.length dF2) F.length F ∧ IntRow .i64 1 wx (.slice aB2 B.length dB2) B.length B ∧ IntRow .i64 1 wx (.slice aW2 Wt.length dW2) Wt.length Wt ∧ IntRow .i64 3 wx (.slice aC m2 dC) m2 zs2 ∧ IntRow .i64 1 wx (.slice aL2 nL dL2) nL L)
  case first =>
    as_aux_lemma =>
      cases okL with
      | false =>
        have hb : BB = false := HBB.out
        subst hb
        go_wp2_with (fail)
        go_meet
        exact ⟨rfl, E, HA.out, ⟨_, HS2.out⟩, HF2.out, HB2.out, HW2.out, HC.out, HL2.out⟩
      | true =>
        have hb : BB = decide (T < 700) := HBB.out
        have HB9 := hid hb
        clear hb
        go_wp2_with (fail)
        go_meet
        exact ⟨by rw [HB9.out], E, HA.out, ⟨_, HS2.out⟩, HF2.out, HB2.out, HW2.out, HC.out, HL2.out⟩
  case rest =>
  as_aux_lemma =>
  clear E HA HS2 HF2 HB2 HW2 HC HL2
  obtain ⟨rfl, E, rHA, ⟨bs, rHS2⟩, rHF2, rHB2, rHW2, rHC, rHL2⟩ := hcut
  have HA := hid rHA
  have HS2 := hid rHS2
  have HF2 := hid rHF2
  have HB2 := hid rHB2
  have HW2 := hid rHW2
  have HC := hid rHC
  have HL2 := hid rHL2
  clear rHA rHS2 rHF2 rHB2 rHW2 rHC rHL2
  go_upto_if 248 with (fail)
  go_cut [36, 37, 38, 39, 40, 41, 42] from 36 to 349 (fun s36 s37 s38 s39 s40 s41 s42 wx => Ext w wx ∧ IntRow .i64 3 wx (.slice aA m dA) m zs ∧ (∃ bs, Lists wx bs (.slice aS2 gS2.length dS2) 3 gS2 S) ∧ IntRow .i64 1 wx (.slice aF2 F.length dF2) F.length F ∧ IntRow .i64 1 wx (.slice aB2 B.length dB2) B.length B ∧ IntRow .i64 1 wx (.slice aW2 Wt.length dW2) Wt.length Wt)
  case first =>
    cases BB with
    | false =>
      as_aux_lemma =>
        go_wp2_with (fail)
        go_meet
        exact ⟨E, HA.out, ⟨_, HS2.out⟩, HF2.out, HB2.out, HW2.out⟩
    | true =>
      have h2 := HBB.out.symm
      rw [Bool.and_eq_true, decide_eq_true_eq] at h2
      obtain ⟨rfl, hT7⟩ := h2
      clear HBB
      obtain ⟨q1, q2, q3, q4⟩ := HL.out
      subst q2
      have HQ4 := hid q4
      have HQ3 := hid q3
      have HLO := hid (left_all (z := zs2) (n := m2) (T := T) q1.symm hT7)
      clear q1 q3 q4 HL
      obtain ⟨L2, J2, okL2, on2, e1, e2, _, _, _, hL2⟩ := leftAll (.slice aC m2 dC) m2 zs2 (T + 1)
      obtain ⟨p1, p2, _, _⟩ := hL2
      obtain rfl : okL2 = true := by rw [p1]; exact HLO.out.nx
      have HP2 := hid p2
      clear p1 p2
      go_wp2_with (fail)
      refine (e1 _ HC.out).mono ?_
      rintro e w17 ⟨vM1, rfl, hr, k17⟩
      replace E := E.trans k17
      replace HA := hid (HA.out.ext k17)
      replace HS2 := hid (HS2.out.ext k17)
      replace HF2 := hid (HF2.out.ext k17)
      replace HB2 := hid (HB2.out.ext k17)
      replace HW2 := hid (HW2.out.ext k17)
      replace HC := hid (HC.out.ext k17)
      replace HL2 := hid (HL2.out.ext k17)
      have HM1 := hid hr
      obtain ⟨aM1, dM1, rfl⟩ := introw_slice HM1.out
      clear hr k17
      go_wp2_with (fail)
      refine (e2 _ HC.out).mono ?_
      rintro e w18 ⟨vM2, rfl, hr, k18⟩
      replace E := E.trans k18
      replace HA := hid (HA.out.ext k18)
      replace HS2 := hid (HS2.out.ext k18)
      replace HF2 := hid (HF2.out.ext k18)
      replace HB2 := hid (HB2.out.ext k18)
      replace HW2 := hid (HW2.out.ext k18)
      replace HC := hid (HC.out.ext k18)
      replace HL2 := hid (HL2.out.ext k18)
      replace HM1 := hid (HM1.out.ext k18)
      have HM2 := hid hr
      obtain ⟨aM2, dM2, rfl⟩ := introw_slice HM2.out
      clear hr k18
      clear e1 e2
      go_wp2_with (fail)
      refine (qInts_same _ _ L2.length L2 _ HM1.out HM2.out).mono ?_
      rintro e w19 ⟨rfl, k19⟩
      replace E := E.trans k19
      replace HA := hid (HA.out.ext k19)
      replace HS2 := hid (HS2.out.ext k19)
      replace HF2 := hid (HF2.out.ext k19)
      replace HB2 := hid (HB2.out.ext k19)
      replace HW2 := hid (HW2.out.ext k19)
      replace HC := hid (HC.out.ext k19)
      replace HL2 := hid (HL2.out.ext k19)
      replace HM1 := hid (HM1.out.ext k19)
      replace HM2 := hid (HM2.out.ext k19)
      clear k19
      clear HM1
      have hl1 : (lfV zs2 m2 T).length = m2 := HLO.out.l1
      obtain rfl : m2 = nL := by rw [HNL.out]; exact hl1.symm
      have hl2 : L2.length = m2 := by rw [HP2.out]; exact HLO.out.l2
      have hle12 : m2 ≤ 12 := HLO.out.le
      have R1 := HL2.out
      have R2 := HM2.out
      rw [hl2] at R2 ⊢
      have HR1 := hid R1
      have HR2 := hid R2
      have HLL2 := hid hl2
      have HLL1 := hid hl1
      clear R1 R2 hl1 hl2
      clear HL2 HM2
      cases on with
      | false =>
        as_aux_lemma =>
          have HOFF := hid (HLO.out.off HQ3.out.symm)
          go_wp2_with (fail)
          go_loopw [277] (fun i wr => ∃ k : Nat, k ≤ m2 ∧ i = .int .i64 (k : Int) ∧ Ext w19 wr)
            (fun i _ => m2 - (intOf i).toNat)
          case atStart => exact ⟨0, Nat.zero_le _, rfl, Ext.refl _⟩
          case round =>
            obtain ⟨k, hk, rfl, hE⟩ := hrel
            replace E := E.trans hE
            replace HA := hid (HA.out.ext hE)
            replace HS2 := hid (HS2.out.ext hE)
            replace HF2 := hid (HF2.out.ext hE)
            replace HB2 := hid (HB2.out.ext hE)
            replace HW2 := hid (HW2.out.ext hE)
            replace HC := hid (HC.out.ext hE)
            replace HR1 := hid (HR1.out.ext hE)
            replace HR2 := hid (HR2.out.ext hE)
            have E2 := hE
            clear hE
            by_cases hlt : k < m2
            · have tl : decide ((k : Int) < (m2 : Int)) = true := by simpa using hlt
              obtain ⟨hz1, hz2, hz3, _, _, he, hz4, hz5, hcell⟩ := id HR1.out
              simp only [Value.slice.injEq, true_and] at he
              obtain ⟨rfl, rfl⟩ := he
              obtain ⟨bp, op, rfl, hbp, hcp⟩ := hcell.resolve_left (by omega)
              clear hz1 hz2 hz3 hz4 hz5 hcell
              obtain ⟨hz1, hz2, hz3, _, _, he, hz4, hz5, hcell⟩ := id HR2.out
              simp only [Value.slice.injEq, true_and] at he
              obtain ⟨rfl, rfl⟩ := he
              obtain ⟨bq, oq, rfl, hbq, hcq⟩ := hcell.resolve_left (by omega)
              clear hz1 hz2 hz3 hz4 hz5 hcell
              obtain ⟨x, hx⟩ : ∃ x, x = (lfV zs2 m2 T).getD k 0 := ⟨_, rfl⟩
              obtain ⟨y, hy⟩ : ∃ y, y = L2.getD k 0 := ⟨_, rfl⟩
              have sx : wr.cell? ⟨bp, op + k, none⟩ = some (.int .i64 x) := by rw [show op + k = op + k * 1 by omega, hcp _ (by omega), Nat.mul_one, hx]
              have sy : wr.cell? ⟨bq, oq + k, none⟩ = some (.int .i64 y) := by rw [show oq + k = oq + k * 1 by omega, hcq _ (by omega), Nat.mul_one, hy]
              have hbd := HLO.out.bd k hlt
              rw [← HP2.out, ← hx, ← hy] at hbd
              obtain rfl : x = y := by rw [hx, hy, HOFF.out k hlt, HP2.out]
              clear hx hy hcp hcq
              go_wp2_with (fail)
              go_quiet (fail)
              go_wp2_with (fail)
              go_roundw
              case rel => exact ⟨k + 1, by omega, by go_num, by first | exact E2 | exact E2.drewN _⟩
              case measure => simp [intOf]; omega
            · obtain rfl : k = m2 := by omega
              have tl : decide ((k : Int) < (k : Int)) = false := by simp
              go_wp2_with (fail)
              go_meet
              exact ⟨E, HA.out, ⟨_, HS2.out⟩, HF2.out, HB2.out, HW2.out⟩
      | true =>
        as_aux_lemma =>
          obtain ⟨J, j1, j2, j3, j4, j5, j6, j7⟩ := HLO.out.on HQ3.out.symm
          have HJ4 := hid j4
          have HJ5 := hid j5
          have HJ6 := hid j6
          have HJ7 := hid j7
          obtain rfl : JV = (J : Int) := by rw [HQ4.out, j1]
          clear j1 j4 j5 j6 j7
          go_wp2_with (fail)
          go_loopw [277] (fun i wr => ∃ k : Nat, k ≤ m2 ∧ i = .int .i64 (k : Int) ∧ Ext w19 wr)
            (fun i _ => m2 - (intOf i).toNat)
          case atStart => exact ⟨0, Nat.zero_le _, rfl, Ext.refl _⟩
          case round =>
            obtain ⟨k, hk, rfl, hE⟩ := hrel
            replace E := E.trans hE
            replace HA := hid (HA.out.ext hE)
            replace HS2 := hid (HS2.out.ext hE)
            replace HF2 := hid (HF2.out.ext hE)
            replace HB2 := hid (HB2.out.ext hE)
            replace HW2 := hid (HW2.out.ext hE)
            replace HC := hid (HC.out.ext hE)
            replace HR1 := hid (HR1.out.ext hE)
            replace HR2 := hid (HR2.out.ext hE)
            have E2 := hE
            clear hE
            by_cases hlt : k < m2
            · have tl : decide ((k : Int) < (m2 : Int)) = true := by simpa using hlt
              obtain ⟨hz1, hz2, hz3, _, _, he, hz4, hz5, hcell⟩ := id HR1.out
              simp only [Value.slice.injEq, true_and] at he
              obtain ⟨rfl, rfl⟩ := he
              obtain ⟨bp, op, rfl, hbp, hcp⟩ := hcell.resolve_left (by omega)
              clear hz1 hz2 hz3 hz4 hz5 hcell
              obtain ⟨hz1, hz2, hz3, _, _, he, hz4, hz5, hcell⟩ := id HR2.out
              simp only [Value.slice.injEq, true_and] at he
              obtain ⟨rfl, rfl⟩ := he
              obtain ⟨bq, oq, rfl, hbq, hcq⟩ := hcell.resolve_left (by omega)
              clear hz1 hz2 hz3 hz4 hz5 hcell
              obtain ⟨x, hx⟩ : ∃ x, x = (lfV zs2 m2 T).getD k 0 := ⟨_, rfl⟩
              obtain ⟨y, hy⟩ : ∃ y, y = L2.getD k 0 := ⟨_, rfl⟩
              have sx : wr.cell? ⟨bp, op + k, none⟩ = some (.int .i64 x) := by rw [show op + k = op + k * 1 by omega, hcp _ (by omega), Nat.mul_one, hx]
              have sy : wr.cell? ⟨bq, oq + k, none⟩ = some (.int .i64 y) := by rw [show oq + k = oq + k * 1 by omega, hcq _ (by omega), Nat.mul_one, hy]
              have hbd := HLO.out.bd k hlt
              rw [← HP2.out, ← hx, ← hy] at hbd
              obtain ⟨hz1, hz2, hz3, _, _, he, hz4, hz5, hcell⟩ := id HC.out
              simp only [Value.slice.injEq, true_and] at he
              obtain ⟨rfl, rfl⟩ := he
              obtain ⟨ba, oa, rfl, hba, hca⟩ := hcell.resolve_left (by omega)
              clear hz1 hz2 hz3 hz4 hz5 hcell
              obtain ⟨AT, hAT⟩ : ∃ x, x = jAt zs2 k := ⟨_, rfl⟩
              obtain ⟨PK, hPK⟩ : ∃ x, x = jPr zs2 k := ⟨_, rfl⟩
              obtain ⟨PJ, hPJ⟩ : ∃ x, x = jPr zs2 J := ⟨_, rfl⟩
              have sa : wr.cell? ⟨ba, oa + k * 3, none⟩ = some (.int .i64 AT) := by rw [hca (k * 3) (by omega), hAT]; rfl
              have sp : wr.cell? ⟨ba, oa + k * 3 + 2, none⟩ = some (.int .i64 PK) := by rw [show oa + k * 3 + 2 = oa + (k * 3 + 2) by omega, hca _ (by omega), hPK]; rfl
              have sj : wr.cell? ⟨ba, oa + J * 3 + 2, none⟩ = some (.int .i64 PJ) := by rw [show oa + J * 3 + 2 = oa + (J * 3 + 2) by omega, hca _ (by omega), hPJ]; rfl
              have h7 := HJ7.out k hlt
              rw [← hx, ← hAT, ← hPK, ← hPJ] at h7
              have hJ0 : (0 : Int) ≤ (J : Int) := Int.natCast_nonneg _
              have hJ1 : (J : Int) < (m2 : Int) := by omega
              clear hcp hcq hca hAT hPK hPJ
              by_cases hkJ : k = J
              · subst hkJ
                obtain rfl : x = y + 1 := by rw [hx, hy, HJ5.out, HP2.out]
                have u0 : ((k : Int) == (k : Int)) = true := by simp
                have u1 : y + 1 - y = 1 := by omega
                clear hx hy
                by_cases hp : 0 < y + 1
                · have v1 : decide (0 < y + 1) = true := by simpa using hp
                  have v2 : decide (0 ≤ y) = true := by simp; omega
                  by_cases ha : AT ≤ T
                  · have hle := h7 hp ha
                    have v3 : decide (AT ≤ T) = true := by simpa using ha
                    have v4 : decide (PJ < PK) = false := by simp; omega
                    clear h7 hp ha hle
                    go_wp2_with (fail)
                    go_quiet (fail)
                    go_wp2_with (fail)
                    go_roundw
                    case rel => exact ⟨k + 1, by omega, by go_num, by first | exact E2 | exact E2.drewN _⟩
                    case measure => simp [intOf]; omega
                  · have v3 : decide (AT ≤ T) = false := by simpa using ha
                    clear h7 hp ha
                    go_wp2_with (fail)
                    go_quiet (fail)
                    go_wp2_with (fail)
                    go_roundw
                    case rel => exact ⟨k + 1, by omega, by go_num, by first | exact E2 | exact E2.drewN _⟩
                    case measure => simp [intOf]; omega
                · have v1 : decide (0 < y + 1) = false := by simpa using hp
                  clear h7 hp
                  have v2 : decide (0 ≤ y) = false := by simp at v1 ⊢; omega
                  go_wp2_with (fail)
                  go_quiet (fail)
                  go_wp2_with (fail)
                  go_roundw
                  case rel => exact ⟨k + 1, by omega, by go_num, by first | exact E2 | exact E2.drewN _⟩
                  case measure => simp [intOf]; omega
              · obtain rfl : x = y := by rw [hx, hy, HJ6.out k hlt hkJ, HP2.out]
                have t1 : decide ((k : Int) = (J : Int)) = false := by simp; omega
                have t2 : decide (k = J) = false := by simp; omega
                have t3 : ((k : Int) == (J : Int)) = false := by simp; omega
                have t4 : ((k : Int) != (J : Int)) = true := by simp; omega
                clear hx hy
                by_cases hp : 0 < x
                · have v1 : decide (0 < x) = true := by simpa using hp
                  by_cases ha : AT ≤ T
                  · have hle := h7 hp ha
                    have v3 : decide (AT ≤ T) = true := by simpa using ha
                    have v4 : decide (PJ < PK) = false := by simp; omega
                    clear h7 hp ha hle
                    go_wp2_with (fail)
                    go_quiet (fail)
                    go_wp2_with (fail)
                    go_roundw
                    case rel => exact ⟨k + 1, by omega, by go_num, by first | exact E2 | exact E2.drewN _⟩
                    case measure => simp [intOf]; omega
                  · have v3 : decide (AT ≤ T) = false := by simpa using ha
                    clear h7 hp ha
                    go_wp2_with (fail)
                    go_quiet (fail)
                    go_wp2_with (fail)
                    go_roundw
                    case rel => exact ⟨k + 1, by omega, by go_num, by first | exact E2 | exact E2.drewN _⟩
                    case measure => simp [intOf]; omega
                · have v1 : decide (0 < x) = false := by simpa using hp
                  clear h7 hp
                  go_wp2_with (fail)
                  go_quiet (fail)
                  go_wp2_with (fail)
                  go_roundw
                  case rel => exact ⟨k + 1, by omega, by go_num, by first | exact E2 | exact E2.drewN _⟩
                  case measure => simp [intOf]; omega
            · obtain rfl : k = m2 := by omega
              have tl : decide ((k : Int) < (k : Int)) = false := by simp
              obtain ⟨hz1, hz2, hz3, _, _, he, hz4, hz5, hcell⟩ := id HR1.out
              simp only [Value.slice.injEq, true_and] at he
              obtain ⟨rfl, rfl⟩ := he
              obtain ⟨bp, op, rfl, hbp, hcp⟩ := hcell.resolve_left (by omega)
              clear hz1 hz2 hz3 hz4 hz5 hcell
              obtain ⟨hz1, hz2, hz3, _, _, he, hz4, hz5, hcell⟩ := id HC.out
              simp only [Value.slice.injEq, true_and] at he
              obtain ⟨rfl, rfl⟩ := he
              obtain ⟨ba, oa, rfl, hba, hca⟩ := hcell.resolve_left (by omega)
              clear hz1 hz2 hz3 hz4 hz5 hcell
              obtain ⟨x, hx⟩ : ∃ x, x = (lfV zs2 k T).getD J 0 := ⟨_, rfl⟩
              obtain ⟨AT, hAT⟩ : ∃ x, x = jAt zs2 J := ⟨_, rfl⟩
              have sx : wr.cell? ⟨bp, op + J, none⟩ = some (.int .i64 x) := by rw [show op + J = op + J * 1 by omega, hcp _ (by omega), Nat.mul_one, hx]
              have sa : wr.cell? ⟨ba, oa + J * 3, none⟩ = some (.int .i64 AT) := by rw [hca (J * 3) (by omega), hAT]; rfl
              have v1 : decide (T < AT) = false := by rw [hAT]; simp; omega
              have v2 : decide (x < 1) = false := by have := HJ4.out; rw [← hx] at this; simp; omega
              have hJ0 : (0 : Int) ≤ (J : Int) := Int.natCast_nonneg _
              have hJ1 : (J : Int) < (k : Int) := by omega
              clear hx hAT hcp hca
              go_wp2_with (fail)
              go_meet
              exact ⟨E, HA.out, ⟨_, HS2.out⟩, HF2.out, HB2.out, HW2.out⟩
  case rest =>
  as_aux_lemma =>
  clear HBB HL HNL hm2 hT1 hT2
  clear E HA HS2 HF2 HB2 HW2 HC HL2
  obtain ⟨E, rHA, ⟨bs, rHS2⟩, rHF2, rHB2, rHW2⟩ := hcut
  have HA := hid rHA
  have HS2 := hid rHS2
  have HF2 := hid rHF2
  have HB2 := hid rHB2
  have HW2 := hid rHW2
  clear rHA rHS2 rHF2 rHB2 rHW2
  cases ok with
  | false =>
    go_wp2_with (fail)
    go_ret
    exact ⟨rfl, E⟩
  | true =>
    as_aux_lemma =>
      obtain ⟨i0, hi, hz0, hz1, hz2⟩ := info_parts info_Int
      obtain ⟨hok, hFe, hBe, hWe, hSe, hIe⟩ := HF.out (by first | rfl | trivial)
      have hm12 : m ≤ 12 := okJs_n hok
      have lF : F.length = m := by rw [hFe]; exact finJ_len zs m
      have lB : B.length = m := by rw [hBe]; exact brkJ_len zs m
      have lW : Wt.length = m := by rw [hWe]; simp [waitJ]
      have RF := HF2.out
      have RB := HB2.out
      have RWW := HW2.out
      rw [lF] at RF
      rw [lB] at RB
      rw [lW] at RWW
      rw [lF, lB, lW]
      subst hFe hBe hWe hSe
      have HRF := hid RF
      have HRB := hid RB
      have HRW := hid RWW
      have HOK := hid hok
      have HIE := hid hIe
      clear RF RB RWW lF lB lW HF2 HB2 HW2 hok hIe HF
      obtain ⟨N, hN⟩ : ∃ N, N = gS2.length := ⟨_, rfl⟩
      have hNS : N = (segJ zs m).length := by rw [hN]; exact HS2.out.len
      have hN6 : N ≤ 680 := by rw [hNS]; exact (segJ_inv HOK.out).1
      obtain ⟨a9, c9, he9, hnc9, hcm9, hown9⟩ := HS2.out.shape
      simp only [Value.slice.injEq, true_and] at he9
      obtain ⟨rfl, rfl⟩ := he9
      rw [← hN] at hown9 ⊢
      have HN := hid hN
      have HNS := hid hNS
      unfold maxLen at hcm9
      clear hN hNS
      have HREAD2 : Hid (∀ k, k < N → ∃ (J : Nat) (a b : Int) (G g : Nat) (bF oF bA oA : Nat), aS2 = some ⟨G, 0, none⟩ ∧ aF2 = some ⟨bF, oF, none⟩ ∧ aA = some ⟨bA, oA, none⟩ ∧ SegR zs m k J a b ∧ Hid (∀ W : World, Ext wc W → W.cell? ⟨G, k, none⟩ = some (.slice (some ⟨g, 0, none⟩) 3 3) ∧ W.cell? ⟨g, 0, none⟩ = some (.int .i64 (J : Int)) ∧ W.cell? ⟨g, 1, none⟩ = some (.int .i64 a) ∧ W.cell? ⟨g, 2, none⟩ = some (.int .i64 b) ∧ W.cell? ⟨bA, oA + J * 3, none⟩ = some (.int .i64 (jAt zs J)) ∧ W.cell? ⟨bF, oF + J, none⟩ = some (.int .i64 ((finJ zs m).getD J 0)))) := by
        refine hid fun k hk => ?_
        obtain ⟨G, rfl, _, hG⟩ := hown9.resolve_left (by omega)
        have hk1 : k < gS2.length := by rw [← HN.out]; exact hk
        obtain ⟨J, a, b, hS⟩ := seg_round HOK.out (k := k) (by rw [← HNS.out]; exact hk)
        have hJ := hS.lt
        obtain ⟨_, _, _, _, _, he, _, _, hcA⟩ := HA.out
        simp only [Value.slice.injEq, true_and] at he
        obtain ⟨rfl, rfl⟩ := he
        obtain ⟨bA, oA, rfl, hbA, hcA⟩ := hcA.resolve_left (by omega)
        obtain ⟨_, _, _, _, _, he, _, _, hcF⟩ := HRF.out
        simp only [Value.slice.injEq, true_and] at he
        obtain ⟨rfl, rfl⟩ := he
        obtain ⟨bF, oF, rfl, hbF, hcF⟩ := hcF.resolve_left (by omega)
        refine ⟨J, a, b, G, gS2.getD k 0, bF, oF, bA, oA, rfl, rfl, rfl, hS, hid fun W hW => ?_⟩
        have hl := HS2.out.ext hW
        have s0 := hl.at_ (c := dS2) hk1 (by rw [← HN.out])
        have i0 := hl.icell (i := k) (j := 0) hk1 (by omega)
        have i1 := hl.icell (i := k) (j := 1) hk1 (by omega)
        have i2 := hl.icell (i := k) (j := 2) hk1 (by omega)
        rw [hS.seg] at i0 i1 i2
        have hf := hcF (J * 1) (by omega)
        rw [Nat.mul_one] at hf
        exact ⟨s0, i0, i1, i2, by rw [(Ext.cells hW).1 _ _ hbA]; exact hcA (J * 3) (by omega), by rw [(Ext.cells hW).1 _ _ hbF]; exact hf⟩
      clear hown9
      go_upto_region 40 with (at_make; refine wpList_make_full _ rfl _ _ 38 rfl wc.heap.size 3 i0 _ 1 Try.underlying38 hi hz0 hz1 .i64 .i64 _ _ m rfl rfl rfl rfl (by rw [hz2]; omega) (by unfold maxLen; omega) (Nat.le_refl _) ?_; intro ws hr hg)
      rw [made_ints] at hr
      have k1 : Ext wc ws := (Ext.refl _).of_grown hg
      obtain ⟨Bs, hBs⟩ : ∃ b, b = wc.heap.size := ⟨_, rfl⟩
      rw [← hBs] at hr ⊢
      have hlt1 : Bs < ws.heap.size := (hr.lt _ rfl).2
      have HSR := hid hr
      have hBs' : wc.heap.size ≤ Bs := by omega
      clear hr hg hBs
      go_wp2_with (at_make; refine wpList_make_full _ rfl _ _ 38 rfl ws.heap.size 3 i0 _ 1 Try.underlying38 hi hz0 hz1 .i64 .i64 _ _ m rfl rfl rfl rfl (by rw [hz2]; omega) (by unfold maxLen; omega) (Nat.le_refl _) ?_; intro wp hr hg)
      rw [made_ints] at hr
      have k2 : Ext ws wp := (Ext.refl _).of_grown hg
      obtain ⟨Bp, hBp⟩ : ∃ b, b = ws.heap.size := ⟨_, rfl⟩
      rw [← hBp] at hr hlt1 ⊢
      have HPR := hid hr
      replace HSR := hid (row_ext HSR.out k2)
      have Ep : Ext wc wp := k1.trans k2
      clear hr hg k1 k2 hBp
      go_loopw [45, 46, 360] (fun la ga i wr => ∃ k : Nat, k ≤ N ∧ i = .int .i64 (k : Int) ∧ la = .int .i64 (lastF (segJ zs m) k) ∧ ga = .int .i64 (gapF (segJ zs m) k) ∧ wr.ownsRow Bs 3 1 (.slice (some ⟨Bs, 0, none⟩) m m) m ((sntF (segJ zs m) m k).map (Value.int .i64)) ∧ wr.ownsRow Bp 3 1 (.slice (some ⟨Bp, 0, none⟩) m m) m ((prtF (segJ zs m) m k).map (Value.int .i64)) ∧ Ext wc wr)
        (fun _ _ i _ => N - (intOf i).toNat)
      case atStart => exact ⟨0, Nat.zero_le _, rfl, rfl, rfl, HSR.out, HPR.out, Ep⟩
      case round =>
        clear HSR HPR Ep
        obtain ⟨k, hk, rfl, rfl, rfl, hsr, hpr, hE⟩ := hrel
        by_cases hlt : k < N
        · as_aux_lemma =>
            obtain ⟨J, a, b, G, g, bF, oF, bA, oA, rfl, rfl, rfl, hS, HC9⟩ := HREAD2.out k hlt
            obtain ⟨s0, i0', i1, i2, sA, sF⟩ := HC9.out wr hE
            have b1 := hS.lt
            have b2 := hS.last
            have b3 := hS.a0
            have b4 := hS.ab
            have b5 := hS.b6
            have b6 := hS.at_
            have b7 := hS.fin
            have b8 := hS.lb
            have b9 := hS.gb
            have b10 := hS.sb
            have b11 := hS.pb
            have HSG := hid hS
            obtain ⟨AT, hAT⟩ : ∃ x, x = jAt zs J := ⟨_, rfl⟩
            obtain ⟨FF, hFF⟩ : ∃ x, x = (finJ zs m).getD J 0 := ⟨_, rfl⟩
            obtain ⟨LA, hLA⟩ : ∃ x, x = lastF (segJ zs m) k := ⟨_, rfl⟩
            obtain ⟨GA, hGA⟩ : ∃ x, x = gapF (segJ zs m) k := ⟨_, rfl⟩
            obtain ⟨SJ, hSJ⟩ : ∃ x, x = (sntF (segJ zs m) m k).getD J 0 := ⟨_, rfl⟩
            obtain ⟨PJ, hPJ⟩ : ∃ x, x = (prtF (segJ zs m) m k).getD J 0 := ⟨_, rfl⟩
            have cS : wr.cell? ⟨Bs, J, none⟩ = some (.int .i64 SJ) := by rw [hsr.cellAt J (by omega), map_getD (by rw [sntF_len]; exact b1), hSJ]
            have cP : wr.cell? ⟨Bp, J, none⟩ = some (.int .i64 PJ) := by rw [hpr.cellAt J (by omega), map_getD (by rw [prtF_len]; exact b1), hPJ]
            have fS := hsr.frozenAt J
            have fP := hpr.frozenAt J
            have hbB := (hpr.lt _ rfl).2
            rw [← hAT] at sA b6 HC9
            rw [← hFF] at sF b7 HC9
            rw [← hLA] at b2 b8 ⊢
            rw [← hGA] at b9 ⊢
            rw [← hSJ] at b10
            rw [← hPJ] at b11
            have HLA := hid hLA
            have HGA := hid hGA
            have HSJ := hid hSJ
            have HPJ := hid hPJ
            have HAT := hid hAT
            have HFF := hid hFF
            have HSR := hid hsr
            have HPR := hid hpr
            have hJ0 : (0 : Int) ≤ (J : Int) := Int.natCast_nonneg _
            have hJ1 : (J : Int) < (m : Int) := by omega
            have t0 : decide ((m : Int) ≤ (J : Int)) = false := by simp; omega
            have t0' : decide (m ≤ J) = false := by simp; omega
            have t1 : decide (a < LA) = false := by simp; omega
            have t2 : decide (b ≤ a) = false := by simp; omega
            have t3 : decide (a < AT) = false := by simp; omega
            have t4 : decide (FF < b) = false := by simp; omega
            have tl : decide ((k : Int) < (N : Int)) = true := by simpa using hlt
            clear hAT hFF hLA hGA hSJ hPJ hS hsr hpr
            go_wp2_with (fail)
            go_quiet (fail)
            rename Nat => nq
            have kq := (Ext.refl wr).drewN nq
            have cSq := row_ext HSR.out kq
            have cPq := row_ext HPR.out kq
            generalize wr.drewN nq = wa at kq cSq cPq ⊢
            have ha := hE.trans kq
            replace HSR := hid cSq
            replace HPR := hid cPq
            clear cSq cPq s0 i0' i1 i2 sA sF cS cP fS fP kq
            obtain ⟨s0, i0', i1, i2, sA, sF⟩ := HC9.out wa ha
            have cS : wa.cell? ⟨Bs, J, none⟩ = some (.int .i64 SJ) := by rw [HSR.out.cellAt J (by omega), map_getD (by rw [sntF_len]; exact b1), HSJ.out]
            have fS := HSR.out.frozenAt J
            go_wp2_with (fail)
            go_still_tail 15, (by kernel_rfl)
            go_upto_region 50 with (fail)
            have hne : ∀ k, (Value.slice (some ⟨Bp, 0, none⟩) m m).ownBlock = some k → k ≠ Bs := fun k e => by simp [Value.ownBlock] at e; omega
            have hne2 : ∀ k, (Value.slice (some ⟨Bs, 0, none⟩) m m).ownBlock = some k → k ≠ Bp := fun k e => by simp [Value.ownBlock] at e; omega
            have hBp' : wc.heap.size ≤ Bp := by omega
            have hb := (ha.setCell (p := ⟨Bs, J, none⟩) hBs' (.int .i64 (SJ + (b - a)))).drew
            have sr := row_ext (HSR.out.stored J (.int .i64 (SJ + (b - a)))).1 ((Ext.refl _).drew)
            have pr := row_ext (row_setp (j := J) (u := .int .i64 (SJ + (b - a))) HPR.out hne) ((Ext.refl _).drew)
            generalize (wa.setCell ⟨Bs, J, none⟩ (.int .i64 (SJ + (b - a)))).drew = wb at hb sr pr ⊢
            replace HSR := hid sr
            replace HPR := hid pr
            clear sr pr s0 i0' i1 i2 sA sF cS fS ha
            obtain ⟨s0, i0', i1, i2, sA, sF⟩ := HC9.out wb hb
            have cP : wb.cell? ⟨Bp, J, none⟩ = some (.int .i64 PJ) := by rw [HPR.out.cellAt J (by omega), map_getD (by rw [prtF_len]; exact b1), HPJ.out]
            have fP := HPR.out.frozenAt J
            go_upto_region 51 with (fail)
            have hd := hb.setCell (p := ⟨Bp, J, none⟩) hBp' (.int .i64 (PJ + 1))
            have pr := (HPR.out.stored J (.int .i64 (PJ + 1))).1
            have sr := row_setp (j := J) (u := .int .i64 (PJ + 1)) HSR.out hne2
            generalize wb.setCell ⟨Bp, J, none⟩ (.int .i64 (PJ + 1)) = wd at hd sr pr ⊢
            replace HSR := hid sr
            replace HPR := hid pr
            clear sr pr s0 i0' i1 i2 sA sF cP fP hb hne hne2
            obtain ⟨s0, i0', i1, i2, sA, sF⟩ := HC9.out wd hd
            go_quiet (fail)
            rename Nat => nq
            go_wp2_with (fail)
            go_roundw
            case rel =>
              have ek := (Ext.refl wd).drewN nq
              have e1 := HSG.out.last'
              have e2 := HSG.out.gap'
              have e3 := HSG.out.snt'
              have e4 := HSG.out.prt'
              rw [← HLA.out, ← HGA.out] at e2
              rw [← HSJ.out] at e3
              rw [← HPJ.out] at e4
              refine ⟨k + 1, by omega, by go_num, by rw [e1], by rw [e2], ?_, ?_, hd.trans ek⟩
              · rw [e3, List.map_set]
                exact row_ext HSR.out ek
              · rw [e4, List.map_set]
                exact row_ext HPR.out ek
            case measure => simp [intOf]; omega
        · as_aux_lemma =>
            obtain rfl : k = N := by omega
            have tl : decide ((k : Int) < (k : Int)) = false := by simp
            have hgi : gapF (segJ zs m) k = I := by rw [HIE.out, HNS.out]; exact (line_ok HOK.out).gaps
            rw [hgi]
            clear hgi
            rw [HNS.out] at hsr hpr
            have HSR := hid hsr
            have HPR := hid hpr
            obtain ⟨wo, hwo⟩ : ∃ wo : World, wo = wr := ⟨_, rfl⟩
            subst hwo
            clear hsr hpr HREAD2
            go_wp2_with (fail)
            go_loopw [456] (fun i wy => ∃ j : Nat, j ≤ m ∧ i = .int .i64 (j : Int) ∧ Ext wo wy)
              (fun i _ => m - (intOf i).toNat)
            case atStart => exact ⟨0, Nat.zero_le _, rfl, Ext.refl _⟩
            case round =>
              obtain ⟨j, hj, rfl, hY⟩ := hrel
              have hEy := hE.trans hY
              by_cases hlj : j < m
              · as_aux_lemma =>
                  have hje := job_end HOK.out hlj
                  have tj : decide ((j : Int) < (m : Int)) = true := by simpa using hlj
                  obtain ⟨hz1, hz2, hz3, _, _, he, hz4, hz5, hcell⟩ := id HA.out
                  simp only [Value.slice.injEq, true_and] at he
                  obtain ⟨rfl, rfl⟩ := he
                  obtain ⟨ba, oa, rfl, hba, hca⟩ := hcell.resolve_left (by omega)
                  clear hz1 hz2 hz3 hz4 hz5 hcell
                  obtain ⟨hz1, hz2, hz3, _, _, he, hz4, hz5, hcell⟩ := id HRF.out
                  simp only [Value.slice.injEq, true_and] at he
                  obtain ⟨rfl, rfl⟩ := he
                  obtain ⟨bf, of, rfl, hbf, hcf⟩ := hcell.resolve_left (by omega)
                  clear hz1 hz2 hz3 hz4 hz5 hcell
                  obtain ⟨hz1, hz2, hz3, _, _, he, hz4, hz5, hcell⟩ := id HRB.out
                  simp only [Value.slice.injEq, true_and] at he
                  obtain ⟨rfl, rfl⟩ := he
                  obtain ⟨bb, ob, rfl, hbb, hcb⟩ := hcell.resolve_left (by omega)
                  clear hz1 hz2 hz3 hz4 hz5 hcell
                  obtain ⟨hz1, hz2, hz3, _, _, he, hz4, hz5, hcell⟩ := id HRW.out
                  simp only [Value.slice.injEq, true_and] at he
                  obtain ⟨rfl, rfl⟩ := he
                  obtain ⟨bw, ow, rfl, hbw, hcw⟩ := hcell.resolve_left (by omega)
                  clear hz1 hz2 hz3 hz4 hz5 hcell
                  obtain ⟨AT, hAT⟩ : ∃ x, x = jAt zs j := ⟨_, rfl⟩
                  obtain ⟨LN, hLN⟩ : ∃ x, x = jLen zs j := ⟨_, rfl⟩
                  obtain ⟨PR, hPR⟩ : ∃ x, x = jPr zs j := ⟨_, rfl⟩
                  obtain ⟨FO, hFO⟩ : ∃ x, x = (finJ zs m).getD j 0 := ⟨_, rfl⟩
                  obtain ⟨PP, hPP⟩ : ∃ x, x = (prtF (segJ zs m) m (segJ zs m).length).getD j 0 := ⟨_, rfl⟩
                  have HCJ : Hid (∀ W : World, Ext wo W → W.cell? ⟨ba, oa + j * 3, none⟩ = some (.int .i64 AT) ∧ W.cell? ⟨ba, oa + j * 3 + 1, none⟩ = some (.int .i64 LN) ∧ W.cell? ⟨ba, oa + j * 3 + 2, none⟩ = some (.int .i64 PR) ∧ W.cell? ⟨bf, of + j, none⟩ = some (.int .i64 FO) ∧ W.cell? ⟨bb, ob + j, none⟩ = some (.int .i64 (PP - 1)) ∧ W.cell? ⟨bw, ow + j, none⟩ = some (.int .i64 (FO - AT - LN)) ∧ W.cell? ⟨Bs, j, none⟩ = some (.int .i64 LN) ∧ W.cell? ⟨Bp, j, none⟩ = some (.int .i64 PP)) := by
                    refine hid fun W hW => ?_
                    have hc := (Ext.cells (hE.trans hW)).1
                    have hf1 := hcf (j * 1) (by omega)
                    have hf2 := hcb (j * 1) (by omega)
                    have hf3 := hcw (j * 1) (by omega)
                    rw [Nat.mul_one] at hf1 hf2 hf3
                    rw [hje.b, ← hPP] at hf2
                    rw [hje.w, ← hFO, ← hAT, ← hLN] at hf3
                    refine ⟨by rw [hc _ _ hba, hca (j * 3) (by omega), hAT]; rfl, by rw [show oa + j * 3 + 1 = oa + (j * 3 + 1) by omega, hc _ _ hba, hca _ (by omega), hLN]; rfl, by rw [show oa + j * 3 + 2 = oa + (j * 3 + 2) by omega, hc _ _ hba, hca _ (by omega), hPR]; rfl, by rw [hc _ _ hbf, hf1, hFO], by rw [hc _ _ hbb]; exact hf2, by rw [hc _ _ hbw]; exact hf3, ?_, ?_⟩
                    · rw [(row_ext HSR.out hW).cellAt j (by omega), map_getD (by rw [sntF_len]; exact hlj), hje.s, hLN]
                    · rw [(row_ext HPR.out hW).cellAt j (by omega), map_getD (by rw [prtF_len]; exact hlj), hPP]
                  have b1 := hje.bd
                  have b2 := hje.pb
                  have b3 := hje.w0
                  rw [hje.w] at b3
                  rw [← hAT, ← hLN, ← hFO] at b1 b3
                  rw [← hPP] at b2
                  have t1 : decide (FO - AT - LN < 0) = false := by simp; omega
                  clear hAT hLN hPR hFO hPP hca hcf hcb hcw hje
                  obtain ⟨g0, g1, g2, _⟩ := HCJ.out wr hY
                  have T := Tri3.new wr AT LN PR
                  have Ea : Ext wr (wr.alloc (.cells #[.int .i64 AT, .int .i64 LN, .int .i64 PR] 53)) := (Ext.refl _).alloc _
                  go_wp2_with (fail)
                  obtain ⟨T1, T2, T3, T4⟩ := T
                  generalize wr.alloc (.cells #[.int .i64 AT, .int .i64 LN, .int .i64 PR] 53) = wq at T1 T2 T3 T4 Ea ⊢
                  obtain ⟨bq, hbq⟩ : ∃ b, b = wr.heap.size := ⟨_, rfl⟩
                  rw [← hbq] at T1 T2 T3 T4 ⊢
                  clear hbq g0 g1 g2
                  obtain ⟨_, _, _, g3, g4, g5, g6, g7⟩ := HCJ.out wq (hY.trans Ea)
                  go_quiet (fail)
                  go_wp2_with (fail)
                  go_roundw
                  case rel => exact ⟨j + 1, by omega, by go_num, by first | exact hY.trans Ea | exact (hY.trans Ea).drewN _⟩
                  case measure => simp [intOf]; omega
              · as_aux_lemma =>
                  obtain rfl : j = m := by omega
                  have tj : decide ((j : Int) < (j : Int)) = false := by simp
                  go_wp2_with (fail)
                  go_ret
                  exact ⟨rfl, E.trans hEy⟩
end Go.Proofs.Ytabafhmeefeioaa