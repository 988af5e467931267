/- The law of hand-overs: hours of duty are kept by exchanges and hand-overs, assigned operators rest and are as few as can be. No condition. -/
import Derived.Test.YtijeieacoaopcaaShoQ
import Derived.Test.YtijeieacoaopcaaShoE
import Derived.Test.YtijeieacoaopcaaQs
import Derived.Deep.RegionHeld3
namespace Go.Proofs.Ytijeieacoaopcaa
open Go.RowKit
set_option linter.unusedSimpArgs false
set_option linter.unusedVariables false

/-- a box of three integers -/
def TriB (w : World) (b : Nat) (x y z : Int) : Prop := w.cell? ⟨b, 0, none⟩ = some (.int .i64 x) ∧ w.cell? ⟨b, 1, none⟩ = some (.int .i64 y) ∧ w.cell? ⟨b, 2, none⟩ = some (.int .i64 z) ∧ b < w.heap.size
theorem TriB.new (w : World) (x y z : Int) : TriB (w.alloc (.cells #[.int .i64 x, .int .i64 y, .int .i64 z] 42)) w.heap.size x y z := by
  refine ⟨by simp, by simp, by simp, by rw [World.size_alloc]; omega⟩
theorem TriB.ext {w w' : World} {b : Nat} {x y z : Int} (h : TriB w b x y z) (e : Ext w w') : TriB w' b x y z :=
  ⟨by rw [(Ext.cells e).1 _ _ h.2.2.2]; exact h.1, by rw [(Ext.cells e).1 _ _ h.2.2.2]; exact h.2.1, by rw [(Ext.cells e).1 _ _ h.2.2.2]; exact h.2.2.1, Nat.lt_of_lt_of_le h.2.2.2 e.size⟩
def CellB (w : World) (b o : Nat) (v : Value) : Prop := w.cell? ⟨b, o, none⟩ = some v ∧ b < w.heap.size
theorem CellB.ext {w w' : World} {b o : Nat} {v : Value} (h : CellB w b o v) (e : Ext w w') : CellB w' b o v := ⟨by rw [(Ext.cells e).1 _ _ h.2]; exact h.1, Nat.lt_of_lt_of_le h.2 e.size⟩
theorem row3_at {w : World} {a : Option Addr} {n c : Nat} {z : List Int} (h : IntRow .i64 3 w (.slice a n c) n z) {k : Nat} (hk : k < n) : ∃ b o, a = some ⟨b, o, none⟩ ∧ b < w.heap.size ∧ w.cell? ⟨b, o + k * 3, none⟩ = some (.int .i64 (shOp z k)) ∧ w.cell? ⟨b, o + k * 3 + 1, none⟩ = some (.int .i64 (shFr z k)) ∧ w.cell? ⟨b, o + k * 3 + 2, none⟩ = some (.int .i64 (shTo z k)) := by
  obtain ⟨_, _, _, a', c', he, _, _, hcell⟩ := h
  simp only [Value.slice.injEq, true_and] at he
  obtain ⟨rfl, rfl⟩ := he
  obtain ⟨b, oo, rfl, hbq, hc⟩ := hcell.resolve_left (by omega)
  exact ⟨b, oo, rfl, hbq, hc _ (by omega), by rw [Nat.add_assoc]; exact hc _ (by omega), by rw [Nat.add_assoc]; exact hc _ (by omega)⟩
theorem row1_at {w : World} {a : Option Addr} {n c : Nat} {z : List Int} (h : IntRow .i64 1 w (.slice a n c) n z) {k : Nat} (hk : k < n) : ∃ b o, a = some ⟨b, o, none⟩ ∧ b < w.heap.size ∧ w.cell? ⟨b, o + k, none⟩ = some (.int .i64 (z.getD k 0)) := by
  obtain ⟨_, _, _, a', c', he, _, _, hcell⟩ := h
  simp only [Value.slice.injEq, true_and] at he
  obtain ⟨rfl, rfl⟩ := he
  obtain ⟨b, oo, rfl, hbq, hc⟩ := hcell.resolve_left (by omega)
  exact ⟨b, oo, rfl, hbq, hc _ (by omega)⟩
theorem row_cap {kd : IntKind} {s : Nat} {w : World} {a : Option Addr} {n c : Nat} {z : List Int} (h : IntRow kd s w (.slice a n c) n z) : n ≤ c := by
  obtain ⟨_, _, _, a', c', he, h1, _, _⟩ := h
  simp only [Value.slice.injEq, true_and] at he
  obtain ⟨_, rfl⟩ := he
  exact h1

set_option maxRecDepth 100000 in
set_option maxHeartbeats 20000000 in
theorem walkFnHandOvers (v0 : Value) (n0 : Nat) (z0 : List Int) (v1 : Value) (n1 : Nat) (z1 : List Int) (w : World) (r0 : IntRow .u8 1 w v0 n0 z0) (r1 : IntRow .u8 1 w v1 n1 z1) :
    Calls Try.prog 3 #[v0, v1] w fun e w' => e = .returned (.bool true) ∧ Ext w w' := by
  obtain ⟨a0, c0, rfl⟩ := introw_slice r0
  obtain ⟨a1, c1, rfl⟩ := introw_slice r1
  have hm0 := r0.2.1
  have hm1 := r1.2.1
  unfold maxLen at hm0 hm1
  obtain ⟨TS, hTS⟩ : ∃ t, t = IntKind.i64.wrap ((n0 : Int) + (n1 : Int)) := ⟨_, rfl⟩
  have hws := hTS.symm
  by_cases hbig : (1048576 : Int) < TS
  · have tb : decide ((1048576 : Int) < TS) = true := by simpa using hbig
    clear hTS hbig
    go_enter Try.func3, Try.ntmps3
    go_wp2_with (fail)
    go_ret
    exact ⟨rfl, Ext.refl _⟩
  have tb : decide ((1048576 : Int) < TS) = false := by simpa using hbig
  clear hTS
  go_enter Try.func3, Try.ntmps3
  have E : Ext w w := Ext.refl w
  have R1 := hid r1
  clear r1
  go_wp2_with (fail)
  refine (drawAssign _ n0 z0 _ r0 hm0).mono ?_
  rintro e w1 ⟨X, vA, m, zs, rfl, hr, hm, k1⟩
  replace E := E.trans k1
  replace R1 := hid (R1.out.ext k1)
  have HA := hid hr
  obtain ⟨aA, dA, rfl⟩ := introw_slice HA.out
  clear hr k1
  clear hws tb hbig r0
  obtain ⟨AL, nA, ok, c1, c2, hw, hn, hF⟩ := asAll (.slice aA m dA) m zs X
  have HF := hid hF
  have HWA := hid (And.intro hw hn)
  clear hF hw hn
  go_wp2_with (fail)
  refine (c1 _ HA.out).mono ?_
  rintro e w2 ⟨vA1, rfl, hr, k2⟩
  replace E := E.trans k2
  replace R1 := hid (R1.out.ext k2)
  replace HA := hid (HA.out.ext k2)
  have HA1 := hid (row_ints hr (by have := HWA.out.2; unfold maxLen; omega) HWA.out.1)
  obtain ⟨aA1, dA1, rfl⟩ := introw_slice HA1.out
  clear hr k2
  go_wp2_with (fail)
  refine (c2 _ HA.out).mono ?_
  rintro e w3 ⟨vA2, rfl, hr, k3⟩
  replace E := E.trans k3
  replace R1 := hid (R1.out.ext k3)
  replace HA := hid (HA.out.ext k3)
  replace HA1 := hid (HA1.out.ext k3)
  have HA2 := hid (row_ints hr (by have := HWA.out.2; unfold maxLen; omega) HWA.out.1)
  obtain ⟨aA2, dA2, rfl⟩ := introw_slice HA2.out
  clear hr k3
  clear c1 c2
  go_wp2_with (fail)
  refine (drawExchange _ n1 z1 _ R1.out hm1).mono ?_
  rintro e w4 ⟨X2, Y2, vB, m2, zs2, rfl, hr, hm2, k4⟩
  replace E := E.trans k4
  replace R1 := hid (R1.out.ext k4)
  replace HA := hid (HA.out.ext k4)
  replace HA1 := hid (HA1.out.ext k4)
  replace HA2 := hid (HA2.out.ext k4)
  have HB := hid hr
  obtain ⟨aB, dB, rfl⟩ := introw_slice HB.out
  clear hr k4
  obtain ⟨XL, nX, one, c3, c4, hw, hn, hF⟩ := exAll (.slice aB m2 dB) m2 zs2 X2 Y2 HB.out.1 HB.out.2.2.1
  have HF2 := hid hF
  have HWX := hid (And.intro hw hn)
  clear hF hw hn
  go_wp2_with (fail)
  refine (c3 _ HB.out).mono ?_
  rintro e w5 ⟨vX1, rfl, hr, k5⟩
  replace E := E.trans k5
  replace R1 := hid (R1.out.ext k5)
  replace HA := hid (HA.out.ext k5)
  replace HA1 := hid (HA1.out.ext k5)
  replace HA2 := hid (HA2.out.ext k5)
  replace HB := hid (HB.out.ext k5)
  have HX1 := hid (row_ints hr (by have := HWX.out.2; unfold maxLen; omega) HWX.out.1)
  obtain ⟨aX1, dX1, rfl⟩ := introw_slice HX1.out
  clear hr k5
  go_wp2_with (fail)
  refine (c4 _ HB.out).mono ?_
  rintro e w6 ⟨vX2, rfl, hr, k6⟩
  replace E := E.trans k6
  replace R1 := hid (R1.out.ext k6)
  replace HA := hid (HA.out.ext k6)
  replace HA1 := hid (HA1.out.ext k6)
  replace HA2 := hid (HA2.out.ext k6)
  replace HB := hid (HB.out.ext k6)
  replace HX1 := hid (HX1.out.ext k6)
  have HX2 := hid (row_ints hr (by have := HWX.out.2; unfold maxLen; omega) HWX.out.1)
  obtain ⟨aX2, dX2, rfl⟩ := introw_slice HX2.out
  clear hr k6
  clear c3 c4
  go_wp2_with (fail)
  refine (drawHandOver _ n1 z1 _ R1.out hm1).mono ?_
  rintro e w7 ⟨X3, Y3, P3, vC, m3, zs3, rfl, hr, hm3, k7⟩
  replace E := E.trans k7
  replace R1 := hid (R1.out.ext k7)
  replace HA := hid (HA.out.ext k7)
  replace HA1 := hid (HA1.out.ext k7)
  replace HA2 := hid (HA2.out.ext k7)
  replace HB := hid (HB.out.ext k7)
  replace HX1 := hid (HX1.out.ext k7)
  replace HX2 := hid (HX2.out.ext k7)
  have HC := hid hr
  obtain ⟨aC, dC, rfl⟩ := introw_slice HC.out
  clear hr k7
  obtain ⟨HL, nH, three, c5, c6, hw, hn, hF⟩ := hoAll (.slice aC m3 dC) m3 zs3 X3 Y3 P3 HC.out.1 HC.out.2.2.1
  have HF3 := hid hF
  have HWH := hid (And.intro hw hn)
  clear hF hw hn
  go_wp2_with (fail)
  refine (c5 _ HC.out).mono ?_
  rintro e w8 ⟨vH1, rfl, hr, k8⟩
  replace E := E.trans k8
  replace R1 := hid (R1.out.ext k8)
  replace HA := hid (HA.out.ext k8)
  replace HA1 := hid (HA1.out.ext k8)
  replace HA2 := hid (HA2.out.ext k8)
  replace HB := hid (HB.out.ext k8)
  replace HX1 := hid (HX1.out.ext k8)
  replace HX2 := hid (HX2.out.ext k8)
  replace HC := hid (HC.out.ext k8)
  have HH1 := hid (row_ints hr (by have := HWH.out.2; unfold maxLen; omega) HWH.out.1)
  obtain ⟨aH1, dH1, rfl⟩ := introw_slice HH1.out
  clear hr k8
  go_wp2_with (fail)
  refine (c6 _ HC.out).mono ?_
  rintro e w9 ⟨vH2, rfl, hr, k9⟩
  replace E := E.trans k9
  replace R1 := hid (R1.out.ext k9)
  replace HA := hid (HA.out.ext k9)
  replace HA1 := hid (HA1.out.ext k9)
  replace HA2 := hid (HA2.out.ext k9)
  replace HB := hid (HB.out.ext k9)
  replace HX1 := hid (HX1.out.ext k9)
  replace HX2 := hid (HX2.out.ext k9)
  replace HC := hid (HC.out.ext k9)
  replace HH1 := hid (HH1.out.ext k9)
  have HH2 := hid (row_ints hr (by have := HWH.out.2; unfold maxLen; omega) HWH.out.1)
  obtain ⟨aH2, dH2, rfl⟩ := introw_slice HH2.out
  clear hr k9
  clear c5 c6
  clear R1
  go_wp2_with (fail)
  refine (qInts_same _ _ nA AL _ HA1.out HA2.out).mono ?_
  rintro e w10 ⟨rfl, k10⟩
  replace E := E.trans k10
  replace HA := hid (HA.out.ext k10)
  replace HA1 := hid (HA1.out.ext k10)
  replace HA2 := hid (HA2.out.ext k10)
  replace HB := hid (HB.out.ext k10)
  replace HX1 := hid (HX1.out.ext k10)
  replace HX2 := hid (HX2.out.ext k10)
  replace HC := hid (HC.out.ext k10)
  replace HH1 := hid (HH1.out.ext k10)
  replace HH2 := hid (HH2.out.ext k10)
  clear k10
  go_wp2_with (fail)
  refine (qShifts_same _ _ nX XL _ HX1.out HX2.out).mono ?_
  rintro e w11 ⟨rfl, k11⟩
  replace E := E.trans k11
  replace HA := hid (HA.out.ext k11)
  replace HA1 := hid (HA1.out.ext k11)
  replace HA2 := hid (HA2.out.ext k11)
  replace HB := hid (HB.out.ext k11)
  replace HX1 := hid (HX1.out.ext k11)
  replace HX2 := hid (HX2.out.ext k11)
  replace HC := hid (HC.out.ext k11)
  replace HH1 := hid (HH1.out.ext k11)
  replace HH2 := hid (HH2.out.ext k11)
  clear k11
  go_wp2_with (fail)
  refine (qShifts_same _ _ nH HL _ HH1.out HH2.out).mono ?_
  rintro e w12 ⟨rfl, k12⟩
  replace E := E.trans k12
  replace HA := hid (HA.out.ext k12)
  replace HA1 := hid (HA1.out.ext k12)
  replace HA2 := hid (HA2.out.ext k12)
  replace HB := hid (HB.out.ext k12)
  replace HX1 := hid (HX1.out.ext k12)
  replace HX2 := hid (HX2.out.ext k12)
  replace HC := hid (HC.out.ext k12)
  replace HH1 := hid (HH1.out.ext k12)
  replace HH2 := hid (HH2.out.ext k12)
  clear k12
  clear HA1
  go_upto_region 14 with (fail)
  go_cut [153] from 141 to 154 (fun s153 wx => s153 = .bool false ∧ Ext w wx ∧ IntRow .i64 3 wx (.slice aA m dA) m zs ∧ IntRow .i64 1 wx (.slice aA2 nA dA2) nA AL ∧ IntRow .i64 3 wx (.slice aC m3 dC) m3 zs3 ∧ IntRow .i64 3 wx (.slice aH1 nH dH1) nH HL ∧ IntRow .i64 3 wx (.slice aH2 nH dH2) nH HL)
  case first =>
    cases one with
    | false =>
      go_wp2_with (fail)
      go_meet
      exact ⟨rfl, E, HA.out, HA2.out, HC.out, HH1.out, HH2.out⟩
    | true =>
      obtain ⟨rfl, hIS⟩ := HF2.out rfl
      go_wp2_with (fail)
      refine (hIS _ _ HX1.out).mono ?_
      rintro e w13 ⟨rfl, k13⟩
      replace E := E.trans k13
      replace HA := hid (HA.out.ext k13)
      replace HA2 := hid (HA2.out.ext k13)
      replace HB := hid (HB.out.ext k13)
      replace HX1 := hid (HX1.out.ext k13)
      replace HX2 := hid (HX2.out.ext k13)
      replace HC := hid (HC.out.ext k13)
      replace HH1 := hid (HH1.out.ext k13)
      replace HH2 := hid (HH2.out.ext k13)
      clear k13
      clear hIS
      go_wp2_with (fail)
      go_meet
      exact ⟨rfl, E, HA.out, HA2.out, HC.out, HH1.out, HH2.out⟩
  case rest =>
  clear E HA HA2 HB HX1 HX2 HC HH1 HH2 HF2 HWX
  obtain ⟨rfl, E, r1, r2, r3, r4, r5⟩ := hcut
  have HA := hid r1
  have HA2 := hid r2
  have HC := hid r3
  have HH1 := hid r4
  have HH2 := hid r5
  clear r1 r2 r3 r4 r5
  go_upto_if 154 with (fail)
  go_cut [26, 27, 28, 29, 30, 31, 32, 33, 34, 35, 36, 37] from 155 to 254 (fun s26 s27 s28 s29 s30 s31 s32 s33 s34 s35 s36 s37 wx => Ext w wx ∧ IntRow .i64 3 wx (.slice aA m dA) m zs ∧ IntRow .i64 1 wx (.slice aA2 nA dA2) nA AL)
  case first =>
    cases three with
    | false =>
      go_wp2_with (fail)
      go_meet
      exact ⟨E, HA.out, HA2.out⟩
    | true =>
      as_aux_lemma =>
        obtain ⟨rfl, ⟨hi0, hi1, hi2⟩, hIS, D1, N1, D2, N2, d1, d2, d3, d4, ⟨hD1, hD2, hD3, hD4⟩, ⟨ht0, ht1, hT0, hT1⟩, hne, heq⟩ := HF3.out rfl
        obtain ⟨I, rfl⟩ := Int.eq_ofNat_of_zero_le hi0
        rw [Int.toNat_natCast] at hT0 hT1 hne heq
        have HNE := hid hne
        have HEQ := hid heq
        clear hne heq HF HF3
        go_wp2_with (fail)
        refine (hIS _ _ HH1.out).mono ?_
        rintro e p13 ⟨rfl, k13⟩
        replace E := E.trans k13
        replace HA := hid (HA.out.ext k13)
        replace HA2 := hid (HA2.out.ext k13)
        replace HC := hid (HC.out.ext k13)
        replace HH1 := hid (HH1.out.ext k13)
        replace HH2 := hid (HH2.out.ext k13)
        clear k13
        clear hIS
        have e1 : IntKind.i64.wrap ((m3 : Int) + 1) = (m3 : Int) + 1 := IntWalk.i64_in _ (by omega)
        go_wp2_with (fail)
        refine (d1 _ HC.out).mono ?_
        rintro e p14 ⟨rfl, k14⟩
        replace E := E.trans k14
        replace HA := hid (HA.out.ext k14)
        replace HA2 := hid (HA2.out.ext k14)
        replace HC := hid (HC.out.ext k14)
        replace HH1 := hid (HH1.out.ext k14)
        replace HH2 := hid (HH2.out.ext k14)
        clear k14
        go_wp2_with (fail)
        refine (d3 _ _ HH1.out).mono ?_
        rintro e p15 ⟨rfl, k15⟩
        replace E := E.trans k15
        replace HA := hid (HA.out.ext k15)
        replace HA2 := hid (HA2.out.ext k15)
        replace HC := hid (HC.out.ext k15)
        replace HH1 := hid (HH1.out.ext k15)
        replace HH2 := hid (HH2.out.ext k15)
        clear k15
        go_wp2_with (fail)
        refine (d4 _ _ HH2.out).mono ?_
        rintro e p16 ⟨rfl, k16⟩
        replace E := E.trans k16
        replace HA := hid (HA.out.ext k16)
        replace HA2 := hid (HA2.out.ext k16)
        replace HC := hid (HC.out.ext k16)
        replace HH1 := hid (HH1.out.ext k16)
        replace HH2 := hid (HH2.out.ext k16)
        clear k16
        go_wp2_with (fail)
        refine (d2 _ HC.out).mono ?_
        rintro e p17 ⟨rfl, k17⟩
        replace E := E.trans k17
        replace HA := hid (HA.out.ext k17)
        replace HA2 := hid (HA2.out.ext k17)
        replace HC := hid (HC.out.ext k17)
        replace HH1 := hid (HH1.out.ext k17)
        replace HH2 := hid (HH2.out.ext k17)
        clear k17
        clear d1 d2 d3 d4
        have hI : I < m3 := by omega
        obtain ⟨bC, oC, hbe, hbC, q0, q1, q2⟩ := row3_at HC.out hI
        subst hbe
        obtain ⟨OP, hOP⟩ : ∃ x, x = shOp zs3 I := ⟨_, rfl⟩
        obtain ⟨TO, hTO⟩ : ∃ x, x = shTo zs3 I := ⟨_, rfl⟩
        have hne := HNE.out
        have heq := HEQ.out
        rw [← hOP] at q0 hne heq
        rw [← hTO] at q2 hT0 hT1 hne
        have e2 : IntKind.i64.wrap (D2 - D1) = D2 - D1 := IntWalk.i64_in _ (by omega)
        have e3 : IntKind.i64.wrap (TO - Y3) = TO - Y3 := IntWalk.i64_in _ (by omega)
        clear hOP hTO HNE HEQ q1
        have hI0 : (0 : Int) ≤ (I : Int) := Int.natCast_nonneg _
        have hI1 : (I : Int) < (m3 : Int) := by omega
        by_cases hop : OP = P3
        · have hD := heq hop
          subst hop
          subst hD
          clear hne heq
          have u1 : decide (OP = OP) = true := by simp
          go_wp2_with (fail)
          go_meet
          exact ⟨E, HA.out, HA2.out⟩
        · have hD := hne hop
          clear hne heq
          have u1 : decide (OP = P3) = false := by simpa using hop
          have u2 : (OP == P3) = false := by simpa using hop
          have u3 : decide (D2 - D1 = TO - Y3) = true := by simpa using hD
          have u4 : (D2 - D1 == TO - Y3) = true := by simpa using hD
          go_wp2_with (fail)
          go_meet
          exact ⟨E, HA.out, HA2.out⟩
  case rest =>
  clear E HA HA2 HC HH1 HH2 HF3 HWH
  obtain ⟨E, r1, r2⟩ := hcut
  have HA := hid r1
  have HA2 := hid r2
  clear r1 r2
  cases ok with
  | false =>
    go_wp2_with (fail)
    go_ret
    exact ⟨rfl, E⟩
  | true =>
    as_aux_lemma =>
      obtain ⟨rfl, hn60, ⟨hX0, hX1⟩, hFT, hAS⟩ := HF.out rfl
      have HFT := hid hFT
      have HAS := hid hAS
      clear hFT hAS HF HWA
      have HCAP := hid (row_cap HA.out)
      go_wp2_with (fail)
      go_loopw [38, 258] (fun s38 s258 wr => ∃ (i : Nat) (mo : Int), i ≤ nA ∧ s258 = .int .i64 (i : Int) ∧ s38 = .int .i64 mo ∧ 0 ≤ mo ∧ mo ≤ nA ∧ Ext wc wr)
        (fun _ i _ => nA - (intOf i).toNat)
      case atStart => exact ⟨0, 0, Nat.zero_le _, rfl, rfl, by omega, by omega, Ext.refl _⟩
      case round =>
        obtain ⟨i, mo, hi, rfl, rfl, hmo0, hmo1, hE⟩ := hrel
        replace E := E.trans hE
        replace HA := hid (HA.out.ext hE)
        replace HA2 := hid (HA2.out.ext hE)
        have E2 := hE
        clear hE
        by_cases hlt : i < nA
        · as_aux_lemma =>
            have tl : decide ((i : Int) < (nA : Int)) = true := by simpa using hlt
            obtain ⟨bL, oL, hbe, hbL, q0, q1, q2⟩ := row3_at HA.out hlt
            subst hbe
            obtain ⟨bS, oS, hbe, hbS, q3⟩ := row1_at HA2.out hlt
            subst hbe
            obtain ⟨⟨hA1, hA2⟩, hAB, hAK⟩ := HAS.out i hlt
            obtain ⟨hf0, hf1, hg0, hg1⟩ := HFT.out i hlt
            obtain ⟨OI, hOI⟩ : ∃ x, x = shOp zs i := ⟨_, rfl⟩
            obtain ⟨FI, hFI⟩ : ∃ x, x = shFr zs i := ⟨_, rfl⟩
            obtain ⟨TI, hTI⟩ : ∃ x, x = shTo zs i := ⟨_, rfl⟩
            obtain ⟨AI, hAI⟩ : ∃ x, x = AL.getD i 0 := ⟨_, rfl⟩
            rw [← hOI] at q0
            rw [← hFI] at q1 hAB hAK hf0 hf1
            rw [← hTI] at q2 hg0 hg1
            rw [← hAI] at q3 hA1 hA2 hAB hAK
            have HAK := hid hAK
            have HAB := hid hAB
            clear hAK hAB hOI hTI
            have HFI := hid hFI
            have HAI := hid hAI
            clear hFI hAI
            have hi0 : (0 : Int) ≤ (i : Int) := Int.natCast_nonneg _
            have hi1 : (i : Int) < (nA : Int) := by omega
            have t1 : decide (AI < 1) = false := by simp; omega
            have T := TriB.new wr OI FI TI
            have Ea : Ext wr (wr.alloc (.cells #[.int .i64 OI, .int .i64 FI, .int .i64 TI] 42)) := (Ext.refl _).alloc _
            have g3 := (Ext.cells Ea).1 bS (oS + i) hbS
            rw [q3] at g3
            have hbS' : bS < (wr.alloc (.cells #[.int .i64 OI, .int .i64 FI, .int .i64 TI] 42)).heap.size := Nat.lt_of_lt_of_le hbS Ea.size
            go_upto_if 273 with (fail)
            obtain ⟨GB, hGB⟩ : ∃ b, b = decide (mo < AI) := ⟨_, rfl⟩
            rw [← hGB]
            have HGB := hid hGB
            clear hGB
            obtain ⟨bx, hbx⟩ : ∃ b, b = wr.heap.size := ⟨_, rfl⟩
            rw [← hbx] at T ⊢
            clear hbx
            replace E2 := E2.trans Ea
            replace E := E.trans Ea
            replace HA := hid (HA.out.ext Ea)
            replace HA2 := hid (HA2.out.ext Ea)
            clear q0 q1 q2 q3 hbL hbS Ea
            generalize wr.alloc (.cells #[.int .i64 OI, .int .i64 FI, .int .i64 TI] 42) = wy at T g3 hbS' E E2 HA HA2 ⊢
            go_cut [38] from 274 to 278 (fun s38 wx => ∃ mo2 : Int, s38 = .int .i64 mo2 ∧ 0 ≤ mo2 ∧ mo2 ≤ nA ∧ wx = wy)
            case first =>
              clear HGB
              cases GB with
              | true =>
                go_wp2_with (fail)
                go_meet
                exact ⟨AI, rfl, by omega, by omega, rfl⟩
              | false =>
                go_wp2_with (fail)
                go_meet
                exact ⟨mo, rfl, by omega, by omega, rfl⟩
            case rest =>
            obtain ⟨mo2, rfl, hmo3, hmo4, rfl⟩ := hcut
            clear hmo0 hmo1
            have HCP := HCAP.out
            have e4 : IntKind.i64.wrap ((i : Int) + 1) = ((i + 1 : Nat) : Int) := by rw [IntWalk.i64_in _ (by omega)]; omega
            have hs1 : (0 : Int) ≤ ((i + 1 : Nat) : Int) ∧ ((i + 1 : Nat) : Int) ≤ (dA : Int) := by omega
            go_wp2_with (fail)
            have HT3 := hid T
            have QS := hid (show CellB wc bS (oS + i) (.int .i64 AI) from ⟨g3, hbS'⟩)
            clear T g3 hbS' HGB HCP hs1
            go_loopw [41, 283] (fun s41 s283 wr => ∃ k : Nat, k ≤ i + 1 ∧ s283 = .int .i64 (k : Int) ∧ s41 = .int .i64 ((busyN zs X FI k : Nat) : Int) ∧ Ext wc wr)
              (fun _ j _ => i + 1 - (intOf j).toNat)
            case atStart => exact ⟨0, Nat.zero_le _, rfl, rfl, Ext.refl _⟩
            case round =>
              obtain ⟨k, hk, rfl, rfl, hE⟩ := hrel
              replace E := E.trans hE
              replace E2 := E2.trans hE
              replace HA := hid (HA.out.ext hE)
              replace HA2 := hid (HA2.out.ext hE)
              replace HT3 := hid (HT3.out.ext hE)
              replace QS := hid (QS.out.ext hE)
              have E3 := hE
              clear hE
              have hBK := busyN_le zs X FI k
              obtain ⟨BK, hBKe⟩ : ∃ b, b = busyN zs X FI k := ⟨_, rfl⟩
              rw [← hBKe] at hBK ⊢
              have HBK := hid hBKe
              clear hBKe
              by_cases hkl : k < i + 1
              · as_aux_lemma =>
                  have tk : decide ((k : Int) < (i : Int) + 1) = true := by simp; omega
                  have tk2 : decide ((k : Int) < ((i + 1 : Nat) : Int)) = true := by simp; omega
                  obtain ⟨b2, o2, hbe, hbL, q0, q1, q2⟩ := row3_at HA.out (show k < nA by omega)
                  simp only [Option.some.injEq, Addr.mk.injEq, and_true] at hbe
                  obtain ⟨rfl, rfl⟩ := hbe
                  obtain ⟨b2, o2, hbe, hbS, q3⟩ := row1_at HA2.out (show k < nA by omega)
                  simp only [Option.some.injEq, Addr.mk.injEq, and_true] at hbe
                  obtain ⟨rfl, rfl⟩ := hbe
                  obtain ⟨_, _, hh0, hh1⟩ := HFT.out k (by omega)
                  have hBN : busyN zs X FI (k + 1) = if FI < shTo zs k + X then busyN zs X FI k + 1 else busyN zs X FI k := rfl
                  rw [← HBK.out] at hBN
                  have hAKk := HAK.out k
                  obtain ⟨OK, hOK⟩ : ∃ x, x = shOp zs k := ⟨_, rfl⟩
                  obtain ⟨FK, hFK⟩ : ∃ x, x = shFr zs k := ⟨_, rfl⟩
                  obtain ⟨TK, hTK⟩ : ∃ x, x = shTo zs k := ⟨_, rfl⟩
                  obtain ⟨AK, hAK⟩ : ∃ x, x = AL.getD k 0 := ⟨_, rfl⟩
                  rw [← hOK] at q0
                  rw [← hFK] at q1
                  rw [← hTK] at q2 hh0 hh1 hBN hAKk
                  rw [← hAK] at q3 hAKk
                  clear hOK hFK hTK hAK HBK
                  have HBN := hid hBN
                  clear hBN
                  have hk0 : (0 : Int) ≤ (k : Int) := Int.natCast_nonneg _
                  have hk1 : (k : Int) < (nA : Int) := by omega
                  have hk2 : k < nA := by omega
                  have e5 : IntKind.i64.wrap (TK + X) = TK + X := IntWalk.i64_in _ (by omega)
                  have e6 : IntKind.i64.wrap ((BK : Int) + 1) = ((BK + 1 : Nat) : Int) := by rw [IntWalk.i64_in _ (by omega)]; omega
                  have T2 := TriB.new wr OK FK TK
                  have Ea : Ext wr (wr.alloc (.cells #[.int .i64 OK, .int .i64 FK, .int .i64 TK] 42)) := (Ext.refl _).alloc _
                  have QK := hid (show CellB wr _ _ _ from ⟨q3, hbS⟩)
                  go_upto_region 39 with (fail)
                  obtain ⟨by_, hby⟩ : ∃ b, b = wr.heap.size := ⟨_, rfl⟩
                  rw [← hby] at T2 ⊢
                  clear hby
                  replace E3 := E3.trans Ea
                  replace E2 := E2.trans Ea
                  replace E := E.trans Ea
                  replace HT3 := hid (HT3.out.ext Ea)
                  replace QS := hid (QS.out.ext Ea)
                  replace QK := hid (QK.out.ext Ea)
                  clear q0 q1 q2 q3 hbL hbS Ea HA HA2
                  generalize wr.alloc (.cells #[.int .i64 OK, .int .i64 FK, .int .i64 TK] 42) = wy at T2 HT3 QS QK E E2 E3 ⊢
                  obtain ⟨y0, y1, y2, y3⟩ := T2
                  obtain ⟨x0, x1, x2, x3⟩ := HT3.out
                  obtain ⟨p0, p1⟩ := QS.out
                  obtain ⟨p2, p3⟩ := QK.out
                  by_cases hc : FI < TK + X
                  · as_aux_lemma =>
                      have u1 : decide (FI < TK + X) = true := by simpa using hc
                      have hbn := HBN.out
                      rw [if_pos hc] at hbn
                      have HBM := hid hbn
                      clear hbn HBN
                      by_cases hki : k < i
                      · have u2 : decide ((k : Int) < (i : Int)) = true := by simp; omega
                        by_cases hae : AK = AI
                        · exact absurd (hAKk hki hae) (by omega)
                        · have u3 : decide (AK = AI) = false := by simpa using hae
                          have u4 : (AK == AI) = false := by simpa using hae
                          clear hAKk
                          go_wp2_with (fail)
                          go_quiet (fail)
                          go_wp2_with (fail)
                          go_roundw
                          case rel => exact ⟨k + 1, by omega, by go_num, by rw [HBM.out]; first | done | (simp; done) | rfl, (by repeat (first | exact Ext.refl _ | assumption | refine Ext.alloc ?_ _ | refine Ext.drew ?_ | refine Ext.drewN ?_ _ | refine Ext.setCell ?_ (by first | exact Nat.le_refl _ | (simp; done) | (dsimp only; omega) | (simp only [World.size_alloc, World.size_setCell]; omega)) _ | refine Ext.trans ?_ (by assumption)))⟩
                          case measure => simp [intOf]; omega
                      · have u2 : decide ((k : Int) < (i : Int)) = false := by simp; omega
                        clear hAKk
                        go_wp2_with (fail)
                        go_quiet (fail)
                        go_wp2_with (fail)
                        go_roundw
                        case rel => exact ⟨k + 1, by omega, by go_num, by rw [HBM.out]; first | done | (simp; done) | rfl, (by repeat (first | exact Ext.refl _ | assumption | refine Ext.alloc ?_ _ | refine Ext.drew ?_ | refine Ext.drewN ?_ _ | refine Ext.setCell ?_ (by first | exact Nat.le_refl _ | (simp; done) | (dsimp only; omega) | (simp only [World.size_alloc, World.size_setCell]; omega)) _ | refine Ext.trans ?_ (by assumption)))⟩
                        case measure => simp [intOf]; omega
                  · as_aux_lemma =>
                      have u1 : decide (FI < TK + X) = false := by simpa using hc
                      have hbn := HBN.out
                      rw [if_neg hc] at hbn
                      have HBM := hid hbn
                      clear hbn HBN
                      by_cases hki : k < i
                      · have u2 : decide ((k : Int) < (i : Int)) = true := by simp; omega
                        by_cases hae : AK = AI
                        · have u3 : decide (AK = AI) = true := by simpa using hae
                          have u4 : (AK == AI) = true := by simpa using hae
                          clear hAKk
                          go_wp2_with (fail)
                          go_quiet (fail)
                          go_wp2_with (fail)
                          go_roundw
                          case rel => exact ⟨k + 1, by omega, by go_num, by rw [HBM.out]; first | done | (simp; done) | rfl, (by repeat (first | exact Ext.refl _ | assumption | refine Ext.alloc ?_ _ | refine Ext.drew ?_ | refine Ext.drewN ?_ _ | refine Ext.setCell ?_ (by first | exact Nat.le_refl _ | (simp; done) | (dsimp only; omega) | (simp only [World.size_alloc, World.size_setCell]; omega)) _ | refine Ext.trans ?_ (by assumption)))⟩
                          case measure => simp [intOf]; omega
                        · have u3 : decide (AK = AI) = false := by simpa using hae
                          have u4 : (AK == AI) = false := by simpa using hae
                          clear hAKk
                          go_wp2_with (fail)
                          go_quiet (fail)
                          go_wp2_with (fail)
                          go_roundw
                          case rel => exact ⟨k + 1, by omega, by go_num, by rw [HBM.out]; first | done | (simp; done) | rfl, (by repeat (first | exact Ext.refl _ | assumption | refine Ext.alloc ?_ _ | refine Ext.drew ?_ | refine Ext.drewN ?_ _ | refine Ext.setCell ?_ (by first | exact Nat.le_refl _ | (simp; done) | (dsimp only; omega) | (simp only [World.size_alloc, World.size_setCell]; omega)) _ | refine Ext.trans ?_ (by assumption)))⟩
                          case measure => simp [intOf]; omega
                      · have u2 : decide ((k : Int) < (i : Int)) = false := by simp; omega
                        clear hAKk
                        go_wp2_with (fail)
                        go_quiet (fail)
                        go_wp2_with (fail)
                        go_roundw
                        case rel => exact ⟨k + 1, by omega, by go_num, by rw [HBM.out]; first | done | (simp; done) | rfl, (by repeat (first | exact Ext.refl _ | assumption | refine Ext.alloc ?_ _ | refine Ext.drew ?_ | refine Ext.drewN ?_ _ | refine Ext.setCell ?_ (by first | exact Nat.le_refl _ | (simp; done) | (dsimp only; omega) | (simp only [World.size_alloc, World.size_setCell]; omega)) _ | refine Ext.trans ?_ (by assumption)))⟩
                        case measure => simp [intOf]; omega
              · as_aux_lemma =>
                  obtain rfl : k = i + 1 := by omega
                  have tk : decide (((i + 1 : Nat) : Int) < (i : Int) + 1) = false := by simp
                  have tk2 : decide (((i + 1 : Nat) : Int) < ((i + 1 : Nat) : Int)) = false := by simp
                  have hab := HAB.out
                  rw [← HBK.out] at hab
                  have u1 : decide ((BK : Int) < AI) = false := by simp; omega
                  obtain ⟨p0, p1⟩ := QS.out
                  go_wp2_with (fail)
                  go_roundw
                  case rel => exact ⟨i + 1, mo2, by omega, by go_num, rfl, hmo3, hmo4, E2⟩
                  case measure => simp [intOf]; omega
        · as_aux_lemma =>
            obtain rfl : i = nA := by omega
            have tl : decide ((i : Int) < (i : Int)) = false := by simp
            have u1 : decide (mo ≤ (i : Int)) = true := by simpa using hmo1
            go_wp2_with (fail)
            go_ret
            exact ⟨by first | rfl | simp, E⟩
end Go.Proofs.Ytijeieacoaopcaa