/- The law of priority changes: a greater priority never finishes a job later, and the least priority just suffices. No condition. -/
import Derived.Test.YtabafhmeefeioaaPriP
namespace Go.Proofs.Ytabafhmeefeioaa
open Go.RowKit
set_option linter.unusedSimpArgs false
set_option linter.unusedVariables false

/-- a box of three integers -/
def Tri (w : World) (b : Nat) (x y z : Int) : Prop := w.cell? ⟨b, 0, none⟩ = some (.int .i64 x) ∧ w.cell? ⟨b, 1, none⟩ = some (.int .i64 y) ∧ w.cell? ⟨b, 2, none⟩ = some (.int .i64 z) ∧ b < w.heap.size
theorem Tri.new (w : World) (x y z : Int) : Tri (w.alloc (.cells #[.int .i64 x, .int .i64 y, .int .i64 z] 53)) w.heap.size x y z := by
  refine ⟨by simp, by simp, by simp, by rw [World.size_alloc]; omega⟩
theorem set_p {z : List Int} {n I : Nat} {p : Int} (hl : z.length = n * 3) (hI : I < n) (j : Nat) : (setP z I p).getD (j * 3) 0 = z.getD (j * 3) 0 ∧ (setP z I p).getD (j * 3 + 1) 0 = z.getD (j * 3 + 1) 0 ∧ (j ≠ I → (setP z I p).getD (j * 3 + 2) 0 = z.getD (j * 3 + 2) 0) := by
  have h1 := setP_at z I p j
  have h2 := setP_pr z I p (j := j) (by omega)
  unfold jAt jLen at h1
  unfold jPr at h2
  exact ⟨h1.1, h1.2, fun hj => by rw [h2, if_neg hj]⟩

set_option maxRecDepth 100000 in
set_option maxHeartbeats 600000 in
theorem qInts_q (v v' : Value) (n : Nat) (z : List Int) (w : World) (h : IntRow .i64 1 w v n z) (h' : IntRow .i64 1 w v' n z) :
    Calls Try.prog 49 #[v, v'] w fun e w' => e = .returned (.bool true) ∧ ∃ m, w' = w.drewN m := by
  obtain ⟨hl, hm, hwf, a, c, rfl, hnc, hcm, hcell⟩ := h
  obtain ⟨_, _, _, a', c', rfl, hnc', hcm', hcell'⟩ := h'
  unfold maxLen at hm
  go_enter Try.func49, Try.ntmps49
  go_wp2_with (fail)
  go_loopw [13] (fun i wr => ∃ (k : Nat), k ≤ n ∧ i = .int .i64 (k : Int) ∧ ∃ m, wr = w.drewN m)
    (fun i _ => n - (intOf i).toNat)
  case atStart => exact ⟨0, Nat.zero_le _, rfl, 0, rfl⟩
  case round =>
    obtain ⟨k, hk, rfl, nd, hwr⟩ := hrel
    have hE : Ext w wr := by rw [hwr]; exact (Ext.refl _).drewN _
    have HWR := hid hwr
    clear hwr
    by_cases hlt : k < n
    · have hne : ¬ n = 0 := by omega
      obtain ⟨b, o, rfl, hb, hc⟩ := hcell.resolve_left hne
      obtain ⟨b', o', rfl, hb', hc'⟩ := hcell'.resolve_left hne
      obtain ⟨x0, hx0⟩ : ∃ x, x = z.getD (k * 1) 0 := ⟨_, rfl⟩
      have s0 : wr.cell? ⟨b, o + k, none⟩ = some (.int .i64 x0) := by rw [(Ext.cells hE).1 _ _ hb, show o + k = o + (k * 1) by omega, hc _ (by omega), hx0]
      have r0 : wr.cell? ⟨b', o' + k, none⟩ = some (.int .i64 x0) := by rw [(Ext.cells hE).1 _ _ hb', show o' + k = o' + (k * 1) by omega, hc' _ (by omega), hx0]
      clear hx0 hc hcell hc' hcell'
      go_wp2_with (fail)
      go_quiet (fail)
      rename Nat => nq
      go_wp2_with (fail)
      go_roundw
      case rel => exact ⟨k + 1, by omega, by go_num, nd + nq, by rw [HWR.out, World.drewN_drewN]⟩
      case measure => simp [intOf]; omega
    · obtain rfl : k = n := by omega
      clear hcell hcell'
      go_wp2_with (fail)
      go_ret
      exact ⟨rfl, nd, HWR.out⟩

set_option maxRecDepth 100000 in
set_option maxHeartbeats 8000000 in
theorem walkFnPriorityChanges (v0 : Value) (n0 : Nat) (z0 : List Int) (v1 : Value) (n1 : Nat) (z1 : List Int) (w : World) (r0 : IntRow .u8 1 w v0 n0 z0) (r1 : IntRow .u8 1 w v1 n1 z1) :
    Calls Try.prog 13 #[v0, v1] w fun e w' => e = .returned (.bool true) ∧ Ext w w' := by
  obtain ⟨a0, c0, rfl⟩ := introw_slice r0
  obtain ⟨a1, c1, rfl⟩ := introw_slice r1
  have hm0 := r0.2.1
  have hm1 := r1.2.1
  unfold maxLen at hm0 hm1
  obtain ⟨TS, hTS⟩ : ∃ t, t = IntKind.i64.wrap ((n0 : Int) + (n1 : Int)) := ⟨_, rfl⟩
  have hws := hTS.symm
  by_cases hbig : (1048576 : Int) < TS
  · have tb : decide ((1048576 : Int) < TS) = true := by simpa using hbig
    clear hTS hbig
    go_enter Try.func13, Try.ntmps13
    go_wp2_with (fail)
    go_ret
    exact ⟨rfl, Ext.refl _⟩
  have tb : decide ((1048576 : Int) < TS) = false := by simpa using hbig
  clear hTS
  go_enter Try.func13, Try.ntmps13
  have E : Ext w w := Ext.refl w
  have R1 := hid r1
  clear r1
  go_wp2_with (fail)
  refine (drawLeast _ n0 z0 _ r0 hm0).mono ?_
  rintro e w1 ⟨X, Y, vA, m, zs, rfl, hr, hm, k1⟩
  replace E := E.trans k1
  replace R1 := hid (R1.out.ext k1)
  have HA := hid hr
  obtain ⟨aA, dA, rfl⟩ := introw_slice HA.out
  clear hr k1
  clear hws tb hbig
  obtain ⟨p, ok, c1, c2, hF⟩ := leastAll (.slice aA m dA) m zs X Y
  have HF := hid (hF (HA.out.1))
  clear hF
  go_wp2_with (fail)
  refine (c1 _ HA.out).mono ?_
  rintro e w2 ⟨rfl, k2⟩
  replace E := E.trans k2
  replace R1 := hid (R1.out.ext k2)
  replace HA := hid (HA.out.ext k2)
  clear k2
  go_wp2_with (fail)
  refine (c2 _ HA.out).mono ?_
  rintro e w3 ⟨rfl, k3⟩
  replace E := E.trans k3
  replace R1 := hid (R1.out.ext k3)
  replace HA := hid (HA.out.ext k3)
  clear k3
  clear c1 c2
  go_wp2_with (fail)
  refine (drawWith _ n1 z1 _ R1.out hm1).mono ?_
  rintro e w4 ⟨X2, Y2, vB, m2, zs2, rfl, hr, hm2, k4⟩
  replace E := E.trans k4
  replace R1 := hid (R1.out.ext k4)
  replace HA := hid (HA.out.ext k4)
  have HB := hid hr
  obtain ⟨aB, dB, rfl⟩ := introw_slice HB.out
  clear hr k4
  obtain ⟨L, mL, one, c3, c4, hW⟩ := withAll (.slice aB m2 dB) m2 zs2 X2 Y2
  have HW := hid (hW (HB.out.1))
  clear hW
  go_wp2_with (fail)
  refine (c3 _ HB.out).mono ?_
  rintro e w5 ⟨vC, rfl, hr, k5⟩
  replace E := E.trans k5
  replace R1 := hid (R1.out.ext k5)
  replace HA := hid (HA.out.ext k5)
  replace HB := hid (HB.out.ext k5)
  have HC := hid hr
  obtain ⟨aC, dC, rfl⟩ := introw_slice HC.out
  clear hr k5
  go_wp2_with (fail)
  refine (c4 _ HB.out).mono ?_
  rintro e w6 ⟨vD, rfl, hr, k6⟩
  replace E := E.trans k6
  replace R1 := hid (R1.out.ext k6)
  replace HA := hid (HA.out.ext k6)
  replace HB := hid (HB.out.ext k6)
  replace HC := hid (HC.out.ext k6)
  have HD := hid hr
  obtain ⟨aD, dD, rfl⟩ := introw_slice HD.out
  clear hr k6
  clear c3 c4
  go_wp2_with (fail)
  refine (qJobs_same _ _ mL L _ HC.out HD.out).mono ?_
  rintro e w7 ⟨rfl, k7⟩
  replace E := E.trans k7
  replace R1 := hid (R1.out.ext k7)
  replace HA := hid (HA.out.ext k7)
  replace HB := hid (HB.out.ext k7)
  replace HC := hid (HC.out.ext k7)
  replace HD := hid (HD.out.ext k7)
  clear k7
  clear r0 R1
  go_upto_if 101 with (fail)
  go_cut [19, 20, 21, 22, 23, 24, 25, 26, 27, 28] from 36 to 226 (fun s19 s20 s21 s22 s23 s24 s25 s26 s27 s28 wx => Ext w wx ∧ IntRow .i64 3 wx (.slice aA m dA) m zs)
  case first =>
    cases one with
    | false =>
      go_wp2_with (fail)
      go_meet
      exact ⟨E, HA.out⟩
    | true =>
      obtain ⟨hok, hmn, ⟨hp0, hp3⟩, I, rfl, hI, rfl, hokL, hup, hdn⟩ := HW.out (by first | rfl | trivial)
      subst hmn
      have HOK := hid hok
      have HOKL := hid hokL
      clear hok hokL HW HF
      obtain ⟨d1, d2⟩ := finT HOK.out (.slice aB mL dB)
      go_wp2_with (fail)
      refine (d1 _ HB.out).mono ?_
      rintro e w8 ⟨vF1, rfl, hr, k8⟩
      replace E := E.trans k8
      replace HA := hid (HA.out.ext k8)
      replace HB := hid (HB.out.ext k8)
      replace HC := hid (HC.out.ext k8)
      replace HD := hid (HD.out.ext k8)
      have HF1 := hid hr
      obtain ⟨aF1, dF1, rfl⟩ := introw_slice HF1.out
      clear hr k8
      go_wp2_with (fail)
      refine (d2 _ HB.out).mono ?_
      rintro e w9 ⟨vF2, rfl, hr, k9⟩
      replace E := E.trans k9
      replace HA := hid (HA.out.ext k9)
      replace HB := hid (HB.out.ext k9)
      replace HC := hid (HC.out.ext k9)
      replace HD := hid (HD.out.ext k9)
      replace HF1 := hid (HF1.out.ext k9)
      have HF2 := hid hr
      obtain ⟨aF2, dF2, rfl⟩ := introw_slice HF2.out
      clear hr k9
      clear d1 d2
      obtain ⟨d1, _⟩ := finT HOKL.out (.slice aC mL dC)
      go_wp2_with (fail)
      refine (d1 _ HC.out).mono ?_
      rintro e w10 ⟨vG1, rfl, hr, k10⟩
      replace E := E.trans k10
      replace HA := hid (HA.out.ext k10)
      replace HB := hid (HB.out.ext k10)
      replace HC := hid (HC.out.ext k10)
      replace HD := hid (HD.out.ext k10)
      replace HF1 := hid (HF1.out.ext k10)
      replace HF2 := hid (HF2.out.ext k10)
      have HG1 := hid hr
      obtain ⟨aG1, dG1, rfl⟩ := introw_slice HG1.out
      clear hr k10
      clear d1
      obtain ⟨_, d2⟩ := finT HOKL.out (.slice aD mL dD)
      go_wp2_with (fail)
      refine (d2 _ HD.out).mono ?_
      rintro e w11 ⟨vG2, rfl, hr, k11⟩
      replace E := E.trans k11
      replace HA := hid (HA.out.ext k11)
      replace HB := hid (HB.out.ext k11)
      replace HC := hid (HC.out.ext k11)
      replace HD := hid (HD.out.ext k11)
      replace HF1 := hid (HF1.out.ext k11)
      replace HF2 := hid (HF2.out.ext k11)
      replace HG1 := hid (HG1.out.ext k11)
      have HG2 := hid hr
      obtain ⟨aG2, dG2, rfl⟩ := introw_slice HG2.out
      clear hr k11
      clear d2
      have HUP := hid hup
      have HDN := hid hdn
      clear hup hdn
      go_wp2_with (fail)
      obtain ⟨hz1, hz2, hz3, _, _, he, hz4, hz5, hcell⟩ := id HB.out
      simp only [Value.slice.injEq, true_and] at he
      obtain ⟨rfl, rfl⟩ := he
      obtain ⟨bB, oB, rfl, hbB, hcB⟩ := hcell.resolve_left (by omega)
      have HLB := hid hz1
      clear hz1 hz2 hz3 hz4 hz5 hcell
      obtain ⟨hz1, hz2, hz3, _, _, he, hz4, hz5, hcell⟩ := id HF2.out
      simp only [Value.slice.injEq, true_and] at he
      obtain ⟨rfl, rfl⟩ := he
      obtain ⟨bF, oF, rfl, hbF, hcF⟩ := hcell.resolve_left (by omega)
      clear hz1 hz2 hz3 hz4 hz5 hcell
      obtain ⟨hz1, hz2, hz3, _, _, he, hz4, hz5, hcell⟩ := id HG2.out
      simp only [Value.slice.injEq, true_and] at he
      obtain ⟨rfl, rfl⟩ := he
      obtain ⟨bG, oG, rfl, hbG, hcG⟩ := hcell.resolve_left (by omega)
      clear hz1 hz2 hz3 hz4 hz5 hcell
      obtain ⟨PR, hPR⟩ : ∃ x, x = jPr zs2 I := ⟨_, rfl⟩
      obtain ⟨FO, hFO⟩ : ∃ x, x = (finJ zs2 mL).getD I 0 := ⟨_, rfl⟩
      obtain ⟨FN, hFN⟩ : ∃ x, x = (finJ (setP zs2 I Y2) mL).getD I 0 := ⟨_, rfl⟩
      have sB := hcB (I * 3 + 2) (by omega)
      have sF := hcF (I * 1) (by omega)
      have sG := hcG (I * 1) (by omega)
      rw [Nat.mul_one] at sF sG
      rw [← hFO] at sF
      rw [← hFN] at sG
      have sB2 : w11.cell? ⟨bB, oB + I * 3 + 2, none⟩ = some (.int .i64 PR) := by rw [hPR, show oB + I * 3 + 2 = oB + (I * 3 + 2) by omega, sB]; rfl
      have hup2 := HUP.out
      have hdn2 := HDN.out
      rw [← hPR, ← hFO, ← hFN] at hup2 hdn2
      have hI0 : (0 : Int) ≤ (I : Int) := Int.natCast_nonneg _
      have hI1 : (I : Int) < (mL : Int) := by omega
      clear sB hcB hcF hcG hPR hFO hFN HUP HDN
      rcases Int.lt_trichotomy PR Y2 with h | h | h
      · as_aux_lemma =>
          have hle := hup2 (by omega)
          have u1 : decide (PR ≤ Y2) = true := by simp; omega
          have u2 : decide (FO < FN) = false := by simp; omega
          have u3 : decide (Y2 ≤ PR) = false := by simp; omega
          clear hup2 hdn2 h hle
          have q1 := fun nn => qInts_q _ _ mL (finJ zs2 mL) _ (HF1.out.ext ((Ext.refl _).drewN nn)) (HF2.out.ext ((Ext.refl _).drewN nn))
          have q2 := fun nn => qInts_q _ _ mL (finJ (setP zs2 I Y2) mL) _ (HG1.out.ext ((Ext.refl _).drewN nn)) (HG2.out.ext ((Ext.refl _).drewN nn))
          change (Code.region 16 (List.toArray (_ :: _ :: _ :: _ :: _ :: _ :: _ :: _ :: _ :: _ :: _ :: _ :: _ :: _ :: _ :: _ :: _ :: _ :: _ :: _ :: _ :: _ :: _ :: _ :: _ :: _ :: _ :: _ :: _ :: _ :: _ :: _ :: _ :: _ :: _ :: _ :: _ :: _ :: _ :: _ :: _ :: _ :: _ :: _ :: _ :: _ :: _ :: _ :: _ :: _ :: _ :: _ :: _ :: _ :: _ :: _ :: _ :: _ :: _ :: _ :: _ :: _ :: _ :: _ :: _ :: _ :: [])) true).wp _ _ _ _
          go_quiet ((go_at_call 49; first | (with_reducible exact Calls.quiet_of (q1 _)) | (with_reducible exact Calls.quiet_of (q2 _))))
          clear q1 q2
          clear HF1 HF2 HG1 HG2 HC
          rename Nat => nq
          have kq := (Ext.refl w11).drewN nq
          generalize w11.drewN nq = wd at kq ⊢
          replace E := E.trans kq
          replace HA := hid (HA.out.ext kq)
          replace HB := hid (HB.out.ext kq)
          replace HD := hid (HD.out.ext kq)
          clear kq
          go_wp2_with (fail)
          go_loopw [190] (fun i wr => ∃ j : Nat, j ≤ mL ∧ i = .int .i64 (j : Int) ∧ Ext wd wr)
            (fun i _ => mL - (intOf i).toNat)
          case atStart => exact ⟨0, Nat.zero_le _, rfl, Ext.refl _⟩
          case round =>
            obtain ⟨j, hj, rfl, hE⟩ := hrel
            replace E := E.trans hE
            replace HA := hid (HA.out.ext hE)
            replace HB := hid (HB.out.ext hE)
            replace HD := hid (HD.out.ext hE)
            have E2 := hE
            clear hE
            by_cases hlt : j < mL
            · have tl : decide ((j : Int) < (mL : Int)) = true := by simpa using hlt
              obtain ⟨hz1, hz2, hz3, _, _, he, hz4, hz5, hcell⟩ := id HB.out
              simp only [Value.slice.injEq, true_and] at he
              obtain ⟨rfl, rfl⟩ := he
              obtain ⟨b2, o2, he2, hbB, hcB⟩ := hcell.resolve_left (by omega)
              simp only [Option.some.injEq, Addr.mk.injEq, and_true] at he2
              obtain ⟨rfl, rfl⟩ := he2
              clear hz1 hz2 hz3 hz4 hz5 hcell
              obtain ⟨hz1, hz2, hz3, _, _, he, hz4, hz5, hcell⟩ := id HD.out
              simp only [Value.slice.injEq, true_and] at he
              obtain ⟨rfl, rfl⟩ := he
              obtain ⟨bD, oD, rfl, hbD, hcD⟩ := hcell.resolve_left (by omega)
              clear hz1 hz2 hz3 hz4 hz5 hcell
              obtain ⟨q0, q1, q2⟩ := set_p (p := Y2) HLB.out hI j
              obtain ⟨x0, hx0⟩ : ∃ x, x = zs2.getD (j * 3) 0 := ⟨_, rfl⟩
              obtain ⟨x1, hx1⟩ : ∃ x, x = zs2.getD (j * 3 + 1) 0 := ⟨_, rfl⟩
              obtain ⟨x2, hx2⟩ : ∃ x, x = zs2.getD (j * 3 + 2) 0 := ⟨_, rfl⟩
              obtain ⟨y2, hy2⟩ : ∃ x, x = (setP zs2 I Y2).getD (j * 3 + 2) 0 := ⟨_, rfl⟩
              have hq2 : j ≠ I → y2 = x2 := fun h => by rw [hy2, hx2]; exact q2 h
              have e0 : wr.cell? ⟨bB, oB + j * 3, none⟩ = some (.int .i64 x0) := by rw [hcB (j * 3) (by omega), hx0]
              have e1 : wr.cell? ⟨bB, oB + j * 3 + 1, none⟩ = some (.int .i64 x1) := by rw [show oB + j * 3 + 1 = oB + (j * 3 + 1) by omega, hcB _ (by omega), hx1]
              have e2 : wr.cell? ⟨bB, oB + j * 3 + 2, none⟩ = some (.int .i64 x2) := by rw [show oB + j * 3 + 2 = oB + (j * 3 + 2) by omega, hcB _ (by omega), hx2]
              have f0 : wr.cell? ⟨bD, oD + j * 3, none⟩ = some (.int .i64 x0) := by rw [hcD (j * 3) (by omega), q0, hx0]
              have f1 : wr.cell? ⟨bD, oD + j * 3 + 1, none⟩ = some (.int .i64 x1) := by rw [show oD + j * 3 + 1 = oD + (j * 3 + 1) by omega, hcD _ (by omega), q1, hx1]
              have f2 : wr.cell? ⟨bD, oD + j * 3 + 2, none⟩ = some (.int .i64 y2) := by rw [show oD + j * 3 + 2 = oD + (j * 3 + 2) by omega, hcD _ (by omega), hy2]
              clear q0 q1 q2 hx0 hx1 hx2 hy2 hcB hcD
              have T := Tri.new wr x0 x1 y2
              have Ea : Ext wr (wr.alloc (.cells #[.int .i64 x0, .int .i64 x1, .int .i64 y2] 53)) := (Ext.refl _).alloc _
              have g0 := (Ext.cells Ea).1 bB (oB + j * 3) hbB
              have g1 := (Ext.cells Ea).1 bB (oB + j * 3 + 1) hbB
              have g2 := (Ext.cells Ea).1 bB (oB + j * 3 + 2) hbB
              rw [e0] at g0
              rw [e1] at g1
              rw [e2] at g2
              by_cases hji : j = I
              · subst hji
                clear hq2
                as_aux_lemma =>
                  go_wp2_with (fail)
                  obtain ⟨T1, T2, T3, T4⟩ := T
                  generalize wr.alloc (.cells #[.int .i64 x0, .int .i64 x1, .int .i64 y2] 53) = wq at T1 T2 T3 T4 Ea g0 g1 g2 ⊢
                  obtain ⟨bq, hbq⟩ : ∃ b, b = wr.heap.size := ⟨_, rfl⟩
                  rw [← hbq] at T1 T2 T3 T4 ⊢
                  clear hbq e0 e1 e2 f0 f1 f2
                  go_quiet (fail)
                  go_wp2_with (fail)
                  go_roundw
                  case rel => exact ⟨j + 1, by omega, by go_num, by first | exact E2.trans Ea | exact (E2.trans Ea).drewN _⟩
                  case measure => simp [intOf]; omega
              · have t1 : decide ((j : Int) = (I : Int)) = false := by simp; omega
                have t2 : decide (j = I) = false := by simp; omega
                have t3 : ((j : Int) == (I : Int)) = false := by simp; omega
                have t4 : ((j : Int) != (I : Int)) = true := by simp; omega
                obtain rfl := hq2 hji
                clear hq2
                as_aux_lemma =>
                  go_wp2_with (fail)
                  obtain ⟨T1, T2, T3, T4⟩ := T
                  generalize wr.alloc (.cells #[.int .i64 x0, .int .i64 x1, .int .i64 y2] 53) = wq at T1 T2 T3 T4 Ea g0 g1 g2 ⊢
                  obtain ⟨bq, hbq⟩ : ∃ b, b = wr.heap.size := ⟨_, rfl⟩
                  rw [← hbq] at T1 T2 T3 T4 ⊢
                  clear hbq e0 e1 e2 f0 f1 f2
                  go_quiet (fail)
                  go_wp2_with (fail)
                  go_roundw
                  case rel => exact ⟨j + 1, by omega, by go_num, by first | exact E2.trans Ea | exact (E2.trans Ea).drewN _⟩
                  case measure => simp [intOf]; omega
            · obtain rfl : j = mL := by omega
              have tl : decide ((j : Int) < (j : Int)) = false := by simp
              clear hI0 hI1 E2
              go_wp2_with (fail)
              go_meet
              exact ⟨E, HA.out⟩
      · as_aux_lemma =>
          have hle := hup2 (by omega)
          have hle2 := hdn2 (by omega)
          have u1 : decide (PR ≤ Y2) = true := by simp; omega
          have u2 : decide (FO < FN) = false := by simp; omega
          have u3 : decide (Y2 ≤ PR) = true := by simp; omega
          have u4 : decide (FN < FO) = false := by simp; omega
          clear hup2 hdn2 h hle hle2
          have q1 := fun nn => qInts_q _ _ mL (finJ zs2 mL) _ (HF1.out.ext ((Ext.refl _).drewN nn)) (HF2.out.ext ((Ext.refl _).drewN nn))
          have q2 := fun nn => qInts_q _ _ mL (finJ (setP zs2 I Y2) mL) _ (HG1.out.ext ((Ext.refl _).drewN nn)) (HG2.out.ext ((Ext.refl _).drewN nn))
          change (Code.region 16 (List.toArray (_ :: _ :: _ :: _ :: _ :: _ :: _ :: _ :: _ :: _ :: _ :: _ :: _ :: _ :: _ :: _ :: _ :: _ :: _ :: _ :: _ :: _ :: _ :: _ :: _ :: _ :: _ :: _ :: _ :: _ :: _ :: _ :: _ :: _ :: _ :: _ :: _ :: _ :: _ :: _ :: _ :: _ :: _ :: _ :: _ :: _ :: _ :: _ :: _ :: _ :: _ :: _ :: _ :: _ :: _ :: _ :: _ :: _ :: _ :: _ :: _ :: _ :: _ :: _ :: _ :: _ :: [])) true).wp _ _ _ _
          go_quiet ((go_at_call 49; first | (with_reducible exact Calls.quiet_of (q1 _)) | (with_reducible exact Calls.quiet_of (q2 _))))
          clear q1 q2
          clear HF1 HF2 HG1 HG2 HC
          rename Nat => nq
          have kq := (Ext.refl w11).drewN nq
          generalize w11.drewN nq = wd at kq ⊢
          replace E := E.trans kq
          replace HA := hid (HA.out.ext kq)
          replace HB := hid (HB.out.ext kq)
          replace HD := hid (HD.out.ext kq)
          clear kq
          go_wp2_with (fail)
          go_loopw [190] (fun i wr => ∃ j : Nat, j ≤ mL ∧ i = .int .i64 (j : Int) ∧ Ext wd wr)
            (fun i _ => mL - (intOf i).toNat)
          case atStart => exact ⟨0, Nat.zero_le _, rfl, Ext.refl _⟩
          case round =>
            obtain ⟨j, hj, rfl, hE⟩ := hrel
            replace E := E.trans hE
            replace HA := hid (HA.out.ext hE)
            replace HB := hid (HB.out.ext hE)
            replace HD := hid (HD.out.ext hE)
            have E2 := hE
            clear hE
            by_cases hlt : j < mL
            · have tl : decide ((j : Int) < (mL : Int)) = true := by simpa using hlt
              obtain ⟨hz1, hz2, hz3, _, _, he, hz4, hz5, hcell⟩ := id HB.out
              simp only [Value.slice.injEq, true_and] at he
              obtain ⟨rfl, rfl⟩ := he
              obtain ⟨b2, o2, he2, hbB, hcB⟩ := hcell.resolve_left (by omega)
              simp only [Option.some.injEq, Addr.mk.injEq, and_true] at he2
              obtain ⟨rfl, rfl⟩ := he2
              clear hz1 hz2 hz3 hz4 hz5 hcell
              obtain ⟨hz1, hz2, hz3, _, _, he, hz4, hz5, hcell⟩ := id HD.out
              simp only [Value.slice.injEq, true_and] at he
              obtain ⟨rfl, rfl⟩ := he
              obtain ⟨bD, oD, rfl, hbD, hcD⟩ := hcell.resolve_left (by omega)
              clear hz1 hz2 hz3 hz4 hz5 hcell
              obtain ⟨q0, q1, q2⟩ := set_p (p := Y2) HLB.out hI j
              obtain ⟨x0, hx0⟩ : ∃ x, x = zs2.getD (j * 3) 0 := ⟨_, rfl⟩
              obtain ⟨x1, hx1⟩ : ∃ x, x = zs2.getD (j * 3 + 1) 0 := ⟨_, rfl⟩
              obtain ⟨x2, hx2⟩ : ∃ x, x = zs2.getD (j * 3 + 2) 0 := ⟨_, rfl⟩
              obtain ⟨y2, hy2⟩ : ∃ x, x = (setP zs2 I Y2).getD (j * 3 + 2) 0 := ⟨_, rfl⟩
              have hq2 : j ≠ I → y2 = x2 := fun h => by rw [hy2, hx2]; exact q2 h
              have e0 : wr.cell? ⟨bB, oB + j * 3, none⟩ = some (.int .i64 x0) := by rw [hcB (j * 3) (by omega), hx0]
              have e1 : wr.cell? ⟨bB, oB + j * 3 + 1, none⟩ = some (.int .i64 x1) := by rw [show oB + j * 3 + 1 = oB + (j * 3 + 1) by omega, hcB _ (by omega), hx1]
              have e2 : wr.cell? ⟨bB, oB + j * 3 + 2, none⟩ = some (.int .i64 x2) := by rw [show oB + j * 3 + 2 = oB + (j * 3 + 2) by omega, hcB _ (by omega), hx2]
              have f0 : wr.cell? ⟨bD, oD + j * 3, none⟩ = some (.int .i64 x0) := by rw [hcD (j * 3) (by omega), q0, hx0]
              have f1 : wr.cell? ⟨bD, oD + j * 3 + 1, none⟩ = some (.int .i64 x1) := by rw [show oD + j * 3 + 1 = oD + (j * 3 + 1) by omega, hcD _ (by omega), q1, hx1]
              have f2 : wr.cell? ⟨bD, oD + j * 3 + 2, none⟩ = some (.int .i64 y2) := by rw [show oD + j * 3 + 2 = oD + (j * 3 + 2) by omega, hcD _ (by omega), hy2]
              clear q0 q1 q2 hx0 hx1 hx2 hy2 hcB hcD
              have T := Tri.new wr x0 x1 y2
              have Ea : Ext wr (wr.alloc (.cells #[.int .i64 x0, .int .i64 x1, .int .i64 y2] 53)) := (Ext.refl _).alloc _
              have g0 := (Ext.cells Ea).1 bB (oB + j * 3) hbB
              have g1 := (Ext.cells Ea).1 bB (oB + j * 3 + 1) hbB
              have g2 := (Ext.cells Ea).1 bB (oB + j * 3 + 2) hbB
              rw [e0] at g0
              rw [e1] at g1
              rw [e2] at g2
              by_cases hji : j = I
              · subst hji
                clear hq2
                as_aux_lemma =>
                  go_wp2_with (fail)
                  obtain ⟨T1, T2, T3, T4⟩ := T
                  generalize wr.alloc (.cells #[.int .i64 x0, .int .i64 x1, .int .i64 y2] 53) = wq at T1 T2 T3 T4 Ea g0 g1 g2 ⊢
                  obtain ⟨bq, hbq⟩ : ∃ b, b = wr.heap.size := ⟨_, rfl⟩
                  rw [← hbq] at T1 T2 T3 T4 ⊢
                  clear hbq e0 e1 e2 f0 f1 f2
                  go_quiet (fail)
                  go_wp2_with (fail)
                  go_roundw
                  case rel => exact ⟨j + 1, by omega, by go_num, by first | exact E2.trans Ea | exact (E2.trans Ea).drewN _⟩
                  case measure => simp [intOf]; omega
              · have t1 : decide ((j : Int) = (I : Int)) = false := by simp; omega
                have t2 : decide (j = I) = false := by simp; omega
                have t3 : ((j : Int) == (I : Int)) = false := by simp; omega
                have t4 : ((j : Int) != (I : Int)) = true := by simp; omega
                obtain rfl := hq2 hji
                clear hq2
                as_aux_lemma =>
                  go_wp2_with (fail)
                  obtain ⟨T1, T2, T3, T4⟩ := T
                  generalize wr.alloc (.cells #[.int .i64 x0, .int .i64 x1, .int .i64 y2] 53) = wq at T1 T2 T3 T4 Ea g0 g1 g2 ⊢
                  obtain ⟨bq, hbq⟩ : ∃ b, b = wr.heap.size := ⟨_, rfl⟩
                  rw [← hbq] at T1 T2 T3 T4 ⊢
                  clear hbq e0 e1 e2 f0 f1 f2
                  go_quiet (fail)
                  go_wp2_with (fail)
                  go_roundw
                  case rel => exact ⟨j + 1, by omega, by go_num, by first | exact E2.trans Ea | exact (E2.trans Ea).drewN _⟩
                  case measure => simp [intOf]; omega
            · obtain rfl : j = mL := by omega
              have tl : decide ((j : Int) < (j : Int)) = false := by simp
              clear hI0 hI1 E2
              go_wp2_with (fail)
              go_meet
              exact ⟨E, HA.out⟩
      · as_aux_lemma =>
          have hle := hdn2 (by omega)
          have u1 : decide (PR ≤ Y2) = false := by simp; omega
          have u2 : decide (FN < FO) = false := by simp; omega
          have u3 : decide (Y2 ≤ PR) = true := by simp; omega
          clear hup2 hdn2 h hle
          have q1 := fun nn => qInts_q _ _ mL (finJ zs2 mL) _ (HF1.out.ext ((Ext.refl _).drewN nn)) (HF2.out.ext ((Ext.refl _).drewN nn))
          have q2 := fun nn => qInts_q _ _ mL (finJ (setP zs2 I Y2) mL) _ (HG1.out.ext ((Ext.refl _).drewN nn)) (HG2.out.ext ((Ext.refl _).drewN nn))
          change (Code.region 16 (List.toArray (_ :: _ :: _ :: _ :: _ :: _ :: _ :: _ :: _ :: _ :: _ :: _ :: _ :: _ :: _ :: _ :: _ :: _ :: _ :: _ :: _ :: _ :: _ :: _ :: _ :: _ :: _ :: _ :: _ :: _ :: _ :: _ :: _ :: _ :: _ :: _ :: _ :: _ :: _ :: _ :: _ :: _ :: _ :: _ :: _ :: _ :: _ :: _ :: _ :: _ :: _ :: _ :: _ :: _ :: _ :: _ :: _ :: _ :: _ :: _ :: _ :: _ :: _ :: _ :: _ :: _ :: [])) true).wp _ _ _ _
          go_quiet ((go_at_call 49; first | (with_reducible exact Calls.quiet_of (q1 _)) | (with_reducible exact Calls.quiet_of (q2 _))))
          clear q1 q2
          clear HF1 HF2 HG1 HG2 HC
          rename Nat => nq
          have kq := (Ext.refl w11).drewN nq
          generalize w11.drewN nq = wd at kq ⊢
          replace E := E.trans kq
          replace HA := hid (HA.out.ext kq)
          replace HB := hid (HB.out.ext kq)
          replace HD := hid (HD.out.ext kq)
          clear kq
          go_wp2_with (fail)
          go_loopw [190] (fun i wr => ∃ j : Nat, j ≤ mL ∧ i = .int .i64 (j : Int) ∧ Ext wd wr)
            (fun i _ => mL - (intOf i).toNat)
          case atStart => exact ⟨0, Nat.zero_le _, rfl, Ext.refl _⟩
          case round =>
            obtain ⟨j, hj, rfl, hE⟩ := hrel
            replace E := E.trans hE
            replace HA := hid (HA.out.ext hE)
            replace HB := hid (HB.out.ext hE)
            replace HD := hid (HD.out.ext hE)
            have E2 := hE
            clear hE
            by_cases hlt : j < mL
            · have tl : decide ((j : Int) < (mL : Int)) = true := by simpa using hlt
              obtain ⟨hz1, hz2, hz3, _, _, he, hz4, hz5, hcell⟩ := id HB.out
              simp only [Value.slice.injEq, true_and] at he
              obtain ⟨rfl, rfl⟩ := he
              obtain ⟨b2, o2, he2, hbB, hcB⟩ := hcell.resolve_left (by omega)
              simp only [Option.some.injEq, Addr.mk.injEq, and_true] at he2
              obtain ⟨rfl, rfl⟩ := he2
              clear hz1 hz2 hz3 hz4 hz5 hcell
              obtain ⟨hz1, hz2, hz3, _, _, he, hz4, hz5, hcell⟩ := id HD.out
              simp only [Value.slice.injEq, true_and] at he
              obtain ⟨rfl, rfl⟩ := he
              obtain ⟨bD, oD, rfl, hbD, hcD⟩ := hcell.resolve_left (by omega)
              clear hz1 hz2 hz3 hz4 hz5 hcell
              obtain ⟨q0, q1, q2⟩ := set_p (p := Y2) HLB.out hI j
              obtain ⟨x0, hx0⟩ : ∃ x, x = zs2.getD (j * 3) 0 := ⟨_, rfl⟩
              obtain ⟨x1, hx1⟩ : ∃ x, x = zs2.getD (j * 3 + 1) 0 := ⟨_, rfl⟩
              obtain ⟨x2, hx2⟩ : ∃ x, x = zs2.getD (j * 3 + 2) 0 := ⟨_, rfl⟩
              obtain ⟨y2, hy2⟩ : ∃ x, x = (setP zs2 I Y2).getD (j * 3 + 2) 0 := ⟨_, rfl⟩
              have hq2 : j ≠ I → y2 = x2 := fun h => by rw [hy2, hx2]; exact q2 h
              have e0 : wr.cell? ⟨bB, oB + j * 3, none⟩ = some (.int .i64 x0) := by rw [hcB (j * 3) (by omega), hx0]
              have e1 : wr.cell? ⟨bB, oB + j * 3 + 1, none⟩ = some (.int .i64 x1) := by rw [show oB + j * 3 + 1 = oB + (j * 3 + 1) by omega, hcB _ (by omega), hx1]
              have e2 : wr.cell? ⟨bB, oB + j * 3 + 2, none⟩ = some (.int .i64 x2) := by rw [show oB + j * 3 + 2 = oB + (j * 3 + 2) by omega, hcB _ (by omega), hx2]
              have f0 : wr.cell? ⟨bD, oD + j * 3, none⟩ = some (.int .i64 x0) := by rw [hcD (j * 3) (by omega), q0, hx0]
              have f1 : wr.cell? ⟨bD, oD + j * 3 + 1, none⟩ = some (.int .i64 x1) := by rw [show oD + j * 3 + 1 = oD + (j * 3 + 1) by omega, hcD _ (by omega), q1, hx1]
              have f2 : wr.cell? ⟨bD, oD + j * 3 + 2, none⟩ = some (.int .i64 y2) := by rw [show oD + j * 3 + 2 = oD + (j * 3 + 2) by omega, hcD _ (by omega), hy2]
              clear q0 q1 q2 hx0 hx1 hx2 hy2 hcB hcD
              have T := Tri.new wr x0 x1 y2
              have Ea : Ext wr (wr.alloc (.cells #[.int .i64 x0, .int .i64 x1, .int .i64 y2] 53)) := (Ext.refl _).alloc _
              have g0 := (Ext.cells Ea).1 bB (oB + j * 3) hbB
              have g1 := (Ext.cells Ea).1 bB (oB + j * 3 + 1) hbB
              have g2 := (Ext.cells Ea).1 bB (oB + j * 3 + 2) hbB
              rw [e0] at g0
              rw [e1] at g1
              rw [e2] at g2
              by_cases hji : j = I
              · subst hji
                clear hq2
                as_aux_lemma =>
                  go_wp2_with (fail)
                  obtain ⟨T1, T2, T3, T4⟩ := T
                  generalize wr.alloc (.cells #[.int .i64 x0, .int .i64 x1, .int .i64 y2] 53) = wq at T1 T2 T3 T4 Ea g0 g1 g2 ⊢
                  obtain ⟨bq, hbq⟩ : ∃ b, b = wr.heap.size := ⟨_, rfl⟩
                  rw [← hbq] at T1 T2 T3 T4 ⊢
                  clear hbq e0 e1 e2 f0 f1 f2
                  go_quiet (fail)
                  go_wp2_with (fail)
                  go_roundw
                  case rel => exact ⟨j + 1, by omega, by go_num, by first | exact E2.trans Ea | exact (E2.trans Ea).drewN _⟩
                  case measure => simp [intOf]; omega
              · have t1 : decide ((j : Int) = (I : Int)) = false := by simp; omega
                have t2 : decide (j = I) = false := by simp; omega
                have t3 : ((j : Int) == (I : Int)) = false := by simp; omega
                have t4 : ((j : Int) != (I : Int)) = true := by simp; omega
                obtain rfl := hq2 hji
                clear hq2
                as_aux_lemma =>
                  go_wp2_with (fail)
                  obtain ⟨T1, T2, T3, T4⟩ := T
                  generalize wr.alloc (.cells #[.int .i64 x0, .int .i64 x1, .int .i64 y2] 53) = wq at T1 T2 T3 T4 Ea g0 g1 g2 ⊢
                  obtain ⟨bq, hbq⟩ : ∃ b, b = wr.heap.size := ⟨_, rfl⟩
                  rw [← hbq] at T1 T2 T3 T4 ⊢
                  clear hbq e0 e1 e2 f0 f1 f2
                  go_quiet (fail)
                  go_wp2_with (fail)
                  go_roundw
                  case rel => exact ⟨j + 1, by omega, by go_num, by first | exact E2.trans Ea | exact (E2.trans Ea).drewN _⟩
                  case measure => simp [intOf]; omega
            · obtain rfl : j = mL := by omega
              have tl : decide ((j : Int) < (j : Int)) = false := by simp
              clear hI0 hI1 E2
              go_wp2_with (fail)
              go_meet
              exact ⟨E, HA.out⟩
  case rest =>
  clear E HA HB HC HD HW hm2
  obtain ⟨E, hr⟩ := hcut
  have HA := hid hr
  clear hr
  cases ok with
  | false =>
    go_wp2_with (fail)
    go_ret
    exact ⟨rfl, E⟩
  | true =>
    obtain ⟨hok, I, rfl, hI, HQ⟩ := HF.out (by first | rfl | trivial)
    have HQ := hid HQ
    have HOK := hid hok
    clear hok HF
    go_wp2_with (fail)
    go_loopw [29] (fun i wr => ∃ q : Nat, q ≤ 4 ∧ i = .int .i64 (q : Int) ∧ Ext wc wr)
      (fun i _ => 4 - (intOf i).toNat)
    case atStart => exact ⟨0, Nat.zero_le _, rfl, Ext.refl _⟩
    case round =>
      obtain ⟨q, hq, rfl, hE⟩ := hrel
      replace E := E.trans hE
      replace HA := hid (HA.out.ext hE)
      have E2 := hE
      clear hE
      by_cases hlt : q ≤ 3
      · have tl : decide ((q : Int) ≤ 3) = true := by simp; omega
        obtain ⟨hokq, _, hiff⟩ := HQ.out q hlt
        have HOKQ := hid hokq
        have HIFF := hid hiff
        clear hokq hiff
        obtain ⟨_, g2⟩ := withT (q := (q : Int)) HA.out.1 HA.out.2.2.1 HOK.out hI (by omega) (by omega) (.slice aA m dA)
        go_wp2_with (fail)
        refine (g2 _ HA.out).mono ?_
        rintro e q8 ⟨vU, rfl, hr, k8⟩
        replace E := E.trans k8
        replace E2 := E2.trans k8
        replace HA := hid (HA.out.ext k8)
        have HU := hid hr
        obtain ⟨aU, dU, rfl⟩ := introw_slice HU.out
        clear hr k8
        clear g2
        obtain ⟨g1, g2⟩ := finT HOKQ.out (.slice aU m dU)
        go_wp2_with (fail)
        refine (g1 _ HU.out).mono ?_
        rintro e q9 ⟨vV1, rfl, hr, k9⟩
        replace E := E.trans k9
        replace E2 := E2.trans k9
        replace HA := hid (HA.out.ext k9)
        replace HU := hid (HU.out.ext k9)
        have HV1 := hid hr
        obtain ⟨aV1, dV1, rfl⟩ := introw_slice HV1.out
        clear hr k9
        go_wp2_with (fail)
        refine (g2 _ HU.out).mono ?_
        rintro e q10 ⟨vV2, rfl, hr, k10⟩
        replace E := E.trans k10
        replace E2 := E2.trans k10
        replace HA := hid (HA.out.ext k10)
        replace HU := hid (HU.out.ext k10)
        replace HV1 := hid (HV1.out.ext k10)
        have HV2 := hid hr
        obtain ⟨aV2, dV2, rfl⟩ := introw_slice HV2.out
        clear hr k10
        clear g1 g2
        go_wp2_with (fail)
        refine (qInts_same _ _ m (finJ (setP zs I (q : Int)) m) _ HV1.out HV2.out).mono ?_
        rintro e q11 ⟨rfl, k11⟩
        replace E := E.trans k11
        replace E2 := E2.trans k11
        replace HA := hid (HA.out.ext k11)
        replace HU := hid (HU.out.ext k11)
        replace HV1 := hid (HV1.out.ext k11)
        replace HV2 := hid (HV2.out.ext k11)
        clear k11
        obtain ⟨hz1, hz2, hz3, _, _, he, hz4, hz5, hcell⟩ := id HV2.out
        simp only [Value.slice.injEq, true_and] at he
        obtain ⟨rfl, rfl⟩ := he
        obtain ⟨bF, oF, rfl, hbF, hcF⟩ := hcell.resolve_left (by omega)
        clear hz1 hz2 hz3 hz4 hz5 hcell
        obtain ⟨FO, hFO⟩ : ∃ x, x = (finJ (setP zs I (q : Int)) m).getD I 0 := ⟨_, rfl⟩
        have sF := hcF (I * 1) (by omega)
        rw [Nat.mul_one, ← hFO] at sF
        have hiff := HIFF.out
        rw [← hFO] at hiff
        have hI0 : (0 : Int) ≤ (I : Int) := Int.natCast_nonneg _
        have hI1 : (I : Int) < (m : Int) := by omega
        clear hcF hFO HIFF
        clear HV1 HV2 HU
        by_cases hpq : p ≤ (q : Int)
        · have u1 : decide (FO ≤ Y) = true := by simpa using hiff.2 hpq
          have u2 : decide (p ≤ (q : Int)) = true := by simpa using hpq
          clear hiff hpq
          go_wp2_with (fail)
          go_roundw
          case rel => exact ⟨q + 1, by omega, by go_num, E2⟩
          case measure => simp [intOf]; omega
        · have u1 : decide (FO ≤ Y) = false := by simpa using fun h => hpq (hiff.1 h)
          have u2 : decide (p ≤ (q : Int)) = false := by simpa using hpq
          clear hiff hpq
          go_wp2_with (fail)
          go_roundw
          case rel => exact ⟨q + 1, by omega, by go_num, E2⟩
          case measure => simp [intOf]; omega
      · obtain rfl : q = 4 := by omega
        have tl : decide (((4 : Nat) : Int) ≤ 3) = false := by simp
        go_wp2_with (fail)
        go_ret
        exact ⟨rfl, E⟩
end Go.Proofs.Ytabafhmeefeioaa