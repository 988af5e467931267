/- The law of windows: sent packets are at least the parts, double arrivals are what came too often, and the best window needs fewest rounds. No condition. -/
import Derived.Test.YtmmmiccpimplhaaAckJ
namespace Go.Proofs.Ytmmmiccpimplhaa
open Go.RowKit
set_option linter.unusedSimpArgs false
set_option linter.unusedVariables false

theorem sIsAck_any (v : Value) (n : Nat) (z : List Int) (w : World) (h : IntRow .i64 1 w v n z) :
    Calls Try.prog 32 #[v] w fun e w' => e = .returned (.bool (scB z n)) ∧ w = w' := by
  obtain ⟨a, c, rfl⟩ := introw_slice h
  go_enter Try.func32, Try.ntmps32
  go_wp2_with (fail)
  refine (akScript_any _ n z _ h).mono ?_
  rintro e w' ⟨rfl, rfl⟩
  go_wp2_with (fail)
  go_ret
  exact ⟨rfl, rfl⟩
/-- the best window is least: by rounds, then by what is sent, then by itself -/
theorem bw_inv (N : Nat) (z : List Int) (n : Nat) : ∀ j, (1 ≤ (bwS N z n j).1 ∧ (bwS N z n j).1 ≤ j + 1) ∧ (bwS N z n j).2 = akS N (bwS N z n j).1 (lfZ z n) 39 ∧
    ∀ w, 1 ≤ w → w ≤ j + 1 → (bwS N z n j).2.r ≤ (akS N w (lfZ z n) 39).r ∧ ((akS N w (lfZ z n) 39).r = (bwS N z n j).2.r → (bwS N z n j).2.s ≤ (akS N w (lfZ z n) 39).s ∧ ((akS N w (lfZ z n) 39).s = (bwS N z n j).2.s → (bwS N z n j).1 ≤ w)) := by
  intro j
  have hz := bwS_zero N z n
  have hs := bwS_succ N z n
  obtain ⟨f, hf⟩ : ∃ f : Nat → Ak, ∀ w, akS N w (lfZ z n) 39 = f w := ⟨_, fun _ => rfl⟩
  simp only [hf] at hz hs ⊢
  induction j with
  | zero =>
    rw [hz]
    refine ⟨⟨Nat.le_refl _, Nat.le_refl _⟩, rfl, fun w h1 h2 => ?_⟩
    obtain rfl : w = 1 := by omega
    exact ⟨Nat.le_refl _, fun _ => ⟨Nat.le_refl _, fun _ => Nat.le_refl _⟩⟩
  | succ j ih =>
    obtain ⟨⟨i1, i2⟩, i3, i4⟩ := ih
    rw [hs j]
    by_cases c : (f (j + 2)).r < (bwS N z n j).2.r ∨ ((f (j + 2)).r = (bwS N z n j).2.r ∧ (f (j + 2)).s < (bwS N z n j).2.s)
    · rw [if_pos c]
      refine ⟨⟨by simp only []; omega, by simp only []; omega⟩, rfl, fun w h1 h2 => ?_⟩
      simp only []
      by_cases e : w = j + 2
      · subst e
        exact ⟨Nat.le_refl _, fun _ => ⟨Nat.le_refl _, fun _ => Nat.le_refl _⟩⟩
      · obtain ⟨g1, g2⟩ := i4 w h1 (by omega)
        refine ⟨by omega, fun h => ?_⟩
        have := g2 (by omega)
        refine ⟨by omega, fun h' => by omega⟩
    · rw [if_neg c]
      refine ⟨⟨i1, by omega⟩, i3, fun w h1 h2 => ?_⟩
      by_cases e : w = j + 2
      · subst e
        refine ⟨by omega, fun h => ⟨by omega, fun _ => by omega⟩⟩
      · exact i4 w h1 (by omega)
theorem goodB_at {N W : Int} {z : List Int} {n : Nat} (h : goodB N 1 z n = true) (h1 : 1 ≤ W) (h2 : W ≤ 9) : goodB N W z n = true := by
  unfold goodB at *
  rw [Bool.and_eq_true, Bool.and_eq_true] at h ⊢
  exact ⟨⟨h.1.1, inR_iff.2 ⟨h1, h2⟩⟩, h.2⟩
theorem bestPair (N : Int) (v : Value) (n : Nat) (z : List Int) : ∃ (b r : Int) (ok : Bool), (∀ w, IntRow .i64 1 w v n z → Calls Try.prog 15 #[.int .i64 N, v] w fun e w' => e = .returned (.tuple #[.int .i64 b, .int .i64 r, .bool ok]) ∧ Ext w w') ∧ (∀ w, IntRow .i64 1 w v n z → Calls Try.prog 14 #[.int .i64 N, v] w fun e w' => e = .returned (.tuple #[.int .i64 b, .int .i64 r, .bool ok]) ∧ Ext w w') ∧
    (ok = true → (1 ≤ b ∧ b ≤ 9) ∧ ∀ W : Int, 1 ≤ W → W ≤ 9 → goodB N W z n = true ∧ r ≤ rnV N W z n ∧ (rnV N W z n = r → psV N b z n ≤ psV N W z n ∧ (psV N W z n = psV N b z n → b ≤ W)) ∧ (W = b → rnV N W z n = r)) := by
  refine ⟨_, _, _, fun w h => iBestWindow_any N v n z w h, fun w h => sBestWindow_any N v n z w h, fun h => ?_⟩
  unfold bwB bwR
  rw [if_pos h, if_pos h]
  obtain ⟨⟨b1, b2⟩, b3, b4⟩ := bw_inv N.toNat z n 8
  have good := fun W h1 h2 => goodB_at (W := W) h h1 h2
  have er : ∀ W : Int, 1 ≤ W → W ≤ 9 → rnV N W z n = ((akS N.toNat W.toNat (lfZ z n) 39).r : Int) := fun W h1 h2 => by unfold rnV zz; rw [if_pos (good W h1 h2)]
  have es : ∀ W : Int, 1 ≤ W → W ≤ 9 → psV N W z n = ((akS N.toNat W.toNat (lfZ z n) 39).s : Int) := fun W h1 h2 => by unfold psV zz; rw [if_pos (good W h1 h2)]
  obtain ⟨f, hf⟩ : ∃ f : Nat → Ak, ∀ w, akS N.toNat w (lfZ z n) 39 = f w := ⟨_, fun _ => rfl⟩
  obtain ⟨B, hB⟩ : ∃ B, B = bwS N.toNat z n 8 := ⟨_, rfl⟩
  simp only [hf, ← hB] at b1 b2 b3 b4 er es ⊢
  refine ⟨⟨by omega, by omega⟩, fun W h1 h2 => ⟨good W h1 h2, ?_⟩⟩
  rw [er W h1 h2, es W h1 h2, es (B.1 : Int) (by omega) (by omega), Int.toNat_natCast, ← b3]
  obtain ⟨c1, c2⟩ := b4 W.toNat (by omega) (by omega)
  refine ⟨by omega, fun h => ?_, fun h => ?_⟩
  · obtain ⟨c3, c4⟩ := c2 (by omega)
    exact ⟨by omega, fun h => by have := c4 (by omega); omega⟩
  · subst h
    rw [Int.toNat_natCast, ← b3]
theorem cnt_facts {a b n : Nat} {z : List Int} (h1 : 1 ≤ a) (h2 : a ≤ 9) (h3 : 1 ≤ b) (h4 : b ≤ 9) (h5 : scB z n = true) : ∀ k, k = 39 → a + (akS a b (lfZ z n) k).d ≤ (akS a b (lfZ z n) k).s ∧ (akS a b (lfZ z n) k).s ≤ (akS a b (lfZ z n) k).r * b ∧ (akS a b (lfZ z n) k).r ≤ k ∧ (akS a b (lfZ z n) k).s ≤ a * k ∧ (akS a b (lfZ z n) k).d ≤ a * k ∧ (n = 0 → (akS a b (lfZ z n) k).s = a ∧ (akS a b (lfZ z n) k).d = 0 ∧ (akS a b (lfZ z n) k).r = (a + b - 1) / b) := by
  intro k hk
  have hm := (scB_iff h5).1
  have hend := akS_end (n := a) (w := b) (m := n) (l := lfZ z n) h3 h2 hm lfZ_far (k := k) (by omega)
  have hA := akS_all hend
  obtain ⟨k1, k2⟩ := akS_count a b (lfZ z n) k
  obtain ⟨b1, b2, _, b4, b5, _⟩ := akS_bd a b (lfZ z n) k
  have hfull := (bitsL_full b2).2 hA
  rw [hfull] at k1
  have hg := clean_get h1 h2 h3 h4
  rw [← hk] at hg
  refine ⟨k1, k2, b1, b4, b5, fun h0 => ?_⟩
  rw [show lfZ z n = fun _ => 0 from funext fun r => lfZ_far r (by omega)]
  exact hg
theorem cntAll (N W : Int) (v : Value) (n : Nat) (z : List Int) : ∃ (r s d : Int) (ok : Bool), (∀ w, IntRow .i64 1 w v n z → Calls Try.prog 26 #[.int .i64 N, .int .i64 W, v] w fun e w' => e = .returned (.tuple #[.int .i64 s, .bool ok]) ∧ Ext w w') ∧ (∀ w, IntRow .i64 1 w v n z → Calls Try.prog 27 #[.int .i64 N, .int .i64 W, v] w fun e w' => e = .returned (.tuple #[.int .i64 s, .bool ok]) ∧ Ext w w') ∧ (∀ w, IntRow .i64 1 w v n z → Calls Try.prog 28 #[.int .i64 N, .int .i64 W, v] w fun e w' => e = .returned (.tuple #[.int .i64 d, .bool ok]) ∧ Ext w w') ∧ (∀ w, IntRow .i64 1 w v n z → Calls Try.prog 29 #[.int .i64 N, .int .i64 W, v] w fun e w' => e = .returned (.tuple #[.int .i64 d, .bool ok]) ∧ Ext w w') ∧ (∀ w, IntRow .i64 1 w v n z → Calls Try.prog 33 #[.int .i64 N, .int .i64 W, v] w fun e w' => e = .returned (.tuple #[.int .i64 r, .bool ok]) ∧ Ext w w') ∧ (∀ w, IntRow .i64 1 w v n z → Calls Try.prog 34 #[.int .i64 N, .int .i64 W, v] w fun e w' => e = .returned (.tuple #[.int .i64 r, .bool ok]) ∧ Ext w w') ∧
    (ok = true → ((1 ≤ N ∧ N ≤ 9) ∧ 1 ≤ W ∧ W ≤ 9) ∧ (0 ≤ d ∧ d ≤ 1000) ∧ (N + d ≤ s ∧ s ≤ r * W) ∧ (0 ≤ r ∧ r ≤ 39) ∧ (n = 0 → s = N ∧ d = 0 ∧ r = (N + W - 1) / W)) := by
  refine ⟨_, _, _, _, fun w h => iPacketsSent_any N W v n z w h, fun w h => sPacketsSent_any N W v n z w h, fun w h => iDoubleArrivals_any N W v n z w h, fun w h => sDoubleArrivals_any N W v n z w h, fun w h => iRoundsNeeded_any N W v n z w h, fun w h => sRoundsNeeded_any N W v n z w h, fun h => ?_⟩
  unfold psV daV rnV zz
  rw [if_pos h, if_pos h, if_pos h]
  obtain ⟨a, b, rfl, rfl, h1, h2, h3, h4, h5⟩ := goodB_nat2 h
  rw [Int.toNat_natCast, Int.toNat_natCast]
  have hF := cnt_facts h1 h2 h3 h4 h5 39 rfl
  obtain ⟨X, hX⟩ : ∃ X, X = akS a b (lfZ z n) 39 := ⟨_, rfl⟩
  rw [← hX] at hF ⊢
  obtain ⟨k1, k2, b1, b4, b5, hcl⟩ := hF
  have hm9 : a * 39 ≤ 9 * 39 := Nat.mul_le_mul_right 39 h2
  have e1 : (X.r : Int) * (b : Int) = ((X.r * b : Nat) : Int) := by push_cast; rfl
  refine ⟨⟨⟨by omega, by omega⟩, by omega, by omega⟩, ⟨by omega, by omega⟩, ⟨by omega, by rw [e1]; omega⟩, ⟨by omega, by omega⟩, fun h0 => ?_⟩
  obtain ⟨c1, c2, c3⟩ := hcl h0
  refine ⟨by omega, by omega, ?_⟩
  rw [c3, Int.natCast_ediv]
  congr 1
  omega


set_option maxRecDepth 100000 in
set_option maxHeartbeats 8000000 in
theorem walkFnWindows (v0 : Value) (n0 : Nat) (z0 : List Int) (v1 : Value) (n1 : Nat) (z1 : List Int) (w : World) (r0 : IntRow .u8 1 w v0 n0 z0) (r1 : IntRow .u8 1 w v1 n1 z1) :
    Calls Try.prog 8 #[v0, v1] w fun e w' => e = .returned (.bool true) ∧ Ext w w' := by
  obtain ⟨a0, c0, rfl⟩ := introw_slice r0
  obtain ⟨a1, c1, rfl⟩ := introw_slice r1
  have hm0 := r0.2.1
  have hm1 := r1.2.1
  unfold maxLen at hm0 hm1
  obtain ⟨TS, hTS⟩ : ∃ t, t = IntKind.i64.wrap ((n0 : Int) + (n1 : Int)) := ⟨_, rfl⟩
  have hws := hTS.symm
  by_cases hbig : (1048576 : Int) < TS
  · have tb : decide ((1048576 : Int) < TS) = true := by simpa using hbig
    clear hTS hbig
    go_enter Try.func8, Try.ntmps8
    go_wp2_with (fail)
    go_ret
    exact ⟨rfl, Ext.refl _⟩
  have tb : decide ((1048576 : Int) < TS) = false := by simpa using hbig
  clear hTS
  have hn0 := hm0
  have hn1 := hm1
  go_enter Try.func8, Try.ntmps8
  have E : Ext w w := Ext.refl w
  go_wp2_with (fail)
  refine (drawBest _ n0 z0 _ r0 hn0).mono ?_
  rintro e w1 ⟨N, v, m, zs, rfl, hNb, hr, hm31, k1⟩
  replace E := E.trans k1
  clear k1
  clear hws tb hbig
  obtain ⟨av, cv, rfl⟩ := introw_slice hr
  have HR := hid hr
  clear hr
  obtain ⟨b, r, ok, c1, c2, hbp⟩ := bestPair N (.slice av m cv) m zs
  have HBP := hid hbp
  clear hbp
  go_wp2_with (fail)
  refine (c1 _ HR.out).mono ?_
  rintro e w2 ⟨rfl, k2⟩
  replace E := E.trans k2
  replace HR := hid (HR.out.ext k2)
  clear k2
  go_wp2_with (fail)
  refine (c2 _ HR.out).mono ?_
  rintro e w3 ⟨rfl, k3⟩
  replace E := E.trans k3
  replace HR := hid (HR.out.ext k3)
  clear k3
  clear c1 c2
  go_wp2_with (fail)
  refine (drawSent _ n1 z1 _ (r1.ext E) hn1).mono ?_
  rintro e w4 ⟨M, V, v2, m2, zs2, rfl, hMb, hr2, hm2, k4⟩
  replace E := E.trans k4
  replace HR := hid (HR.out.ext k4)
  clear k4
  obtain ⟨av2, cv2, rfl⟩ := introw_slice hr2
  have HR2 := hid hr2
  clear hr2
  obtain ⟨R, S, D, ok2, c1, c2, c3, c4, c5, c6, hcn⟩ := cntAll M V (.slice av2 m2 cv2) m2 zs2
  have HCN := hid hcn
  clear hcn
  go_wp2_with (fail)
  refine (c1 _ HR2.out).mono ?_
  rintro e w5 ⟨rfl, k5⟩
  replace E := E.trans k5
  replace HR := hid (HR.out.ext k5)
  replace HR2 := hid (HR2.out.ext k5)
  clear k5
  go_wp2_with (fail)
  refine (c2 _ HR2.out).mono ?_
  rintro e w6 ⟨rfl, k6⟩
  replace E := E.trans k6
  replace HR := hid (HR.out.ext k6)
  replace HR2 := hid (HR2.out.ext k6)
  clear k6
  go_wp2_with (fail)
  refine (c3 _ HR2.out).mono ?_
  rintro e w7 ⟨rfl, k7⟩
  replace E := E.trans k7
  replace HR := hid (HR.out.ext k7)
  replace HR2 := hid (HR2.out.ext k7)
  clear k7
  go_wp2_with (fail)
  refine (c4 _ HR2.out).mono ?_
  rintro e w8 ⟨rfl, k8⟩
  replace E := E.trans k8
  replace HR := hid (HR.out.ext k8)
  replace HR2 := hid (HR2.out.ext k8)
  clear k8
  clear c1 c2 c3 c4
  go_wp2_with (fail)
  refine (drawScript _ n1 z1 _ (r1.ext E) hn1).mono ?_
  rintro e w9 ⟨v3, m3, zs3, rfl, hr3, _, k9⟩
  replace E := E.trans k9
  replace HR := hid (HR.out.ext k9)
  replace HR2 := hid (HR2.out.ext k9)
  clear k9
  obtain ⟨av3, cv3, rfl⟩ := introw_slice hr3
  have HR3 := hid hr3
  clear hr3
  go_wp2_with (fail)
  refine (isAckScript_any _ m3 zs3 _ HR3.out).mono ?_
  rintro e w' ⟨rfl, rfl⟩
  go_wp2_with (fail)
  refine (sIsAck_any _ m3 zs3 _ HR3.out).mono ?_
  rintro e w' ⟨rfl, rfl⟩
  clear HR3
  go_upto_if 146 with (fail)
  go_cut [25, 26] from 40 to 200 (fun s25 s26 wx => Ext w wx ∧ IntRow .i64 1 wx (.slice av m cv) m zs)
  case first =>
    cases ok2 with
    | false =>
      go_wp2_with (fail)
      go_meet
      exact ⟨E, HR.out⟩
    | true =>
      obtain ⟨⟨⟨f1, f2⟩, f3, f4⟩, ⟨f5, f6⟩, ⟨f7, f8⟩, ⟨f9, f10⟩, f11⟩ := HCN.out (by first | rfl | trivial)
      go_wp2_with (fail)
      refine (c5 _ HR2.out).mono ?_
      rintro e w10 ⟨rfl, k10⟩
      replace E := E.trans k10
      replace HR := hid (HR.out.ext k10)
      replace HR2 := hid (HR2.out.ext k10)
      clear k10
      have tw1 : IntKind.i64.wrap (M + D) = M + D := IntWalk.i64_in _ (by omega)
      have hRV : 0 ≤ R * V ∧ R * V ≤ 39 * 9 := ⟨Int.mul_nonneg f9 (by omega), Int.mul_le_mul f10 f4 (by omega) (by omega)⟩
      have tw2 : IntKind.i64.wrap (R * V) = R * V := IntWalk.i64_in _ (by omega)
      have t1 : decide (S < M) = false := by simp; omega
      have t2 : decide (D < 0) = false := by simp; omega
      have t3 : decide (S < M + D) = false := by simp; omega
      have t4 : decide (R * V < S) = false := by simp; omega
      clear f7 f8 hRV
      by_cases hz : m2 = 0
      · obtain ⟨g1, g2, g3⟩ := f11 hz
        have t5 : decide ((m2 : Int) = 0) = true := by simp; omega
        have t5' : ((m2 : Int) == 0) = true := by simp; omega
        have t5'' : decide (m2 = 0) = true := by simpa using hz
        have tw3 : IntKind.i64.wrap (M + V) = M + V := IntWalk.i64_in _ (by omega)
        have tw4 : IntKind.i64.wrap (M + V - 1) = M + V - 1 := IntWalk.i64_in _ (by omega)
        have tdv : (M + V - 1).tdiv V = R := by rw [g3]; exact Int.tdiv_eq_ediv_of_nonneg (by omega)
        have tw5 : IntKind.i64.wrap R = R := IntWalk.i64_in _ (by omega)
        have hV0 : ¬ V = 0 := by omega
        have hV1 : (V == 0) = false := by simpa using hV0
        subst g1
        subst g2
        have HZM := hid hz
        clear hz f11 g3
        go_wp2_with (fail)
        go_meet
        exact ⟨E, HR.out⟩
      · have t5 : decide ((m2 : Int) = 0) = false := by simp; omega
        have t5' : ((m2 : Int) == 0) = false := by simp; omega
        have t5'' : decide (m2 = 0) = false := by simpa using hz
        clear f11
        go_wp2_with (fail)
        go_meet
        exact ⟨E, HR.out⟩
  case rest =>
  clear E HR HR2 c5 c6 HCN
  obtain ⟨E, hr⟩ := hcut
  have HR := hid hr
  clear hr
  go_upto_if 202 with (fail)
  cases ok with
  | false =>
    go_wp2_with (fail)
    go_ret
    exact ⟨rfl, E⟩
  | true =>
  obtain ⟨⟨b1, b2⟩, hall⟩ := HBP.out (by first | rfl | trivial)
  have HALL := hid hall
  clear hall HBP
  have t1 : decide (b < 1) = false := by simp; omega
  have t2 : decide (9 < b) = false := by simp; omega
  obtain ⟨KN, hKN⟩ : ∃ x, x = psV N b zs m := ⟨_, rfl⟩
  have hgb := (HALL.out b b1 b2).1
  have c1 : ∀ w, IntRow .i64 1 w (.slice av m cv) m zs → Calls Try.prog 26 #[.int .i64 N, .int .i64 b, .slice av m cv] w fun e w' => e = .returned (.tuple #[.int .i64 KN, .bool true]) ∧ Ext w w' := fun w h => by have := iPacketsSent_any N b _ m zs w h; rw [hgb, ← hKN] at this; exact this
  have c2 : ∀ w, IntRow .i64 1 w (.slice av m cv) m zs → Calls Try.prog 27 #[.int .i64 N, .int .i64 b, .slice av m cv] w fun e w' => e = .returned (.tuple #[.int .i64 KN, .bool true]) ∧ Ext w w' := fun w h => by have := sPacketsSent_any N b _ m zs w h; rw [hgb, ← hKN] at this; exact this
  have HKN := hid hKN
  clear hKN hgb
  go_wp2_with (fail)
  refine (c1 _ HR.out).mono ?_
  rintro e y10 ⟨rfl, k10⟩
  replace E := E.trans k10
  replace HR := hid (HR.out.ext k10)
  clear k10
  go_wp2_with (fail)
  refine (c2 _ HR.out).mono ?_
  rintro e y11 ⟨rfl, k11⟩
  replace E := E.trans k11
  replace HR := hid (HR.out.ext k11)
  clear k11
  clear c1 c2
  go_wp2_with (fail)
  go_loopw [31] (fun i wr => ∃ k : Nat, (1 ≤ k ∧ k ≤ 10) ∧ i = .int .i64 (k : Int) ∧ Ext y11 wr)
    (fun i _ => 10 - (intOf i).toNat)
  case atStart => exact ⟨1, ⟨Nat.le_refl _, by omega⟩, rfl, Ext.refl _⟩
  case round =>
    obtain ⟨k, ⟨hk1, hk2⟩, rfl, hE⟩ := hrel
    replace E := E.trans hE
    replace HR := hid (HR.out.ext hE)
    have E2 := hE
    by_cases hlt : k ≤ 9
    · have tl : decide ((k : Int) ≤ 9) = true := by simp; omega
      obtain ⟨hg, h1, h2, h3⟩ := HALL.out (k : Int) (by omega) (by omega)
      obtain ⟨XR, hX⟩ : ∃ x, x = rnV N (k : Int) zs m := ⟨_, rfl⟩
      obtain ⟨YS, hY⟩ : ∃ x, x = psV N (k : Int) zs m := ⟨_, rfl⟩
      rw [← hX] at h1 h2 h3
      rw [← hY, ← HKN.out] at h2
      have d0 : ∀ w, IntRow .i64 1 w (.slice av m cv) m zs → Calls Try.prog 33 #[.int .i64 N, .int .i64 (k : Int), .slice av m cv] w fun e w' => e = .returned (.tuple #[.int .i64 XR, .bool true]) ∧ Ext w w' := fun w h => by have := iRoundsNeeded_any N (k : Int) _ m zs w h; rw [hg, ← hX] at this; exact this
      have d1 : ∀ w, IntRow .i64 1 w (.slice av m cv) m zs → Calls Try.prog 34 #[.int .i64 N, .int .i64 (k : Int), .slice av m cv] w fun e w' => e = .returned (.tuple #[.int .i64 XR, .bool true]) ∧ Ext w w' := fun w h => by have := sRoundsNeeded_any N (k : Int) _ m zs w h; rw [hg, ← hX] at this; exact this
      have d2 : ∀ w, IntRow .i64 1 w (.slice av m cv) m zs → Calls Try.prog 26 #[.int .i64 N, .int .i64 (k : Int), .slice av m cv] w fun e w' => e = .returned (.tuple #[.int .i64 YS, .bool true]) ∧ Ext w w' := fun w h => by have := iPacketsSent_any N (k : Int) _ m zs w h; rw [hg, ← hY] at this; exact this
      have d3 : ∀ w, IntRow .i64 1 w (.slice av m cv) m zs → Calls Try.prog 27 #[.int .i64 N, .int .i64 (k : Int), .slice av m cv] w fun e w' => e = .returned (.tuple #[.int .i64 YS, .bool true]) ∧ Ext w w' := fun w h => by have := sPacketsSent_any N (k : Int) _ m zs w h; rw [hg, ← hY] at this; exact this
      clear hX hY hg
      have t3 : decide (XR < r) = false := by simp; omega
      clear h1
      have H2 := hid h2
      have H3 := hid h3
      clear h2 h3
      go_wp2_with (fail)
      refine (d0 _ HR.out).mono ?_
      rintro e q12 ⟨rfl, k12⟩
      replace E := E.trans k12
      replace E2 := E2.trans k12
      replace HR := hid (HR.out.ext k12)
      clear k12
      go_wp2_with (fail)
      refine (d1 _ HR.out).mono ?_
      rintro e q13 ⟨rfl, k13⟩
      replace E := E.trans k13
      replace E2 := E2.trans k13
      replace HR := hid (HR.out.ext k13)
      clear k13
      go_wp2_with (fail)
      refine (d2 _ HR.out).mono ?_
      rintro e q14 ⟨rfl, k14⟩
      replace E := E.trans k14
      replace E2 := E2.trans k14
      replace HR := hid (HR.out.ext k14)
      clear k14
      go_wp2_with (fail)
      refine (d3 _ HR.out).mono ?_
      rintro e q15 ⟨rfl, k15⟩
      replace E := E.trans k15
      replace E2 := E2.trans k15
      replace HR := hid (HR.out.ext k15)
      clear k15
      clear d0 d1 d2 d3
      by_cases hXr : XR = r
      · obtain ⟨j1, j2⟩ := H2.out hXr
        have t4 : decide (YS < KN) = false := by simp; omega
        have e_Xr : decide (XR = r) = true := by simp; omega
        have f_Xr : (XR == r) = true := by simp; omega
        clear H2 H3
        by_cases hkb : (k : Int) = b
        · have e_kb : decide ((k : Int) = b) = true := by simp; omega
          have f_kb : ((k : Int) == b) = true := by simp; omega
          by_cases hY : YS = KN
          · have e_YK : decide (YS = KN) = true := by simp; omega
            have f_YK : (YS == KN) = true := by simp; omega
            have t5 : decide ((k : Int) < b) = false := by have := j2 hY; simp; omega
            clear hY j1 j2 hkb hXr
            go_wp2_with (fail)
            go_roundw
            case rel => exact ⟨k + 1, ⟨by omega, by omega⟩, by go_num, E2⟩
            case measure => simp [intOf]; omega
          · have e_YK : decide (YS = KN) = false := by simp; omega
            have f_YK : (YS == KN) = false := by simp; omega
            clear hY j1 j2 hkb hXr
            go_wp2_with (fail)
            go_roundw
            case rel => exact ⟨k + 1, ⟨by omega, by omega⟩, by go_num, E2⟩
            case measure => simp [intOf]; omega
        · have e_kb : decide ((k : Int) = b) = false := by simp; omega
          have f_kb : ((k : Int) == b) = false := by simp; omega
          by_cases hY : YS = KN
          · have e_YK : decide (YS = KN) = true := by simp; omega
            have f_YK : (YS == KN) = true := by simp; omega
            have t5 : decide ((k : Int) < b) = false := by have := j2 hY; simp; omega
            clear hY j1 j2 hkb hXr
            go_wp2_with (fail)
            go_roundw
            case rel => exact ⟨k + 1, ⟨by omega, by omega⟩, by go_num, E2⟩
            case measure => simp [intOf]; omega
          · have e_YK : decide (YS = KN) = false := by simp; omega
            have f_YK : (YS == KN) = false := by simp; omega
            clear hY j1 j2 hkb hXr
            go_wp2_with (fail)
            go_roundw
            case rel => exact ⟨k + 1, ⟨by omega, by omega⟩, by go_num, E2⟩
            case measure => simp [intOf]; omega
      · have hkb : ¬ (k : Int) = b := fun h => hXr (H3.out h)
        have e_kb : decide ((k : Int) = b) = false := by simp; omega
        have f_kb : ((k : Int) == b) = false := by simp; omega
        have e_Xr : decide (XR = r) = false := by simp; omega
        have f_Xr : (XR == r) = false := by simp; omega
        clear H2 H3 hkb hXr
        go_wp2_with (fail)
        go_roundw
        case rel => exact ⟨k + 1, ⟨by omega, by omega⟩, by go_num, E2⟩
        case measure => simp [intOf]; omega
    · obtain rfl : k = 10 := by omega
      have tl : decide (((10 : Nat) : Int) ≤ 9) = false := by decide
      go_wp2_with (fail)
      go_ret
      exact ⟨rfl, by first | exact E | exact (by repeat (first | exact Ext.refl _ | assumption | refine Ext.alloc ?_ _ | refine Ext.drew ?_ | refine Ext.drewN ?_ _ | refine Ext.setCell ?_ (by first | exact Nat.le_refl _ | (simp; done) | (dsimp only; omega) | (simp only [World.size_alloc, World.size_setCell]; omega)) _ | refine Ext.trans ?_ (by assumption)))⟩
end Go.Proofs.Ytmmmiccpimplhaa