/- What the reference draws for the law of acknowledgements; when all is known. Condition: the code's length. -/
import Derived.Test.YtmmmiccpimplhaaAckK
import Derived.Test.YtmmmiccpimplhaaQq
import Derived.Handy
namespace Go.Proofs.Ytmmmiccpimplhaa
open Go.RowKit
set_option linter.unusedSimpArgs false
set_option linter.unusedVariables false

set_option maxRecDepth 100000 in
set_option maxHeartbeats 1000000 in
theorem drawArrived (vc : Value) (n : Nat) (zc : List Int) (w : World) (h : IntRow .u8 1 w vc n zc) (hn : n ≤ 9223372036854775807) :
    Calls Try.prog 51 #[vc] w fun e w' => ∃ (x y k : Int) (v : Value) (m : Nat) (zs : List Int), e = .returned (.tuple #[.int .i64 x, .int .i64 y, v, .int .i64 k]) ∧ IntRow .i64 1 w' v m zs ∧ m ≤ 31 ∧ Ext w w' := by
  have hc := cur_new h (by omega)
  obtain ⟨a, c, rfl⟩ := introw_slice h
  go_enter Try.func51, Try.ntmps51
  go_wp2_with (fail)
  refine (partsS hc (by omega)).mono ?_
  rintro e w1 ⟨x, q1, rfl, b1, b2, hq1, hc1, hg1⟩
  go_wp2_with (fail)
  refine (windowS hc1 (by omega)).mono ?_
  rintro e w2 ⟨y, q2, rfl, b3, b4, hq2, hc2, hg2⟩
  go_wp2_with (fail)
  refine (scriptS hc2 (by omega)).mono ?_
  rintro e w3 ⟨v, m, zs, q3, rfl, hr, hm, hw, hq3, hc3, hg3⟩
  have hsz := (World.grownBy.trans hg1 hg2).size
  rw [World.size_alloc] at hsz
  have HFAR : Hid (∀ k, v.ownBlock = some k → w.heap.size ≠ k) := hid (fun k hk => by have := (hr.lt k hk).1; omega)
  have HR := hid hr
  clear hr
  obtain ⟨av, cv, rfl, _, _, _⟩ := row_shape HR.out
  have hB := hc3.size
  go_wp2_with (fail)
  refine (amongL [61, -1] hc3 (by omega) rfl (by simp) (by simp) rfl (by intro z hz; simp at hz; omega)).mono ?_
  rintro e w4 ⟨x1, q4, rfl, hm1, hq4, hq4', hc4, hg4⟩
  replace hm1 : -1 ≤ x1 ∧ x1 ≤ 61 := by simp at hm1; omega
  obtain ⟨a1, a2⟩ := hm1
  go_wp2_with (fail)
  refine (amongL [0, 1, 2, 3, 5, 12, 60, x1] hc4 (by omega) rfl (by simp) (by simp) rfl (by intro z hz; simp at hz; omega)).mono ?_
  rintro e w5 ⟨x2, q5, rfl, hm2, hq5, hq5', hc5, hg5⟩
  go_wp2_with (fail)
  go_returns
  have hE3 : Ext w w3 := fresh (World.grownBy.trans hg1 (World.grownBy.trans hg2 hg3))
  have g35 := World.grownBy.trans hg4 hg5
  refine ⟨x, y, x2, _, m, zs, rfl, ?_, by omega, hE3.of_grownAt g35 (by intro k hk; simp at hk; omega)⟩
  exact row_ints ((HR.out.kept hg4 (.inr (fun e => HFAR.out _ e rfl))).kept hg5 (.inr (fun e => HFAR.out _ e rfl))) (by unfold maxLen; omega) hw

set_option maxHeartbeats 1000000 in
theorem drawKnown (vc : Value) (n : Nat) (zc : List Int) (w : World) (h : IntRow .u8 1 w vc n zc) (hn : n ≤ 9223372036854775807) :
    Calls Try.prog 35 #[vc] w fun e w' => ∃ (x y k : Int) (v : Value) (m : Nat) (zs : List Int), e = .returned (.tuple #[.int .i64 x, .int .i64 y, v, .int .i64 k]) ∧ IntRow .i64 1 w' v m zs ∧ m ≤ 31 ∧ Ext w w' := by
  go_enter Try.func35, Try.ntmps35
  go_wp2_with (fail)
  refine (drawArrived vc n zc _ h hn).mono ?_
  rintro e w1 ⟨x, y, k, v, m, zs, rfl, h1, h2, h3⟩
  go_wp2_with (fail)
  go_returns
  exact ⟨x, y, k, _, m, zs, rfl, h1, h2, h3⟩

/-- all is known at k just if k is at least the number of rounds -/
theorem full_iff {a b n : Nat} {z : List Int} (h2 : a ≤ 9) (h3 : 1 ≤ b) (h5 : scB z n = true) (j : Nat) : ∀ k, k = 39 → ((akS a b (lfZ z n) j).K = 2 ^ a - 1 ↔ (akS a b (lfZ z n) k).r ≤ j) := by
  intro k hk
  have hm := (scB_iff h5).1
  have hend := akS_end (n := a) (w := b) (m := n) (l := lfZ z n) h3 h2 hm lfZ_far (k := k) (by omega)
  rcases Nat.lt_or_ge k j with h | h
  · have hs := akS_stay hend (j - k)
    rw [show k + (j - k) = j by omega] at hs
    rw [hs]
    have := (akS_bd a b (lfZ z n) k).1
    exact ⟨fun _ => by omega, fun _ => hend⟩
  · have := akS_first a b (lfZ z n) k j h
    rw [this]
    exact ⟨fun h => h.2, fun h => ⟨hend, h⟩⟩
theorem rounds_facts {a b n : Nat} {z : List Int} (h1 : 1 ≤ a) (h2 : a ≤ 9) (h3 : 1 ≤ b) (h5 : scB z n = true) : ∀ k, k = 39 → 1 ≤ (akS a b (lfZ z n) k).r ∧ (akS a b (lfZ z n) k).r ≤ n + a ∧ (akS a b (lfZ z n) k).r ≤ k := by
  intro k hk
  have hf := fun j => full_iff (n := n) (z := z) h2 h3 h5 j k hk
  have hm := (scB_iff h5).1
  refine ⟨?_, ?_, (akS_bd a b (lfZ z n) k).1⟩
  · rcases Nat.eq_zero_or_pos (akS a b (lfZ z n) k).r with h | h
    · have := (hf 0).2 (by omega)
      rw [akS] at this
      have hp : 2 ^ 1 ≤ 2 ^ a := Nat.pow_le_pow_right (by omega) h1
      simp only at this
      omega
    · exact h
  · exact (hf (n + a)).1 (akS_end h3 h2 hm lfZ_far (by omega))
theorem has_bits {a n p : Nat} (hp : p < n) : hasZ (bitsL a n) (bitsL a n).length (p : Int) = a.testBit p := by
  rw [← bitsL_has hp, Bool.eq_iff_iff, hasZ_iff rfl, decide_eq_true_eq]
theorem stV_at {a b k n : Nat} {z : List Int} (h : askB (a : Int) (b : Int) z n (k : Int) = true) : stV (a : Int) (b : Int) z n (k : Int) = if (akS a b (lfZ z n) k).K = 2 ^ a - 1 then 2 else if (akS a b (lfZ z n) k).A = 2 ^ a - 1 then 1 else 0 := by
  unfold stV
  rw [if_pos h, Int.toNat_natCast, Int.toNat_natCast, Int.toNat_natCast]
theorem askB_mk {a b k n : Nat} {z : List Int} (h : goodB (a : Int) (b : Int) z n = true) (hk : k ≤ 60) : askB (a : Int) (b : Int) z n (k : Int) = true := by
  unfold askB
  rw [h, Bool.true_and]
  exact inR_iff.2 ⟨by omega, by omega⟩

theorem ackAll (N W k : Int) (v : Value) (n : Nat) (z : List Int) : ∃ (LK LA : List Int) (ST R : Int) (TX : ByteArray) (ok g : Bool), (∀ w, IntRow .i64 1 w v n z → Calls Try.prog 23 #[.int .i64 N, .int .i64 W, v, .int .i64 k] w fun e w' => ∃ v', e = .returned (.tuple #[v', .bool ok]) ∧ w'.ownsRow w.heap.size 3 1 v' (LK).length ((LK).map (Value.int .i64)) ∧ Ext w w') ∧ (∀ w, IntRow .i64 1 w v n z → Calls Try.prog 22 #[.int .i64 N, .int .i64 W, v, .int .i64 k] w fun e w' => ∃ v', e = .returned (.tuple #[v', .bool ok]) ∧ w'.ownsRow w.heap.size 3 1 v' (LK).length ((LK).map (Value.int .i64)) ∧ Ext w w') ∧ (∀ w, IntRow .i64 1 w v n z → Calls Try.prog 19 #[.int .i64 N, .int .i64 W, v, .int .i64 k] w fun e w' => ∃ v', e = .returned (.tuple #[v', .bool ok]) ∧ w'.ownsRow w.heap.size 3 1 v' (LA).length ((LA).map (Value.int .i64)) ∧ Ext w w') ∧ (∀ w, IntRow .i64 1 w v n z → Calls Try.prog 18 #[.int .i64 N, .int .i64 W, v, .int .i64 k] w fun e w' => ∃ v', e = .returned (.tuple #[v', .bool ok]) ∧ w'.ownsRow w.heap.size 3 1 v' (LA).length ((LA).map (Value.int .i64)) ∧ Ext w w') ∧ (∀ w, IntRow .i64 1 w v n z → Calls Try.prog 12 #[.int .i64 N, .int .i64 W, v, .int .i64 k] w fun e w' => e = .returned (.tuple #[.int .i64 ST, .bool ok]) ∧ Ext w w') ∧ (∀ w, IntRow .i64 1 w v n z → Calls Try.prog 10 #[.int .i64 N, .int .i64 W, v, .int .i64 k] w fun e w' => e = .returned (.tuple #[.int .i64 ST, .bool ok]) ∧ Ext w w') ∧ (∀ w, IntRow .i64 1 w v n z → Calls Try.prog 17 #[.int .i64 N, .int .i64 W, v, .int .i64 k] w fun e w' => e = .returned (.tuple #[.string TX, .bool ok]) ∧ Ext w w') ∧ (∀ w, IntRow .i64 1 w v n z → Calls Try.prog 16 #[.int .i64 N, .int .i64 W, v, .int .i64 k] w fun e w' => e = .returned (.tuple #[.string TX, .bool ok]) ∧ Ext w w') ∧ (∀ w, IntRow .i64 1 w v n z → Calls Try.prog 33 #[.int .i64 N, .int .i64 W, v] w fun e w' => e = .returned (.tuple #[.int .i64 R, .bool g]) ∧ Ext w w') ∧ (∀ w, IntRow .i64 1 w v n z → Calls Try.prog 34 #[.int .i64 N, .int .i64 W, v] w fun e w' => e = .returned (.tuple #[.int .i64 R, .bool g]) ∧ Ext w w') ∧ (ok = true → g = true) ∧ ((∀ x ∈ LK, (Lit.int .i64 x).wf = true) ∧ LK.length ≤ 16777216) ∧ ((∀ x ∈ LA, (Lit.int .i64 x).wf = true) ∧ LA.length ≤ 16777216) ∧
    (g = true → ((1 ≤ R ∧ R ≤ 39) ∧ R ≤ (n : Int) + N ∧ (1 ≤ N ∧ N ≤ 9)) ∧ (∀ w, IntRow .i64 1 w v n z → Calls Try.prog 12 #[.int .i64 N, .int .i64 W, v, .int .i64 R] w fun e w' => e = .returned (.tuple #[.int .i64 2, .bool true]) ∧ Ext w w') ∧ ∃ S2 : Int, S2 ≠ 2 ∧ (∀ w, IntRow .i64 1 w v n z → Calls Try.prog 12 #[.int .i64 N, .int .i64 W, v, .int .i64 (R - 1)] w fun e w' => e = .returned (.tuple #[.int .i64 S2, .bool true]) ∧ Ext w w')) ∧
    (ok = true → ∃ (a b q A K : Nat), N = a ∧ W = b ∧ k = q ∧ ((1 ≤ a ∧ a ≤ 9) ∧ (1 ≤ b ∧ b ≤ 9) ∧ q ≤ 60) ∧ LA = bitsL A a ∧ LK = bitsL K a ∧ TX = ⟨(txL A K a).toArray⟩ ∧ (∀ j, K.testBit j = true → A.testBit j = true) ∧ (ST = 2 ↔ R ≤ k) ∧ (1 ≤ ST ↔ LA.length = a) ∧ (q = 60 → ST = 2) ∧
      (q < 60 → ∃ A2 : Nat, (∀ w, IntRow .i64 1 w v n z → Calls Try.prog 19 #[.int .i64 (a : Int), .int .i64 (b : Int), v, .int .i64 ((q + 1 : Nat) : Int)] w fun e w' => ∃ v', e = .returned (.tuple #[v', .bool true]) ∧ w'.ownsRow w.heap.size 3 1 v' (bitsL A2 a).length ((bitsL A2 a).map (Value.int .i64)) ∧ Ext w w') ∧ (∀ w, IntRow .i64 1 w v n z → Calls Try.prog 18 #[.int .i64 (a : Int), .int .i64 (b : Int), v, .int .i64 ((q + 1 : Nat) : Int)] w fun e w' => ∃ v', e = .returned (.tuple #[v', .bool true]) ∧ w'.ownsRow w.heap.size 3 1 v' (bitsL A2 a).length ((bitsL A2 a).map (Value.int .i64)) ∧ Ext w w') ∧ (bitsL A2 a).length ≤ LA.length + b ∧ ∀ j, A.testBit j = true → A2.testBit j = true)) := by
  refine ⟨knL N W z n k, arrL N W z n k, stV N W z n k, rnV N W z n, stT N W z n k, askB N W z n k, goodB N W z n, fun w h => iKnownAfter_any N W v n z k w h, fun w h => sKnownAfter_any N W v n z k w h, fun w h => iArrivedAfter_any N W v n z k w h, fun w h => sArrivedAfter_any N W v n z k w h, fun w h => iStandsAfter_any N W v n z k w h, fun w h => sStandsAfter_any N W v n z k w h, fun w h => iStatusText_any N W v n z k w h, fun w h => sStatusText_any N W v n z k w h, fun w h => iRoundsNeeded_any N W v n z w h, fun w h => sRoundsNeeded_any N W v n z w h, fun h => ?_, knL_facts N W z n k, arrL_facts N W z n k, fun h => ?_, fun h => ?_⟩
  · unfold askB at h
    rw [Bool.and_eq_true] at h
    exact h.1
  · obtain ⟨a, b, rfl, rfl, h1, h2, h3, h4, h5⟩ := goodB_nat2 h
    have hF := rounds_facts h1 h2 h3 h5 39 rfl
    have hI := fun j => full_iff (n := n) (z := z) h2 h3 h5 j 39 rfl
    have hR : rnV (a : Int) (b : Int) z n = ((akS a b (lfZ z n) 39).r : Int) := by unfold rnV zz; rw [if_pos h, Int.toNat_natCast, Int.toNat_natCast]
    obtain ⟨r, hr⟩ : ∃ r, r = (akS a b (lfZ z n) 39).r := ⟨_, rfl⟩
    rw [← hr] at hF hI hR
    rw [hR]
    clear hr
    refine ⟨⟨⟨by omega, by omega⟩, by omega, by omega, by omega⟩, fun w hw => ?_, stV (a : Int) (b : Int) z n ((r - 1 : Nat) : Int), ?_, fun w hw => ?_⟩
    · have := iStandsAfter_any (a : Int) (b : Int) v n z (r : Int) w hw
      rw [askB_mk h (by omega), stV_at (askB_mk h (by omega)), if_pos ((hI r).2 (Nat.le_refl _))] at this
      exact this
    · rw [stV_at (askB_mk h (by omega)), if_neg (fun e => by have := (hI (r - 1)).1 e; omega)]
      split <;> omega
    · have := iStandsAfter_any (a : Int) (b : Int) v n z ((r - 1 : Nat) : Int) w hw
      rw [askB_mk h (by omega)] at this
      rw [show (r : Int) - 1 = ((r - 1 : Nat) : Int) by omega]
      exact this
  · obtain ⟨a, b, q, rfl, rfl, rfl, h1, h2, h3, h4, h5, h6⟩ := askB_nat h
    have hg : goodB (a : Int) (b : Int) z n = true := by unfold askB at h; rw [Bool.and_eq_true] at h; exact h.1
    have hI := full_iff (n := n) (z := z) h2 h3 h6 q 39 rfl
    have hR : rnV (a : Int) (b : Int) z n = ((akS a b (lfZ z n) 39).r : Int) := by unfold rnV zz; rw [if_pos hg, Int.toNat_natCast, Int.toNat_natCast]
    have hF := rounds_facts h1 h2 h3 h6 39 rfl
    obtain ⟨r, hr⟩ : ∃ r, r = (akS a b (lfZ z n) 39).r := ⟨_, rfl⟩
    rw [← hr] at hI hR hF
    clear hr
    rw [hR, stV_at h]
    obtain ⟨_, b2, b3, _, _, _⟩ := akS_bd a b (lfZ z n) q
    have hall := fun e => akS_all (n := a) (w := b) (l := lfZ z n) (k := q) e
    have hfA := bitsL_full b2
    have hAL : arrL (a : Int) (b : Int) z n (q : Int) = bitsL (akS a b (lfZ z n) q).A a := by unfold arrL; rw [if_pos h, Int.toNat_natCast, Int.toNat_natCast, Int.toNat_natCast]
    refine ⟨a, b, q, (akS a b (lfZ z n) q).A, (akS a b (lfZ z n) q).K, rfl, rfl, rfl, ⟨⟨h1, h2⟩, ⟨h3, h4⟩, h5⟩, hAL, ?_, ?_, akS_sub a b (lfZ z n) q, ?_, ?_, ?_, fun hq => ?_⟩
    · unfold knL; rw [if_pos h, Int.toNat_natCast, Int.toNat_natCast, Int.toNat_natCast]
    · unfold stT; rw [if_pos h, Int.toNat_natCast, Int.toNat_natCast, Int.toNat_natCast]
    · by_cases c : (akS a b (lfZ z n) q).K = 2 ^ a - 1
      · rw [if_pos c]; have := hI.1 c; exact ⟨fun _ => by omega, fun _ => rfl⟩
      · rw [if_neg c]
        refine ⟨fun e => ?_, fun e => absurd (hI.2 (by omega)) c⟩
        split at e <;> omega
    · rw [hAL, hfA]
      by_cases c : (akS a b (lfZ z n) q).K = 2 ^ a - 1
      · rw [if_pos c]; exact ⟨fun _ => hall c, fun _ => by omega⟩
      · rw [if_neg c]
        by_cases d : (akS a b (lfZ z n) q).A = 2 ^ a - 1
        · rw [if_pos d]; exact ⟨fun _ => d, fun _ => by omega⟩
        · rw [if_neg d]; exact ⟨fun e => by omega, fun e => absurd e d⟩
    · intro e
      rw [if_pos (hI.2 (by omega))]
    · obtain ⟨l1, l2⟩ := akS_later a b (lfZ z n) q
      have ha2 := askB_mk (k := q + 1) hg (by omega)
      have hAL2 : arrL (a : Int) (b : Int) z n ((q + 1 : Nat) : Int) = bitsL (akS a b (lfZ z n) (q + 1)).A a := by unfold arrL; rw [if_pos ha2, Int.toNat_natCast, Int.toNat_natCast, Int.toNat_natCast]
      refine ⟨(akS a b (lfZ z n) (q + 1)).A, fun w hw => ?_, fun w hw => ?_, by rw [hAL]; exact l2, l1⟩
      · have := iArrivedAfter_any (a : Int) (b : Int) v n z ((q + 1 : Nat) : Int) w hw
        rw [ha2, hAL2] at this
        exact this
      · have := sArrivedAfter_any (a : Int) (b : Int) v n z ((q + 1 : Nat) : Int) w hw
        rw [ha2, hAL2] at this
        exact this
end Go.Proofs.Ytmmmiccpimplhaa
