/- All that the law of hand-overs asks of one question, by letters. No condition. -/
import Derived.Test.YtijeieacoaopcaaShoP
namespace Go.Proofs.Ytijeieacoaopcaa
open Go.RowKit
set_option linter.unusedSimpArgs false
set_option linter.unusedVariables false

theorem soL_div {z : List Int} {n : Nat} (hz : z.length = n * 3) : (soL z n).length = (soL z n).length / 3 * 3 := by
  unfold soL
  split
  · rw [srtZ_length]; omega
  · rfl
theorem exAll (v : Value) (n : Nat) (z : List Int) (i k : Int) (hz : z.length = n * 3) (hw : ∀ x ∈ z, (Lit.int .i64 x).wf = true) : ∃ (XL : List Int) (nX : Nat) (ok : Bool), (∀ w, IntRow .i64 3 w v n z → Calls Try.prog 8 #[v, .int .i64 i, .int .i64 k] w fun e w' => ∃ v', e = .returned (.tuple #[v', .bool ok]) ∧ w'.ownsRow w.heap.size 42 3 v' nX (XL.map (Value.int .i64)) ∧ Ext w w') ∧ (∀ w, IntRow .i64 3 w v n z → Calls Try.prog 9 #[v, .int .i64 i, .int .i64 k] w fun e w' => ∃ v', e = .returned (.tuple #[v', .bool ok]) ∧ w'.ownsRow w.heap.size 42 3 v' nX (XL.map (Value.int .i64)) ∧ Ext w w') ∧ (∀ x ∈ XL, (Lit.int .i64 x).wf = true) ∧ nX ≤ 61 ∧ (ok = true → nX = n ∧ (∀ w v', IntRow .i64 3 w v' nX XL → Calls Try.prog 15 #[v'] w fun e w' => e = .returned (.bool true) ∧ Ext w w')) := by
  obtain ⟨h1, h2⟩ := exL_inv i k hz hw
  refine ⟨exL z n i k, (exL z n i k).length / 3, exO z n i k, fun w h => iExchangeShifts_any v n z i k w h, fun w h => sExchangeShifts_any v n z i k w h, h1, by omega, fun h => ?_⟩
  have h0 := h
  unfold exO at h
  rw [Bool.and_eq_true] at h
  obtain ⟨c1, c2⟩ := h
  have e1 : exL z n i k = srtZ (exZ z i.toNat k.toNat) n := by unfold exL soL; rw [if_pos c1, if_pos c2]
  have e2 : (exL z n i k).length / 3 = n := by rw [e1, srtZ_length]; omega
  refine ⟨e2, fun w v' hr => ?_⟩
  have := iAreShifts_any v' _ _ w hr
  unfold soO at c2
  rw [e2, e1, c2] at this
  exact this
theorem hoAll (v : Value) (n : Nat) (z : List Int) (i t p : Int) (hz : z.length = n * 3) (hw : ∀ x ∈ z, (Lit.int .i64 x).wf = true) : ∃ (HL : List Int) (nH : Nat) (ok : Bool), (∀ w, IntRow .i64 3 w v n z → Calls Try.prog 11 #[v, .int .i64 i, .int .i64 t, .int .i64 p] w fun e w' => ∃ v', e = .returned (.tuple #[v', .bool ok]) ∧ w'.ownsRow w.heap.size 42 3 v' nH (HL.map (Value.int .i64)) ∧ Ext w w') ∧ (∀ w, IntRow .i64 3 w v n z → Calls Try.prog 12 #[v, .int .i64 i, .int .i64 t, .int .i64 p] w fun e w' => ∃ v', e = .returned (.tuple #[v', .bool ok]) ∧ w'.ownsRow w.heap.size 42 3 v' nH (HL.map (Value.int .i64)) ∧ Ext w w') ∧ (∀ x ∈ HL, (Lit.int .i64 x).wf = true) ∧ nH ≤ 61 ∧ (ok = true → nH = n + 1 ∧ (0 ≤ i ∧ i < n ∧ n ≤ 60) ∧ (∀ w v', IntRow .i64 3 w v' nH HL → Calls Try.prog 15 #[v'] w fun e w' => e = .returned (.bool true) ∧ Ext w w') ∧
    ∃ (D1 N1 D2 N2 : Int), (∀ w, IntRow .i64 3 w v n z → Calls Try.prog 16 #[v, .int .i64 p] w fun e w' => e = .returned (.tuple #[.int .i64 D1, .int .i64 N1, .bool true]) ∧ Ext w w') ∧ (∀ w, IntRow .i64 3 w v n z → Calls Try.prog 17 #[v, .int .i64 p] w fun e w' => e = .returned (.tuple #[.int .i64 D1, .int .i64 N1, .bool true]) ∧ Ext w w') ∧ (∀ w v', IntRow .i64 3 w v' nH HL → Calls Try.prog 16 #[v', .int .i64 p] w fun e w' => e = .returned (.tuple #[.int .i64 D2, .int .i64 N2, .bool true]) ∧ Ext w w') ∧ (∀ w v', IntRow .i64 3 w v' nH HL → Calls Try.prog 17 #[v', .int .i64 p] w fun e w' => e = .returned (.tuple #[.int .i64 D2, .int .i64 N2, .bool true]) ∧ Ext w w') ∧ (0 ≤ D1 ∧ D1 ≤ 20000 ∧ 0 ≤ D2 ∧ D2 ≤ 20000) ∧ (0 ≤ t ∧ t ≤ 168 ∧ 0 ≤ shTo z i.toNat ∧ shTo z i.toNat ≤ 168) ∧ (shOp z i.toNat ≠ p → D2 - D1 = shTo z i.toNat - t) ∧ (shOp z i.toNat = p → D2 = D1)) := by
  obtain ⟨h1, h2⟩ := hvL_inv i t p hz hw
  refine ⟨hvL z n i t p, (hvL z n i t p).length / 3, hvO z n i t p, fun w h => iHandOver_any v n z i t p w h, fun w h => sHandOver_any v n z i t p w h, h1, by omega, fun h => ?_⟩
  have h0 := h
  unfold hvO at h
  rw [Bool.and_eq_true] at h
  obtain ⟨c1, c2⟩ := h
  have e1 : hvL z n i t p = srtZ (hoZ z i.toNat t p) (n + 1) := by unfold hvL soL; rw [if_pos c1, if_pos c2]
  have e2 : (hvL z n i t p).length / 3 = n + 1 := by rw [e1, srtZ_length]; omega
  obtain ⟨f1, f2, f3, f4, f5⟩ := hvC_iff c1
  have ok2 : okSs (srtZ (hoZ z i.toNat t p) (n + 1)) (n + 1) = true := c2
  have hp : inR p 1 30 = true := by rw [inR_iff]; exact f5
  have d1 : dC z n p = true := by unfold dC; rw [f1, hp]; rfl
  have d2 : dC (srtZ (hoZ z i.toNat t p) (n + 1)) (n + 1) p = true := by unfold dC; rw [ok2, hp]; rfl
  have b1 := duty_bd f1 p n (Nat.le_refl _)
  have b2 := duty_bd ok2 p (n + 1) (Nat.le_refl _)
  have b3 := okSs_at f1 i.toNat (by omega)
  have hd := duty_hand (z := z) (n := n) (i := i.toNat) (h := t) (p := p) hz (by omega)
  rw [e2]
  refine ⟨rfl, ⟨f3.1, f3.2, f2⟩, fun w v' hr => ?_, dutyH z p n, dutyN z p n, dutyH (srtZ (hoZ z i.toNat t p) (n + 1)) p (n + 1), dutyN (srtZ (hoZ z i.toNat t p) (n + 1)) p (n + 1), fun w hr => ?_, fun w hr => ?_, fun w v' hr => ?_, fun w v' hr => ?_, ⟨b1.1, by omega, b2.1, by omega⟩, ⟨f4.1, f4.2, b3.2.2.1, b3.2.2.2⟩, fun e => ?_, fun e => ?_⟩
  · have := iAreShifts_any v' _ _ w hr
    rw [e1, ok2] at this
    exact this
  · have := iDutyHours_any v n z p w hr
    unfold dHV dNV at this
    rw [if_pos d1, if_pos d1, d1] at this
    exact this
  · have := sDutyHours_any v n z p w hr
    unfold dHV dNV at this
    rw [if_pos d1, if_pos d1, d1] at this
    exact this
  · rw [e1] at hr
    have := iDutyHours_any v' _ _ p w hr
    unfold dHV dNV at this
    rw [if_pos d2, if_pos d2, d2] at this
    exact this
  · rw [e1] at hr
    have := sDutyHours_any v' _ _ p w hr
    unfold dHV dNV at this
    rw [if_pos d2, if_pos d2, d2] at this
    exact this
  · rw [hd, if_neg e]; omega
  · rw [hd, if_pos e]
theorem asAll (v : Value) (n : Nat) (z : List Int) (r : Int) : ∃ (AL : List Int) (nA : Nat) (ok : Bool), (∀ w, IntRow .i64 3 w v n z → Calls Try.prog 5 #[v, .int .i64 r] w fun e w' => ∃ v', e = .returned (.tuple #[v', .bool ok]) ∧ w'.ownsRow w.heap.size 3 1 v' nA (AL.map (Value.int .i64)) ∧ Ext w w') ∧ (∀ w, IntRow .i64 3 w v n z → Calls Try.prog 6 #[v, .int .i64 r] w fun e w' => ∃ v', e = .returned (.tuple #[v', .bool ok]) ∧ w'.ownsRow w.heap.size 3 1 v' nA (AL.map (Value.int .i64)) ∧ Ext w w') ∧ (∀ x ∈ AL, (Lit.int .i64 x).wf = true) ∧ nA ≤ 60 ∧ (ok = true → nA = n ∧ n ≤ 60 ∧ (0 ≤ r ∧ r ≤ 168) ∧ (∀ i, i < n → 0 ≤ shFr z i ∧ shFr z i ≤ 168 ∧ 0 ≤ shTo z i ∧ shTo z i ≤ 168) ∧
    ∀ i, i < n → (1 ≤ AL.getD i 0 ∧ AL.getD i 0 ≤ n) ∧ AL.getD i 0 ≤ (busyN z r (shFr z i) (i + 1) : Nat) ∧ ∀ k, k < i → AL.getD k 0 = AL.getD i 0 → ¬ shFr z i < shTo z k + r) := by
  obtain ⟨h1, h2⟩ := asV_inv z n r
  refine ⟨asV z n r, (asV z n r).length, asC z n r, fun w h => ?_, fun w h => ?_, h1, h2, fun h => ?_⟩
  · have := iAssignOperators_any v n z r w h
    rwa [Nat.div_one] at this
  · have := sAssignOperators_any v n z r w h
    rwa [Nat.div_one] at this
  · have e1 : asV z n r = asO z r n := by unfold asV; rw [if_pos h]
    unfold asC at h
    rw [Bool.and_eq_true, inR_iff] at h
    obtain ⟨c1, c2⟩ := h
    rw [e1]
    exact ⟨asO_length z r n, okSs_60 c1, c2, fun i hi => by have := okSs_at c1 i hi; omega, fun i hi => as_law c1 r c2.1 i hi⟩
end Go.Proofs.Ytijeieacoaopcaa