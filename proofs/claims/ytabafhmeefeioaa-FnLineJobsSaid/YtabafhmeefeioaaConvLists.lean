/- Slices of slices of ints compared, marked, held: what the helpers of the statements return. No condition. -/
import Derived.Test.YtabafhmeefeioaaLists
import Derived.Test.YtabafhmeefeioaaConvInt
namespace Go.Proofs.Ytabafhmeefeioaa
open Go.RowKit
set_option linter.unusedSimpArgs false
set_option linter.unusedVariables false

set_option maxRecDepth 100000 in
set_option maxHeartbeats 1000000 in
theorem eqIntSS_same (v v' : Value) (base base' m : Nat) (gs gs' : List Nat) (Z : List (List Int)) (w : World) (h : Lists w base v m gs Z) (h' : Lists w base' v' m gs' Z) (hZ : Z.length ≤ 1000) (hw : ∀ x ∈ Z, ∀ y ∈ x, (Lit.int .i64 y).wf = true) (hm : m ≤ 1000) :
    Calls Try.prog 43 #[v, v'] w fun e w' => e = .returned (.bool true) ∧ Ext w w' := by
  have hl := h.len
  have hl' := h'.len
  have HW := hid hw
  clear hw
  obtain ⟨a, c, rfl, hnc, hcm, hg⟩ := h.shape
  obtain ⟨a', c', rfl, hnc', hcm', hg'⟩ := h'.shape
  have HH := hid h
  have HH' := hid h'
  clear h h'
  obtain ⟨n, hn⟩ : ∃ n, n = Z.length := ⟨_, rfl⟩
  obtain rfl : gs.length = n := by omega
  have e' : gs'.length = gs.length := by omega
  rw [e'] at hnc' hg' ⊢
  have HN := hid hn
  have HL := hid hl
  have HL' := hid e'
  have hn1 : gs.length ≤ 1000 := by omega
  clear hn hl hl' e'
  go_enter Try.func43, Try.ntmps43
  go_wp2_with (fail)
  go_loopw [5] (fun i wr => ∃ (k : Nat), k ≤ gs.length ∧ i = .int .i64 (k : Int) ∧ Ext w wr)
    (fun i _ => gs.length - (intOf i).toNat)
  case atStart => exact ⟨0, Nat.zero_le _, rfl, Ext.refl _⟩
  case round =>
    obtain ⟨k, hk, rfl, hE⟩ := hrel
    by_cases hlt : k < gs.length
    · obtain ⟨G, rfl, _, _⟩ := hg.resolve_left (by omega)
      obtain ⟨G', rfl, _, _⟩ := hg'.resolve_left (by omega)
      have h1 := HH.out.ext hE
      have h2 := HH'.out.ext hE
      have hlt' : k < gs'.length := by rw [HL'.out]; exact hlt
      have s0 := h1.at_ hlt rfl
      have s1 := h2.at_ hlt' (by rw [HL'.out])
      have r0 : IntRow .i64 1 wr (.slice (some ⟨gs.getD k 0, 0, none⟩) m m) m (Z.getD k []) := row_ints (h1.inner hlt) (by unfold maxLen; omega) (fun y hy => HW.out _ (by
        rw [List.getD_eq_getElem?_getD, List.getElem?_eq_getElem (by have := HL.out; omega)]; exact List.getElem_mem _) y hy)
      have r1 : IntRow .i64 1 wr (.slice (some ⟨gs'.getD k 0, 0, none⟩) m m) m (Z.getD k []) := row_ints (h2.inner hlt') (by unfold maxLen; omega) r0.2.2.1
      have R0 := hid r0
      have R1 := hid r1
      clear h1 h2 r0 r1 hg hg'
      obtain ⟨x, hx⟩ : ∃ x, x = gs.getD k 0 := ⟨_, rfl⟩
      obtain ⟨x', hx'⟩ : ∃ x, x = gs'.getD k 0 := ⟨_, rfl⟩
      rw [← hx] at s0 R0
      rw [← hx'] at s1 R1
      clear hx hx'
      have i0 : (0 : Int) ≤ (k : Int) := by omega
      have i1 : (k : Int) < gs.length := by omega
      go_wp2_with (fail)
      go_still_tail 8, (by kernel_rfl)
      change wpList _ _ _ _ _ wr.drew
      go_wp2_with (fail)
      refine (eqIntS_same _ _ m (Z.getD k []) _ (R0.out.ext (by repeat (first | exact Ext.refl _ | assumption | refine Ext.alloc ?_ _ | refine Ext.drew ?_ | refine Ext.drewN ?_ _ | refine Ext.setCell ?_ (by first | exact Nat.le_refl _ | (simp; done) | (dsimp only; omega) | (simp only [World.size_alloc, World.size_setCell]; omega)) _ | refine Ext.trans ?_ (by assumption)))) (R1.out.ext (by repeat (first | exact Ext.refl _ | assumption | refine Ext.alloc ?_ _ | refine Ext.drew ?_ | refine Ext.drewN ?_ _ | refine Ext.setCell ?_ (by first | exact Nat.le_refl _ | (simp; done) | (dsimp only; omega) | (simp only [World.size_alloc, World.size_setCell]; omega)) _ | refine Ext.trans ?_ (by assumption))))).mono ?_
      rintro e w1 ⟨rfl, hb1⟩
      go_wp2_with (fail)
      go_roundw
      case rel => exact ⟨k + 1, by omega, by go_num, (by repeat (first | exact Ext.refl _ | assumption | refine Ext.alloc ?_ _ | refine Ext.drew ?_ | refine Ext.drewN ?_ _ | refine Ext.setCell ?_ (by first | exact Nat.le_refl _ | (simp; done) | (dsimp only; omega) | (simp only [World.size_alloc, World.size_setCell]; omega)) _ | refine Ext.trans ?_ (by assumption)))⟩
      case measure => simp [intOf]; omega
    · obtain rfl : k = gs.length := by omega
      clear hg hg'
      go_wp2_with (fail)
      go_ret
      exact ⟨rfl, hE⟩

set_option maxRecDepth 100000 in
set_option maxHeartbeats 1000000 in
theorem markIntSS_any (v : Value) (m : Nat) (gs : List Nat) (Z : List (List Int)) (base : Nat) (w : World) (k0 : Int) (h : Lists w base v m gs Z) (hZ : Z.length ≤ 1000) (hm : m ≤ 1000) (h0 : 0 ≤ k0) (h1 : k0 ≤ 1000) :
    Calls Try.prog 44 #[v, .int .i64 k0] w fun e w' => e = .returned (.int .i64 (k0 + (m : Int) * (Z.length : Int))) ∧ Lists w' base v m gs (marks2 k0 m Z.length) ∧ Below base w w' := by
  have hl := h.len
  obtain ⟨a, c, rfl, hnc, hcm, hg⟩ := h.shape
  have hbs : ∀ i, i < gs.length → base ≤ gs.getD i 0 := fun i hi => (h.inlt i hi).1
  have hH := h
  clear h
  have HL := hid hl
  have hn1 : gs.length ≤ 1000 := by omega
  rw [← hl]
  clear hl hZ
  go_enter Try.func44, Try.ntmps44
  go_wp2_with (fail)
  go_loopw [1, 5] (fun q i wr => ∃ (k : Nat) (Y : List (List Int)), k ≤ gs.length ∧ i = .int .i64 (k : Int) ∧ q = .int .i64 (k0 + (m : Int) * (k : Int)) ∧ Lists wr base (.slice a gs.length c) m gs Y ∧ (∀ j, j < k → Y.getD j [] = marks (k0 + (m : Int) * (j : Int)) m) ∧ Below base w wr)
    (fun _ i _ => gs.length - (intOf i).toNat)
  case atStart => exact ⟨0, Z, Nat.zero_le _, rfl, by simp, hH, fun j hj => absurd hj (by omega), Below.refl _ _⟩
  case round =>
    clear hH
    obtain ⟨k, Y, hk, rfl, rfl, hY, hpre, hB⟩ := hrel
    have HP := hid hpre
    clear hpre
    by_cases hlt : k < gs.length
    · obtain ⟨G, rfl, _, _⟩ := hg.resolve_left (by omega)
      have s0 := hY.at_ hlt rfl
      have hin := hY.inner hlt
      have hmk : (m : Int) * (k : Int) ≤ 1000 * 1000 := by
        have := Int.mul_le_mul (show (m : Int) ≤ 1000 by omega) (show (k : Int) ≤ 1000 by omega) (by omega) (by omega)
        omega
      have hmk0 : 0 ≤ (m : Int) * (k : Int) := Int.mul_nonneg (by omega) (by omega)
      obtain ⟨q, hq⟩ : ∃ q, q = k0 + (m : Int) * (k : Int) := ⟨_, rfl⟩
      rw [← hq]
      have q1 : 0 ≤ q := by omega
      have q2 : q ≤ 1001000 := by omega
      have HQ := hid hq
      clear hq hmk hmk0
      obtain ⟨x, hx⟩ : ∃ x, x = gs.getD k 0 := ⟨_, rfl⟩
      rw [← hx] at s0 hin
      have HX := hid hx
      have HIN := hid hin
      have HY := hid hY
      clear hx hg hin hY
      go_wp2_with (fail)
      refine (markIntS_any _ m _ base _ q HIN.out (by omega) q1 (by omega)).mono ?_
      rintro e w1 ⟨rfl, hr1, hg1⟩
      go_wp2_with (fail)
      go_roundw
      case rel =>
        refine ⟨k + 1, Y.set k (marks q m), by omega, by go_num, ?_, ?_, fun j hj => ?_, ?_⟩
        · rw [HQ.out]
          congr 1
          push_cast
          rw [Int.mul_add]
          omega
        · refine HY.out.upd hlt ?_ ?_
          · rw [← HX.out]; exact hg1
          · rw [← HX.out]
            rw [Nat.mul_one] at hr1
            exact hr1
        · by_cases e : j = k
          · subst e
            rw [getD_set_same (by have := HY.out.len; omega), HQ.out]
          · rw [getD_set_other (by omega)]
            exact HP.out j (by omega)
        · refine Below.grown hB hg1 ?_ ?_
          · have h1 := (HY.out.inlt k hlt).1
            have h2 := (HY.out.inlt k hlt).2
            omega
          · intro b hb
            have h1 := (HY.out.inlt k hlt).1
            rw [← HX.out] at h1
            simp [Value.ownBlock] at hb
            omega
      case measure => simp [intOf]; omega
    · obtain rfl : k = gs.length := by omega
      clear hg
      go_wp2_with (fail)
      go_ret
      refine ⟨rfl, ?_, hB⟩
      have e : Y = marks2 k0 m gs.length := lists_full (by rw [marks2_length, hY.len]) fun j hj => by
        rw [marks2_length] at hj
        rw [HP.out j hj, marks2_getD hj]
      rw [← e]
      exact hY

set_option maxRecDepth 100000 in
set_option maxHeartbeats 1000000 in
theorem heldIntSS_same (v : Value) (m n : Nat) (gs : List Nat) (base : Nat) (w : World) (k0 : Int) (h : Lists w base v m gs (marks2 k0 m n)) (hn : n ≤ 1000) (hm : m ≤ 1000) (h0 : 0 ≤ k0) (h1 : k0 ≤ 1000) :
    Calls Try.prog 45 #[v, .int .i64 k0] w fun e w' => e = .returned (.int .i64 (k0 + (m : Int) * (n : Int))) ∧ Ext w w' := by
  have hl := h.len
  rw [marks2_length] at hl
  subst hl
  obtain ⟨a, c, rfl, hnc, hcm, hg⟩ := h.shape
  have HH := hid h
  clear h
  go_enter Try.func45, Try.ntmps45
  go_wp2_with (fail)
  go_loopw [1, 5] (fun q i wr => ∃ (k : Nat), k ≤ gs.length ∧ i = .int .i64 (k : Int) ∧ q = .int .i64 (k0 + (m : Int) * (k : Int)) ∧ Ext w wr)
    (fun _ i _ => gs.length - (intOf i).toNat)
  case atStart => exact ⟨0, Nat.zero_le _, rfl, by simp, Ext.refl _⟩
  case round =>
    obtain ⟨k, hk, rfl, rfl, hE⟩ := hrel
    by_cases hlt : k < gs.length
    · obtain ⟨G, rfl, _, _⟩ := hg.resolve_left (by omega)
      have hY := HH.out.ext hE
      have s0 := hY.at_ hlt rfl
      have hin := hY.inner hlt
      rw [marks2_getD hlt] at hin
      have hmk : (m : Int) * (k : Int) ≤ 1000 * 1000 := by
        have := Int.mul_le_mul (show (m : Int) ≤ 1000 by omega) (show (k : Int) ≤ 1000 by omega) (by omega) (by omega)
        omega
      have hmk0 : 0 ≤ (m : Int) * (k : Int) := Int.mul_nonneg (by omega) (by omega)
      obtain ⟨q, hq⟩ : ∃ q, q = k0 + (m : Int) * (k : Int) := ⟨_, rfl⟩
      rw [← hq] at hin ⊢
      have q1 : 0 ≤ q := by omega
      have q2 : q ≤ 1001000 := by omega
      have hir := row_ints hin (by unfold maxLen; omega) (marks_wf (by omega) (by omega))
      have HQ := hid hq
      clear hq hmk hmk0
      obtain ⟨x, hx⟩ : ∃ x, x = gs.getD k 0 := ⟨_, rfl⟩
      rw [← hx] at s0 hir
      have HIR := hid hir
      clear hx hg hin hY hir
      go_wp2_with (fail)
      refine (heldIntS_same _ m _ q (by rw [Nat.mul_one]; exact HIR.out) (by omega) q1 (by omega)).mono ?_
      rintro e w1 ⟨rfl, hb1⟩
      go_wp2_with (fail)
      go_roundw
      case rel =>
        refine ⟨k + 1, by omega, by go_num, ?_, hE.trans hb1⟩
        rw [HQ.out]
        congr 1
        push_cast
        rw [Int.mul_add]
        omega
      case measure => simp [intOf]; omega
    · obtain rfl : k = gs.length := by omega
      clear hg
      go_wp2_with (fail)
      go_ret
      exact ⟨rfl, hE⟩
end Go.Proofs.Ytabafhmeefeioaa
