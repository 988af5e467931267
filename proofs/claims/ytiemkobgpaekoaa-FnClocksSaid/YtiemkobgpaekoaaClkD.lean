/- The clock chapter: the seconds to a width, of the program and of the reference. No condition. -/
import Derived.Test.YtiemkobgpaekoaaClkC
namespace Go.Proofs.Ytiemkobgpaekoaa
open Go.RowKit
set_option linter.unusedSimpArgs false
set_option linter.unusedVariables false

/-- the greatest number of seconds -/
def secs (lo hi drift width : Int) : Int := if drift = 0 then 100000 else min 100000 ((width - hi + lo) / (2 * drift) * 1000)

/-- the greatest step that fits, among the first k -/
def bestAt (d drift width : Int) : Nat → Int
  | 0 => 0
  | k + 1 => if d + 2 * ageI drift (1000 * (k : Int)) ≤ width then 1000 * (k : Int) else bestAt d drift width k

set_option maxHeartbeats 800000 in
theorem sSec_main (lo hi drift width : Int) (w : World) (h1 : -100000 ≤ lo) (h2 : lo ≤ hi) (h3 : hi ≤ 100000) (k1 : 0 ≤ drift) (k2 : drift ≤ 100) (q1 : 0 ≤ width) (q2 : width ≤ 200000) (hw : hi - lo ≤ width) :
    Calls Try.prog 28 #[.agg #[.int .i64 lo, .int .i64 hi], .int .i64 drift, .int .i64 width] w fun e w' => e = .returned (.tuple #[.int .i64 (bestAt (hi - lo) drift width 101), .bool true]) ∧ Ext w w' := by
  have b1 : bnd lo hi = true := bnd_iff.2 ⟨h1, h2, h3⟩
  have b2 : inR drift 0 100 = true := inR_iff.2 ⟨k1, k2⟩
  have b3 : inR width 0 200000 = true := inR_iff.2 ⟨q1, q2⟩
  have b4 : decide (width < hi - lo) = false := by simp; omega
  go_enter Try.func28, Try.ntmps28
  go_wp2_with (first | (go_at_call 52; refine (clBound_any _ _ _).mono ?_; rintro e w' ⟨rfl, hb⟩; have hz := Ext.size hb; (try simp only [World.size_alloc] at hz); obtain ⟨hc, hf⟩ := Ext.cells hb; (try have hy0 : w.heap.size < w'.heap.size := by omega); (try have hy1 : w.heap.size + 1 < w'.heap.size := by omega); (try have hy2 : w.heap.size + 1 + 1 < w'.heap.size := by omega); (try have hy3 : w.heap.size + 1 + 1 + 1 < w'.heap.size := by omega); (try have hk0 := fun o => hc (w.heap.size) o (by (try simp only [World.size_alloc]); omega)); (try have hj0 := fun o => hf (w.heap.size) o (by (try simp only [World.size_alloc]); omega)); (try have hk1 := fun o => hc (w.heap.size + 1) o (by (try simp only [World.size_alloc]); omega)); (try have hj1 := fun o => hf (w.heap.size + 1) o (by (try simp only [World.size_alloc]); omega)); (try have hk2 := fun o => hc (w.heap.size + 1 + 1) o (by (try simp only [World.size_alloc]); omega)); (try have hj2 := fun o => hf (w.heap.size + 1 + 1) o (by (try simp only [World.size_alloc]); omega)); (try have hk3 := fun o => hc (w.heap.size + 1 + 1 + 1) o (by (try simp only [World.size_alloc]); omega)); (try have hj3 := fun o => hf (w.heap.size + 1 + 1 + 1) o (by (try simp only [World.size_alloc]); omega)); clear hc hf) | (go_at_call 55; go_in) | (go_at_call 56; refine (l1In_any _ _ _ _).mono ?_; rintro e w' ⟨rfl, rfl⟩))
  clear b1 b2 b3 b4
  go_loopw [8, 9] (fun best seconds wr => ∃ k : Nat, k ≤ 101 ∧ seconds = .int .i64 (1000 * (k : Int)) ∧ best = .int .i64 (bestAt (hi - lo) drift width k) ∧ wr.cell? ⟨w.heap.size, 0, none⟩ = some (.int .i64 lo) ∧ wr.cell? ⟨w.heap.size, 1, none⟩ = some (.int .i64 hi) ∧ Ext w wr)
    (fun _ seconds _ => (101000 - (intOf seconds).toNat))
  case atStart => exact ⟨0, by omega, rfl, rfl, by rw [hk0]; simp [go_sem], by rw [hk0]; simp [go_sem], (by repeat (first | exact Ext.refl _ | assumption | refine Ext.alloc ?_ _ | refine Ext.drew ?_ | refine Ext.drewN ?_ _ | refine Ext.setCell ?_ (by first | exact Nat.le_refl _ | (simp; done) | (dsimp only; omega) | (simp only [World.size_alloc, World.size_setCell]; omega)) _ | refine Ext.trans ?_ (by assumption)))⟩
  case round =>
    obtain ⟨k, hk, rfl, rfl, hc0, hc1, hE⟩ := hrel
    by_cases hlt : k ≤ 100
    · have hag := ageI_bd (drift := drift) (seconds := 1000 * (k : Int)) k1 k2 (by omega) (by omega)
      obtain ⟨hg1, hg2⟩ := hag
      go_wp2_with (fail)
      go_quiet ((go_at_call 57; exact quiet_same (clAge_any _ _ _ (by omega) (by omega) (by omega) (by omega))))
      go_wp2
      all_goals
        go_roundw
        case rel =>
          refine ⟨k + 1, by omega, by go_num, ?_, by first | exact hc0 | simpa using hc0, by first | exact hc1 | simpa using hc1, (by repeat (first | exact Ext.refl _ | assumption | refine Ext.alloc ?_ _ | refine Ext.drew ?_ | refine Ext.drewN ?_ _ | refine Ext.setCell ?_ (by first | exact Nat.le_refl _ | (simp; done) | (dsimp only; omega) | (simp only [World.size_alloc, World.size_setCell]; omega)) _ | refine Ext.trans ?_ (by assumption)))⟩
          rw [bestAt]
          first | rw [if_pos (by omega)] | rw [if_neg (by omega)]
        case measure => simp [intOf]; omega
    · obtain rfl : k = 101 := by omega
      go_wp2
      go_ret2
      exact ⟨rfl, (by repeat (first | exact Ext.refl _ | assumption | refine Ext.alloc ?_ _ | refine Ext.drew ?_ | refine Ext.drewN ?_ _ | refine Ext.setCell ?_ (by first | exact Nat.le_refl _ | (simp; done) | (dsimp only; omega) | (simp only [World.size_alloc, World.size_setCell]; omega)) _ | refine Ext.trans ?_ (by assumption)))⟩

theorem bestAt_some (d drift width : Int) (h0 : d ≤ width) : ∀ k : Nat, ∃ b : Nat, bestAt d drift width k = 1000 * (b : Int) ∧ (b < k ∨ b = 0) ∧ d + 2 * (drift * b) ≤ width ∧ ∀ j : Nat, j < k → d + 2 * (drift * j) ≤ width → j ≤ b := by
  intro k
  induction k with
  | zero => exact ⟨0, rfl, .inr rfl, by simpa using h0, fun j hj => absurd hj (by omega)⟩
  | succ k ih =>
    have e : ageI drift (1000 * (k : Int)) = drift * (k : Int) := by
      unfold ageI
      rw [show (1000 * (k : Int) + 999) / 1000 = (k : Int) by omega]
    by_cases hc : d + 2 * (drift * (k : Int)) ≤ width
    · refine ⟨k, ?_, .inl (by omega), hc, fun j hj _ => by omega⟩
      rw [bestAt, e, if_pos hc]
    · obtain ⟨b, h1, h2, h3, h4⟩ := ih
      refine ⟨b, ?_, by omega, h3, fun j hj hcj => ?_⟩
      · rw [bestAt, e, if_neg hc, h1]
      · by_cases hjk : j = k
        · subst hjk
          exact absurd hcj hc
        · exact h4 j (by omega) hcj

theorem bestAt_secs (lo hi drift width : Int) (h : hi - lo ≤ width) (k1 : 0 ≤ drift) : bestAt (hi - lo) drift width 101 = secs lo hi drift width := by
  obtain ⟨b, h1, h2, h3, h4⟩ := bestAt_some (hi - lo) drift width h 101
  rw [h1]
  unfold secs
  by_cases hd : drift = 0
  · subst hd
    have := h4 100 (by omega) (by omega)
    rw [if_pos rfl]
    omega
  · rw [if_neg hd]
    have hp : 0 < 2 * drift := by omega
    have hq : (b : Int) ≤ (width - hi + lo) / (2 * drift) := by
      rw [Int.le_ediv_iff_mul_le hp]
      have : (b : Int) * (2 * drift) = 2 * (drift * b) := by rw [Int.mul_comm (b : Int), Int.mul_assoc]
      omega
    by_cases hb : b = 100
    · subst hb
      rw [Int.min_eq_left (by omega)]
      rfl
    · have hq2 : (width - hi + lo) / (2 * drift) < (b : Int) + 1 := by
        rw [← Int.not_le, Int.le_ediv_iff_mul_le hp]
        intro hc
        have := h4 (b + 1) (by omega) (by
          have e2 : ((b : Int) + 1) * (2 * drift) = 2 * (drift * ((b + 1 : Nat) : Int)) := by
            rw [Int.mul_comm ((b : Int) + 1), Int.mul_assoc]
            rfl
          omega)
        omega
      rw [show (width - hi + lo) / (2 * drift) = (b : Int) by omega, Int.min_eq_right (by omega)]
      omega

set_option maxHeartbeats 800000 in
theorem iSec_main (lo hi drift width : Int) (w : World) (h1 : -100000 ≤ lo) (h2 : lo ≤ hi) (h3 : hi ≤ 100000) (k1 : 0 ≤ drift) (k2 : drift ≤ 100) (q1 : 0 ≤ width) (q2 : width ≤ 200000) (hw : hi - lo ≤ width) :
    Calls Try.prog 29 #[.agg #[.int .i64 lo, .int .i64 hi], .int .i64 drift, .int .i64 width] w fun e w' => e = .returned (.tuple #[.int .i64 (secs lo hi drift width), .bool true]) ∧ Ext w w' := by
  have b1 : bnd lo hi = true := bnd_iff.2 ⟨h1, h2, h3⟩
  have b2 : inR drift 0 100 = true := inR_iff.2 ⟨k1, k2⟩
  have b3 : inR width 0 200000 = true := inR_iff.2 ⟨q1, q2⟩
  have b4 : decide (width < hi - lo) = false := by simp; omega
  by_cases hd : drift = 0
  · subst hd
    go_enter Try.func29, Try.ntmps29
    go_wp2_with (first | (go_at_call 18; refine (iIsBound_any _ _ _).mono ?_; rintro e w' ⟨rfl, hb⟩; have hz := Ext.size hb; (try simp only [World.size_alloc] at hz); obtain ⟨hc, hf⟩ := Ext.cells hb; (try have hy0 : w.heap.size < w'.heap.size := by omega); (try have hy1 : w.heap.size + 1 < w'.heap.size := by omega); (try have hy2 : w.heap.size + 1 + 1 < w'.heap.size := by omega); (try have hy3 : w.heap.size + 1 + 1 + 1 < w'.heap.size := by omega); (try have hk0 := fun o => hc (w.heap.size) o (by (try simp only [World.size_alloc]); omega)); (try have hj0 := fun o => hf (w.heap.size) o (by (try simp only [World.size_alloc]); omega)); (try have hk1 := fun o => hc (w.heap.size + 1) o (by (try simp only [World.size_alloc]); omega)); (try have hj1 := fun o => hf (w.heap.size + 1) o (by (try simp only [World.size_alloc]); omega)); (try have hk2 := fun o => hc (w.heap.size + 1 + 1) o (by (try simp only [World.size_alloc]); omega)); (try have hj2 := fun o => hf (w.heap.size + 1 + 1) o (by (try simp only [World.size_alloc]); omega)); (try have hk3 := fun o => hc (w.heap.size + 1 + 1 + 1) o (by (try simp only [World.size_alloc]); omega)); (try have hj3 := fun o => hf (w.heap.size + 1 + 1 + 1) o (by (try simp only [World.size_alloc]); omega)); clear hc hf) | (go_at_call 58; refine (within_any _ _ _ _).mono ?_; rintro e w' ⟨rfl, rfl⟩))
    go_ret2
    exact ⟨rfl, (by repeat (first | exact Ext.refl _ | assumption | refine Ext.alloc ?_ _ | refine Ext.drew ?_ | refine Ext.drewN ?_ _ | refine Ext.setCell ?_ (by first | exact Nat.le_refl _ | (simp; done) | (dsimp only; omega) | (simp only [World.size_alloc, World.size_setCell]; omega)) _ | refine Ext.trans ?_ (by assumption)))⟩
  · have hd1 : 1 ≤ drift := by omega
    have hq1 : 0 ≤ (width - hi + lo) / (2 * drift) := Int.ediv_nonneg (by omega) (by omega)
    have hq2 : (width - hi + lo) / (2 * drift) ≤ 200000 := Int.le_trans (Int.ediv_le_self _ (by omega)) (by omega)
    have hd2 : (drift == 0) = false := by simpa using hd
    go_enter Try.func29, Try.ntmps29
    go_wp2_with (first | (go_at_call 18; refine (iIsBound_any _ _ _).mono ?_; rintro e w' ⟨rfl, hb⟩; have hz := Ext.size hb; (try simp only [World.size_alloc] at hz); obtain ⟨hc, hf⟩ := Ext.cells hb; (try have hy0 : w.heap.size < w'.heap.size := by omega); (try have hy1 : w.heap.size + 1 < w'.heap.size := by omega); (try have hy2 : w.heap.size + 1 + 1 < w'.heap.size := by omega); (try have hy3 : w.heap.size + 1 + 1 + 1 < w'.heap.size := by omega); (try have hk0 := fun o => hc (w.heap.size) o (by (try simp only [World.size_alloc]); omega)); (try have hj0 := fun o => hf (w.heap.size) o (by (try simp only [World.size_alloc]); omega)); (try have hk1 := fun o => hc (w.heap.size + 1) o (by (try simp only [World.size_alloc]); omega)); (try have hj1 := fun o => hf (w.heap.size + 1) o (by (try simp only [World.size_alloc]); omega)); (try have hk2 := fun o => hc (w.heap.size + 1 + 1) o (by (try simp only [World.size_alloc]); omega)); (try have hj2 := fun o => hf (w.heap.size + 1 + 1) o (by (try simp only [World.size_alloc]); omega)); (try have hk3 := fun o => hc (w.heap.size + 1 + 1 + 1) o (by (try simp only [World.size_alloc]); omega)); (try have hj3 := fun o => hf (w.heap.size + 1 + 1 + 1) o (by (try simp only [World.size_alloc]); omega)); clear hc hf) | (go_at_call 58; refine (within_any _ _ _ _).mono ?_; rintro e w' ⟨rfl, rfl⟩))
    all_goals
      go_ret2
      refine ⟨?_, (by repeat (first | exact Ext.refl _ | assumption | refine Ext.alloc ?_ _ | refine Ext.drew ?_ | refine Ext.drewN ?_ _ | refine Ext.setCell ?_ (by first | exact Nat.le_refl _ | (simp; done) | (dsimp only; omega) | (simp only [World.size_alloc, World.size_setCell]; omega)) _ | refine Ext.trans ?_ (by assumption)))⟩
      unfold secs
      rw [if_neg hd]
      first | (rw [Int.min_eq_left (by omega)]; rfl) | (rw [Int.min_eq_right (by omega)]; rfl)

theorem sSec_all (lo hi drift width : Int) (w : World) (h1 : -100000 ≤ lo) (h2 : lo ≤ hi) (h3 : hi ≤ 100000) (k1 : 0 ≤ drift) (k2 : drift ≤ 100) (q1 : 0 ≤ width) (q2 : width ≤ 200000) (hw : hi - lo ≤ width) :
    Calls Try.prog 28 #[.agg #[.int .i64 lo, .int .i64 hi], .int .i64 drift, .int .i64 width] w fun e w' => e = .returned (.tuple #[.int .i64 (secs lo hi drift width), .bool true]) ∧ Ext w w' := by
  rw [← bestAt_secs lo hi drift width hw k1]
  exact sSec_main lo hi drift width w h1 h2 h3 k1 k2 q1 q2 hw

set_option maxHeartbeats 400000 in
theorem sSecondsToWidth_any (lo hi drift width : Int) (w : World) :
    Calls Try.prog 28 #[.agg #[.int .i64 lo, .int .i64 hi], .int .i64 drift, .int .i64 width] w fun e w' => e = .returned (.tuple #[.int .i64 (okV (bnd lo hi && inR drift 0 100 && inR width 0 200000 && leB (hi - lo) width) (secs lo hi drift width)), .bool (bnd lo hi && inR drift 0 100 && inR width 0 200000 && leB (hi - lo) width)]) ∧ Ext w w' := by
  by_cases h0 : bnd lo hi = true
  · obtain ⟨g0_0, g0_1, g0_2⟩ := bnd_iff.1 h0
    by_cases h1 : inR drift 0 100 = true
    · obtain ⟨g1_0, g1_1⟩ := inR_iff.1 h1
      by_cases h2 : inR width 0 200000 = true
      · obtain ⟨g2_0, g2_1⟩ := inR_iff.1 h2
        by_cases h3 : leB (hi - lo) width = true
        · have g3_0 := leB_iff.1 h3
          simp only [h0, h1, h2, h3, Bool.and_true, okV_t, Bool.true_and]
          exact sSec_all lo hi drift width w g0_0 g0_1 g0_2 g1_0 g1_1 g2_0 g2_1 g3_0
        · have h3 : leB (hi - lo) width = false := by simpa using h3
          simp only [h0, h1, h2, h3, Bool.and_true, Bool.true_and, Bool.and_false, Bool.false_and, okV_f]
          have n3 := leB_no h3
          go_enter Try.func28, Try.ntmps28
          go_wp2_with (first | (go_at_call 52; refine (clBound_any _ _ _).mono ?_; rintro e w' ⟨rfl, hb⟩; have hz := Ext.size hb; (try simp only [World.size_alloc] at hz); obtain ⟨hc, hf⟩ := Ext.cells hb; (try have hy0 : w.heap.size < w'.heap.size := by omega); (try have hy1 : w.heap.size + 1 < w'.heap.size := by omega); (try have hy2 : w.heap.size + 1 + 1 < w'.heap.size := by omega); (try have hy3 : w.heap.size + 1 + 1 + 1 < w'.heap.size := by omega); (try have hk0 := fun o => hc (w.heap.size) o (by (try simp only [World.size_alloc]); omega)); (try have hj0 := fun o => hf (w.heap.size) o (by (try simp only [World.size_alloc]); omega)); (try have hk1 := fun o => hc (w.heap.size + 1) o (by (try simp only [World.size_alloc]); omega)); (try have hj1 := fun o => hf (w.heap.size + 1) o (by (try simp only [World.size_alloc]); omega)); (try have hk2 := fun o => hc (w.heap.size + 1 + 1) o (by (try simp only [World.size_alloc]); omega)); (try have hj2 := fun o => hf (w.heap.size + 1 + 1) o (by (try simp only [World.size_alloc]); omega)); (try have hk3 := fun o => hc (w.heap.size + 1 + 1 + 1) o (by (try simp only [World.size_alloc]); omega)); (try have hj3 := fun o => hf (w.heap.size + 1 + 1 + 1) o (by (try simp only [World.size_alloc]); omega)); clear hc hf) | (go_at_call 56; refine (l1In_any _ _ _ _).mono ?_; rintro e w' ⟨rfl, rfl⟩) | go_in)
          all_goals first | (go_ret2; exact ⟨rfl, (by repeat (first | exact Ext.refl _ | assumption | refine Ext.alloc ?_ _ | refine Ext.drew ?_ | refine Ext.drewN ?_ _ | refine Ext.setCell ?_ (by first | exact Nat.le_refl _ | (simp; done) | (dsimp only; omega) | (simp only [World.size_alloc, World.size_setCell]; omega)) _ | refine Ext.trans ?_ (by assumption)))⟩) | (exfalso; simp only [Bool.not_eq_false', decide_eq_true_eq, Bool.not_eq_true', decide_eq_false_iff_not] at *; omega)
      · have h2 : inR width 0 200000 = false := by simpa using h2
        simp only [h0, h1, h2, Bool.and_true, Bool.true_and, Bool.and_false, Bool.false_and, okV_f]
        go_enter Try.func28, Try.ntmps28
        go_wp2_with (first | (go_at_call 52; refine (clBound_any _ _ _).mono ?_; rintro e w' ⟨rfl, hb⟩; have hz := Ext.size hb; (try simp only [World.size_alloc] at hz); obtain ⟨hc, hf⟩ := Ext.cells hb; (try have hy0 : w.heap.size < w'.heap.size := by omega); (try have hy1 : w.heap.size + 1 < w'.heap.size := by omega); (try have hy2 : w.heap.size + 1 + 1 < w'.heap.size := by omega); (try have hy3 : w.heap.size + 1 + 1 + 1 < w'.heap.size := by omega); (try have hk0 := fun o => hc (w.heap.size) o (by (try simp only [World.size_alloc]); omega)); (try have hj0 := fun o => hf (w.heap.size) o (by (try simp only [World.size_alloc]); omega)); (try have hk1 := fun o => hc (w.heap.size + 1) o (by (try simp only [World.size_alloc]); omega)); (try have hj1 := fun o => hf (w.heap.size + 1) o (by (try simp only [World.size_alloc]); omega)); (try have hk2 := fun o => hc (w.heap.size + 1 + 1) o (by (try simp only [World.size_alloc]); omega)); (try have hj2 := fun o => hf (w.heap.size + 1 + 1) o (by (try simp only [World.size_alloc]); omega)); (try have hk3 := fun o => hc (w.heap.size + 1 + 1 + 1) o (by (try simp only [World.size_alloc]); omega)); (try have hj3 := fun o => hf (w.heap.size + 1 + 1 + 1) o (by (try simp only [World.size_alloc]); omega)); clear hc hf) | (go_at_call 56; refine (l1In_any _ _ _ _).mono ?_; rintro e w' ⟨rfl, rfl⟩) | go_in)
        all_goals first | (go_ret2; exact ⟨rfl, (by repeat (first | exact Ext.refl _ | assumption | refine Ext.alloc ?_ _ | refine Ext.drew ?_ | refine Ext.drewN ?_ _ | refine Ext.setCell ?_ (by first | exact Nat.le_refl _ | (simp; done) | (dsimp only; omega) | (simp only [World.size_alloc, World.size_setCell]; omega)) _ | refine Ext.trans ?_ (by assumption)))⟩) | (exfalso; simp only [Bool.not_eq_false', decide_eq_true_eq, Bool.not_eq_true', decide_eq_false_iff_not] at *; omega)
    · have h1 : inR drift 0 100 = false := by simpa using h1
      simp only [h0, h1, Bool.and_true, Bool.true_and, Bool.and_false, Bool.false_and, okV_f]
      go_enter Try.func28, Try.ntmps28
      go_wp2_with (first | (go_at_call 52; refine (clBound_any _ _ _).mono ?_; rintro e w' ⟨rfl, hb⟩; have hz := Ext.size hb; (try simp only [World.size_alloc] at hz); obtain ⟨hc, hf⟩ := Ext.cells hb; (try have hy0 : w.heap.size < w'.heap.size := by omega); (try have hy1 : w.heap.size + 1 < w'.heap.size := by omega); (try have hy2 : w.heap.size + 1 + 1 < w'.heap.size := by omega); (try have hy3 : w.heap.size + 1 + 1 + 1 < w'.heap.size := by omega); (try have hk0 := fun o => hc (w.heap.size) o (by (try simp only [World.size_alloc]); omega)); (try have hj0 := fun o => hf (w.heap.size) o (by (try simp only [World.size_alloc]); omega)); (try have hk1 := fun o => hc (w.heap.size + 1) o (by (try simp only [World.size_alloc]); omega)); (try have hj1 := fun o => hf (w.heap.size + 1) o (by (try simp only [World.size_alloc]); omega)); (try have hk2 := fun o => hc (w.heap.size + 1 + 1) o (by (try simp only [World.size_alloc]); omega)); (try have hj2 := fun o => hf (w.heap.size + 1 + 1) o (by (try simp only [World.size_alloc]); omega)); (try have hk3 := fun o => hc (w.heap.size + 1 + 1 + 1) o (by (try simp only [World.size_alloc]); omega)); (try have hj3 := fun o => hf (w.heap.size + 1 + 1 + 1) o (by (try simp only [World.size_alloc]); omega)); clear hc hf) | (go_at_call 56; refine (l1In_any _ _ _ _).mono ?_; rintro e w' ⟨rfl, rfl⟩) | go_in)
      all_goals first | (go_ret2; exact ⟨rfl, (by repeat (first | exact Ext.refl _ | assumption | refine Ext.alloc ?_ _ | refine Ext.drew ?_ | refine Ext.drewN ?_ _ | refine Ext.setCell ?_ (by first | exact Nat.le_refl _ | (simp; done) | (dsimp only; omega) | (simp only [World.size_alloc, World.size_setCell]; omega)) _ | refine Ext.trans ?_ (by assumption)))⟩) | (exfalso; simp only [Bool.not_eq_false', decide_eq_true_eq, Bool.not_eq_true', decide_eq_false_iff_not] at *; omega)
  · have h0 : bnd lo hi = false := by simpa using h0
    simp only [h0, Bool.and_true, Bool.true_and, Bool.and_false, Bool.false_and, okV_f]
    go_enter Try.func28, Try.ntmps28
    go_wp2_with (first | (go_at_call 52; refine (clBound_any _ _ _).mono ?_; rintro e w' ⟨rfl, hb⟩; have hz := Ext.size hb; (try simp only [World.size_alloc] at hz); obtain ⟨hc, hf⟩ := Ext.cells hb; (try have hy0 : w.heap.size < w'.heap.size := by omega); (try have hy1 : w.heap.size + 1 < w'.heap.size := by omega); (try have hy2 : w.heap.size + 1 + 1 < w'.heap.size := by omega); (try have hy3 : w.heap.size + 1 + 1 + 1 < w'.heap.size := by omega); (try have hk0 := fun o => hc (w.heap.size) o (by (try simp only [World.size_alloc]); omega)); (try have hj0 := fun o => hf (w.heap.size) o (by (try simp only [World.size_alloc]); omega)); (try have hk1 := fun o => hc (w.heap.size + 1) o (by (try simp only [World.size_alloc]); omega)); (try have hj1 := fun o => hf (w.heap.size + 1) o (by (try simp only [World.size_alloc]); omega)); (try have hk2 := fun o => hc (w.heap.size + 1 + 1) o (by (try simp only [World.size_alloc]); omega)); (try have hj2 := fun o => hf (w.heap.size + 1 + 1) o (by (try simp only [World.size_alloc]); omega)); (try have hk3 := fun o => hc (w.heap.size + 1 + 1 + 1) o (by (try simp only [World.size_alloc]); omega)); (try have hj3 := fun o => hf (w.heap.size + 1 + 1 + 1) o (by (try simp only [World.size_alloc]); omega)); clear hc hf) | (go_at_call 56; refine (l1In_any _ _ _ _).mono ?_; rintro e w' ⟨rfl, rfl⟩) | go_in)
    all_goals first | (go_ret2; exact ⟨rfl, (by repeat (first | exact Ext.refl _ | assumption | refine Ext.alloc ?_ _ | refine Ext.drew ?_ | refine Ext.drewN ?_ _ | refine Ext.setCell ?_ (by first | exact Nat.le_refl _ | (simp; done) | (dsimp only; omega) | (simp only [World.size_alloc, World.size_setCell]; omega)) _ | refine Ext.trans ?_ (by assumption)))⟩) | (exfalso; simp only [Bool.not_eq_false', decide_eq_true_eq, Bool.not_eq_true', decide_eq_false_iff_not] at *; omega)

set_option maxHeartbeats 400000 in
theorem iSecondsToWidth_any (lo hi drift width : Int) (w : World) :
    Calls Try.prog 29 #[.agg #[.int .i64 lo, .int .i64 hi], .int .i64 drift, .int .i64 width] w fun e w' => e = .returned (.tuple #[.int .i64 (okV (bnd lo hi && inR drift 0 100 && inR width 0 200000 && leB (hi - lo) width) (secs lo hi drift width)), .bool (bnd lo hi && inR drift 0 100 && inR width 0 200000 && leB (hi - lo) width)]) ∧ Ext w w' := by
  by_cases h0 : bnd lo hi = true
  · obtain ⟨g0_0, g0_1, g0_2⟩ := bnd_iff.1 h0
    by_cases h1 : inR drift 0 100 = true
    · obtain ⟨g1_0, g1_1⟩ := inR_iff.1 h1
      by_cases h2 : inR width 0 200000 = true
      · obtain ⟨g2_0, g2_1⟩ := inR_iff.1 h2
        by_cases h3 : leB (hi - lo) width = true
        · have g3_0 := leB_iff.1 h3
          simp only [h0, h1, h2, h3, Bool.and_true, okV_t, Bool.true_and]
          exact iSec_main lo hi drift width w g0_0 g0_1 g0_2 g1_0 g1_1 g2_0 g2_1 g3_0
        · have h3 : leB (hi - lo) width = false := by simpa using h3
          simp only [h0, h1, h2, h3, Bool.and_true, Bool.true_and, Bool.and_false, Bool.false_and, okV_f]
          have n3 := leB_no h3
          go_enter Try.func29, Try.ntmps29
          go_wp2_with (first | (go_at_call 18; refine (iIsBound_any _ _ _).mono ?_; rintro e w' ⟨rfl, hb⟩; have hz := Ext.size hb; (try simp only [World.size_alloc] at hz); obtain ⟨hc, hf⟩ := Ext.cells hb; (try have hy0 : w.heap.size < w'.heap.size := by omega); (try have hy1 : w.heap.size + 1 < w'.heap.size := by omega); (try have hy2 : w.heap.size + 1 + 1 < w'.heap.size := by omega); (try have hy3 : w.heap.size + 1 + 1 + 1 < w'.heap.size := by omega); (try have hk0 := fun o => hc (w.heap.size) o (by (try simp only [World.size_alloc]); omega)); (try have hj0 := fun o => hf (w.heap.size) o (by (try simp only [World.size_alloc]); omega)); (try have hk1 := fun o => hc (w.heap.size + 1) o (by (try simp only [World.size_alloc]); omega)); (try have hj1 := fun o => hf (w.heap.size + 1) o (by (try simp only [World.size_alloc]); omega)); (try have hk2 := fun o => hc (w.heap.size + 1 + 1) o (by (try simp only [World.size_alloc]); omega)); (try have hj2 := fun o => hf (w.heap.size + 1 + 1) o (by (try simp only [World.size_alloc]); omega)); (try have hk3 := fun o => hc (w.heap.size + 1 + 1 + 1) o (by (try simp only [World.size_alloc]); omega)); (try have hj3 := fun o => hf (w.heap.size + 1 + 1 + 1) o (by (try simp only [World.size_alloc]); omega)); clear hc hf) | (go_at_call 58; refine (within_any _ _ _ _).mono ?_; rintro e w' ⟨rfl, rfl⟩) | go_in)
          all_goals first | (go_ret2; exact ⟨rfl, (by repeat (first | exact Ext.refl _ | assumption | refine Ext.alloc ?_ _ | refine Ext.drew ?_ | refine Ext.drewN ?_ _ | refine Ext.setCell ?_ (by first | exact Nat.le_refl _ | (simp; done) | (dsimp only; omega) | (simp only [World.size_alloc, World.size_setCell]; omega)) _ | refine Ext.trans ?_ (by assumption)))⟩) | (exfalso; simp only [Bool.not_eq_false', decide_eq_true_eq, Bool.not_eq_true', decide_eq_false_iff_not] at *; omega)
      · have h2 : inR width 0 200000 = false := by simpa using h2
        simp only [h0, h1, h2, Bool.and_true, Bool.true_and, Bool.and_false, Bool.false_and, okV_f]
        go_enter Try.func29, Try.ntmps29
        go_wp2_with (first | (go_at_call 18; refine (iIsBound_any _ _ _).mono ?_; rintro e w' ⟨rfl, hb⟩; have hz := Ext.size hb; (try simp only [World.size_alloc] at hz); obtain ⟨hc, hf⟩ := Ext.cells hb; (try have hy0 : w.heap.size < w'.heap.size := by omega); (try have hy1 : w.heap.size + 1 < w'.heap.size := by omega); (try have hy2 : w.heap.size + 1 + 1 < w'.heap.size := by omega); (try have hy3 : w.heap.size + 1 + 1 + 1 < w'.heap.size := by omega); (try have hk0 := fun o => hc (w.heap.size) o (by (try simp only [World.size_alloc]); omega)); (try have hj0 := fun o => hf (w.heap.size) o (by (try simp only [World.size_alloc]); omega)); (try have hk1 := fun o => hc (w.heap.size + 1) o (by (try simp only [World.size_alloc]); omega)); (try have hj1 := fun o => hf (w.heap.size + 1) o (by (try simp only [World.size_alloc]); omega)); (try have hk2 := fun o => hc (w.heap.size + 1 + 1) o (by (try simp only [World.size_alloc]); omega)); (try have hj2 := fun o => hf (w.heap.size + 1 + 1) o (by (try simp only [World.size_alloc]); omega)); (try have hk3 := fun o => hc (w.heap.size + 1 + 1 + 1) o (by (try simp only [World.size_alloc]); omega)); (try have hj3 := fun o => hf (w.heap.size + 1 + 1 + 1) o (by (try simp only [World.size_alloc]); omega)); clear hc hf) | (go_at_call 58; refine (within_any _ _ _ _).mono ?_; rintro e w' ⟨rfl, rfl⟩) | go_in)
        all_goals first | (go_ret2; exact ⟨rfl, (by repeat (first | exact Ext.refl _ | assumption | refine Ext.alloc ?_ _ | refine Ext.drew ?_ | refine Ext.drewN ?_ _ | refine Ext.setCell ?_ (by first | exact Nat.le_refl _ | (simp; done) | (dsimp only; omega) | (simp only [World.size_alloc, World.size_setCell]; omega)) _ | refine Ext.trans ?_ (by assumption)))⟩) | (exfalso; simp only [Bool.not_eq_false', decide_eq_true_eq, Bool.not_eq_true', decide_eq_false_iff_not] at *; omega)
    · have h1 : inR drift 0 100 = false := by simpa using h1
      simp only [h0, h1, Bool.and_true, Bool.true_and, Bool.and_false, Bool.false_and, okV_f]
      go_enter Try.func29, Try.ntmps29
      go_wp2_with (first | (go_at_call 18; refine (iIsBound_any _ _ _).mono ?_; rintro e w' ⟨rfl, hb⟩; have hz := Ext.size hb; (try simp only [World.size_alloc] at hz); obtain ⟨hc, hf⟩ := Ext.cells hb; (try have hy0 : w.heap.size < w'.heap.size := by omega); (try have hy1 : w.heap.size + 1 < w'.heap.size := by omega); (try have hy2 : w.heap.size + 1 + 1 < w'.heap.size := by omega); (try have hy3 : w.heap.size + 1 + 1 + 1 < w'.heap.size := by omega); (try have hk0 := fun o => hc (w.heap.size) o (by (try simp only [World.size_alloc]); omega)); (try have hj0 := fun o => hf (w.heap.size) o (by (try simp only [World.size_alloc]); omega)); (try have hk1 := fun o => hc (w.heap.size + 1) o (by (try simp only [World.size_alloc]); omega)); (try have hj1 := fun o => hf (w.heap.size + 1) o (by (try simp only [World.size_alloc]); omega)); (try have hk2 := fun o => hc (w.heap.size + 1 + 1) o (by (try simp only [World.size_alloc]); omega)); (try have hj2 := fun o => hf (w.heap.size + 1 + 1) o (by (try simp only [World.size_alloc]); omega)); (try have hk3 := fun o => hc (w.heap.size + 1 + 1 + 1) o (by (try simp only [World.size_alloc]); omega)); (try have hj3 := fun o => hf (w.heap.size + 1 + 1 + 1) o (by (try simp only [World.size_alloc]); omega)); clear hc hf) | (go_at_call 58; refine (within_any _ _ _ _).mono ?_; rintro e w' ⟨rfl, rfl⟩) | go_in)
      all_goals first | (go_ret2; exact ⟨rfl, (by repeat (first | exact Ext.refl _ | assumption | refine Ext.alloc ?_ _ | refine Ext.drew ?_ | refine Ext.drewN ?_ _ | refine Ext.setCell ?_ (by first | exact Nat.le_refl _ | (simp; done) | (dsimp only; omega) | (simp only [World.size_alloc, World.size_setCell]; omega)) _ | refine Ext.trans ?_ (by assumption)))⟩) | (exfalso; simp only [Bool.not_eq_false', decide_eq_true_eq, Bool.not_eq_true', decide_eq_false_iff_not] at *; omega)
  · have h0 : bnd lo hi = false := by simpa using h0
    simp only [h0, Bool.and_true, Bool.true_and, Bool.and_false, Bool.false_and, okV_f]
    go_enter Try.func29, Try.ntmps29
    go_wp2_with (first | (go_at_call 18; refine (iIsBound_any _ _ _).mono ?_; rintro e w' ⟨rfl, hb⟩; have hz := Ext.size hb; (try simp only [World.size_alloc] at hz); obtain ⟨hc, hf⟩ := Ext.cells hb; (try have hy0 : w.heap.size < w'.heap.size := by omega); (try have hy1 : w.heap.size + 1 < w'.heap.size := by omega); (try have hy2 : w.heap.size + 1 + 1 < w'.heap.size := by omega); (try have hy3 : w.heap.size + 1 + 1 + 1 < w'.heap.size := by omega); (try have hk0 := fun o => hc (w.heap.size) o (by (try simp only [World.size_alloc]); omega)); (try have hj0 := fun o => hf (w.heap.size) o (by (try simp only [World.size_alloc]); omega)); (try have hk1 := fun o => hc (w.heap.size + 1) o (by (try simp only [World.size_alloc]); omega)); (try have hj1 := fun o => hf (w.heap.size + 1) o (by (try simp only [World.size_alloc]); omega)); (try have hk2 := fun o => hc (w.heap.size + 1 + 1) o (by (try simp only [World.size_alloc]); omega)); (try have hj2 := fun o => hf (w.heap.size + 1 + 1) o (by (try simp only [World.size_alloc]); omega)); (try have hk3 := fun o => hc (w.heap.size + 1 + 1 + 1) o (by (try simp only [World.size_alloc]); omega)); (try have hj3 := fun o => hf (w.heap.size + 1 + 1 + 1) o (by (try simp only [World.size_alloc]); omega)); clear hc hf) | (go_at_call 58; refine (within_any _ _ _ _).mono ?_; rintro e w' ⟨rfl, rfl⟩) | go_in)
    all_goals first | (go_ret2; exact ⟨rfl, (by repeat (first | exact Ext.refl _ | assumption | refine Ext.alloc ?_ _ | refine Ext.drew ?_ | refine Ext.drewN ?_ _ | refine Ext.setCell ?_ (by first | exact Nat.le_refl _ | (simp; done) | (dsimp only; omega) | (simp only [World.size_alloc, World.size_setCell]; omega)) _ | refine Ext.trans ?_ (by assumption)))⟩) | (exfalso; simp only [Bool.not_eq_false', decide_eq_true_eq, Bool.not_eq_true', decide_eq_false_iff_not] at *; omega)

end Go.Proofs.Ytiemkobgpaekoaa
