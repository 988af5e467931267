/- What the reference's segments, breaks, waits and idle ticks say of each other. No condition. -/
import Derived.Test.YtabafhmeefeioaaPriR
namespace Go.Proofs.Ytabafhmeefeioaa
open Go.RowKit
set_option linter.unusedSimpArgs false
set_option linter.unusedVariables false

theorem job_len {z : List Int} {n j : Nat} (h : okJs z n = true) (hj : j < n) : 1 ≤ jLen z j ∧ 0 ≤ jAt z j := by
  have := job_bd h j hj
  omega
theorem job_tot {z : List Int} {n j : Nat} (h : okJs z n = true) (hj : j < n) : cntT (tickB z n) (j : Int) (endT z n) = jLen z j := by
  have h1 := stL_cnt h hj (endT z n)
  have h2 := end_zero h (end_stS h) hj
  omega
theorem fin_ge {z : List Int} {n j : Nat} (h : okJs z n = true) (hj : j < n) : jAt z j + jLen z j ≤ (finJ z n).getD j 0 := by
  obtain ⟨f0, _⟩ := fin_bd h j hj
  obtain ⟨f, hf⟩ := Int.eq_ofNat_of_zero_le f0
  have h1 := (fin_le_iff h (end_stS h) hj f).1 (by have : (finL z n (endT z n)).getD j 0 = (finJ z n).getD j 0 := rfl; omega)
  have h2 := stL_cnt h hj f
  have h3 := job_len h hj
  have h4 := cntT_at (z := z) (n := n) (j := j) f
  omega
theorem tick_waits {z : List Int} {n j t : Nat} (e : tickB z n t = (j : Int)) : jAt z j ≤ t ∧ (stL z n t).getD j 0 ≠ 0 := by
  obtain ⟨_, _, a3⟩ := bestN_range z (stL z n t) (t : Int) n
  change 0 ≤ tickB z n t → waitsB z (stL z n t) (t : Int) (tickB z n t).toNat = true at a3
  have hw := a3 (by omega)
  rw [e, Int.toNat_natCast, waits_iff] at hw
  exact hw
theorem seg_fin {z : List Int} {n j t : Nat} (h : okJs z n = true) (hj : j < n) (e : tickB z n t = (j : Int)) : (t : Int) + 1 ≤ (finJ z n).getD j 0 := by
  rcases Int.lt_or_le (t : Int) ((finJ z n).getD j 0) with c | c
  · omega
  · exact absurd ((fin_le_iff h (end_stS h) hj t).1 c) (tick_waits e).2
theorem last_end {z : List Int} {n : Nat} (h : okJs z n = true) : lastF (segJ z n) (segJ z n).length = endT z n := by
  unfold segJ
  by_cases h0 : endT z n = 0
  · rw [h0]
    rfl
  · obtain ⟨_, _, h3, _⟩ := sgZ_inv (T := tickB z n) (n := (n : Int)) (fun t => (tick_range z n t).2) (endT z n)
    have hs := last_serves h (by omega)
    obtain ⟨m, hm⟩ : ∃ m, endT z n = m + 1 := ⟨endT z n - 1, by omega⟩
    rw [hm] at h3 hs ⊢
    rw [Nat.add_sub_cancel] at hs
    obtain ⟨k1, _, k3⟩ := h3 hs
    unfold lastF
    rw [if_neg (by omega)]
    exact k3
def prtF (S : List (List Int)) (n : Nat) : Nat → List Int
  | 0 => List.replicate n 0
  | k + 1 => (prtF S n k).set ((S.getD k []).getD 0 0).toNat ((prtF S n k).getD ((S.getD k []).getD 0 0).toNat 0 + 1)
theorem prtF_len (S : List (List Int)) (n : Nat) : ∀ k, (prtF S n k).length = n
  | 0 => by simp [prtF]
  | k + 1 => by rw [prtF, List.length_set, prtF_len S n k]
theorem brk_prt (S : List (List Int)) (n : Nat) {j : Nat} (hj : j < n) : ∀ k, (brkF S n k).getD j 0 = (prtF S n k).getD j 0 - 1
  | 0 => by simp [brkF, prtF, List.getD_eq_getElem?_getD, hj]
  | k + 1 => by
    have ih := brk_prt S n hj k
    have l1 := (brkF_inv S n k).1
    have l2 := prtF_len S n k
    rw [brkF, prtF]
    by_cases e : ((S.getD k []).getD 0 0).toNat = j
    · rw [e]
      simp [List.getD_eq_getElem?_getD, l1, l2, hj] at ih ⊢
      omega
    · simp only [List.getD_eq_getElem?_getD (l := (brkF S n k).set _ _), List.getD_eq_getElem?_getD (l := (prtF S n k).set _ _), List.getElem?_set_ne e]
      simpa only [List.getD_eq_getElem?_getD] using ih
structure LineOk (z : List Int) (n : Nat) : Prop where
  seg : ∀ k, k < (segJ z n).length → ∃ (j : Nat) (a b : Int), (segJ z n).getD k [] = [(j : Int), a, b] ∧ j < n ∧ lastF (segJ z n) k ≤ a ∧ 0 ≤ a ∧ a < b ∧ b ≤ 680 ∧ jAt z j ≤ a ∧ b ≤ (finJ z n).getD j 0
  gaps : gapF (segJ z n) (segJ z n).length = idleAt z n (endT z n)
  sent : ∀ j, j < n → (sntF (segJ z n) n (segJ z n).length).getD j 0 = jLen z j
  brk : ∀ j, j < n → (brkJ z n).getD j 0 = (prtF (segJ z n) n (segJ z n).length).getD j 0 - 1
  wait : ∀ j, j < n → 0 ≤ (finJ z n).getD j 0 - (jAt z j + jLen z j)
theorem line_ok {z : List Int} {n : Nat} (h : okJs z n = true) : LineOk z n := by
  obtain ⟨h1, h2, h3⟩ := sgZ_good (T := tickB z n) (N := n) (fun t => (tick_range z n t).2) (endT z n)
  have hT := endT_le h
  have hl := last_end h
  change ∀ k, k < (segJ z n).length → ∃ j a b : Int, (segJ z n).getD k [] = [j, a, b] ∧ 0 ≤ j ∧ j < n ∧ lastF (segJ z n) k ≤ a ∧ 0 ≤ a ∧ a < b ∧ b ≤ endT z n ∧ tickB z n a.toNat = j ∧ tickB z n (b - 1).toNat = j at h1
  change gapF (segJ z n) (segJ z n).length + (endT z n - lastF (segJ z n) (segJ z n).length) = negT (tickB z n) (endT z n) at h2
  change ∀ j : Nat, j < n → (sntF (segJ z n) n (segJ z n).length).getD j 0 = cntT (tickB z n) j (endT z n) at h3
  refine ⟨fun k hk => ?_, ?_, fun j hj => ?_, fun j hj => brk_prt _ n hj _, fun j hj => by have := fin_ge h hj; omega⟩
  · obtain ⟨j, a, b, e, g1, g2, g3, g4, g5, g6, g7, g8⟩ := h1 k hk
    obtain ⟨J, rfl⟩ := Int.eq_ofNat_of_zero_le g1
    have k1 := (tick_waits g7).1
    have k2 := seg_fin h (show J < n by omega) g8
    exact ⟨J, a, b, e, by omega, g3, g4, g5, by omega, by omega, by omega⟩
  · rw [idle_neg]; omega
  · rw [h3 j hj]; exact job_tot h hj

/-! what is left at tick t, and at the next -/
theorem jobC_iff {z : List Int} {n t : Nat} (h : okJs z n = true) (ht : t ≤ 700) : jobC z n (t : Int) = true ↔ t < endT z n ∧ 0 ≤ tickB z n t := by
  unfold jobC
  rw [h, inR_iff.2 ⟨by omega, by omega⟩]
  simp only [Bool.true_and, Bool.and_eq_true, decide_eq_true_eq, Int.toNat_natCast]
  omega
theorem jobV_eq {z : List Int} {n t : Nat} (hc : jobC z n (t : Int) = true) : jobV z n (t : Int) = tickB z n t := by
  unfold jobV
  rw [if_pos hc, Int.toNat_natCast]
theorem left_st {z : List Int} {n t j : Nat} (h : okJs z n = true) (hj : j < n) (hE : t ≤ endT z n) : (lfL z n (t : Int) (endT z n)).getD j 0 = (stL z n t).getD j 0 := by
  rw [lfL_cnt h hj, stL_cnt h hj, show min t (endT z n) = t by omega]
theorem left_step {z : List Int} {n t j : Nat} (h : okJs z n = true) (hj : j < n) (ht : t ≤ 700) : (jobC z n (t : Int) = true ∧ jobV z n (t : Int) = (j : Int) → (lfL z n (t : Int) (endT z n)).getD j 0 - (lfL z n ((t + 1 : Nat) : Int) (endT z n)).getD j 0 = 1) ∧ (¬ (jobC z n (t : Int) = true ∧ jobV z n (t : Int) = (j : Int)) → (lfL z n (t : Int) (endT z n)).getD j 0 - (lfL z n ((t + 1 : Nat) : Int) (endT z n)).getD j 0 = 0) := by
  rw [lfL_cnt h hj, lfL_cnt h hj]
  by_cases c : t < endT z n
  · rw [show min t (endT z n) = t by omega, show min (t + 1) (endT z n) = t + 1 by omega, cntT]
    by_cases d : 0 ≤ tickB z n t
    · have hc := (jobC_iff h ht).2 ⟨c, d⟩
      rw [jobV_eq hc]
      refine ⟨fun k => by rw [if_pos k.2]; omega, fun k => by rw [if_neg (fun e => k ⟨hc, e⟩)]; omega⟩
    · have hc : ¬ jobC z n (t : Int) = true := fun hc => d ((jobC_iff h ht).1 hc).2
      exact ⟨fun k => absurd k.1 hc, fun _ => by rw [if_neg (by omega)]; omega⟩
  · have hc : ¬ jobC z n (t : Int) = true := fun hc => c ((jobC_iff h ht).1 hc).1
    rw [show min t (endT z n) = endT z n by omega, show min (t + 1) (endT z n) = endT z n by omega]
    exact ⟨fun k => absurd k.1 hc, fun _ => by omega⟩
theorem left_job {z : List Int} {n t : Nat} (h : okJs z n = true) (ht : t ≤ 700) (hc : jobC z n (t : Int) = true) : ∃ J : Nat, jobV z n (t : Int) = (J : Int) ∧ J < n ∧ jAt z J ≤ t ∧ 1 ≤ (lfL z n (t : Int) (endT z n)).getD J 0 ∧ ∀ j, j < n → 0 < (lfL z n (t : Int) (endT z n)).getD j 0 → jAt z j ≤ t → jPr z j ≤ jPr z J := by
  obtain ⟨c, d⟩ := (jobC_iff h ht).1 hc
  obtain ⟨J, hJ⟩ := Int.eq_ofNat_of_zero_le d
  have hr := (tick_range z n t).2
  have hJn : J < n := by omega
  obtain ⟨w1, w2⟩ := tick_waits hJ
  obtain ⟨l1, g1, _⟩ := st_inv h t
  have g := g1 _ (getD_mem (l := stL z n t) (i := J) (by omega))
  refine ⟨J, by rw [jobV_eq hc]; exact hJ, hJn, w1, by rw [left_st h hJn (by omega)]; omega, fun j hj hl ha => ?_⟩
  rw [left_st h hj (by omega)] at hl
  obtain ⟨m, hm, hb⟩ := bestN_best z (stL z n t) (t : Int) n j hj (waits_iff.2 ⟨ha, by omega⟩)
  have : tickB z n t = (m : Int) := hm
  obtain rfl : m = J := by omega
  rcases hb with rfl | hb
  · exact Int.le_refl _
  · unfold beats at hb; omega
end Go.Proofs.Ytabafhmeefeioaa
