/- What is left at a tick and at the next: all that the law of line jobs asks of it. No condition. -/
import Derived.Test.YtabafhmeefeioaaPriT
import Derived.Test.YtabafhmeefeioaaPriJ
namespace Go.Proofs.Ytabafhmeefeioaa
open Go.RowKit
set_option linter.unusedSimpArgs false
set_option linter.unusedVariables false

structure LeftOk (z : List Int) (n : Nat) (T : Int) : Prop where
  nx : lfC z n (T + 1) = true
  le : n ≤ 12
  l1 : (lfV z n T).length = n
  l2 : (lfV z n (T + 1)).length = n
  bd : ∀ k, k < n → -1000 ≤ (lfV z n T).getD k 0 ∧ (lfV z n T).getD k 0 ≤ 40 ∧ -1000 ≤ (lfV z n (T + 1)).getD k 0 ∧ (lfV z n (T + 1)).getD k 0 ≤ 40
  off : jobC z n T = false → ∀ k, k < n → (lfV z n T).getD k 0 = (lfV z n (T + 1)).getD k 0
  on : jobC z n T = true → ∃ J : Nat, jobV z n T = (J : Int) ∧ J < n ∧ jAt z J ≤ T ∧ 1 ≤ (lfV z n T).getD J 0 ∧ (lfV z n T).getD J 0 = (lfV z n (T + 1)).getD J 0 + 1 ∧ (∀ k, k < n → k ≠ J → (lfV z n T).getD k 0 = (lfV z n (T + 1)).getD k 0) ∧ ∀ k, k < n → 0 < (lfV z n T).getD k 0 → jAt z k ≤ T → jPr z k ≤ jPr z J
theorem left_all {z : List Int} {n : Nat} {T : Int} (h : lfC z n T = true) (hT : T < 700) : LeftOk z n T := by
  have h' := h
  unfold lfC at h'
  rw [Bool.and_eq_true, inR_iff] at h'
  obtain ⟨hok, h0, h7⟩ := h'
  obtain ⟨t, rfl⟩ := Int.eq_ofNat_of_zero_le h0
  have e1 : ((t : Int) + 1) = ((t + 1 : Nat) : Int) := by omega
  have hn : lfC z n ((t : Int) + 1) = true := by
    unfold lfC
    rw [hok, inR_iff.2 ⟨by omega, by omega⟩]
    rfl
  have v1 : lfV z n (t : Int) = lfL z n (t : Int) (endT z n) := by unfold lfV; rw [if_pos h]
  have v2 : lfV z n ((t : Int) + 1) = lfL z n ((t : Int) + 1) (endT z n) := by unfold lfV; rw [if_pos hn]
  have hE := endT_le hok
  obtain ⟨a1, a2⟩ := lfL_inv hok (t : Int) (endT z n)
  obtain ⟨b1, b2⟩ := lfL_inv hok ((t : Int) + 1) (endT z n)
  refine ⟨hn, okJs_n hok, by rw [v1]; exact a1, by rw [v2]; exact b1, fun k hk => ?_, fun hc k hk => ?_, fun hc => ?_⟩
  · rw [v1, v2]
    have g1 := a2 _ (getD_mem (l := lfL z n (t : Int) (endT z n)) (i := k) (by omega))
    have g2 := b2 _ (getD_mem (l := lfL z n ((t : Int) + 1) (endT z n)) (i := k) (by omega))
    omega
  · have := (left_step (t := t) hok hk (by omega)).2 (by rw [hc]; simp)
    rw [v1, v2, e1]
    omega
  · obtain ⟨J, j1, j2, j3, j4, j5⟩ := left_job (t := t) hok (by omega) hc
    rw [v1, v2, e1]
    refine ⟨J, j1, j2, j3, j4, ?_, fun k hk hne => ?_, j5⟩
    · have := (left_step (t := t) hok j2 (by omega)).1 ⟨hc, j1⟩
      omega
    · have := (left_step (t := t) hok hk (by omega)).2 (fun e => hne (by have := e.2; omega))
      omega
/-- the cells of the marks: what region 57 compares, as letters -/
structure JobEnd (z : List Int) (n j : Nat) (F B W : List Int) (s p : Int) : Prop where
  s : s = jLen z j
  b : B.getD j 0 = p - 1
  w : W.getD j 0 = F.getD j 0 - jAt z j - jLen z j
  w0 : 0 ≤ W.getD j 0
  bd : 0 ≤ jAt z j ∧ jAt z j ≤ 200 ∧ 1 ≤ jLen z j ∧ jLen z j ≤ 40 ∧ 0 ≤ F.getD j 0 ∧ F.getD j 0 ≤ 680
  pb : 0 ≤ p ∧ p ≤ 700
theorem prtF_bd (S : List (List Int)) (n : Nat) : ∀ k, ∀ x ∈ prtF S n k, 0 ≤ x ∧ x ≤ k
  | 0 => by
    intro x hx
    simp only [prtF, List.mem_replicate] at hx
    omega
  | k + 1 => by
    intro x hx
    rw [prtF] at hx
    have ih := prtF_bd S n k
    rcases List.mem_or_eq_of_mem_set hx with hx | rfl
    · have := ih x hx; omega
    · by_cases c : ((S.getD k []).getD 0 0).toNat < (prtF S n k).length
      · have := ih _ (getD_mem c); omega
      · rw [List.getD_eq_getElem?_getD, List.getElem?_eq_none (by omega)]; simp; omega
theorem getD_bd {l : List Int} {lo hi : Int} (h : ∀ x ∈ l, lo ≤ x ∧ x ≤ hi) (h0 : lo ≤ 0 ∧ 0 ≤ hi) (j : Nat) : lo ≤ l.getD j 0 ∧ l.getD j 0 ≤ hi := by
  by_cases c : j < l.length
  · exact h _ (getD_mem c)
  · rw [List.getD_eq_getElem?_getD, List.getElem?_eq_none (by omega)]; simpa using h0
theorem waitJ_get {z : List Int} {n j : Nat} (hj : j < n) : (waitJ z n).getD j 0 = (finJ z n).getD j 0 - (jAt z j + jLen z j) := by
  unfold waitJ
  simp [List.getD_eq_getElem?_getD, hj]
theorem job_end {z : List Int} {n j : Nat} (h : okJs z n = true) (hj : j < n) : JobEnd z n j (finJ z n) (brkJ z n) (waitJ z n) ((sntF (segJ z n) n (segJ z n).length).getD j 0) ((prtF (segJ z n) n (segJ z n).length).getD j 0) := by
  have hL := line_ok h
  have hw := hL.wait j hj
  have hS := (segJ_inv h).1
  have hp := getD_bd (prtF_bd (segJ z n) n (segJ z n).length) (by omega) j
  have hb := job_bd h j hj
  have hf := fin_bd h j hj
  exact ⟨hL.sent j hj, hL.brk j hj, by rw [waitJ_get hj]; omega, by rw [waitJ_get hj]; omega, by omega, by omega⟩
/-- the segments before k: what is sent stays within bounds -/
theorem sntF_bd {z : List Int} {n : Nat} (h : okJs z n = true) : ∀ k, k ≤ (segJ z n).length → ∀ x ∈ sntF (segJ z n) n k, 0 ≤ x ∧ x ≤ 680 * k
  | 0, _ => by
    intro x hx
    simp only [sntF, List.mem_replicate] at hx
    omega
  | k + 1, hk => by
    intro x hx
    rw [sntF] at hx
    have ih := sntF_bd h k (by omega)
    obtain ⟨j, a, b, e, g⟩ := (line_ok h).seg k (by omega)
    rw [e] at hx
    simp only [List.getD_cons_zero, List.getD_cons_succ] at hx
    rcases List.mem_or_eq_of_mem_set hx with hx | rfl
    · have := ih x hx; omega
    · have := getD_bd ih (by omega) (j : Int).toNat
      omega
theorem gapF_bd {z : List Int} {n : Nat} (h : okJs z n = true) : ∀ k, k ≤ (segJ z n).length → 0 ≤ gapF (segJ z n) k ∧ gapF (segJ z n) k ≤ 680 * k ∧ 0 ≤ lastF (segJ z n) k ∧ lastF (segJ z n) k ≤ 680
  | 0, _ => by simp [gapF, lastF]
  | k + 1, hk => by
    have ih := gapF_bd h k (by omega)
    obtain ⟨j, a, b, e, g⟩ := (line_ok h).seg k (by omega)
    rw [gapF, lastF_succ, e]
    simp only [List.getD_cons_zero, List.getD_cons_succ]
    omega
/-- all that a round over the segments asks -/
structure SegR (z : List Int) (n k J : Nat) (a b : Int) : Prop where
  seg : (segJ z n).getD k [] = [(J : Int), a, b]
  lt : J < n
  last : lastF (segJ z n) k ≤ a
  a0 : 0 ≤ a
  ab : a < b
  b6 : b ≤ 680
  at_ : jAt z J ≤ a
  fin : b ≤ (finJ z n).getD J 0
  lb : 0 ≤ lastF (segJ z n) k
  gb : 0 ≤ gapF (segJ z n) k ∧ gapF (segJ z n) k ≤ 680 * 680
  sb : 0 ≤ (sntF (segJ z n) n k).getD J 0 ∧ (sntF (segJ z n) n k).getD J 0 ≤ 680 * 680
  pb : 0 ≤ (prtF (segJ z n) n k).getD J 0 ∧ (prtF (segJ z n) n k).getD J 0 ≤ 680
  last' : lastF (segJ z n) (k + 1) = b
  gap' : gapF (segJ z n) (k + 1) = gapF (segJ z n) k + (a - lastF (segJ z n) k)
  snt' : sntF (segJ z n) n (k + 1) = (sntF (segJ z n) n k).set J ((sntF (segJ z n) n k).getD J 0 + (b - a))
  prt' : prtF (segJ z n) n (k + 1) = (prtF (segJ z n) n k).set J ((prtF (segJ z n) n k).getD J 0 + 1)
theorem seg_round {z : List Int} {n k : Nat} (h : okJs z n = true) (hk : k < (segJ z n).length) : ∃ (J : Nat) (a b : Int), SegR z n k J a b := by
  obtain ⟨J, a, b, e, h1, h2, h3, h4, h5, h6, h7⟩ := (line_ok h).seg k hk
  have hS := (segJ_inv h).1
  have hg := gapF_bd h k (by omega)
  have hs := getD_bd (sntF_bd h k (by omega)) (by omega) J
  have hp := getD_bd (prtF_bd (segJ z n) n k) (by omega) J
  refine ⟨J, a, b, e, h1, h2, h3, h4, h5, h6, h7, hg.2.2.1, ⟨hg.1, by omega⟩, ⟨hs.1, by omega⟩, ⟨hp.1, by omega⟩, ?_, ?_, ?_, ?_⟩
  · rw [lastF_succ, e]; rfl
  · rw [gapF, e]; rfl
  · rw [sntF, e]; rfl
  · rw [prtF, e]; rfl
end Go.Proofs.Ytabafhmeefeioaa
