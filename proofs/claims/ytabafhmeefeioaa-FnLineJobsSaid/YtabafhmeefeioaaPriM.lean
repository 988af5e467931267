/- The chapter of priorities: the run of a line as a plain function on lists of integers. No program in sight. No condition. -/
import Derived.Test.YtabafhmeefeioaaPriA
namespace Go.Proofs.Ytabafhmeefeioaa
open Go.RowKit
set_option linter.unusedSimpArgs false
set_option linter.unusedVariables false

/-- job i is taken before the best one so far -/
def takes (z : List Int) (i : Nat) (b : Int) : Bool :=
  decide (b < 0) || (decide (jPr z b.toNat < jPr z i) || (jPr z i == jPr z b.toNat && decide (jAt z i < jAt z b.toNat)))
/-- job i waits in tick t -/
def waitsB (z left : List Int) (t : Int) (i : Nat) : Bool := decide (jAt z i ≤ t) && !(left.getD i 0 == 0)
/-- the job of tick t among the first i jobs, -1 if there is none -/
def bestN (z left : List Int) (t : Int) : Nat → Int
  | 0 => -1
  | i + 1 => if waitsB z left t i = true then (if takes z i (bestN z left t i) = true then (i : Int) else bestN z left t i) else bestN z left t i

theorem bestN_range (z left : List Int) (t : Int) : ∀ i, -1 ≤ bestN z left t i ∧ bestN z left t i < (i : Int) ∧ (0 ≤ bestN z left t i → waitsB z left t (bestN z left t i).toNat = true)
  | 0 => by simp [bestN]
  | i + 1 => by
    obtain ⟨h1, h2, h3⟩ := bestN_range z left t i
    rw [bestN]
    by_cases hw : waitsB z left t i = true
    · rw [if_pos hw]
      by_cases ht : takes z i (bestN z left t i) = true
      · rw [if_pos ht]
        exact ⟨by omega, by omega, fun _ => by simpa using hw⟩
      · rw [if_neg ht]
        exact ⟨h1, by omega, h3⟩
    · rw [if_neg hw]
      exact ⟨h1, by omega, h3⟩

theorem bestN_some (z left : List Int) (t : Int) : ∀ i k, k < i → waitsB z left t k = true → 0 ≤ bestN z left t i
  | 0, k, hk, _ => absurd hk (by omega)
  | i + 1, k, hk, hw => by
    rw [bestN]
    by_cases hki : k = i
    · subst hki
      rw [if_pos hw]
      by_cases ht : takes z k (bestN z left t k) = true
      · rw [if_pos ht]
        omega
      · rw [if_neg ht]
        have : ¬ bestN z left t k < 0 := fun h => ht (by simp [takes, h])
        omega
    · have := bestN_some z left t i k (by omega) hw
      by_cases hwi : waitsB z left t i = true
      · rw [if_pos hwi]
        by_cases ht : takes z i (bestN z left t i) = true
        · rw [if_pos ht]
          omega
        · rw [if_neg ht]
          exact this
      · rw [if_neg hwi]
        exact this

/-- one signal less of job b -/
def less (left : List Int) (b : Int) : List Int := if 0 ≤ b then left.set b.toNat (left.getD b.toNat 0 - 1) else left
def lens (z : List Int) (n : Nat) : List Int := (List.range n).map (jLen z)
/-- what is left of each job before tick t -/
def stL (z : List Int) (n : Nat) : Nat → List Int
  | 0 => lens z n
  | t + 1 => less (stL z n t) (bestN z (stL z n t) t n)
/-- the job of tick t -/
def tickB (z : List Int) (n t : Nat) : Int := bestN z (stL z n t) t n
/-- the signals left before tick t -/
def stS (z : List Int) (n : Nat) : Nat → Int
  | 0 => (lens z n).sum
  | t + 1 => if 0 ≤ tickB z n t then stS z n t - 1 else stS z n t
def stO (z : List Int) (n t : Nat) : List Int := (List.range t).map (tickB z n)
/-- the number of ticks -/
def runT (z : List Int) (n : Nat) : Nat → Nat → Nat
  | 0, t => t
  | f + 1, t => if stS z n t ≤ 0 then t else runT z n f (t + 1)
def endT (z : List Int) (n : Nat) : Nat := runT z n 1000 0
def ticks (z : List Int) (n : Nat) : List Int := stO z n (endT z n)

theorem stO_succ (z : List Int) (n t : Nat) : stO z n (t + 1) = stO z n t ++ [tickB z n t] := by simp [stO, List.range_succ]
theorem stO_length (z : List Int) (n t : Nat) : (stO z n t).length = t := by simp [stO]

theorem runT_eq (z : List Int) (n : Nat) (t : Nat) (h1 : ∀ s, s < t → 0 < stS z n s) (h2 : stS z n t ≤ 0) : ∀ f s, s ≤ t → t ≤ s + f → runT z n f s = t
  | 0, s, hs, hf => by rw [runT]; omega
  | f + 1, s, hs, hf => by
    rw [runT]
    by_cases h : stS z n s ≤ 0
    · rw [if_pos h]
      by_cases hst : s = t
      · exact hst
      · have := h1 s (by omega)
        omega
    · rw [if_neg h]
      have hst : s ≠ t := fun e => h (e ▸ h2)
      exact runT_eq z n t h1 h2 f (s + 1) (by omega) (by omega)
theorem endT_eq (z : List Int) (n : Nat) (t : Nat) (h1 : ∀ s, s < t → 0 < stS z n s) (h2 : stS z n t ≤ 0) (ht : t ≤ 1000) : endT z n = t := runT_eq z n t h1 h2 1000 0 (Nat.zero_le _) (by omega)

theorem sum_set : ∀ (l : List Int) (i : Nat) (a : Int), i < l.length → (l.set i a).sum = l.sum - l.getD i 0 + a
  | [], i, a, h => absurd h (by simp)
  | x :: l, 0, a, _ => by simp; omega
  | x :: l, i + 1, a, h => by
    have := sum_set l i a (by simpa using h)
    simp only [List.set_cons_succ, List.sum_cons, List.getD_cons_succ]
    omega
theorem sum_nonneg : ∀ (l : List Int), (∀ x ∈ l, 0 ≤ x) → 0 ≤ l.sum
  | [], _ => by simp
  | x :: l, h => by
    have := sum_nonneg l (fun y hy => h y (List.mem_cons_of_mem _ hy))
    have := h x List.mem_cons_self
    simp only [List.sum_cons]
    omega
theorem sum_le (m : Int) : ∀ (l : List Int), (∀ x ∈ l, x ≤ m) → l.sum ≤ m * l.length
  | [], _ => by simp
  | x :: l, h => by
    have := sum_le m l (fun y hy => h y (List.mem_cons_of_mem _ hy))
    have := h x List.mem_cons_self
    simp only [List.sum_cons, List.length_cons, Int.natCast_add, Int.mul_add]
    omega
theorem sum_pos : ∀ (l : List Int), 0 < l.sum → ∃ i, i < l.length ∧ l.getD i 0 ≠ 0
  | [], h => absurd h (by simp)
  | x :: l, h => by
    by_cases hx : x = 0
    · subst hx
      obtain ⟨i, h1, h2⟩ := sum_pos l (by simpa using h)
      exact ⟨i + 1, by simpa using h1, by simpa using h2⟩
    · exact ⟨0, by simp, by simpa using hx⟩
theorem getD_mem {l : List Int} {i : Nat} (h : i < l.length) : l.getD i 0 ∈ l := by
  rw [List.getD_eq_getElem?_getD, List.getElem?_eq_getElem h]
  exact List.getElem_mem h

theorem job_bd {z : List Int} {n : Nat} (h : okJs z n = true) (i : Nat) (hi : i < n) : 0 ≤ jAt z i ∧ jAt z i ≤ 200 ∧ 1 ≤ jLen z i ∧ jLen z i ≤ 40 ∧ 0 ≤ jPr z i ∧ jPr z i ≤ 3 := by
  unfold okJs at h
  rw [Bool.and_eq_true] at h
  have := allB_get h.2 i hi
  unfold jobAt jobB at this
  rw [Bool.and_eq_true, Bool.and_eq_true, inR_iff, inR_iff, inR_iff] at this
  omega
theorem okJs_n {z : List Int} {n : Nat} (h : okJs z n = true) : n ≤ 12 := by
  unfold okJs at h
  rw [Bool.and_eq_true] at h
  simpa using h.1

/-- what always holds of what is left -/
theorem st_inv {z : List Int} {n : Nat} (h : okJs z n = true) : ∀ t, (stL z n t).length = n ∧ (∀ x ∈ stL z n t, 0 ≤ x ∧ x ≤ 40) ∧ (stL z n t).sum = stS z n t
  | 0 => by
    refine ⟨by simp [stL, lens], fun x hx => ?_, rfl⟩
    simp only [stL, lens, List.mem_map, List.mem_range] at hx
    obtain ⟨i, hi, rfl⟩ := hx
    have := job_bd h i hi
    omega
  | t + 1 => by
    obtain ⟨h1, h2, h3⟩ := st_inv h t
    have hr := bestN_range z (stL z n t) t n
    rw [stL, stS]
    unfold less tickB
    by_cases hb : 0 ≤ bestN z (stL z n t) t n
    · rw [if_pos hb, if_pos hb]
      have hlt : (bestN z (stL z n t) t n).toNat < (stL z n t).length := by omega
      have hw := hr.2.2 hb
      unfold waitsB at hw
      rw [Bool.and_eq_true, Bool.not_eq_true', beq_eq_false_iff_ne] at hw
      have hg := h2 _ (getD_mem hlt)
      refine ⟨by simpa using h1, fun x hx => ?_, ?_⟩
      · rcases List.mem_or_eq_of_mem_set hx with hx | rfl
        · exact h2 x hx
        · omega
      · rw [sum_set _ _ _ hlt, h3]
        omega
    · rw [if_neg hb, if_neg hb]
      exact ⟨h1, h2, h3⟩

theorem stS_bd {z : List Int} {n : Nat} (h : okJs z n = true) (t : Nat) : 0 ≤ stS z n t ∧ stS z n t ≤ 480 := by
  obtain ⟨h1, h2, h3⟩ := st_inv h t
  have := sum_nonneg _ fun x hx => (h2 x hx).1
  have := sum_le 40 _ fun x hx => (h2 x hx).2
  have := okJs_n h
  rw [h1] at *
  omega

/-- from tick 200 on each tick sends a signal -/
theorem tick_late {z : List Int} {n : Nat} (h : okJs z n = true) (t : Nat) (ht : 200 ≤ t) (hs : 0 < stS z n t) : 0 ≤ tickB z n t := by
  obtain ⟨h1, h2, h3⟩ := st_inv h t
  obtain ⟨i, hi, hne⟩ := sum_pos _ (h3.symm ▸ hs)
  refine bestN_some z _ t n i (by omega) ?_
  have := job_bd h i (by omega)
  unfold waitsB
  rw [Bool.and_eq_true]
  refine ⟨by simp; omega, ?_⟩
  rw [Bool.not_eq_true', beq_eq_false_iff_ne]
  exact hne

/-- the ticks that have passed and the signals that are left -/
theorem st_time {z : List Int} {n : Nat} (h : okJs z n = true) : ∀ t : Nat, (∀ s, s < t → 0 < stS z n s) → 200 ≤ t → stS z n t + t ≤ 680
  | 0, _, ht => absurd ht (by omega)
  | t + 1, hs, ht => by
    have hs' := hs t (by omega)
    by_cases h200 : 200 ≤ t
    · have := st_time h t (fun s hst => hs s (by omega)) h200
      have hl := tick_late h t h200 hs'
      rw [stS, if_pos hl]
      omega
    · have := (stS_bd h (t + 1)).2
      omega

/-- what a round lowers -/
def roundM (z : List Int) (n t : Nat) : Nat := (stS z n t).toNat + (200 - t)
theorem roundM_lt {z : List Int} {n : Nat} (h : okJs z n = true) (t : Nat) (hs : 0 < stS z n t) : roundM z n (t + 1) < roundM z n t := by
  unfold roundM
  rw [stS]
  by_cases hb : 0 ≤ tickB z n t
  · rw [if_pos hb]
    omega
  · rw [if_neg hb]
    have : t < 200 := by
      by_cases ht : 200 ≤ t
      · exact absurd (tick_late h t ht hs) hb
      · omega
    omega
end Go.Proofs.Ytabafhmeefeioaa
