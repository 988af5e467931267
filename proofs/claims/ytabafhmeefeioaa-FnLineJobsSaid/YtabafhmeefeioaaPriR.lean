/- What the segments of a run say of its ticks; what is left after a tick: the plain laws of FnLineJobs. No condition. -/
import Derived.Test.YtabafhmeefeioaaPriN
import Derived.Test.YtabafhmeefeioaaPriL
namespace Go.Proofs.Ytabafhmeefeioaa
open Go.RowKit
set_option linter.unusedSimpArgs false
set_option linter.unusedVariables false

/-! the segments of a run: what they say of its ticks (plain law of FnLineJobs) -/
def lastF (S : List (List Int)) (k : Nat) : Int := if k = 0 then 0 else (S.getD (k - 1) []).getD 2 0
def gapF (S : List (List Int)) : Nat → Int
  | 0 => 0
  | k + 1 => gapF S k + ((S.getD k []).getD 1 0 - lastF S k)
def sntF (S : List (List Int)) (n : Nat) : Nat → List Int
  | 0 => List.replicate n 0
  | k + 1 => (sntF S n k).set ((S.getD k []).getD 0 0).toNat ((sntF S n k).getD ((S.getD k []).getD 0 0).toNat 0 + ((S.getD k []).getD 2 0 - (S.getD k []).getD 1 0))
/-- the ticks before t that are job j's; the ticks before t that are idle -/
def cntT (T : Nat → Int) (j : Int) : Nat → Int
  | 0 => 0
  | t + 1 => if T t = j then cntT T j t + 1 else cntT T j t
def negT (T : Nat → Int) : Nat → Int
  | 0 => 0
  | t + 1 => if T t < 0 then negT T t + 1 else negT T t

theorem lastF_congr {S S' : List (List Int)} {k : Nat} (h : ∀ i, i < k → S.getD i [] = S'.getD i []) : lastF S k = lastF S' k := by
  unfold lastF
  by_cases h0 : k = 0
  · rw [if_pos h0, if_pos h0]
  · rw [if_neg h0, if_neg h0, h (k - 1) (by omega)]
theorem lastF_succ (S : List (List Int)) (m : Nat) : lastF S (m + 1) = (S.getD m []).getD 2 0 := by
  unfold lastF; rw [if_neg (by omega), Nat.add_sub_cancel]
theorem gapF_congr {S S' : List (List Int)} : ∀ {k : Nat}, (∀ i, i < k → S.getD i [] = S'.getD i []) → gapF S k = gapF S' k
  | 0, _ => rfl
  | k + 1, h => by rw [gapF, gapF, gapF_congr (fun i hi => h i (by omega)), h k (by omega), lastF_congr (fun i hi => h i (by omega))]
theorem sntF_congr {S S' : List (List Int)} {n : Nat} : ∀ {k : Nat}, (∀ i, i < k → S.getD i [] = S'.getD i []) → sntF S n k = sntF S' n k
  | 0, _ => rfl
  | k + 1, h => by rw [sntF, sntF, sntF_congr (fun i hi => h i (by omega)), h k (by omega)]
theorem sntF_len (S : List (List Int)) (n : Nat) : ∀ k, (sntF S n k).length = n
  | 0 => by simp [sntF]
  | k + 1 => by rw [sntF, List.length_set, sntF_len S n k]
structure SegOk (T : Nat → Int) (N t : Nat) (S : List (List Int)) : Prop where
  seg : ∀ k, k < S.length → ∃ j a b : Int, S.getD k [] = [j, a, b] ∧ 0 ≤ j ∧ j < N ∧ lastF S k ≤ a ∧ 0 ≤ a ∧ a < b ∧ b ≤ t ∧ T a.toNat = j ∧ T (b - 1).toNat = j
  gaps : gapF S S.length + (t - lastF S S.length) = negT T t
  sent : ∀ j : Nat, j < N → (sntF S N S.length).getD j 0 = cntT T j t
theorem getD_set_ne' {l : List (List Int)} {i j : Nat} {x : List Int} (h : i ≠ j) : (l.set i x).getD j [] = l.getD j [] := by
  simp [List.getD_eq_getElem?_getD, List.getElem?_set_ne h]
theorem getD_set_eq' {l : List (List Int)} {i : Nat} {x : List Int} (h : i < l.length) : (l.set i x).getD i [] = x := by
  simp [List.getD_eq_getElem?_getD, h]
theorem getD_app_lt' {l : List (List Int)} {i : Nat} {x : List Int} (h : i < l.length) : (l ++ [x]).getD i [] = l.getD i [] := by
  simp [List.getD_eq_getElem?_getD, List.getElem?_append_left h]
theorem getD_app_eq' {l : List (List Int)} {x : List Int} : (l ++ [x]).getD l.length [] = x := by
  simp [List.getD_eq_getElem?_getD]
theorem sgZ_good {T : Nat → Int} {N : Nat} (hT : ∀ t, T t < N) : ∀ t, SegOk T N t (sgZ T t)
  | 0 => ⟨fun k hk => by simp [sgZ] at hk, by simp [sgZ, gapF, lastF, negT], fun j hj => by simp [sgZ, sntF, cntT, List.getD_eq_getElem?_getD, hj]⟩
  | t + 1 => by
    obtain ⟨h1, h2, h3⟩ := sgZ_good hT t
    have hTt := hT t
    rw [sgZ]
    generalize sgZ T t = S at *
    by_cases c : T t < 0
    · rw [if_pos c]
      refine ⟨fun k hk => ?_, ?_, fun j hj => ?_⟩
      · obtain ⟨j, a, b, e, g⟩ := h1 k hk
        exact ⟨j, a, b, e, by omega⟩
      · rw [negT, if_pos c]; omega
      · rw [cntT, if_neg (by omega)]; exact h3 j hj
    · rw [if_neg c]
      by_cases d : 0 < S.length ∧ (S.getD (S.length - 1) []).getD 0 0 = T t ∧ (S.getD (S.length - 1) []).getD 2 0 = (t : Int)
      · rw [if_pos d]
        obtain ⟨j0, a0, b0, e0, g⟩ := h1 (S.length - 1) (by omega)
        obtain ⟨m, hm⟩ : ∃ m, S.length = m + 1 := ⟨S.length - 1, by omega⟩
        have hm1 : S.length - 1 = m := by omega
        rw [hm1] at d e0 g ⊢
        rw [e0] at d ⊢
        simp only [List.getD_cons_zero, List.getD_cons_succ] at d ⊢
        have hpre : ∀ i, i < m → S.getD i [] = (S.set m [j0, a0, (t : Int) + 1]).getD i [] := fun i hi => (getD_set_ne' (by omega)).symm
        have hat : (S.set m [j0, a0, (t : Int) + 1]).getD m [] = [j0, a0, (t : Int) + 1] := getD_set_eq' (by omega)
        refine ⟨fun k hk => ?_, ?_, fun j hj => ?_⟩
        · rw [List.length_set] at hk
          rw [← lastF_congr (S := S) (fun i hi => hpre i (by omega))]
          by_cases ek : k = m
          · subst ek
            rw [hat]
            refine ⟨j0, a0, (t : Int) + 1, rfl, g.1, g.2.1, g.2.2.1, g.2.2.2.1, by omega, by omega, g.2.2.2.2.2.2.1, ?_⟩
            rw [show ((t : Int) + 1 - 1).toNat = t by omega]; omega
          · rw [← hpre k (by omega)]
            obtain ⟨j, a, b, e, g'⟩ := h1 k (by omega)
            exact ⟨j, a, b, e, by omega⟩
        · rw [negT, if_neg c, List.length_set, hm]
          rw [hm] at h2
          rw [gapF, ← gapF_congr (S := S) hpre, ← lastF_congr (S := S) (k := m) hpre, hat, lastF_succ, hat]
          rw [gapF, e0, lastF_succ, e0] at h2
          simp only [List.getD_cons_zero, List.getD_cons_succ] at h2 ⊢
          omega
        · have h3' := h3 j hj
          rw [hm, sntF, e0] at h3'
          rw [List.length_set, hm, sntF, ← sntF_congr (S := S) hpre, hat]
          simp only [List.getD_cons_zero, List.getD_cons_succ] at h3' ⊢
          have hl := sntF_len S N m
          rw [cntT]
          by_cases ej : T t = (j : Int)
          · rw [if_pos ej]
            have : j0.toNat = j := by omega
            rw [this] at h3' ⊢
            simp [List.getD_eq_getElem?_getD, hl, hj] at h3' ⊢
            omega
          · rw [if_neg ej]
            have : j0.toNat ≠ j := by omega
            simp only [List.getD_eq_getElem?_getD, List.getElem?_set_ne this] at h3' ⊢
            exact h3'
      · rw [if_neg d]
        have hpre : ∀ i, i < S.length → S.getD i [] = (S ++ [[T t, (t : Int), (t : Int) + 1]]).getD i [] := fun i hi => (getD_app_lt' hi).symm
        have hat : (S ++ [[T t, (t : Int), (t : Int) + 1]]).getD S.length [] = [T t, (t : Int), (t : Int) + 1] := getD_app_eq'
        have hlast : lastF S S.length ≤ t := by
          unfold lastF
          by_cases h0 : S.length = 0
          · rw [if_pos h0]; omega
          · rw [if_neg h0]
            obtain ⟨j, a, b, e, g⟩ := h1 (S.length - 1) (by omega)
            rw [e]; simp only [List.getD_cons_zero, List.getD_cons_succ]; omega
        refine ⟨fun k hk => ?_, ?_, fun j hj => ?_⟩
        · rw [List.length_append] at hk
          simp only [List.length_singleton] at hk
          rw [← lastF_congr (S := S) (fun i hi => hpre i (by omega))]
          by_cases ek : k = S.length
          · subst ek
            rw [hat]
            refine ⟨T t, t, (t : Int) + 1, rfl, by omega, hTt, hlast, by omega, by omega, by omega, ?_, ?_⟩
            · rw [Int.toNat_natCast]
            · rw [show ((t : Int) + 1 - 1).toNat = t by omega]
          · rw [← hpre k (by omega)]
            obtain ⟨j, a, b, e, g'⟩ := h1 k (by omega)
            exact ⟨j, a, b, e, by omega⟩
        · rw [negT, if_neg c, List.length_append, List.length_singleton]
          rw [gapF, ← gapF_congr (S := S) hpre, ← lastF_congr (S := S) (k := S.length) hpre, hat, lastF_succ, hat]
          simp only [List.getD_cons_zero, List.getD_cons_succ]
          omega
        · have h3' := h3 j hj
          rw [List.length_append, List.length_singleton, sntF, ← sntF_congr (S := S) hpre, hat]
          simp only [List.getD_cons_zero, List.getD_cons_succ]
          have hl := sntF_len S N S.length
          rw [cntT]
          by_cases ej : T t = (j : Int)
          · rw [if_pos ej, ej, Int.toNat_natCast]
            simp [List.getD_eq_getElem?_getD, hl, hj] at h3' ⊢
            omega
          · rw [if_neg ej]
            have : (T t).toNat ≠ j := by omega
            simp only [List.getD_eq_getElem?_getD, List.getElem?_set_ne this] at h3' ⊢
            exact h3'

/-! what is left of a job: its length less its ticks -/
theorem stL_cnt {z : List Int} {n : Nat} (h : okJs z n = true) {j : Nat} (hj : j < n) : ∀ t, (stL z n t).getD j 0 = jLen z j - cntT (tickB z n) j t
  | 0 => by simp [stL, lens, cntT, List.getD_eq_getElem?_getD, hj]
  | t + 1 => by
    obtain ⟨l1, _, _⟩ := st_inv h t
    obtain ⟨a1, a2⟩ := tick_range z n t
    have ih := stL_cnt h hj t
    have e : stL z n (t + 1) = less (stL z n t) (tickB z n t) := rfl
    rw [e, less_getD l1 ⟨a1, a2⟩ j hj, cntT]
    split <;> omega
theorem lfL_cnt {z : List Int} {n : Nat} (h : okJs z n = true) {j : Nat} (hj : j < n) (t : Nat) : ∀ k, (lfL z n (t : Int) k).getD j 0 = jLen z j - cntT (tickB z n) j (min t k)
  | 0 => by simp [lfL, lens, cntT, List.getD_eq_getElem?_getD, hj]
  | k + 1 => by
    obtain ⟨l1, _⟩ := lfL_inv h (t : Int) k
    obtain ⟨a1, a2⟩ := tick_range z n k
    have ih := lfL_cnt h hj t k
    rw [lfL]
    by_cases c : k < t
    · have e1 : min t (k + 1) = k + 1 := by omega
      have e2 : min t k = k := by omega
      rw [e1, cntT]
      rw [e2] at ih
      by_cases d : 0 ≤ tickB z n k
      · rw [if_pos ⟨by omega, d⟩]
        by_cases ej : tickB z n k = (j : Int)
        · rw [if_pos ej, ej, Int.toNat_natCast]
          simp [List.getD_eq_getElem?_getD, l1, hj] at ih ⊢
          omega
        · rw [if_neg ej]
          have hne : (tickB z n k).toNat ≠ j := by omega
          simp only [List.getD_eq_getElem?_getD, List.getElem?_set_ne hne] at ih ⊢
          omega
      · rw [if_neg (by omega), if_neg (by omega)]
        exact ih
    · have e1 : min t (k + 1) = min t k := by omega
      rw [if_neg (by omega), e1]
      exact ih
theorem cntT_mono (T : Nat → Int) (j : Int) (t : Nat) : ∀ d, cntT T j t ≤ cntT T j (t + d)
  | 0 => Int.le_refl _
  | d + 1 => by
    have := cntT_mono T j t d
    rw [show t + (d + 1) = (t + d) + 1 by omega, cntT]
    split <;> omega
/-- a job's ticks lie behind its arrival -/
theorem cntT_at {z : List Int} {n j : Nat} : ∀ t : Nat, cntT (tickB z n) (j : Int) t ≤ 0 ∨ cntT (tickB z n) (j : Int) t ≤ t - jAt z j
  | 0 => .inl (by simp [cntT])
  | t + 1 => by
    have ih := cntT_at (z := z) (n := n) (j := j) t
    rw [cntT]
    by_cases e : tickB z n t = (j : Int)
    · rw [if_pos e]
      obtain ⟨_, _, a3⟩ := bestN_range z (stL z n t) (t : Int) n
      change 0 ≤ tickB z n t → waitsB z (stL z n t) (t : Int) (tickB z n t).toNat = true at a3
      have hw := a3 (by omega)
      rw [e, Int.toNat_natCast, waits_iff] at hw
      omega
    · rw [if_neg e]
      omega
theorem idle_neg (z : List Int) (n : Nat) : ∀ t, idleAt z n t = negT (tickB z n) t
  | 0 => rfl
  | t + 1 => by rw [idleAt, negT, idle_neg z n t]
/-- the last tick serves -/
theorem last_serves {z : List Int} {n : Nat} (h : okJs z n = true) (h0 : 0 < endT z n) : 0 ≤ tickB z n (endT z n - 1) := by
  have key : ∃ t, t ≤ 680 ∧ (∀ s, s < t → 0 < stS z n s) ∧ stS z n t ≤ 0 := by
    have go : ∀ d t, (∀ s, s < t → 0 < stS z n s) → t + d = 681 → ∃ t, t ≤ 680 ∧ (∀ s, s < t → 0 < stS z n s) ∧ stS z n t ≤ 0 := by
      intro d
      induction d with
      | zero => intro t hs ht; have := st_t h hs; omega
      | succ d ih =>
        intro t hs ht
        by_cases h0 : stS z n t ≤ 0
        · exact ⟨t, by omega, hs, h0⟩
        · refine ih (t + 1) (fun s hst => ?_) (by omega)
          by_cases e : s = t
          · subst e; omega
          · exact hs s (by omega)
    exact go 681 0 (fun s hs => absurd hs (by omega)) rfl
  obtain ⟨t, h1, h2, h3⟩ := key
  have e := endT_eq z n t h2 h3 (by omega)
  rw [e] at h0 ⊢
  obtain ⟨m, rfl⟩ : ∃ m, t = m + 1 := ⟨t - 1, by omega⟩
  have hp := h2 m (by omega)
  rw [stS] at h3
  rw [Nat.add_sub_cancel]
  by_cases c : 0 ≤ tickB z n m
  · exact c
  · rw [if_neg c] at h3; omega
end Go.Proofs.Ytabafhmeefeioaa
