/- A greater priority never finishes a job later: the plain law; the last tick. No condition. -/
import Derived.Test.YtabafhmeefeioaaPriJ
namespace Go.Proofs.Ytabafhmeefeioaa
open Go.RowKit
set_option linter.unusedSimpArgs false
set_option linter.unusedVariables false

/-! a greater priority never finishes a job later -/
def beats (z : List Int) (a b : Nat) : Prop := jPr z b < jPr z a ∨ (jPr z a = jPr z b ∧ (jAt z a < jAt z b ∨ (jAt z a = jAt z b ∧ a < b)))
theorem beats_trans {z : List Int} {a b c : Nat} (h : beats z a b) (k : beats z b c) : beats z a c := by
  unfold beats at *; omega
theorem beats_asymm {z : List Int} {a b : Nat} (h : beats z a b) : ¬ beats z b a := by
  unfold beats at *; omega
/-- the job of a tick is the best one that waits -/
theorem bestN_best (z left : List Int) (t : Int) : ∀ i k, k < i → waitsB z left t k = true → ∃ m : Nat, bestN z left t i = (m : Int) ∧ (k = m ∨ beats z m k)
  | 0, k, hk, _ => absurd hk (by omega)
  | i + 1, k, hk, hw => by
    obtain ⟨r1, r2, r3⟩ := bestN_range z left t i
    rw [bestN]
    by_cases hki : k = i
    · subst hki
      rw [if_pos hw]
      by_cases ht : takes z k (bestN z left t k) = true
      · rw [if_pos ht]
        exact ⟨k, rfl, .inl rfl⟩
      · rw [if_neg ht]
        unfold takes at ht
        simp only [Bool.or_eq_true, decide_eq_true_eq, Bool.and_eq_true, beq_iff_eq, not_or, not_and] at ht
        obtain ⟨h1, h2, h3⟩ := ht
        refine ⟨(bestN z left t k).toNat, by omega, .inr ?_⟩
        unfold beats
        have hlt : (bestN z left t k).toNat < k := by omega
        by_cases e : jPr z k = jPr z (bestN z left t k).toNat
        · have := h3 e
          right
          refine ⟨e.symm, ?_⟩
          omega
        · left; omega
    · obtain ⟨m, hm, hb⟩ := bestN_best z left t i k (by omega) hw
      by_cases hwi : waitsB z left t i = true
      · rw [if_pos hwi]
        by_cases ht : takes z i (bestN z left t i) = true
        · rw [if_pos ht]
          refine ⟨i, rfl, .inr ?_⟩
          unfold takes at ht
          simp only [Bool.or_eq_true, decide_eq_true_eq, Bool.and_eq_true, beq_iff_eq] at ht
          rw [hm, Int.toNat_natCast] at ht
          have him : beats z i m := by
            unfold beats
            rcases ht with ht | ht | ht
            · omega
            · exact .inl ht
            · exact .inr ⟨ht.1, .inl ht.2⟩
          rcases hb with rfl | hb
          · exact him
          · exact beats_trans him hb
        · rw [if_neg ht]
          exact ⟨m, hm, hb⟩
      · rw [if_neg hwi]
        exact ⟨m, hm, hb⟩
theorem less_getD {left : List Int} {b : Int} {n : Nat} (hl : left.length = n) (hb : -1 ≤ b ∧ b < n) (j : Nat) (hj : j < n) : (less left b).getD j 0 = if b = (j : Int) then left.getD j 0 - 1 else left.getD j 0 := by
  unfold less
  by_cases h0 : 0 ≤ b
  · rw [if_pos h0]
    by_cases e : b = (j : Int)
    · subst e
      rw [if_pos rfl, Int.toNat_natCast]
      simp [List.getD_eq_getElem?_getD, hl, hj]
    · rw [if_neg e]
      have : b.toNat ≠ j := by omega
      simp [List.getD_eq_getElem?_getD, List.getElem?_set_ne this]
  · rw [if_neg h0, if_neg (by omega)]
theorem waits_iff {z left : List Int} {t : Int} {j : Nat} : waitsB z left t j = true ↔ jAt z j ≤ t ∧ left.getD j 0 ≠ 0 := by
  unfold waitsB
  simp only [Bool.and_eq_true, decide_eq_true_eq, Bool.not_eq_true', beq_eq_false_iff_ne]

section
variable {z z' : List Int} {n i : Nat}
/-- z' is z, but that job i has a greater priority, or the same -/
structure Up (z z' : List Int) (n i : Nat) : Prop where
  at_ : ∀ j, jAt z' j = jAt z j
  len : ∀ j, jLen z' j = jLen z j
  pr : ∀ j, j ≠ i → jPr z' j = jPr z j
  up : jPr z i ≤ jPr z' i
theorem Up.oth (h : Up z z' n i) {a b : Nat} (ha : a ≠ i) (hb : b ≠ i) : beats z' a b ↔ beats z a b := by
  unfold beats
  rw [h.at_, h.at_, h.pr a ha, h.pr b hb]
theorem Up.more (h : Up z z' n i) {b : Nat} (hb : b ≠ i) (k : beats z i b) : beats z' i b := by
  unfold beats at *
  rw [h.at_, h.at_, h.pr b hb]
  have := h.up
  omega

theorem up_inv (h : Up z z' n i) (h1 : okJs z n = true) (h2 : okJs z' n = true) (hi : i < n) : ∀ t, (∀ j, j < n → j ≠ i → beats z' j i → (stL z n t).getD j 0 = (stL z' n t).getD j 0) ∧ (stL z' n t).getD i 0 ≤ (stL z n t).getD i 0
  | 0 => by
    have e : ∀ j, j < n → (stL z n 0).getD j 0 = (stL z' n 0).getD j 0 := fun j hj => by
      simp [stL, lens, List.getD_eq_getElem?_getD, hj, h.len]
    exact ⟨fun j hj _ _ => e j hj, by rw [e i hi]; exact Int.le_refl _⟩
  | t + 1 => by
    obtain ⟨ih1, ih2⟩ := up_inv h h1 h2 hi t
    obtain ⟨l1, n1, _⟩ := st_inv h1 t
    obtain ⟨l2, n2, _⟩ := st_inv h2 t
    obtain ⟨a1, a2, a3⟩ := bestN_range z (stL z n t) t n
    obtain ⟨b1, b2, b3⟩ := bestN_range z' (stL z' n t) t n
    have B1 := bestN_best z (stL z n t) t n
    have B2 := bestN_best z' (stL z' n t) t n
    rw [stL, stL]
    generalize bestN z (stL z n t) t n = b at *
    generalize bestN z' (stL z' n t) t n = b' at *
    have G1 := less_getD l1 ⟨a1, a2⟩
    have G2 := less_getD l2 ⟨b1, b2⟩
    -- a job that beats i is sent in one run just if it is in the other
    have same : ∀ j, j < n → j ≠ i → beats z' j i → (b = (j : Int) ↔ b' = (j : Int)) := by
      intro j hj hji hb
      constructor
      · rintro rfl
        have hw := a3 (by omega)
        rw [Int.toNat_natCast, waits_iff] at hw
        obtain ⟨m, rfl, hm⟩ := B2 j hj (waits_iff.2 ⟨by rw [h.at_]; exact hw.1, by rw [← ih1 j hj hji hb]; exact hw.2⟩)
        rcases hm with rfl | hm
        · rfl
        · exfalso
          have hmi : m ≠ i := fun e => beats_asymm hb (e ▸ hm)
          have hmb := beats_trans hm hb
          have hmw := b3 (by omega)
          rw [Int.toNat_natCast, waits_iff] at hmw
          obtain ⟨q, hq, hqm⟩ := B1 m (by omega) (waits_iff.2 ⟨by rw [← h.at_]; exact hmw.1, by rw [ih1 m (by omega) hmi hmb]; exact hmw.2⟩)
          obtain rfl : j = q := by omega
          have hbz := (h.oth hmi hji).1 hm
          rcases hqm with e | hqm
          · subst e; exact beats_asymm hm hm
          · exact beats_asymm hbz hqm
      · rintro rfl
        have hw := b3 (by omega)
        rw [Int.toNat_natCast, waits_iff] at hw
        obtain ⟨m, rfl, hm⟩ := B1 j hj (waits_iff.2 ⟨by rw [← h.at_]; exact hw.1, by rw [ih1 j hj hji hb]; exact hw.2⟩)
        rcases hm with rfl | hm
        · rfl
        · exfalso
          by_cases hmi : m = i
          · subst hmi
            exact beats_asymm hb (h.more hji hm)
          · have hm' := (h.oth hmi hji).2 hm
            have hmb := beats_trans hm' hb
            have hmw := a3 (by omega)
            rw [Int.toNat_natCast, waits_iff] at hmw
            obtain ⟨q, hq, hqm⟩ := B2 m (by omega) (waits_iff.2 ⟨by rw [h.at_]; exact hmw.1, by rw [← ih1 m (by omega) hmi hmb]; exact hmw.2⟩)
            obtain rfl : j = q := by omega
            rcases hqm with e | hqm
            · subst e; exact beats_asymm hm hm
            · exact beats_asymm hm' hqm
    refine ⟨fun j hj hji hb => ?_, ?_⟩
    · rw [G1 j hj, G2 j hj, ih1 j hj hji hb]
      by_cases e : b = (j : Int)
      · rw [if_pos e, if_pos ((same j hj hji hb).1 e)]
      · rw [if_neg e, if_neg (fun e' => e ((same j hj hji hb).2 e'))]
    · rw [G1 i hi, G2 i hi]
      have g1 := n1 _ (getD_mem (l := stL z n t) (i := i) (by omega))
      have g2 := n2 _ (getD_mem (l := stL z' n t) (i := i) (by omega))
      by_cases e : b = (i : Int)
      · rw [if_pos e]
        subst e
        have hw := a3 (by omega)
        rw [Int.toNat_natCast, waits_iff] at hw
        by_cases h0 : (stL z' n t).getD i 0 = 0
        · rw [h0] at ih2 ⊢
          split <;> omega
        · obtain ⟨m, hm', hm⟩ := B2 i hi (waits_iff.2 ⟨by rw [h.at_]; exact hw.1, h0⟩)
          rcases hm with rfl | hm
          · rw [if_pos hm']; omega
          · exfalso
            have hmi : m ≠ i := fun e => by rw [e] at hm; exact beats_asymm hm hm
            have hmw := b3 (by omega)
            rw [hm', Int.toNat_natCast, waits_iff] at hmw
            obtain ⟨q, hq, hqm⟩ := B1 m (by omega) (waits_iff.2 ⟨by rw [← h.at_]; exact hmw.1, by rw [ih1 m (by omega) hmi hm]; exact hmw.2⟩)
            obtain rfl : i = q := by omega
            rcases hqm with e | hqm
            · exact hmi e
            · exact beats_asymm hm (h.more hmi hqm)
      · rw [if_neg e]
        split <;> omega
end

/-! finish times -/
theorem left_zero_stays {z : List Int} {n i : Nat} (h : okJs z n = true) (hi : i < n) {t : Nat} (h0 : (stL z n t).getD i 0 = 0) : ∀ d, (stL z n (t + d)).getD i 0 = 0
  | 0 => h0
  | d + 1 => by
    have ih := left_zero_stays h hi h0 d
    obtain ⟨l1, _, _⟩ := st_inv h (t + d)
    obtain ⟨a1, a2, a3⟩ := bestN_range z (stL z n (t + d)) ((t + d : Nat) : Int) n
    rw [show t + (d + 1) = (t + d) + 1 by omega, stL, less_getD l1 ⟨a1, a2⟩ i hi, if_neg, ih]
    intro e
    have := a3 (by omega)
    rw [e, Int.toNat_natCast, waits_iff] at this
    exact this.2 ih
/-- behind k ticks: the finish time is the first tick by which nothing of the job was left, or the tick behind its last signal so far -/
theorem fin_spec {z : List Int} {n i : Nat} (h : okJs z n = true) (hi : i < n) : ∀ k : Nat, (∀ t : Nat, (finL z n k).getD i 0 ≤ (t : Int) → t ≤ k → (stL z n t).getD i 0 = (stL z n k).getD i 0) ∧ (∀ t : Nat, (t : Int) < (finL z n k).getD i 0 → (stL z n t).getD i 0 ≠ 0) ∧ (finL z n k).getD i 0 ≤ k
  | 0 => by
    refine ⟨fun t _ ht => by rw [show t = 0 by omega], fun t ht => ?_, ?_⟩
    · simp [finL, List.getD_eq_getElem?_getD, hi] at ht
      omega
    · simp [finL, List.getD_eq_getElem?_getD, hi]
  | k + 1 => by
    obtain ⟨h1, h2, h3⟩ := fin_spec h hi k
    obtain ⟨f1, f2⟩ := finL_inv z n k
    obtain ⟨l1, g1, _⟩ := st_inv h k
    obtain ⟨a1, a2, a3⟩ := bestN_range z (stL z n k) (k : Int) n
    have hL := less_getD l1 ⟨a1, a2⟩ i hi
    have eS : stL z n (k + 1) = less (stL z n k) (tickB z n k) := by rw [stL]; rfl
    rw [finL, eS]
    change -1 ≤ tickB z n k at a1
    change tickB z n k < (n : Int) at a2
    change 0 ≤ tickB z n k → waitsB z (stL z n k) (k : Int) (tickB z n k).toNat = true at a3
    change (less (stL z n k) (tickB z n k)).getD i 0 = _ at hL
    change (less (stL z n k) (tickB z n k)).getD i 0 = if tickB z n k = (i : Int) then (stL z n k).getD i 0 - 1 else (stL z n k).getD i 0 at hL
    by_cases e : tickB z n k = (i : Int)
    · rw [if_pos (by omega)]
      have hw := a3 (by omega)
      rw [e, Int.toNat_natCast, waits_iff] at hw
      rw [e, Int.toNat_natCast]
      have hs : ((finL z n k).set i ((k : Int) + 1)).getD i 0 = (k : Int) + 1 := by simp [List.getD_eq_getElem?_getD, f1, hi]
      rw [hs]
      refine ⟨fun t ht htk => ?_, fun t ht h0 => ?_, by omega⟩
      · have : t = k + 1 := by omega
        subst this
        rw [eS, e]
      · have := left_zero_stays h hi h0 (k - t)
        rw [show t + (k - t) = k by omega] at this
        exact hw.2 this
    · rw [if_neg e] at hL
      rw [hL]
      have hs : (if 0 ≤ tickB z n k then (finL z n k).set (tickB z n k).toNat ((k : Int) + 1) else finL z n k).getD i 0 = (finL z n k).getD i 0 := by
        by_cases h0 : 0 ≤ tickB z n k
        · rw [if_pos h0]
          have : (tickB z n k).toNat ≠ i := by omega
          simp [List.getD_eq_getElem?_getD, List.getElem?_set_ne this]
        · rw [if_neg h0]
      rw [hs]
      refine ⟨fun t ht htk => ?_, h2, by omega⟩
      by_cases etk : t = k + 1
      · subst etk
        rw [eS, hL]
      · exact h1 t ht (by omega)
theorem end_zero {z : List Int} {n i : Nat} (h : okJs z n = true) (he : stS z n (endT z n) ≤ 0) (hi : i < n) : (stL z n (endT z n)).getD i 0 = 0 := by
  obtain ⟨l1, g1, s1⟩ := st_inv h (endT z n)
  rw [← s1] at he
  have key : ∀ (l : List Int), (∀ x ∈ l, 0 ≤ x) → l.sum ≤ 0 → ∀ j, l.getD j 0 = 0 := by
    intro l
    induction l with
    | nil => intro _ _ j; simp
    | cons x l ih =>
      intro hx hs j
      have h1 := hx x List.mem_cons_self
      have h2 := sum_nonneg l (fun y hy => hx y (List.mem_cons_of_mem _ hy))
      simp only [List.sum_cons] at hs
      cases j with
      | zero => simp; omega
      | succ j => simpa using ih (fun y hy => hx y (List.mem_cons_of_mem _ hy)) (by omega) j
  exact key _ (fun x hx => (g1 x hx).1) he i
theorem fin_le_iff {z : List Int} {n i : Nat} (h : okJs z n = true) (he : stS z n (endT z n) ≤ 0) (hi : i < n) (t : Nat) : (finL z n (endT z n)).getD i 0 ≤ (t : Int) ↔ (stL z n t).getD i 0 = 0 := by
  obtain ⟨h1, h2, h3⟩ := fin_spec h hi (endT z n)
  have hz := end_zero h he hi
  constructor
  · intro hf
    rcases Nat.le_total t (endT z n) with c | c
    · rw [h1 t hf c]; exact hz
    · have := left_zero_stays h hi hz (t - endT z n)
      rw [show endT z n + (t - endT z n) = t by omega] at this
      exact this
  · intro h0
    rcases Int.lt_or_le (t : Int) ((finL z n (endT z n)).getD i 0) with c | c
    · exact absurd h0 (h2 t c)
    · exact c
/-- a greater priority finishes the job no later -/
theorem fin_mono {z z' : List Int} {n i : Nat} (h : Up z z' n i) (h1 : okJs z n = true) (h2 : okJs z' n = true) (e1 : stS z n (endT z n) ≤ 0) (e2 : stS z' n (endT z' n) ≤ 0) (hi : i < n) : (finL z' n (endT z' n)).getD i 0 ≤ (finL z n (endT z n)).getD i 0 := by
  obtain ⟨f1, f2⟩ := finL_inv z n (endT z n)
  have hp := (f2 _ (getD_mem (l := finL z n (endT z n)) (i := i) (by omega))).1
  obtain ⟨T, hT⟩ := Int.eq_ofNat_of_zero_le hp
  rw [hT]
  rw [fin_le_iff h2 e2 hi]
  have h0 := (fin_le_iff h1 e1 hi T).1 (by omega)
  have := (up_inv h h1 h2 hi T).2
  obtain ⟨l2, g2, _⟩ := st_inv h2 T
  have := (g2 _ (getD_mem (l := stL z' n T) (i := i) (by omega))).1
  omega

theorem end_stS {z : List Int} {n : Nat} (h : okJs z n = true) : stS z n (endT z n) ≤ 0 := by
  have : ∃ t, t ≤ 680 ∧ (∀ s, s < t → 0 < stS z n s) ∧ stS z n t ≤ 0 := by
    have go : ∀ d t, (∀ s, s < t → 0 < stS z n s) → t + d = 681 → ∃ t, t ≤ 680 ∧ (∀ s, s < t → 0 < stS z n s) ∧ stS z n t ≤ 0 := by
      intro d
      induction d with
      | zero => intro t hs ht; have := st_t h hs; omega
      | succ d ih =>
        intro t hs ht
        by_cases h0 : stS z n t ≤ 0
        · exact ⟨t, by omega, hs, h0⟩
        · refine ih (t + 1) (fun s hst => ?_) (by omega)
          by_cases e : s = t
          · subst e; omega
          · exact hs s (by omega)
    exact go 681 0 (fun s hs => absurd hs (by omega)) rfl
  obtain ⟨t, h1, h2, h3⟩ := this
  rw [endT_eq z n t h2 h3 (by omega)]
  exact h3
theorem setP_up {z : List Int} {n i : Nat} {p : Int} (hl : z.length = n * 3) (hi : i < n) (hp : jPr z i ≤ p) : Up z (setP z i p) n i where
  at_ j := (setP_at z i p j).1
  len j := (setP_at z i p j).2
  pr j hj := by rw [setP_pr z i p (by omega), if_neg hj]
  up := by rw [setP_pr z i p (by omega), if_pos rfl]; exact hp
theorem setP_dn {z : List Int} {n i : Nat} {p : Int} (hl : z.length = n * 3) (hi : i < n) (hp : p ≤ jPr z i) : Up (setP z i p) z n i where
  at_ j := (setP_at z i p j).1.symm
  len j := (setP_at z i p j).2.symm
  pr j hj := by rw [setP_pr z i p (by omega), if_neg hj]
  up := by rw [setP_pr z i p (by omega), if_pos rfl]; exact hp
theorem fin_up {z z' : List Int} {n i : Nat} (h : Up z z' n i) (h1 : okJs z n = true) (h2 : okJs z' n = true) (hi : i < n) : (finJ z' n).getD i 0 ≤ (finJ z n).getD i 0 := fin_mono h h1 h2 (end_stS h1) (end_stS h2) hi
end Go.Proofs.Ytabafhmeefeioaa
