/- The plain law of held messages: starts are clear, the most held are held, nobody waits iff nobody is held. No condition. -/
import Derived.Test.YtlmfohjfbolhpaaHldJ
namespace Go.Proofs.Ytlmfohjfbolhpaa
open Go.RowKit
set_option linter.unusedSimpArgs false
set_option linter.unusedVariables false

/-- fogs in order: of two fogs of one link the earlier ends before the later begins -/
theorem fg_sorted {nL : Nat} {z : List Int} {n : Nat} (h : okFg nL z n = true) : ∀ i, i < n → ∀ j, j < i → f3a z j < f3a z i ∨ (f3a z j = f3a z i ∧ f3c z j < f3b z i)
  | 0, _, j, hj => by omega
  | i + 1, hi, j, hj => by
    have hw := (okFg_iff h).2 i (by omega)
    have h0 := h
    unfold okFg at h0
    rw [Bool.and_eq_true] at h0
    have hi1 := allB_get h0.2 (i + 1) hi
    unfold fgAt at hi1
    rw [Bool.and_eq_true, Bool.or_eq_true, decide_eq_true_eq] at hi1
    have hp := hi1.2.resolve_left (by omega)
    simp only [Nat.add_sub_cancel] at hp
    unfold fpB at hp
    rw [Bool.or_eq_true, Bool.and_eq_true, decide_eq_true_eq, decide_eq_true_eq, beq_iff_eq] at hp
    by_cases hji : j = i
    · subst hji; exact hp
    · have := fg_sorted h i (by omega) j (by omega)
      omega
/-- a start is clear of the fogs that were looked at -/
theorem stF_clear {nL : Nat} {z : List Int} {n : Nat} (h : okFg nL z n = true) (link s t : Int) (hs : 0 ≤ s) : ∀ k, k ≤ n → ∀ j, j < k → f3a z j = link → f3c z j ≤ stF z link s k t ∨ stF z link s k t + s ≤ f3b z j
  | 0, _, j, hj, _ => by omega
  | k + 1, hk, j, hj, hl => by
    have hj' := (okFg_iff h).2 k (by omega)
    rw [stF]
    by_cases hjk : j = k
    · subst hjk
      split <;> omega
    · have ih := stF_clear h link s t hs k (by omega) j (by omega) hl
      have hso := fg_sorted h k (by omega) j (by omega)
      split <;> omega
/-- a job's start is clear -/
theorem hsAt_clear {nL : Nat} {zF : List Int} {nF : Nat} {zJ : List Int} {m : Nat} {link : Int} (h : okFg nL zF nF = true) (hJ : okHs zJ m = true) (k : Nat) (hk : k < m) : ∀ j, j < nF → f3a zF j = link → f3c zF j ≤ hsAt zF nF link zJ k ∨ hsAt zF nF link zJ k + hCt zJ k * 10 ≤ f3b zF j := by
  have := (okHs_iff hJ).2 k hk
  intro j hj hl
  unfold hsAt hsOf
  exact stF_clear h link (hCt zJ k * 10) _ (by omega) nF (Nat.le_refl _) j hj hl
theorem hsAt_end {nL : Nat} {zF : List Int} {nF : Nat} {zJ : List Int} {link : Int} (h : okFg nL zF nF = true) (k : Nat) : hsEnd zF nF link zJ k ≤ hsAt zF nF link zJ k := by
  have := mxI_bd (hRd zJ k) (hsEnd zF nF link zJ k)
  have := stF_bd h link (hCt zJ k * 10) (mxI (hRd zJ k) (hsEnd zF nF link zJ k)) nF (Nat.le_refl _)
  unfold hsAt hsOf
  omega

theorem heldN_zero {zJ S : List Int} {t : Int} : ∀ k, heldN zJ S t k = 0 ↔ ∀ j, j < k → ¬ (hRd zJ j ≤ t ∧ t < S.getD j 0)
  | 0 => by simp [heldN]
  | k + 1 => by
    have ih := heldN_zero (zJ := zJ) (S := S) (t := t) k
    rw [heldN]
    constructor
    · intro h j hj
      split at h
      · omega
      · rename_i hk
        by_cases hjk : j = k
        · subst hjk; exact hk
        · exact ih.1 h j (by omega)
    · intro h
      rw [if_neg (h k (by omega))]
      exact ih.2 fun j hj => h j (by omega)
theorem mostH_zero {zJ S : List Int} {n : Nat} : ∀ k, (mostH zJ S n k).2 = 0 ↔ ∀ j, j < k → heldN zJ S (hRd zJ j) n = 0
  | 0 => by simp [mostH]
  | k + 1 => by
    have ih := mostH_zero (zJ := zJ) (S := S) (n := n) k
    have hb := mostH_bd zJ S n k
    rw [mostH]
    constructor
    · intro h j hj
      split at h
      · rename_i hk
        simp only at h
        omega
      · rename_i hk
        by_cases hjk : j = k
        · subst hjk
          omega
        · exact ih.1 h j (by omega)
    · intro h
      have hk := h k (by omega)
      rw [if_neg (by omega)]
      exact ih.2 fun j hj => h j (by omega)
theorem mostH_at {zJ S : List Int} {n : Nat} : ∀ k, mostH zJ S n k = (0, 0) ∨ ∃ j, j < k ∧ (mostH zJ S n k).1 = hRd zJ j ∧ ((heldN zJ S (hRd zJ j) n : Nat) : Int) = (mostH zJ S n k).2
  | 0 => .inl rfl
  | k + 1 => by
    have ih := mostH_at (zJ := zJ) (S := S) (n := n) k
    rw [mostH]
    split
    · exact .inr ⟨k, by omega, rfl, rfl⟩
    · rcases ih with h | ⟨j, hj, h1, h2⟩
      · exact .inl h
      · exact .inr ⟨j, by omega, h1, h2⟩
/-- the most held are held where they are said to be -/
theorem most_held {zJ S : List Int} {n : Nat} (hR : ∀ j, j < n → 0 ≤ hRd zJ j ∧ hRd zJ j ≤ 10000) : ((heldN zJ S (mostH zJ S n n).1 n : Nat) : Int) = (mostH zJ S n n).2 ∧ 0 ≤ (mostH zJ S n n).1 ∧ (mostH zJ S n n).1 ≤ 10000 := by
  rcases mostH_at (zJ := zJ) (S := S) (n := n) n with h | ⟨j, hj, h1, h2⟩
  · have hz := (mostH_zero (zJ := zJ) (S := S) (n := n) n).1 (by rw [h])
    rw [h]
    refine ⟨?_, by simp, by simp⟩
    have : heldN zJ S 0 n = 0 := by
      rw [heldN_zero]
      intro j hj hc
      have hr := hR j hj
      have h0 : hRd zJ j = 0 := by omega
      have := hz j hj
      rw [h0, heldN_zero] at this
      exact this j hj hc
    simp [this]
  · rw [h1]
    have hr := hR j hj
    exact ⟨h2, hr⟩
theorem waitS_zero {zJ S : List Int} {n : Nat} (hS : ∀ j, j < n → hRd zJ j ≤ S.getD j 0) : ∀ k, k ≤ n → 0 ≤ waitS zJ S k ∧ (waitS zJ S k = 0 ↔ ∀ j, j < k → S.getD j 0 = hRd zJ j)
  | 0, _ => by simp [waitS]
  | k + 1, hk => by
    have ih := waitS_zero hS k (by omega)
    have hs := hS k (by omega)
    rw [waitS]
    refine ⟨by omega, ?_⟩
    constructor
    · intro h j hj
      by_cases hjk : j = k
      · subst hjk; omega
      · exact ih.2.1 (by omega) j (by omega)
    · intro h
      have h1 := ih.2.2 fun j hj => h j (by omega)
      have h2 := h k (by omega)
      omega
/-- nobody waits iff nobody is ever held -/
theorem most_wait {zJ S : List Int} {n : Nat} (hS : ∀ j, j < n → hRd zJ j ≤ S.getD j 0) : (mostH zJ S n n).2 = 0 ↔ waitS zJ S n = 0 := by
  rw [mostH_zero, (waitS_zero hS n (Nat.le_refl _)).2]
  constructor
  · intro h j hj
    have h1 := h j hj
    rw [heldN_zero] at h1
    have h2 := h1 j hj
    have := hS j hj
    omega
  · intro h j hj
    rw [heldN_zero]
    intro i hi hc
    have := h i hi
    omega
end Go.Proofs.Ytlmfohjfbolhpaa
