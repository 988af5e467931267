/- The plain law of hand-overs: hours of duty are kept, assigned operators rest and are as few as can be. No condition. -/
import Derived.Test.YtijeieacoaopcaaShoF
import Derived.Test.YtijeieacoaopcaaShxH
namespace Go.Proofs.Ytijeieacoaopcaa
open Go.RowKit
set_option linter.unusedSimpArgs false
set_option linter.unusedVariables false

/-- hours on duty, over triples -/
def dS (p : Int) : List Tri → Int
  | [] => 0
  | x :: T => (if x.1 = p then x.2.2 - x.2.1 else 0) + dS p T
theorem dS_app (p : Int) : ∀ A B : List Tri, dS p (A ++ B) = dS p A + dS p B
  | [], B => by simp [dS]
  | x :: A, B => by rw [List.cons_append, dS, dS, dS_app p A B]; omega
theorem dS_perm (p : Int) {A B : List Tri} (h : A.Perm B) : dS p A = dS p B := by
  induction h with
  | nil => rfl
  | cons x _ ih => rw [dS, dS, ih]
  | swap x y l => rw [dS, dS, dS, dS]; omega
  | trans _ _ h1 h2 => rw [h1, h2]
theorem dutyH_dS (z : List Int) (p : Int) : ∀ n, dutyH z p n = dS p (tri z n)
  | 0 => rfl
  | n + 1 => by
    rw [dutyH, tri_succ, dS_app, dutyH_dS z p n]
    simp only [dS, triAt]
    split <;> omega
theorem dutyH_srt (z : List Int) (p : Int) (n : Nat) : dutyH (srtZ z n) p n = dutyH z p n := by
  rw [dutyH_dS, dutyH_dS, dS_perm p (srtZ_perm z n)]
theorem hoZ_get {z : List Int} {n i : Nat} {h p : Int} (hz : z.length = n * 3) (hi : i < n) : (∀ k, k < n → shOp (hoZ z i h p) k = shOp z k ∧ shFr (hoZ z i h p) k = shFr z k ∧ shTo (hoZ z i h p) k = if k = i then h else shTo z k) ∧ shOp (hoZ z i h p) n = p ∧ shFr (hoZ z i h p) n = h ∧ shTo (hoZ z i h p) n = shTo z i := by
  have hg : ∀ j, (hoZ z i h p).getD j 0 = if j = i * 3 + 2 then h else (z ++ [p, h, shTo z i]).getD j 0 := fun j => by
    unfold hoZ
    rw [List.getD_eq_getElem?_getD, List.getElem?_set]
    by_cases e : i * 3 + 2 = j
    · rw [if_pos e, if_pos (by simp [hz]; omega), if_pos e.symm]; rfl
    · rw [if_neg e, if_neg (Ne.symm e), List.getD_eq_getElem?_getD]
  refine ⟨fun k hk => ⟨?_, ?_, ?_⟩, ?_, ?_, ?_⟩
  · unfold shOp; rw [hg, if_neg (by omega), getD_app_left (by omega)]
  · unfold shFr; rw [hg, if_neg (by omega), getD_app_left (by omega)]
  · unfold shTo
    rw [hg]
    by_cases e : k = i
    · subst e; rw [if_pos rfl, if_pos rfl]
    · rw [if_neg (by omega), if_neg e, getD_app_left (by omega)]
  · unfold shOp; rw [hg, if_neg (by omega), getD_app_right (by omega), hz, Nat.sub_self]; rfl
  · unfold shFr; rw [hg, if_neg (by omega), getD_app_right (by omega), show n * 3 + 1 - z.length = 1 by omega]; rfl
  · rw [shTo, hg, if_neg (by omega), getD_app_right (by omega), show n * 3 + 2 - z.length = 2 by omega]; rfl
theorem dutyH_ho {z : List Int} {n i : Nat} {h p : Int} (hz : z.length = n * 3) (hi : i < n) (q : Int) : ∀ k, k ≤ n → dutyH (hoZ z i h p) q k = dutyH z q k + if i < k ∧ shOp z i = q then h - shTo z i else 0
  | 0, _ => by simp [dutyH]
  | k + 1, hk => by
    obtain ⟨h1, h2, h3⟩ := (hoZ_get (h := h) (p := p) hz hi).1 k (by omega)
    rw [dutyH, dutyH, dutyH_ho hz hi q k (by omega), h1, h2, h3]
    by_cases e : k = i
    · subst e
      rw [if_pos rfl]
      by_cases c : shOp z k = q
      · rw [if_pos c, if_pos c, if_neg (by omega), if_pos ⟨by omega, c⟩]; omega
      · rw [if_neg c, if_neg c, if_neg (by omega), if_neg (fun x => c x.2)]
    · rw [if_neg e]
      by_cases c : shOp z k = q
      · rw [if_pos c, if_pos c]
        by_cases d : i < k ∧ shOp z i = q
        · rw [if_pos d, if_pos ⟨by omega, d.2⟩]; omega
        · rw [if_neg d, if_neg (fun x => d ⟨by omega, x.2⟩)]; omega
      · rw [if_neg c, if_neg c]
        by_cases d : i < k ∧ shOp z i = q
        · rw [if_pos d, if_pos ⟨by omega, d.2⟩]
        · rw [if_neg d, if_neg (fun x => d ⟨by omega, x.2⟩)]
/-- the hours of the operator who takes over -/
theorem duty_hand {z : List Int} {n i : Nat} {h p : Int} (hz : z.length = n * 3) (hi : i < n) : dutyH (srtZ (hoZ z i h p) (n + 1)) p (n + 1) = if shOp z i = p then dutyH z p n else dutyH z p n + (shTo z i - h) := by
  obtain ⟨_, h1, h2, h3⟩ := hoZ_get (h := h) (p := p) hz hi
  rw [dutyH_srt, dutyH, h1, h2, h3, if_pos rfl, dutyH_ho hz hi p n (Nat.le_refl _)]
  by_cases c : shOp z i = p
  · rw [if_pos ⟨hi, c⟩, if_pos c]; omega
  · rw [if_neg (fun x => c x.2), if_neg c]; omega

/-- shifts among the first k that end, with their rest, behind f -/
def busyN (z : List Int) (r f : Int) : Nat → Nat
  | 0 => 0
  | k + 1 => if f < shTo z k + r then busyN z r f k + 1 else busyN z r f k
def cntE (r f : Int) : List Int → Nat
  | [] => 0
  | x :: l => (if f < x + r then 1 else 0) + cntE r f l
theorem cntE_app (r f : Int) : ∀ A B : List Int, cntE r f (A ++ B) = cntE r f A + cntE r f B
  | [], B => by simp [cntE]
  | x :: A, B => by rw [List.cons_append, cntE, cntE, cntE_app r f A B]; omega
theorem cntE_set (r f t : Int) : ∀ (A : List Int) (j : Nat), cntE r f (A.set j t) ≤ cntE r f A + if f < t + r then 1 else 0
  | [], j => by simp [cntE]
  | x :: A, 0 => by rw [List.set_cons_zero, cntE, cntE]; split <;> split <;> omega
  | x :: A, j + 1 => by have := cntE_set r f t A j; rw [List.set_cons_succ, cntE, cntE]; omega
theorem cntE_busy (z : List Int) (r f : Int) : ∀ k, cntE r f (asE z r k) ≤ busyN z r f k
  | 0 => Nat.le_refl _
  | k + 1 => by
    have ih := cntE_busy z r f k
    rw [asE, busyN]
    by_cases c : f < shTo z k + r
    · rw [if_pos c]
      split
      · have := cntE_set r f (shTo z k) (asE z r k) (firstI (frP r (shFr z k)) (asE z r k))
        rw [if_pos c] at this; omega
      · rw [cntE_app]; simp only [cntE]; rw [if_pos c]; omega
    · rw [if_neg c]
      split
      · have := cntE_set r f (shTo z k) (asE z r k) (firstI (frP r (shFr z k)) (asE z r k))
        rw [if_neg c] at this; omega
      · rw [cntE_app]; simp only [cntE]; rw [if_neg c]; omega
theorem firstI_cnt (r f : Int) : ∀ l : List Int, firstI (frP r f) l ≤ cntE r f l
  | [] => Nat.le_refl _
  | x :: l => by
    have ih := firstI_cnt r f l
    rw [firstI, cntE]
    by_cases c : x + r ≤ f
    · rw [if_pos (by unfold frP; simpa using c)]; omega
    · rw [if_neg (by unfold frP; simpa using c), if_pos (by omega)]; omega
/-- an operator's earlier shifts end no later than what is kept of him -/
theorem asE_max {z : List Int} {n : Nat} (ok : okSs z n = true) (r : Int) (hr : 0 ≤ r) : ∀ k, k ≤ n → ∀ j, j < k → firstI (frP r (shFr z j)) (asE z r j) < (asE z r k).length ∧ shTo z j ≤ (asE z r k).getD (firstI (frP r (shFr z j)) (asE z r j)) 0
  | 0, _, j, hj => by omega
  | k + 1, hk, j, hj => by
    have hb := okSs_bd ok k (by omega)
    have hle := firstI_le (frP r (shFr z k)) (asE z r k)
    rw [asE]
    by_cases c : firstI (frP r (shFr z k)) (asE z r k) < (asE z r k).length
    · rw [if_pos c]
      by_cases e : j = k
      · subst e
        refine ⟨by simpa using c, ?_⟩
        rw [List.getD_eq_getElem?_getD, List.getElem?_set_self c]
        exact Int.le_refl _
      · obtain ⟨h1, h2⟩ := asE_max ok r hr k (by omega) j (by omega)
        refine ⟨by simpa using h1, ?_⟩
        rw [List.getD_eq_getElem?_getD, List.getElem?_set]
        by_cases d : firstI (frP r (shFr z k)) (asE z r k) = firstI (frP r (shFr z j)) (asE z r j)
        · rw [if_pos d, if_pos c]
          have h3 := (firstI_at c).1
          have h4 : (asE z r k).getD (firstI (frP r (shFr z k)) (asE z r k)) 0 + r ≤ shFr z k := of_decide_eq_true h3
          rw [d] at h4
          show shTo z j ≤ shTo z k
          omega
        · rw [if_neg d, ← List.getD_eq_getElem?_getD]
          exact h2
    · rw [if_neg c]
      by_cases e : j = k
      · subst e
        refine ⟨by simp; omega, ?_⟩
        rw [getD_app_right (by omega), show firstI (frP r (shFr z j)) (asE z r j) - (asE z r j).length = 0 by omega]
        exact Int.le_refl _
      · obtain ⟨h1, h2⟩ := asE_max ok r hr k (by omega) j (by omega)
        refine ⟨by simp; omega, ?_⟩
        rw [getD_app_left h1]
        exact h2
theorem asO_getD (z : List Int) (r : Int) : ∀ n j, j < n → (asO z r n).getD j 0 = (firstI (frP r (shFr z j)) (asE z r j) : Int) + 1
  | 0, j, hj => by omega
  | n + 1, j, hj => by
    rw [asO]
    by_cases e : j = n
    · subst e
      rw [getD_app_right (by rw [asO_length]; omega), asO_length, Nat.sub_self]
      rfl
    · rw [getD_app_left (by rw [asO_length]; omega)]
      exact asO_getD z r n j (by omega)
/-- what the law asks of shift i -/
theorem as_law {z : List Int} {n : Nat} (ok : okSs z n = true) (r : Int) (hr : 0 ≤ r) (i : Nat) (hi : i < n) :
    (1 ≤ (asO z r n).getD i 0 ∧ (asO z r n).getD i 0 ≤ n) ∧ (asO z r n).getD i 0 ≤ (busyN z r (shFr z i) (i + 1) : Nat) ∧ ∀ k, k < i → (asO z r n).getD k 0 = (asO z r n).getD i 0 → ¬ shFr z i < shTo z k + r := by
  have hb := okSs_bd ok i hi
  have h1 := firstI_cnt r (shFr z i) (asE z r i)
  have h2 := cntE_busy z r (shFr z i) i
  have h3 := asE_inv ok r i (by omega)
  have h4 := firstI_le (frP r (shFr z i)) (asE z r i)
  rw [asO_getD z r n i hi]
  refine ⟨⟨by omega, by omega⟩, ?_, fun k hk e hc => ?_⟩
  · rw [busyN, if_pos (by omega)]
    omega
  · rw [asO_getD z r n k (by omega)] at e
    obtain ⟨h5, h6⟩ := asE_max ok r hr i (by omega) k hk
    have e2 : firstI (frP r (shFr z k)) (asE z r k) = firstI (frP r (shFr z i)) (asE z r i) := by omega
    rw [e2] at h5 h6
    have h7 := (firstI_at h5).1
    have h8 : (asE z r i).getD (firstI (frP r (shFr z i)) (asE z r i)) 0 + r ≤ shFr z i := of_decide_eq_true h7
    omega
theorem busyN_le (z : List Int) (r f : Int) : ∀ k, busyN z r f k ≤ k
  | 0 => Nat.le_refl _
  | k + 1 => by have := busyN_le z r f k; rw [busyN]; split <;> omega
end Go.Proofs.Ytijeieacoaopcaa
