/- The plain law of rosters. No condition. -/
import Derived.Test.YtedkffdkhnfoiaaDoorShfG
import Derived.Test.YtedkffdkhnfoiaaDoorShfH
import Derived.Test.YtedkffdkhnfoiaaDoorShfI
namespace Go.Proofs.YtedkffdkhnfoiaaDoor
open Go.RowKit
set_option linter.unusedSimpArgs false
set_option linter.unusedVariables false

/-- the first and the last number of range i -/
def loZ (O : List (List Int)) (i : Nat) : Int := (O.getD i []).getD 0 0
def hiZ (O : List (List Int)) (i : Nat) : Int := (O.getD i []).getD 1 0
theorem opZ_bd (B : Nat → Bool) (h : Nat) {i : Nat} (hi : i < (opZ B h).length) : 0 ≤ loZ (opZ B h) i ∧ loZ (opZ B h) i < hiZ (opZ B h) i ∧ hiZ (opZ B h) i ≤ h ∧ ((opZ B h).getD i []).length = 2 := by
  obtain ⟨a, b, e, h1, h2, h3⟩ := (opZ_inv B h).2.1 ((opZ B h).getD i []) (by rw [List.getD_eq_getElem?_getD, List.getElem?_eq_getElem hi]; exact List.getElem_mem _)
  unfold loZ hiZ
  rw [e]
  exact ⟨h1, h2, h3, rfl⟩
theorem getD_set_list {O : List (List Int)} {k j : Nat} {x : List Int} (hk : k < O.length) : (O.set k x).getD j [] = if j = k then x else O.getD j [] := by
  rw [List.getD_eq_getElem?_getD, List.getElem?_set]
  by_cases e : k = j
  · subst e; rw [if_pos rfl, if_pos hk, if_pos rfl]; rfl
  · rw [if_neg e, if_neg (Ne.symm e), List.getD_eq_getElem?_getD]
theorem getD_snoc_list {O : List (List Int)} {j : Nat} {x : List Int} (hj : j ≤ O.length) : (O ++ [x]).getD j [] = if j = O.length then x else O.getD j [] := by
  rw [List.getD_eq_getElem?_getD]
  by_cases e : j = O.length
  · subst e; rw [if_pos rfl]; simp
  · rw [if_neg e, List.getElem?_append_left (by omega), List.getD_eq_getElem?_getD]
theorem opZ_law (B : Nat → Bool) : ∀ h, (∀ i, i + 1 < (opZ B h).length → hiZ (opZ B h) i < loZ (opZ B h) (i + 1)) ∧
    ∀ x : Nat, x < h → ((∃ i, i < (opZ B h).length ∧ loZ (opZ B h) i ≤ x ∧ x < hiZ (opZ B h) i) ↔ B x = true)
  | 0 => ⟨fun i hi => by simp [opZ] at hi, fun x hx => by omega⟩
  | h + 1 => by
    obtain ⟨h1, h2⟩ := opZ_law B h
    have hb := fun i (hi : i < (opZ B h).length) => opZ_bd B h hi
    rw [opZ]
    by_cases c : B h = true
    · rw [if_pos c]
      by_cases d : 0 < (opZ B h).length ∧ ((opZ B h).getD ((opZ B h).length - 1) []).getD 1 0 = (h : Int)
      · rw [if_pos d]
        obtain ⟨d1, d2⟩ := d
        have hg : ∀ j, ((opZ B h).set ((opZ B h).length - 1) [((opZ B h).getD ((opZ B h).length - 1) []).getD 0 0, (h : Int) + 1]).getD j [] = if j = (opZ B h).length - 1 then [((opZ B h).getD ((opZ B h).length - 1) []).getD 0 0, (h : Int) + 1] else (opZ B h).getD j [] := fun j => getD_set_list (by omega)
        have hlo : ∀ j, loZ ((opZ B h).set ((opZ B h).length - 1) [((opZ B h).getD ((opZ B h).length - 1) []).getD 0 0, (h : Int) + 1]) j = loZ (opZ B h) j := fun j => by
          unfold loZ; rw [hg]; by_cases e : j = (opZ B h).length - 1
          · rw [if_pos e, e]; rfl
          · rw [if_neg e]
        have hhi : ∀ j, hiZ ((opZ B h).set ((opZ B h).length - 1) [((opZ B h).getD ((opZ B h).length - 1) []).getD 0 0, (h : Int) + 1]) j = if j = (opZ B h).length - 1 then (h : Int) + 1 else hiZ (opZ B h) j := fun j => by
          unfold hiZ; rw [hg]; by_cases e : j = (opZ B h).length - 1
          · rw [if_pos e, if_pos e]; rfl
          · rw [if_neg e, if_neg e]
        have hl := hb ((opZ B h).length - 1) (by omega)
        have hlast : hiZ (opZ B h) ((opZ B h).length - 1) = h := d2
        rw [List.length_set]
        refine ⟨fun i hi => ?_, fun x hx => ?_⟩
        · rw [hlo, hhi, if_neg (by omega)]; exact h1 i hi
        · by_cases ex : x = h
          · subst ex
            refine ⟨fun _ => c, fun _ => ⟨(opZ B x).length - 1, by omega, by rw [hlo]; omega, by rw [hhi, if_pos rfl]; omega⟩⟩
          · rw [← h2 x (by omega)]
            constructor
            · rintro ⟨i, hi, q1, q2⟩
              rw [hlo] at q1
              rw [hhi] at q2
              refine ⟨i, hi, q1, ?_⟩
              by_cases e : i = (opZ B h).length - 1
              · rw [e, hlast]; omega
              · rw [if_neg e] at q2; exact q2
            · rintro ⟨i, hi, q1, q2⟩
              refine ⟨i, hi, by rw [hlo]; exact q1, ?_⟩
              rw [hhi]
              split
              · omega
              · exact q2
      · rw [if_neg d]
        have hg : ∀ j, j ≤ (opZ B h).length → (opZ B h ++ [[(h : Int), (h : Int) + 1]]).getD j [] = if j = (opZ B h).length then [(h : Int), (h : Int) + 1] else (opZ B h).getD j [] := fun j hj => getD_snoc_list hj
        rw [List.length_append, List.length_singleton]
        refine ⟨fun i hi => ?_, fun x hx => ?_⟩
        · unfold hiZ loZ
          rw [hg _ (by omega), hg _ (by omega), if_neg (by omega)]
          by_cases e : i + 1 = (opZ B h).length
          · rw [if_pos e]
            have q := hb i (by omega)
            have q2 : ¬ hiZ (opZ B h) i = h := fun hh => d ⟨by omega, by rw [show (opZ B h).length - 1 = i by omega]; exact hh⟩
            have q3 : hiZ (opZ B h) i < h := by omega
            exact q3
          · rw [if_neg e]; exact h1 i (by omega)
        · by_cases ex : x = h
          · subst ex
            refine ⟨fun _ => c, fun _ => ⟨(opZ B x).length, by omega, ?_, ?_⟩⟩
            · unfold loZ; rw [hg _ (Nat.le_refl _), if_pos rfl]; exact Int.le_refl _
            · unfold hiZ; rw [hg _ (Nat.le_refl _), if_pos rfl]; show (x : Int) < x + 1; omega
          · rw [← h2 x (by omega)]
            constructor
            · rintro ⟨i, hi, q1, q2⟩
              by_cases e : i = (opZ B h).length
              · unfold loZ at q1; rw [hg _ (by omega), if_pos e] at q1
                have : (h : Int) ≤ x := q1
                omega
              · unfold loZ at q1; unfold hiZ at q2
                rw [hg _ (by omega), if_neg e] at q1 q2
                exact ⟨i, by omega, q1, q2⟩
            · rintro ⟨i, hi, q1, q2⟩
              refine ⟨i, by omega, ?_, ?_⟩
              · unfold loZ; rw [hg _ (by omega), if_neg (by omega)]; exact q1
              · unfold hiZ; rw [hg _ (by omega), if_neg (by omega)]; exact q2
    · rw [if_neg c]
      refine ⟨h1, fun x hx => ?_⟩
      by_cases ex : x = h
      · subst ex
        refine ⟨fun ⟨i, hi, q1, q2⟩ => ?_, fun hh => absurd hh c⟩
        have := hb i hi
        omega
      · exact h2 x (by omega)

theorem nxt_prop {z : List Int} {n i k : Nat} (h : nxt z n i = some k) : i < k ∧ k < n ∧ shOp z k = shOp z i := by
  unfold nxt at h
  have h1 := List.find?_some h
  have h2 := List.mem_of_find?_eq_some h
  simp only [decide_eq_true_eq] at h1
  exact ⟨h1.1, by simpa using h2, h1.2⟩
theorem srZ_law (z : List Int) (n : Nat) (l : Int) : ∀ i, ∀ x ∈ srZ z n l i, ∃ a b : Nat, x = [(a : Int), (b : Int)] ∧ a < b ∧ b < n ∧ shOp z b = shOp z a ∧ 0 < shFr z b - shTo z a ∧ shFr z b - shTo z a < l
  | 0, x, hx => by simp [srZ] at hx
  | i + 1, x, hx => by
    rw [srZ] at hx
    cases hn : nxt z n i with
    | none => rw [hn] at hx; exact srZ_law z n l i x hx
    | some k =>
      rw [hn] at hx
      simp only at hx
      split at hx
      · rename_i hc
        rcases List.mem_append.1 hx with hx | hx
        · exact srZ_law z n l i x hx
        · simp only [List.mem_singleton] at hx
          obtain ⟨h1, h2, h3⟩ := nxt_prop hn
          exact ⟨i, k, hx, h1, h2, h3, hc.1, hc.2⟩
      · exact srZ_law z n l i x hx

/-- hours of which B is true -/
def cnB (B : Int → Bool) : Nat → Nat
  | 0 => 0
  | h + 1 => if B (h : Int) = true then cnB B h + 1 else cnB B h
theorem cnB_le (B : Int → Bool) : ∀ h, cnB B h ≤ h
  | 0 => Nat.le_refl _
  | h + 1 => by have := cnB_le B h; rw [cnB]; split <;> omega
theorem cnB_congr {B C : Int → Bool} : ∀ h, (∀ x : Nat, x < h → B x = C x) → cnB B h = cnB C h
  | 0, _ => rfl
  | h + 1, hb => by rw [cnB, cnB, hb h (by omega), cnB_congr h (fun x hx => hb x (by omega))]
theorem cnB_or {B C : Int → Bool} : ∀ h, (∀ x : Nat, x < h → ¬ (B x = true ∧ C x = true)) → cnB (fun x => B x || C x) h = cnB B h + cnB C h
  | 0, _ => rfl
  | h + 1, hb => by
    have ih := cnB_or h (fun x hx => hb x (by omega))
    have h0 := hb h (by omega)
    rw [cnB, cnB, cnB, ih]
    cases hB : B h <;> cases hC : C h <;> simp_all <;> omega
theorem cnB_range {f t : Int} (h0 : 0 ≤ f) (h1 : f ≤ t) : ∀ h : Nat, (cnB (fun x => inR x f (t - 1)) h : Int) = if (h : Int) ≤ f then 0 else if (h : Int) ≤ t then h - f else t - f
  | 0 => by rw [cnB, if_pos (by omega)]; rfl
  | h + 1 => by
    have ih := cnB_range h0 h1 h
    rw [cnB]
    by_cases c : inR (h : Int) f (t - 1) = true
    · rw [if_pos c]
      rw [inR_iff] at c
      push_cast
      rw [ih]
      split <;> (try split) <;> (try split) <;> (try split) <;> omega
    · rw [if_neg c]
      rw [inR_iff] at c
      rw [ih]
      push_cast
      split <;> (try split) <;> (try split) <;> (try split) <;> omega
theorem cnB_run {B : Int → Bool} {a b : Nat} (hab : a ≤ b) : ∀ h, b ≤ h → (∀ x : Nat, a ≤ x → x < b → B x = true) → b - a ≤ cnB B h
  | 0, hb, _ => by omega
  | h + 1, hb, hx => by
    rw [cnB]
    by_cases e : b = h + 1
    · subst e
      by_cases ea : a = h + 1
      · omega
      · rw [if_pos (hx h (by omega) (by omega))]
        have : ∀ (b : Nat), a ≤ b → b ≤ h → (∀ x : Nat, a ≤ x → x < b → B x = true) → b - a ≤ cnB B h := fun b h1 h2 h3 => cnB_run h1 h h2 h3
        have := this h (by omega) (Nat.le_refl _) (fun x h1 h2 => hx x h1 (by omega))
        omega
    · have := cnB_run hab h (by omega) hx
      split <;> omega
theorem cnB_pos {B : Int → Bool} : ∀ h, 0 < cnB B h → ∃ x : Nat, x < h ∧ B x = true
  | 0, hh => by simp [cnB] at hh
  | h + 1, hh => by
    rw [cnB] at hh
    by_cases c : B (h : Int) = true
    · exact ⟨h, by omega, c⟩
    · rw [if_neg c] at hh
      obtain ⟨x, h1, h2⟩ := cnB_pos h hh
      exact ⟨x, by omega, h2⟩
/-- the longest range: all of it is so; the range just now; none if nothing is so -/
theorem ldS_law (B : Int → Bool) : ∀ h : Nat, (0 ≤ (ldS B h).2.2 ∧ (ldS B h).2.2 ≤ (ldS B h).2.1 ∧ 0 ≤ (ldS B h).1 ∧ (ldS B h).1 + (ldS B h).2.1 ≤ h ∧ (ldS B h).2.2 ≤ h) ∧ (∀ x : Int, (ldS B h).1 ≤ x → x < (ldS B h).1 + (ldS B h).2.1 → B x = true) ∧ (∀ x : Int, h - (ldS B h).2.2 ≤ x → x < h → B x = true) ∧ ((∃ x : Nat, x < h ∧ B x = true) → 0 < (ldS B h).2.1)
  | 0 => ⟨⟨Int.le_refl _, Int.le_refl _, Int.le_refl _, Int.le_refl _, Int.le_refl _⟩, fun x h1 h2 => absurd (show x < 0 + 0 from h2) (by have : (0 : Int) ≤ x := h1; omega), fun x h1 h2 => absurd (show x < 0 from h2) (by have : (0 : Int) - 0 ≤ x := h1; omega), fun ⟨x, hx, _⟩ => by omega⟩
  | h + 1 => by
    obtain ⟨⟨a1, a2, a3, a4, a5⟩, a6, a7, a8⟩ := ldS_law B h
    rw [ldS]
    by_cases c : B (h : Int) = true
    · rw [if_pos c]
      have hrun : ∀ x : Int, ((h + 1 : Nat) : Int) - ((ldS B h).2.2 + 1) ≤ x → x < ((h + 1 : Nat) : Int) → B x = true := fun x h1 h2 => by
        by_cases e : x = h
        · rw [e]; exact c
        · exact a7 x (by omega) (by omega)
      try simp only
      by_cases d : (ldS B h).2.1 < (ldS B h).2.2 + 1
      · rw [if_pos d]
        refine ⟨⟨by simp only; omega, by simp only; omega, by simp only; omega, by simp only; omega, by simp only; omega⟩, fun x h1 h2 => hrun x (by simp only at h1 h2; omega) (by simp only at h1 h2; omega), fun x h1 h2 => hrun x h1 h2, fun _ => by simp only; omega⟩
      · rw [if_neg d]
        exact ⟨⟨by simp only; omega, by simp only; omega, a3, by simp only; omega, by simp only; omega⟩, a6, fun x h1 h2 => hrun x h1 h2, fun _ => by simp only; omega⟩
    · rw [if_neg c]
      try simp only
      rw [if_neg (by omega)]
      refine ⟨⟨Int.le_refl _, by simp only; omega, a3, by simp only; omega, by simp only; omega⟩, a6, fun x h1 h2 => by simp only at h1; omega, fun ⟨x, hx, hb⟩ => a8 ⟨x, ?_, hb⟩⟩
      by_cases e : x = h
      · subst e; exact absurd hb c
      · omega
/-- the hours of an operator are the hours in which they are on duty -/
theorem duty_cnt {z : List Int} {n : Nat} (ok : okSs z n = true) (p : Int) : ∀ k, k ≤ n → (cnB (onB z k p) 168 : Int) = dutyH z p k
  | 0, _ => by
    have : cnB (onB z 0 p) 168 = cnB (fun _ => false) 168 := cnB_congr _ (fun x _ => by
      cases h : onB z 0 p x
      · rfl
      · rw [onB_iff] at h; obtain ⟨i, hi, _⟩ := h; omega)
    rw [this, dutyH]
    have h2 : ∀ h, cnB (fun _ => false) h = 0 := fun h => by
      induction h with
      | zero => rfl
      | succ h ih => rw [cnB, if_neg (by simp), ih]
    rw [h2]; rfl
  | k + 1, hk => by
    have ih := duty_cnt ok p k (by omega)
    have hb := okSs_bd ok k (by omega)
    rw [dutyH]
    by_cases c : shOp z k = p
    · rw [if_pos c, ← ih]
      have e : cnB (onB z (k + 1) p) 168 = cnB (fun x => onB z k p x || inR x (shFr z k) (shTo z k - 1)) 168 := cnB_congr _ (fun x _ => by
        rw [Bool.eq_iff_iff, Bool.or_eq_true, onB_iff, onB_iff, inR_iff]
        constructor
        · rintro ⟨i, hi, h1, h2, h3⟩
          by_cases ei : i = k
          · subst ei; exact .inr ⟨h2, by omega⟩
          · exact .inl ⟨i, by omega, h1, h2, h3⟩
        · rintro (⟨i, hi, h1, h2, h3⟩ | ⟨h1, h2⟩)
          · exact ⟨i, by omega, h1, h2, h3⟩
          · exact ⟨k, by omega, c, h1, by omega⟩)
      rw [e, cnB_or 168 (fun x _ => by
        rintro ⟨h1, h2⟩
        rw [onB_iff] at h1
        rw [inR_iff] at h2
        obtain ⟨i, hi, q1, q2, q3⟩ := h1
        have := okSs_con ok hi (show k < n by omega) (q1.trans c.symm)
        omega)]
      push_cast
      rw [cnB_range (by omega) (by omega) 168]
      split <;> (try split) <;> omega
    · rw [if_neg c, ← ih]
      congr 1
      refine cnB_congr _ (fun x _ => ?_)
      rw [Bool.eq_iff_iff, onB_iff, onB_iff]
      constructor
      · rintro ⟨i, hi, h1, h2, h3⟩
        by_cases ei : i = k
        · subst ei; exact absurd h1 c
        · exact ⟨i, by omega, h1, h2, h3⟩
      · rintro ⟨i, hi, h1, h2, h3⟩
        exact ⟨i, by omega, h1, h2, h3⟩
theorem duty_night {z : List Int} {n : Nat} (ok : okSs z n = true) (p : Int) : ∀ k, k ≤ n → dutyN z p k ≤ dutyH z p k
  | 0, _ => Int.le_refl _
  | k + 1, hk => by
    have ih := duty_night ok p k (by omega)
    have hb := okSs_bd ok k (by omega)
    rw [dutyN, dutyH]
    split
    · have := (nightN_bd (shFr z k) (shTo z k - shFr z k).toNat).2
      omega
    · exact ih
end Go.Proofs.YtedkffdkhnfoiaaDoor
