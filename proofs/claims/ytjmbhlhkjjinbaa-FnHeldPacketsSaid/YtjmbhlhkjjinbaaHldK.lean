/- Triples of integers in order, by their first and then by their second. No condition. -/
import Derived.Test.YtjmbhlhkjjinbaaHldB
namespace Go.Proofs.Ytjmbhlhkjjinbaa
open Go.RowKit
set_option linter.unusedSimpArgs false
set_option linter.unusedVariables false

/-! sorting shifts -/
abbrev Tri := Int × Int × Int
def bef (a b : Tri) : Bool := befL a.1 a.2.1 b.1 b.2.1
theorem bef_iff {a b : Tri} : bef a b = true ↔ a.1 < b.1 ∨ (a.1 = b.1 ∧ a.2.1 < b.2.1) := by
  unfold bef befL
  simp only [Bool.or_eq_true, decide_eq_true_eq, Bool.and_eq_true, beq_iff_eq]
theorem bef_not {a b : Tri} : bef a b = false ↔ ¬ (a.1 < b.1 ∨ (a.1 = b.1 ∧ a.2.1 < b.2.1)) := by
  rw [← Bool.not_eq_true, bef_iff]
theorem bef_asymm {a b : Tri} (h : bef a b = true) : bef b a = false := by
  rw [bef_iff] at h; rw [bef_not]; omega
theorem bef_trans {a b c : Tri} (h : bef a b = true) (k : bef b c = true) : bef a c = true := by
  rw [bef_iff] at *; omega
theorem bef_ntrans {a b c : Tri} (h : bef a b = false) (k : bef b c = false) : bef a c = false := by
  rw [bef_not] at *; omega
theorem bef_irrefl (a : Tri) : bef a a = false := by rw [bef_not]; omega

/-- a strictly rising list is the one order of its members -/
theorem sort_unique : ∀ {A B : List Tri}, A.Pairwise (fun a b => bef a b = true) → B.Pairwise (fun a b => bef b a = false) → B.Perm A → A = B
  | [], B, _, _, p => by rw [List.perm_nil] at p; exact p.symm
  | a :: A, [], _, _, p => by have := p.length_eq; simp at this
  | a :: A, b :: B, hA, hB, p => by
    rw [List.pairwise_cons] at hA hB
    have e : a = b := by
      have h1 : b ∈ a :: A := p.mem_iff.1 (by simp)
      have h2 : a ∈ b :: B := p.mem_iff.2 (by simp)
      rw [List.mem_cons] at h1 h2
      rcases h1 with h1 | h1
      · exact h1.symm
      · rcases h2 with h2 | h2
        · exact h2
        · have := hA.1 b h1
          have := hB.1 a h2
          simp_all
    subst e
    rw [sort_unique hA.2 hB.2 (List.Perm.cons_inv p)]

def triAt (z : List Int) (i : Nat) : Tri := (f3a z i, f3b z i, f3c z i)
def tri (z : List Int) (n : Nat) : List Tri := (List.range n).map (triAt z)
theorem tri_length (z : List Int) (n : Nat) : (tri z n).length = n := by simp [tri]
theorem tri_getElem? {z : List Int} {n i : Nat} (h : i < n) : (tri z n)[i]? = some (triAt z i) := by simp [tri, h]
theorem tri_succ (z : List Int) (n : Nat) : tri z (n + 1) = tri z n ++ [triAt z n] := by simp [tri, List.range_succ]
def flat (T : List Tri) : List Int := T.flatMap fun x => [x.1, x.2.1, x.2.2]
theorem flat_length : ∀ T : List Tri, (flat T).length = T.length * 3
  | [] => rfl
  | x :: T => by have := flat_length T; simp only [flat, List.flatMap_cons, List.length_append, List.length_cons, List.length_nil] at this ⊢; omega
theorem getD_ext {a b : List Int} (hl : a.length = b.length) (h : ∀ j, j < b.length → a.getD j 0 = b.getD j 0) : a = b := by
  apply List.ext_getElem?
  intro j
  by_cases hj : j < b.length
  · have := h j hj
    rw [List.getD_eq_getElem?_getD, List.getD_eq_getElem?_getD, List.getElem?_eq_getElem hj, List.getElem?_eq_getElem (show j < a.length by omega)] at this
    rw [List.getElem?_eq_getElem hj, List.getElem?_eq_getElem (show j < a.length by omega)]
    simpa using this
  · rw [List.getElem?_eq_none (by omega), List.getElem?_eq_none (by omega)]
/-- the same triples, the same numbers -/
theorem tri_inj {a b : List Int} {n : Nat} (ha : a.length = n * 3) (hb : b.length = n * 3) (h : tri a n = tri b n) : a = b := by
  refine getD_ext (by omega) fun j hj => ?_
  have hi : j / 3 < n := by omega
  have e : triAt a (j / 3) = triAt b (j / 3) := by
    have h1 := tri_getElem? (z := a) hi
    have h2 := tri_getElem? (z := b) hi
    rw [h] at h1
    rw [h1] at h2
    exact Option.some.inj h2
  simp only [triAt, Prod.mk.injEq, f3a, f3b, f3c] at e
  obtain ⟨e1, e2, e3⟩ := e
  rcases (by omega : j = j / 3 * 3 ∨ j = j / 3 * 3 + 1 ∨ j = j / 3 * 3 + 2) with h | h | h
  · rw [h]; exact e1
  · rw [h]; exact e2
  · rw [h]; exact e3

end Go.Proofs.Ytjmbhlhkjjinbaa
