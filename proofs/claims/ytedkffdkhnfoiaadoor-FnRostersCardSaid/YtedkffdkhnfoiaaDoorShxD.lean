/- Shifts in order: the plain mathematics. No condition. -/
import Derived.Test.YtedkffdkhnfoiaaDoorShxC
import Derived.Test.YtedkffdkhnfoiaaDoorCmpG
namespace Go.Proofs.YtedkffdkhnfoiaaDoor
open Go.RowKit
set_option linter.unusedSimpArgs false
set_option linter.unusedVariables false

/-! sorting shifts -/
abbrev Tri := Int × Int × Int
def bef (a b : Tri) : Bool := befB a.1 a.2.1 b.1 b.2.1
theorem bef_iff {a b : Tri} : bef a b = true ↔ a.2.1 < b.2.1 ∨ (a.2.1 = b.2.1 ∧ a.1 < b.1) := by
  unfold bef befB
  simp only [Bool.or_eq_true, decide_eq_true_eq, Bool.and_eq_true, beq_iff_eq]
theorem bef_not {a b : Tri} : bef a b = false ↔ ¬ (a.2.1 < b.2.1 ∨ (a.2.1 = b.2.1 ∧ a.1 < b.1)) := by
  rw [← Bool.not_eq_true, bef_iff]
theorem bef_asymm {a b : Tri} (h : bef a b = true) : bef b a = false := by
  rw [bef_iff] at h; rw [bef_not]; omega
theorem bef_trans {a b c : Tri} (h : bef a b = true) (k : bef b c = true) : bef a c = true := by
  rw [bef_iff] at *; omega
theorem bef_ntrans {a b c : Tri} (h : bef a b = false) (k : bef b c = false) : bef a c = false := by
  rw [bef_not] at *; omega
theorem bef_irrefl (a : Tri) : bef a a = false := by rw [bef_not]; omega

/-- a strictly rising list is the one order of its members -/
theorem sort_unique : ∀ {A B : List Tri}, A.Pairwise (fun a b => bef a b = true) → B.Pairwise (fun a b => bef b a = false) → B.Perm A → A = B
  | [], B, _, _, p => by rw [List.perm_nil] at p; exact p.symm
  | a :: A, [], _, _, p => by have := p.length_eq; simp at this
  | a :: A, b :: B, hA, hB, p => by
    rw [List.pairwise_cons] at hA hB
    have e : a = b := by
      have h1 : b ∈ a :: A := p.mem_iff.1 (by simp)
      have h2 : a ∈ b :: B := p.mem_iff.2 (by simp)
      rw [List.mem_cons] at h1 h2
      rcases h1 with h1 | h1
      · exact h1.symm
      · rcases h2 with h2 | h2
        · exact h2
        · have := hA.1 b h1
          have := hB.1 a h2
          simp_all
    subst e
    rw [sort_unique hA.2 hB.2 (List.Perm.cons_inv p)]

def triAt (z : List Int) (i : Nat) : Tri := (shOp z i, shFr z i, shTo z i)
def tri (z : List Int) (n : Nat) : List Tri := (List.range n).map (triAt z)
theorem tri_length (z : List Int) (n : Nat) : (tri z n).length = n := by simp [tri]
theorem tri_getElem? {z : List Int} {n i : Nat} (h : i < n) : (tri z n)[i]? = some (triAt z i) := by simp [tri, h]
theorem tri_succ (z : List Int) (n : Nat) : tri z (n + 1) = tri z n ++ [triAt z n] := by simp [tri, List.range_succ]
def flat (T : List Tri) : List Int := T.flatMap fun x => [x.1, x.2.1, x.2.2]
theorem flat_length : ∀ T : List Tri, (flat T).length = T.length * 3
  | [] => rfl
  | x :: T => by have := flat_length T; simp only [flat, List.flatMap_cons, List.length_append, List.length_cons, List.length_nil] at this ⊢; omega
theorem getD_ext {a b : List Int} (hl : a.length = b.length) (h : ∀ j, j < b.length → a.getD j 0 = b.getD j 0) : a = b := by
  apply List.ext_getElem?
  intro j
  by_cases hj : j < b.length
  · have := h j hj
    rw [List.getD_eq_getElem?_getD, List.getD_eq_getElem?_getD, List.getElem?_eq_getElem hj, List.getElem?_eq_getElem (show j < a.length by omega)] at this
    rw [List.getElem?_eq_getElem hj, List.getElem?_eq_getElem (show j < a.length by omega)]
    simpa using this
  · rw [List.getElem?_eq_none (by omega), List.getElem?_eq_none (by omega)]
/-- the same triples, the same numbers -/
theorem tri_inj {a b : List Int} {n : Nat} (ha : a.length = n * 3) (hb : b.length = n * 3) (h : tri a n = tri b n) : a = b := by
  refine getD_ext (by omega) fun j hj => ?_
  have hi : j / 3 < n := by omega
  have e : triAt a (j / 3) = triAt b (j / 3) := by
    have h1 := tri_getElem? (z := a) hi
    have h2 := tri_getElem? (z := b) hi
    rw [h] at h1
    rw [h1] at h2
    exact Option.some.inj h2
  simp only [triAt, Prod.mk.injEq, shOp, shFr, shTo] at e
  obtain ⟨e1, e2, e3⟩ := e
  rcases (by omega : j = j / 3 * 3 ∨ j = j / 3 * 3 + 1 ∨ j = j / 3 * 3 + 2) with h | h | h
  · rw [h]; exact e1
  · rw [h]; exact e2
  · rw [h]; exact e3
/-- shift x put in at place k of n -/
def insZ (z : List Int) (k : Nat) (o f t : Int) : List Int := z.take (k * 3) ++ [o, f, t] ++ z.drop (k * 3)
theorem insZ_length {z : List Int} {n k : Nat} (hl : z.length = n * 3) (hk : k ≤ n) (o f t : Int) : (insZ z k o f t).length = (n + 1) * 3 := by
  simp [insZ, hl]; omega
theorem getD_app_left {a b : List Int} {j : Nat} (h : j < a.length) : (a ++ b).getD j 0 = a.getD j 0 := by
  rw [List.getD_eq_getElem?_getD, List.getElem?_append_left h, ← List.getD_eq_getElem?_getD]
theorem getD_app_right {a b : List Int} {j : Nat} (h : a.length ≤ j) : (a ++ b).getD j 0 = b.getD (j - a.length) 0 := by
  rw [List.getD_eq_getElem?_getD, List.getElem?_append_right h, ← List.getD_eq_getElem?_getD]
theorem getD_take {a : List Int} {j m : Nat} (h : j < m) : (a.take m).getD j 0 = a.getD j 0 := by
  rw [List.getD_eq_getElem?_getD, List.getElem?_take, if_pos h, ← List.getD_eq_getElem?_getD]
theorem getD_drop' {a : List Int} {j m : Nat} : (a.drop m).getD j 0 = a.getD (m + j) 0 := by
  rw [List.getD_eq_getElem?_getD, List.getElem?_drop, ← List.getD_eq_getElem?_getD]
theorem insZ_tri {z : List Int} {n k : Nat} (hl : z.length = n * 3) (hk : k ≤ n) (o f t : Int) :
    tri (insZ z k o f t) (n + 1) = (tri z n).take k ++ (o, f, t) :: (tri z n).drop k := by
  have hlt : (z.take (k * 3)).length = k * 3 := by rw [List.length_take]; omega
  have g1 : ∀ j, j < k * 3 → (insZ z k o f t).getD j 0 = z.getD j 0 := fun j hj => by
    rw [insZ, getD_app_left (by simp; omega), getD_app_left (by omega), getD_take hj]
  have g2 : ∀ c, c < 3 → (insZ z k o f t).getD (k * 3 + c) 0 = [o, f, t].getD c 0 := fun c hc => by
    rw [insZ, getD_app_left (by simp [hlt]; omega), getD_app_right (by omega), hlt, Nat.add_sub_cancel_left]
  have g3 : ∀ j, k * 3 ≤ j → (insZ z k o f t).getD (j + 3) 0 = z.getD j 0 := fun j hj => by
    rw [insZ, getD_app_right (by simp [hlt]; omega), getD_drop']
    congr 1
    simp [hlt]; omega
  apply List.ext_getElem?
  intro i
  by_cases hi : i < n + 1
  · rw [tri_getElem? hi]
    by_cases c1 : i < k
    · rw [List.getElem?_append_left (by simp [tri_length]; omega), List.getElem?_take, if_pos c1, tri_getElem? (by omega)]
      simp only [triAt, shOp, shFr, shTo]
      rw [g1 _ (by omega), g1 _ (by omega), g1 _ (by omega)]
    · rw [List.getElem?_append_right (by simp [tri_length]; omega)]
      have hl2 : ((tri z n).take k).length = k := by simp [tri_length]; omega
      rw [hl2]
      by_cases c2 : i = k
      · subst c2
        simp only [Nat.sub_self, List.getElem?_cons_zero, triAt, shOp, shFr, shTo]
        have h0 := g2 0 (by omega)
        have h1 := g2 1 (by omega)
        have h2 := g2 2 (by omega)
        simp at h0 h1 h2 ⊢
        exact ⟨h0, h1, h2⟩
      · obtain ⟨d, hd⟩ : ∃ d, i = k + (d + 1) := ⟨i - k - 1, by omega⟩
        subst hd
        rw [Nat.add_sub_cancel_left, List.getElem?_cons_succ, List.getElem?_drop, tri_getElem? (by omega)]
        simp only [triAt, shOp, shFr, shTo]
        rw [show (k + (d + 1)) * 3 = (k + d) * 3 + 3 by omega, g3 _ (by omega), show (k + d) * 3 + 3 + 1 = (k + d) * 3 + 1 + 3 by omega, g3 _ (by omega), show (k + d) * 3 + 3 + 2 = (k + d) * 3 + 2 + 3 by omega, g3 _ (by omega)]
  · rw [List.getElem?_eq_none (by simp [tri_length]; omega), List.getElem?_eq_none (by simp [tri_length]; omega)]
/-- where x goes, from the right, into the first m of z's shifts -/
def insK (z : List Int) (o f : Int) : Nat → Nat
  | 0 => 0
  | m + 1 => if befB o f (shOp z m) (shFr z m) = true then insK z o f m else m + 1
theorem insK_le (z : List Int) (o f : Int) : ∀ m, insK z o f m ≤ m
  | 0 => Nat.le_refl _
  | m + 1 => by have := insK_le z o f m; rw [insK]; split <;> omega
theorem insK_after (z : List Int) (o f : Int) : ∀ m j, insK z o f m ≤ j → j < m → befB o f (shOp z j) (shFr z j) = true
  | 0, j, _, hj => by omega
  | m + 1, j, h, hj => by
    rw [insK] at h
    by_cases c : befB o f (shOp z m) (shFr z m) = true
    · rw [if_pos c] at h
      by_cases e : j = m
      · subst e; exact c
      · exact insK_after z o f m j h (by omega)
    · rw [if_neg c] at h; omega
theorem insK_before (z : List Int) (o f : Int) : ∀ m, 0 < insK z o f m → befB o f (shOp z (insK z o f m - 1)) (shFr z (insK z o f m - 1)) = false
  | 0, h => by simp [insK] at h
  | m + 1, h => by
    rw [insK] at h ⊢
    by_cases c : befB o f (shOp z m) (shFr z m) = true
    · rw [if_pos c] at h ⊢; exact insK_before z o f m h
    · rw [if_neg c]; simpa using c
/-- the step of the search -/
theorem insK_step {z : List Int} {o f : Int} {m k : Nat} (hm : insK z o f m = insK z o f (k + 1)) (h : befB o f (shOp z k) (shFr z k) = true) : insK z o f m = insK z o f k := by
  rw [hm, insK, if_pos h]
theorem insK_stop {z : List Int} {o f : Int} {m k : Nat} (hm : insK z o f m = insK z o f (k + 1)) (h : befB o f (shOp z k) (shFr z k) = false) : insK z o f m = k + 1 := by
  rw [hm, insK, if_neg (by rw [h]; decide)]
/-- the first k shifts, put in one by one -/
def srtZ (z : List Int) : Nat → List Int
  | 0 => []
  | k + 1 => insZ (srtZ z k) (insK (srtZ z k) (shOp z k) (shFr z k) k) (shOp z k) (shFr z k) (shTo z k)
theorem srtZ_length (z : List Int) : ∀ k, (srtZ z k).length = k * 3
  | 0 => rfl
  | k + 1 => by rw [srtZ, insZ_length (srtZ_length z k) (insK_le _ _ _ _)]
theorem srtZ_perm (z : List Int) : ∀ k, (tri (srtZ z k) k).Perm (tri z k)
  | 0 => by simp [tri]
  | k + 1 => by
    rw [srtZ, insZ_tri (srtZ_length z k) (insK_le _ _ _ _), tri_succ]
    refine (List.perm_middle).trans ?_
    rw [List.take_append_drop]
    refine ((srtZ_perm z k).cons _).trans ?_
    exact (List.perm_append_singleton (triAt z k) (tri z k)).symm
theorem srtZ_sorted (z : List Int) : ∀ k, (tri (srtZ z k) k).Pairwise (fun a b => bef b a = false)
  | 0 => by simp [tri]
  | k + 1 => by
    have ih := srtZ_sorted z k
    have hl := srtZ_length z k
    rw [srtZ, insZ_tri hl (insK_le _ _ _ _)]
    have hle := insK_le (srtZ z k) (shOp z k) (shFr z k) k
    have ha := insK_after (srtZ z k) (shOp z k) (shFr z k) k
    have hb := insK_before (srtZ z k) (shOp z k) (shFr z k) k
    generalize insK (srtZ z k) (shOp z k) (shFr z k) k = q at *
    rw [List.pairwise_append, List.pairwise_cons]
    refine ⟨ih.sublist (List.take_sublist _ _), ⟨fun y hy => ?_, ih.sublist (List.drop_sublist _ _)⟩, fun x hx y hy => ?_⟩
    · obtain ⟨j, hj, e⟩ := List.getElem_of_mem hy
      rw [List.length_drop, tri_length] at hj
      have e2 : (tri (srtZ z k) k)[q + j]? = some y := by
        rw [← e, List.getElem_drop]; exact List.getElem?_eq_getElem _
      rw [tri_getElem? (by omega)] at e2
      rw [← Option.some.inj e2]
      exact bef_asymm (ha (q + j) (by omega) (by omega))
    · have hx2 : x ∈ (tri (srtZ z k) k).take q := hx
      obtain ⟨i, hi, e⟩ := List.getElem_of_mem hx2
      rw [List.length_take, tri_length] at hi
      have e2 : (tri (srtZ z k) k)[i]? = some x := by
        rw [← e, List.getElem_take]; exact List.getElem?_eq_getElem _
      rw [tri_getElem? (by omega)] at e2
      have ex := Option.some.inj e2
      rw [List.mem_cons] at hy
      have hxn : bef (shOp z k, shFr z k, shTo z k) x = false := by
        have h1 : bef (shOp z k, shFr z k, shTo z k) (triAt (srtZ z k) (q - 1)) = false := hb (by omega)
        by_cases c : i = q - 1
        · rw [← ex, c]; exact h1
        · refine bef_ntrans h1 ?_
          have := (List.pairwise_iff_getElem.1 ih) i (q - 1) (by rw [tri_length]; omega) (by rw [tri_length]; omega) (by omega)
          have e3 : (tri (srtZ z k) k)[i]'(by rw [tri_length]; omega) = triAt (srtZ z k) i := by
            have := tri_getElem? (z := srtZ z k) (n := k) (i := i) (by omega)
            rw [List.getElem?_eq_getElem (by rw [tri_length]; omega)] at this
            exact Option.some.inj this
          have e4 : (tri (srtZ z k) k)[q - 1]'(by rw [tri_length]; omega) = triAt (srtZ z k) (q - 1) := by
            have := tri_getElem? (z := srtZ z k) (n := k) (i := q - 1) (by omega)
            rw [List.getElem?_eq_getElem (by rw [tri_length]; omega)] at this
            exact Option.some.inj this
          rw [e3, e4, ex] at this
          exact this
      rcases hy with rfl | hy
      · exact hxn
      · obtain ⟨j, hj, e⟩ := List.getElem_of_mem hy
        rw [List.length_drop, tri_length] at hj
        have e5 : (tri (srtZ z k) k)[q + j]? = some y := by
          rw [← e, List.getElem_drop]; exact List.getElem?_eq_getElem _
        have h6 := (List.pairwise_iff_getElem.1 ih) i (q + j) (by rw [tri_length]; omega) (by rw [tri_length]; omega) (by omega)
        rw [List.getElem?_eq_getElem (by rw [tri_length]; omega)] at e5
        have e7 : (tri (srtZ z k) k)[i]'(by rw [tri_length]; omega) = x := by
          have := tri_getElem? (z := srtZ z k) (n := k) (i := i) (by omega)
          rw [List.getElem?_eq_getElem (by rw [tri_length]; omega)] at this
          rw [← ex]; exact Option.some.inj this
        rw [e7, Option.some.inj e5] at h6
        exact h6
/-- shifts that are valid rise strictly -/
theorem okSs_bef {z : List Int} {n : Nat} (h : okSs z n = true) {i : Nat} (hi : i + 1 < n) : bef (triAt z i) (triAt z (i + 1)) = true := by
  unfold okSs at h
  rw [Bool.and_eq_true] at h
  have h1 := allB_get h.2 (i + 1) hi
  unfold shAt at h1
  rw [Bool.and_eq_true, Bool.and_eq_true] at h1
  have h2 := h1.2.1
  simpa [bef, triAt] using h2
theorem okSs_rise {z : List Int} {n : Nat} (h : okSs z n = true) {i : Nat} : ∀ j, i < j → j < n → bef (triAt z i) (triAt z j) = true
  | 0, hj, _ => by omega
  | j + 1, hj, hn => by
    by_cases e : i = j
    · subst e; exact okSs_bef h hn
    · exact bef_trans (okSs_rise h j (by omega) (by omega)) (okSs_bef h hn)
theorem okSs_pw {z : List Int} {n : Nat} (h : okSs z n = true) : (tri z n).Pairwise (fun a b => bef a b = true) := by
  rw [List.pairwise_iff_getElem]
  intro i j hi hj hij
  have e : ∀ q (hq : q < (tri z n).length), (tri z n)[q] = triAt z q := fun q hq => by simp [tri]
  rw [tri_length] at hi hj
  rw [e, e]
  exact okSs_rise h j hij hj
/-- whatever sorts the shifts: it is valid just if the other is, and then both are the same -/
theorem sorted_same {z a b : List Int} {n : Nat} (ha : a.length = n * 3) (hb : b.length = n * 3) (pa : (tri a n).Perm (tri z n)) (pb : (tri b n).Perm (tri z n))
    (sa : (tri a n).Pairwise (fun x y => bef y x = false)) (sb : (tri b n).Pairwise (fun x y => bef y x = false)) : okSs a n = okSs b n ∧ (okSs a n = true → a = b) := by
  have key : ∀ {a b : List Int}, a.length = n * 3 → b.length = n * 3 → (tri a n).Perm (tri z n) → (tri b n).Perm (tri z n) → (tri b n).Pairwise (fun x y => bef y x = false) → okSs a n = true → a = b :=
    fun ha hb pa pb sb ok => tri_inj ha hb (sort_unique (okSs_pw ok) sb (pb.trans pa.symm))
  refine ⟨?_, key ha hb pa pb sb⟩
  rw [Bool.eq_iff_iff]
  constructor
  · intro ok
    have := key ha hb pa pb sb ok
    rw [← this]; exact ok
  · intro ok
    have := key hb ha pb pa sa ok
    rw [← this]; exact ok

end Go.Proofs.YtedkffdkhnfoiaaDoor
