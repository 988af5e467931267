/- Adding a fog: the plain mathematics. No condition. -/
import Derived.Test.YtjmbhlhkjjinbaaHldL
namespace Go.Proofs.Ytjmbhlhkjjinbaa
open Go.RowKit
set_option linter.unusedSimpArgs false
set_option linter.unusedVariables false

/-! adding a fog: the kept ones, the merged one, and where it goes -/
def sepT (a b : Tri) : Prop := a.1 < b.1 ∨ (a.1 = b.1 ∧ a.2.2 < b.2.1)
def wfT (nL : Int) (a : Tri) : Prop := (0 ≤ a.1 ∧ a.1 ≤ nL - 1) ∧ 0 ≤ a.2.1 ∧ a.2.1 < a.2.2 ∧ a.2.2 ≤ 10000
def touT (y x : Tri) : Bool := y.1 == x.1 && (decide (y.2.1 ≤ x.2.2) && decide (x.2.1 ≤ y.2.2))
theorem touT_iff {y x : Tri} : touT y x = true ↔ y.1 = x.1 ∧ y.2.1 ≤ x.2.2 ∧ x.2.1 ≤ y.2.2 := by simp [touT]
def mnI (a b : Int) : Int := if a < b then a else b
def updT (x y : Tri) : Tri := (x.1, mnI x.2.1 y.2.1, mxI x.2.2 y.2.2)
theorem sepT_trans {nL : Int} {a b c : Tri} (hb : wfT nL b) (h : sepT a b) (k : sepT b c) : sepT a c := by
  obtain ⟨_, _, hb, _⟩ := hb
  unfold sepT at *
  omega
theorem sepT_bef {nL : Int} {a b : Tri} (ha : wfT nL a) (h : sepT a b) : bef a b = true := by
  obtain ⟨_, _, ha, _⟩ := ha
  rw [bef_iff]
  unfold sepT at h
  omega
theorem updT_wf {nL : Int} {x y : Tri} (hx : wfT nL x) (hy : wfT nL y) : wfT nL (updT x y) := by
  obtain ⟨h1, h2, h3, h4⟩ := hx
  obtain ⟨k1, k2, k3, k4⟩ := hy
  unfold wfT updT mnI mxI
  simp only
  refine ⟨h1, ?_, ?_, ?_⟩ <;> (repeat' split) <;> omega
def adS (z : List Int) (x : Tri) : Nat → List Tri × Tri × Nat
  | 0 => ([], x, 0)
  | k + 1 => if touT (triAt z k) (adS z x k).2.1 = true then ((adS z x k).1, updT (adS z x k).2.1 (triAt z k), (adS z x k).2.2)
    else ((adS z x k).1 ++ [triAt z k], (adS z x k).2.1, if bef (triAt z k) (adS z x k).2.1 = true then (adS z x k).1.length + 1 else (adS z x k).2.2)
theorem okFg_wf {nL : Nat} {z : List Int} {n : Nat} (h : okFg nL z n = true) (j : Nat) (hj : j < n) : wfT nL (triAt z j) := by
  have := (okFg_iff h).2 j hj
  unfold wfT triAt
  simp only
  omega
theorem okFg_next {nL : Nat} {z : List Int} {n : Nat} (h : okFg nL z n = true) {i : Nat} (hi : i + 1 < n) : sepT (triAt z i) (triAt z (i + 1)) := by
  unfold okFg at h
  rw [Bool.and_eq_true] at h
  have h1 := allB_get h.2 (i + 1) hi
  unfold fgAt fpB at h1
  rw [Bool.and_eq_true] at h1
  have h2 := h1.2
  simp at h2
  unfold sepT triAt
  simpa using h2
theorem okFg_sep {nL : Nat} {z : List Int} {n : Nat} (h : okFg nL z n = true) {i : Nat} : ∀ j, i < j → j < n → sepT (triAt z i) (triAt z j)
  | 0, hj, _ => by omega
  | j + 1, hj, hn => by
    by_cases e : i = j
    · subst e; exact okFg_next h hn
    · exact sepT_trans (okFg_wf h j (by omega)) (okFg_sep h j (by omega) (by omega)) (okFg_next h hn)
/-- what holds behind the first k fogs -/
def AdI (nL : Nat) (z : List Int) (n k : Nat) (s : List Tri × Tri × Nat) : Prop :=
  (∃ A B, s.1 = A ++ B ∧ s.2.2 = A.length ∧ (∀ a ∈ A, sepT a s.2.1) ∧ (∀ b ∈ B, sepT s.2.1 b)) ∧ s.1.Pairwise sepT ∧ (∀ a ∈ s.1, ∀ j, k ≤ j → j < n → sepT a (triAt z j)) ∧ (∀ a ∈ s.1, wfT nL a) ∧ wfT nL s.2.1
theorem adS_inv {nL : Nat} {z : List Int} {n : Nat} (h : okFg nL z n = true) {x : Tri} (hx : wfT nL x) : ∀ k, k ≤ n → AdI nL z n k (adS z x k)
  | 0, _ => ⟨⟨[], [], rfl, rfl, by simp, by simp⟩, by simp [adS], by simp [adS], by simp [adS], hx⟩
  | k + 1, hk => by
    obtain ⟨⟨A, B, hAB, hp, hA, hB⟩, hpw, hlt, hwf, hxw⟩ := adS_inv h hx k (by omega)
    have hy := okFg_wf h k (by omega)
    have hyl : ∀ a ∈ (adS z x k).1, sepT a (triAt z k) := fun a ha => hlt a ha k (Nat.le_refl _) (by omega)
    have hyn : ∀ j, k + 1 ≤ j → j < n → sepT (triAt z k) (triAt z j) := fun j h1 h2 => okFg_sep h j (by omega) h2
    rw [adS]
    generalize adS z x k = s at *
    obtain ⟨K, x', p⟩ := s
    generalize triAt z k = y at *
    simp only at *
    subst hAB
    subst hp
    by_cases ht : touT y x' = true
    · rw [if_pos ht]
      rw [touT_iff] at ht
      have hBn : B = [] := by
        apply List.eq_nil_iff_forall_not_mem.2
        intro b hb
        have h1 := hB b hb
        have h2 := hyl b (by simp [hb])
        have h3 := hwf b (by simp [hb])
        obtain ⟨_, _, h3, _⟩ := h3
        unfold sepT at h1 h2
        omega
      subst hBn
      refine ⟨⟨A, [], by simp, by simp, fun a ha => ?_, by simp⟩, hpw, fun a ha j h1 h2 => hlt a ha j (by omega) h2, hwf, updT_wf hxw hy⟩
      have h1 := hA a ha
      have h2 := hyl a (by simp [ha])
      unfold sepT updT mnI mxI at *
      simp only
      split <;> omega
    · rw [if_neg ht]
      rw [touT_iff] at ht
      have hpw2 : (A ++ B ++ [y]).Pairwise sepT := by
        rw [List.pairwise_append]
        exact ⟨hpw, by simp, fun a ha b hb => by rw [List.mem_singleton] at hb; subst hb; exact hyl a ha⟩
      have hlt2 : ∀ a ∈ A ++ B ++ [y], ∀ j, k + 1 ≤ j → j < n → sepT a (triAt z j) := fun a ha j h1 h2 => by
        rcases List.mem_append.1 ha with ha | ha
        · exact hlt a ha j (by omega) h2
        · rw [List.mem_singleton] at ha; subst ha; exact hyn j h1 h2
      have hwf2 : ∀ a ∈ A ++ B ++ [y], wfT nL a := fun a ha => by
        rcases List.mem_append.1 ha with ha | ha
        · exact hwf a ha
        · rw [List.mem_singleton] at ha; subst ha; exact hy
      obtain ⟨hx1, hx2, hx3, hx4⟩ := hxw
      obtain ⟨hy1, hy2, hy3, hy4⟩ := hy
      by_cases hb : bef y x' = true
      · rw [if_pos hb]
        rw [bef_iff] at hb
        have hs : sepT y x' := by unfold sepT; omega
        have hBn : B = [] := by
          apply List.eq_nil_iff_forall_not_mem.2
          intro b hb2
          have h1 := hB b hb2
          have h2 := hyl b (by simp [hb2])
          obtain ⟨_, _, h3, _⟩ := hwf b (by simp [hb2])
          unfold sepT at h1 h2 hs
          omega
        subst hBn
        refine ⟨⟨A ++ [y], [], by simp, by simp, fun a ha => ?_, by simp⟩, hpw2, hlt2, hwf2, ⟨hx1, hx2, hx3, hx4⟩⟩
        rcases List.mem_append.1 ha with ha | ha
        · exact hA a ha
        · rw [List.mem_singleton] at ha; subst ha; exact hs
      · rw [if_neg hb]
        rw [bef_iff] at hb
        have hs : sepT x' y := by unfold sepT; omega
        refine ⟨⟨A, B ++ [y], by simp, rfl, hA, fun b hb2 => ?_⟩, hpw2, hlt2, hwf2, ⟨hx1, hx2, hx3, hx4⟩⟩
        rcases List.mem_append.1 hb2 with hb2 | hb2
        · exact hB b hb2
        · rw [List.mem_singleton] at hb2; subst hb2; exact hs
/-- the fogs with a further one -/
def addR (z : List Int) (n : Nat) (x : Tri) : List Tri := (adS z x n).1.take (adS z x n).2.2 ++ (adS z x n).2.1 :: (adS z x n).1.drop (adS z x n).2.2
theorem addR_sep {nL : Nat} {z : List Int} {n : Nat} (h : okFg nL z n = true) {x : Tri} (hx : wfT nL x) : (addR z n x).Pairwise sepT ∧ (∀ a ∈ addR z n x, wfT nL a) ∧ (addR z n x).Perm ((adS z x n).1 ++ [(adS z x n).2.1]) := by
  obtain ⟨⟨A, B, hAB, hp, hA, hB⟩, hpw, _, hwf, hxw⟩ := adS_inv h hx n (Nat.le_refl _)
  have e : addR z n x = A ++ (adS z x n).2.1 :: B := by
    unfold addR
    rw [hp, hAB]
    simp
  rw [e, hAB]
  rw [hAB] at hpw hwf
  rw [List.pairwise_append] at hpw
  refine ⟨?_, fun a ha => ?_, ?_⟩
  · rw [List.pairwise_append, List.pairwise_cons]
    refine ⟨hpw.1, ⟨hB, hpw.2.1⟩, fun a ha b hb => ?_⟩
    rcases List.mem_cons.1 hb with rfl | hb
    · exact hA a ha
    · exact hpw.2.2 a ha b hb
  · rcases List.mem_append.1 ha with ha | ha
    · exact hwf a (by simp [ha])
    · rcases List.mem_cons.1 ha with rfl | ha
      · exact hxw
      · exact hwf a (by simp [ha])
  · refine List.perm_middle.trans ?_
    exact (List.perm_append_singleton _ _).symm
/-- what sorts the kept fogs and the further one is the same list -/
theorem addR_sorted {nL : Nat} {z : List Int} {n : Nat} (h : okFg nL z n = true) {x : Tri} (hx : wfT nL x) {S : List Tri} (hp : S.Perm ((adS z x n).1 ++ [(adS z x n).2.1])) (hs : S.Pairwise (fun a b => bef b a = false)) : S = addR z n x := by
  obtain ⟨h1, h2, h3⟩ := addR_sep h hx
  refine (sort_unique ?_ hs (hp.trans h3.symm)).symm
  exact (List.Pairwise.and_mem.1 h1).imp fun {a b} hab => sepT_bef (h2 a hab.1) hab.2.2

theorem triAt_flat (T : List Tri) {i : Nat} (hi : i < T.length) : triAt (flat T) i = T[i] := by
  have h := tri_flat T
  have h2 := tri_getElem? (z := flat T) hi
  rw [h, List.getElem?_eq_getElem hi] at h2
  exact (Option.some.inj h2).symm
/-- separated fogs are valid, but for how many they are -/
theorem okFg_flat {nL : Nat} {T : List Tri} (h1 : T.Pairwise sepT) (h2 : ∀ a ∈ T, wfT nL a) : okFg nL (flat T) T.length = decide (T.length ≤ 60) := by
  unfold okFg
  rw [allB_t (P := fgAt nL (flat T)) (fun i hi => ?_), Bool.and_true]
  have e := triAt_flat T hi
  have w := h2 T[i] (List.getElem_mem hi)
  rw [← e] at w
  have e0 : f3a (flat T) i = (triAt (flat T) i).1 := rfl
  have e1 : f3b (flat T) i = (triAt (flat T) i).2.1 := rfl
  have e2 : f3c (flat T) i = (triAt (flat T) i).2.2 := rfl
  unfold fgAt
  rw [Bool.and_eq_true, e0, e1, e2]
  refine ⟨fgB_iff.2 ⟨w.1, w.2.1, w.2.2.1, w.2.2.2⟩, ?_⟩
  by_cases h0 : i = 0
  · rw [decide_eq_true h0, Bool.true_or]
  · have hs := (List.pairwise_iff_getElem.1 h1) (i - 1) i (by omega) hi (by omega)
    rw [← triAt_flat T (show i - 1 < T.length by omega), ← e] at hs
    have e3 : f3a (flat T) (i - 1) = (triAt (flat T) (i - 1)).1 := rfl
    have e4 : f3c (flat T) (i - 1) = (triAt (flat T) (i - 1)).2.2 := rfl
    rw [e3, e4]
    unfold fpB
    unfold sepT at hs
    simp only [Bool.or_eq_true, Bool.and_eq_true, decide_eq_true_eq, beq_iff_eq]
    exact .inr hs
/-- the fogs behind nights on the first j links: fogs from a to b -/
def nfT (z : List Int) (n : Nat) (a b : Int) : Nat → List Tri
  | 0 => tri z n
  | j + 1 => addR (flat (nfT z n a b j)) (nfT z n a b j).length ((j : Int), a, b)
theorem nfT_inv {nL : Nat} {z : List Int} {n : Nat} {a b : Int} (h : okFg nL z n = true) (ha : 0 ≤ a) (hab : a < b) (hb : b ≤ 10000) : ∀ j, j ≤ nL → (∀ i, i < j → (nfT z n a b i).length ≤ 60) → (nfT z n a b j).Pairwise sepT ∧ ∀ t ∈ nfT z n a b j, wfT nL t
  | 0, _, _ => by
    refine ⟨?_, fun t ht => ?_⟩
    · rw [nfT, List.pairwise_iff_getElem]
      intro i j hi hj hij
      have e : ∀ q (hq : q < (tri z n).length), (tri z n)[q] = triAt z q := fun q hq => by simp [tri]
      rw [tri_length] at hi hj
      rw [e, e]
      exact okFg_sep h j hij hj
    · obtain ⟨i, hi, rfl⟩ := List.getElem_of_mem ht
      have e : ∀ q (hq : q < (tri z n).length), (tri z n)[q] = triAt z q := fun q hq => by simp [tri]
      rw [nfT] at hi
      rw [tri_length] at hi
      simp only [nfT]
      rw [e]
      exact okFg_wf h i hi
  | j + 1, hj, hl => by
    obtain ⟨h1, h2⟩ := nfT_inv h ha hab hb j (by omega) (fun i hi => hl i (by omega))
    have hok : okFg nL (flat (nfT z n a b j)) (nfT z n a b j).length = true := by
      rw [okFg_flat h1 h2, decide_eq_true (hl j (by omega))]
    have hx : wfT nL ((j : Int), a, b) := ⟨⟨by simp, by simp; omega⟩, ha, hab, hb⟩
    obtain ⟨h3, h4, _⟩ := addR_sep hok hx
    exact ⟨h3, h4⟩
end Go.Proofs.Ytjmbhlhkjjinbaa
