/- Slices of slices of integers that the call itself made: small laws. No condition. -/
import Derived.Test.YtedkffdkhnfoiaaDoorRow
namespace Go.Proofs.YtedkffdkhnfoiaaDoor
open Go.RowKit
set_option linter.unusedSimpArgs false
set_option linter.unusedVariables false

theorem info_Ints : (Tryd.prog.info? 31).map (fun i => (i.zero, i.size, i.bytes)) = some (some (.slice none 0 0), 1, 24) := by kernel_rfl

/-- the value of a slice of m elements at the head of block g -/
def hdr (m g : Nat) : Value := .slice (some ⟨g, 0, none⟩) m m

/-- v is a slice of slices of m integers each, made since block base: the rows Z lie in the blocks gs, each in one of its own -/
structure Lists (w : World) (base : Nat) (v : Value) (m : Nat) (gs : List Nat) (Z : List (List Int)) : Prop where
  len : gs.length = Z.length
  row : w.ownsRow base 31 1 v gs.length (gs.map (hdr m))
  ins : ∀ i, i < gs.length → w.ownsRow base 3 1 (hdr m (gs.getD i 0)) m ((Z.getD i []).map (Value.int .i64))
  dif : ∀ i j, i < j → j < gs.length → gs.getD i 0 ≠ gs.getD j 0

theorem Lists.nil (w : World) (base m : Nat) : Lists w base (.slice none 0 0) m [] [] :=
  ⟨rfl, World.ownsRow_nil _ _ _ _, fun i hi => absurd hi (by simp), fun i j _ hj => absurd hj (by simp)⟩

section
variable {w w' : World} {base m : Nat} {v : Value} {gs : List Nat} {Z : List (List Int)}

theorem hdr_block (m g : Nat) : (hdr m g).ownBlock = some g := rfl
theorem Lists.inlt (h : Lists w base v m gs Z) (i : Nat) (hi : i < gs.length) : base ≤ gs.getD i 0 ∧ gs.getD i 0 < w.heap.size := (h.ins i hi).lt _ rfl

/-- blocks of different element types differ -/
theorem own_ne {e e' : TypeId} {b b' s s' n n' g : Nat} {v v' : Value} {xs xs' : List Value} (h : w.ownsRow b e s v n xs) (h' : w.ownsRow b' e' s' v' n' xs') (hne : e ≠ e') (hv : v.ownBlock = some g) : v'.ownBlock ≠ some g := by
  intro hv'
  rcases h.2 with ⟨rfl, _⟩ | ⟨g1, c1, cur1, rfl, _, hg1, _⟩
  · simp [Value.ownBlock] at hv
  · rcases h'.2 with ⟨rfl, _⟩ | ⟨g2, c2, cur2, rfl, _, hg2, _⟩
    · simp [Value.ownBlock] at hv'
    · simp only [Value.ownBlock, Option.some.injEq] at hv hv'
      subst hv
      subst hv'
      rw [hg1] at hg2
      simp only [Option.some.injEq, Obj.cells.injEq] at hg2
      exact hne hg2.2.1

theorem Lists.far (h : Lists w base v m gs Z) {r : Option Nat} (g : w.grownBy w' r) (hr : ∀ k, r = some k → k < base ∨ w.heap.size ≤ k) : Lists w' base v m gs Z := by
  have key : ∀ {e : TypeId} {s n : Nat} {u : Value} {xs : List Value}, w.ownsRow base e s u n xs → w'.ownsRow base e s u n xs := fun {e s n u xs} ho => ho.kept g (by
    cases hb : u.ownBlock with
    | none => exact .inl rfl
    | some k =>
      right
      intro hk
      have h1 := ho.lt k hb
      have h2 := hr k hk.symm
      omega)
  exact ⟨h.len, key h.row, fun i hi => key (h.ins i hi), h.dif⟩
theorem Lists.ext (h : Lists w base v m gs Z) (x : Ext w w') : Lists w' base v m gs Z := h.far x.grown (fun k hk => by cases hk)
theorem Lists.alloc (h : Lists w base v m gs Z) (o : Obj) : Lists (w.alloc o) base v m gs Z := h.far (World.grownBy_alloc w o none) (fun k hk => by cases hk)
theorem Lists.mono {base' : Nat} (h : Lists w base v m gs Z) (hb : base' ≤ base) : Lists w base' v m gs Z :=
  ⟨h.len, row_mono h.row hb, fun i hi => row_mono (h.ins i hi) hb, h.dif⟩

/-- the header of row i -/
theorem Lists.at_ (h : Lists w base v m gs Z) {i : Nat} (hi : i < gs.length) {G c : Nat} (hv : v = .slice (some ⟨G, 0, none⟩) gs.length c) : w.cell? ⟨G, i, none⟩ = some (.slice (some ⟨gs.getD i 0, 0, none⟩) m m) := by
  subst hv
  rw [h.row.cellAt i (by omega)]
  simp [hdr, List.getD_eq_getElem?_getD, List.getElem?_eq_getElem hi]
theorem Lists.shape (h : Lists w base v m gs Z) : ∃ a c, v = .slice a gs.length c ∧ gs.length ≤ c ∧ c ≤ maxLen ∧ (gs.length = 0 ∨ ∃ G, a = some ⟨G, 0, none⟩ ∧ base ≤ G ∧ G < w.heap.size) := row_shape h.row
theorem Lists.inner (h : Lists w base v m gs Z) {i : Nat} (hi : i < gs.length) : w.ownsRow base 3 1 (.slice (some ⟨gs.getD i 0, 0, none⟩) m m) m ((Z.getD i []).map (Value.int .i64)) := h.ins i hi
theorem Lists.inlen (h : Lists w base v m gs Z) {i : Nat} (hi : i < gs.length) : (Z.getD i []).length = m := by
  have := (h.ins i hi).1
  simpa using this
theorem Lists.icell (h : Lists w base v m gs Z) {i j : Nat} (hi : i < gs.length) (hj : j < m) : w.cell? ⟨gs.getD i 0, j, none⟩ = some (.int .i64 ((Z.getD i []).getD j 0)) := by
  rw [(h.inner hi).cellAt j (by omega), map_getD (by rw [h.inlen hi]; exact hj)]
theorem Lists.ifree (h : Lists w base v m gs Z) {i : Nat} (hi : i < gs.length) (j : Nat) : w.frozen? ⟨gs.getD i 0, j, none⟩ = false := (h.inner hi).frozenAt j

/-- row i has turned, and nothing else -/
theorem Lists.upd (h : Lists w base v m gs Z) {i : Nat} (hi : i < gs.length) (g : w.grownBy w' (some (gs.getD i 0))) {x : List Int} (hx : w'.ownsRow base 3 1 (hdr m (gs.getD i 0)) m (x.map (Value.int .i64))) : Lists w' base v m gs (Z.set i x) := by
  refine ⟨by rw [List.length_set]; exact h.len, h.row.kept g ?_, fun j hj => ?_, h.dif⟩
  · right
    exact own_ne (h.ins i hi) h.row (by decide) rfl
  · rw [List.getD_eq_getElem?_getD (l := Z.set i x), List.getElem?_set]
    by_cases e : i = j
    · subst e
      rw [if_pos rfl, if_pos (by rw [← h.len]; exact hi)]
      exact hx
    · rw [if_neg e, ← List.getD_eq_getElem?_getD]
      refine (h.ins j hj).kept g (.inr ?_)
      rw [hdr_block]
      intro hc
      have hc : gs.getD j 0 = gs.getD i 0 := by simpa using hc
      rcases Nat.lt_or_gt_of_ne e with l | l
      · exact h.dif i j l hj hc.symm
      · exact h.dif j i l hi hc
theorem map_set_int (l : List Int) (j : Nat) (y : Int) : (l.map (Value.int .i64)).set j (.int .i64 y) = (l.set j y).map (Value.int .i64) := by
  rw [List.map_set]
/-- a store into row i -/
theorem Lists.set (h : Lists w base v m gs Z) {i : Nat} (hi : i < gs.length) (j : Nat) (y : Int) : Lists (w.setCell ⟨gs.getD i 0, j, none⟩ (.int .i64 y)) base v m gs (Z.set i ((Z.getD i []).set j y)) := by
  have s := (h.inner hi).stored j (.int .i64 y)
  refine h.upd hi s.2 ?_
  rw [← map_set_int]
  exact s.1

/-- a new row laid down and appended -/
theorem Lists.snoc (h : Lists w base v m gs Z) {w1 : World} {v' : Value} {g : Nat} {x : List Int} (hg : w.heap.size ≤ g) (hE : Ext w w1) (hx : w1.ownsRow base 3 1 (hdr m g) m (x.map (Value.int .i64)))
    (hr : w'.ownsRow base 31 1 v' (gs.length + 1) (gs.map (hdr m) ++ [hdr m g])) (gr : w1.grownBy w' v.ownBlock) : Lists w' base v' m (gs ++ [g]) (Z ++ [x]) := by
  have h1 := h.ext hE
  have hcase : ∀ i, i < gs.length + 1 → (i < gs.length ∧ (gs ++ [g]).getD i 0 = gs.getD i 0 ∧ (Z ++ [x]).getD i [] = Z.getD i []) ∨ (i = gs.length ∧ (gs ++ [g]).getD i 0 = g ∧ (Z ++ [x]).getD i [] = x) := by
    intro i hi
    have hl := h.len
    by_cases c : i < gs.length
    · left
      refine ⟨c, ?_, ?_⟩
      · rw [List.getD_eq_getElem?_getD, List.getElem?_append_left c, ← List.getD_eq_getElem?_getD]
      · rw [List.getD_eq_getElem?_getD, List.getElem?_append_left (by omega), ← List.getD_eq_getElem?_getD]
    · right
      obtain rfl : i = gs.length := by omega
      refine ⟨rfl, by simp, by rw [hl]; simp⟩
  refine ⟨by simp [h.len], by simpa using hr, fun i hi => ?_, fun i j hij hj => ?_⟩
  · have key : ∀ {u : Value} {ys : List Value}, w1.ownsRow base 3 1 u m ys → w'.ownsRow base 3 1 u m ys := fun {u ys} ho => ho.kept gr (by
      cases hb : u.ownBlock with
      | none => exact .inl rfl
      | some k => exact .inr (fun hk => own_ne ho h1.row (by decide) hb hk.symm))
    rcases hcase i (by simpa using hi) with ⟨c, e1, e2⟩ | ⟨c, e1, e2⟩
    · rw [e1, e2]
      exact key (h1.ins i c)
    · rw [e1, e2]
      exact key hx
  · have hj' : j < gs.length + 1 := by simpa using hj
    rcases hcase i (by omega) with ⟨c, e1, _⟩ | ⟨c, e1, _⟩
    · rcases hcase j hj' with ⟨d, f1, _⟩ | ⟨d, f1, _⟩
      · rw [e1, f1]
        exact h.dif i j hij d
      · rw [e1, f1]
        have := (h.inlt i c).2
        omega
    · omega
end

/-- marks laid into all rows: k, k + 1, .. -/
def marks2 (k : Int) (m n : Nat) : List (List Int) := (List.range n).map fun (i : Nat) => marks (k + (m : Int) * (i : Int)) m
theorem marks2_length (k : Int) (m n : Nat) : (marks2 k m n).length = n := by simp [marks2]
theorem marks2_getD {k : Int} {m n i : Nat} (h : i < n) : (marks2 k m n).getD i [] = marks (k + (m : Int) * (i : Int)) m := by
  simp [marks2, List.getD_eq_getElem?_getD, h]
theorem lists_full {A B : List (List Int)} (hl : A.length = B.length) (h : ∀ j, j < B.length → A.getD j [] = B.getD j []) : A = B := by
  apply List.ext_getElem?
  intro j
  by_cases hj : j < B.length
  · have := h j hj
    rw [List.getD_eq_getElem?_getD, List.getD_eq_getElem?_getD, List.getElem?_eq_getElem hj, List.getElem?_eq_getElem (show j < A.length by omega)] at this
    rw [List.getElem?_eq_getElem hj, List.getElem?_eq_getElem (show j < A.length by omega)]
    simpa using this
  · rw [List.getElem?_eq_none (by omega), List.getElem?_eq_none (by omega)]
theorem getD_set_other {α : Type} {l : List α} {i j : Nat} {x d : α} (h : i ≠ j) : (l.set i x).getD j d = l.getD j d := by
  rw [List.getD_eq_getElem?_getD, List.getElem?_set, if_neg h, ← List.getD_eq_getElem?_getD]
theorem getD_set_same {α : Type} {l : List α} {i : Nat} {x d : α} (h : i < l.length) : (l.set i x).getD i d = x := by
  rw [List.getD_eq_getElem?_getD, List.getElem?_set, if_pos rfl, if_pos h]
  rfl
theorem getD_append_last {α : Type} (l : List α) (x d : α) : (l ++ [x]).getD ((l ++ [x]).length - 1) d = x := by
  simp
theorem below_ext {a b c : World} {B : Nat} (h : Ext a b) (k : Below B b c) (hB : a.heap.size ≤ B) : Ext a c := Below.trans h (k.mono hB)
end Go.Proofs.YtedkffdkhnfoiaaDoor
