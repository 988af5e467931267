/- Slices of the call's own: small laws. No condition. -/
import Derived.Test.YtjmbhlhkjjinbaaIn
namespace Go.Proofs.Ytjmbhlhkjjinbaa
open Go.RowKit
set_option linter.unusedSimpArgs false
set_option linter.unusedVariables false

theorem Ext.grown {w w' : World} (h : Ext w w') : w.grownBy w' none := ⟨h.os, h.tape, h.output, Below.size h, fun k hk _ => Below.block h k hk⟩
theorem Ext.of_grown {a w w' : World} (h : Ext a w) (g : w.grownBy w' none) : Ext a w' := Below.grown h g h.size (by simp)
theorem Ext.of_grownAt {a w w' : World} {r : Option Nat} (h : Ext a w) (g : w.grownBy w' r) (hr : ∀ k, r = some k → a.heap.size ≤ k) : Ext a w' := Below.grown h g h.size hr

section
variable {w w' : World} {base : Nat} {e : TypeId} {size : Nat} {v : Value} {n : Nat} {xs : List Value}
theorem row_ext (h : w.ownsRow base e size v n xs) (x : Ext w w') : w'.ownsRow base e size v n xs := h.kept x.grown (by cases v.ownBlock <;> simp)

theorem row_cell {g cap : Nat} (h : w.ownsRow base e size (.slice (some ⟨g, 0, none⟩) n cap) n xs) (j : Nat) (hj : j < n * size) : ∃ u, w.cell? ⟨g, j, none⟩ = some u ∧ xs[j]? = some u := by
  have hl : j < xs.length := by rw [h.1]; exact hj
  exact ⟨xs[j], by rw [h.cellAt j hj]; simp [hl], by simp [hl]⟩

/-- A row of integers reads as one. -/
theorem row_ints {kd : IntKind} {zs : List Int} (h : w.ownsRow base e size v n (zs.map (Value.int kd))) (hm : n ≤ maxLen) (hw : ∀ z ∈ zs, (Lit.int kd z).wf = true) : IntRow kd size w v n zs := by
  have hl : zs.length = n * size := by simpa using h.1
  rcases h.2 with ⟨rfl, rfl⟩ | ⟨g, cap, cur, rfl, _, hg, hnc, hcm, hcs, _⟩
  · exact ⟨hl, hm, hw, none, 0, rfl, Nat.le_refl _, Nat.zero_le _, .inl rfl⟩
  · refine ⟨hl, hm, hw, some ⟨g, 0, none⟩, cap, rfl, hnc, hcm, .inr ⟨g, 0, rfl, (h.lt g rfl).2, fun j hj => ?_⟩⟩
    have := h.cells (g := g) rfl j (.int kd (zs.getD j 0)) (by simp [List.getD_eq_getElem?_getD, List.getElem?_eq_getElem (show j < zs.length by omega)])
    rw [Go.WideShapes.add_plain] at this
    exact this
end

theorem getD_wf {kd : IntKind} {zs : List Int} (hw : ∀ z ∈ zs, (Lit.int kd z).wf = true) {j : Nat} (hj : j < zs.length) : (Lit.int kd (zs.getD j 0)).wf = true := by
  rw [List.getD_eq_getElem?_getD, List.getElem?_eq_getElem hj]
  exact hw _ (List.getElem_mem hj)

theorem wf_bd {z : Int} (h : (Lit.int .i64 z).wf = true) : -9223372036854775808 ≤ z ∧ z ≤ 9223372036854775807 := by
  simpa [Lit.wf, IntKind.min, IntKind.max, IntKind.signed, IntKind.bits] using h

/-- what a row of n elements of k cells holds when all cells have been filled -/
theorem list_full {xs : List Value} {zs : List Int} {m : Nat} (hx : xs.length = m) (hz : zs.length = m) (h : ∀ j, j < m → xs[j]? = (zs.map (Value.int .i64))[j]?) : xs = zs.map (Value.int .i64) := by
  apply List.ext_getElem?
  intro j
  by_cases hj : j < m
  · exact h j hj
  · rw [List.getElem?_eq_none (by omega), List.getElem?_eq_none (by simp; omega)]

theorem map_getD {zs : List Int} {j : Nat} (hj : j < zs.length) : (zs.map (Value.int .i64))[j]? = some (.int .i64 (zs.getD j 0)) := by
  simp [List.getD_eq_getElem?_getD, List.getElem?_eq_getElem hj]

/-- k, k + 1, .. : m numbers -/
def marks (k : Int) (m : Nat) : List Int := (List.range m).map fun (j : Nat) => k + (j : Int)
theorem marks_length (k : Int) (m : Nat) : (marks k m).length = m := by simp [marks]
theorem marks_getD {k : Int} {m j : Nat} (h : j < m) : (marks k m).getD j 0 = k + (j : Int) := by simp [marks, List.getD_eq_getElem?_getD, List.getElem?_eq_getElem (show j < (List.map (fun j : Nat => k + (j : Int)) (List.range m)).length by simpa using h)]
theorem marks_wf {k : Int} {m : Nat} (h0 : 0 ≤ k) (h1 : k + m ≤ 9223372036854775807) : ∀ z ∈ marks k m, (Lit.int .i64 z).wf = true := by
  intro z hz
  simp only [marks, List.mem_map, List.mem_range] at hz
  obtain ⟨j, hj, rfl⟩ := hz
  simp [Lit.wf, IntKind.min, IntKind.max, IntKind.signed, IntKind.bits]
  omega

theorem row_shape {w : World} {base : Nat} {e : TypeId} {size : Nat} {v : Value} {n : Nat} {xs : List Value} (h : w.ownsRow base e size v n xs) :
    ∃ a c, v = .slice a n c ∧ n ≤ c ∧ c ≤ maxLen ∧ (n = 0 ∨ ∃ g, a = some ⟨g, 0, none⟩ ∧ base ≤ g ∧ g < w.heap.size) := by
  have hl := h.lt
  rcases h.2 with ⟨rfl, rfl⟩ | ⟨g, cap, cur, rfl, h1, _, h2, h3, _⟩
  · exact ⟨_, _, rfl, Nat.le_refl _, Nat.zero_le _, .inl rfl⟩
  · exact ⟨_, _, rfl, h2, h3, .inr ⟨g, rfl, h1, (hl g rfl).2⟩⟩

/-- the first index, below n, of which P says yes; -1 if there is none -/
def idxOf (P : Nat → Bool) (n : Nat) : Int := match (List.range n).find? P with | some i => (i : Int) | none => -1
theorem idxOf_some {P : Nat → Bool} {n k : Nat} (hk : k < n) (hP : P k = true) (h : ∀ j, j < k → P j = false) : idxOf P n = k := by
  have e : (List.range n).find? P = some k := by
    rw [List.find?_range_eq_some]
    exact ⟨hP, by simpa using hk, fun j hj => by rw [h j hj]; rfl⟩
  unfold idxOf
  rw [e]
theorem idxOf_none {P : Nat → Bool} {n : Nat} (h : ∀ j, j < n → P j = false) : idxOf P n = -1 := by
  have e : (List.range n).find? P = none := by
    rw [List.find?_range_eq_none]
    exact fun j hj => by rw [h j (by simpa using hj)]; rfl
  unfold idxOf
  rw [e]
/-- all indices below n -/
def allB (P : Nat → Bool) (n : Nat) : Bool := (List.range n).all P
theorem allB_t {P : Nat → Bool} {n : Nat} (h : ∀ j, j < n → P j = true) : allB P n = true := by
  unfold allB
  rw [List.all_eq_true]
  exact fun j hj => h j (by simpa using hj)
theorem allB_get {P : Nat → Bool} {n : Nat} (h : allB P n = true) (j : Nat) (hj : j < n) : P j = true := by
  unfold allB at h
  exact List.all_eq_true.1 h j (by simpa using hj)
theorem allB_f {P : Nat → Bool} {n k : Nat} (hk : k < n) (h : P k = false) : allB P n = false := by
  rw [← Bool.not_eq_true]
  intro hc
  have := allB_get hc k hk
  rw [h] at this
  simp at this
theorem idxOf_ge (P : Nat → Bool) (n : Nat) : decide (0 ≤ idxOf P n) = !allB (fun i => !P i) n := by
  unfold idxOf
  cases e : (List.range n).find? P with
  | none =>
    have h : allB (fun i => !P i) n = true := allB_t fun j hj => by
      have := List.find?_eq_none.1 e j (by simpa using hj)
      simpa using this
    rw [h]
    rfl
  | some i =>
    have hi := List.find?_some e
    have hm := List.mem_of_find?_eq_some e
    have h : allB (fun i => !P i) n = false := allB_f (k := i) (by simpa using hm) (by simp [hi])
    rw [h]
    simp
theorem and_t {a b : Bool} (h : a = true) : (a && b) = b := by subst h; rfl
theorem and_f {a b : Bool} (h : a = false) : (a && b) = false := by subst h; rfl

/-- a row that lies below block B stays where blocks from B on have turned -/
theorem row_below {w w' : World} {base B : Nat} {e : TypeId} {size : Nat} {v : Value} {n : Nat} {xs : List Value} {r : Option Nat} (h : w.ownsRow base e size v n xs) (hv : ∀ k, v.ownBlock = some k → k < B) (g : w.grownBy w' r) (hr : ∀ k, r = some k → B ≤ k) : w'.ownsRow base e size v n xs := by
  refine h.kept g ?_
  cases hb : v.ownBlock with
  | none => exact .inl rfl
  | some k =>
    right
    intro hk
    have := hv k hb
    have := hr k hk.symm
    omega
theorem ext_append {a w w' : World} {base : Nat} {e : TypeId} {size : Nat} {v : Value} {n : Nat} {xs : List Value} (hE : Ext a w) (h : w.ownsRow base e size v n xs) (hb : a.heap.size ≤ base) (g : w.grownBy w' v.ownBlock) : Ext a w' :=
  hE.of_grownAt g fun k hk => Nat.le_trans hb (h.lt k hk).1

theorem cell_new1 (w : World) (x : Value) (t : TypeId) (b : Nat) (hb : b = w.heap.size) : ∀ j u, [x][j]? = some u → (w.alloc (.cells #[x] t)).cell? ((⟨b, 0, none⟩ : Addr).add j) = some u := by
  subst hb
  exact cell_one_new w x t
theorem row_mono {w : World} {base base' : Nat} {e : TypeId} {size : Nat} {v : Value} {n : Nat} {xs : List Value} (h : w.ownsRow base e size v n xs) (hb : base' ≤ base) : w.ownsRow base' e size v n xs := by
  refine ⟨h.1, ?_⟩
  rcases h.2 with h2 | ⟨g, cap, cur, h1, h2, h3⟩
  · exact .inl h2
  · exact .inr ⟨g, cap, cur, h1, Nat.le_trans hb h2, h3⟩
theorem row_above {w w' : World} {base : Nat} {e : TypeId} {size : Nat} {v : Value} {n : Nat} {xs : List Value} {r : Option Nat} (h : w.ownsRow base e size v n xs) (g : w.grownBy w' r) (hr : ∀ k, r = some k → k < base) : w'.ownsRow base e size v n xs := by
  refine h.kept g ?_
  cases hb : v.ownBlock with
  | none => exact .inl rfl
  | some k =>
    right
    intro hk
    have := (h.lt k hb).1
    have := hr k hk.symm
    omega
end Go.Proofs.Ytjmbhlhkjjinbaa
