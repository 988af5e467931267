/- Slices of the call's own: small laws. No condition. -/
import Derived.Test.YtiemkobgpaekoaaIn
namespace Go.Proofs.Ytiemkobgpaekoaa
open Go.RowKit
set_option linter.unusedSimpArgs false
set_option linter.unusedVariables false

theorem Ext.grown {w w' : World} (h : Ext w w') : w.grownBy w' none := ⟨h.os, h.tape, h.output, Below.size h, fun k hk _ => Below.block h k hk⟩
theorem Ext.of_grown {a w w' : World} (h : Ext a w) (g : w.grownBy w' none) : Ext a w' := Below.grown h g h.size (by simp)
theorem Ext.of_grownAt {a w w' : World} {r : Option Nat} (h : Ext a w) (g : w.grownBy w' r) (hr : ∀ k, r = some k → a.heap.size ≤ k) : Ext a w' := Below.grown h g h.size hr

section
variable {w w' : World} {base : Nat} {e : TypeId} {size : Nat} {v : Value} {n : Nat} {xs : List Value}
theorem row_ext (h : w.ownsRow base e size v n xs) (x : Ext w w') : w'.ownsRow base e size v n xs := h.kept x.grown (by cases v.ownBlock <;> simp)

theorem row_cell {g cap : Nat} (h : w.ownsRow base e size (.slice (some ⟨g, 0, none⟩) n cap) n xs) (j : Nat) (hj : j < n * size) : ∃ u, w.cell? ⟨g, j, none⟩ = some u ∧ xs[j]? = some u := by
  have hl : j < xs.length := by rw [h.1]; exact hj
  exact ⟨xs[j], by rw [h.cellAt j hj]; simp [hl], by simp [hl]⟩

/-- A row of integers reads as one. -/
theorem row_ints {kd : IntKind} {zs : List Int} (h : w.ownsRow base e size v n (zs.map (Value.int kd))) (hm : n ≤ maxLen) (hw : ∀ z ∈ zs, (Lit.int kd z).wf = true) : IntRow kd size w v n zs := by
  have hl : zs.length = n * size := by simpa using h.1
  rcases h.2 with ⟨rfl, rfl⟩ | ⟨g, cap, cur, rfl, _, hg, hnc, hcm, hcs, _⟩
  · exact ⟨hl, hm, hw, none, 0, rfl, Nat.le_refl _, Nat.zero_le _, .inl rfl⟩
  · refine ⟨hl, hm, hw, some ⟨g, 0, none⟩, cap, rfl, hnc, hcm, .inr ⟨g, 0, rfl, (h.lt g rfl).2, fun j hj => ?_⟩⟩
    have := h.cells (g := g) rfl j (.int kd (zs.getD j 0)) (by simp [List.getD_eq_getElem?_getD, List.getElem?_eq_getElem (show j < zs.length by omega)])
    rw [Go.WideShapes.add_plain] at this
    exact this
end

theorem getD_wf {kd : IntKind} {zs : List Int} (hw : ∀ z ∈ zs, (Lit.int kd z).wf = true) {j : Nat} (hj : j < zs.length) : (Lit.int kd (zs.getD j 0)).wf = true := by
  rw [List.getD_eq_getElem?_getD, List.getElem?_eq_getElem hj]
  exact hw _ (List.getElem_mem hj)

theorem wf_bd {z : Int} (h : (Lit.int .i64 z).wf = true) : -9223372036854775808 ≤ z ∧ z ≤ 9223372036854775807 := by
  simpa [Lit.wf, IntKind.min, IntKind.max, IntKind.signed, IntKind.bits] using h

/-- what a row of n elements of k cells holds when all cells have been filled -/
theorem list_full {xs : List Value} {zs : List Int} {m : Nat} (hx : xs.length = m) (hz : zs.length = m) (h : ∀ j, j < m → xs[j]? = (zs.map (Value.int .i64))[j]?) : xs = zs.map (Value.int .i64) := by
  apply List.ext_getElem?
  intro j
  by_cases hj : j < m
  · exact h j hj
  · rw [List.getElem?_eq_none (by omega), List.getElem?_eq_none (by simp; omega)]

theorem map_getD {zs : List Int} {j : Nat} (hj : j < zs.length) : (zs.map (Value.int .i64))[j]? = some (.int .i64 (zs.getD j 0)) := by
  simp [List.getD_eq_getElem?_getD, List.getElem?_eq_getElem hj]
end Go.Proofs.Ytiemkobgpaekoaa
