/- Nets carried over, measured, compared, marked: what each helper of the statements returns. No condition. -/
import Derived.Test.YtjmbhlhkjjinbaaConvTower
import Derived.Test.YtjmbhlhkjjinbaaConvLink
import Derived.Maps.RangeWalk
import Derived.Deep.AppendLies
namespace Go.Proofs.Ytjmbhlhkjjinbaa
open Go.RowKit
set_option linter.unusedSimpArgs false
set_option linter.unusedVariables false

/-- two rows, of nT towers and of nL links -/
def NetRow (w : World) (v : Value) (nT : Nat) (zT : List Int) (nL : Nat) (zL : List Int) : Prop := ∃ vT vL, v = .agg #[vT, vL] ∧ IntRow .i64 3 w vT nT zT ∧ IntRow .i64 3 w vL nL zL
theorem NetRow.ext {w w' : World} {v : Value} {nT nL : Nat} {zT zL : List Int} (h : NetRow w v nT zT nL zL) (e : Ext w w') : NetRow w' v nT zT nL zL := by
  obtain ⟨vT, vL, rfl, hT, hL⟩ := h
  exact ⟨vT, vL, rfl, hT.ext e, hL.ext e⟩
theorem NetRow.wf {w : World} {v : Value} {nT nL : Nat} {zT zL : List Int} (h : NetRow w v nT zT nL zL) : (∀ x ∈ zT, (Lit.int .i64 x).wf = true) ∧ ∀ x ∈ zL, (Lit.int .i64 x).wf = true := by
  obtain ⟨vT, vL, rfl, hT, hL⟩ := h
  exact ⟨hT.2.2.1, hL.2.2.1⟩
/-- a net of the call's own -/
def OwnNet (w : World) (base : Nat) (v : Value) (nT : Nat) (zT : List Int) (nL : Nat) (zL : List Int) : Prop := ∃ gT gL, v = .agg #[.slice (some ⟨gT, 0, none⟩) nT nT, .slice (some ⟨gL, 0, none⟩) nL nL] ∧ gT < gL ∧ w.ownsRow base 96 3 (.slice (some ⟨gT, 0, none⟩) nT nT) nT (zT.map (Value.int .i64)) ∧ w.ownsRow base 72 3 (.slice (some ⟨gL, 0, none⟩) nL nL) nL (zL.map (Value.int .i64))
theorem OwnNet.ext {w w' : World} {base : Nat} {v : Value} {nT nL : Nat} {zT zL : List Int} (h : OwnNet w base v nT zT nL zL) (e : Ext w w') : OwnNet w' base v nT zT nL zL := by
  obtain ⟨gT, gL, rfl, hlt, hT, hL⟩ := h
  exact ⟨gT, gL, rfl, hlt, row_ext hT e, row_ext hL e⟩
theorem OwnNet.net {w : World} {base : Nat} {v : Value} {nT nL : Nat} {zT zL : List Int} (h : OwnNet w base v nT zT nL zL) (h1 : nT ≤ maxLen) (h2 : nL ≤ maxLen) (h3 : ∀ x ∈ zT, (Lit.int .i64 x).wf = true) (h4 : ∀ x ∈ zL, (Lit.int .i64 x).wf = true) : NetRow w v nT zT nL zL := by
  obtain ⟨gT, gL, rfl, hlt, hT, hL⟩ := h
  exact ⟨_, _, rfl, row_ints hT h1 h3, row_ints hL h2 h4⟩
theorem OwnNet.hi {w : World} {base : Nat} {v : Value} {nT nL : Nat} {zT zL : List Int} (h : OwnNet w base v nT zT nL zL) : ∀ gT gL, v = .agg #[.slice (some ⟨gT, 0, none⟩) nT nT, .slice (some ⟨gL, 0, none⟩) nL nL] → gL < w.heap.size := by
  obtain ⟨gT, gL, rfl, hlt, hT, hL⟩ := h
  intro gT' gL' he
  simp only [Value.agg.injEq, Array.mk.injEq, List.cons.injEq, Value.slice.injEq, Option.some.injEq, Addr.mk.injEq, and_true, true_and] at he
  obtain ⟨rfl, rfl⟩ := he
  exact (hL.lt _ rfl).2

/-- only blocks from lo to below hi have turned, of those that were there -/
def Chg (lo hi : Nat) (w w' : World) : Prop := w'.os = w.os ∧ w'.tape = w.tape ∧ w'.output = w.output ∧ w.heap.size ≤ w'.heap.size ∧ ∀ k, k < w.heap.size → (k < lo ∨ hi ≤ k) → w'.heap[k]? = w.heap[k]?
theorem Chg.of_grown {lo hi : Nat} {w w' : World} {r : Option Nat} (g : w.grownBy w' r) (hr : ∀ k, r = some k → lo ≤ k ∧ k < hi) : Chg lo hi w w' :=
  ⟨g.os, g.tape, g.output, g.size, fun k hk h => g.block k hk (fun e => by have := hr k e.symm; omega)⟩
theorem Chg.of_ext {lo hi : Nat} {w w' : World} (h : Ext w w') : Chg lo hi w w' := Chg.of_grown h.grown (fun k hk => by simp at hk)
theorem Chg.trans {lo hi : Nat} {a b c : World} (h : Chg lo hi a b) (k : Chg lo hi b c) : Chg lo hi a c :=
  ⟨k.1.trans h.1, k.2.1.trans h.2.1, k.2.2.1.trans h.2.2.1, Nat.le_trans h.2.2.2.1 k.2.2.2.1, fun j hj hh => (k.2.2.2.2 j (Nat.lt_of_lt_of_le hj h.2.2.2.1) hh).trans (h.2.2.2.2 j hj hh)⟩
theorem Ext.of_chg {a w w' : World} {lo hi : Nat} (h : Ext a w) (c : Chg lo hi w w') (hlo : a.heap.size ≤ lo) : Ext a w' :=
  show Below a.heap.size a w' from ⟨c.1.trans (Below.os h), c.2.1.trans (Below.tape h), c.2.2.1.trans (Below.output h), Nat.le_trans (Below.size h) c.2.2.2.1, fun k hk => (c.2.2.2.2 k (Nat.lt_of_lt_of_le hk (Below.size h)) (.inl (by omega))).trans (Below.block h k hk)⟩
theorem row_chg {w w' : World} {lo hi base : Nat} {e : TypeId} {size : Nat} {v : Value} {n : Nat} {xs : List Value} (h : w.ownsRow base e size v n xs) (c : Chg lo hi w w') (hv : ∀ k, v.ownBlock = some k → k < lo ∨ hi ≤ k) : w'.ownsRow base e size v n xs := by
  refine ⟨h.1, ?_⟩
  rcases h.2 with h2 | ⟨g, cap, cur, rfl, h3, h4, h5⟩
  · exact .inl h2
  · exact .inr ⟨g, cap, cur, rfl, h3, by rw [c.2.2.2.2 g (h.lt g rfl).2 (hv g rfl)]; exact h4, h5⟩
theorem chg_set (w : World) (b j : Nat) (u : Value) : Chg b (b + 1) w (w.setCell ⟨b, j, none⟩ u) :=
  ⟨rfl, rfl, rfl, by simp, fun k _ hk => heap_setCell_other w ⟨b, j, none⟩ k u (by simp; omega)⟩
theorem row_set {w : World} {base : Nat} {e : TypeId} {size : Nat} {v : Value} {n : Nat} {xs : List Value} (h : w.ownsRow base e size v n xs) {b j : Nat} {u : Value} (hb : ∀ k, v.ownBlock = some k → k ≠ b) : (w.setCell ⟨b, j, none⟩ u).ownsRow base e size v n xs :=
  row_chg h (chg_set w b j u) (fun k hk => by have := hb k hk; omega)

end Go.Proofs.Ytjmbhlhkjjinbaa
