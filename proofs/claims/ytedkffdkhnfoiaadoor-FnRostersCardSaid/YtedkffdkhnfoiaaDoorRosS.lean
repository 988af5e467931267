/- The library's sort of ints: what it does to a row of the call's own. No condition. -/
import Derived.Test.YtedkffdkhnfoiaaDoorStShelf
import Derived.Lib.OwnBridge
import Derived.Test.YtedkffdkhnfoiaaDoorPut
namespace Go.Proofs.YtedkffdkhnfoiaaDoor
open Go.RowKit
set_option linter.unusedSimpArgs false
set_option linter.unusedVariables false
open Go.Shelf

theorem grown_grow (w : World) (os : Array Obj) (r : Option Nat) : w.grownBy (Go.Sort.grow w os) r := ⟨rfl, rfl, rfl, by simp, fun k hk _ => Go.Sort.heap_grow_old w os hk⟩
theorem grown_putRow {α : Type} [Inhabited α] (enc : α → Value) (w : World) (n g : Nat) (d : Array α) : w.grownBy (Go.Sort.putRow enc (Go.Sort.ahead w n) g 0 d) (some g) :=
  ⟨rfl, rfl, rfl, by simp [Go.Sort.putRow, Go.Sort.mapBlock, Go.Sort.ahead], fun k _ hk => by
    have : g ≠ k := fun e => hk (by rw [e])
    simp [Go.Sort.putRow, Go.Sort.mapBlock, Go.Sort.ahead, Array.getElem?_modify, this]⟩

theorem sortI_any (base : Nat) (v : Value) (n : Nat) (zs : List Int) (w : World) (h : w.ownsRow base 3 1 v n (zs.map (Value.int .i64))) (hn : n ≤ 1000000) :
    Calls Tryd.prog 40 #[v] w fun e w' => e = .returned (.tuple #[]) ∧ ∃ ys : List Int, ys.Perm zs ∧ ys.Pairwise (fun a b => ¬ b < a) ∧ w'.ownsRow base 3 1 v n (ys.map (Value.int .i64)) ∧ w.grownBy w' v.ownBlock := by
  by_cases hv : v = .slice none 0 0
  · subst hv
    have hc : Calls Tryd.prog 40 #[.slice none 0 0] w fun e w' => e = .returned (.tuple #[]) ∧ w' = w := Any.slices_Sort_int_none Tryd.lays189 none 0 w
    refine hc.mono ?_
    rintro e w' ⟨rfl, rfl⟩
    have hn0 : n = 0 := by
      rcases h.2 with ⟨_, h0⟩ | ⟨g, cap, cur, h0, _⟩
      · exact h0
      · cases h0
    subst hn0
    obtain rfl : zs = [] := List.eq_nil_of_length_eq_zero (by have := h.1; simpa using this)
    exact ⟨rfl, [], List.Perm.refl _, by simp, h, World.grownBy.refl _ _⟩
  · obtain ⟨g, cap, rfl, hb, hg, hnc, hcm, hl, hH⟩ := Go.Lib.holds_of_ownsRow h hv
    have hc : Calls Tryd.prog 40 #[.slice (some ⟨g, 0, none⟩) zs.length cap] w fun e w' =>
      e = .returned (.tuple #[]) ∧ ∃ n os, w' = Go.Sort.grow (Go.Sort.putRow (Value.int .i64) (Go.Sort.ahead w n) g 0 (zs.mergeSort fun x y => decide (x ≤ y)).toArray) os := Any.slices_Sort_int Tryd.lays189 g 0 cap zs w hH hg (by omega)
    rw [hl] at hc
    refine hc.mono ?_
    rintro e w' ⟨rfl, q, os, rfl⟩
    have hp : (zs.mergeSort fun x y => decide (x ≤ y)).Perm zs := List.mergeSort_perm _ _
    have hs := List.pairwise_mergeSort (le := fun x y : Int => decide (x ≤ y)) (fun a b c h1 h2 => by simp at *; omega) (fun a b => by simp; omega) zs
    have hr := Go.Lib.ownsRow_putRow (q := q) (k := n) (ys := zs.mergeSort fun x y => decide (x ≤ y)) h (by rw [hp.length_eq]; exact hl) (Nat.le_refl _)
    rw [List.take_of_length_le (by rw [hp.length_eq]; omega)] at hr
    refine ⟨rfl, _, hp, hs.imp (fun {a b} hab => by simp at hab; omega), hr.kept (grown_grow _ os none) (by simp [Value.ownBlock]), ?_⟩
    exact World.grownBy.trans (grown_putRow _ w q g _) (grown_grow _ os _)
end Go.Proofs.YtedkffdkhnfoiaaDoor
