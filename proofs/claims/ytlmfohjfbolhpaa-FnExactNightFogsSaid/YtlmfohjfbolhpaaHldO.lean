/- The chapter of fog: fogs cloned; adding a fog: the program. Conditions: the fogs are valid, the further one too. -/
import Derived.Test.YtlmfohjfbolhpaaHldN
import Derived.Lib.SliceRun
namespace Go.Proofs.Ytlmfohjfbolhpaa
open Go.RowKit
set_option linter.unusedSimpArgs false
set_option linter.unusedVariables false
open Go.Shelf Go.Sort

set_option maxRecDepth 100000 in
set_option maxHeartbeats 800000 in
theorem cloneFogs_any (v : Value) (n : Nat) (z : List Int) (w : World) (h : IntRow .i64 3 w v n z) (hn : n ≤ 1000000) :
    Calls Try.prog 75 #[v] w fun e w' => ∃ v', e = .returned v' ∧ w'.ownsRow w.heap.size 101 3 v' n (z.map (Value.int .i64)) ∧ Ext w w' := by
  obtain ⟨i0, hi, hz0, hz1, hz2⟩ := info_parts info_Fog
  have hh := hid h
  obtain ⟨hl, hm, hwf, a, c, rfl, hnc, hcm, hcell⟩ := h
  clear hwf
  have hnil := fun W => Go.Lib.run_eql_slice_nil (P := Try.prog) W 29 101 a n c 0 0 Try.underlying29
  cases a with
  | none =>
    have h0 : n = 0 := by
      rcases hcell with h | ⟨b, o, h, _⟩
      · exact h
      · cases h
    subst h0
    obtain rfl : z = [] := List.eq_nil_of_length_eq_zero (by omega)
    go_enter Try.func75, Try.ntmps75
    go_wp2_with (fail)
    go_ret
    exact ⟨_, rfl, World.ownsRow_nil _ _ _ _, Ext.refl _⟩
  | some ad =>
    clear hcell
    go_enter Try.func75, Try.ntmps75
    go_wp2_with (first | (at_builtin; refine wpList_src3 rfl (.tmp 5) (.tmp 6) 29 rfl w.heap.size 101 i0 _ Try.underlying29 hi hz0 hz1 hz2 rfl _ 0 [] rfl (row_empty3 _ _) _ n z rfl (hh.out.ext (by repeat (first | exact Ext.refl _ | assumption | refine Ext.alloc ?_ _ | refine Ext.drew ?_ | refine Ext.drewN ?_ _ | refine Ext.setCell ?_ (by first | exact Nat.le_refl _ | (simp; done) | (dsimp only; omega) | (simp only [World.size_alloc, World.size_setCell]; omega)) _ | refine Ext.trans ?_ (by assumption)))) (by omega) (by simp) ?_; intro v1 w1 hr1 hg1))
    have hE1 : Ext w w1 := Ext.of_grownAt ((by repeat (first | exact Ext.refl _ | assumption | refine Ext.alloc ?_ _ | refine Ext.drew ?_ | refine Ext.drewN ?_ _ | refine Ext.setCell ?_ (by first | exact Nat.le_refl _ | (simp; done) | (dsimp only; omega) | (simp only [World.size_alloc, World.size_setCell]; omega)) _ | refine Ext.trans ?_ (by assumption))) : Ext w (w.alloc (.cells #[] 101))) hg1 (fun k hk => by
      have hq : (Value.slice (some ⟨w.heap.size, 0, none⟩) 0 0).ownBlock = some k := hk
      have hq2 : w.heap.size = k := by simpa [Value.ownBlock] using hq
      omega)
    go_ret
    refine ⟨_, rfl, ?_, hE1⟩
    rw [Nat.zero_add, List.nil_append] at hr1
    exact hr1

end Go.Proofs.Ytlmfohjfbolhpaa