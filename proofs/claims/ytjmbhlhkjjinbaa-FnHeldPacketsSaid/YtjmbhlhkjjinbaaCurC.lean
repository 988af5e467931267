/- The drawing cursor among rows that grow: small laws. No condition. -/
import Derived.Test.YtjmbhlhkjjinbaaCurB
namespace Go.Proofs.Ytjmbhlhkjjinbaa
open Go.RowKit
set_option linter.unusedSimpArgs false
set_option linter.unusedVariables false

theorem CS.far {w w' : World} {B : Nat} {vc : Value} {n : Nat} {zc : List Int} {q : Nat} {r : Option Nat} (h : CS w B vc n zc q) (g : w.grownBy w' r) (hr : ∀ k, r = some k → B < k) : CS w' B vc n zc q := by
  obtain ⟨⟨s, h1⟩, h2, h3, h4⟩ := h
  cases r with
  | none => exact CS.ext ⟨⟨s, h1⟩, h2, h3, h4⟩ ⟨g.os, g.tape, g.output, g.size, fun k hk => g.block k hk (by simp)⟩
  | some b =>
    have hb := hr b rfl
    refine ⟨⟨s, h1.kept g (.inr (by simp [Value.ownBlock]; omega))⟩, introw_grown h2 (fun h0 a l c e => ?_) g, h3, h4⟩
    have := h3 h0 a l c e
    omega
def lenOf : Value → Nat
  | .slice _ n _ => n
  | _ => 0
theorem mem_wf3 {zs : List Int} {a b c : Int} (h : ∀ z ∈ zs, (Lit.int .i64 z).wf = true) (ha : (Lit.int .i64 a).wf = true) (hb : (Lit.int .i64 b).wf = true) (hc : (Lit.int .i64 c).wf = true) : ∀ z ∈ zs ++ [a, b, c], (Lit.int .i64 z).wf = true := by
  intro z hz
  rcases List.mem_append.1 hz with hz | hz
  · exact h z hz
  · simp only [List.mem_cons, List.not_mem_nil, or_false] at hz
    rcases hz with rfl | rfl | rfl
    · exact ha
    · exact hb
    · exact hc
theorem set_wf {zs : List Int} {k : Nat} {a : Int} (h : ∀ z ∈ zs, (Lit.int .i64 z).wf = true) (ha : (Lit.int .i64 a).wf = true) : ∀ z ∈ zs.set k a, (Lit.int .i64 z).wf = true := by
  intro z hz
  rcases List.mem_or_eq_of_mem_set hz with hz | rfl
  · exact h z hz
  · exact ha
theorem fresh {w w' : World} {vc : Value} (g : (w.alloc (.cells #[vc, .int .i64 0, .int .u64 0] 57)).grownBy w' (some w.heap.size)) : Ext w w' :=
  Ext.of_grownAt ((by repeat (first | exact Ext.refl _ | assumption | refine Ext.alloc ?_ _ | refine Ext.drew ?_ | refine Ext.drewN ?_ _ | refine Ext.setCell ?_ (by first | exact Nat.le_refl _ | (simp; done) | (dsimp only; omega) | (simp only [World.size_alloc, World.size_setCell]; omega)) _ | refine Ext.trans ?_ (by assumption))) : Ext w (w.alloc (.cells #[vc, .int .i64 0, .int .u64 0] 57))) g (by intro k hk; simp at hk; omega)
theorem introw_slice {kd : IntKind} {k : Nat} {w : World} {v : Value} {n : Nat} {zs : List Int} (h : IntRow kd k w v n zs) : ∃ a c, v = .slice a n c := by
  obtain ⟨_, _, _, a, c, rfl, _⟩ := h
  exact ⟨a, c, rfl⟩
end Go.Proofs.Ytjmbhlhkjjinbaa
