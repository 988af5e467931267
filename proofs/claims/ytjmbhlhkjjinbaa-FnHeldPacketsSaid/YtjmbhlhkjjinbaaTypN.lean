/- Operations of drawn regions: a slice literal of one struct of three integers; a load of a slice out of a box. No condition. -/
import Derived.Test.YtjmbhlhkjjinbaaTypU
import Derived.Test.YtjmbhlhkjjinbaaRegT
import Derived.Test.YtjmbhlhkjjinbaaApp3
import Derived.Test.YtjmbhlhkjjinbaaCurC
namespace Go.Proofs.Ytjmbhlhkjjinbaa
open Go.RowKit
set_option linter.unusedSimpArgs false
set_option linter.unusedVariables false
section
variable {B : Nat} {β : List (Nat × List Ty)} {U : Nat → World → Value → Prop} {vc : Value} {n : Nat} {zc : List Int}
variable {pre : List (Nat × Ty)} {T : Ty} {dst : Option Tmp} {x y : Operand} {t e ty : TypeId} {pos : String} {aft : Array Edge} {g : Option (Nat × Bool)}

theorem fill3 (x0 x1 x2 : Int) (z : Array Value) (hz : z.size = 3) : Instr.fill (fun i => some (i * 3, 3)) z [(0, .agg #[.int .i64 x0, .int .i64 x1, .int .i64 x2])] = some #[.int .i64 x0, .int .i64 x1, .int .i64 x2] := by
  obtain ⟨l⟩ := z
  match l, hz with
  | [a, b, c], _ => rfl
set_option maxRecDepth 100000 in
theorem ok_lit3 {i2 : Nat} (hu : Try.prog.underlying t = some (.slice e)) (hi : (Try.prog.info? e).map (fun i => (i.zero, i.size)) = some (some (.agg #[.int .i64 0, .int .i64 0, .int .i64 0]), 3)) (hy : oB pre y (.agg 3) = true)
    (h2 : ∀ (w : World) (v : Value) (x0 x1 x2 : Int), (Lit.int .i64 x0).wf = true → (Lit.int .i64 x1).wf = true → (Lit.int .i64 x2).wf = true → IntRow .i64 3 w v 1 [x0, x1, x2] → farV B β v → U i2 w v) (hU : UOk B β U) :
    OK B β U vc n zc { dst := dst, op := .buildSlice t 1 #[(0, y)], type := ty, pos := pos, after := aft, guard := g } pre (.usr i2) := by
  intro a w q hI hq hp K Q hK
  obtain ⟨xs, hx, hl, hw⟩ : vT B β U w (.agg 3) (a.eval y) := oB_sound hy hp
  obtain ⟨ie, hie, hzz, hsz⟩ : ∃ ie, Try.prog.info? e = some ie ∧ ie.zero = some (.agg #[.int .i64 0, .int .i64 0, .int .i64 0]) ∧ ie.size = 3 := by
    cases h : Try.prog.info? e with
    | none => simp [h] at hi
    | some ie =>
      simp [h] at hi
      exact ⟨ie, rfl, hi.1, hi.2⟩
  match xs, hl with
  | [x0, x1, x2], _ =>
    have hv : a.eval y = .agg #[.int .i64 x0, .int .i64 x1, .int .i64 x2] := hx
    refine wp_buildSlice t e 1 #[(0, y)] rfl #[.int .i64 x0, .int .i64 x1, .int .i64 x2] ie _ hu hie hzz (by rw [hsz]; omega) (by rw [hsz]; omega) ?_ ?_
    · rw [hsz]
      have : (#[((0 : Nat), y)].map fun (i, x) => (i, a.eval x)).toList = [(0, .agg #[.int .i64 x0, .int .i64 x1, .int .i64 x2])] := by simp [hv]
      rw [this]
      exact fill3 x0 x1 x2 _ (by simp)
    have ex : Ext w (w.alloc (.cells #[.int .i64 x0, .int .i64 x1, .int .i64 x2] e)) := (by repeat (first | exact Ext.refl _ | assumption | refine Ext.alloc ?_ _ | refine Ext.drew ?_ | refine Ext.drewN ?_ _ | refine Ext.setCell ?_ (by first | exact Nat.le_refl _ | (simp; done) | (dsimp only; omega) | (simp only [World.size_alloc, World.size_setCell]; omega)) _ | refine Ext.trans ?_ (by assumption)))
    have hB := hI.1.size
    refine hK _ _ q (by omega) (hI.ext hU ex) (h2 _ _ x0 x1 x2 (hw x0 (by simp)) (hw x1 (by simp)) (hw x2 (by simp)) (lit3_row w x0 x1 x2 e (hw x0 (by simp)) (hw x1 (by simp)) (hw x2 (by simp))) ?_) (Gr.of_ext ex)
    rintro a' l c ⟨rfl⟩
    refine ⟨(by simp only []; omega), fun p hp' => ?_⟩
    have := (hI.2 p hp').2.1
    simp only []
    omega
theorem ok_loadV {i o k : Nat} {et : TypeId} (hu : Try.prog.underlying t = some (.slice et)) (hx : oB pre x (.box i o) = true) (hb : ∃ p : Nat × List Ty, β[i]? = some p ∧ p.2[o]? = some (.usr k)) :
    OK B β U vc n zc { dst := dst, op := .load t x, type := ty, pos := pos, after := aft, guard := g } pre (.usr k) := by
  intro a w q hI hq hp Kn Q hK
  obtain ⟨p, hp1, hx2⟩ : vT B β U w (.box i o) (a.eval x) := oB_sound hx hp
  obtain ⟨p', hp1', hp2⟩ := hb
  rw [hp1] at hp1'
  cases hp1'
  obtain ⟨v, hv, hc, _⟩ := (hI.2 p (List.mem_of_getElem? hp1)).2.2.2 o (.usr k) hp2
  have hagg : (isAgg t).run Try.prog w = .ok false w := by
    unfold isAgg
    rw [Sem.run_bind, run_underlying hu w]
    rfl
  have hrun : (Instr.loadAt t (a.eval x)).run Try.prog w = .ok v w := by
    rw [hx2]
    simp [Instr.loadAt, Instr.sureAddr, loadVar, hagg, hc]
  unfold Oper.wp execOp
  simp only [Sem.run_bind, hrun]
  exact hK v w q (by omega) hI hv (Gr.refl _ _ _)
end
/-- one box of two slices -/
def uNet (vT vL : Value) (B : Nat) (β : List (Nat × List Ty)) : Nat → World → Value → Prop := fun k w v =>
  if k = 0 then v = vT else if k = 1 then v = vL else ∃ x0 x1 x2 : Int, (Lit.int .i64 x0).wf = true ∧ (Lit.int .i64 x1).wf = true ∧ (Lit.int .i64 x2).wf = true ∧ IntRow .i64 3 w v 1 [x0, x1, x2] ∧ farV B β v
theorem uNet_ok (vT vL : Value) (B : Nat) (β : List (Nat × List Ty)) : UOk B β (uNet vT vL B β) := by
  intro k w w' v g h
  unfold uNet at h ⊢
  by_cases h0 : k = 0
  · rw [if_pos h0] at h ⊢; exact h
  · rw [if_neg h0] at h ⊢
    by_cases h1 : k = 1
    · rw [if_pos h1] at h ⊢; exact h
    · rw [if_neg h1] at h ⊢
      obtain ⟨x0, x1, x2, w0, w1, w2, hr, hf⟩ := h
      exact ⟨x0, x1, x2, w0, w1, w2, introw_gr hr hf g, hf⟩
theorem uNet_lit {vT vL : Value} {B : Nat} {β : List (Nat × List Ty)} (w : World) (v : Value) (x0 x1 x2 : Int) (w0 : (Lit.int .i64 x0).wf = true) (w1 : (Lit.int .i64 x1).wf = true) (w2 : (Lit.int .i64 x2).wf = true) (hr : IntRow .i64 3 w v 1 [x0, x1, x2]) (hf : farV B β v) : uNet vT vL B β 2 w v := by
  unfold uNet
  rw [if_neg (by omega), if_neg (by omega)]
  exact ⟨x0, x1, x2, w0, w1, w2, hr, hf⟩
end Go.Proofs.Ytjmbhlhkjjinbaa
