/- Types of a region's own rows: a call that makes a row, an index into it, a load. No condition. -/
import Derived.Test.YtjmbhlhkjjinbaaTypS
namespace Go.Proofs.Ytjmbhlhkjjinbaa
open Go.RowKit
set_option linter.unusedSimpArgs false
set_option linter.unusedVariables false

section
variable {B : Nat} {β : List (Nat × List Ty)} {U : Nat → World → Value → Prop} {vc : Value} {n : Nat} {zc : List Int}
variable {pre : List (Nat × Ty)} {T : Ty} {dst : Option Tmp} {x y : Operand} {t t' ty : TypeId} {pos : String} {aft : Array Edge} {g : Option (Nat × Bool)}

theorem ok_callU {f : FuncId} {xs : Array Operand} {ats : Array TypeId} {ts : List Ty} (hf : ∀ (ys : Array Value) (w : World), (callFunc f ys).run Try.prog w = .ok (.enter f ys) w)
    (hc : ∀ (w : World) (q : Nat) (args : List Value), CI B β U vc n zc q w → q ≤ 800000000000 → argsT B β U w ts args →
      Calls Try.prog f args.toArray w fun e w' => ∃ (v : Value) (q' : Nat), e = .returned v ∧ q' ≤ q + 100000 ∧ CS w' B vc n zc q' ∧ vT B β U w' T v ∧ w.grownBy w' (some B))
    (hl : ts.length = xs.toList.length) (h : (xs.toList.zip ts).all (fun p => oB pre p.1 p.2) = true) (hU : UOk B β U) :
    OK B β U vc n zc { dst := dst, op := .call { callee := .value (.func f), args := xs, argTypes := ats }, type := ty, pos := pos, after := aft, guard := g } pre T := by
  intro a w q hI hq hp K Q hK
  unfold Oper.wp
  rw [execOp_call_go, hf]
  have ha := args_sound (U := U) hp ts xs.toList hl h
  have e : (#[] ++ xs.map a.eval ++ #[] : Array Value) = (xs.toList.map a.eval).toArray := by apply Array.ext'; simp
  rw [e]
  refine (hc w q _ hI hq ha).mono ?_
  rintro e w' ⟨v, q', rfl, hq', hcs, hv, hg⟩
  exact hK v w' q' hq' ⟨hcs, hI.2.grown hU hg⟩ hv (Gr.of_grown hg)

def ptrU (B : Nat) (β : List (Nat × List Ty)) (z : Int) (w : World) (v : Value) : Prop := ∃ b o, v = .pointer (some ⟨b, o, none⟩) ∧ b < w.heap.size ∧ b ≠ B ∧ (∀ p ∈ β, b ≠ p.1) ∧ w.cell? ⟨b, o, none⟩ = some (.int .i64 z)
theorem ptrU_gr {z : Int} {w w' : World} {v : Value} (h : ptrU B β z w v) (k : Gr B β w w') : ptrU B β z w' v := by
  obtain ⟨b, o, rfl, h1, h2, h3, h4⟩ := h
  exact ⟨b, o, rfl, Nat.lt_of_lt_of_le h1 k.size, h2, h3, (World.cell?_of_block (k.block b h1 h2 h3)).trans h4⟩

theorem ok_idxU {I m i2 i1 i3 : Nat} {zs : List Int} (hIm : I < m) (h2 : ∀ w v, U i2 w v → IntRow .i64 1 w v m zs ∧ farV B β v) (h1 : ∀ w v, U i1 w v → v = .int .i64 (I : Int)) (h3 : ∀ w v, ptrU B β (zs.getD I 0) w v → U i3 w v) (hx : oB pre x (.usr i2) = true) (hy : oB pre y (.usr i1) = true) :
    OK B β U vc n zc { dst := dst, op := .indexAddr 32 x y, type := ty, pos := pos, after := aft, guard := g } pre (.usr i3) := by
  intro a w q hI hq hp K Q hK
  have ex : U i2 w (a.eval x) := oB_sound (B := B) (β := β) (U := U) hx hp
  have ey : U i1 w (a.eval y) := oB_sound (B := B) (β := β) (U := U) hy hp
  obtain ⟨hr, hf⟩ := h2 _ _ ex
  have e1 := h1 _ _ ey
  obtain ⟨k1, k2, k3, b, c, e2, k4, k5, k6⟩ := hr
  obtain ⟨b, o, rfl, hb, hc⟩ := k6.resolve_left (by omega)
  have hfar := hf _ _ _ e2
  have hrun : (Instr.indexAt 32 (.slice (some ⟨b, o, none⟩) m c) (.int .i64 (I : Int))).run Try.prog w = .ok (.pointer (some ⟨b, o + I, none⟩)) w := by
    have hlt : (0 : Int) ≤ (I : Int) ∧ (I : Int) < (m : Int) := by omega
    simp [go_sem, hlt, hIm, Addr.add]
  unfold Oper.wp execOp
  simp only [Sem.run_bind, e1, e2, hrun]
  refine hK _ w q (by omega) hI (h3 _ _ ⟨b, o + I, rfl, hb, hfar.1, hfar.2, ?_⟩) (Gr.refl _ _ _)
  have := hc I (by omega)
  simpa using this

theorem ok_loadU {i3 : Nat} {z : Int} (h3 : ∀ w v, U i3 w v → ptrU B β z w v) (hz : (Lit.int .i64 z).wf = true) (hu : Try.prog.underlying t = some (.int .i64)) (hx : oB pre x (.usr i3) = true) :
    OK B β U vc n zc { dst := dst, op := .load t x, type := ty, pos := pos, after := aft, guard := g } pre .int := by
  intro a w q hI hq hp Kn Q hK
  have ex : U i3 w (a.eval x) := oB_sound (B := B) (β := β) (U := U) hx hp
  obtain ⟨b, o, hx2, _, _, _, hc⟩ := h3 _ _ ex
  have hagg : (isAgg t).run Try.prog w = .ok false w := by
    unfold isAgg
    rw [Sem.run_bind, run_underlying hu w]
    rfl
  have hrun : (Instr.loadAt t (a.eval x)).run Try.prog w = .ok (.int .i64 z) w := by
    rw [hx2]
    simp [Instr.loadAt, Instr.sureAddr, loadVar, hagg, hc]
  unfold Oper.wp execOp
  simp only [Sem.run_bind, hrun]
  exact hK _ w q (by omega) hI (intV_int hz) (Gr.refl _ _ _)
end
end Go.Proofs.Ytjmbhlhkjjinbaa
