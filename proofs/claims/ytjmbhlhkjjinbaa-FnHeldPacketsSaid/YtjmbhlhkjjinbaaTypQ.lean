/- Typed operations of 'x.f = append(x.f, x.f[0])'. No condition. -/
import Derived.Test.YtjmbhlhkjjinbaaTypP
namespace Go.Proofs.Ytjmbhlhkjjinbaa
open Go.RowKit
set_option linter.unusedSimpArgs false
set_option linter.unusedVariables false

def jApp (B b f : Nat) (vR : Value) (GR : Nat) (w : World) : Prop := b < w.heap.size ∧ b ≠ B ∧ w.cell? ⟨b, f, none⟩ = some vR ∧ GR < w.heap.size ∧ GR ≠ B ∧ ∃ z0 z1 z2 : Int, w.cell? ⟨GR, 0, none⟩ = some (.int .i64 z0) ∧ w.cell? ⟨GR, 1, none⟩ = some (.int .i64 z1) ∧ w.cell? ⟨GR, 2, none⟩ = some (.int .i64 z2) ∧ (Lit.int .i64 z0).wf = true ∧ (Lit.int .i64 z1).wf = true ∧ (Lit.int .i64 z2).wf = true
theorem jApp_gr {B b f GR : Nat} {vR : Value} {w w' : World} (h : jApp B b f vR GR w) (g : Gr B [] w w') : jApp B b f vR GR w' := by
  have key : ∀ {bb o : Nat} {x : Value}, bb < w.heap.size → bb ≠ B → w.cell? ⟨bb, o, none⟩ = some x → w'.cell? ⟨bb, o, none⟩ = some x := fun {bb o x} h1 h2 h3 => (World.cell?_of_block (g.block bb h1 h2 (by simp))).trans h3
  have hs := g.size
  obtain ⟨h1, h2, h3, h4, h5, z0, z1, z2, h6, h7, h8, h9⟩ := h
  exact ⟨by omega, h2, key h1 h2 h3, by omega, h5, z0, z1, z2, key h4 h5 h6, key h4 h5 h7, key h4 h5 h8, h9⟩
def uApp (B b f : Nat) (vR : Value) (GR : Nat) : Nat → World → Value → Prop := fun k w v =>
  match k with
  | 0 => v = vR ∧ jApp B b f vR GR w
  | 1 => v = .pointer (some ⟨b, 0, none⟩) ∧ jApp B b f vR GR w
  | 2 => ∃ x0 x1 x2 : Int, (Lit.int .i64 x0).wf = true ∧ (Lit.int .i64 x1).wf = true ∧ (Lit.int .i64 x2).wf = true ∧ IntRow .i64 3 w v 1 [x0, x1, x2] ∧ farV B [] v
  | 3 => v = .pointer (some ⟨b, f, none⟩) ∧ jApp B b f vR GR w
  | 4 => v = .pointer (some ⟨GR, 0, none⟩) ∧ jApp B b f vR GR w
  | _ => False
theorem uApp_ok (B b f : Nat) (vR : Value) (GR : Nat) : UOk B [] (uApp B b f vR GR) := by
  intro k w w' v g h
  unfold uApp at h ⊢
  split at h <;> first | exact h | (obtain ⟨rfl, h1⟩ := h; exact ⟨rfl, jApp_gr h1 g⟩) | (obtain ⟨x0, x1, x2, w0, w1, w2, hr, hf⟩ := h; exact ⟨x0, x1, x2, w0, w1, w2, introw_gr hr hf g, hf⟩)
section
variable {B b f GR : Nat} {vR : Value} {vc : Value} {n : Nat} {zc : List Int}
variable {pre : List (Nat × Ty)} {T : Ty} {dst : Option Tmp} {x y : Operand} {t t' ty : TypeId} {pos : String} {aft : Array Edge} {g : Option (Nat × Bool)}
theorem uApp_lit (w : World) (v : Value) (x0 x1 x2 : Int) (w0 : (Lit.int .i64 x0).wf = true) (w1 : (Lit.int .i64 x1).wf = true) (w2 : (Lit.int .i64 x2).wf = true) (hr : IntRow .i64 3 w v 1 [x0, x1, x2]) (hf : farV B [] v) : uApp B b f vR GR 2 w v := ⟨x0, x1, x2, w0, w1, w2, hr, hf⟩
theorem a1_3 : ∀ w v, uApp B b f vR GR 1 w v → ∃ b' o, v = .pointer (some ⟨b', o, none⟩) ∧ uApp B b f vR GR 3 w (.pointer (some ⟨b', o + f, none⟩)) := by
  rintro w v ⟨rfl, h⟩
  exact ⟨b, 0, rfl, by rw [Nat.zero_add], h⟩
theorem a3_0 : ∀ w v, uApp B b f vR GR 3 w v → ∃ b' o x, v = .pointer (some ⟨b', o, none⟩) ∧ w.cell? ⟨b', o, none⟩ = some x ∧ uApp B b f vR GR 0 w x := by
  rintro w v ⟨rfl, h⟩
  exact ⟨b, f, vR, rfl, h.2.2.1, rfl, h⟩
set_option maxRecDepth 100000 in
theorem ok_idxC {m c : Nat} (hm : 0 < m) (hv : vR = .slice (some ⟨GR, 0, none⟩) m c) (hidx : ∀ (G m c i : Nat) (w : World), i < m → (Instr.indexAt t (.slice (some ⟨G, 0, none⟩) m c) (.int .i64 (i : Int))).run Try.prog w = .ok (.pointer (some ⟨G, i * 3, none⟩)) w) (hx : oB pre x (.usr 0) = true) :
    OK B [] (uApp B b f vR GR) vc n zc { dst := dst, op := .indexAddr t x (.const (.int .i64 0)), type := ty, pos := pos, after := aft, guard := g } pre (.usr 4) := by
  intro a w q hI hq hp Kn Q hK
  obtain ⟨e1, hj⟩ : uApp B b f vR GR 0 w (a.eval x) := oB_sound (B := B) (β := []) (U := uApp B b f vR GR) hx hp
  subst hv
  have h0 := hidx GR m c 0 w hm
  rw [Nat.zero_mul] at h0
  have e2 : a.eval (.const (.int .i64 0)) = .int .i64 ((0 : Nat) : Int) := rfl
  unfold Oper.wp execOp
  simp only [Sem.run_bind, e1, e2, h0]
  exact hK _ w q (by omega) hI ⟨rfl, hj⟩ (Gr.refl _ _ _)
theorem ok_load3P (hi : (Try.prog.info? t).map (·.size) = some 3) (hu' : (Try.prog.underlying t).any (·.isRow) = true) (hx : oB pre x (.usr 4) = true) :
    OK B [] (uApp B b f vR GR) vc n zc { dst := dst, op := .load t x, type := ty, pos := pos, after := aft, guard := g } pre (.agg 3) := by
  intro a w q hI hq hp Kn Q hK
  obtain ⟨d, hu, hd⟩ : ∃ d, Try.prog.underlying t = some d ∧ d.isRow = true := by
    cases h : Try.prog.underlying t with
    | none => simp [h] at hu'
    | some d => exact ⟨d, rfl, by simpa [h] using hu'⟩
  obtain ⟨e1, hj⟩ : uApp B b f vR GR 4 w (a.eval x) := oB_sound (B := B) (β := []) (U := uApp B b f vR GR) hx hp
  obtain ⟨_, _, _, _, _, z0, z1, z2, c0, c1, c2, w0, w1, w2⟩ := hj
  refine wp_load_mid t x rfl GR 0 e1 ([z0, z1, z2].map (Value.int .i64)) d (fun j v hv => ?_) hu hd (by rw [hi]; simp) ?_
  · match j, hv with
    | 0, hv => cases hv; exact c0
    | 1, hv => cases hv; exact c1
    | 2, hv => cases hv; exact c2
    | j + 3, hv => simp at hv
  · refine hK _ w q (by omega) hI ⟨[z0, z1, z2], rfl, rfl, fun y hy => ?_⟩ (Gr.refl _ _ _)
    simp only [List.mem_cons, List.not_mem_nil, or_false] at hy
    rcases hy with rfl | rfl | rfl <;> assumption
end
end Go.Proofs.Ytjmbhlhkjjinbaa
