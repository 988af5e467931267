/- Typed operations on pointers of the prover's own kinds: fields, loads, lengths, indexes, nil checks. No condition. -/
import Derived.Test.YtjmbhlhkjjinbaaTypN
namespace Go.Proofs.Ytjmbhlhkjjinbaa
open Go.RowKit
set_option linter.unusedSimpArgs false
set_option linter.unusedVariables false

section
variable {B : Nat} {β : List (Nat × List Ty)} {U : Nat → World → Value → Prop} {vc : Value} {n : Nat} {zc : List Int}
variable {pre : List (Nat × Ty)} {T : Ty} {dst : Option Tmp} {x y : Operand} {t t' ty : TypeId} {pos : String} {aft : Array Edge} {g : Option (Nat × Bool)}

set_option maxRecDepth 100000 in
theorem ok_fptr {k1 k2 f d : Nat} (hf : ∀ b o w, (Instr.fieldAt t (.pointer (some ⟨b, o, none⟩)) f).run Try.prog w = .ok (.pointer (some ⟨b, o + d, none⟩)) w) (h12 : ∀ w v, U k1 w v → ∃ b o, v = .pointer (some ⟨b, o, none⟩) ∧ U k2 w (.pointer (some ⟨b, o + d, none⟩))) (hx : oB pre x (.usr k1) = true) :
    OK B β U vc n zc { dst := dst, op := .fieldAddr t x f, type := ty, pos := pos, after := aft, guard := g } pre (.usr k2) := by
  intro a w q hI hq hp Kn Q hK
  have ex : U k1 w (a.eval x) := oB_sound (B := B) (β := β) (U := U) hx hp
  obtain ⟨b, o, e, h2⟩ := h12 _ _ ex
  unfold Oper.wp execOp
  simp only [Sem.run_bind, e, hf]
  exact hK _ w q (by omega) hI h2 (Gr.refl _ _ _)
theorem ok_loadP {k1 k2 et : Nat} (hu : Try.prog.underlying t = some (.slice et)) (h12 : ∀ w v, U k1 w v → ∃ b o x, v = .pointer (some ⟨b, o, none⟩) ∧ w.cell? ⟨b, o, none⟩ = some x ∧ U k2 w x) (hx : oB pre x (.usr k1) = true) :
    OK B β U vc n zc { dst := dst, op := .load t x, type := ty, pos := pos, after := aft, guard := g } pre (.usr k2) := by
  intro a w q hI hq hp Kn Q hK
  have ex : U k1 w (a.eval x) := oB_sound (B := B) (β := β) (U := U) hx hp
  obtain ⟨b, o, u, e, hc, h2⟩ := h12 _ _ ex
  have hagg : (isAgg t).run Try.prog w = .ok false w := by
    unfold isAgg
    rw [Sem.run_bind, run_underlying hu w]
    rfl
  have hrun : (Instr.loadAt t (a.eval x)).run Try.prog w = .ok u w := by
    rw [e]
    simp [Instr.loadAt, Instr.sureAddr, loadVar, hagg, hc]
  unfold Oper.wp execOp
  simp only [Sem.run_bind, hrun]
  exact hK _ w q (by omega) hI h2 (Gr.refl _ _ _)
theorem ok_loadPI {k1 : Nat} (hu : Try.prog.underlying t = some (.int .i64)) (h12 : ∀ w v, U k1 w v → ∃ b o z, v = .pointer (some ⟨b, o, none⟩) ∧ w.cell? ⟨b, o, none⟩ = some (.int .i64 z) ∧ (Lit.int .i64 z).wf = true) (hx : oB pre x (.usr k1) = true) :
    OK B β U vc n zc { dst := dst, op := .load t x, type := ty, pos := pos, after := aft, guard := g } pre .int := by
  intro a w q hI hq hp Kn Q hK
  have ex : U k1 w (a.eval x) := oB_sound (B := B) (β := β) (U := U) hx hp
  obtain ⟨b, o, z, e, hc, hz⟩ := h12 _ _ ex
  have hagg : (isAgg t).run Try.prog w = .ok false w := by
    unfold isAgg
    rw [Sem.run_bind, run_underlying hu w]
    rfl
  have hrun : (Instr.loadAt t (a.eval x)).run Try.prog w = .ok (.int .i64 z) w := by
    rw [e]
    simp [Instr.loadAt, Instr.sureAddr, loadVar, hagg, hc]
  unfold Oper.wp execOp
  simp only [Sem.run_bind, hrun]
  exact hK _ w q (by omega) hI (intV_int hz) (Gr.refl _ _ _)
theorem ok_lenP {k1 k2 et : Nat} (hu : Try.prog.underlying t = some (.slice et)) (h12 : ∀ w v, U k1 w v → ∃ a l c, v = .slice a l c ∧ U k2 w (.int .i64 (l : Int))) (hx : oB pre x (.usr k1) = true) :
    OK B β U vc n zc { dst := dst, op := .call { callee := .builtin .len, args := #[x], argTypes := #[t] }, type := ty, pos := pos, after := aft, guard := g } pre (.usr k2) := by
  intro a w q hI hq hp Kn Q hK
  have ex : U k1 w (a.eval x) := oB_sound (B := B) (β := β) (U := U) hx hp
  obtain ⟨ad, l, c, e, h2⟩ := h12 _ _ ex
  have hrun : (execOp a.eval { dst := dst, op := .call { callee := .builtin .len, args := #[x], argTypes := #[t] }, type := ty, pos := pos, after := aft, guard := g }).run Try.prog w = .ok (.value (.int .i64 (l : Int))) w := by
    simp only [execOp, resolve, invoke, builtin, List.map_toArray, List.map_cons, List.map_nil, e]
    simp [Builtin.len_, run_underlying hu, goInt, Result.andThen]
  unfold Oper.wp
  rw [hrun]
  exact hK _ w q (by omega) hI h2 (Gr.refl _ _ _)
theorem ok_lenI {k1 et : Nat} (hu : Try.prog.underlying t = some (.slice et)) (h12 : ∀ w v, U k1 w v → ∃ a l c, v = .slice a l c ∧ l ≤ 1000000) (hx : oB pre x (.usr k1) = true) :
    OK B β U vc n zc { dst := dst, op := .call { callee := .builtin .len, args := #[x], argTypes := #[t] }, type := ty, pos := pos, after := aft, guard := g } pre .int := by
  intro a w q hI hq hp Kn Q hK
  have ex : U k1 w (a.eval x) := oB_sound (B := B) (β := β) (U := U) hx hp
  obtain ⟨ad, l, c, e, h2⟩ := h12 _ _ ex
  have hrun : (execOp a.eval { dst := dst, op := .call { callee := .builtin .len, args := #[x], argTypes := #[t] }, type := ty, pos := pos, after := aft, guard := g }).run Try.prog w = .ok (.value (.int .i64 (l : Int))) w := by
    simp only [execOp, resolve, invoke, builtin, List.map_toArray, List.map_cons, List.map_nil, e]
    simp [Builtin.len_, run_underlying hu, goInt, Result.andThen]
  unfold Oper.wp
  rw [hrun]
  exact hK _ w q (by omega) hI (intV_int (wf_i64 (by omega))) (Gr.refl _ _ _)
theorem ok_idxP {k1 k2 k3 : Nat} (hidx : ∀ (G m c i : Nat) (w : World), i < m → (Instr.indexAt t (.slice (some ⟨G, 0, none⟩) m c) (.int .i64 (i : Int))).run Try.prog w = .ok (.pointer (some ⟨G, i * 3, none⟩)) w)
    (h : ∀ w v u, U k1 w v → U k2 w u → ∃ G m c i, v = .slice (some ⟨G, 0, none⟩) m c ∧ u = .int .i64 (i : Nat) ∧ i < m ∧ U k3 w (.pointer (some ⟨G, i * 3, none⟩))) (hx : oB pre x (.usr k1) = true) (hy : oB pre y (.usr k2) = true) :
    OK B β U vc n zc { dst := dst, op := .indexAddr t x y, type := ty, pos := pos, after := aft, guard := g } pre (.usr k3) := by
  intro a w q hI hq hp Kn Q hK
  have ex : U k1 w (a.eval x) := oB_sound (B := B) (β := β) (U := U) hx hp
  have ey : U k2 w (a.eval y) := oB_sound (B := B) (β := β) (U := U) hy hp
  obtain ⟨G, m, c, i, e1, e2, hlt, h3⟩ := h _ _ _ ex ey
  unfold Oper.wp execOp
  simp only [Sem.run_bind, e1, e2, hidx G m c i w hlt]
  exact hK _ w q (by omega) hI h3 (Gr.refl _ _ _)
theorem ok_nilP {k1 : Nat} (h : ∀ w v, U k1 w v → ∃ a, v = .pointer (some a)) (hx : oB pre x (.usr k1) = true) :
    OK B β U vc n zc { dst := dst, op := .nilCheck x, type := ty, pos := pos, after := aft, guard := g } pre (.usr k1) := by
  intro a w q hI hq hp Kn Q hK
  have ex : U k1 w (a.eval x) := oB_sound (B := B) (β := β) (U := U) hx hp
  obtain ⟨ad, e⟩ := h _ _ ex
  have hrun : (execOp a.eval { dst := dst, op := .nilCheck x, type := ty, pos := pos, after := aft, guard := g }).run Try.prog w = .ok (.value (.pointer (some ad))) w := by
    unfold execOp
    simp only [e]
    rfl
  unfold Oper.wp
  rw [hrun]
  exact hK _ w q (by omega) hI (e ▸ ex) (Gr.refl _ _ _)
end
set_option maxRecDepth 100000 in
theorem idxT_run (G m c i : Nat) (w : World) (h : i < m) : (Instr.indexAt 24 (.slice (some ⟨G, 0, none⟩) m c) (.int .i64 (i : Int))).run Try.prog w = .ok (.pointer (some ⟨G, i * 3, none⟩)) w := by
  have hlt : (0 : Int) ≤ (i : Int) ∧ (i : Int) < (m : Int) := by omega
  simp [go_sem, hlt, h, Addr.add]
  intro h0
  exact h0.symm
set_option maxRecDepth 100000 in
theorem idxL_run (G m c i : Nat) (w : World) (h : i < m) : (Instr.indexAt 25 (.slice (some ⟨G, 0, none⟩) m c) (.int .i64 (i : Int))).run Try.prog w = .ok (.pointer (some ⟨G, i * 3, none⟩)) w := by
  have hlt : (0 : Int) ≤ (i : Int) ∧ (i : Int) < (m : Int) := by omega
  simp [go_sem, hlt, h, Addr.add]
  intro h0
  exact h0.symm
set_option maxRecDepth 100000 in
theorem fN0 (b o : Nat) (w : World) : (Instr.fieldAt 27 (.pointer (some ⟨b, o, none⟩)) 0).run Try.prog w = .ok (.pointer (some ⟨b, o + 0, none⟩)) w := by simp [go_sem]
set_option maxRecDepth 100000 in
theorem fN1 (b o : Nat) (w : World) : (Instr.fieldAt 27 (.pointer (some ⟨b, o, none⟩)) 1).run Try.prog w = .ok (.pointer (some ⟨b, o + 1, none⟩)) w := by simp [go_sem]
set_option maxRecDepth 100000 in
theorem fL0 (b o : Nat) (w : World) : (Instr.fieldAt 72 (.pointer (some ⟨b, o, none⟩)) 0).run Try.prog w = .ok (.pointer (some ⟨b, o + 0, none⟩)) w := by simp [go_sem]
set_option maxRecDepth 100000 in
theorem fL1 (b o : Nat) (w : World) : (Instr.fieldAt 72 (.pointer (some ⟨b, o, none⟩)) 1).run Try.prog w = .ok (.pointer (some ⟨b, o + 1, none⟩)) w := by simp [go_sem]

/-- the kinds of values of the regions that draw a net's parts: no box is theirs -/
def uAny (B b : Nat) (vT vL : Value) (GT nT GL nL I : Nat) : Nat → World → Value → Prop := fun k w v =>
  match k with
  | 0 => v = vT
  | 1 => v = vL
  | 2 => v = .int .i64 (nT : Int)
  | 3 => v = .int .i64 (nL : Int)
  | 4 => ∃ i : Nat, i < nT ∧ v = .int .i64 (i : Int)
  | 5 => ∃ i : Nat, i < nL ∧ v = .int .i64 (i : Int)
  | 6 => ∃ i : Nat, i < nT ∧ v = .pointer (some ⟨GT, i * 3, none⟩)
  | 7 => ∃ i : Nat, i < nL ∧ v = .pointer (some ⟨GL, i * 3, none⟩)
  | 10 => v = .pointer (some ⟨b, 0, none⟩) ∧ b < w.heap.size ∧ b ≠ B ∧ w.cell? ⟨b, 0, none⟩ = some vT ∧ w.cell? ⟨b, 1, none⟩ = some vL
  | 11 => v = .pointer (some ⟨b, 0, none⟩) ∧ b < w.heap.size ∧ b ≠ B ∧ w.cell? ⟨b, 0, none⟩ = some vT ∧ w.cell? ⟨b, 1, none⟩ = some vL
  | 12 => v = .pointer (some ⟨b, 1, none⟩) ∧ b < w.heap.size ∧ b ≠ B ∧ w.cell? ⟨b, 0, none⟩ = some vT ∧ w.cell? ⟨b, 1, none⟩ = some vL
  | 20 => v = .pointer (some ⟨GL, I * 3, none⟩) ∧ GL < w.heap.size ∧ GL ≠ B ∧ ∃ z : Int, w.cell? ⟨GL, I * 3, none⟩ = some (.int .i64 z) ∧ (Lit.int .i64 z).wf = true
  | 21 => v = .pointer (some ⟨GL, I * 3, none⟩) ∧ GL < w.heap.size ∧ GL ≠ B ∧ ∃ z : Int, w.cell? ⟨GL, I * 3, none⟩ = some (.int .i64 z) ∧ (Lit.int .i64 z).wf = true
  | 22 => v = .pointer (some ⟨GL, I * 3 + 1, none⟩)
  | _ => False
theorem uAny_ok (B b : Nat) (vT vL : Value) (GT nT GL nL I : Nat) : UOk B [] (uAny B b vT vL GT nT GL nL I) := by
  intro k w w' v g h
  have key : ∀ {bb o : Nat} {x : Value}, bb < w.heap.size → bb ≠ B → w.cell? ⟨bb, o, none⟩ = some x → w'.cell? ⟨bb, o, none⟩ = some x := fun {bb o x} h1 h2 h3 => (World.cell?_of_block (g.block bb h1 h2 (by simp))).trans h3
  have hs := g.size
  unfold uAny at h ⊢
  split at h <;> first | exact h | (obtain ⟨rfl, h1, h2, h3, h4⟩ := h; exact ⟨rfl, by omega, h2, key h1 h2 h3, key h1 h2 h4⟩) | (obtain ⟨rfl, h1, h2, z, h3, h4⟩ := h; exact ⟨rfl, by omega, h2, z, key h1 h2 h3, h4⟩)
section
variable {B b : Nat} {vT vL : Value} {GT nT GL nL I : Nat} {vc : Value} {n : Nat} {zc : List Int}
theorem pickUT (h : 1 ≤ nT) : ∀ (w : World) (q : Nat) (args : List Value), CI B [] (uAny B b vT vL GT nT GL nL I) vc n zc q w → q ≤ 800000000000 → argsT B [] (uAny B b vT vL GT nT GL nL I) w [.cur, .usr 2] args →
      Calls Try.prog 23 args.toArray w fun e w' => ∃ (v : Value) (q' : Nat), e = .returned v ∧ q' ≤ q + 100000 ∧ CS w' B vc n zc q' ∧ Go.Proofs.Ytjmbhlhkjjinbaa.vT B [] (uAny B b vT vL GT nT GL nL I) w' (.usr 4) v ∧ w.grownBy w' (some B) := by
  intro w q args hI hq ha
  obtain ⟨a0, a1, rfl, h0, h1⟩ := args2 ha
  have h0 : a0 = .pointer (some ⟨B, 0, none⟩) := h0
  have h1 : a1 = .int .i64 (nT : Int) := h1
  subst h0 h1
  refine (pickS (nT : Int) hI.1 (by omega)).mono ?_
  rintro e w' ⟨x, q', rfl, h1, h2, h3, h4, h5, h6, h7⟩
  obtain ⟨i, rfl⟩ := Int.eq_ofNat_of_zero_le h1
  have h8 := h3 (by omega)
  exact ⟨_, q', rfl, by omega, h6, ⟨i, by omega, rfl⟩, h7⟩
theorem pickUL (h : 1 ≤ nL) : ∀ (w : World) (q : Nat) (args : List Value), CI B [] (uAny B b vT vL GT nT GL nL I) vc n zc q w → q ≤ 800000000000 → argsT B [] (uAny B b vT vL GT nT GL nL I) w [.cur, .usr 3] args →
      Calls Try.prog 23 args.toArray w fun e w' => ∃ (v : Value) (q' : Nat), e = .returned v ∧ q' ≤ q + 100000 ∧ CS w' B vc n zc q' ∧ Go.Proofs.Ytjmbhlhkjjinbaa.vT B [] (uAny B b vT vL GT nT GL nL I) w' (.usr 5) v ∧ w.grownBy w' (some B) := by
  intro w q args hI hq ha
  obtain ⟨a0, a1, rfl, h0, h1⟩ := args2 ha
  have h0 : a0 = .pointer (some ⟨B, 0, none⟩) := h0
  have h1 : a1 = .int .i64 (nL : Int) := h1
  subst h0 h1
  refine (pickS (nL : Int) hI.1 (by omega)).mono ?_
  rintro e w' ⟨x, q', rfl, h1, h2, h3, h4, h5, h6, h7⟩
  obtain ⟨i, rfl⟩ := Int.eq_ofNat_of_zero_le h1
  have h8 := h3 (by omega)
  exact ⟨_, q', rfl, by omega, h6, ⟨i, by omega, rfl⟩, h7⟩
theorem u10_11 : ∀ w v, uAny B b vT vL GT nT GL nL I 10 w v → ∃ b' o, v = .pointer (some ⟨b', o, none⟩) ∧ uAny B b vT vL GT nT GL nL I 11 w (.pointer (some ⟨b', o + 0, none⟩)) := by
  rintro w v ⟨rfl, h⟩
  exact ⟨b, 0, rfl, rfl, h⟩
theorem u10_12 : ∀ w v, uAny B b vT vL GT nT GL nL I 10 w v → ∃ b' o, v = .pointer (some ⟨b', o, none⟩) ∧ uAny B b vT vL GT nT GL nL I 12 w (.pointer (some ⟨b', o + 1, none⟩)) := by
  rintro w v ⟨rfl, h⟩
  exact ⟨b, 0, rfl, rfl, h⟩
theorem u11_0 : ∀ w v, uAny B b vT vL GT nT GL nL I 11 w v → ∃ b' o x, v = .pointer (some ⟨b', o, none⟩) ∧ w.cell? ⟨b', o, none⟩ = some x ∧ uAny B b vT vL GT nT GL nL I 0 w x := by
  rintro w v ⟨rfl, h1, h2, h3, h4⟩
  exact ⟨b, 0, vT, rfl, h3, rfl⟩
theorem u12_1 : ∀ w v, uAny B b vT vL GT nT GL nL I 12 w v → ∃ b' o x, v = .pointer (some ⟨b', o, none⟩) ∧ w.cell? ⟨b', o, none⟩ = some x ∧ uAny B b vT vL GT nT GL nL I 1 w x := by
  rintro w v ⟨rfl, h1, h2, h3, h4⟩
  exact ⟨b, 1, vL, rfl, h4, rfl⟩
theorem u0_2 {cT : Nat} {aT : Option Addr} : ∀ w v, uAny B b (.slice aT nT cT) vL GT nT GL nL I 0 w v → ∃ a l c, v = .slice a l c ∧ uAny B b (.slice aT nT cT) vL GT nT GL nL I 2 w (.int .i64 (l : Int)) := by
  rintro w v rfl
  exact ⟨aT, nT, cT, rfl, rfl⟩
theorem u0_4 {cT : Nat} : ∀ w v u, uAny B b (.slice (some ⟨GT, 0, none⟩) nT cT) vL GT nT GL nL I 0 w v → uAny B b (.slice (some ⟨GT, 0, none⟩) nT cT) vL GT nT GL nL I 4 w u → ∃ G m c i, v = .slice (some ⟨G, 0, none⟩) m c ∧ u = .int .i64 (i : Nat) ∧ i < m ∧ uAny B b (.slice (some ⟨GT, 0, none⟩) nT cT) vL GT nT GL nL I 6 w (.pointer (some ⟨G, i * 3, none⟩)) := by
  rintro w v u rfl ⟨i, hi, rfl⟩
  exact ⟨GT, nT, cT, i, rfl, rfl, hi, i, hi, rfl⟩
theorem u1_5 {cL : Nat} : ∀ w v u, uAny B b vT (.slice (some ⟨GL, 0, none⟩) nL cL) GT nT GL nL I 1 w v → uAny B b vT (.slice (some ⟨GL, 0, none⟩) nL cL) GT nT GL nL I 5 w u → ∃ G m c i, v = .slice (some ⟨G, 0, none⟩) m c ∧ u = .int .i64 (i : Nat) ∧ i < m ∧ uAny B b vT (.slice (some ⟨GL, 0, none⟩) nL cL) GT nT GL nL I 7 w (.pointer (some ⟨G, i * 3, none⟩)) := by
  rintro w v u rfl ⟨i, hi, rfl⟩
  exact ⟨GL, nL, cL, i, rfl, rfl, hi, i, hi, rfl⟩
theorem u20_nil : ∀ w v, uAny B b vT vL GT nT GL nL I 20 w v → ∃ a, v = .pointer (some a) := by
  rintro w v ⟨rfl, h⟩
  exact ⟨_, rfl⟩
theorem u20_21 : ∀ w v, uAny B b vT vL GT nT GL nL I 20 w v → ∃ b' o, v = .pointer (some ⟨b', o, none⟩) ∧ uAny B b vT vL GT nT GL nL I 21 w (.pointer (some ⟨b', o + 0, none⟩)) := by
  rintro w v ⟨rfl, h⟩
  exact ⟨GL, I * 3, rfl, rfl, h⟩
theorem u20_22 : ∀ w v, uAny B b vT vL GT nT GL nL I 20 w v → ∃ b' o, v = .pointer (some ⟨b', o, none⟩) ∧ uAny B b vT vL GT nT GL nL I 22 w (.pointer (some ⟨b', o + 1, none⟩)) := by
  rintro w v ⟨rfl, h⟩
  exact ⟨GL, I * 3, rfl, rfl⟩
theorem u21_i : ∀ w v, uAny B b vT vL GT nT GL nL I 21 w v → ∃ b' o z, v = .pointer (some ⟨b', o, none⟩) ∧ w.cell? ⟨b', o, none⟩ = some (.int .i64 z) ∧ (Lit.int .i64 z).wf = true := by
  rintro w v ⟨rfl, h1, h2, z, h3, h4⟩
  exact ⟨GL, I * 3, z, rfl, h3, h4⟩
end
end Go.Proofs.Ytjmbhlhkjjinbaa
