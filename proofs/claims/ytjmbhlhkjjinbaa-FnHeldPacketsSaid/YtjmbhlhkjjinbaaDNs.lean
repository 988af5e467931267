/- A net in a box, the cursor and the world's growth in one bundle; its steps. No condition. -/
import Derived.Test.YtjmbhlhkjjinbaaDNet
namespace Go.Proofs.Ytjmbhlhkjjinbaa
open Go.RowKit
set_option linter.unusedSimpArgs false
set_option linter.unusedVariables false

/-- a net in a box that may lie above its rows -/
structure NC (w : World) (base b : Nat) (vT : Value) (nT : Nat) (zT : List Int) (vL : Value) (nL : Nat) (zL : List Int) : Prop where
  c0 : w.cell? ⟨b, 0, none⟩ = some vT
  c1 : w.cell? ⟨b, 1, none⟩ = some vL
  f0 : w.frozen? ⟨b, 0, none⟩ = false
  f1 : w.frozen? ⟨b, 1, none⟩ = false
  lt : b < w.heap.size
  ty : ∃ cs cur, w.heap[b]? = some (.cells cs 27 cur)
  rT : w.ownsRow base 96 3 vT nT (zT.map (Value.int .i64))
  rL : w.ownsRow base 72 3 vL nL (zL.map (Value.int .i64))
  wT : ∀ z ∈ zT, (Lit.int .i64 z).wf = true
  wL : ∀ z ∈ zL, (Lit.int .i64 z).wf = true
theorem row_ne {w : World} {base e s m b : Nat} {v : Value} {xs : List Value} {cs : Array Value} {t : TypeId} {cur : Nat × Nat} (h : w.ownsRow base e s v m xs) (hb : w.heap[b]? = some (.cells cs t cur)) (hne : e ≠ t) : ∀ k, v.ownBlock = some k → k ≠ b := by
  intro k hk e2
  subst e2
  rcases h.2 with ⟨rfl, _⟩ | ⟨g, c, cu, rfl, _, hg, _⟩
  · simp [Value.ownBlock] at hk
  · simp only [Value.ownBlock, Option.some.injEq] at hk
    subst hk
    rw [hg] at hb
    simp only [Option.some.injEq, Obj.cells.injEq] at hb
    exact hne hb.2.1
theorem ty_set {w : World} {b : Nat} {t : TypeId} (h : ∃ cs cur, w.heap[b]? = some (.cells cs t cur)) (a : Addr) (u : Value) : ∃ cs cur, (w.setCell a u).heap[b]? = some (.cells cs t cur) := by
  obtain ⟨cs, cur, h⟩ := h
  by_cases e : b = a.block
  · subst e
    have hlt : a.block < w.heap.size := by
      rcases Nat.lt_or_ge a.block w.heap.size with c | c
      · exact c
      · rw [Array.getElem?_eq_none c] at h; cases h
    have e : w.heap[a.block] = .cells cs t cur := by rw [Array.getElem?_eq_getElem hlt] at h; exact Option.some.inj h
    simp [World.setCell, hlt, Array.getElem_modify, e]
  · exact ⟨cs, cur, (heap_setCell_other w a b u e).trans h⟩
section
variable {w w' : World} {base b nT nL : Nat} {vT vL : Value} {zT zL : List Int}
theorem NC.neT (h : NC w base b vT nT zT vL nL zL) : ∀ k, vT.ownBlock = some k → k ≠ b := by
  obtain ⟨cs, cur, hb⟩ := h.ty
  exact row_ne h.rT hb (by decide)
theorem NC.neL (h : NC w base b vT nT zT vL nL zL) : ∀ k, vL.ownBlock = some k → k ≠ b := by
  obtain ⟨cs, cur, hb⟩ := h.ty
  exact row_ne h.rL hb (by decide)
theorem NC.grown (h : NC w base b vT nT zT vL nL zL) {B : Nat} (g : w.grownBy w' (some B)) (hne : b ≠ B) (hB : B < base) : NC w' base b vT nT zT vL nL zL := by
  obtain ⟨h1, h2, h3, h4, h5, ⟨cs, cur, h6⟩, h7, h8, h9, h10⟩ := h
  refine ⟨World.grownBy.cell g h1 (by simpa using hne), World.grownBy.cell g h2 (by simpa using hne), ?_, ?_, Nat.lt_of_lt_of_le h5 g.size, ⟨cs, cur, (g.block b h5 (by simpa using hne)).trans h6⟩, h7.kept g ?_, h8.kept g ?_, h9, h10⟩
  · rw [World.grownBy.frozen_far g _ h5 (by simpa using hne)]; exact h3
  · rw [World.grownBy.frozen_far g _ h5 (by simpa using hne)]; exact h4
  · cases hb : vT.ownBlock with
    | none => exact .inl rfl
    | some k => right; intro e; have := (h7.lt k hb).1; simp only [Option.some.injEq] at e; omega
  · cases hb : vL.ownBlock with
    | none => exact .inl rfl
    | some k => right; intro e; have := (h8.lt k hb).1; simp only [Option.some.injEq] at e; omega
theorem NC.boxT (h : NC w base b vT nT zT vL nL zL) {v1 : Value} {m : Nat} {z1 : List Int} (hr : w.ownsRow base 96 3 v1 m (z1.map (Value.int .i64))) (hw : ∀ z ∈ z1, (Lit.int .i64 z).wf = true) : NC (w.setCell ⟨b, 0, none⟩ v1) base b v1 m z1 vL nL zL := by
  obtain ⟨cs, cur, hb⟩ := h.ty
  have n1 := row_ne hr hb (by decide)
  have n2 := h.neL
  obtain ⟨h1, h2, h3, h4, h5, h6, h7, h8, h9, h10⟩ := h
  refine ⟨World.cell?_setCell_same _ _ _ h1, ?_, ?_, ?_, by rw [World.size_setCell]; exact h5, ty_set h6 _ _, row_setc hr n1, row_setc h8 n2, hw, h10⟩
  · rw [World.cell?_setCell_other _ _ _ _ (by simp)]; exact h2
  · rw [World.frozen?_setCell]; exact h3
  · rw [World.frozen?_setCell]; exact h4
theorem NC.boxL (h : NC w base b vT nT zT vL nL zL) {v1 : Value} {m : Nat} {z1 : List Int} (hr : w.ownsRow base 72 3 v1 m (z1.map (Value.int .i64))) (hw : ∀ z ∈ z1, (Lit.int .i64 z).wf = true) : NC (w.setCell ⟨b, 1, none⟩ v1) base b vT nT zT v1 m z1 := by
  obtain ⟨cs, cur, hb⟩ := h.ty
  have n1 := row_ne hr hb (by decide)
  have n2 := h.neT
  obtain ⟨h1, h2, h3, h4, h5, h6, h7, h8, h9, h10⟩ := h
  refine ⟨?_, World.cell?_setCell_same _ _ _ h2, ?_, ?_, by rw [World.size_setCell]; exact h5, ty_set h6 _ _, row_setc h7 n2, row_setc hr n1, h9, hw⟩
  · rw [World.cell?_setCell_other _ _ _ _ (by simp)]; exact h1
  · rw [World.frozen?_setCell]; exact h3
  · rw [World.frozen?_setCell]; exact h4
theorem set_wfZ {zs : List Int} {j : Nat} {z : Int} (h : ∀ x ∈ zs, (Lit.int .i64 x).wf = true) (hz : (Lit.int .i64 z).wf = true) : ∀ x ∈ zs.set j z, (Lit.int .i64 x).wf = true := fun x hx => by
  rcases List.mem_or_eq_of_mem_set hx with hx | rfl
  · exact h x hx
  · exact hz
theorem row_storeI {w : World} {base : Nat} {e : TypeId} {G m c j : Nat} {zs : List Int} (h : w.ownsRow base e 3 (.slice (some ⟨G, 0, none⟩) m c) m (zs.map (Value.int .i64))) (z : Int) : (w.setCell ⟨G, j, none⟩ (.int .i64 z)).ownsRow base e 3 (.slice (some ⟨G, 0, none⟩) m c) m ((zs.set j z).map (Value.int .i64)) := by
  rw [List.map_set]
  exact (h.stored j (.int .i64 z)).1
theorem NC.setT {G m c : Nat} (h : NC w base b (.slice (some ⟨G, 0, none⟩) m c) m zT vL nL zL) (j : Nat) {z : Int} (hz : (Lit.int .i64 z).wf = true) : NC (w.setCell ⟨G, j, none⟩ (.int .i64 z)) base b (.slice (some ⟨G, 0, none⟩) m c) m (zT.set j z) vL nL zL := by
  have hG := h.neT G rfl
  obtain ⟨h1, h2, h3, h4, h5, h6, h7, h8, h9, h10⟩ := h
  have hne : ∀ k, vL.ownBlock = some k → k ≠ G := fun k hk e => own_ne3 h8 h7 (by decide) hk (by rw [e]; rfl)
  refine ⟨?_, ?_, ?_, ?_, by rw [World.size_setCell]; exact h5, ty_set h6 _ _, row_storeI h7 z, row_setc h8 hne, set_wfZ h9 hz, h10⟩
  · rw [World.cell?_setCell_other _ _ _ _ (by first | (simp; done) | (simp; omega))]; exact h1
  · rw [World.cell?_setCell_other _ _ _ _ (by first | (simp; done) | (simp; omega))]; exact h2
  · rw [World.frozen?_setCell]; exact h3
  · rw [World.frozen?_setCell]; exact h4
theorem NC.setL {G m c : Nat} (h : NC w base b vT nT zT (.slice (some ⟨G, 0, none⟩) m c) m zL) (j : Nat) {z : Int} (hz : (Lit.int .i64 z).wf = true) : NC (w.setCell ⟨G, j, none⟩ (.int .i64 z)) base b vT nT zT (.slice (some ⟨G, 0, none⟩) m c) m (zL.set j z) := by
  have hG := h.neL G rfl
  obtain ⟨h1, h2, h3, h4, h5, h6, h7, h8, h9, h10⟩ := h
  have hne : ∀ k, vT.ownBlock = some k → k ≠ G := fun k hk e => own_ne3 h7 h8 (by decide) hk (by rw [e]; rfl)
  refine ⟨?_, ?_, ?_, ?_, by rw [World.size_setCell]; exact h5, ty_set h6 _ _, row_setc h7 hne, row_storeI h8 z, h9, set_wfZ h10 hz⟩
  · rw [World.cell?_setCell_other _ _ _ _ (by first | (simp; done) | (simp; omega))]; exact h1
  · rw [World.cell?_setCell_other _ _ _ _ (by first | (simp; done) | (simp; omega))]; exact h2
  · rw [World.frozen?_setCell]; exact h3
  · rw [World.frozen?_setCell]; exact h4
theorem NC.cellT {G m c : Nat} (h : NC w base b (.slice (some ⟨G, 0, none⟩) m c) m zT vL nL zL) {j : Nat} (hj : j < m * 3) : w.cell? ⟨G, j, none⟩ = some (.int .i64 (zT.getD j 0)) ∧ w.frozen? ⟨G, j, none⟩ = false ∧ (Lit.int .i64 (zT.getD j 0)).wf = true := by
  have hl : zT.length = m * 3 := by simpa using h.rT.1
  exact ⟨by rw [h.rT.cellAt j hj, map_getD (by omega)], h.rT.frozenAt j, getD_wf h.wT (by omega)⟩
theorem NC.cellL {G m c : Nat} (h : NC w base b vT nT zT (.slice (some ⟨G, 0, none⟩) m c) m zL) {j : Nat} (hj : j < m * 3) : w.cell? ⟨G, j, none⟩ = some (.int .i64 (zL.getD j 0)) ∧ w.frozen? ⟨G, j, none⟩ = false ∧ (Lit.int .i64 (zL.getD j 0)).wf = true := by
  have hl : zL.length = m * 3 := by simpa using h.rL.1
  exact ⟨by rw [h.rL.cellAt j hj, map_getD (by omega)], h.rL.frozenAt j, getD_wf h.wL (by omega)⟩
/-- an append to the towers' row -/
theorem NC.appT (h : NC w base b vT nT zT vL nL zL) (g : w.grownBy w' vT.ownBlock) : w'.cell? ⟨b, 0, none⟩ = some vT ∧ w'.cell? ⟨b, 1, none⟩ = some vL ∧ w'.frozen? ⟨b, 0, none⟩ = false ∧ w'.frozen? ⟨b, 1, none⟩ = false ∧ (∃ cs cur, w'.heap[b]? = some (.cells cs 27 cur)) ∧ w'.ownsRow base 72 3 vL nL (zL.map (Value.int .i64)) := by
  have hn := h.neT
  obtain ⟨h1, h2, h3, h4, h5, ⟨cs, cur, h6⟩, h7, h8, h9, h10⟩ := h
  refine ⟨World.grownBy.cell g h1 (fun e => hn b e.symm rfl), World.grownBy.cell g h2 (fun e => hn b e.symm rfl), ?_, ?_, ⟨cs, cur, (g.block b h5 (fun e => hn b e.symm rfl)).trans h6⟩, h8.kept g ?_⟩
  · rw [World.grownBy.frozen_far g _ h5 (fun e => hn b e.symm rfl)]; exact h3
  · rw [World.grownBy.frozen_far g _ h5 (fun e => hn b e.symm rfl)]; exact h4
  · cases hb : vL.ownBlock with
    | none => exact .inl rfl
    | some k => right; intro e; exact own_ne3 h8 h7 (by decide) hb e.symm
theorem NC.appL (h : NC w base b vT nT zT vL nL zL) (g : w.grownBy w' vL.ownBlock) : w'.cell? ⟨b, 0, none⟩ = some vT ∧ w'.cell? ⟨b, 1, none⟩ = some vL ∧ w'.frozen? ⟨b, 0, none⟩ = false ∧ w'.frozen? ⟨b, 1, none⟩ = false ∧ (∃ cs cur, w'.heap[b]? = some (.cells cs 27 cur)) ∧ w'.ownsRow base 96 3 vT nT (zT.map (Value.int .i64)) := by
  have hn := h.neL
  obtain ⟨h1, h2, h3, h4, h5, ⟨cs, cur, h6⟩, h7, h8, h9, h10⟩ := h
  refine ⟨World.grownBy.cell g h1 (fun e => hn b e.symm rfl), World.grownBy.cell g h2 (fun e => hn b e.symm rfl), ?_, ?_, ⟨cs, cur, (g.block b h5 (fun e => hn b e.symm rfl)).trans h6⟩, h7.kept g ?_⟩
  · rw [World.grownBy.frozen_far g _ h5 (fun e => hn b e.symm rfl)]; exact h3
  · rw [World.grownBy.frozen_far g _ h5 (fun e => hn b e.symm rfl)]; exact h4
  · cases hb : vT.ownBlock with
    | none => exact .inl rfl
    | some k => right; intro e; exact own_ne3 h7 h8 (by decide) hb e.symm
theorem app_wf {zs : List Int} {x0 x1 x2 : Int} (h : ∀ z ∈ zs, (Lit.int .i64 z).wf = true) (w0 : (Lit.int .i64 x0).wf = true) (w1 : (Lit.int .i64 x1).wf = true) (w2 : (Lit.int .i64 x2).wf = true) : ∀ z ∈ zs ++ [x0, x1, x2], (Lit.int .i64 z).wf = true := fun z hz => by
  rcases List.mem_append.1 hz with hz | hz
  · exact h z hz
  · simp only [List.mem_cons, List.not_mem_nil, or_false] at hz
    rcases hz with rfl | rfl | rfl <;> assumption
end

/-- the bundle: the net, the cursor, what has grown since w, the block b2 of the result as it was -/
structure NS (w Wa : World) (B : Nat) (vc : Value) (n : Nat) (zc : List Int) (base b2 b : Nat) (wr : World) (vT : Value) (nT : Nat) (zT : List Int) (vL : Value) (nL : Nat) (zL : List Int) (q : Nat) : Prop where
  nc : NC wr base b vT nT zT vL nL zL
  cs : CS wr B vc n zc q
  gr : w.grownBy wr (some B)
  b2 : wr.heap[b2]? = Wa.heap[b2]?
structure NOrd (w : World) (B base b2 b : Nat) : Prop where
  o1 : B < w.heap.size
  o2 : w.heap.size ≤ b2
  o3 : b2 < base
  o4 : b2 < b
section
variable {w Wa wr w' : World} {B : Nat} {vc : Value} {n : Nat} {zc : List Int} {base b2 b nT nL q q' : Nat} {vT vL : Value} {zT zL : List Int}
theorem NS.b2lt (h : NS w Wa B vc n zc base b2 b wr vT nT zT vL nL zL q) (o : NOrd w B base b2 b) : b2 < wr.heap.size := by have := h.nc.lt; have := o.o4; omega
theorem NS.call (h : NS w Wa B vc n zc base b2 b wr vT nT zT vL nL zL q) (o : NOrd w B base b2 b) (hc : CS w' B vc n zc q') (g : wr.grownBy w' (some B)) : NS w Wa B vc n zc base b2 b w' vT nT zT vL nL zL q' := by
  have h2 := h.b2lt o
  obtain ⟨o1, o2, o3, o4⟩ := o
  exact ⟨h.nc.grown g (by omega) (by omega), hc, World.grownBy.trans h.gr g, (g.block b2 h2 (by simp; omega)).trans h.b2⟩
theorem NS.setT {G m c : Nat} (h : NS w Wa B vc n zc base b2 b wr (.slice (some ⟨G, 0, none⟩) m c) m zT vL nL zL q) (o : NOrd w B base b2 b) (j : Nat) {z : Int} (hz : (Lit.int .i64 z).wf = true) : NS w Wa B vc n zc base b2 b (wr.setCell ⟨G, j, none⟩ (.int .i64 z)) (.slice (some ⟨G, 0, none⟩) m c) m (zT.set j z) vL nL zL q := by
  have hG := (h.nc.rT.lt G rfl).1
  obtain ⟨o1, o2, o3, o4⟩ := o
  exact ⟨h.nc.setT j hz, h.cs.set (by omega) j _, grow_set h.gr (by omega) j _, (heap_setCell_other wr ⟨G, j, none⟩ b2 _ (by simp only []; omega)).trans h.b2⟩
theorem NS.setL {G m c : Nat} (h : NS w Wa B vc n zc base b2 b wr vT nT zT (.slice (some ⟨G, 0, none⟩) m c) m zL q) (o : NOrd w B base b2 b) (j : Nat) {z : Int} (hz : (Lit.int .i64 z).wf = true) : NS w Wa B vc n zc base b2 b (wr.setCell ⟨G, j, none⟩ (.int .i64 z)) vT nT zT (.slice (some ⟨G, 0, none⟩) m c) m (zL.set j z) q := by
  have hG := (h.nc.rL.lt G rfl).1
  obtain ⟨o1, o2, o3, o4⟩ := o
  exact ⟨h.nc.setL j hz, h.cs.set (by omega) j _, grow_set h.gr (by omega) j _, (heap_setCell_other wr ⟨G, j, none⟩ b2 _ (by simp only []; omega)).trans h.b2⟩
theorem NS.boxT (h : NS w Wa B vc n zc base b2 b wr vT nT zT vL nL zL q) (o : NOrd w B base b2 b) {v1 : Value} {m : Nat} {z1 : List Int} (hr : wr.ownsRow base 96 3 v1 m (z1.map (Value.int .i64))) (hw : ∀ z ∈ z1, (Lit.int .i64 z).wf = true) : NS w Wa B vc n zc base b2 b (wr.setCell ⟨b, 0, none⟩ v1) v1 m z1 vL nL zL q := by
  obtain ⟨o1, o2, o3, o4⟩ := o
  exact ⟨h.nc.boxT hr hw, h.cs.set (by omega) 0 _, grow_set h.gr (by omega) 0 _, (heap_setCell_other wr ⟨b, 0, none⟩ b2 _ (by simp only []; omega)).trans h.b2⟩
theorem NS.boxL (h : NS w Wa B vc n zc base b2 b wr vT nT zT vL nL zL q) (o : NOrd w B base b2 b) {v1 : Value} {m : Nat} {z1 : List Int} (hr : wr.ownsRow base 72 3 v1 m (z1.map (Value.int .i64))) (hw : ∀ z ∈ z1, (Lit.int .i64 z).wf = true) : NS w Wa B vc n zc base b2 b (wr.setCell ⟨b, 1, none⟩ v1) vT nT zT v1 m z1 q := by
  obtain ⟨o1, o2, o3, o4⟩ := o
  exact ⟨h.nc.boxL hr hw, h.cs.set (by omega) 1 _, grow_set h.gr (by omega) 1 _, (heap_setCell_other wr ⟨b, 1, none⟩ b2 _ (by simp only []; omega)).trans h.b2⟩
theorem NS.appT (h : NS w Wa B vc n zc base b2 b wr vT nT zT vL nL zL q) (o : NOrd w B base b2 b) {v1 : Value} {x0 x1 x2 : Int} (hr : w'.ownsRow base 96 3 v1 (nT + 1) (zT.map (Value.int .i64) ++ [x0, x1, x2].map (Value.int .i64))) (g : wr.grownBy w' vT.ownBlock) (w0 : (Lit.int .i64 x0).wf = true) (w1 : (Lit.int .i64 x1).wf = true) (w2 : (Lit.int .i64 x2).wf = true) :
    NS w Wa B vc n zc base b2 b (w'.setCell ⟨b, 0, none⟩ v1) v1 (nT + 1) (zT ++ [x0, x1, x2]) vL nL zL q := by
  have h2 := h.b2lt o
  have hlo : ∀ k, vT.ownBlock = some k → base ≤ k := fun k hk => (h.nc.rT.lt k hk).1
  obtain ⟨a1, a2, a3, a4, a5, a6⟩ := h.nc.appT g
  have hs := g.size
  have hb := h.nc.lt
  have hwf := app_wf h.nc.wT w0 w1 w2
  rw [← List.map_append] at hr
  obtain ⟨cs, cur, hty⟩ := a5
  have n1 := row_ne hr hty (by decide)
  have n2 := row_ne a6 hty (by decide)
  obtain ⟨o1, o2, o3, o4⟩ := o
  refine ⟨⟨World.cell?_setCell_same _ _ _ a1, ?_, ?_, ?_, by rw [World.size_setCell]; omega, ty_set ⟨cs, cur, hty⟩ _ _, row_setc hr n1, row_setc a6 n2, hwf, h.nc.wL⟩, (CS.far h.cs g (fun k hk => by have := hlo k hk; omega)).set (by omega) 0 _, grow_set (World.grownBy.andThen h.gr g (fun k hk => .inl (by have := hlo k hk; omega))) (by omega) 0 _, ?_⟩
  · rw [World.cell?_setCell_other _ _ _ _ (by simp)]; exact a2
  · rw [World.frozen?_setCell]; exact a3
  · rw [World.frozen?_setCell]; exact a4
  · exact (heap_setCell_other w' ⟨b, 0, none⟩ b2 _ (by simp only []; omega)).trans ((g.block b2 h2 (fun e => by have := hlo b2 e.symm; omega)).trans h.b2)
theorem NS.appL (h : NS w Wa B vc n zc base b2 b wr vT nT zT vL nL zL q) (o : NOrd w B base b2 b) {v1 : Value} {x0 x1 x2 : Int} (hr : w'.ownsRow base 72 3 v1 (nL + 1) (zL.map (Value.int .i64) ++ [x0, x1, x2].map (Value.int .i64))) (g : wr.grownBy w' vL.ownBlock) (w0 : (Lit.int .i64 x0).wf = true) (w1 : (Lit.int .i64 x1).wf = true) (w2 : (Lit.int .i64 x2).wf = true) :
    NS w Wa B vc n zc base b2 b (w'.setCell ⟨b, 1, none⟩ v1) vT nT zT v1 (nL + 1) (zL ++ [x0, x1, x2]) q := by
  have h2 := h.b2lt o
  have hlo : ∀ k, vL.ownBlock = some k → base ≤ k := fun k hk => (h.nc.rL.lt k hk).1
  obtain ⟨a1, a2, a3, a4, a5, a6⟩ := h.nc.appL g
  have hs := g.size
  have hb := h.nc.lt
  have hwf := app_wf h.nc.wL w0 w1 w2
  rw [← List.map_append] at hr
  obtain ⟨cs, cur, hty⟩ := a5
  have n1 := row_ne hr hty (by decide)
  have n2 := row_ne a6 hty (by decide)
  obtain ⟨o1, o2, o3, o4⟩ := o
  refine ⟨⟨?_, World.cell?_setCell_same _ _ _ a2, ?_, ?_, by rw [World.size_setCell]; omega, ty_set ⟨cs, cur, hty⟩ _ _, row_setc a6 n2, row_setc hr n1, h.nc.wT, hwf⟩, (CS.far h.cs g (fun k hk => by have := hlo k hk; omega)).set (by omega) 1 _, grow_set (World.grownBy.andThen h.gr g (fun k hk => .inl (by have := hlo k hk; omega))) (by omega) 1 _, ?_⟩
  · rw [World.cell?_setCell_other _ _ _ _ (by simp)]; exact a1
  · rw [World.frozen?_setCell]; exact a3
  · rw [World.frozen?_setCell]; exact a4
  · exact (heap_setCell_other w' ⟨b, 1, none⟩ b2 _ (by simp only []; omega)).trans ((g.block b2 h2 (fun e => by have := hlo b2 e.symm; omega)).trans h.b2)
end
end Go.Proofs.Ytjmbhlhkjjinbaa