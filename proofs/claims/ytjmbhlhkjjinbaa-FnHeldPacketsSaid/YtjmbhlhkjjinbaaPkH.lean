/- Plain law for held packets. No condition. What the reference draws: packets, nights of fog, a count. Condition: the code's length. -/
import Derived.Test.YtjmbhlhkjjinbaaHldQ
import Derived.Test.YtjmbhlhkjjinbaaHldJ
import Derived.Test.YtjmbhlhkjjinbaaDFoggy
import Derived.Test.YtjmbhlhkjjinbaaPkG
namespace Go.Proofs.Ytjmbhlhkjjinbaa
open Go.RowKit
set_option linter.unusedSimpArgs false
set_option linter.unusedVariables false

/-- fog y covers fog t -/
def CovT (y t : Tri) : Prop := y.1 = t.1 ∧ y.2.1 ≤ t.2.1 ∧ t.2.2 ≤ y.2.2
theorem CovT.refl (t : Tri) : CovT t t := ⟨rfl, Int.le_refl _, Int.le_refl _⟩
theorem CovT.trans {a b c : Tri} (h : CovT a b) (k : CovT b c) : CovT a c := ⟨h.1.trans k.1, Int.le_trans h.2.1 k.2.1, Int.le_trans k.2.2 h.2.2⟩
theorem mn_le (a b : Int) : mnI a b ≤ a ∧ mnI a b ≤ b := by unfold mnI; split <;> omega
theorem mx_ge (a b : Int) : a ≤ mxI a b ∧ b ≤ mxI a b := by unfold mxI; split <;> omega
theorem updT_cov {x y : Tri} (h : touT y x = true) : CovT (updT x y) x ∧ CovT (updT x y) y := by
  rw [touT_iff] at h
  exact ⟨⟨rfl, (mn_le _ _).1, (mx_ge _ _).1⟩, ⟨h.1.symm, (mn_le _ _).2, (mx_ge _ _).2⟩⟩
theorem adS_cov (z : List Int) (x : Tri) : ∀ k, CovT (adS z x k).2.1 x ∧ ∀ j, j < k → ∃ y, (y ∈ (adS z x k).1 ∨ y = (adS z x k).2.1) ∧ CovT y (triAt z j)
  | 0 => ⟨CovT.refl _, fun j hj => by omega⟩
  | k + 1 => by
    obtain ⟨h1, h2⟩ := adS_cov z x k
    rw [adS]
    by_cases c : touT (triAt z k) (adS z x k).2.1 = true
    · rw [if_pos c]
      obtain ⟨u1, u2⟩ := updT_cov c
      refine ⟨u1.trans h1, fun j hj => ?_⟩
      by_cases e : j = k
      · subst e; exact ⟨_, .inr rfl, u2⟩
      · obtain ⟨y, hy, hc⟩ := h2 j (by omega)
        rcases hy with hy | rfl
        · exact ⟨y, .inl hy, hc⟩
        · exact ⟨_, .inr rfl, u1.trans hc⟩
    · rw [if_neg c]
      refine ⟨h1, fun j hj => ?_⟩
      by_cases e : j = k
      · subst e; exact ⟨_, .inl (by simp), CovT.refl _⟩
      · obtain ⟨y, hy, hc⟩ := h2 j (by omega)
        rcases hy with hy | hy
        · exact ⟨y, .inl (List.mem_append_left _ hy), hc⟩
        · exact ⟨y, .inr hy, hc⟩
theorem addR_cov (z : List Int) (n : Nat) (x : Tri) : (∃ y, y ∈ addR z n x ∧ CovT y x) ∧ ∀ j, j < n → ∃ y, y ∈ addR z n x ∧ CovT y (triAt z j) := by
  obtain ⟨h1, h2⟩ := adS_cov z x n
  have hm : ∀ y, (y ∈ (adS z x n).1 ∨ y = (adS z x n).2.1) → y ∈ addR z n x := fun y hy => by
    unfold addR
    rw [List.mem_append, List.mem_cons]
    rcases hy with hy | rfl
    · rw [← List.take_append_drop (adS z x n).2.2 (adS z x n).1, List.mem_append] at hy
      rcases hy with hy | hy
      · exact .inl hy
      · exact .inr (.inr hy)
    · exact .inr (.inl rfl)
  exact ⟨⟨_, hm _ (.inr rfl), h1⟩, fun j hj => by obtain ⟨y, hy, hc⟩ := h2 j hj; exact ⟨y, hm y hy, hc⟩⟩
theorem nfT_cov (z : List Int) (n : Nat) (a b : Int) : ∀ j i, i < j → ∃ y, y ∈ nfT z n a b j ∧ CovT y ((i : Int), a, b)
  | 0, i, hi => by omega
  | j + 1, i, hi => by
    rw [nfT]
    obtain ⟨h1, h2⟩ := addR_cov (flat (nfT z n a b j)) (nfT z n a b j).length ((j : Int), a, b)
    by_cases e : i = j
    · subst e; exact h1
    · obtain ⟨y, hy, hc⟩ := nfT_cov z n a b j i (by omega)
      obtain ⟨m, hm, hmy⟩ := List.getElem_of_mem hy
      obtain ⟨y', hy', hc'⟩ := h2 m hm
      rw [triAt_flat _ hm, hmy] at hc'
      exact ⟨y', hy', hc'.trans hc⟩
theorem lcF_law (P : Nat → Bool) : ∀ k, (0 < lcF P k → P (lcF P k) = true) ∧ ∀ j, lcF P k < j → j ≤ k → P j = false
  | 0 => ⟨fun h => by simp [lcF] at h, fun j h1 h2 => by simp [lcF] at h1; omega⟩
  | k + 1 => by
    obtain ⟨h1, h2⟩ := lcF_law P k
    rw [lcF]
    by_cases c : P (k + 1) = true
    · rw [if_pos c]
      exact ⟨fun _ => c, fun j q1 q2 => by omega⟩
    · rw [if_neg c]
      refine ⟨h1, fun j q1 q2 => ?_⟩
      by_cases e : j = k + 1
      · subst e; simpa using c
      · exact h2 j q1 (by omega)
end Go.Proofs.Ytjmbhlhkjjinbaa
namespace Go.Proofs.Ytjmbhlhkjjinbaa
open Go.RowKit
set_option linter.unusedSimpArgs false
set_option linter.unusedVariables false

theorem results_net4b {fn : Func} {p u v z : Tmp} (h : fn.results = #[.cell p 27, .tmp u, .tmp v, .tmp z]) (tmps : Array Value) {w : World} {b : Nat} {x y : Value} (d1 : w.cell? ⟨b, 0, none⟩ = some x) (d2 : w.cell? ⟨b, 1, none⟩ = some y) (hp : tmps.getD p undef = .pointer (some ⟨b, 0, none⟩)) :
    (results fn tmps).run Try.prog w = .ok (.tuple #[.agg #[x, y], tmps.getD u undef, tmps.getD v undef, tmps.getD z undef]) w := by
  have hp' : tmps[p]?.getD undef = .pointer (some ⟨b, 0, none⟩) := by simpa using hp
  simp [results, h, hp', asAddr, go_sem, d1, d2]
  try rfl
/-- a net and fogs -/
def FogQ (w : World) (vN vF : Value) : Prop := ∃ (nT : Nat) (zT : List Int) (nL : Nat) (zL : List Int) (nF : Nat) (zF : List Int), NetRow w vN nT zT nL zL ∧ IntRow .i64 3 w vF nF zF ∧ nT ≤ 45 ∧ nL ≤ 45 ∧ nF ≤ 61
/-- packets -/
def PkQ (w : World) (v : Value) : Prop := ∃ m z S, m ≤ 41 ∧ PkRow w v m z S
theorem fogQ_of {B base : Nat} {β : List (Nat × List Ty)} {w : World} {vN vF : Value} (h1 : uN B β base 1 w vN) (h2 : rowU B β base 3 61 w vF) : FogQ w vN vF := by
  obtain ⟨x, y, rfl, ⟨nT, zT, a1, a2, _⟩, ⟨nL, zL, b1, b2, _⟩⟩ := h1
  obtain ⟨nF, zF, c1, c2, _⟩ := h2
  exact ⟨nT, zT, nL, zL, nF, zF, ⟨x, y, rfl, a2, b2⟩, c2, a1, b1, c1⟩
/-- packets of the call's own read as any packets do -/
theorem PkO.row {L : Nat} {w : World} {base m : Nat} {v : Value} {xs : List Value} (h : PkO L w base v m xs) (hm : m ≤ 1000) : ∃ z S, PkRow w v m z S := by
  obtain ⟨f, hf⟩ := Classical.axiomOfChoice (r := fun (j : Nat) (p : Int × Int × Int × Value × List Int) => j < m → xs[j * 4]? = some (.int .i64 p.1) ∧ xs[j * 4 + 1]? = some (.int .i64 p.2.1) ∧ xs[j * 4 + 2]? = some (.int .i64 p.2.2.1) ∧ xs[j * 4 + 3]? = some p.2.2.2.1 ∧ (Lit.int .i64 p.1).wf = true ∧ (Lit.int .i64 p.2.1).wf = true ∧ (Lit.int .i64 p.2.2.1).wf = true ∧ SigO w base p.2.2.2.1 p.2.2.2.2) (fun j => by
    by_cases hj : j < m
    · obtain ⟨x0, x1, x2, u, s, a0, a1, a2, a3, b0, b1, b2, c, _⟩ := h.2.2 j hj
      exact ⟨(x0, x1, x2, u, s), fun _ => ⟨a0, a1, a2, a3, b0, b1, b2, c⟩⟩
    · exact ⟨(0, 0, 0, .bool true, []), fun h => absurd h hj⟩)
  let K : List Tri := (List.range m).map (fun j => ((f j).1, (f j).2.1, (f j).2.2.1))
  have hK : ∀ j (hj : j < m), triAt (flat K) j = ((f j).1, (f j).2.1, (f j).2.2.1) := fun j hj => by
    have hl : j < K.length := by simp [K]; exact hj
    rw [triAt_flat K hl]
    simp [K]
  have hS : ∀ j, j < m → ((List.range m).map (fun j => (f j).2.2.2.2)).getD j [] = (f j).2.2.2.2 := fun j hj => by
    simp [List.getD_eq_getElem?_getD, hj]
  refine ⟨flat K, (List.range m).map (fun j => (f j).2.2.2.2), ?_, by simp, by unfold maxLen; omega, ?_, ?_⟩
  · rw [flat_len]; simp [K]
  · intro x hx
    simp only [flat, List.mem_flatMap, K, List.mem_map, List.mem_range] at hx
    obtain ⟨y, ⟨j, hj, rfl⟩, hx⟩ := hx
    have := hf j hj
    simp only [List.mem_cons, List.not_mem_nil, or_false] at hx
    rcases hx with rfl | rfl | rfl
    · exact this.2.2.2.2.1
    · exact this.2.2.2.2.2.1
    · exact this.2.2.2.2.2.2.1
  · obtain ⟨a, c, rfl, h1, h2, h3⟩ := row_shape h.1
    refine ⟨a, c, rfl, h1, h2, ?_⟩
    rcases h3 with h3 | ⟨g, rfl, _, hg⟩
    · exact .inl h3
    · refine .inr ⟨g, 0, rfl, hg, fun k hk => ?_⟩
      obtain ⟨a0, a1, a2, a3, _, _, _, cs⟩ := hf k hk
      have hk3 := hK k hk
      unfold triAt at hk3
      simp only [Prod.mk.injEq] at hk3
      refine ⟨?_, ?_, ?_, (f k).2.2.2.1, ?_, ?_⟩
      · rw [show (flat K).getD (k * 3) 0 = _ from hk3.1, Nat.zero_add, h.1.cellAt _ (by omega)]; exact a0
      · rw [show (flat K).getD (k * 3 + 1) 0 = _ from hk3.2.1, Nat.zero_add, h.1.cellAt _ (by omega)]; exact a1
      · rw [show (flat K).getD (k * 3 + 2) 0 = _ from hk3.2.2, Nat.zero_add, h.1.cellAt _ (by omega)]; exact a2
      · rw [Nat.zero_add, h.1.cellAt _ (by omega)]; exact a3
      · rw [hS k hk]; exact cs.ints


set_option maxRecDepth 100000 in
set_option maxHeartbeats 4000000 in
theorem drawNF (vc : Value) (n : Nat) (zc : List Int) (w : World) (h : IntRow .u8 1 w vc n zc) (hn : n ≤ 9223372036854775807) :
    Calls Try.prog 10 #[vc] w fun e w' => ∃ (vN vF : Value) (a b : Int), e = .returned (.tuple #[vN, vF, .int .i64 a, .int .i64 b]) ∧ FogQ w' vN vF ∧ (Lit.int .i64 a).wf = true ∧ (Lit.int .i64 b).wf = true ∧ Ext w w' := by
  obtain ⟨a, c, rfl⟩ := introw_slice h
  go_enter Try.func10, Try.ntmps10
  go_wp2_with (fail)
  have e0 : Ext w ((w.alloc (.cells #[.slice none 0 0, .slice none 0 0] 27)).alloc (.cells #[.slice a n c, .int .i64 0, .int .u64 0] 57)) := (by repeat (first | exact Ext.refl _ | assumption | refine Ext.alloc ?_ _ | refine Ext.drew ?_ | refine Ext.drewN ?_ _ | refine Ext.setCell ?_ (by first | exact Nat.le_refl _ | (simp; done) | (dsimp only; omega) | (simp only [World.size_alloc, World.size_setCell]; omega)) _ | refine Ext.trans ?_ (by assumption)))
  have hc0 := cur_new (h.ext ((by repeat (first | exact Ext.refl _ | assumption | refine Ext.alloc ?_ _ | refine Ext.drew ?_ | refine Ext.drewN ?_ _ | refine Ext.setCell ?_ (by first | exact Nat.le_refl _ | (simp; done) | (dsimp only; omega) | (simp only [World.size_alloc, World.size_setCell]; omega)) _ | refine Ext.trans ?_ (by assumption))) : Ext w (w.alloc (.cells #[.slice none 0 0, .slice none 0 0] 27)))) (by omega)
  rw [World.size_alloc] at hc0
  have hrc : ((w.alloc (.cells #[.slice none 0 0, .slice none 0 0] 27)).alloc (.cells #[.slice a n c, .int .i64 0, .int .u64 0] 57)).cell? ⟨w.heap.size, 0, none⟩ = some (.slice none 0 0) ∧ ((w.alloc (.cells #[.slice none 0 0, .slice none 0 0] 27)).alloc (.cells #[.slice a n c, .int .i64 0, .int .u64 0] 57)).cell? ⟨w.heap.size, 1, none⟩ = some (.slice none 0 0) ∧ ((w.alloc (.cells #[.slice none 0 0, .slice none 0 0] 27)).alloc (.cells #[.slice a n c, .int .i64 0, .int .u64 0] 57)).frozen? ⟨w.heap.size, 0, none⟩ = false ∧ ((w.alloc (.cells #[.slice none 0 0, .slice none 0 0] 27)).alloc (.cells #[.slice a n c, .int .i64 0, .int .u64 0] 57)).frozen? ⟨w.heap.size, 1, none⟩ = false := by
    have f1 := ((Ext.refl (w.alloc (.cells #[.slice none 0 0, .slice none 0 0] 27))).alloc (.cells #[.slice a n c, .int .i64 0, .int .u64 0] 57))
    exact ⟨(f1.cells.1 _ _ (by simp)).trans (by simp), (f1.cells.1 _ _ (by simp)).trans (by simp), (World.frozen?_of_block (a := ⟨w.heap.size, 0, none⟩) (f1.block _ (by simp))).trans (by simp), (World.frozen?_of_block (a := ⟨w.heap.size, 1, none⟩) (f1.block _ (by simp))).trans (by simp)⟩
  have hsz : ((w.alloc (.cells #[.slice none 0 0, .slice none 0 0] 27)).alloc (.cells #[.slice a n c, .int .i64 0, .int .u64 0] 57)).heap.size = w.heap.size + 2 := by simp
  have hvc := row_blk h
  obtain ⟨Wa, hW0⟩ : ∃ W, W = (w.alloc (.cells #[.slice none 0 0, .slice none 0 0] 27)).alloc (.cells #[.slice a n c, .int .i64 0, .int .u64 0] 57) := ⟨_, rfl⟩
  rw [← hW0] at e0 hc0 hrc hsz ⊢
  clear hW0
  obtain ⟨b2, hb2⟩ : ∃ b, b = w.heap.size := ⟨_, rfl⟩
  have hb2' : w.heap.size ≤ b2 := by omega
  have hb2'' : b2 ≤ w.heap.size := by omega
  rw [← hb2] at hrc hsz hc0 ⊢
  clear hb2
  obtain ⟨B, hB⟩ : ∃ B, B = b2 + 1 := ⟨_, rfl⟩
  rw [← hB] at hc0 ⊢
  have hBb : b2 < B := by omega
  have hBb2 : B ≤ b2 + 1 := by omega
  clear hB
  have hB1 := hc0.size
  refine (foggyS hc0 (by omega)).mono ?_
  rintro e w1 ⟨vN, vF, q1, rfl, ⟨x, y, rfl, hx, hy⟩, hF, hq1, hc1, hg1⟩
  replace hF : rowU B [] Wa.heap.size 3 61 w1 vF := hF
  obtain ⟨ax, mx, cx, rfl, _⟩ := rowU_slice hx
  obtain ⟨ay, my, cy, rfl, _⟩ := rowU_slice hy
  obtain ⟨aF, mF, cF, rfl, _⟩ := rowU_slice hF
  go_upto_region 3 with (fail)
  obtain ⟨b7, hb7⟩ : ∃ b, b = w1.heap.size := ⟨_, rfl⟩
  obtain ⟨W1, hW1⟩ : ∃ W, W = w1.alloc (.cells #[.slice ax mx cx, .slice ay my cy] 27) := ⟨_, rfl⟩
  have e1 : Ext w1 W1 := by rw [hW1]; exact (Ext.refl _).alloc _
  have hb24 : b2 < b7 := by have := hg1.size; omega
  have hU := uN_ok B [(b2, [.usr 0, .usr 0]), (b7, [.usr 0, .usr 0])] b2
  have hBN := nets_ne (b2 := b2) (b4 := b7) (by omega)
  have hb4B : b7 ≠ B := by have := hg1.size; omega
  have G1 : w.grownBy W1 (some B) := World.grownBy.trans (e0.grown.but (some B)) (World.grownBy.trans hg1 (e1.grown.but (some B)))
  have rT : rowU B [(b2, [.usr 0, .usr 0]), (b7, [.usr 0, .usr 0])] b2 3 45 w1 (.slice ax mx cx) := rowU_weak hx (by omega) (by intro p hp; simp only [List.mem_cons, List.not_mem_nil, or_false] at hp; rcases hp with rfl | rfl <;> simp only [] <;> omega)
  have rL : rowU B [(b2, [.usr 0, .usr 0]), (b7, [.usr 0, .usr 0])] b2 3 45 w1 (.slice ay my cy) := rowU_weak hy (by omega) (by intro p hp; simp only [List.mem_cons, List.not_mem_nil, or_false] at hp; rcases hp with rfl | rfl <;> simp only [] <;> omega)
  have CI1 : CI B [(b2, [.usr 0, .usr 0]), (b7, [.usr 0, .usr 0])] (uN B [(b2, [.usr 0, .usr 0]), (b7, [.usr 0, .usr 0])] b2) (.slice a n c) n zc q1 W1 := by
    have hbk : ∀ j, W1.cell? ⟨b2, j, none⟩ = Wa.cell? ⟨b2, j, none⟩ ∧ W1.frozen? ⟨b2, j, none⟩ = Wa.frozen? ⟨b2, j, none⟩ := fun j => by
      have hk : W1.heap[b2]? = Wa.heap[b2]? := by rw [Ext.block_eq e1 (by have := hg1.size; omega)]; exact hg1.block b2 (by omega) (by simp; omega)
      exact ⟨World.cell?_of_block (a := ⟨b2, j, none⟩) hk, World.frozen?_of_block (a := ⟨b2, j, none⟩) hk⟩
    have hf := hvc
    refine ⟨hc1.ext e1, Bx.nets (by omega) (by omega) ?_ ?_ (fun h0 a l c e => by have := hf h0 a l c e; omega) ((hbk 0).1.trans hrc.1) ((hbk 1).1.trans hrc.2.1) ((hbk 0).2.trans hrc.2.2.1) ((hbk 1).2.trans hrc.2.2.2) ?_ ?_ ?_ ?_ (rowU_nil _ _ _ _ _ _) (rowU_nil _ _ _ _ _ _) (rowU_gr rT (Gr.of_ext e1)) (rowU_gr rL (Gr.of_ext e1))⟩
    · have := hg1.size; have := e1.size; omega
    · rw [hW1, hb7]; simp
    · rw [hW1, hb7]; simp
    · rw [hW1, hb7]; simp
    · rw [hW1, hb7]; simp
    · rw [hW1, hb7]; simp
  have rF : rowU B [(b2, [.usr 0, .usr 0]), (b7, [.usr 0, .usr 0])] b2 3 61 w1 (.slice aF mF cF) := rowU_weak hF (by omega) (by intro p hp; simp only [List.mem_cons, List.not_mem_nil, or_false] at hp; rcases hp with rfl | rfl <;> simp only [] <;> omega)
  rw [← hW1, ← hb7]
  clear hW1 hb7 hrc hsz
  have E1 := hid e1
  go_wp2_with (fail)
  refine (secondS CI1.1 (by omega)).mono ?_
  rintro e w3 ⟨s1, q3, rfl, hs1a, hs1b, _, hq3, hc3, hg3⟩
  have hs1 : (Lit.int .i64 s1).wf = true := wf_i64 (by omega)
  have CI3 : CI B [(b2, [.usr 0, .usr 0]), (b7, [.usr 0, .usr 0])] (uN B [(b2, [.usr 0, .usr 0]), (b7, [.usr 0, .usr 0])] b2) (.slice a n c) n zc q3 w3 := ⟨hc3, CI1.2.grown hU hg3⟩
  have G3 := World.grownBy.trans G1 hg3
  have rF3 := rowU_gr (rowU_gr rF (Gr.of_ext E1.out)) (Gr.of_grown hg3)
  clear CI1 G1 hg3 rF hx hy hF hc1 hg1 hc0 e0 E1 e1 hvc hc3 h
  go_upto_region 4 with (fail)
  refine wp_region_typed' (by kernel_rfl) (CI B [(b2, [.usr 0, .usr 0]), (b7, [.usr 0, .usr 0])] (uN B [(b2, [.usr 0, .usr 0]), (b7, [.usr 0, .usr 0])] b2) (.slice a n c) n zc) (vT B [(b2, [.usr 0, .usr 0]), (b7, [.usr 0, .usr 0])] (uN B [(b2, [.usr 0, .usr 0]), (b7, [.usr 0, .usr 0])] b2)) (Gr B [(b2, [.usr 0, .usr 0]), (b7, [.usr 0, .usr 0])]) 200000000 100000000000 (Gr.refl _ _) (fun _ _ _ h k => Gr.trans h k) (fun _ _ _ _ g h => vT_mono hU g h) (fun _ _ h => CI.ext hU h ((Ext.refl _).drew)) (fun _ => Gr.of_ext ((Ext.refl _).drew)) [([(7, (.box 1 0))], (.usr 1)), ([(8, (.usr 2))], (.usr 2)), ([(9, .int)], .int), ([(9, .int)], .int), ([(6, .cur)], .cur), ([(9, .int)], .int), ([(25, .int)], .int), ([(9, .int)], .int), ([(27, .int)], .int), ([(26, .int), (28, .int)], .list), ([(24, .cur), (29, .list)], .int), ([(23, .int), (30, .int)], .int), ([(2, (.box 0 0)), (20, (.usr 1))], .any), ([(21, (.usr 2))], (.usr 2)), ([(22, .int)], .int), ([(31, .int)], .int)] [(2, (.box 0 0)), (6, .cur), (7, (.box 1 0)), (8, (.usr 2)), (9, .int)] (by kernel_rfl) (AllOk.cons (OpOk.weaken (ok_loadN (i := 1) (by kernel_rfl) (by kernel_rfl) rfl ⟨_, rfl, rfl⟩) (by omega) (by omega)) (AllOk.cons (OpOk.weaken (ok_move rfl) (by omega) (by omega)) (AllOk.cons (OpOk.weaken (ok_move rfl) (by omega) (by omega)) (AllOk.cons (OpOk.weaken (ok_move rfl) (by omega) (by omega)) (AllOk.cons (OpOk.weaken (ok_move rfl) (by omega) (by omega)) (AllOk.cons (OpOk.weaken (ok_move rfl) (by omega) (by omega)) (AllOk.cons (OpOk.weaken (ok_arith (.inr (.inl rfl)) rfl rfl) (by omega) (by omega)) (AllOk.cons (OpOk.weaken (ok_move rfl) (by omega) (by omega)) (AllOk.cons (OpOk.weaken (ok_arith (.inr (.inl rfl)) rfl rfl) (by omega) (by omega)) (AllOk.cons (OpOk.weaken (ok_list (by kernel_rfl) ⟨by decide, by decide⟩ rfl hU) (by omega) (by omega)) (AllOk.cons (OpOk.weaken (ok_call (enters Try.func34 (by kernel_rfl) (by kernel_rfl)) (amongT (.slice a n c) n zc) rfl rfl hU) (by omega) (by omega)) (AllOk.cons (OpOk.weaken (ok_arith (.inl rfl) rfl rfl) (by omega) (by omega)) (AllOk.cons (OpOk.weaken (ok_storeN (i := 0) (by kernel_rfl) rfl rfl ⟨_, rfl, rfl⟩ hBN) (by omega) (by omega)) (AllOk.cons (OpOk.weaken (ok_assign rfl) (by omega) (by omega)) (AllOk.cons (OpOk.weaken (ok_assign rfl) (by omega) (by omega)) (AllOk.cons (OpOk.weaken (ok_assign rfl) (by omega) (by omega)) (trivial))))))))))))))))) (q3) (by first | decide | (simp only [List.size_toArray, List.length_cons, List.length_nil]; omega)) CI3 (GCons (⟨_, rfl, rfl⟩) (GCons (rfl) (GCons (⟨_, rfl, rfl⟩) (GCons (rF3) (GCons (⟨s1, rfl, hs1⟩) GNil))))) [20, 21, 22, 23, 24, 25, 26, 27, 28, 29, 30, 31, 3, 4, 5] (by kernel_rfl) ?_
  intro u w' q' hq' hI' hG hu
  simp only [List.size_toArray, List.length_cons, List.length_nil, Nat.reduceMul] at hq'
  have hF2 : rowU B [(b2, [.usr 0, .usr 0]), (b7, [.usr 0, .usr 0])] b2 3 61 w' (u 3) := hu 3 (.usr 2) (by kernel_rfl)
  obtain ⟨s4, hs4, hw4⟩ : intV (u 4) := hu 4 .int (by kernel_rfl)
  obtain ⟨s5, hs5, hw5⟩ : intV (u 5) := hu 5 .int (by kernel_rfl)
  obtain ⟨x, y, hx2, hy2, cx, cy, fx, fy⟩ := netBox_cells hI' (i := 0) rfl rfl
  have G6 := ext_of_grown (gr_grown hG G3 (by intro p hp; simp only [List.mem_cons, List.not_mem_nil, or_false] at hp; rcases hp with rfl | rfl <;> simp only [] <;> omega)) (show w.heap.size ≤ B by omega)
  generalize hv1 : u 3 = vF at *
  clear hu hI' hG CI3 G3 hU
  simp only [putsAt, List.foldl_cons, List.foldl_nil, List.setIfInBounds_toArray, List.set_cons_zero, List.set_cons_succ]
  simp only [hv1, hs4, hs5]
  go_wp2_with (fail)
  refine bodyPost_ret (results_net4b rfl _ cx cy rfl) rfl ?_
  exact ⟨_, _, s4, s5, rfl, fogQ_of ⟨x, y, rfl, hx2, hy2⟩ hF2, hw4, hw5, G6⟩

set_option maxRecDepth 100000 in
set_option maxHeartbeats 4000000 in
theorem drawLC (vc : Value) (n : Nat) (zc : List Int) (w : World) (h : IntRow .u8 1 w vc n zc) (hn : n ≤ 9223372036854775807) :
    Calls Try.prog 16 #[vc] w fun e w' => ∃ (vN vF : Value) (lk a b : Int), e = .returned (.tuple #[vN, vF, .int .i64 lk, .int .i64 a, .int .i64 b]) ∧ FogQ w' vN vF ∧ (Lit.int .i64 lk).wf = true ∧ (Lit.int .i64 a).wf = true ∧ (Lit.int .i64 b).wf = true ∧ Ext w w' := by
  obtain ⟨a, c, rfl⟩ := introw_slice h
  go_enter Try.func16, Try.ntmps16
  go_wp2_with (fail)
  have e0 : Ext w ((w.alloc (.cells #[.slice none 0 0, .slice none 0 0] 27)).alloc (.cells #[.slice a n c, .int .i64 0, .int .u64 0] 57)) := (by repeat (first | exact Ext.refl _ | assumption | refine Ext.alloc ?_ _ | refine Ext.drew ?_ | refine Ext.drewN ?_ _ | refine Ext.setCell ?_ (by first | exact Nat.le_refl _ | (simp; done) | (dsimp only; omega) | (simp only [World.size_alloc, World.size_setCell]; omega)) _ | refine Ext.trans ?_ (by assumption)))
  have hc0 := cur_new (h.ext ((by repeat (first | exact Ext.refl _ | assumption | refine Ext.alloc ?_ _ | refine Ext.drew ?_ | refine Ext.drewN ?_ _ | refine Ext.setCell ?_ (by first | exact Nat.le_refl _ | (simp; done) | (dsimp only; omega) | (simp only [World.size_alloc, World.size_setCell]; omega)) _ | refine Ext.trans ?_ (by assumption))) : Ext w (w.alloc (.cells #[.slice none 0 0, .slice none 0 0] 27)))) (by omega)
  rw [World.size_alloc] at hc0
  have hrc : ((w.alloc (.cells #[.slice none 0 0, .slice none 0 0] 27)).alloc (.cells #[.slice a n c, .int .i64 0, .int .u64 0] 57)).cell? ⟨w.heap.size, 0, none⟩ = some (.slice none 0 0) ∧ ((w.alloc (.cells #[.slice none 0 0, .slice none 0 0] 27)).alloc (.cells #[.slice a n c, .int .i64 0, .int .u64 0] 57)).cell? ⟨w.heap.size, 1, none⟩ = some (.slice none 0 0) ∧ ((w.alloc (.cells #[.slice none 0 0, .slice none 0 0] 27)).alloc (.cells #[.slice a n c, .int .i64 0, .int .u64 0] 57)).frozen? ⟨w.heap.size, 0, none⟩ = false ∧ ((w.alloc (.cells #[.slice none 0 0, .slice none 0 0] 27)).alloc (.cells #[.slice a n c, .int .i64 0, .int .u64 0] 57)).frozen? ⟨w.heap.size, 1, none⟩ = false := by
    have f1 := ((Ext.refl (w.alloc (.cells #[.slice none 0 0, .slice none 0 0] 27))).alloc (.cells #[.slice a n c, .int .i64 0, .int .u64 0] 57))
    exact ⟨(f1.cells.1 _ _ (by simp)).trans (by simp), (f1.cells.1 _ _ (by simp)).trans (by simp), (World.frozen?_of_block (a := ⟨w.heap.size, 0, none⟩) (f1.block _ (by simp))).trans (by simp), (World.frozen?_of_block (a := ⟨w.heap.size, 1, none⟩) (f1.block _ (by simp))).trans (by simp)⟩
  have hsz : ((w.alloc (.cells #[.slice none 0 0, .slice none 0 0] 27)).alloc (.cells #[.slice a n c, .int .i64 0, .int .u64 0] 57)).heap.size = w.heap.size + 2 := by simp
  have hvc := row_blk h
  obtain ⟨Wa, hW0⟩ : ∃ W, W = (w.alloc (.cells #[.slice none 0 0, .slice none 0 0] 27)).alloc (.cells #[.slice a n c, .int .i64 0, .int .u64 0] 57) := ⟨_, rfl⟩
  rw [← hW0] at e0 hc0 hrc hsz ⊢
  clear hW0
  obtain ⟨b2, hb2⟩ : ∃ b, b = w.heap.size := ⟨_, rfl⟩
  have hb2' : w.heap.size ≤ b2 := by omega
  have hb2'' : b2 ≤ w.heap.size := by omega
  rw [← hb2] at hrc hsz hc0 ⊢
  clear hb2
  obtain ⟨B, hB⟩ : ∃ B, B = b2 + 1 := ⟨_, rfl⟩
  rw [← hB] at hc0 ⊢
  have hBb : b2 < B := by omega
  have hBb2 : B ≤ b2 + 1 := by omega
  clear hB
  have hB1 := hc0.size
  refine (foggyS hc0 (by omega)).mono ?_
  rintro e w1 ⟨vN, vF, q1, rfl, ⟨x, y, rfl, hx, hy⟩, hF, hq1, hc1, hg1⟩
  replace hF : rowU B [] Wa.heap.size 3 61 w1 vF := hF
  obtain ⟨ax, mx, cx, rfl, _⟩ := rowU_slice hx
  obtain ⟨ay, my, cy, rfl, _⟩ := rowU_slice hy
  obtain ⟨aF, mF, cF, rfl, _⟩ := rowU_slice hF
  go_upto_region 3 with (fail)
  obtain ⟨b8, hb8⟩ : ∃ b, b = w1.heap.size := ⟨_, rfl⟩
  obtain ⟨W1, hW1⟩ : ∃ W, W = w1.alloc (.cells #[.slice ax mx cx, .slice ay my cy] 27) := ⟨_, rfl⟩
  have e1 : Ext w1 W1 := by rw [hW1]; exact (Ext.refl _).alloc _
  have hb24 : b2 < b8 := by have := hg1.size; omega
  have hU := uN_ok B [(b2, [.usr 0, .usr 0]), (b8, [.usr 0, .usr 0])] b2
  have hBN := nets_ne (b2 := b2) (b4 := b8) (by omega)
  have hb4B : b8 ≠ B := by have := hg1.size; omega
  have G1 : w.grownBy W1 (some B) := World.grownBy.trans (e0.grown.but (some B)) (World.grownBy.trans hg1 (e1.grown.but (some B)))
  have rT : rowU B [(b2, [.usr 0, .usr 0]), (b8, [.usr 0, .usr 0])] b2 3 45 w1 (.slice ax mx cx) := rowU_weak hx (by omega) (by intro p hp; simp only [List.mem_cons, List.not_mem_nil, or_false] at hp; rcases hp with rfl | rfl <;> simp only [] <;> omega)
  have rL : rowU B [(b2, [.usr 0, .usr 0]), (b8, [.usr 0, .usr 0])] b2 3 45 w1 (.slice ay my cy) := rowU_weak hy (by omega) (by intro p hp; simp only [List.mem_cons, List.not_mem_nil, or_false] at hp; rcases hp with rfl | rfl <;> simp only [] <;> omega)
  have CI1 : CI B [(b2, [.usr 0, .usr 0]), (b8, [.usr 0, .usr 0])] (uN B [(b2, [.usr 0, .usr 0]), (b8, [.usr 0, .usr 0])] b2) (.slice a n c) n zc q1 W1 := by
    have hbk : ∀ j, W1.cell? ⟨b2, j, none⟩ = Wa.cell? ⟨b2, j, none⟩ ∧ W1.frozen? ⟨b2, j, none⟩ = Wa.frozen? ⟨b2, j, none⟩ := fun j => by
      have hk : W1.heap[b2]? = Wa.heap[b2]? := by rw [Ext.block_eq e1 (by have := hg1.size; omega)]; exact hg1.block b2 (by omega) (by simp; omega)
      exact ⟨World.cell?_of_block (a := ⟨b2, j, none⟩) hk, World.frozen?_of_block (a := ⟨b2, j, none⟩) hk⟩
    have hf := hvc
    refine ⟨hc1.ext e1, Bx.nets (by omega) (by omega) ?_ ?_ (fun h0 a l c e => by have := hf h0 a l c e; omega) ((hbk 0).1.trans hrc.1) ((hbk 1).1.trans hrc.2.1) ((hbk 0).2.trans hrc.2.2.1) ((hbk 1).2.trans hrc.2.2.2) ?_ ?_ ?_ ?_ (rowU_nil _ _ _ _ _ _) (rowU_nil _ _ _ _ _ _) (rowU_gr rT (Gr.of_ext e1)) (rowU_gr rL (Gr.of_ext e1))⟩
    · have := hg1.size; have := e1.size; omega
    · rw [hW1, hb8]; simp
    · rw [hW1, hb8]; simp
    · rw [hW1, hb8]; simp
    · rw [hW1, hb8]; simp
    · rw [hW1, hb8]; simp
  have rF : rowU B [(b2, [.usr 0, .usr 0]), (b8, [.usr 0, .usr 0])] b2 3 61 w1 (.slice aF mF cF) := rowU_weak hF (by omega) (by intro p hp; simp only [List.mem_cons, List.not_mem_nil, or_false] at hp; rcases hp with rfl | rfl <;> simp only [] <;> omega)
  rw [← hW1, ← hb8]
  clear hW1 hb8 hrc hsz
  have E1 := hid e1
  go_wp2_with (fail)
  refine (secondS CI1.1 (by omega)).mono ?_
  rintro e w3 ⟨s1, q3, rfl, hs1a, hs1b, _, hq3, hc3, hg3⟩
  have hs1 : (Lit.int .i64 s1).wf = true := wf_i64 (by omega)
  have CI3 : CI B [(b2, [.usr 0, .usr 0]), (b8, [.usr 0, .usr 0])] (uN B [(b2, [.usr 0, .usr 0]), (b8, [.usr 0, .usr 0])] b2) (.slice a n c) n zc q3 w3 := ⟨hc3, CI1.2.grown hU hg3⟩
  have G3 := World.grownBy.trans G1 hg3
  have rF3 := rowU_gr (rowU_gr rF (Gr.of_ext E1.out)) (Gr.of_grown hg3)
  clear CI1 G1 hg3 rF hx hy hF hc1 hg1 hc0 e0 E1 e1 hvc hc3 h
  go_upto_region 4 with (fail)
  refine wp_region_typed' (by kernel_rfl) (CI B [(b2, [.usr 0, .usr 0]), (b8, [.usr 0, .usr 0])] (uN B [(b2, [.usr 0, .usr 0]), (b8, [.usr 0, .usr 0])] b2) (.slice a n c) n zc) (vT B [(b2, [.usr 0, .usr 0]), (b8, [.usr 0, .usr 0])] (uN B [(b2, [.usr 0, .usr 0]), (b8, [.usr 0, .usr 0])] b2)) (Gr B [(b2, [.usr 0, .usr 0]), (b8, [.usr 0, .usr 0])]) 200000000 100000000000 (Gr.refl _ _) (fun _ _ _ h k => Gr.trans h k) (fun _ _ _ _ g h => vT_mono hU g h) (fun _ _ h => CI.ext hU h ((Ext.refl _).drew)) (fun _ => Gr.of_ext ((Ext.refl _).drew)) [([(8, (.box 1 0))], (.usr 1)), ([(9, (.usr 2))], (.usr 2)), ([(7, .cur)], .cur), ([(8, (.box 1 0))], (.usr 1)), ([(23, .cur), (24, (.usr 1))], .int), ([(10, .int)], .int), ([(7, .cur)], .cur), ([(10, .int)], .int), ([(10, .int)], .int), ([(29, .int)], .int), ([(10, .int)], .int), ([(31, .int)], .int), ([(10, .int)], .int), ([(33, .int)], .int), ([(28, .int), (30, .int), (32, .int), (34, .int)], .list), ([(27, .cur), (35, .list)], .int), ([(2, (.box 0 0)), (21, (.usr 1))], .any), ([(22, (.usr 2))], (.usr 2)), ([(25, .int)], .int), ([(26, .int)], .int), ([(36, .int)], .int)] [(2, (.box 0 0)), (7, .cur), (8, (.box 1 0)), (9, (.usr 2)), (10, .int)] (by kernel_rfl) (AllOk.cons (OpOk.weaken (ok_loadN (i := 1) (by kernel_rfl) (by kernel_rfl) rfl ⟨_, rfl, rfl⟩) (by omega) (by omega)) (AllOk.cons (OpOk.weaken (ok_move rfl) (by omega) (by omega)) (AllOk.cons (OpOk.weaken (ok_move rfl) (by omega) (by omega)) (AllOk.cons (OpOk.weaken (ok_loadN (i := 1) (by kernel_rfl) (by kernel_rfl) rfl ⟨_, rfl, rfl⟩) (by omega) (by omega)) (AllOk.cons (ok_callW (enters Try.func24 (by kernel_rfl) (by kernel_rfl)) (ts := [.cur, .usr 1]) (linkU) rfl rfl hU) (AllOk.cons (OpOk.weaken (ok_move rfl) (by omega) (by omega)) (AllOk.cons (OpOk.weaken (ok_move rfl) (by omega) (by omega)) (AllOk.cons (OpOk.weaken (ok_move rfl) (by omega) (by omega)) (AllOk.cons (OpOk.weaken (ok_move rfl) (by omega) (by omega)) (AllOk.cons (OpOk.weaken (ok_arith (.inl rfl) rfl rfl) (by omega) (by omega)) (AllOk.cons (OpOk.weaken (ok_move rfl) (by omega) (by omega)) (AllOk.cons (OpOk.weaken (ok_arith (.inl rfl) rfl rfl) (by omega) (by omega)) (AllOk.cons (OpOk.weaken (ok_move rfl) (by omega) (by omega)) (AllOk.cons (OpOk.weaken (ok_arith (.inl rfl) rfl rfl) (by omega) (by omega)) (AllOk.cons (OpOk.weaken (ok_list (by kernel_rfl) ⟨by decide, by decide⟩ rfl hU) (by omega) (by omega)) (AllOk.cons (OpOk.weaken (ok_call (enters Try.func34 (by kernel_rfl) (by kernel_rfl)) (amongT (.slice a n c) n zc) rfl rfl hU) (by omega) (by omega)) (AllOk.cons (OpOk.weaken (ok_storeN (i := 0) (by kernel_rfl) rfl rfl ⟨_, rfl, rfl⟩ hBN) (by omega) (by omega)) (AllOk.cons (OpOk.weaken (ok_assign rfl) (by omega) (by omega)) (AllOk.cons (OpOk.weaken (ok_assign rfl) (by omega) (by omega)) (AllOk.cons (OpOk.weaken (ok_assign rfl) (by omega) (by omega)) (AllOk.cons (OpOk.weaken (ok_assign rfl) (by omega) (by omega)) (trivial)))))))))))))))))))))) (q3) (by first | decide | (simp only [List.size_toArray, List.length_cons, List.length_nil]; omega)) CI3 (GCons (⟨_, rfl, rfl⟩) (GCons (rfl) (GCons (⟨_, rfl, rfl⟩) (GCons (rF3) (GCons (⟨s1, rfl, hs1⟩) GNil))))) [21, 22, 23, 24, 25, 26, 27, 28, 29, 30, 31, 32, 33, 34, 35, 36, 3, 4, 5, 6] (by kernel_rfl) ?_
  intro u w' q' hq' hI' hG hu
  simp only [List.size_toArray, List.length_cons, List.length_nil, Nat.reduceMul] at hq'
  have hF2 : rowU B [(b2, [.usr 0, .usr 0]), (b8, [.usr 0, .usr 0])] b2 3 61 w' (u 3) := hu 3 (.usr 2) (by kernel_rfl)
  obtain ⟨s4, hs4, hw4⟩ : intV (u 4) := hu 4 .int (by kernel_rfl)
  obtain ⟨s5, hs5, hw5⟩ : intV (u 5) := hu 5 .int (by kernel_rfl)
  obtain ⟨s6, hs6, hw6⟩ : intV (u 6) := hu 6 .int (by kernel_rfl)
  obtain ⟨x, y, hx2, hy2, cx, cy, fx, fy⟩ := netBox_cells hI' (i := 0) rfl rfl
  have G6 := ext_of_grown (gr_grown hG G3 (by intro p hp; simp only [List.mem_cons, List.not_mem_nil, or_false] at hp; rcases hp with rfl | rfl <;> simp only [] <;> omega)) (show w.heap.size ≤ B by omega)
  generalize hv1 : u 3 = vF at *
  clear hu hI' hG CI3 G3 hU
  simp only [putsAt, List.foldl_cons, List.foldl_nil, List.setIfInBounds_toArray, List.set_cons_zero, List.set_cons_succ]
  simp only [hv1, hs4, hs5, hs6]
  go_wp2_with (fail)
  refine bodyPost_ret (results_net5 rfl _ cx cy rfl) rfl ?_
  exact ⟨_, _, s4, s5, s6, rfl, fogQ_of ⟨x, y, rfl, hx2, hy2⟩ hF2, hw4, hw5, hw6, G6⟩

set_option maxRecDepth 100000 in
set_option maxHeartbeats 4000000 in
theorem drawHP (vc : Value) (n : Nat) (zc : List Int) (w : World) (h : IntRow .u8 1 w vc n zc) (hn : n ≤ 9223372036854775807) :
    Calls Try.prog 5 #[vc] w fun e w' => ∃ (vN vF vP : Value) (lk t : Int), e = .returned (.tuple #[vN, vF, .int .i64 lk, vP, .int .i64 t]) ∧ FogQ w' vN vF ∧ PkQ w' vP ∧ (Lit.int .i64 lk).wf = true ∧ (Lit.int .i64 t).wf = true ∧ Ext w w' := by
  obtain ⟨i0, hi, hz0, hz1, hz2⟩ := info_parts info_PacketK
  obtain ⟨a, c, rfl⟩ := introw_slice h
  go_enter Try.func5, Try.ntmps5
  go_wp2_with (fail)
  have e0 : Ext w ((w.alloc (.cells #[.slice none 0 0, .slice none 0 0] 27)).alloc (.cells #[.slice a n c, .int .i64 0, .int .u64 0] 57)) := (by repeat (first | exact Ext.refl _ | assumption | refine Ext.alloc ?_ _ | refine Ext.drew ?_ | refine Ext.drewN ?_ _ | refine Ext.setCell ?_ (by first | exact Nat.le_refl _ | (simp; done) | (dsimp only; omega) | (simp only [World.size_alloc, World.size_setCell]; omega)) _ | refine Ext.trans ?_ (by assumption)))
  have hc0 := cur_new (h.ext ((by repeat (first | exact Ext.refl _ | assumption | refine Ext.alloc ?_ _ | refine Ext.drew ?_ | refine Ext.drewN ?_ _ | refine Ext.setCell ?_ (by first | exact Nat.le_refl _ | (simp; done) | (dsimp only; omega) | (simp only [World.size_alloc, World.size_setCell]; omega)) _ | refine Ext.trans ?_ (by assumption))) : Ext w (w.alloc (.cells #[.slice none 0 0, .slice none 0 0] 27)))) (by omega)
  rw [World.size_alloc] at hc0
  have hrc : ((w.alloc (.cells #[.slice none 0 0, .slice none 0 0] 27)).alloc (.cells #[.slice a n c, .int .i64 0, .int .u64 0] 57)).cell? ⟨w.heap.size, 0, none⟩ = some (.slice none 0 0) ∧ ((w.alloc (.cells #[.slice none 0 0, .slice none 0 0] 27)).alloc (.cells #[.slice a n c, .int .i64 0, .int .u64 0] 57)).cell? ⟨w.heap.size, 1, none⟩ = some (.slice none 0 0) ∧ ((w.alloc (.cells #[.slice none 0 0, .slice none 0 0] 27)).alloc (.cells #[.slice a n c, .int .i64 0, .int .u64 0] 57)).frozen? ⟨w.heap.size, 0, none⟩ = false ∧ ((w.alloc (.cells #[.slice none 0 0, .slice none 0 0] 27)).alloc (.cells #[.slice a n c, .int .i64 0, .int .u64 0] 57)).frozen? ⟨w.heap.size, 1, none⟩ = false := by
    have f1 := ((Ext.refl (w.alloc (.cells #[.slice none 0 0, .slice none 0 0] 27))).alloc (.cells #[.slice a n c, .int .i64 0, .int .u64 0] 57))
    exact ⟨(f1.cells.1 _ _ (by simp)).trans (by simp), (f1.cells.1 _ _ (by simp)).trans (by simp), (World.frozen?_of_block (a := ⟨w.heap.size, 0, none⟩) (f1.block _ (by simp))).trans (by simp), (World.frozen?_of_block (a := ⟨w.heap.size, 1, none⟩) (f1.block _ (by simp))).trans (by simp)⟩
  have hsz : ((w.alloc (.cells #[.slice none 0 0, .slice none 0 0] 27)).alloc (.cells #[.slice a n c, .int .i64 0, .int .u64 0] 57)).heap.size = w.heap.size + 2 := by simp
  have hvc := row_blk h
  obtain ⟨Wa, hW0⟩ : ∃ W, W = (w.alloc (.cells #[.slice none 0 0, .slice none 0 0] 27)).alloc (.cells #[.slice a n c, .int .i64 0, .int .u64 0] 57) := ⟨_, rfl⟩
  rw [← hW0] at e0 hc0 hrc hsz ⊢
  clear hW0
  obtain ⟨b2, hb2⟩ : ∃ b, b = w.heap.size := ⟨_, rfl⟩
  have hb2' : w.heap.size ≤ b2 := by omega
  have hb2'' : b2 ≤ w.heap.size := by omega
  rw [← hb2] at hrc hsz hc0 ⊢
  clear hb2
  obtain ⟨B, hB⟩ : ∃ B, B = b2 + 1 := ⟨_, rfl⟩
  rw [← hB] at hc0 ⊢
  have hBb : b2 < B := by omega
  have hBb2 : B ≤ b2 + 1 := by omega
  clear hB
  have hB1 := hc0.size
  refine (foggyS hc0 (by omega)).mono ?_
  rintro e w1 ⟨vN, vF, q1, rfl, ⟨x, y, rfl, hx, hy⟩, hF, hq1, hc1, hg1⟩
  replace hF : rowU B [] Wa.heap.size 3 61 w1 vF := hF
  obtain ⟨ax, mx, cx, rfl, _⟩ := rowU_slice hx
  obtain ⟨ay, my, cy, rfl, _⟩ := rowU_slice hy
  obtain ⟨aF, mF, cF, rfl, _⟩ := rowU_slice hF
  go_upto_region 3 with (fail)
  obtain ⟨b8, hb8⟩ : ∃ b, b = w1.heap.size := ⟨_, rfl⟩
  obtain ⟨W1, hW1⟩ : ∃ W, W = w1.alloc (.cells #[.slice ax mx cx, .slice ay my cy] 27) := ⟨_, rfl⟩
  have e1 : Ext w1 W1 := by rw [hW1]; exact (Ext.refl _).alloc _
  have hb24 : b2 < b8 := by have := hg1.size; omega
  have hU := uN_ok B [(b2, [.usr 0, .usr 0]), (b8, [.usr 0, .usr 0])] b2
  have hBN := nets_ne (b2 := b2) (b4 := b8) (by omega)
  have hb4B : b8 ≠ B := by have := hg1.size; omega
  have G1 : w.grownBy W1 (some B) := World.grownBy.trans (e0.grown.but (some B)) (World.grownBy.trans hg1 (e1.grown.but (some B)))
  have rT : rowU B [(b2, [.usr 0, .usr 0]), (b8, [.usr 0, .usr 0])] b2 3 45 w1 (.slice ax mx cx) := rowU_weak hx (by omega) (by intro p hp; simp only [List.mem_cons, List.not_mem_nil, or_false] at hp; rcases hp with rfl | rfl <;> simp only [] <;> omega)
  have rL : rowU B [(b2, [.usr 0, .usr 0]), (b8, [.usr 0, .usr 0])] b2 3 45 w1 (.slice ay my cy) := rowU_weak hy (by omega) (by intro p hp; simp only [List.mem_cons, List.not_mem_nil, or_false] at hp; rcases hp with rfl | rfl <;> simp only [] <;> omega)
  have CI1 : CI B [(b2, [.usr 0, .usr 0]), (b8, [.usr 0, .usr 0])] (uN B [(b2, [.usr 0, .usr 0]), (b8, [.usr 0, .usr 0])] b2) (.slice a n c) n zc q1 W1 := by
    have hbk : ∀ j, W1.cell? ⟨b2, j, none⟩ = Wa.cell? ⟨b2, j, none⟩ ∧ W1.frozen? ⟨b2, j, none⟩ = Wa.frozen? ⟨b2, j, none⟩ := fun j => by
      have hk : W1.heap[b2]? = Wa.heap[b2]? := by rw [Ext.block_eq e1 (by have := hg1.size; omega)]; exact hg1.block b2 (by omega) (by simp; omega)
      exact ⟨World.cell?_of_block (a := ⟨b2, j, none⟩) hk, World.frozen?_of_block (a := ⟨b2, j, none⟩) hk⟩
    have hf := hvc
    refine ⟨hc1.ext e1, Bx.nets (by omega) (by omega) ?_ ?_ (fun h0 a l c e => by have := hf h0 a l c e; omega) ((hbk 0).1.trans hrc.1) ((hbk 1).1.trans hrc.2.1) ((hbk 0).2.trans hrc.2.2.1) ((hbk 1).2.trans hrc.2.2.2) ?_ ?_ ?_ ?_ (rowU_nil _ _ _ _ _ _) (rowU_nil _ _ _ _ _ _) (rowU_gr rT (Gr.of_ext e1)) (rowU_gr rL (Gr.of_ext e1))⟩
    · have := hg1.size; have := e1.size; omega
    · rw [hW1, hb8]; simp
    · rw [hW1, hb8]; simp
    · rw [hW1, hb8]; simp
    · rw [hW1, hb8]; simp
    · rw [hW1, hb8]; simp
  have rF : rowU B [(b2, [.usr 0, .usr 0]), (b8, [.usr 0, .usr 0])] b2 3 61 w1 (.slice aF mF cF) := rowU_weak hF (by omega) (by intro p hp; simp only [List.mem_cons, List.not_mem_nil, or_false] at hp; rcases hp with rfl | rfl <;> simp only [] <;> omega)
  rw [← hW1, ← hb8]
  clear hW1 hb8 hrc hsz
  have E1 := hid e1
  go_wp2_with (fail)
  refine (packetsS CI1.1 (by omega)).mono ?_
  rintro e w3 ⟨vP, m0, xs0, q3, rfl, hP3, hm3, hq3, hc3, hg3⟩
  have CI3 : CI B [(b2, [.usr 0, .usr 0]), (b8, [.usr 0, .usr 0])] (uN B [(b2, [.usr 0, .usr 0]), (b8, [.usr 0, .usr 0])] b2) (.slice a n c) n zc q3 w3 := ⟨hc3, CI1.2.grown hU hg3⟩
  have G3 := World.grownBy.trans G1 hg3
  have rF3 := rowU_gr (rowU_gr rF (Gr.of_ext E1.out)) (Gr.of_grown hg3)
  have hb8W : b8 < W1.heap.size := (CI1.2 (b8, [.usr 0, .usr 0]) (by simp)).2.1
  have hBW : B < W1.heap.size := CI1.1.size
  have hs13 := hg3.size
  clear CI1 G1 hg3 rF hx hy hF hc1 hg1 hc0 e0 E1 e1 hvc hc3 h
  obtain ⟨bP, hbP⟩ : ∃ b, b = W1.heap.size := ⟨_, rfl⟩
  rw [← hbP] at hP3 hb8W hBW hs13
  have HP3 := hid hP3
  clear hbP hP3
  obtain ⟨aP, cP, eP⟩ := HP3.out.slice
  subst eP
  go_wp2_with (fail)
  refine (oneS 20 CI3.1 (by omega)).mono ?_
  rintro e w4 ⟨o, q4, rfl, hq4, hq4', hc4, hg4⟩
  have CI4 : CI B [(b2, [.usr 0, .usr 0]), (b8, [.usr 0, .usr 0])] (uN B [(b2, [.usr 0, .usr 0]), (b8, [.usr 0, .usr 0])] b2) (.slice a n c) n zc q4 w4 := ⟨hc4, CI3.2.grown hU hg4⟩
  have G4 := World.grownBy.trans G3 hg4
  have rF4 := rowU_gr rF3 (Gr.of_grown hg4)
  have HP4 := hid (HP3.out.far hg4 (fun k hk => by simp at hk; omega))
  have hbP4 : bP ≤ w4.heap.size := Nat.le_trans hs13 hg4.size
  clear CI3 G3 hg4 rF3 HP3
  go_upto_if 23 with (fail)
  go_cut [10] from 24 to 35 (fun s10 wx => ∃ (m' : Nat) (xs' : List Value) (q' : Nat), PkO 13 wx bP s10 m' xs' ∧ m' ≤ 41 ∧ q' ≤ q1 + 3000 ∧ CI B [(b2, [.usr 0, .usr 0]), (b8, [.usr 0, .usr 0])] (uN B [(b2, [.usr 0, .usr 0]), (b8, [.usr 0, .usr 0])] b2) (.slice a n c) n zc q' wx ∧ w.grownBy wx (some B) ∧ rowU B [(b2, [.usr 0, .usr 0]), (b8, [.usr 0, .usr 0])] b2 3 61 wx (.slice aF mF cF))
  case first =>
    cases o with
    | false =>
      go_wp2_with (fail)
      go_meet
      exact ⟨m0, xs0, q4, HP4.out, hm3, by omega, CI4, G4, rF4⟩
    | true =>
      go_wp2_with (fail)
      refine (pickS 2 hc4 (by omega)).mono ?_
      rintro e w5 ⟨x5, q5, rfl, hx5, _, hx5', hq5, hq5', hc5, hg5⟩
      have hx5'' := hx5' (by omega)
      obtain ⟨KK, rfl⟩ := Int.eq_ofNat_of_zero_le hx5
      obtain ⟨N, hN⟩ : ∃ N, N = 20 + KK := ⟨_, rfl⟩
      have hw5 : IntKind.i64.wrap (20 + (KK : Int)) = (N : Int) := by rw [IntWalk.i64_in _ (by omega)]; omega
      have hN1 : N ≤ 21 := by omega
      have CI5 : CI B [(b2, [.usr 0, .usr 0]), (b8, [.usr 0, .usr 0])] (uN B [(b2, [.usr 0, .usr 0]), (b8, [.usr 0, .usr 0])] b2) (.slice a n c) n zc q5 w5 := ⟨hc5, CI4.2.grown hU hg5⟩
      have G5 := World.grownBy.trans G4 hg5
      have rF5 := rowU_gr rF4 (Gr.of_grown hg5)
      have hb5 := hg5.size
      clear hN CI4 G4 rF4 HP4 hg5 hc4 hc5
      go_wp2_with (fail)
      clear hw5
      go_loopw [10] (fun s10 wr => ∃ (m' : Nat) (xs' : List Value), m' ≤ N ∧ PkO 12 wr w5.heap.size s10 m' xs' ∧ Ext w5 wr)
        (fun s10 _ => N - lenOf s10)
      case atStart => exact ⟨0, [], Nat.zero_le _, PkO.nil _ _ _, Ext.refl _⟩
      case round =>
        obtain ⟨m', xs', hm', hO', hE⟩ := hrel
        obtain ⟨a4, c4, rfl⟩ := hO'.slice
        have HO := hid hO'
        clear hO'
        by_cases hlt : m' < N
        · have t2 : decide ((m' : Int) < (N : Int)) = true := by simpa using hlt
          have t3 : decide (m' < N) = true := by simpa using hlt
          have hbr := hE.size
          have HK1 := hid (show PkC 12 (wr.alloc (.cells #[.int .i64 5] 3)) w5.heap.size 1 [.int .i64 5, .int .i64 0, .int .i64 1, .slice (some ⟨wr.heap.size, 0, none⟩) 1 1] from PkC.one (wf_i64 (by omega)) (wf_i64 (by omega)) (wf_i64 (by omega)) ((SigO.lit wr 5 (wf_i64 (by omega))).mono hbr) (by simp))
          go_wp2_with (at_builtin; go_loud (refine wpList_srcK rfl (.tmp 31) (.tmp 34) 29 rfl w5.heap.size 38 i0 _ 4 48 Try.underlying29 hi hz0 hz1 hz2 rfl (by omega) (by omega) (by omega) _ m' xs' rfl (row_ext HO.out.1 (((Ext.refl wr).alloc _).alloc _)) _ 1 _ rfl (lit_pkAt _ _ _ _ _ _ _ (by simp)) HK1.out.cells (by omega) (by simp only [World.size_alloc]; omega) ?_; intro v2 wz hr1 hgz; have hOz := hid (PkO.grow (HO.out.ext (((Ext.refl wr).alloc _).alloc _)) (HK1.out.ext ((Ext.refl (wr.alloc (.cells #[.int .i64 5] 3))).alloc _)) hr1 hgz); have hEz : Ext w5 wz := Ext.of_grownAt ((hE.alloc _).alloc _) hgz (fun k hk => (HO.out.1.lt k hk).1); obtain ⟨a2, c2, rfl, _, _, _⟩ := row_shape hr1; clear hr1 hgz))
          go_roundw
          case rel => exact ⟨m' + 1, _, by omega, hOz.out, hEz⟩
          case measure => simp [lenOf]; omega
        · obtain rfl : m' = N := by omega
          have t2 : decide ((m' : Int) < (m' : Int)) = false := by simp
          have t3 : decide (m' < m') = false := by simp
          clear hlt hm'
          go_wp2_with (fail)
          go_meet
          exact ⟨m', xs', q5, ⟨row_mono HO.out.1 (by omega), (HO.out.2.weak (by omega)).mono (by omega)⟩, by omega, by omega, CI5.ext hU hE, G5.trans (hE.grown.but (some B)), rowU_gr rF5 (Gr.of_ext hE)⟩
  case rest =>
    clear CI4 G4 rF4 HP4 hc4
    obtain ⟨m', xs', q5, hP5, hm5, hq5, CI5, G5, rF5⟩ := hcut
    obtain ⟨a5, c5, rfl⟩ := hP5.slice
    have rP5 : pkU B [(b2, [.usr 0, .usr 0]), (b8, [.usr 0, .usr 0])] wc (.slice a5 m' c5) := ⟨bP, m', xs', hm5, hP5, hBW, by intro p hp; simp only [List.mem_cons, List.not_mem_nil, or_false] at hp; rcases hp with rfl | rfl <;> simp only [] <;> omega⟩
    clear hP5
    go_upto_region 9 with (fail)
    refine wp_region_typed' (by kernel_rfl) (CI B [(b2, [.usr 0, .usr 0]), (b8, [.usr 0, .usr 0])] (uN B [(b2, [.usr 0, .usr 0]), (b8, [.usr 0, .usr 0])] b2) (.slice a n c) n zc) (vT B [(b2, [.usr 0, .usr 0]), (b8, [.usr 0, .usr 0])] (uN B [(b2, [.usr 0, .usr 0]), (b8, [.usr 0, .usr 0])] b2)) (Gr B [(b2, [.usr 0, .usr 0]), (b8, [.usr 0, .usr 0])]) 200000000 100000000000 (Gr.refl _ _) (fun _ _ _ h k => Gr.trans h k) (fun _ _ _ _ g h => vT_mono hU g h) (fun _ _ h => CI.ext hU h ((Ext.refl _).drew)) (fun _ => Gr.of_ext ((Ext.refl _).drew)) [([(8, (.box 1 0))], (.usr 1)), ([(9, (.usr 2))], (.usr 2)), ([(7, .cur)], .cur), ([(8, (.box 1 0))], (.usr 1)), ([(38, .cur), (39, (.usr 1))], .int), ([(10, (.usr 3))], (.usr 3)), ([(7, .cur)], .cur), ([(42, .cur)], .int), ([(2, (.box 0 0)), (36, (.usr 1))], .any), ([(37, (.usr 2))], (.usr 2)), ([(40, .int)], .int), ([(41, (.usr 3))], (.usr 3)), ([(43, .int)], .int)] [(2, (.box 0 0)), (7, .cur), (8, (.box 1 0)), (9, (.usr 2)), (10, (.usr 3))] (by kernel_rfl) (AllOk.cons (OpOk.weaken (ok_loadN (i := 1) (by kernel_rfl) (by kernel_rfl) rfl ⟨_, rfl, rfl⟩) (by omega) (by omega)) (AllOk.cons (OpOk.weaken (ok_move rfl) (by omega) (by omega)) (AllOk.cons (OpOk.weaken (ok_move rfl) (by omega) (by omega)) (AllOk.cons (OpOk.weaken (ok_loadN (i := 1) (by kernel_rfl) (by kernel_rfl) rfl ⟨_, rfl, rfl⟩) (by omega) (by omega)) (AllOk.cons (ok_callW (enters Try.func24 (by kernel_rfl) (by kernel_rfl)) (ts := [.cur, .usr 1]) (linkU) rfl rfl hU) (AllOk.cons (OpOk.weaken (ok_move rfl) (by omega) (by omega)) (AllOk.cons (OpOk.weaken (ok_move rfl) (by omega) (by omega)) (AllOk.cons (ok_callW (enters Try.func25 (by kernel_rfl) (by kernel_rfl)) (ts := [.cur]) (secU) rfl rfl hU) (AllOk.cons (OpOk.weaken (ok_storeN (i := 0) (by kernel_rfl) rfl rfl ⟨_, rfl, rfl⟩ hBN) (by omega) (by omega)) (AllOk.cons (OpOk.weaken (ok_assign rfl) (by omega) (by omega)) (AllOk.cons (OpOk.weaken (ok_assign rfl) (by omega) (by omega)) (AllOk.cons (OpOk.weaken (ok_assign rfl) (by omega) (by omega)) (AllOk.cons (OpOk.weaken (ok_assign rfl) (by omega) (by omega)) (trivial)))))))))))))) (q5) (by first | decide | (simp only [List.size_toArray, List.length_cons, List.length_nil]; omega)) CI5 (GCons (⟨_, rfl, rfl⟩) (GCons (rfl) (GCons (⟨_, rfl, rfl⟩) (GCons (rF5) (GCons (rP5) GNil))))) [36, 37, 38, 39, 40, 41, 42, 43, 3, 4, 5, 6] (by kernel_rfl) ?_
    intro u w' q' hq' hI' hG hu
    simp only [List.size_toArray, List.length_cons, List.length_nil, Nat.reduceMul] at hq'
    have hF2 : rowU B [(b2, [.usr 0, .usr 0]), (b8, [.usr 0, .usr 0])] b2 3 61 w' (u 3) := hu 3 (.usr 2) (by kernel_rfl)
    obtain ⟨s4, hs4, hw4⟩ : intV (u 4) := hu 4 .int (by kernel_rfl)
    have hP2 : pkU B [(b2, [.usr 0, .usr 0]), (b8, [.usr 0, .usr 0])] w' (u 5) := hu 5 (.usr 3) (by kernel_rfl)
    obtain ⟨s6, hs6, hw6⟩ : intV (u 6) := hu 6 .int (by kernel_rfl)
    obtain ⟨x, y, hx2, hy2, cx, cy, fx, fy⟩ := netBox_cells hI' (i := 0) rfl rfl
    have G6 := ext_of_grown (gr_grown hG G5 (by intro p hp; simp only [List.mem_cons, List.not_mem_nil, or_false] at hp; rcases hp with rfl | rfl <;> simp only [] <;> omega)) (show w.heap.size ≤ B by omega)
    generalize hv1 : u 3 = vF at *
    generalize hv2 : u 5 = vP at *
    clear hu hI' hG CI5 G5 hU
    simp only [putsAt, List.foldl_cons, List.foldl_nil, List.setIfInBounds_toArray, List.set_cons_zero, List.set_cons_succ]
    simp only [hv1, hv2, hs4, hs6]
    go_wp2_with (fail)
    refine bodyPost_ret (results_net5 rfl _ cx cy rfl) rfl ?_
    obtain ⟨bQ, mQ, xQ, hQ1, hQ2, _⟩ := hP2
    obtain ⟨zQ, SQ, hQ3⟩ := hQ2.row (by omega)
    exact ⟨_, _, _, s4, s6, rfl, fogQ_of ⟨x, y, rfl, hx2, hy2⟩ hF2, ⟨mQ, zQ, SQ, hQ1, hQ3⟩, hw4, hw6, G6⟩
end Go.Proofs.Ytjmbhlhkjjinbaa
