/- What the reference draws: a net with fogs, held jobs, the questions of held messages. Condition: the code's length. -/
import Derived.Test.YtjmbhlhkjjinbaaTypW
import Derived.Test.YtjmbhlhkjjinbaaNet
namespace Go.Proofs.Ytjmbhlhkjjinbaa
open Go.RowKit
set_option linter.unusedSimpArgs false
set_option linter.unusedVariables false

theorem results_net2 {fn : Func} {p u : Tmp} (h : fn.results = #[.cell p 27, .tmp u]) (tmps : Array Value) {w : World} {b : Nat} {x y : Value} (d1 : w.cell? ⟨b, 0, none⟩ = some x) (d2 : w.cell? ⟨b, 1, none⟩ = some y) (hp : tmps.getD p undef = .pointer (some ⟨b, 0, none⟩)) :
    (results fn tmps).run Try.prog w = .ok (.tuple #[.agg #[x, y], tmps.getD u undef]) w := by
  have hp' : tmps[p]?.getD undef = .pointer (some ⟨b, 0, none⟩) := by simpa using hp
  simp [results, h, hp', asAddr, go_sem, d1, d2]
  try rfl
theorem results_net4 {fn : Func} {p u v z : Tmp} (h : fn.results = #[.cell p 27, .tmp u, .tmp v, .tmp z]) (tmps : Array Value) {w : World} {b : Nat} {x y : Value} (d1 : w.cell? ⟨b, 0, none⟩ = some x) (d2 : w.cell? ⟨b, 1, none⟩ = some y) (hp : tmps.getD p undef = .pointer (some ⟨b, 0, none⟩)) :
    (results fn tmps).run Try.prog w = .ok (.tuple #[.agg #[x, y], tmps.getD u undef, tmps.getD v undef, tmps.getD z undef]) w := by
  have hp' : tmps[p]?.getD undef = .pointer (some ⟨b, 0, none⟩) := by simpa using hp
  simp [results, h, hp', asAddr, go_sem, d1, d2]
  try rfl
theorem results_net5 {fn : Func} {p u v z s : Tmp} (h : fn.results = #[.cell p 27, .tmp u, .tmp v, .tmp z, .tmp s]) (tmps : Array Value) {w : World} {b : Nat} {x y : Value} (d1 : w.cell? ⟨b, 0, none⟩ = some x) (d2 : w.cell? ⟨b, 1, none⟩ = some y) (hp : tmps.getD p undef = .pointer (some ⟨b, 0, none⟩)) :
    (results fn tmps).run Try.prog w = .ok (.tuple #[.agg #[x, y], tmps.getD u undef, tmps.getD v undef, tmps.getD z undef, tmps.getD s undef]) w := by
  have hp' : tmps[p]?.getD undef = .pointer (some ⟨b, 0, none⟩) := by simpa using hp
  simp [results, h, hp', asAddr, go_sem, d1, d2]
  try rfl


set_option maxRecDepth 100000 in
set_option maxHeartbeats 4000000 in
theorem foggyS {w : World} {B : Nat} {vc : Value} {n : Nat} {zc : List Int} {q : Nat} (h : CS w B vc n zc q) (hq : q ≤ 1000) :
    Calls Try.prog 20 #[.pointer (some ⟨B, 0, none⟩)] w fun e w' => ∃ (vN vF : Value) (q' : Nat), e = .returned (.tuple #[vN, vF]) ∧ uN B [] w.heap.size 1 w' vN ∧ uN B [] w.heap.size 2 w' vF ∧ q' ≤ 2000000000 ∧ CS w' B vc n zc q' ∧ w.grownBy w' (some B) := by
  have hBs := h.size
  go_enter Try.func20, Try.ntmps20
  go_wp2_with (fail)
  have e0 : Ext w (w.alloc (.cells #[.slice none 0 0, .slice none 0 0] 27)) := (by repeat (first | exact Ext.refl _ | assumption | refine Ext.alloc ?_ _ | refine Ext.drew ?_ | refine Ext.drewN ?_ _ | refine Ext.setCell ?_ (by first | exact Nat.le_refl _ | (simp; done) | (dsimp only; omega) | (simp only [World.size_alloc, World.size_setCell]; omega)) _ | refine Ext.trans ?_ (by assumption)))
  have hc0 := h.ext e0
  have hrc : (w.alloc (.cells #[.slice none 0 0, .slice none 0 0] 27)).cell? ⟨w.heap.size, 0, none⟩ = some (.slice none 0 0) ∧ (w.alloc (.cells #[.slice none 0 0, .slice none 0 0] 27)).cell? ⟨w.heap.size, 1, none⟩ = some (.slice none 0 0) ∧ (w.alloc (.cells #[.slice none 0 0, .slice none 0 0] 27)).frozen? ⟨w.heap.size, 0, none⟩ = false ∧ (w.alloc (.cells #[.slice none 0 0, .slice none 0 0] 27)).frozen? ⟨w.heap.size, 1, none⟩ = false := by simp
  have hsz : (w.alloc (.cells #[.slice none 0 0, .slice none 0 0] 27)).heap.size = w.heap.size + 1 := by simp
  obtain ⟨Wa, hW0⟩ : ∃ W, W = (w.alloc (.cells #[.slice none 0 0, .slice none 0 0] 27)) := ⟨_, rfl⟩
  rw [← hW0] at e0 hc0 hrc hsz ⊢
  clear hW0
  obtain ⟨b2, hb2⟩ : ∃ b, b = w.heap.size := ⟨_, rfl⟩
  have hb2' : w.heap.size ≤ b2 := by omega
  have hb2'' : b2 ≤ w.heap.size := by omega
  rw [← hb2] at hrc hsz ⊢
  clear hb2
  refine (netS hc0 (by omega)).mono ?_
  rintro e w1 ⟨vT, vL, nT, nL, zT, zL, q1, rfl, hT, hL, hwT, hwL, hnT, hnL, hq1, hc1, hg1⟩
  have hB1 := hc0.size
  have rT0 : rowU B [] (b2 + 1) 3 45 w1 vT := rowU_own hT hwT (by omega) (by omega) (by omega) hB1 (by intro p hp; cases hp)
  have rL0 : rowU B [] (b2 + 1) 3 45 w1 vL := rowU_own hL hwL (by omega) (by omega) (by omega) hB1 (by intro p hp; cases hp)
  obtain ⟨aT, cT, rfl, _, _, _⟩ := row_shape hT
  obtain ⟨aL, cL, rfl, _, _, _⟩ := row_shape hL
  go_upto_region 2 with (fail)
  obtain ⟨b4, hb4⟩ : ∃ b, b = w1.heap.size := ⟨_, rfl⟩
  obtain ⟨W1, hW1⟩ : ∃ W, W = w1.alloc (.cells #[.slice aT nT cT, .slice aL nL cL] 27) := ⟨_, rfl⟩
  have e1 : Ext w1 W1 := by rw [hW1]; exact (Ext.refl _).alloc _
  have hb24 : b2 < b4 := by have := hg1.size; omega
  have hU := uN_ok B [(b2, [.usr 0, .usr 0]), (b4, [.usr 0, .usr 0])] b2
  have hBN := nets_ne (b2 := b2) (b4 := b4) (by omega)
  have hb4B : b4 ≠ B := by have := hg1.size; omega
  have G1 : w.grownBy W1 (some B) := World.grownBy.trans (e0.grown.but (some B)) (World.grownBy.trans hg1 (e1.grown.but (some B)))
  have rT : rowU B [(b2, [.usr 0, .usr 0]), (b4, [.usr 0, .usr 0])] b2 3 45 w1 (.slice aT nT cT) := rowU_weak rT0 (by omega) (by intro p hp; simp only [List.mem_cons, List.not_mem_nil, or_false] at hp; rcases hp with rfl | rfl <;> simp only [] <;> omega)
  have rL : rowU B [(b2, [.usr 0, .usr 0]), (b4, [.usr 0, .usr 0])] b2 3 45 w1 (.slice aL nL cL) := rowU_weak rL0 (by omega) (by intro p hp; simp only [List.mem_cons, List.not_mem_nil, or_false] at hp; rcases hp with rfl | rfl <;> simp only [] <;> omega)
  have CI1 : CI B [(b2, [.usr 0, .usr 0]), (b4, [.usr 0, .usr 0])] (uN B [(b2, [.usr 0, .usr 0]), (b4, [.usr 0, .usr 0])] b2) vc n zc q1 W1 := by
    have hbk : ∀ j, W1.cell? ⟨b2, j, none⟩ = Wa.cell? ⟨b2, j, none⟩ ∧ W1.frozen? ⟨b2, j, none⟩ = Wa.frozen? ⟨b2, j, none⟩ := fun j => by
      have hk : W1.heap[b2]? = Wa.heap[b2]? := by rw [Ext.block_eq e1 (by have := hg1.size; omega)]; exact hg1.block b2 (by omega) (by simp; omega)
      exact ⟨World.cell?_of_block (a := ⟨b2, j, none⟩) hk, World.frozen?_of_block (a := ⟨b2, j, none⟩) hk⟩
    have hf := cs_far hc0
    refine ⟨hc1.ext e1, Bx.nets (by omega) (by omega) ?_ ?_ (fun h0 a l c e => by have := hf h0 a l c e; omega) ((hbk 0).1.trans hrc.1) ((hbk 1).1.trans hrc.2.1) ((hbk 0).2.trans hrc.2.2.1) ((hbk 1).2.trans hrc.2.2.2) ?_ ?_ ?_ ?_ (rowU_nil _ _ _ _ _ _) (rowU_nil _ _ _ _ _ _) (rowU_gr rT (Gr.of_ext e1)) (rowU_gr rL (Gr.of_ext e1))⟩
    · have := hg1.size; have := e1.size; omega
    · rw [hW1, hb4]; simp
    · rw [hW1, hb4]; simp
    · rw [hW1, hb4]; simp
    · rw [hW1, hb4]; simp
    · rw [hW1, hb4]; simp
  rw [← hW1, ← hb4]
  clear hW1 hb4 hrc hsz e1
  clear h hc0 hT hL hwT hwL hc1 hg1 rT0 rL0 rT rL e0
  go_wp2_with (fail)
  refine (oneS 20 CI1.1 (by omega)).mono ?_
  rintro e w3 ⟨o, q3, rfl, hq3, hq3', hc3, hg3⟩
  have CI3 : CI B [(b2, [.usr 0, .usr 0]), (b4, [.usr 0, .usr 0])] (uN B [(b2, [.usr 0, .usr 0]), (b4, [.usr 0, .usr 0])] b2) vc n zc q3 w3 := ⟨hc3, CI1.2.grown hU hg3⟩
  have G3 := World.grownBy.trans G1 hg3
  clear CI1 G1 hg3
  go_upto_if 8 with (fail)
  go_cut [] from 9 to 10 (fun wx => ∃ q' : Nat, CI B [(b2, [.usr 0, .usr 0]), (b4, [.usr 0, .usr 0])] (uN B [(b2, [.usr 0, .usr 0]), (b4, [.usr 0, .usr 0])] b2) vc n zc q' wx ∧ q' ≤ 400000000 ∧ w.grownBy wx (some B))
  case first =>
    cases o with
    | false =>
      go_wp2_with (fail)
      go_meet
      exact ⟨q3, CI3, by omega, G3⟩
    | true =>
      go_wp2_with (fail)
      refine (anyNetS hc3 (by omega)).mono ?_
      rintro e w4 ⟨vT', vL', nT', nL', zT', zL', q4, rfl, hT', hL', hwT', hwL', hnT', hnL', hq4, hc4, hg4⟩
      have CI4 : CI B [(b2, [.usr 0, .usr 0]), (b4, [.usr 0, .usr 0])] (uN B [(b2, [.usr 0, .usr 0]), (b4, [.usr 0, .usr 0])] b2) vc n zc q4 w4 := ⟨hc4, CI3.2.grown hU hg4⟩
      obtain ⟨k1, k2, k3⟩ := base_lt ⟨_, List.mem_cons_self, Nat.le_refl _⟩ CI3
      have rT : rowU B [(b2, [.usr 0, .usr 0]), (b4, [.usr 0, .usr 0])] b2 3 45 w4 vT' := rowU_own hT' hwT' (by omega) (by omega) k1 k2 k3
      have rL : rowU B [(b2, [.usr 0, .usr 0]), (b4, [.usr 0, .usr 0])] b2 3 45 w4 vL' := rowU_own hL' hwL' (by omega) (by omega) k1 k2 k3
      obtain ⟨x, y, _, _, cx, cy, fx, fy⟩ := netBox_cells CI4 (i := 1) rfl rfl
      obtain ⟨aT', cT', rfl, _, _, _⟩ := row_shape hT'
      obtain ⟨aL', cL', rfl, _, _, _⟩ := row_shape hL'
      have CI5 := CI4.set hU hBN (i := 1) rfl (o := 0) rfl (u := .slice aT' nT' cT') rT
      have CI6 := CI5.set hU hBN (i := 1) rfl (o := 1) rfl (u := .slice aL' nL' cL') (rowU_gr rL (gr_set (List.mem_of_getElem? (i := 1) rfl) 0 _))
      have G6 := grow_set (grow_set (World.grownBy.trans G3 hg4) (b := b4) (by omega) 0 (.slice aT' nT' cT')) (b := b4) (by omega) 1 (.slice aL' nL' cL')
      clear CI3 hc3 G3 hT' hL' hwT' hwL' hc4 hg4 CI4 rT rL CI5
      go_wp2_with (fail)
      go_meet
      exact ⟨q4, CI6, by omega, G6⟩
  case rest =>
    clear CI3 hc3 G3
    obtain ⟨q5, CI5, hq5, G5⟩ := hcut
    go_upto_region 4 with (fail)
    refine wp_region_typed' (by kernel_rfl) (CI B [(b2, [.usr 0, .usr 0]), (b4, [.usr 0, .usr 0])] (uN B [(b2, [.usr 0, .usr 0]), (b4, [.usr 0, .usr 0])] b2) vc n zc) (vT B [(b2, [.usr 0, .usr 0]), (b4, [.usr 0, .usr 0])] (uN B [(b2, [.usr 0, .usr 0]), (b4, [.usr 0, .usr 0])] b2)) (Gr B [(b2, [.usr 0, .usr 0]), (b4, [.usr 0, .usr 0])]) 200000000 100000000000 (Gr.refl _ _) (fun _ _ _ h k => Gr.trans h k) (fun _ _ _ _ g h => vT_mono hU g h) (fun _ _ h => CI.ext hU h ((Ext.refl _).drew)) (fun _ => Gr.of_ext ((Ext.refl _).drew)) [([(4, (.box 1 0))], (.usr 1)), ([(0, .cur)], .cur), ([(4, (.box 1 0))], (.usr 1)), ([(12, .cur), (13, (.usr 1))], (.usr 2)), ([(2, (.box 0 0)), (11, (.usr 1))], .any), ([(14, (.usr 2))], (.usr 2))] [(0, .cur), (2, (.box 0 0)), (4, (.box 1 0))] (by kernel_rfl) (AllOk.cons (OpOk.weaken (ok_loadN (i := 1) (by kernel_rfl) (by kernel_rfl) rfl ⟨_, rfl, rfl⟩) (by omega) (by omega)) (AllOk.cons (OpOk.weaken (ok_move rfl) (by omega) (by omega)) (AllOk.cons (OpOk.weaken (ok_loadN (i := 1) (by kernel_rfl) (by kernel_rfl) rfl ⟨_, rfl, rfl⟩) (by omega) (by omega)) (AllOk.cons (ok_callW (enters Try.func48 (by kernel_rfl) (by kernel_rfl)) (ts := [.cur, .usr 1]) (fogU ⟨_, List.mem_cons_self, Nat.le_refl _⟩) rfl rfl hU) (AllOk.cons (OpOk.weaken (ok_storeN (i := 0) (by kernel_rfl) rfl rfl ⟨_, rfl, rfl⟩ hBN) (by omega) (by omega)) (AllOk.cons (OpOk.weaken (ok_assign rfl) (by omega) (by omega)) (trivial))))))) (q5) (by first | decide | (simp only [List.size_toArray, List.length_cons, List.length_nil]; omega)) CI5 (GCons (rfl) (GCons (⟨_, rfl, rfl⟩) (GCons (⟨_, rfl, rfl⟩) GNil))) [11, 12, 13, 14, 3] (by kernel_rfl) ?_
    intro u w' q' hq' hI' hG hu
    simp only [List.size_toArray, List.length_cons, List.length_nil, Nat.reduceMul] at hq'
    have hF : rowU B [(b2, [.usr 0, .usr 0]), (b4, [.usr 0, .usr 0])] b2 3 61 w' (u 3) := hu 3 (.usr 2) (by kernel_rfl)
    obtain ⟨x, y, hx, hy, cx, cy, fx, fy⟩ := netBox_cells hI' (i := 0) rfl rfl
    have G6 := gr_grown hG G5 (by intro p hp; simp only [List.mem_cons, List.not_mem_nil, or_false] at hp; rcases hp with rfl | rfl <;> simp only [] <;> omega)
    have hc6 := hI'.1
    generalize hv : u 3 = vF at *
    clear hu hI' hG CI5 G5 hU
    simp only [putsAt, List.foldl_cons, List.foldl_nil, List.setIfInBounds_toArray, List.set_cons_zero, List.set_cons_succ]
    simp only [hv]
    go_wp2_with (fail)
    refine bodyPost_ret (results_net2 rfl _ cx cy rfl) rfl ?_
    exact ⟨_, _, rfl, ⟨x, y, rfl, rowU_weak hx hb2' (by intro p hp; cases hp), rowU_weak hy hb2' (by intro p hp; cases hp)⟩, rowU_weak hF hb2' (by intro p hp; cases hp), q', by omega, hc6, G6⟩

/-- one question of held messages: a net, fogs, jobs -/
def HoldQ (w : World) (vN vF vJ : Value) : Prop := ∃ (nT : Nat) (zT : List Int) (nL : Nat) (zL : List Int) (nF : Nat) (zF : List Int) (m : Nat) (y : List Int), NetRow w vN nT zT nL zL ∧ IntRow .i64 3 w vF nF zF ∧ IntRow .i64 2 w vJ m y ∧ nT ≤ 45 ∧ nL ≤ 45 ∧ nF ≤ 61 ∧ m ≤ 21
theorem holdQ_of {B base : Nat} {β : List (Nat × List Ty)} {w : World} {vN vF vJ : Value} (h1 : uN B β base 1 w vN) (h2 : rowU B β base 3 61 w vF) (h3 : rowU B β base 2 21 w vJ) : HoldQ w vN vF vJ := by
  obtain ⟨x, y, rfl, ⟨nT, zT, a1, a2, _⟩, ⟨nL, zL, b1, b2, _⟩⟩ := h1
  obtain ⟨nF, zF, c1, c2, _⟩ := h2
  obtain ⟨m, z, d1, d2, _⟩ := h3
  exact ⟨nT, zT, nL, zL, nF, zF, m, z, ⟨x, y, rfl, a2, b2⟩, c2, d2, a1, b1, c1, d1⟩
theorem ext_of_grown {w w' : World} {B : Nat} (g : w.grownBy w' (some B)) (hB : w.heap.size ≤ B) : Ext w w' :=
  show Below w.heap.size w w' from ⟨g.os, g.tape, g.output, g.size, fun k hk => g.block k hk (by simp; omega)⟩
theorem row_blk {w : World} {vc : Value} {n : Nat} {zc : List Int} (h : IntRow .u8 1 w vc n zc) : n ≠ 0 → ∀ a l c, vc = .slice (some a) l c → a.block < w.heap.size := by
  rintro h0 a l c rfl
  obtain ⟨h1, h2, h3, a', c', h4, h5, h6, h7⟩ := h
  injection h4 with h4 _ _
  obtain ⟨b, o, ha, hbs, _⟩ := h7.resolve_left h0
  rw [ha] at h4
  injection h4 with h4
  subst h4
  exact hbs

end Go.Proofs.Ytjmbhlhkjjinbaa