/- What the reference draws for the laws of the clocks: a bound, a drift and a width. Condition: the code's length. -/
import Derived.Test.YtiemkobgpaekoaaClkI
import Derived.Test.YtiemkobgpaekoaaTypS
namespace Go.Proofs.Ytiemkobgpaekoaa
open Go.RowKit
set_option linter.unusedSimpArgs false
set_option linter.unusedVariables false

theorem two_box {w : World} {b : Nat} {x y : Int} (T : Two w b x y) (hx : (Lit.int .i64 x).wf = true) (hy : (Lit.int .i64 y).wf = true) (o : Nat) (T' : Ty) (h : [Ty.int, Ty.int][o]? = some T') : ∃ v, intV v ∧ T' = .int ∧ w.cell? ⟨b, o, none⟩ = some v ∧ w.frozen? ⟨b, o, none⟩ = false := by
  obtain ⟨h1, h2, h3, h4, h5⟩ := T
  match o, h with
  | 0, h => cases h; exact ⟨_, intV_int hx, rfl, h1, h3⟩
  | 1, h => cases h; exact ⟨_, intV_int hy, rfl, h2, h4⟩
theorem box_two {B : Nat} {β : List (Nat × List Ty)} {U : Nat → World → Value → Prop} {vc : Value} {n : Nat} {w : World} {b : Nat} (h : Bx B β U vc n w) (hm : (b, [Ty.int, Ty.int]) ∈ β) : ∃ x y, Two w b x y ∧ (Lit.int .i64 x).wf = true ∧ (Lit.int .i64 y).wf = true := by
  obtain ⟨_, h2, _, h4⟩ := h _ hm
  obtain ⟨v1, ⟨x, rfl, hx⟩, c1, f1⟩ := h4 0 .int rfl
  obtain ⟨v2, ⟨y, rfl, hy⟩, c2, f2⟩ := h4 1 .int rfl
  exact ⟨x, y, ⟨c1, c2, f1, f2, h2⟩, hx, hy⟩
theorem noUOk (B : Nat) (β : List (Nat × List Ty)) : UOk B β noU := fun _ _ _ _ _ h => h.elim

set_option maxRecDepth 100000 in
set_option maxHeartbeats 2000000 in
theorem drawWidth (vc : Value) (n : Nat) (zc : List Int) (w : World) (h : IntRow .u8 1 w vc n zc) (hn : n ≤ 1048576) :
    Calls Try.prog 47 #[vc] w fun e w' => ∃ x y z u : Int, e = .returned (.tuple #[.agg #[.int .i64 x, .int .i64 y], .int .i64 z, .int .i64 u]) ∧ ((Lit.int .i64 x).wf = true ∧ (Lit.int .i64 y).wf = true ∧ (Lit.int .i64 z).wf = true ∧ (Lit.int .i64 u).wf = true) ∧ Ext w w' := by
  have hfar : n ≠ 0 → ∀ a l c, vc = .slice (some a) l c → a.block < w.heap.size := by
    rintro h0 a l c rfl
    obtain ⟨_, _, _, a', c', h4, _, _, h7⟩ := h
    injection h4 with h4 _ _
    obtain ⟨b, o, ha, hbs, _⟩ := h7.resolve_left h0
    rw [ha] at h4
    injection h4 with h4
    subst h4
    exact hbs
  have hc := cur_new (h.ext ((by repeat (first | exact Ext.refl _ | assumption | refine Ext.alloc ?_ _ | refine Ext.drew ?_ | refine Ext.drewN ?_ _ | refine Ext.setCell ?_ (by first | exact Nat.le_refl _ | (simp; done) | (dsimp only; omega) | (simp only [World.size_alloc, World.size_setCell]; omega)) _ | refine Ext.trans ?_ (by assumption))) : Ext w (w.alloc (.cells #[.int .i64 0, .int .i64 0] 25)))) (by omega)
  have T2 := (Two.new w 0 0).ext ((by repeat (first | exact Ext.refl _ | assumption | refine Ext.alloc ?_ _ | refine Ext.drew ?_ | refine Ext.drewN ?_ _ | refine Ext.setCell ?_ (by first | exact Nat.le_refl _ | (simp; done) | (dsimp only; omega) | (simp only [World.size_alloc, World.size_setCell]; omega)) _ | refine Ext.trans ?_ (by assumption))) : Ext (w.alloc (.cells #[.int .i64 0, .int .i64 0] 25)) ((w.alloc (.cells #[.int .i64 0, .int .i64 0] 25)).alloc (.cells #[vc, .int .i64 0, .int .u64 0] 69)))
  have E0 : Ext w ((w.alloc (.cells #[.int .i64 0, .int .i64 0] 25)).alloc (.cells #[vc, .int .i64 0, .int .u64 0] 69)) := (by repeat (first | exact Ext.refl _ | assumption | refine Ext.alloc ?_ _ | refine Ext.drew ?_ | refine Ext.drewN ?_ _ | refine Ext.setCell ?_ (by first | exact Nat.le_refl _ | (simp; done) | (dsimp only; omega) | (simp only [World.size_alloc, World.size_setCell]; omega)) _ | refine Ext.trans ?_ (by assumption)))
  rw [World.size_alloc] at hc
  obtain ⟨a, c, rfl⟩ := introw_slice h
  go_enter Try.func47, Try.ntmps47
  go_wp2_with (fail)
  obtain ⟨b2, hb2⟩ : ∃ b, b = w.heap.size := ⟨_, rfl⟩
  rw [← hb2] at hc T2 hfar ⊢
  have hb2' : w.heap.size ≤ b2 := by omega
  clear hb2
  refine (boundS hc (by omega)).mono ?_
  rintro e w1 ⟨lo, hi, q1, rfl, u1, u2, u3, u4, hq1, hq2, hc1, hg1⟩
  replace E0 := E0.of_grownAt hg1 (by intro k hk; simp at hk; omega)
  replace T2 := T2.grown hg1 (by omega)
  clear hc hg1
  have hs2 := hc1.size
  have T6 := Two.new w1 lo hi
  replace T2 := T2.ext ((by repeat (first | exact Ext.refl _ | assumption | refine Ext.alloc ?_ _ | refine Ext.drew ?_ | refine Ext.drewN ?_ _ | refine Ext.setCell ?_ (by first | exact Nat.le_refl _ | (simp; done) | (dsimp only; omega) | (simp only [World.size_alloc, World.size_setCell]; omega)) _ | refine Ext.trans ?_ (by assumption))) : Ext w1 (w1.alloc (.cells #[.int .i64 lo, .int .i64 hi] 25)))
  replace E0 := E0.trans ((by repeat (first | exact Ext.refl _ | assumption | refine Ext.alloc ?_ _ | refine Ext.drew ?_ | refine Ext.drewN ?_ _ | refine Ext.setCell ?_ (by first | exact Nat.le_refl _ | (simp; done) | (dsimp only; omega) | (simp only [World.size_alloc, World.size_setCell]; omega)) _ | refine Ext.trans ?_ (by assumption))) : Ext w1 (w1.alloc (.cells #[.int .i64 lo, .int .i64 hi] 25)))
  replace hc1 := hc1.ext ((by repeat (first | exact Ext.refl _ | assumption | refine Ext.alloc ?_ _ | refine Ext.drew ?_ | refine Ext.drewN ?_ _ | refine Ext.setCell ?_ (by first | exact Nat.le_refl _ | (simp; done) | (dsimp only; omega) | (simp only [World.size_alloc, World.size_setCell]; omega)) _ | refine Ext.trans ?_ (by assumption))) : Ext w1 (w1.alloc (.cells #[.int .i64 lo, .int .i64 hi] 25)))
  go_wp2_with (fail)
  obtain ⟨b6, hb6⟩ : ∃ b, b = w1.heap.size := ⟨_, rfl⟩
  rw [← hb6] at T6 hs2 ⊢
  clear hb6
  have B6 : b2 + 1 < b6 := hs2
  generalize w1.alloc (.cells #[.int .i64 lo, .int .i64 hi] 25) = wa at T2 T6 hc1 E0 ⊢
  have wlo : (Lit.int .i64 lo).wf = true := wf_i64 (by omega)
  have whi : (Lit.int .i64 hi).wf = true := wf_i64 (by omega)
  have hbx : Bx (b2 + 1) [(b2, [Ty.int, Ty.int]), (b6, [Ty.int, Ty.int])] noU (.slice a n c) n wa := by
    refine Bx.cons (by simp) T2.2.2.2.2 (fun h0 a l c e => by have := hfar h0 a l c e; simp only []; omega) (two_box T2 (by decide) (by decide)) (fun p' hp' => ?_)
    rw [List.mem_singleton] at hp'
    subst hp'
    exact ⟨by simp only []; omega, T6.2.2.2.2, fun h0 a l c e => (by have := hfar h0 a l c e; simp only []; omega), two_box T6 wlo whi⟩
  have hBN : BxN [(b2, [Ty.int, Ty.int]), (b6, [Ty.int, Ty.int])] := by
    intro i j p p' hi hj he
    match i, j, hi, hj with
    | 0, 0, hi, hj => simp at hi hj; rw [← hi, ← hj]
    | 1, 1, hi, hj => simp at hi hj; rw [← hi, ← hj]
    | 0, 1, hi, hj => simp at hi hj; subst hi; subst hj; simp at he; omega
    | 1, 0, hi, hj => simp at hi hj; subst hi; subst hj; simp at he; omega
  have hCI : CI (b2 + 1) [(b2, [Ty.int, Ty.int]), (b6, [Ty.int, Ty.int])] noU (.slice a n c) n zc q1 wa := ⟨hc1, hbx⟩
  have hU := noUOk (b2 + 1) [(b2, [Ty.int, Ty.int]), (b6, [Ty.int, Ty.int])]
  have hB2 : w.heap.size ≤ b2 + 1 := by omega
  refine wp_region_typed' (by kernel_rfl) (CI (b2 + 1) [(b2, [Ty.int, Ty.int]), (b6, [Ty.int, Ty.int])] noU (.slice a n c) n zc) (vT (b2 + 1) [(b2, [Ty.int, Ty.int]), (b6, [Ty.int, Ty.int])] noU) (Gr (b2 + 1) [(b2, [Ty.int, Ty.int]), (b6, [Ty.int, Ty.int])]) 100000 (Gr.refl _ _) (fun _ _ _ h k => Gr.trans h k) (fun _ _ _ _ g h => vT_mono hU g h) (fun _ _ h => CI.ext hU h ((Ext.refl _).drew)) (fun _ => Gr.of_ext ((Ext.refl _).drew)) [([(6, (.box 1 0))], (.agg 2)), ([(5, .cur)], .cur), ([(5, .cur)], .cur), ([], .list), ([(14, .cur), (15, .list)], .int), ([(16, .int)], .list), ([(13, .cur), (17, .list)], .int), ([(5, .cur)], .cur), ([(6, (.box 1 0))], (.box 1 1)), ([(20, (.box 1 1))], .int), ([(6, (.box 1 0))], (.box 1 0)), ([(22, (.box 1 0))], .int), ([(21, .int), (23, .int)], .int), ([(5, .cur)], .cur), ([], .list), ([(25, .cur), (26, .list)], .int), ([(24, .int), (27, .int)], .list), ([(19, .cur), (28, .list)], .int), ([(2, (.box 0 0)), (12, (.agg 2))], .any), ([(18, .int)], .int), ([(29, .int)], .int)] [(2, (.box 0 0)), (5, .cur), (6, (.box 1 0))] (by kernel_rfl) (AllOk.cons (ok_loadS (K := 2) (i := 1) (by kernel_rfl) (by kernel_rfl) rfl ⟨_, rfl, rfl⟩) (AllOk.cons (ok_move rfl) (AllOk.cons (ok_move rfl) (AllOk.cons (ok_list (by kernel_rfl) ⟨by decide, by decide⟩ rfl hU) (AllOk.cons (ok_call (enters Try.func65 (by kernel_rfl) (by kernel_rfl)) (amongT (.slice a n c) n zc) rfl rfl hU) (AllOk.cons (ok_list (by kernel_rfl) ⟨by decide, by decide⟩ rfl hU) (AllOk.cons (ok_call (enters Try.func65 (by kernel_rfl) (by kernel_rfl)) (amongT (.slice a n c) n zc) rfl rfl hU) (AllOk.cons (ok_move rfl) (AllOk.cons (ok_faddr (fun b w => by simp [go_sem]) rfl) (AllOk.cons (ok_loadI (i := 1) (o := 1) (by kernel_rfl) (by kernel_rfl) rfl ⟨_, rfl, rfl⟩) (AllOk.cons (ok_faddr (fun b w => by simp [go_sem]) rfl) (AllOk.cons (ok_loadI (i := 1) (o := 0) (by kernel_rfl) (by kernel_rfl) rfl ⟨_, rfl, rfl⟩) (AllOk.cons (ok_arith (.inr (.inl rfl)) rfl rfl) (AllOk.cons (ok_move rfl) (AllOk.cons (ok_list (by kernel_rfl) ⟨by decide, by decide⟩ rfl hU) (AllOk.cons (ok_call (enters Try.func65 (by kernel_rfl) (by kernel_rfl)) (amongT (.slice a n c) n zc) rfl rfl hU) (AllOk.cons (ok_list (by kernel_rfl) ⟨by decide, by decide⟩ rfl hU) (AllOk.cons (ok_call (enters Try.func65 (by kernel_rfl) (by kernel_rfl)) (amongT (.slice a n c) n zc) rfl rfl hU) (AllOk.cons (ok_storeS (K := 2) (i := 0) (by kernel_rfl) rfl rfl ⟨_, rfl, rfl⟩ hU hBN) (AllOk.cons (ok_assign rfl) (AllOk.cons (ok_assign rfl) (trivial)))))))))))))))))))))) (q1) (by first | decide | (simp only [List.size_toArray, List.length_cons, List.length_nil]; omega)) hCI (GCons (⟨_, rfl, rfl⟩) (GCons (rfl) (GCons (⟨_, rfl, rfl⟩) GNil))) [12, 13, 14, 15, 16, 17, 18, 19, 20, 21, 22, 23, 24, 25, 26, 27, 28, 29, 3, 4] (by kernel_rfl) ?_
  intro u w' q' hq' hI' hG hu
  obtain ⟨z, e3, hz⟩ : intV (u 3) := hu 3 .int (by kernel_rfl)
  obtain ⟨y, e4, hy⟩ : intV (u 4) := hu 4 .int (by kernel_rfl)
  clear hu hq'
  obtain ⟨x1, x2, T2', hx1, hx2⟩ := box_two hI'.2 (show (b2, [Ty.int, Ty.int]) ∈ _ by simp)
  have hE := hG.ext E0 hB2 (by intro p hp; simp at hp; rcases hp with rfl | rfl <;> simp only [] <;> omega)
  clear hG hI' hbx hBN hCI hU hc1 T6 T2
  simp only [putsAt, List.foldl_cons, List.foldl_nil, List.setIfInBounds_toArray, List.set_cons_zero, List.set_cons_succ]
  rw [e3, e4]
  go_wp2_with (fail)
  refine bodyPost_ret (results_two3 Try.results47 _ T2' (by rfl)) rfl ⟨x1, x2, _, _, rfl, ⟨hx1, hx2, hz, hy⟩, hE⟩
end Go.Proofs.Ytiemkobgpaekoaa