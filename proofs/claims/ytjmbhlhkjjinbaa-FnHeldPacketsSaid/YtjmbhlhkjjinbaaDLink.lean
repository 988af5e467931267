/- What the reference draws: a second. Condition: the code's length. What the reference draws: a number of a link. Condition: the code's length. -/
import Derived.Test.YtjmbhlhkjjinbaaCurC
import Derived.Handy
import Derived.Test.YtjmbhlhkjjinbaaTypP
namespace Go.Proofs.Ytjmbhlhkjjinbaa
open Go.RowKit
set_option linter.unusedSimpArgs false
set_option linter.unusedVariables false

set_option maxRecDepth 100000 in
set_option maxHeartbeats 2000000 in
theorem secondS {w : World} {B : Nat} {vc : Value} {n : Nat} {zc : List Int} {q : Nat} (h : CS w B vc n zc q) (hq : q ≤ 800000000000) :
    Calls Try.prog 25 #[.pointer (some ⟨B, 0, none⟩)] w fun e w' => ∃ (x : Int) (q' : Nat), e = .returned (.int .i64 x) ∧ -1 ≤ x ∧ x ≤ 10001 ∧ q ≤ q' ∧ q' ≤ q + 10 ∧ CS w' B vc n zc q' ∧ w.grownBy w' (some B) := by
  go_enter Try.func25, Try.ntmps25
  go_wp2_with (fail)
  refine (pickS 100 h (by omega)).mono ?_
  rintro e w1 ⟨x1, q1, rfl, a1, _, b1, hq1, hq1', hc1, hg1⟩
  have b1' := b1 (by omega)
  go_wp2_with (fail)
  refine (pickS 100 hc1 (by omega)).mono ?_
  rintro e w2 ⟨x2, q2, rfl, a2, _, b2, hq2, hq2', hc2, hg2⟩
  have b2' := b2 (by omega)
  go_wp2_with (fail)
  refine (pickS 200 hc2 (by omega)).mono ?_
  rintro e w3 ⟨x3, q3, rfl, a3, _, b3, hq3, hq3', hc3, hg3⟩
  have b3' := b3 (by omega)
  clear b1 b2 b3
  go_wp2_with (fail)
  refine (amongL [10000, 10001, -1] hc3 (by omega) rfl (by simp) (by simp) rfl (by intro z hz; simp at hz; omega)).mono ?_
  rintro e w4 ⟨x4, q4, rfl, hm4, hq4, hq4', hc4, hg4⟩
  have hm4' : -1 ≤ x4 ∧ x4 ≤ 10001 := by simp at hm4; omega
  obtain ⟨a4, b4⟩ := hm4'
  clear hm4
  go_wp2_with (fail)
  refine (amongL [0, 12, x1, x2, x3, x4] hc4 (by omega) rfl (by simp) (by simp) rfl (by intro z hz; simp at hz; omega)).mono ?_
  rintro e w5 ⟨x5, q5, rfl, hm5, hq5, hq5', hc5, hg5⟩
  have hm5' : -1 ≤ x5 ∧ x5 ≤ 10001 := by simp at hm5; omega
  go_wp2_with (fail)
  go_ret
  exact ⟨x5, q5, rfl, hm5'.1, hm5'.2, by omega, by omega, hc5, World.grownBy.trans hg1 (World.grownBy.trans hg2 (World.grownBy.trans hg3 (World.grownBy.trans hg4 hg5)))⟩
end Go.Proofs.Ytjmbhlhkjjinbaa
namespace Go.Proofs.Ytjmbhlhkjjinbaa
open Go.RowKit
set_option linter.unusedSimpArgs false
set_option linter.unusedVariables false

theorem u1_len {B b nT GT GL nL I cL : Nat} {aL : Option Addr} {vT : Value} (h : nL ≤ 1000000) : ∀ w v, uAny B b vT (.slice aL nL cL) GT nT GL nL I 1 w v → ∃ a l c, v = .slice a l c ∧ l ≤ 1000000 := by
  rintro w v rfl
  exact ⟨aL, nL, cL, rfl, h⟩
section
variable {B : Nat} {β : List (Nat × List Ty)} {U : Nat → World → Value → Prop} {vc : Value} {n : Nat} {zc : List Int}
variable {pre : List (Nat × Ty)} {T : Ty} {dst : Option Tmp} {x y : Operand} {t t' ty : TypeId} {pos : String} {aft : Array Edge} {g : Option (Nat × Bool)}
set_option maxRecDepth 100000 in
theorem ok_quo {c : Int} (hc : c ≠ 0) (hx : oB pre x .int = true) : OK B β U vc n zc { dst := dst, op := .binOp .quo t x (.const (.int .i64 c)) t', type := ty, pos := pos, after := aft, guard := g } pre .int := by
  intro a w q hI hq hp K Q hK
  obtain ⟨m, e1, _⟩ : intV (a.eval x) := oB_sound (B := B) (β := β) (U := U) hx hp
  have e2 : a.eval (.const (.int .i64 c)) = .int .i64 c := rfl
  have hrun : (execOp a.eval { dst := dst, op := .binOp .quo t x (.const (.int .i64 c)) t', type := ty, pos := pos, after := aft, guard := g }).run Try.prog w = .ok (.value (.int .i64 (IntKind.i64.wrap (m.tdiv c)))) w := by
    unfold execOp
    simp only [e1, e2]
    simp [eqGuard, binOp, hc, go_sem]
  unfold Oper.wp
  rw [hrun]
  exact hK _ w q (by omega) hI (intV_wrap _) (Gr.refl _ _ _)
end
set_option maxRecDepth 100000 in
set_option maxHeartbeats 2000000 in
theorem linkS {w : World} {B : Nat} {vc : Value} {n : Nat} {zc : List Int} {q : Nat} (xT : Value) (aL : Option Addr) (nL cL : Nat) (hvT : xT.oneCell' = true) (h : CS w B vc n zc q) (hq : q ≤ 100000000000) (hn : nL ≤ 1000000) :
    Calls Try.prog 24 #[.pointer (some ⟨B, 0, none⟩), .agg #[xT, .slice aL nL cL]] w fun e w' => ∃ (x : Int) (q' : Nat), e = .returned (.int .i64 x) ∧ (Lit.int .i64 x).wf = true ∧ q' ≤ q + 2000000 ∧ CS w' B vc n zc q' ∧ w.grownBy w' (some B) := by
  have hBs := h.size
  go_enter Try.func24, Try.ntmps24
  go_wp2_with (fail)
  have e0 : Ext w (w.alloc (.cells #[xT, .slice aL nL cL] 27)) := (by repeat (first | exact Ext.refl _ | assumption | refine Ext.alloc ?_ _ | refine Ext.drew ?_ | refine Ext.drewN ?_ _ | refine Ext.setCell ?_ (by first | exact Nat.le_refl _ | (simp; done) | (dsimp only; omega) | (simp only [World.size_alloc, World.size_setCell]; omega)) _ | refine Ext.trans ?_ (by assumption)))
  have hc1 := h.ext e0
  have c0 : (w.alloc (.cells #[xT, .slice aL nL cL] 27)).cell? ⟨w.heap.size, 0, none⟩ = some xT := by simp
  have c1 : (w.alloc (.cells #[xT, .slice aL nL cL] 27)).cell? ⟨w.heap.size, 1, none⟩ = some (.slice aL nL cL) := by simp
  have hlt3 : w.heap.size < (w.alloc (.cells #[xT, .slice aL nL cL] 27)).heap.size := by simp
  have hne3 : w.heap.size ≠ B := by omega
  generalize w.alloc (.cells #[xT, .slice aL nL cL] 27) = w1 at *
  obtain ⟨b3, hb3⟩ : ∃ b, b = w.heap.size := ⟨_, rfl⟩
  rw [← hb3] at c0 c1 hlt3 hne3 ⊢
  clear hb3
  have hU := uAny_ok B b3 xT (.slice aL nL cL) 0 0 0 nL 0
  refine wp_region_typed' (by kernel_rfl) (CI B [] (uAny B b3 xT (.slice aL nL cL) 0 0 0 nL 0) vc n zc) (vT B [] (uAny B b3 xT (.slice aL nL cL) 0 0 0 nL 0)) (Gr B []) 100000 800000000000 (Gr.refl _ _) (fun _ _ _ h k => Gr.trans h k) (fun _ _ _ _ g h => vT_mono hU g h) (fun _ _ h => CI.ext hU h ((Ext.refl _).drew)) (fun _ => Gr.of_ext ((Ext.refl _).drew)) [([(0, .cur)], .cur), ([(3, (.usr 10))], (.usr 12)), ([(6, (.usr 12))], (.usr 1)), ([(7, (.usr 1))], .int), ([(0, .cur)], .cur), ([(9, .cur)], .int), ([(10, .int)], .int), ([(8, .int), (11, .int)], .int), ([(5, .cur), (12, .int)], .int), ([(0, .cur)], .cur), ([(14, .cur)], .int), ([(15, .int)], .int), ([(13, .int), (16, .int)], .int), ([(17, .int)], .int)] [(0, .cur), (3, (.usr 10))] (by kernel_rfl) (AllOk.cons (ok_move rfl) (AllOk.cons (ok_fptr fN1 u10_12 rfl) (AllOk.cons (ok_loadP (et := 72) (by kernel_rfl) u12_1 rfl) (AllOk.cons (ok_lenI (et := 72) (by kernel_rfl) (u1_len (by omega)) rfl) (AllOk.cons (ok_move rfl) (AllOk.cons (ok_call (enters Try.func23 (by kernel_rfl) (by kernel_rfl)) (pickT vc n zc) rfl rfl hU) (AllOk.cons (ok_quo (c := 15) (by decide) rfl) (AllOk.cons (ok_arith (.inl rfl) rfl rfl) (AllOk.cons (ok_call (enters Try.func23 (by kernel_rfl) (by kernel_rfl)) (pickT vc n zc) rfl rfl hU) (AllOk.cons (ok_move rfl) (AllOk.cons (ok_call (enters Try.func23 (by kernel_rfl) (by kernel_rfl)) (pickT vc n zc) rfl rfl hU) (AllOk.cons (ok_quo (c := 23) (by decide) rfl) (AllOk.cons (ok_arith (.inr (.inl rfl)) rfl rfl) (AllOk.cons (ok_assign rfl) (trivial))))))))))))))) (q) (by first | decide | (simp only [List.size_toArray, List.length_cons, List.length_nil]; omega)) ⟨hc1, Bx.nil _⟩ (GCons (rfl) (GCons (⟨rfl, hlt3, hne3, c0, c1⟩) GNil)) [5, 6, 7, 8, 9, 10, 11, 12, 13, 14, 15, 16, 17, 4] (by kernel_rfl) ?_
  intro u w' q' hq' hI' hG hu
  simp only [List.size_toArray, List.length_cons, List.length_nil, Nat.reduceMul] at hq'
  obtain ⟨z, e4, hz⟩ : intV (u 4) := hu 4 .int (by kernel_rfl)
  have hg := World.grownBy.trans (e0.grown.but (some B)) hG.grown
  have hc := hI'.1
  clear hu hI' hG hU c0 c1 hc1 e0
  simp only [putsAt, List.foldl_cons, List.foldl_nil, List.setIfInBounds_toArray, List.set_cons_zero, List.set_cons_succ]
  rw [e4]
  go_wp2_with (fail)
  go_ret
  exact ⟨z, q', rfl, hz, by omega, hc, hg⟩
end Go.Proofs.Ytjmbhlhkjjinbaa
