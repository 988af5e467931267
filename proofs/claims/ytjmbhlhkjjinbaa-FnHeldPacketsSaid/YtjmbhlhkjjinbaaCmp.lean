/- Comparisons of two structs by two of their fields; the world grows by blocks and draws alone. No condition. -/
import Derived.Test.YtjmbhlhkjjinbaaLeaf
import Derived.StillTailTactics
import Derived.Sort.Grow
namespace Go.Proofs.Ytjmbhlhkjjinbaa
open Go.RowKit
set_option linter.unusedSimpArgs false
set_option linter.unusedVariables false

/-- w' is w with draws and new blocks at its end -/
def Gro (w w' : World) : Prop := ∃ q os, w' = Go.Sort.grow (w.drewN q) os
theorem Gro.refl (w : World) : Gro w w := ⟨0, #[], by rw [Go.Sort.grow_empty, World.drewN_zero]⟩
theorem Gro.alloc {a w : World} (h : Gro a w) (o : Obj) : Gro a (w.alloc o) := by
  obtain ⟨q, os, rfl⟩ := h
  exact ⟨q, os ++ #[o], by rw [Go.Sort.alloc_eq_grow, Go.Sort.grow_grow]⟩
theorem Gro.drewN {a w : World} (h : Gro a w) (n : Nat) : Gro a (w.drewN n) := by
  obtain ⟨q, os, rfl⟩ := h
  exact ⟨q + n, os, by rw [← World.drewN_drewN]; rfl⟩
theorem Gro.drew {a w : World} (h : Gro a w) : Gro a w.drew := h.drewN 1
theorem Gro.trans {a b c : World} (h : Gro a b) (k : Gro b c) : Gro a c := by
  obtain ⟨q, os, rfl⟩ := k
  obtain ⟨q2, os2, h2⟩ := h.drewN q
  exact ⟨q2, os2 ++ os, by rw [h2, Go.Sort.grow_grow]⟩
theorem Gro.ext {a b : World} (h : Gro a b) : Ext a b := by
  obtain ⟨q, os, rfl⟩ := h
  exact ⟨rfl, rfl, rfl, by simp [Go.Sort.grow, World.drewN], fun k hk => by
    have hk2 : k < a.heap.size := hk
    simp [Go.Sort.grow, World.drewN, Array.getElem?_append, hk2]⟩

theorem small_wf {x : Int} (h0 : -1000000 ≤ x) (h1 : x ≤ 1000000) : (Lit.int .i64 x).wf = true := by
  simp [Lit.wf, IntKind.min, IntKind.max, IntKind.signed, IntKind.bits]
  omega
theorem lit2_row (w : World) (a b : Int) (t : TypeId) (ha : (Lit.int .i64 a).wf = true) (hb : (Lit.int .i64 b).wf = true) : IntRow .i64 1 (w.alloc (.cells #[.int .i64 a, .int .i64 b] t)) (.slice (some ⟨w.heap.size, 0, none⟩) 2 2) 2 [a, b] := by
  refine ⟨rfl, by unfold maxLen; omega, fun z hz => ?_, some ⟨w.heap.size, 0, none⟩, 2, rfl, Nat.le_refl _, by unfold maxLen; omega, .inr ⟨w.heap.size, 0, rfl, by simp, fun j hj => ?_⟩⟩
  · simp only [List.mem_cons, List.not_mem_nil, or_false] at hz
    rcases hz with rfl | rfl
    · exact ha
    · exact hb
  · match j, hj with
    | 0, _ => simp [go_sem]
    | 1, _ => simp [go_sem]
    | j + 2, hj => omega

def cmpI (x y : Int) : Int := if x < y then -1 else if y < x then 1 else 0
theorem cmpI_bd (x y : Int) : -1 ≤ cmpI x y ∧ cmpI x y ≤ 1 := by unfold cmpI; split <;> (try split) <;> omega
def orI (a b : Int) : Int := if a = 0 then b else a
/-- the order of two pairs, by the first and then by the second -/
def cmp2 (a1 b1 a2 b2 : Int) : Int := orI (cmpI a1 a2) (cmpI b1 b2)
def befL (a1 b1 a2 b2 : Int) : Bool := decide (a1 < a2) || (a1 == a2 && decide (b1 < b2))
theorem cmp2_bef (a1 b1 a2 b2 : Int) : decide (0 ≤ cmp2 a1 b1 a2 b2) = !befL a1 b1 a2 b2 := by
  unfold cmp2 orI cmpI befL
  rw [Bool.eq_iff_iff]
  simp only [decide_eq_true_eq, Bool.not_eq_true', Bool.or_eq_false_iff, Bool.and_eq_false_iff, decide_eq_false_iff_not, beq_eq_false_iff_ne]
  split <;> (try split) <;> (try split) <;> (try split) <;> omega
theorem cmp2_lt (a1 b1 a2 b2 : Int) : decide (cmp2 a1 b1 a2 b2 < 0) = befL a1 b1 a2 b2 := by
  have h := cmp2_bef a1 b1 a2 b2
  rw [← Bool.not_eq_eq_eq_not, ← decide_not] at h
  rw [← h]
  congr 1
  simp

set_option maxRecDepth 100000 in
set_option maxHeartbeats 400000 in
theorem compare_any (x y : Int) (w : World) : Calls Try.prog 79 #[.int .i64 x, .int .i64 y] w fun e w' => e = .returned (.int .i64 (cmpI x y)) ∧ w = w' := by
  unfold cmpI
  by_cases h1 : x < y
  · rw [if_pos h1]
    go_enter Try.func79, Try.ntmps79
    go_wp2
    go_ret
    exact ⟨rfl, rfl⟩
  · rw [if_neg h1]
    by_cases h2 : y < x
    · rw [if_pos h2]
      go_enter Try.func79, Try.ntmps79
      go_wp2
      go_ret
      exact ⟨rfl, rfl⟩
    · rw [if_neg h2]
      go_enter Try.func79, Try.ntmps79
      go_wp2
      go_ret
      exact ⟨rfl, rfl⟩


set_option maxRecDepth 100000 in
set_option maxHeartbeats 400000 in
theorem or_gro (v : Value) (a b : Int) (w : World) (h : IntRow .i64 1 w v 2 [a, b]) : Calls Try.prog 78 #[v] w fun e w' => e = .returned (.int .i64 (orI a b)) ∧ Gro w w' := by
  obtain ⟨hl, hm, hwf, ad, c, rfl, hnc, hcm, hcell⟩ := h
  obtain ⟨g, o, rfl, hg, hc⟩ := hcell.resolve_left (by omega)
  have s0 : w.cell? ⟨g, o, none⟩ = some (.int .i64 a) := hc 0 (by omega)
  have s1 : w.cell? ⟨g, o + 1, none⟩ = some (.int .i64 b) := hc 1 (by omega)
  clear hc hcell hwf
  by_cases h0 : a = 0
  · have e : orI a b = b := by unfold orI; rw [if_pos h0]
    have ha : (a != 0) = false := by simpa using h0
    rw [e]
    clear e h0
    by_cases h1 : b = 0
    · have hb : (b != 0) = false := by simpa using h1
      have HB := hid h1
      clear h1
      go_enter Try.func78, Try.ntmps78
      go_wp2_with (fail)
      refine wp_loop_rounds 3 ?_
      rw [rounds_succ]
      go_wp2_with (fail)
      rw [rounds_succ]
      go_wp2_with (fail)
      rw [rounds_succ]
      go_wp2_with (fail)
      go_ret
      exact ⟨ret_int (by rw [HB.out]), (by repeat (first | exact Gro.refl _ | assumption | refine Gro.alloc ?_ _ | refine Gro.drew ?_ | refine Gro.drewN ?_ _ | refine Gro.trans ?_ (by assumption)))⟩
    · have hb : (b != 0) = true := by simpa using h1
      clear h1
      go_enter Try.func78, Try.ntmps78
      go_wp2_with (fail)
      refine wp_loop_rounds 3 ?_
      rw [rounds_succ]
      go_wp2_with (fail)
      rw [rounds_succ]
      go_wp2_with (fail)
      go_ret
      exact ⟨rfl, (by repeat (first | exact Gro.refl _ | assumption | refine Gro.alloc ?_ _ | refine Gro.drew ?_ | refine Gro.drewN ?_ _ | refine Gro.trans ?_ (by assumption)))⟩
  · have e : orI a b = a := by unfold orI; rw [if_neg h0]
    have ha : (a != 0) = true := by simpa using h0
    rw [e]
    clear e h0
    go_enter Try.func78, Try.ntmps78
    go_wp2_with (fail)
    refine wp_loop_rounds 3 ?_
    rw [rounds_succ]
    go_wp2_with (fail)
    go_ret
    exact ⟨rfl, (by repeat (first | exact Gro.refl _ | assumption | refine Gro.alloc ?_ _ | refine Gro.drew ?_ | refine Gro.drewN ?_ _ | refine Gro.trans ?_ (by assumption)))⟩


set_option maxRecDepth 100000 in
set_option maxHeartbeats 800000 in
theorem compareLinks_gro (a0 a1 a2 b0 b1 b2 : Int) (w : World) :
    Calls Try.prog 62 #[.agg #[.int .i64 a0, .int .i64 a1, .int .i64 a2], .agg #[.int .i64 b0, .int .i64 b1, .int .i64 b2]] w fun e w' => e = .returned (.int .i64 (cmp2 a0 a1 b0 b1)) ∧ Gro w w' := by
  go_enter Try.func62, Try.ntmps62
  go_wp2_with (fail)
  have hE : Gro w ((w.alloc (.cells #[.int .i64 a0, .int .i64 a1, .int .i64 a2] 72)).alloc (.cells #[.int .i64 b0, .int .i64 b1, .int .i64 b2] 72)) := (by repeat (first | exact Gro.refl _ | assumption | refine Gro.alloc ?_ _ | refine Gro.drew ?_ | refine Gro.drewN ?_ _ | refine Gro.trans ?_ (by assumption)))
  have p0 : ((w.alloc (.cells #[.int .i64 a0, .int .i64 a1, .int .i64 a2] 72)).alloc (.cells #[.int .i64 b0, .int .i64 b1, .int .i64 b2] 72)).cell? ⟨w.heap.size, 0, none⟩ = some (.int .i64 a0) := by simp [go_sem]
  have p1 : ((w.alloc (.cells #[.int .i64 a0, .int .i64 a1, .int .i64 a2] 72)).alloc (.cells #[.int .i64 b0, .int .i64 b1, .int .i64 b2] 72)).cell? ⟨w.heap.size, 1, none⟩ = some (.int .i64 a1) := by simp [go_sem]
  have q0 : ((w.alloc (.cells #[.int .i64 a0, .int .i64 a1, .int .i64 a2] 72)).alloc (.cells #[.int .i64 b0, .int .i64 b1, .int .i64 b2] 72)).cell? ⟨w.heap.size + 1, 0, none⟩ = some (.int .i64 b0) := by simp [go_sem]
  have q1 : ((w.alloc (.cells #[.int .i64 a0, .int .i64 a1, .int .i64 a2] 72)).alloc (.cells #[.int .i64 b0, .int .i64 b1, .int .i64 b2] 72)).cell? ⟨w.heap.size + 1, 1, none⟩ = some (.int .i64 b1) := by simp [go_sem]
  generalize (w.alloc (.cells #[.int .i64 a0, .int .i64 a1, .int .i64 a2] 72)).alloc (.cells #[.int .i64 b0, .int .i64 b1, .int .i64 b2] 72) = wx at *
  refine wp_region_still_tail 10 (by kernel_rfl) (by kernel_rfl) ?_
  simp only [List.take_succ_cons, List.take_zero, List.drop_succ_cons, List.drop_zero]
  repeat (first | still_step | still_call ((compare_any _ _ _).mono fun _ _ h => ⟨h.1, h.2.symm⟩))
  try refine wpStill_nil ?_
  change wpList _ _ _ _ _ wx.drew
  have hE1 : Gro w wx.drew := hE.drew
  generalize wx.drew = wy at *
  go_wp2_with (fail)
  refine (or_gro _ (cmpI a0 b0) (cmpI a1 b1) _ (lit2_row wy _ _ _ (small_wf (by have := cmpI_bd a0 b0; omega) (by have := cmpI_bd a0 b0; omega)) (small_wf (by have := cmpI_bd a1 b1; omega) (by have := cmpI_bd a1 b1; omega)))).mono ?_
  rintro e w2 ⟨rfl, hb2⟩
  go_wp2_with (fail)
  go_ret
  exact ⟨rfl, (by repeat (first | exact Gro.refl _ | assumption | refine Gro.alloc ?_ _ | refine Gro.drew ?_ | refine Gro.drewN ?_ _ | refine Gro.trans ?_ (by assumption)))⟩

theorem compareLinks_any (a0 a1 a2 b0 b1 b2 : Int) (w : World) :
    Calls Try.prog 62 #[.agg #[.int .i64 a0, .int .i64 a1, .int .i64 a2], .agg #[.int .i64 b0, .int .i64 b1, .int .i64 b2]] w fun e w' => e = .returned (.int .i64 (cmp2 a0 a1 b0 b1)) ∧ Ext w w' :=
  (compareLinks_gro a0 a1 a2 b0 b1 b2 w).mono fun _ _ h => ⟨h.1, h.2.ext⟩


set_option maxRecDepth 100000 in
set_option maxHeartbeats 800000 in
theorem compareFogs_gro (a0 a1 a2 b0 b1 b2 : Int) (w : World) :
    Calls Try.prog 64 #[.agg #[.int .i64 a0, .int .i64 a1, .int .i64 a2], .agg #[.int .i64 b0, .int .i64 b1, .int .i64 b2]] w fun e w' => e = .returned (.int .i64 (cmp2 a0 a1 b0 b1)) ∧ Gro w w' := by
  go_enter Try.func64, Try.ntmps64
  go_wp2_with (fail)
  have hE : Gro w ((w.alloc (.cells #[.int .i64 a0, .int .i64 a1, .int .i64 a2] 78)).alloc (.cells #[.int .i64 b0, .int .i64 b1, .int .i64 b2] 78)) := (by repeat (first | exact Gro.refl _ | assumption | refine Gro.alloc ?_ _ | refine Gro.drew ?_ | refine Gro.drewN ?_ _ | refine Gro.trans ?_ (by assumption)))
  have p0 : ((w.alloc (.cells #[.int .i64 a0, .int .i64 a1, .int .i64 a2] 78)).alloc (.cells #[.int .i64 b0, .int .i64 b1, .int .i64 b2] 78)).cell? ⟨w.heap.size, 0, none⟩ = some (.int .i64 a0) := by simp [go_sem]
  have p1 : ((w.alloc (.cells #[.int .i64 a0, .int .i64 a1, .int .i64 a2] 78)).alloc (.cells #[.int .i64 b0, .int .i64 b1, .int .i64 b2] 78)).cell? ⟨w.heap.size, 1, none⟩ = some (.int .i64 a1) := by simp [go_sem]
  have q0 : ((w.alloc (.cells #[.int .i64 a0, .int .i64 a1, .int .i64 a2] 78)).alloc (.cells #[.int .i64 b0, .int .i64 b1, .int .i64 b2] 78)).cell? ⟨w.heap.size + 1, 0, none⟩ = some (.int .i64 b0) := by simp [go_sem]
  have q1 : ((w.alloc (.cells #[.int .i64 a0, .int .i64 a1, .int .i64 a2] 78)).alloc (.cells #[.int .i64 b0, .int .i64 b1, .int .i64 b2] 78)).cell? ⟨w.heap.size + 1, 1, none⟩ = some (.int .i64 b1) := by simp [go_sem]
  generalize (w.alloc (.cells #[.int .i64 a0, .int .i64 a1, .int .i64 a2] 78)).alloc (.cells #[.int .i64 b0, .int .i64 b1, .int .i64 b2] 78) = wx at *
  refine wp_region_still_tail 10 (by kernel_rfl) (by kernel_rfl) ?_
  simp only [List.take_succ_cons, List.take_zero, List.drop_succ_cons, List.drop_zero]
  repeat (first | still_step | still_call ((compare_any _ _ _).mono fun _ _ h => ⟨h.1, h.2.symm⟩))
  try refine wpStill_nil ?_
  change wpList _ _ _ _ _ wx.drew
  have hE1 : Gro w wx.drew := hE.drew
  generalize wx.drew = wy at *
  go_wp2_with (fail)
  refine (or_gro _ (cmpI a0 b0) (cmpI a1 b1) _ (lit2_row wy _ _ _ (small_wf (by have := cmpI_bd a0 b0; omega) (by have := cmpI_bd a0 b0; omega)) (small_wf (by have := cmpI_bd a1 b1; omega) (by have := cmpI_bd a1 b1; omega)))).mono ?_
  rintro e w2 ⟨rfl, hb2⟩
  go_wp2_with (fail)
  go_ret
  exact ⟨rfl, (by repeat (first | exact Gro.refl _ | assumption | refine Gro.alloc ?_ _ | refine Gro.drew ?_ | refine Gro.drewN ?_ _ | refine Gro.trans ?_ (by assumption)))⟩

theorem compareFogs_any (a0 a1 a2 b0 b1 b2 : Int) (w : World) :
    Calls Try.prog 64 #[.agg #[.int .i64 a0, .int .i64 a1, .int .i64 a2], .agg #[.int .i64 b0, .int .i64 b1, .int .i64 b2]] w fun e w' => e = .returned (.int .i64 (cmp2 a0 a1 b0 b1)) ∧ Ext w w' :=
  (compareFogs_gro a0 a1 a2 b0 b1 b2 w).mono fun _ _ h => ⟨h.1, h.2.ext⟩




end Go.Proofs.Ytjmbhlhkjjinbaa