/- The chapter of shifts: comparing two shifts; what the first elements of a slice hold. No condition. -/
import Derived.Test.YtedkffdkhnfoiaaDoorLeaf
import Derived.Test.YtedkffdkhnfoiaaDoorConvShift
import Derived.Test.YtedkffdkhnfoiaaDoorConvInt
namespace Go.Proofs.YtedkffdkhnfoiaaDoor
open Go.RowKit
set_option linter.unusedSimpArgs false
set_option linter.unusedVariables false

theorem small_wf {x : Int} (h0 : -1000000 ≤ x) (h1 : x ≤ 1000000) : (Lit.int .i64 x).wf = true := by
  simp [Lit.wf, IntKind.min, IntKind.max, IntKind.signed, IntKind.bits]
  omega
theorem lit2_row (w : World) (a b : Int) (t : TypeId) (ha : (Lit.int .i64 a).wf = true) (hb : (Lit.int .i64 b).wf = true) : IntRow .i64 1 (w.alloc (.cells #[.int .i64 a, .int .i64 b] t)) (.slice (some ⟨w.heap.size, 0, none⟩) 2 2) 2 [a, b] := by
  refine ⟨rfl, by unfold maxLen; omega, fun z hz => ?_, some ⟨w.heap.size, 0, none⟩, 2, rfl, Nat.le_refl _, by unfold maxLen; omega, .inr ⟨w.heap.size, 0, rfl, by simp, fun j hj => ?_⟩⟩
  · simp only [List.mem_cons, List.not_mem_nil, or_false] at hz
    rcases hz with rfl | rfl
    · exact ha
    · exact hb
  · match j, hj with
    | 0, _ => simp [go_sem]
    | 1, _ => simp [go_sem]
    | j + 2, hj => omega

def cmpI (x y : Int) : Int := if x < y then -1 else if y < x then 1 else 0
theorem cmpI_bd (x y : Int) : -1 ≤ cmpI x y ∧ cmpI x y ≤ 1 := by unfold cmpI; split <;> (try split) <;> omega
def orI (a b : Int) : Int := if a = 0 then b else a

set_option maxRecDepth 100000 in
set_option maxHeartbeats 400000 in
theorem compare_any (x y : Int) (w : World) : Calls Tryd.prog 63 #[.int .i64 x, .int .i64 y] w fun e w' => e = .returned (.int .i64 (cmpI x y)) ∧ w = w' := by
  unfold cmpI
  by_cases h1 : x < y
  · rw [if_pos h1]
    go_enter Tryd.func63, Tryd.ntmps63
    go_wp2
    go_ret
    exact ⟨rfl, rfl⟩
  · rw [if_neg h1]
    by_cases h2 : y < x
    · rw [if_pos h2]
      go_enter Tryd.func63, Tryd.ntmps63
      go_wp2
      go_ret
      exact ⟨rfl, rfl⟩
    · rw [if_neg h2]
      go_enter Tryd.func63, Tryd.ntmps63
      go_wp2
      go_ret
      exact ⟨rfl, rfl⟩

set_option maxRecDepth 100000 in
set_option maxHeartbeats 400000 in
theorem or_any (v : Value) (a b : Int) (w : World) (h : IntRow .i64 1 w v 2 [a, b]) : Calls Tryd.prog 62 #[v] w fun e w' => e = .returned (.int .i64 (orI a b)) ∧ Ext w w' := by
  obtain ⟨hl, hm, hwf, ad, c, rfl, hnc, hcm, hcell⟩ := h
  obtain ⟨g, o, rfl, hg, hc⟩ := hcell.resolve_left (by omega)
  have s0 : w.cell? ⟨g, o, none⟩ = some (.int .i64 a) := hc 0 (by omega)
  have s1 : w.cell? ⟨g, o + 1, none⟩ = some (.int .i64 b) := hc 1 (by omega)
  clear hc hcell hwf
  by_cases h0 : a = 0
  · have e : orI a b = b := by unfold orI; rw [if_pos h0]
    have ha : (a != 0) = false := by simpa using h0
    rw [e]
    clear e h0
    by_cases h1 : b = 0
    · have hb : (b != 0) = false := by simpa using h1
      have HB := hid h1
      clear h1
      go_enter Tryd.func62, Tryd.ntmps62
      go_wp2_with (fail)
      refine wp_loop_rounds 3 ?_
      rw [rounds_succ]
      go_wp2_with (fail)
      rw [rounds_succ]
      go_wp2_with (fail)
      rw [rounds_succ]
      go_wp2_with (fail)
      go_ret
      exact ⟨ret_int (by rw [HB.out]), (by repeat (first | exact Ext.refl _ | assumption | refine Ext.alloc ?_ _ | refine Ext.drew ?_ | refine Ext.drewN ?_ _ | refine Ext.setCell ?_ (by first | exact Nat.le_refl _ | (simp; done) | (dsimp only; omega) | (simp only [World.size_alloc, World.size_setCell]; omega)) _ | refine Ext.trans ?_ (by assumption)))⟩
    · have hb : (b != 0) = true := by simpa using h1
      clear h1
      go_enter Tryd.func62, Tryd.ntmps62
      go_wp2_with (fail)
      refine wp_loop_rounds 3 ?_
      rw [rounds_succ]
      go_wp2_with (fail)
      rw [rounds_succ]
      go_wp2_with (fail)
      go_ret
      exact ⟨rfl, (by repeat (first | exact Ext.refl _ | assumption | refine Ext.alloc ?_ _ | refine Ext.drew ?_ | refine Ext.drewN ?_ _ | refine Ext.setCell ?_ (by first | exact Nat.le_refl _ | (simp; done) | (dsimp only; omega) | (simp only [World.size_alloc, World.size_setCell]; omega)) _ | refine Ext.trans ?_ (by assumption)))⟩
  · have e : orI a b = a := by unfold orI; rw [if_neg h0]
    have ha : (a != 0) = true := by simpa using h0
    rw [e]
    clear e h0
    go_enter Tryd.func62, Tryd.ntmps62
    go_wp2_with (fail)
    refine wp_loop_rounds 3 ?_
    rw [rounds_succ]
    go_wp2_with (fail)
    go_ret
    exact ⟨rfl, (by repeat (first | exact Ext.refl _ | assumption | refine Ext.alloc ?_ _ | refine Ext.drew ?_ | refine Ext.drewN ?_ _ | refine Ext.setCell ?_ (by first | exact Nat.le_refl _ | (simp; done) | (dsimp only; omega) | (simp only [World.size_alloc, World.size_setCell]; omega)) _ | refine Ext.trans ?_ (by assumption)))⟩

/-- the order of two shifts, by their first hour and then by their operator -/
def cmpS (o1 f1 o2 f2 : Int) : Int := orI (cmpI f1 f2) (cmpI o1 o2)
def befB (o1 f1 o2 f2 : Int) : Bool := decide (f1 < f2) || (f1 == f2 && decide (o1 < o2))
theorem cmpS_bef (o1 f1 o2 f2 : Int) : decide (0 ≤ cmpS o1 f1 o2 f2) = !befB o1 f1 o2 f2 := by
  unfold cmpS orI cmpI befB
  rw [Bool.eq_iff_iff]
  simp only [decide_eq_true_eq, Bool.not_eq_true', Bool.or_eq_false_iff, Bool.and_eq_false_iff, decide_eq_false_iff_not, beq_eq_false_iff_ne]
  split <;> (try split) <;> (try split) <;> (try split) <;> omega

set_option maxRecDepth 100000 in
set_option maxHeartbeats 800000 in
theorem compareShifts_any (o1 f1 t1 o2 f2 t2 : Int) (w : World) :
    Calls Tryd.prog 48 #[.agg #[.int .i64 o1, .int .i64 f1, .int .i64 t1], .agg #[.int .i64 o2, .int .i64 f2, .int .i64 t2]] w fun e w' => e = .returned (.int .i64 (cmpS o1 f1 o2 f2)) ∧ Ext w w' := by
  go_enter Tryd.func48, Tryd.ntmps48
  go_wp2_with (fail)
  have hE : Ext w ((w.alloc (.cells #[.int .i64 o1, .int .i64 f1, .int .i64 t1] 42)).alloc (.cells #[.int .i64 o2, .int .i64 f2, .int .i64 t2] 42)) := (by repeat (first | exact Ext.refl _ | assumption | refine Ext.alloc ?_ _ | refine Ext.drew ?_ | refine Ext.drewN ?_ _ | refine Ext.setCell ?_ (by first | exact Nat.le_refl _ | (simp; done) | (dsimp only; omega) | (simp only [World.size_alloc, World.size_setCell]; omega)) _ | refine Ext.trans ?_ (by assumption)))
  have p0 : ((w.alloc (.cells #[.int .i64 o1, .int .i64 f1, .int .i64 t1] 42)).alloc (.cells #[.int .i64 o2, .int .i64 f2, .int .i64 t2] 42)).cell? ⟨w.heap.size, 0, none⟩ = some (.int .i64 o1) := by simp [go_sem]
  have p1 : ((w.alloc (.cells #[.int .i64 o1, .int .i64 f1, .int .i64 t1] 42)).alloc (.cells #[.int .i64 o2, .int .i64 f2, .int .i64 t2] 42)).cell? ⟨w.heap.size, 1, none⟩ = some (.int .i64 f1) := by simp [go_sem]
  have q0 : ((w.alloc (.cells #[.int .i64 o1, .int .i64 f1, .int .i64 t1] 42)).alloc (.cells #[.int .i64 o2, .int .i64 f2, .int .i64 t2] 42)).cell? ⟨w.heap.size + 1, 0, none⟩ = some (.int .i64 o2) := by simp [go_sem]
  have q1 : ((w.alloc (.cells #[.int .i64 o1, .int .i64 f1, .int .i64 t1] 42)).alloc (.cells #[.int .i64 o2, .int .i64 f2, .int .i64 t2] 42)).cell? ⟨w.heap.size + 1, 1, none⟩ = some (.int .i64 f2) := by simp [go_sem]
  generalize (w.alloc (.cells #[.int .i64 o1, .int .i64 f1, .int .i64 t1] 42)).alloc (.cells #[.int .i64 o2, .int .i64 f2, .int .i64 t2] 42) = wx at *
  refine wp_region_still_tail 10 (by kernel_rfl) (by kernel_rfl) ?_
  simp only [List.take_succ_cons, List.take_zero, List.drop_succ_cons, List.drop_zero]
  repeat (first | still_step | still_call ((compare_any _ _ _).mono fun _ _ h => ⟨h.1, h.2.symm⟩))
  try refine wpStill_nil ?_
  change wpList _ _ _ _ _ wx.drew
  have hE1 : Ext w wx.drew := hE.drew
  generalize wx.drew = wy at *
  go_wp2_with (fail)
  refine (or_any _ (cmpI f1 f2) (cmpI o1 o2) _ (lit2_row wy _ _ _ (small_wf (by have := cmpI_bd f1 f2; omega) (by have := cmpI_bd f1 f2; omega)) (small_wf (by have := cmpI_bd o1 o2; omega) (by have := cmpI_bd o1 o2; omega)))).mono ?_
  rintro e w2 ⟨rfl, hb2⟩
  go_wp2_with (fail)
  go_ret
  exact ⟨rfl, (by repeat (first | exact Ext.refl _ | assumption | refine Ext.alloc ?_ _ | refine Ext.drew ?_ | refine Ext.drewN ?_ _ | refine Ext.setCell ?_ (by first | exact Nat.le_refl _ | (simp; done) | (dsimp only; omega) | (simp only [World.size_alloc, World.size_setCell]; omega)) _ | refine Ext.trans ?_ (by assumption)))⟩

set_option maxRecDepth 100000 in
set_option maxHeartbeats 800000 in
theorem shBefore_any (o1 f1 t1 o2 f2 t2 : Int) (w : World) :
    Calls Tryd.prog 55 #[.agg #[.int .i64 o1, .int .i64 f1, .int .i64 t1], .agg #[.int .i64 o2, .int .i64 f2, .int .i64 t2]] w fun e w' => e = .returned (.bool (befB o1 f1 o2 f2)) ∧ Ext w w' := by
  unfold befB
  by_cases h1 : f1 < f2
  · have h1b : decide (f1 < f2) = true := by simpa using h1
    go_enter Tryd.func55, Tryd.ntmps55
    go_wp2_with (fail)
    go_ret
    exact ⟨ret_bool (by first | rfl | simp [h1]), (by repeat (first | exact Ext.refl _ | assumption | refine Ext.alloc ?_ _ | refine Ext.drew ?_ | refine Ext.drewN ?_ _ | refine Ext.setCell ?_ (by first | exact Nat.le_refl _ | (simp; done) | (dsimp only; omega) | (simp only [World.size_alloc, World.size_setCell]; omega)) _ | refine Ext.trans ?_ (by assumption)))⟩
  · have h1b : decide (f1 < f2) = false := by simpa using h1
    by_cases h2 : f1 = f2
    · have h2b : (f1 == f2) = true := by simpa using h2
      have H2 := hid h2
      clear h2
      go_enter Tryd.func55, Tryd.ntmps55
      go_wp2_with (fail)
      all_goals (go_ret; refine ⟨ret_bool ?_, (by repeat (first | exact Ext.refl _ | assumption | refine Ext.alloc ?_ _ | refine Ext.drew ?_ | refine Ext.drewN ?_ _ | refine Ext.setCell ?_ (by first | exact Nat.le_refl _ | (simp; done) | (dsimp only; omega) | (simp only [World.size_alloc, World.size_setCell]; omega)) _ | refine Ext.trans ?_ (by assumption)))⟩)
      all_goals first | rfl | (rw [h1b, h2b]; simp [*])
    · have h2b : (f1 == f2) = false := by simpa using h2
      go_enter Tryd.func55, Tryd.ntmps55
      go_wp2_with (fail)
      go_ret
      exact ⟨ret_bool (by first | rfl | (rw [h1b, h2b]; rfl)), (by repeat (first | exact Ext.refl _ | assumption | refine Ext.alloc ?_ _ | refine Ext.drew ?_ | refine Ext.drewN ?_ _ | refine Ext.setCell ?_ (by first | exact Nat.le_refl _ | (simp; done) | (dsimp only; omega) | (simp only [World.size_alloc, World.size_setCell]; omega)) _ | refine Ext.trans ?_ (by assumption)))⟩

def shOp (z : List Int) (i : Nat) : Int := z.getD (i * 3) 0
def shFr (z : List Int) (i : Nat) : Int := z.getD (i * 3 + 1) 0
def shTo (z : List Int) (i : Nat) : Int := z.getD (i * 3 + 2) 0
/-- shift j is the same operator's and ends behind f -/
def conB (o f : Int) (o2 t2 : Int) : Bool := o2 == o && decide (f < t2)
def conAt (z : List Int) (i j : Nat) : Bool := conB (shOp z i) (shFr z i) (shOp z j) (shTo z j)
def shOne (o f t : Int) : Bool := inR o 1 30 && (decide (0 ≤ f) && decide (f < t) && decide (t ≤ 168))
def shAt (z : List Int) (i : Nat) : Bool := shOne (shOp z i) (shFr z i) (shTo z i) && ((decide (i = 0) || befB (shOp z (i - 1)) (shFr z (i - 1)) (shOp z i) (shFr z i)) && allB (fun j => !conAt z i j) i)
def okSs (z : List Int) (n : Nat) : Bool := decide (n ≤ 60) && allB (shAt z) n

set_option maxRecDepth 100000 in
set_option maxHeartbeats 800000 in
theorem shLit_any (g : Nat) (o f t o2 f2 t2 : Int) (w : World) (s0 : w.cell? ⟨g, 0, none⟩ = some (.int .i64 o)) (s1 : w.cell? ⟨g, 1, none⟩ = some (.int .i64 f)) (hg : g < w.heap.size) :
    Calls Tryd.prog 50 #[.agg #[.int .i64 o2, .int .i64 f2, .int .i64 t2], .pointer (some ⟨g, 0, none⟩)] w fun e w' => e = .returned (.bool (conB o f o2 t2)) ∧ Ext w w' := by
  unfold conB
  by_cases h1 : o2 = o
  · have h1b : (o2 == o) = true := by simpa using h1
    have H1 := hid h1
    clear h1
    rw [h1b]
    go_enter Tryd.func50, Tryd.ntmps50
    go_wp2_with (fail)
    all_goals (go_ret; refine ⟨ret_bool ?_, (by repeat (first | exact Ext.refl _ | assumption | refine Ext.alloc ?_ _ | refine Ext.drew ?_ | refine Ext.drewN ?_ _ | refine Ext.setCell ?_ (by first | exact Nat.le_refl _ | (simp; done) | (dsimp only; omega) | (simp only [World.size_alloc, World.size_setCell]; omega)) _ | refine Ext.trans ?_ (by assumption)))⟩)
    all_goals first | rfl | simp [*]
  · have h1b : (o2 == o) = false := by simpa using h1
    rw [h1b]
    go_enter Tryd.func50, Tryd.ntmps50
    go_wp2_with (fail)
    go_ret
    exact ⟨rfl, (by repeat (first | exact Ext.refl _ | assumption | refine Ext.alloc ?_ _ | refine Ext.drew ?_ | refine Ext.drewN ?_ _ | refine Ext.setCell ?_ (by first | exact Nat.le_refl _ | (simp; done) | (dsimp only; omega) | (simp only [World.size_alloc, World.size_setCell]; omega)) _ | refine Ext.trans ?_ (by assumption)))⟩

set_option maxRecDepth 100000 in
set_option maxHeartbeats 800000 in
theorem shIndex_any (v : Value) (n : Nat) (z : List Int) (g : Nat) (p f : Int) (w : World) (h : IntRow .i64 3 w v n z) (s0 : w.cell? ⟨g, 0, none⟩ = some (.int .i64 p)) (s1 : w.cell? ⟨g, 1, none⟩ = some (.int .i64 f)) (hg : g < w.heap.size) :
    Calls Tryd.prog 64 #[v, .func (.func 50) #[] #[.pointer (some ⟨g, 0, none⟩)]] w fun e w' => e = .returned (.int .i64 (idxOf (fun i => conB p f (shOp z i) (shTo z i)) n)) ∧ Ext w w' := by
  obtain ⟨hl, hm, hwf, a, c, rfl, hnc, hcm, hcell⟩ := h
  unfold maxLen at hm
  clear hwf
  go_enter Tryd.func64, Tryd.ntmps64
  go_wp2_with (fail)
  go_loopw [8] (fun i wr => ∃ (k : Nat), k ≤ n ∧ i = .int .i64 (k : Int) ∧ (∀ j, j < k → conB p f (shOp z j) (shTo z j) = false) ∧ Ext w wr)
    (fun i _ => n - (intOf i).toNat)
  case atStart => exact ⟨0, Nat.zero_le _, rfl, fun j hj => absurd hj (by omega), Ext.refl _⟩
  case round =>
    obtain ⟨k, hk, rfl, hall, hE⟩ := hrel
    have HA := hid hall
    clear hall
    by_cases hlt : k < n
    · obtain ⟨b, o, rfl, hb, hc⟩ := hcell.resolve_left (by omega)
      have r0 : wr.cell? ⟨g, 0, none⟩ = some (.int .i64 p) := by rw [(Ext.cells hE).1 _ _ hg, s0]
      have r1 : wr.cell? ⟨g, 1, none⟩ = some (.int .i64 f) := by rw [(Ext.cells hE).1 _ _ hg, s1]
      have hgr : g < wr.heap.size := Nat.lt_of_lt_of_le hg hE.size
      clear s0 s1
      obtain ⟨x0, hx0⟩ : ∃ x, x = z.getD (k * 3) 0 := ⟨_, rfl⟩
      have s0 : wr.cell? ⟨b, o + k * 3, none⟩ = some (.int .i64 x0) := by rw [(Ext.cells hE).1 _ _ hb, show o + k * 3 = o + (k * 3) by omega, hc _ (by omega), hx0]
      have H0 := hid hx0
      clear hx0
      obtain ⟨x1, hx1⟩ : ∃ x, x = z.getD (k * 3 + 1) 0 := ⟨_, rfl⟩
      have s1 : wr.cell? ⟨b, o + k * 3 + 1, none⟩ = some (.int .i64 x1) := by rw [(Ext.cells hE).1 _ _ hb, show o + k * 3 + 1 = o + (k * 3 + 1) by omega, hc _ (by omega), hx1]
      have H1 := hid hx1
      clear hx1
      obtain ⟨x2, hx2⟩ : ∃ x, x = z.getD (k * 3 + 2) 0 := ⟨_, rfl⟩
      have s2 : wr.cell? ⟨b, o + k * 3 + 2, none⟩ = some (.int .i64 x2) := by rw [(Ext.cells hE).1 _ _ hb, show o + k * 3 + 2 = o + (k * 3 + 2) by omega, hc _ (by omega), hx2]
      have H2 := hid hx2
      clear hx2
      have H := hid (show conB p f (shOp z k) (shTo z k) = conB p f x0 x2 by rw [H0.out, H2.out]; rfl)
      clear hc hcell
      cases hcb : conB p f x0 x2 with
      | false =>
        go_wp2_with (fail)
        refine (shLit_any g p f 0 x0 x1 x2 _ r0 r1 hgr).mono ?_
        rw [hcb]
        rintro e w2 ⟨rfl, hb2⟩
        go_wp2_with (fail)
        go_roundw
        case rel =>
          refine ⟨k + 1, by omega, by go_num, fun j hj => ?_, (by repeat (first | exact Ext.refl _ | assumption | refine Ext.alloc ?_ _ | refine Ext.drew ?_ | refine Ext.drewN ?_ _ | refine Ext.setCell ?_ (by first | exact Nat.le_refl _ | (simp; done) | (dsimp only; omega) | (simp only [World.size_alloc, World.size_setCell]; omega)) _ | refine Ext.trans ?_ (by assumption)))⟩
          by_cases e : j = k
          · subst e
            rw [H.out, hcb]
          · exact HA.out j (by omega)
        case measure => simp [intOf]; omega
      | true =>
        go_wp2_with (fail)
        refine (shLit_any g p f 0 x0 x1 x2 _ r0 r1 hgr).mono ?_
        rw [hcb]
        rintro e w2 ⟨rfl, hb2⟩
        go_wp2_with (fail)
        go_ret
        refine ⟨ret_int ?_, (by repeat (first | exact Ext.refl _ | assumption | refine Ext.alloc ?_ _ | refine Ext.drew ?_ | refine Ext.drewN ?_ _ | refine Ext.setCell ?_ (by first | exact Nat.le_refl _ | (simp; done) | (dsimp only; omega) | (simp only [World.size_alloc, World.size_setCell]; omega)) _ | refine Ext.trans ?_ (by assumption)))⟩
        rw [idxOf_some hlt (by rw [H.out, hcb]) HA.out]
    · obtain rfl : k = n := by omega
      clear hcell
      go_wp2_with (fail)
      go_ret
      exact ⟨ret_int (by rw [idxOf_none HA.out]), hE⟩

set_option maxRecDepth 100000 in
set_option maxHeartbeats 800000 in
theorem shContains_any (v : Value) (n : Nat) (z : List Int) (g : Nat) (p f : Int) (w : World) (h : IntRow .i64 3 w v n z) (s0 : w.cell? ⟨g, 0, none⟩ = some (.int .i64 p)) (s1 : w.cell? ⟨g, 1, none⟩ = some (.int .i64 f)) (hg : g < w.heap.size) :
    Calls Tryd.prog 49 #[v, .func (.func 50) #[] #[.pointer (some ⟨g, 0, none⟩)]] w fun e w' => e = .returned (.bool (!allB (fun i => !conB p f (shOp z i) (shTo z i)) n)) ∧ Ext w w' := by
  have e := idxOf_ge (fun i => conB p f (shOp z i) (shTo z i)) n
  have E := hid e
  clear e
  go_enter Tryd.func49, Tryd.ntmps49
  go_wp2_with (fail)
  refine (shIndex_any _ n z g p f _ h s0 s1 hg).mono ?_
  rintro e w2 ⟨rfl, hb2⟩
  go_wp2_with (fail)
  all_goals (go_ret; refine ⟨ret_bool ?_, hb2⟩)
  all_goals (rw [← E.out] <;> simp [*])

/-- the first i elements of a slice -/
theorem row_take {w : World} {b o n c i : Nat} {z : List Int} {k : Nat} (hl : z.length = n * k) (hwf : ∀ x ∈ z, (Lit.int .i64 x).wf = true) (hi : i ≤ n) (hnc : n ≤ c) (hcm : c ≤ maxLen) (hb : b < w.heap.size)
    (hc : ∀ j, j < n * k → w.cell? ⟨b, o + j, none⟩ = some (.int .i64 (z.getD j 0))) : IntRow .i64 k w (.slice (some ⟨b, o, none⟩) i c) i (z.take (i * k)) := by
  have hik : i * k ≤ n * k := Nat.mul_le_mul_right k hi
  refine ⟨by rw [List.length_take]; omega, by omega, fun x hx => hwf x (List.mem_of_mem_take hx), some ⟨b, o, none⟩, c, rfl, by omega, hcm, .inr ⟨b, o, rfl, hb, fun j hj => ?_⟩⟩
  rw [hc j (by omega)]
  simp only [List.getD_eq_getElem?_getD, List.getElem?_take, if_pos hj]
theorem take_at {z : List Int} {i j : Nat} (hj : j < i) : shOp (z.take (i * 3)) j = shOp z j ∧ shFr (z.take (i * 3)) j = shFr z j ∧ shTo (z.take (i * 3)) j = shTo z j := by
  unfold shOp shFr shTo
  simp only [List.getD_eq_getElem?_getD, List.getElem?_take]
  rw [if_pos (by omega), if_pos (by omega), if_pos (by omega)]
  exact ⟨rfl, rfl, rfl⟩
theorem allB_congr {P Q : Nat → Bool} {n : Nat} (h : ∀ j, j < n → P j = Q j) : allB P n = allB Q n := by
  rw [Bool.eq_iff_iff]
  exact ⟨fun hp => allB_t fun j hj => by rw [← h j hj]; exact allB_get hp j hj, fun hq => allB_t fun j hj => by rw [h j hj]; exact allB_get hq j hj⟩
end Go.Proofs.YtedkffdkhnfoiaaDoor
