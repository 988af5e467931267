/- Contracts that the law of held packets asks: clear links, foggy links, valid fogs, lists compared. No condition. All that the law of held packets asks of its three questions, by letters. No condition. The law of held packets: they arrive as jobs do, nights lie on all links, the greatest count arrives in time and one more does not. No condition. -/
import Derived.Test.YtjmbhlhkjjinbaaPkH
import Derived.Test.YtjmbhlhkjjinbaaPkB
import Derived.Maps.RangeWalk
namespace Go.Proofs.Ytjmbhlhkjjinbaa
open Go.RowKit
set_option linter.unusedSimpArgs false
set_option linter.unusedVariables false

set_option maxRecDepth 100000 in
set_option maxHeartbeats 600000 in
theorem sameInts_same (v v' : Value) (n : Nat) (z : List Int) (w : World) (h : IntRow .i64 1 w v n z) (h' : IntRow .i64 1 w v' n z) :
    Calls Try.prog 8 #[v, v'] w fun e w' => e = .returned (.bool true) ∧ Ext w w' := by
  obtain ⟨hl, hm, hwf, a, c, rfl, hnc, hcm, hcell⟩ := h
  obtain ⟨_, _, _, a', c', rfl, hnc', hcm', hcell'⟩ := h'
  unfold maxLen at hm
  go_enter Try.func8, Try.ntmps8
  go_wp2_with (fail)
  go_loopw [13] (fun i wr => ∃ (k : Nat), k ≤ n ∧ i = .int .i64 (k : Int) ∧ Ext w wr)
    (fun i _ => n - (intOf i).toNat)
  case atStart => exact ⟨0, Nat.zero_le _, rfl, Ext.refl _⟩
  case round =>
    obtain ⟨k, hk, rfl, hE⟩ := hrel
    by_cases hlt : k < n
    · have hne : ¬ n = 0 := by omega
      obtain ⟨b, o, rfl, hb, hc⟩ := hcell.resolve_left hne
      obtain ⟨b', o', rfl, hb', hc'⟩ := hcell'.resolve_left hne
      obtain ⟨x0, hx0⟩ : ∃ x, x = z.getD (k * 1) 0 := ⟨_, rfl⟩
      have s0 : wr.cell? ⟨b, o + k, none⟩ = some (.int .i64 x0) := by rw [(Ext.cells hE).1 _ _ hb, show o + k = o + (k * 1) by omega, hc _ (by omega), hx0]
      have r0 : wr.cell? ⟨b', o' + k, none⟩ = some (.int .i64 x0) := by rw [(Ext.cells hE).1 _ _ hb', show o' + k = o' + (k * 1) by omega, hc' _ (by omega), hx0]
      clear hx0 hc hcell hc' hcell'
      go_wp2_with (fail)
      go_quiet (fail)
      go_wp2_with (fail)
      go_roundw
      case rel => exact ⟨k + 1, by omega, by go_num, (by repeat (first | exact Ext.refl _ | assumption | refine Ext.alloc ?_ _ | refine Ext.drew ?_ | refine Ext.drewN ?_ _ | refine Ext.setCell ?_ (by first | exact Nat.le_refl _ | (simp; done) | (dsimp only; omega) | (simp only [World.size_alloc, World.size_setCell]; omega)) _ | refine Ext.trans ?_ (by assumption)))⟩
      case measure => simp [intOf]; omega
    · obtain rfl : k = n := by omega
      clear hcell hcell'
      go_wp2_with (fail)
      go_ret
      exact ⟨rfl, hE⟩

set_option maxRecDepth 100000 in
set_option maxHeartbeats 1000000 in
theorem big_any (v0 : Value) (n0 : Nat) (z0 : List Int) (v1 : Value) (n1 : Nat) (z1 : List Int) (w : World) (r0 : IntRow .u8 1 w v0 n0 z0) (r1 : IntRow .u8 1 w v1 n1 z1) :
    Calls Try.prog 4 #[v0, v1] w fun e w' => ∃ b : Bool, e = .returned (.bool b) ∧ (b = false → n0 ≤ 1048576 ∧ n1 ≤ 1048576) ∧ w = w' := by
  obtain ⟨_, hm0, _, a0, c0, rfl, hnc0, hcm0, _⟩ := r0
  obtain ⟨_, hm1, _, a1, c1, rfl, hnc1, hcm1, _⟩ := r1
  by_cases h0 : n0 > 1048576
  · have t0 : decide ((1048576 : Int) < n0) = true := by simp; omega
    have t0' : decide (1048576 < n0) = true := by simp; omega
    go_enter Try.func4, Try.ntmps4
    go_wp2_with (fail)
    go_ret
    exact ⟨true, rfl, by simp, rfl⟩
  · have t0 : decide ((1048576 : Int) < n0) = false := by simp; omega
    have t0' : decide (1048576 < n0) = false := by simp; omega
    by_cases h1 : n1 > 1048576 - n0
    · have t1 : decide ((1048576 : Int) - n0 < n1) = true := by simp; omega
      go_enter Try.func4, Try.ntmps4
      go_wp2_with (fail)
      go_ret
      exact ⟨true, rfl, by simp, rfl⟩
    · have t1 : decide ((1048576 : Int) - n0 < n1) = false := by simp; omega
      go_enter Try.func4, Try.ntmps4
      go_wp2_with (fail)
      go_ret
      exact ⟨false, rfl, by omega, rfl⟩

/-- a box of two slices -/
def NBx (w : World) (b : Nat) (x y : Value) : Prop := w.cell? ⟨b, 0, none⟩ = some x ∧ w.cell? ⟨b, 1, none⟩ = some y ∧ True ∧ True ∧ b < w.heap.size
theorem NBx.ext {w w' : World} {b : Nat} {x y : Value} (h : NBx w b x y) (e : Ext w w') : NBx w' b x y := by
  obtain ⟨h1, h2, _, _, h3⟩ := h
  exact ⟨((Ext.cells e).1 _ _ h3).trans h1, ((Ext.cells e).1 _ _ h3).trans h2, trivial, trivial, Nat.lt_of_lt_of_le h3 e.size⟩
theorem NBx.new (w : World) (x y : Value) : NBx (w.alloc (.cells #[x, y] 27)) w.heap.size x y := ⟨by simp, by simp, trivial, trivial, by simp⟩
/-- a cell's content -/
def CellAt (w : World) (b o : Nat) (v : Value) : Prop := w.cell? ⟨b, o, none⟩ = some v ∧ b < w.heap.size
theorem CellAt.ext {w w' : World} {b o : Nat} {v : Value} (h : CellAt w b o v) (e : Ext w w') : CellAt w' b o v := ⟨((Ext.cells e).1 _ _ h.2).trans h.1, Nat.lt_of_lt_of_le h.2 e.size⟩
theorem NetRow.shape {w : World} {v : Value} {nT nL : Nat} {zT zL : List Int} (h : NetRow w v nT zT nL zL) : ∃ aT cT aL cL, v = .agg #[.slice aT nT cT, .slice aL nL cL] := by
  obtain ⟨vT, vL, rfl, hT, hL⟩ := h
  obtain ⟨aT, cT, rfl⟩ : ∃ a c, vT = .slice a nT c := by obtain ⟨_, _, _, a, c, rfl, _⟩ := hT; exact ⟨a, c, rfl⟩
  obtain ⟨aL, cL, rfl⟩ : ∃ a c, vL = .slice a nL c := by obtain ⟨_, _, _, a, c, rfl, _⟩ := hL; exact ⟨a, c, rfl⟩
  exact ⟨aT, cT, aL, cL, rfl⟩
theorem introw_sl {kd : IntKind} {s : Nat} {w : World} {v : Value} {n : Nat} {z : List Int} (h : IntRow kd s w v n z) : ∃ a c, v = .slice a n c := by
  obtain ⟨_, _, _, a, c, rfl, _⟩ := h
  exact ⟨a, c, rfl⟩

set_option maxRecDepth 100000 in
set_option maxHeartbeats 600000 in
theorem pSameFogs_same (v v' : Value) (n : Nat) (z : List Int) (w : World) (h : IntRow .i64 3 w v n z) (h' : IntRow .i64 3 w v' n z) :
    Calls Try.prog 13 #[v, v'] w fun e w' => e = .returned (.bool true) ∧ Ext w w' := by
  obtain ⟨hl, hm, hwf, a, c, rfl, hnc, hcm, hcell⟩ := h
  obtain ⟨_, _, _, a', c', rfl, hnc', hcm', hcell'⟩ := h'
  unfold maxLen at hm
  go_enter Try.func13, Try.ntmps13
  go_wp2_with (fail)
  go_loopw [13] (fun i wr => ∃ (k : Nat), k ≤ n ∧ i = .int .i64 (k : Int) ∧ Ext w wr)
    (fun i _ => n - (intOf i).toNat)
  case atStart => exact ⟨0, Nat.zero_le _, rfl, Ext.refl _⟩
  case round =>
    obtain ⟨k, hk, rfl, hE⟩ := hrel
    by_cases hlt : k < n
    · have hne : ¬ n = 0 := by omega
      obtain ⟨b, o, rfl, hb, hc⟩ := hcell.resolve_left hne
      obtain ⟨b', o', rfl, hb', hc'⟩ := hcell'.resolve_left hne
      obtain ⟨x0, hx0⟩ : ∃ x, x = z.getD (k * 3) 0 := ⟨_, rfl⟩
      have s0 : wr.cell? ⟨b, o + k * 3, none⟩ = some (.int .i64 x0) := by rw [(Ext.cells hE).1 _ _ hb, show o + k * 3 = o + (k * 3) by omega, hc _ (by omega), hx0]
      have r0 : wr.cell? ⟨b', o' + k * 3, none⟩ = some (.int .i64 x0) := by rw [(Ext.cells hE).1 _ _ hb', show o' + k * 3 = o' + (k * 3) by omega, hc' _ (by omega), hx0]
      obtain ⟨x1, hx1⟩ : ∃ x, x = z.getD (k * 3 + 1) 0 := ⟨_, rfl⟩
      have s1 : wr.cell? ⟨b, o + k * 3 + 1, none⟩ = some (.int .i64 x1) := by rw [(Ext.cells hE).1 _ _ hb, show o + k * 3 + 1 = o + (k * 3 + 1) by omega, hc _ (by omega), hx1]
      have r1 : wr.cell? ⟨b', o' + k * 3 + 1, none⟩ = some (.int .i64 x1) := by rw [(Ext.cells hE).1 _ _ hb', show o' + k * 3 + 1 = o' + (k * 3 + 1) by omega, hc' _ (by omega), hx1]
      obtain ⟨x2, hx2⟩ : ∃ x, x = z.getD (k * 3 + 2) 0 := ⟨_, rfl⟩
      have s2 : wr.cell? ⟨b, o + k * 3 + 2, none⟩ = some (.int .i64 x2) := by rw [(Ext.cells hE).1 _ _ hb, show o + k * 3 + 2 = o + (k * 3 + 2) by omega, hc _ (by omega), hx2]
      have r2 : wr.cell? ⟨b', o' + k * 3 + 2, none⟩ = some (.int .i64 x2) := by rw [(Ext.cells hE).1 _ _ hb', show o' + k * 3 + 2 = o' + (k * 3 + 2) by omega, hc' _ (by omega), hx2]
      clear hx0 hx1 hx2 hc hcell hc' hcell'
      go_wp2_with (fail)
      go_quiet (fail)
      go_wp2_with (fail)
      go_roundw
      case rel => exact ⟨k + 1, by omega, by go_num, (by repeat (first | exact Ext.refl _ | assumption | refine Ext.alloc ?_ _ | refine Ext.drew ?_ | refine Ext.drewN ?_ _ | refine Ext.setCell ?_ (by first | exact Nat.le_refl _ | (simp; done) | (dsimp only; omega) | (simp only [World.size_alloc, World.size_setCell]; omega)) _ | refine Ext.trans ?_ (by assumption)))⟩
      case measure => simp [intOf]; omega
    · obtain rfl : k = n := by omega
      clear hcell hcell'
      go_wp2_with (fail)
      go_ret
      exact ⟨rfl, hE⟩



/-- fog j of z lies on a link in second t -/
def covB (z : List Int) (link t : Int) (j : Nat) : Bool := decide (f3a z j = link) && (decide (f3b z j ≤ t) && decide (t < f3c z j))
set_option maxRecDepth 100000 in
set_option maxHeartbeats 600000 in
theorem covLit_any (x0 x1 x2 link t : Int) (b4 b5 : Nat) (w : World) (h4 : w.cell? ⟨b4, 0, none⟩ = some (.int .i64 link)) (h5 : w.cell? ⟨b5, 0, none⟩ = some (.int .i64 t)) (l4 : b4 < w.heap.size) (l5 : b5 < w.heap.size) :
    Calls Try.prog 71 #[.agg #[.int .i64 x0, .int .i64 x1, .int .i64 x2], .pointer (some ⟨b4, 0, none⟩), .pointer (some ⟨b5, 0, none⟩)] w fun e w' => e = .returned (.bool (decide (x0 = link) && (decide (x1 ≤ t) && decide (t < x2)))) ∧ Ext w w' := by
  have hE : Ext w (w.alloc (.cells #[.int .i64 x0, .int .i64 x1, .int .i64 x2] 78)) := (Ext.refl w).alloc _
  have k4 := ((Ext.cells hE).1 b4 0 l4).trans h4
  have k5 := ((Ext.cells hE).1 b5 0 l5).trans h5
  by_cases c0 : x0 = link
  · have d0 : decide (x0 = link) = true := by simpa using c0
    have d0' : (x0 == link) = true := by simpa using c0
    by_cases c1 : x1 ≤ t
    · have d1 : decide (x1 ≤ t) = true := by simpa using c1
      by_cases c2 : t < x2
      · have d2 : decide (t < x2) = true := by simpa using c2
        have HV := hid (show (decide (x0 = link) && (decide (x1 ≤ t) && decide (t < x2))) = true by rw [d0, d1, d2]; rfl)
        clear c0 c1 c2 hE
        obtain ⟨R, hR⟩ : ∃ R, R = (decide (x0 = link) && (decide (x1 ≤ t) && decide (t < x2))) := ⟨_, rfl⟩
        rw [← hR] at HV ⊢
        clear hR
        go_enter Try.func71, Try.ntmps71
        go_wp2_with (fail)
        go_ret
        exact ⟨ret_bool (by rw [HV.out]), (by repeat (first | exact Ext.refl _ | assumption | refine Ext.alloc ?_ _ | refine Ext.drew ?_ | refine Ext.drewN ?_ _ | refine Ext.setCell ?_ (by first | exact Nat.le_refl _ | (simp; done) | (dsimp only; omega) | (simp only [World.size_alloc, World.size_setCell]; omega)) _ | refine Ext.trans ?_ (by assumption)))⟩
      · have d2 : decide (t < x2) = false := by simpa using c2
        have HV := hid (show (decide (x0 = link) && (decide (x1 ≤ t) && decide (t < x2))) = false by rw [d0, d1, d2]; rfl)
        clear c0 c1 c2 hE
        obtain ⟨R, hR⟩ : ∃ R, R = (decide (x0 = link) && (decide (x1 ≤ t) && decide (t < x2))) := ⟨_, rfl⟩
        rw [← hR] at HV ⊢
        clear hR
        go_enter Try.func71, Try.ntmps71
        go_wp2_with (fail)
        go_ret
        exact ⟨ret_bool (by rw [HV.out]), (by repeat (first | exact Ext.refl _ | assumption | refine Ext.alloc ?_ _ | refine Ext.drew ?_ | refine Ext.drewN ?_ _ | refine Ext.setCell ?_ (by first | exact Nat.le_refl _ | (simp; done) | (dsimp only; omega) | (simp only [World.size_alloc, World.size_setCell]; omega)) _ | refine Ext.trans ?_ (by assumption)))⟩
    · have d1 : decide (x1 ≤ t) = false := by simpa using c1
      have HV := hid (show (decide (x0 = link) && (decide (x1 ≤ t) && decide (t < x2))) = false by rw [d0, d1]; rfl)
      clear c0 c1 hE
      obtain ⟨R, hR⟩ : ∃ R, R = (decide (x0 = link) && (decide (x1 ≤ t) && decide (t < x2))) := ⟨_, rfl⟩
      rw [← hR] at HV ⊢
      clear hR
      go_enter Try.func71, Try.ntmps71
      go_wp2_with (fail)
      go_ret
      exact ⟨ret_bool (by rw [HV.out]), (by repeat (first | exact Ext.refl _ | assumption | refine Ext.alloc ?_ _ | refine Ext.drew ?_ | refine Ext.drewN ?_ _ | refine Ext.setCell ?_ (by first | exact Nat.le_refl _ | (simp; done) | (dsimp only; omega) | (simp only [World.size_alloc, World.size_setCell]; omega)) _ | refine Ext.trans ?_ (by assumption)))⟩
  · have d0 : decide (x0 = link) = false := by simpa using c0
    have d0' : (x0 == link) = false := by simpa using c0
    have HV := hid (show (decide (x0 = link) && (decide (x1 ≤ t) && decide (t < x2))) = false by rw [d0]; rfl)
    clear c0 hE
    obtain ⟨R, hR⟩ : ∃ R, R = (decide (x0 = link) && (decide (x1 ≤ t) && decide (t < x2))) := ⟨_, rfl⟩
    rw [← hR] at HV ⊢
    clear hR
    go_enter Try.func71, Try.ntmps71
    go_wp2_with (fail)
    go_ret
    exact ⟨ret_bool (by rw [HV.out]), (by repeat (first | exact Ext.refl _ | assumption | refine Ext.alloc ?_ _ | refine Ext.drew ?_ | refine Ext.drewN ?_ _ | refine Ext.setCell ?_ (by first | exact Nat.le_refl _ | (simp; done) | (dsimp only; omega) | (simp only [World.size_alloc, World.size_setCell]; omega)) _ | refine Ext.trans ?_ (by assumption)))⟩


set_option maxRecDepth 100000 in
set_option maxHeartbeats 1000000 in
theorem covIndex_any (v : Value) (n : Nat) (z : List Int) (link t : Int) (b4 b5 : Nat) (w : World) (h : IntRow .i64 3 w v n z) (h4 : w.cell? ⟨b4, 0, none⟩ = some (.int .i64 link)) (h5 : w.cell? ⟨b5, 0, none⟩ = some (.int .i64 t)) (l4 : b4 < w.heap.size) (l5 : b5 < w.heap.size) :
    Calls Try.prog 82 #[v, .func (.func 71) #[] #[.pointer (some ⟨b4, 0, none⟩), .pointer (some ⟨b5, 0, none⟩)]] w fun e w' => e = .returned (.int .i64 (idxOf (covB z link t) n)) ∧ Ext w w' := by
  obtain ⟨hl, hm, hwf, a, c, rfl, hnc, hcm, hcell⟩ := h
  unfold maxLen at hm
  have HWF := hid hwf
  clear hwf
  have H4 := hid h4
  have H5 := hid h5
  clear h4 h5
  go_enter Try.func82, Try.ntmps82
  go_wp2_with (fail)
  go_loopw [8] (fun i wr => ∃ (k : Nat), k ≤ n ∧ i = .int .i64 (k : Int) ∧ (∀ j, j < k → covB z link t j = false) ∧ Ext w wr)
    (fun i _ => n - (intOf i).toNat)
  case atStart => exact ⟨0, Nat.zero_le _, rfl, fun j hj => absurd hj (by omega), Ext.refl _⟩
  case round =>
    obtain ⟨k, hk, rfl, hall, hE⟩ := hrel
    have HA := hid hall
    clear hall
    by_cases hlt : k < n
    · obtain ⟨b, o, rfl, hb, hc⟩ := hcell.resolve_left (by omega)
      obtain ⟨x0, hx0⟩ : ∃ x, x = z.getD (k * 3) 0 := ⟨_, rfl⟩
      have s0 : wr.cell? ⟨b, o + k * 3, none⟩ = some (.int .i64 x0) := by rw [(Ext.cells hE).1 _ _ hb, show o + k * 3 = o + (k * 3) by omega, hc _ (by omega), hx0]
      have H0 := hid hx0
      clear hx0
      obtain ⟨x1, hx1⟩ : ∃ x, x = z.getD (k * 3 + 1) 0 := ⟨_, rfl⟩
      have s1 : wr.cell? ⟨b, o + k * 3 + 1, none⟩ = some (.int .i64 x1) := by rw [(Ext.cells hE).1 _ _ hb, show o + k * 3 + 1 = o + (k * 3 + 1) by omega, hc _ (by omega), hx1]
      have H1 := hid hx1
      clear hx1
      obtain ⟨x2, hx2⟩ : ∃ x, x = z.getD (k * 3 + 2) 0 := ⟨_, rfl⟩
      have s2 : wr.cell? ⟨b, o + k * 3 + 2, none⟩ = some (.int .i64 x2) := by rw [(Ext.cells hE).1 _ _ hb, show o + k * 3 + 2 = o + (k * 3 + 2) by omega, hc _ (by omega), hx2]
      have H2 := hid hx2
      clear hx2
      have H := hid (show covB z link t k = (decide (x0 = link) && (decide (x1 ≤ t) && decide (t < x2))) by rw [H0.out, H1.out, H2.out]; rfl)
      clear hc hcell
      obtain ⟨R, hR⟩ : ∃ R, R = (decide (x0 = link) && (decide (x1 ≤ t) && decide (t < x2))) := ⟨_, rfl⟩
      have HR := hid hR
      clear hR
      have e4 := ((Ext.cells hE).1 b4 0 l4).trans H4.out
      have e5 := ((Ext.cells hE).1 b5 0 l5).trans H5.out
      have E4 := hid e4
      have E5 := hid e5
      clear e4 e5
      cases hj : R with
      | false =>
        have HJ := hid hj
        clear hj
        go_wp2_with (fail)
        refine (covLit_any x0 x1 x2 link t b4 b5 _ E4.out E5.out (Nat.lt_of_lt_of_le l4 hE.size) (Nat.lt_of_lt_of_le l5 hE.size)).mono ?_
        rw [← HR.out, HJ.out]
        rintro e w2 ⟨rfl, hb2⟩
        go_wp2_with (fail)
        go_roundw
        case rel =>
          refine ⟨k + 1, by omega, by go_num, fun j hjk => ?_, (by repeat (first | exact Ext.refl _ | assumption | refine Ext.alloc ?_ _ | refine Ext.drew ?_ | refine Ext.drewN ?_ _ | refine Ext.setCell ?_ (by first | exact Nat.le_refl _ | (simp; done) | (dsimp only; omega) | (simp only [World.size_alloc, World.size_setCell]; omega)) _ | refine Ext.trans ?_ (by assumption)))⟩
          by_cases e : j = k
          · subst e
            rw [H.out, ← HR.out, HJ.out]
          · exact HA.out j (by omega)
        case measure => simp [intOf]; omega
      | true =>
        have HJ := hid hj
        clear hj
        go_wp2_with (fail)
        refine (covLit_any x0 x1 x2 link t b4 b5 _ E4.out E5.out (Nat.lt_of_lt_of_le l4 hE.size) (Nat.lt_of_lt_of_le l5 hE.size)).mono ?_
        rw [← HR.out, HJ.out]
        rintro e w2 ⟨rfl, hb2⟩
        go_wp2_with (fail)
        go_ret
        refine ⟨ret_int ?_, (by repeat (first | exact Ext.refl _ | assumption | refine Ext.alloc ?_ _ | refine Ext.drew ?_ | refine Ext.drewN ?_ _ | refine Ext.setCell ?_ (by first | exact Nat.le_refl _ | (simp; done) | (dsimp only; omega) | (simp only [World.size_alloc, World.size_setCell]; omega)) _ | refine Ext.trans ?_ (by assumption)))⟩
        rw [idxOf_some hlt (by rw [H.out, ← HR.out, HJ.out]) HA.out]
    · obtain rfl : k = n := by omega
      clear hcell
      go_wp2_with (fail)
      go_ret
      exact ⟨ret_int (by rw [idxOf_none HA.out]), (by repeat (first | exact Ext.refl _ | assumption | refine Ext.alloc ?_ _ | refine Ext.drew ?_ | refine Ext.drewN ?_ _ | refine Ext.setCell ?_ (by first | exact Nat.le_refl _ | (simp; done) | (dsimp only; omega) | (simp only [World.size_alloc, World.size_setCell]; omega)) _ | refine Ext.trans ?_ (by assumption)))⟩

set_option maxRecDepth 100000 in
set_option maxHeartbeats 400000 in
theorem isClear_any (v : Value) (n : Nat) (z : List Int) (link t : Int) (w : World) (h : IntRow .i64 3 w v n z) :
    Calls Try.prog 43 #[v, .int .i64 link, .int .i64 t] w fun e w' => e = .returned (.bool (allB (fun j => !covB z link t j) n)) ∧ Ext w w' := by
  have hh := h
  obtain ⟨a, c, rfl⟩ := introw_sl h
  clear h
  have hcon : ∀ (b4 b5 : Nat) (w : World), IntRow .i64 3 w (.slice a n c) n z → w.cell? ⟨b4, 0, none⟩ = some (.int .i64 link) → w.cell? ⟨b5, 0, none⟩ = some (.int .i64 t) → b4 < w.heap.size → b5 < w.heap.size → Calls Try.prog 70 #[.slice a n c, .func (.func 71) #[] #[.pointer (some ⟨b4, 0, none⟩), .pointer (some ⟨b5, 0, none⟩)]] w fun e w' => e = .returned (.bool (!allB (fun j => !covB z link t j) n)) ∧ Ext w w' := by
    intro b4 b5 w hr h4 h5 l4 l5
    go_enter Try.func70, Try.ntmps70
    go_wp2_with (fail)
    refine (covIndex_any _ n z link t b4 b5 _ hr h4 h5 l4 l5).mono ?_
    rintro e w2 ⟨rfl, hb2⟩
    go_wp2_with (fail)
    all_goals (go_ret; refine ⟨ret_bool ?_, hb2⟩)
    all_goals
      have e := idxOf_ge (covB z link t) n
      first | exact e | (rw [← e]; simp [*])
  go_enter Try.func43, Try.ntmps43
  go_wp2_with (fail)
  refine (hcon _ _ _ (hh.ext (by repeat (first | exact Ext.refl _ | assumption | refine Ext.alloc ?_ _ | refine Ext.drew ?_ | refine Ext.drewN ?_ _ | refine Ext.setCell ?_ (by first | exact Nat.le_refl _ | (simp; done) | (dsimp only; omega) | (simp only [World.size_alloc, World.size_setCell]; omega)) _ | refine Ext.trans ?_ (by assumption)))) (by simp) (by simp) (by simp <;> omega) (by simp <;> omega)).mono ?_
  rintro e w2 ⟨rfl, hb2⟩
  go_wp2_with (fail)
  go_ret
  exact ⟨ret_bool (by simp), (by repeat (first | exact Ext.refl _ | assumption | refine Ext.alloc ?_ _ | refine Ext.drew ?_ | refine Ext.drewN ?_ _ | refine Ext.setCell ?_ (by first | exact Nat.le_refl _ | (simp; done) | (dsimp only; omega) | (simp only [World.size_alloc, World.size_setCell]; omega)) _ | refine Ext.trans ?_ (by assumption)))⟩


set_option maxRecDepth 100000 in
set_option maxHeartbeats 400000 in
theorem iAreFogs_true (v : Value) (nT : Nat) (zT : List Int) (nL : Nat) (zL : List Int) (u : Value) (n : Nat) (z : List Int) (w : World) (h : NetRow w v nT zT nL zL) (hu : IntRow .i64 3 w u n z) (hk : okNet nT zT nL zL = true) (hf : okFg nL z n = true) :
    Calls Try.prog 14 #[v, u] w fun e w' => e = .returned (.tuple #[.bool true, .bool true]) ∧ Ext w w' := by
  have h0 := h
  obtain ⟨aT, cT, aL, cL, rfl⟩ := h.shape
  obtain ⟨aF, cF, rfl⟩ := introw_sl hu
  clear h
  have HK := hid hk
  have HF := hid hf
  have H0 := hid h0
  have HU := hid hu
  clear hk hf h0 hu
  go_enter Try.func14, Try.ntmps14
  go_wp2_with (fail)
  go_wp2_with (fail)
  refine (iIsNet_any _ nT zT nL zL _ (H0.out.ext (by repeat (first | exact Ext.refl _ | assumption | refine Ext.alloc ?_ _ | refine Ext.drew ?_ | refine Ext.drewN ?_ _ | refine Ext.setCell ?_ (by first | exact Nat.le_refl _ | (simp; done) | (dsimp only; omega) | (simp only [World.size_alloc, World.size_setCell]; omega)) _ | refine Ext.trans ?_ (by assumption))))).mono ?_
  rintro e w1 ⟨rfl, hb1⟩
  have hz1 := Ext.size hb1
  try simp only [World.size_alloc, World.size_setCell] at hz1
  obtain ⟨hc1, hf1⟩ := Ext.cells hb1
  try have hk1_0_0 := fun o => hc1 (w.heap.size) o (by (try simp only [World.size_alloc, World.size_setCell]); omega)
  try have hj1_0_0 := fun o => hf1 (w.heap.size) o (by (try simp only [World.size_alloc, World.size_setCell]); omega)
  try have hy1_0_0 : w.heap.size < w1.heap.size := by omega
  try have hk1_0_1 := fun o => hc1 (w.heap.size + 1) o (by (try simp only [World.size_alloc, World.size_setCell]); omega)
  try have hj1_0_1 := fun o => hf1 (w.heap.size + 1) o (by (try simp only [World.size_alloc, World.size_setCell]); omega)
  try have hy1_0_1 : w.heap.size + 1 < w1.heap.size := by omega
  try have hk1_0_2 := fun o => hc1 (w.heap.size + 1 + 1) o (by (try simp only [World.size_alloc, World.size_setCell]); omega)
  try have hj1_0_2 := fun o => hf1 (w.heap.size + 1 + 1) o (by (try simp only [World.size_alloc, World.size_setCell]); omega)
  try have hy1_0_2 : w.heap.size + 1 + 1 < w1.heap.size := by omega
  clear hc1 hf1
  rw [HK.out]
  go_wp2_with (fail)
  refine (areFogs_any _ nT zT nL zL _ n z _ (H0.out.ext (by repeat (first | exact Ext.refl _ | assumption | refine Ext.alloc ?_ _ | refine Ext.drew ?_ | refine Ext.drewN ?_ _ | refine Ext.setCell ?_ (by first | exact Nat.le_refl _ | (simp; done) | (dsimp only; omega) | (simp only [World.size_alloc, World.size_setCell]; omega)) _ | refine Ext.trans ?_ (by assumption)))) (HU.out.ext (by repeat (first | exact Ext.refl _ | assumption | refine Ext.alloc ?_ _ | refine Ext.drew ?_ | refine Ext.drewN ?_ _ | refine Ext.setCell ?_ (by first | exact Nat.le_refl _ | (simp; done) | (dsimp only; omega) | (simp only [World.size_alloc, World.size_setCell]; omega)) _ | refine Ext.trans ?_ (by assumption))))).mono ?_
  rw [HF.out]
  rintro e w2 ⟨rfl, hb2⟩
  go_wp2_with (fail)
  go_returns
  exact ⟨rfl, (by repeat (first | exact Ext.refl _ | assumption | refine Ext.alloc ?_ _ | refine Ext.drew ?_ | refine Ext.drewN ?_ _ | refine Ext.setCell ?_ (by first | exact Nat.le_refl _ | (simp; done) | (dsimp only; omega) | (simp only [World.size_alloc, World.size_setCell]; omega)) _ | refine Ext.trans ?_ (by assumption)))⟩

set_option maxRecDepth 100000 in
set_option maxHeartbeats 1000000 in
theorem iFoggyLinks_all (v : Value) (nT : Nat) (zT : List Int) (nL : Nat) (zL : List Int) (u : Value) (n : Nat) (z : List Int) (t : Int) (w : World) (h : NetRow w v nT zT nL zL) (hu : IntRow .i64 3 w u n z) (hk : okNet nT zT nL zL = true) (hf : okFg nL z n = true) (ht : inR t 0 10000 = true) (hall : ∀ k, k < nL → allB (fun j => !covB z (k : Int) t j) n = false) :
    Calls Try.prog 15 #[v, u, .int .i64 t] w fun e w' => ∃ a c, e = .returned (.tuple #[.slice a nL c, .bool true]) ∧ Ext w w' := by
  obtain ⟨i0, hi, hz0, hz1, hz2⟩ := info_parts info_IntK
  have h0 := h
  obtain ⟨aT, cT, aL, cL, rfl⟩ := h.shape
  obtain ⟨aF, cF, rfl⟩ := introw_sl hu
  clear h
  have HK := hid hk
  have HF := hid hf
  have H0 := hid h0
  have HU := hid hu
  have HT := hid ht
  have HALL := hid hall
  have hnL := (okNet_iff hk).2.1
  clear hk hf h0 hu ht hall
  go_enter Try.func15, Try.ntmps15
  go_wp2_with (fail)
  have N9 := NBx.new w (.slice aT nT cT) (.slice aL nL cL)
  refine (iIsNet_any _ nT zT nL zL _ (H0.out.ext (by repeat (first | exact Ext.refl _ | assumption | refine Ext.alloc ?_ _ | refine Ext.drew ?_ | refine Ext.drewN ?_ _ | refine Ext.setCell ?_ (by first | exact Nat.le_refl _ | (simp; done) | (dsimp only; omega) | (simp only [World.size_alloc, World.size_setCell]; omega)) _ | refine Ext.trans ?_ (by assumption))))).mono ?_
  rintro e w1 ⟨rfl, hb1⟩
  replace N9 := hid (N9.ext hb1)
  obtain ⟨n0, n1, _, _, n3⟩ := N9.out
  rw [HK.out]
  go_wp2_with (fail)
  refine (areFogs_any _ nT zT nL zL _ n z _ (H0.out.ext (by repeat (first | exact Ext.refl _ | assumption | refine Ext.alloc ?_ _ | refine Ext.drew ?_ | refine Ext.drewN ?_ _ | refine Ext.setCell ?_ (by first | exact Nat.le_refl _ | (simp; done) | (dsimp only; omega) | (simp only [World.size_alloc, World.size_setCell]; omega)) _ | refine Ext.trans ?_ (by assumption)))) (HU.out.ext (by repeat (first | exact Ext.refl _ | assumption | refine Ext.alloc ?_ _ | refine Ext.drew ?_ | refine Ext.drewN ?_ _ | refine Ext.setCell ?_ (by first | exact Nat.le_refl _ | (simp; done) | (dsimp only; omega) | (simp only [World.size_alloc, World.size_setCell]; omega)) _ | refine Ext.trans ?_ (by assumption))))).mono ?_
  rw [HF.out]
  rintro e w2 ⟨rfl, hb2⟩
  go_wp2_with (fail)
  refine (within_any _ _ _ _).mono ?_
  rw [HT.out]
  rintro e w' ⟨rfl, rfl⟩
  have E2 : Ext w w2 := (by repeat (first | exact Ext.refl _ | assumption | refine Ext.alloc ?_ _ | refine Ext.drew ?_ | refine Ext.drewN ?_ _ | refine Ext.setCell ?_ (by first | exact Nat.le_refl _ | (simp; done) | (dsimp only; omega) | (simp only [World.size_alloc, World.size_setCell]; omega)) _ | refine Ext.trans ?_ (by assumption)))
  clear n0 n1 n3
  obtain ⟨n0, n1, _, _, n3⟩ := N9.out.ext hb2
  go_wp2_with (fail)
  go_loopw [8, 27] (fun s8 s27 wr => ∃ (k : Nat) (xs : List Value), k ≤ nL ∧ s27 = .int .i64 (k : Int) ∧ wr.ownsRow w.heap.size 3 1 s8 k xs ∧ Ext w wr)
    (fun _ i _ => nL - (intOf i).toNat)
  case atStart => exact ⟨0, [], Nat.zero_le _, rfl, World.ownsRow_nil _ _ _ _, E2⟩
  case round =>
    obtain ⟨k, xs, hk, rfl, hrow, hE⟩ := hrel
    obtain ⟨a8, c8, rfl, _, _, _⟩ := row_shape hrow
    have HROW := hid hrow
    clear hrow
    by_cases hlt : k < nL
    · have tl : decide ((k : Int) < (nL : Int)) = true := by simpa using hlt
      go_wp2_with (fail)
      refine (isClear_any _ n z (k : Int) t _ (HU.out.ext hE)).mono ?_
      rw [HALL.out k hlt]
      rintro e w3 ⟨rfl, hb3⟩
      have hE3 := hE.trans hb3
      have HR3 := hid (row_ext HROW.out hb3)
      have hz3 := hE3.size
      clear HROW
      go_wp2_with (at_builtin; go_loud (refine wpList_srcK rfl (.tmp 35) (.tmp 37) 32 rfl w.heap.size 3 i0 _ 1 8 Try.underlying32 hi hz0 hz1 hz2 rfl (by omega) (by omega) (by omega) _ k xs rfl (row_ext HR3.out ((Ext.refl _).alloc _)) _ 1 _ rfl (lit_oneK _ (k : Int)) (ints_oneK _) (by omega) (by simp only [World.size_alloc]; omega) ?_; intro v1 wz hr1 hgz; have hEz : Ext w wz := Ext.of_grownAt (hE3.alloc _) hgz (fun q hq => (HR3.out.lt q hq).1); obtain ⟨a1, c1, rfl, _, _, _⟩ := row_shape hr1))
      go_roundw
      case rel => exact ⟨k + 1, _, by omega, by go_num, hr1, hEz⟩
      case measure => simp [intOf]; omega
    · obtain rfl : k = nL := by omega
      have tl : decide ((k : Int) < (k : Int)) = false := by simp
      clear hlt hk
      go_wp2_with (fail)
      go_returns
      exact ⟨_, _, rfl, hE⟩

end Go.Proofs.Ytjmbhlhkjjinbaa
namespace Go.Proofs.Ytjmbhlhkjjinbaa
open Go.RowKit
set_option linter.unusedSimpArgs false
set_option linter.unusedVariables false

theorem packAll (v : Value) (nT : Nat) (zT : List Int) (nL : Nat) (zL : List Int) (u : Value) (nF : Nat) (zF : List Int) (link : Int) (x : Value) (m : Nat) (zP : List Int) (SP : List (List Int)) (t : Int) : ∃ (LA : List Int) (ok : Bool), (∀ w, NetRow w v nT zT nL zL → IntRow .i64 3 w u nF zF → PkRow w x m zP SP → Calls Try.prog 6 #[v, u, .int .i64 link, x, .int .i64 t] w fun e w' => ∃ v', e = .returned (.tuple #[v', .bool ok]) ∧ w'.ownsRow w.heap.size 3 1 v' LA.length (LA.map (Value.int .i64)) ∧ Ext w w') ∧ (∀ w, NetRow w v nT zT nL zL → IntRow .i64 3 w u nF zF → PkRow w x m zP SP → Calls Try.prog 7 #[v, u, .int .i64 link, x, .int .i64 t] w fun e w' => ∃ v', e = .returned (.tuple #[v', .bool ok]) ∧ w'.ownsRow w.heap.size 3 1 v' LA.length (LA.map (Value.int .i64)) ∧ Ext w w') ∧ ((∀ z ∈ LA, (Lit.int .i64 z).wf = true) ∧ LA.length ≤ 20) ∧ (ok = true → m ≤ 20 ∧ (0 ≤ t ∧ t ≤ 10000) ∧ (∀ k, k < m → 1 ≤ ((SP.getD k []).length : Int) ∧ ((SP.getD k []).length : Int) ≤ 8) ∧ (∀ xJ, ∀ w, NetRow w v nT zT nL zL → IntRow .i64 3 w u nF zF → IntRow .i64 2 w xJ m (pkY t SP m) → Calls Try.prog 9 #[v, u, .int .i64 link, xJ] w fun e w' => ∃ v', e = .returned (.tuple #[v', .bool true]) ∧ w'.ownsRow w.heap.size 3 1 v' LA.length (LA.map (Value.int .i64)) ∧ Ext w w')) := by
  refine ⟨hpV nT zT nL zL zF nF link zP SP m t, hpC nT zT nL zL zF nF link zP SP m t, ?_, ?_, hpV_inv _ _ _ _ _ _ _ _ _ _ _, fun h => ?_⟩
  · intro w h1 h2 h3
    have := iHoldPackets_any v nT zT nL zL u nF zF link x m zP SP t w h1 h2 h3
    rwa [Nat.div_one] at this
  · intro w h1 h2 h3
    have := sHoldPackets_any v nT zT nL zL u nF zF link x m zP SP t w h1 h2 h3
    rwa [Nat.div_one] at this
  · have hB : hpB zP SP m t = true := by unfold hpC at h; rw [Bool.and_eq_true] at h; exact h.1
    obtain ⟨h1, h2, h3, h4⟩ := hpB_iff hB
    refine ⟨h1, ⟨h2, h3⟩, h4, fun xJ w g1 g2 g3 => ?_⟩
    have := iHoldArrivals_any v nT zT nL zL u nF zF link xJ m (pkY t SP m) w g1 g2 g3
    rw [Nat.div_one, ← (hpC_t hB).1, ← (hpC_t hB).2, h] at this
    exact this


theorem nightAll (v : Value) (nT : Nat) (zT : List Int) (nL : Nat) (zL : List Int) (u : Value) (nF : Nat) (zF : List Int) (a b : Int) : ∃ (LF : List Int) (nf : Nat) (ok : Bool), (∀ w, NetRow w v nT zT nL zL → IntRow .i64 3 w u nF zF → Calls Try.prog 11 #[v, u, .int .i64 a, .int .i64 b] w fun e w' => ∃ v', e = .returned (.tuple #[v', .bool ok]) ∧ w'.ownsRow w.heap.size 78 3 v' nf (LF.map (Value.int .i64)) ∧ Ext w w') ∧ (∀ w, NetRow w v nT zT nL zL → IntRow .i64 3 w u nF zF → Calls Try.prog 12 #[v, u, .int .i64 a, .int .i64 b] w fun e w' => ∃ v', e = .returned (.tuple #[v', .bool ok]) ∧ w'.ownsRow w.heap.size 78 3 v' nf (LF.map (Value.int .i64)) ∧ Ext w w') ∧ ((∀ z ∈ LF, (Lit.int .i64 z).wf = true) ∧ nf ≤ 60) ∧ (ok = true → (∀ g w, NetRow w v nT zT nL zL → IntRow .i64 3 w g nf LF → Calls Try.prog 14 #[v, g] w fun e w' => e = .returned (.tuple #[.bool true, .bool true]) ∧ Ext w w') ∧ (∀ g w, NetRow w v nT zT nL zL → IntRow .i64 3 w g nf LF → Calls Try.prog 15 #[v, g, .int .i64 a] w fun e w' => ∃ ad c, e = .returned (.tuple #[.slice ad nL c, .bool true]) ∧ Ext w w')) := by
  refine ⟨nfL nT zT nL zL zF nF a b, (nfL nT zT nL zL zF nF a b).length / 3, nfQ nT zT nL zL zF nF a b, fun w h1 h2 => iNightFogs_any v nT zT nL zL u nF zF a b w h1 h2, fun w h1 h2 => sNightFogs_any v nT zT nL zL u nF zF a b w h1 h2, ⟨(nfL_inv _ _ _ _ _ _ _ _).1, by have := (nfL_inv nT zT nL zL zF nF a b).2; omega⟩, fun h => ?_⟩
  have hL : nfL nT zT nL zL zF nF a b = flat (nfT zF nF a b nL) := by unfold nfL; rw [if_pos h]
  have hq := h
  unfold nfQ at hq
  rw [Bool.and_eq_true] at hq
  obtain ⟨h1, h2⟩ := hq
  obtain ⟨hk, hf, ⟨ha0, ha1⟩, hab, hb⟩ := nfC_iff h1
  have hB : ∀ j, j < nL → (nfT zF nF a b (j + 1)).length ≤ 60 := fun j hj => by have := allB_get h2 j hj; simpa using this
  have hle := nfT_len (a := a) (b := b) hf hB
  obtain ⟨hS, hW⟩ := nfT_inv hf ha0 (by omega) hb nL (Nat.le_refl _) (fun i hi => hle i (by omega))
  have hok : okFg nL (nfL nT zT nL zL zF nF a b) ((nfL nT zT nL zL zF nF a b).length / 3) = true := by
    rw [hL, flat_length, Nat.mul_div_cancel _ (by omega), okFg_flat hS hW]
    simpa using hle nL (Nat.le_refl _)
  refine ⟨fun g w g1 g2 => iAreFogs_true v nT zT nL zL g _ _ w g1 g2 hk hok, fun g w g1 g2 => iFoggyLinks_all v nT zT nL zL g _ _ a w g1 g2 hk hok (inR_iff.2 ⟨ha0, by omega⟩) (fun k hkL => ?_)⟩
  obtain ⟨y, hy, hc⟩ := nfT_cov zF nF a b nL k hkL
  obtain ⟨j, hj, hjy⟩ := List.getElem_of_mem hy
  have hj2 : j < (nfL nT zT nL zL zF nF a b).length / 3 := by rw [hL, flat_length, Nat.mul_div_cancel _ (by omega)]; exact hj
  refine allB_f hj2 ?_
  have e := triAt_flat (nfT zF nF a b nL) hj
  rw [hjy] at e
  unfold covB
  rw [hL]
  have e1 : f3a (flat (nfT zF nF a b nL)) j = y.1 := congrArg (·.1) e
  have e2 : f3b (flat (nfT zF nF a b nL)) j = y.2.1 := congrArg (·.2.1) e
  have e3 : f3c (flat (nfT zF nF a b nL)) j = y.2.2 := congrArg (·.2.2) e
  obtain ⟨c1, c2, c3⟩ := hc
  simp only at c1 c2 c3
  have d1 : f3a (flat (nfT zF nF a b nL)) j = (k : Int) := by omega
  have d2 : f3b (flat (nfT zF nF a b nL)) j ≤ a := by omega
  have d3 : a < f3c (flat (nfT zF nF a b nL)) j := by omega
  simp [d1, d2, d3]


theorem one_arr (v : Value) (nT : Nat) (zT : List Int) (nL : Nat) (zL : List Int) (u : Value) (nF : Nat) (zF : List Int) (link t e : Int) (c : Nat) (hC : lcC nT zT nL zL zF nF link t e = true) (hc1 : 1 ≤ c) (hc2 : c ≤ 80) : ∃ A : Int, (Lit.int .i64 A).wf = true ∧ A = stF zF link ((c : Int) * 10) nF t + ((c : Int) * 10 + f3c zL link.toNat) ∧ (∀ xJ, ∀ w, NetRow w v nT zT nL zL → IntRow .i64 3 w u nF zF → IntRow .i64 2 w xJ 1 [t, (c : Int)] → Calls Try.prog 9 #[v, u, .int .i64 link, xJ] w fun e w' => ∃ v', e = .returned (.tuple #[v', .bool true]) ∧ w'.ownsRow w.heap.size 3 1 v' 1 ([A].map (Value.int .i64)) ∧ Ext w w') ∧ (∀ xJ, ∀ w, NetRow w v nT zT nL zL → IntRow .i64 3 w u nF zF → IntRow .i64 2 w xJ 1 [t, (c : Int)] → Calls Try.prog 19 #[v, u, .int .i64 link, xJ] w fun e w' => ∃ v', e = .returned (.tuple #[v', .bool true]) ∧ w'.ownsRow w.heap.size 3 1 v' 1 ([A].map (Value.int .i64)) ∧ Ext w w') := by
  have hC2 := hC
  unfold lcC at hC2
  rw [Bool.and_eq_true] at hC2
  obtain ⟨_, _, _, ⟨t0, t1⟩, e0, e1⟩ := lcC_iff hC
  have hJ := job_okHs (c := (c : Int)) t0 t1 (by omega) (by omega)
  have hh : hoC nT zT nL zL zF nF link [t, (c : Int)] 1 = true := by unfold hoC; rw [hC2.1, hJ]; rfl
  have hA : arV nT zT nL zL zF nF link [t, (c : Int)] 1 = [stF zF link ((c : Int) * 10) nF t + ((c : Int) * 10 + f3c zL link.toNat)] := by
    unfold arV
    rw [if_pos hh]
    have hs := job_hsL (zF := zF) (nF := nF) (link := link) (c := (c : Int)) t0
    have hs2 : hsAt zF nF link [t, (c : Int)] 0 = stF zF link ((c : Int) * 10) nF t := by
      have := congrArg (fun l => l.getD 0 0) hs
      simpa [hsL] using this
    show [haAt zF nF link [t, (c : Int)] (f3c zL link.toNat) 0] = _
    unfold haAt
    rw [hs2]
    rfl
  have hw := (arV_inv nT zT nL zL zF nF link [t, (c : Int)] 1).1
  rw [hA] at hw
  refine ⟨_, hw _ (List.mem_singleton_self _), rfl, fun xJ w g1 g2 g3 => ?_, fun xJ w g1 g2 g3 => ?_⟩
  · have := iHoldArrivals_any v nT zT nL zL u nF zF link xJ 1 [t, (c : Int)] w g1 g2 g3
    rw [Nat.div_one, hh, hA] at this
    exact this
  · have := sHoldArrivals_any v nT zT nL zL u nF zF link xJ 1 [t, (c : Int)] w g1 g2 g3
    rw [Nat.div_one, hh, hA] at this
    exact this


theorem lastAll (v : Value) (nT : Nat) (zT : List Int) (nL : Nat) (zL : List Int) (u : Value) (nF : Nat) (zF : List Int) (link t e0 : Int) : ∃ (c : Int) (ok : Bool) (A1 A2 : Int), (∀ w, NetRow w v nT zT nL zL → IntRow .i64 3 w u nF zF → Calls Try.prog 17 #[v, u, .int .i64 link, .int .i64 t, .int .i64 e0] w fun e w' => e = .returned (.tuple #[.int .i64 c, .bool ok]) ∧ Ext w w') ∧ (∀ w, NetRow w v nT zT nL zL → IntRow .i64 3 w u nF zF → Calls Try.prog 18 #[v, u, .int .i64 link, .int .i64 t, .int .i64 e0] w fun e w' => e = .returned (.tuple #[.int .i64 c, .bool ok]) ∧ Ext w w') ∧ (ok = true → (1 ≤ c ∧ c ≤ 80) ∧ (0 ≤ t ∧ t ≤ 10000) ∧ (Lit.int .i64 A1).wf = true ∧ A1 ≤ e0 ∧ (∀ xJ, ∀ w, NetRow w v nT zT nL zL → IntRow .i64 3 w u nF zF → IntRow .i64 2 w xJ 1 [t, c] → Calls Try.prog 9 #[v, u, .int .i64 link, xJ] w fun e w' => ∃ v', e = .returned (.tuple #[v', .bool true]) ∧ w'.ownsRow w.heap.size 3 1 v' 1 ([A1].map (Value.int .i64)) ∧ Ext w w') ∧ (∀ xJ, ∀ w, NetRow w v nT zT nL zL → IntRow .i64 3 w u nF zF → IntRow .i64 2 w xJ 1 [t, c] → Calls Try.prog 19 #[v, u, .int .i64 link, xJ] w fun e w' => ∃ v', e = .returned (.tuple #[v', .bool true]) ∧ w'.ownsRow w.heap.size 3 1 v' 1 ([A1].map (Value.int .i64)) ∧ Ext w w') ∧ (c < 80 → (Lit.int .i64 A2).wf = true ∧ e0 < A2 ∧ (∀ xJ, ∀ w, NetRow w v nT zT nL zL → IntRow .i64 3 w u nF zF → IntRow .i64 2 w xJ 1 [t, c + 1] → Calls Try.prog 9 #[v, u, .int .i64 link, xJ] w fun e w' => ∃ v', e = .returned (.tuple #[v', .bool true]) ∧ w'.ownsRow w.heap.size 3 1 v' 1 ([A2].map (Value.int .i64)) ∧ Ext w w') ∧ (∀ xJ, ∀ w, NetRow w v nT zT nL zL → IntRow .i64 3 w u nF zF → IntRow .i64 2 w xJ 1 [t, c + 1] → Calls Try.prog 19 #[v, u, .int .i64 link, xJ] w fun e w' => ∃ v', e = .returned (.tuple #[v', .bool true]) ∧ w'.ownsRow w.heap.size 3 1 v' 1 ([A2].map (Value.int .i64)) ∧ Ext w w'))) := by
  by_cases h : lcO nT zT nL zL zF nF link t e0 = true
  · have h2 := h
    unfold lcO at h2
    rw [Bool.and_eq_true, decide_eq_true_eq] at h2
    obtain ⟨hC, hP⟩ := h2
    have hV : lcV nT zT nL zL zF nF link t e0 = (lcN zL zF nF link t e0 : Int) := by unfold lcV; rw [if_pos hC]
    obtain ⟨L1, L2⟩ := lcF_law (lcP zF nF link (f3c zL link.toNat) t e0) 80
    have hle : lcN zL zF nF link t e0 ≤ 80 := lcF_le _ _
    have k1 := L1 hP
    have k2 := fun hlt => L2 (lcN zL zF nF link t e0 + 1) (Nat.lt_succ_self _) hlt
    obtain ⟨N, hN⟩ : ∃ N, N = lcN zL zF nF link t e0 := ⟨_, rfl⟩
    have hI := fun w h1 h2 => iLastCount_any v nT zT nL zL u nF zF link t e0 w h1 h2
    have hS := fun w h1 h2 => sLastCount_any v nT zT nL zL u nF zF link t e0 w h1 h2
    rw [hV, h] at hI hS
    have k1' : lcP zF nF link (f3c zL link.toNat) t e0 (lcN zL zF nF link t e0) = true := k1
    rw [← hN] at hI hS hP hle k1' k2
    obtain ⟨A1, w1, q1, i1, s1⟩ := one_arr v nT zT nL zL u nF zF link t e0 N hC (by omega) hle
    have r1 : A1 ≤ e0 := by unfold lcP at k1'; rw [decide_eq_true_eq] at k1'; rw [q1]; exact k1'
    have hb := (lcC_iff hC).2.2.2.1
    by_cases h80 : N < 80
    · obtain ⟨A2, w2, q2, i2, s2⟩ := one_arr v nT zT nL zL u nF zF link t e0 (N + 1) hC (by omega) (by omega)
      have r2 : e0 < A2 := by have k3 := k2 (by omega); unfold lcP at k3; rw [decide_eq_false_iff_not] at k3; rw [q2]; omega
      rw [show ((N + 1 : Nat) : Int) = (N : Int) + 1 by omega] at i2 s2
      exact ⟨N, true, A1, A2, hI, hS, fun _ => ⟨⟨by omega, by omega⟩, hb, w1, r1, i1, s1, fun _ => ⟨w2, r2, i2, s2⟩⟩⟩
    · exact ⟨N, true, A1, 0, hI, hS, fun _ => ⟨⟨by omega, by omega⟩, hb, w1, r1, i1, s1, fun hx => absurd hx (by omega)⟩⟩
  · exact ⟨lcV nT zT nL zL zF nF link t e0, lcO nT zT nL zL zF nF link t e0, 0, 0, fun w h1 h2 => iLastCount_any v nT zT nL zL u nF zF link t e0 w h1 h2, fun w h1 h2 => sLastCount_any v nT zT nL zL u nF zF link t e0 w h1 h2, fun hx => absurd hx h⟩

end Go.Proofs.Ytjmbhlhkjjinbaa
namespace Go.Proofs.Ytjmbhlhkjjinbaa
open Go.RowKit
set_option linter.unusedSimpArgs false
set_option linter.unusedVariables false

set_option maxRecDepth 100000 in
set_option maxHeartbeats 20000000 in
theorem walkFnHeldPackets (v0 : Value) (n0 : Nat) (z0 : List Int) (v1 : Value) (n1 : Nat) (z1 : List Int) (w : World) (r0 : IntRow .u8 1 w v0 n0 z0) (r1 : IntRow .u8 1 w v1 n1 z1) :
    Calls Try.prog 3 #[v0, v1] w fun e w' => e = .returned (.bool true) ∧ Ext w w' := by
  obtain ⟨j0, ji, jz0, jz1, jz2⟩ := info_parts info_HJ
  obtain ⟨a0, c0, rfl⟩ := introw_sl r0
  obtain ⟨a1, c1, rfl⟩ := introw_sl r1
  go_enter Try.func3, Try.ntmps3
  go_wp2_with (fail)
  refine (big_any _ n0 z0 _ n1 z1 _ r0 r1).mono ?_
  rintro e w' ⟨bg, rfl, hbg, rfl⟩
  cases bg with
  | true =>
    go_wp2_with (fail)
    go_ret
    exact ⟨rfl, Ext.refl _⟩
  | false =>
  obtain ⟨hm0, hm1⟩ := hbg rfl
  clear hbg

  have E : Ext w w := Ext.refl w
  have R1 := hid r1
  clear r1
  go_wp2_with (fail)
  refine (drawHP _ n0 z0 _ r0 (by omega)).mono ?_
  rintro e w1 ⟨vN, vF, vP, lk, t, rfl, hq, hp, hlk, ht, k1⟩
  replace E := E.trans k1
  replace R1 := hid (R1.out.ext k1)
  clear k1
  obtain ⟨nT, zT, nL, zL, nF, zF, hN, hF, _, hL45, hF61⟩ := hq
  obtain ⟨aT, cT, aL, cL, rfl⟩ := hN.shape
  obtain ⟨aF, cF, rfl⟩ := introw_sl hF
  have HN := hid hN
  have HF := hid hF
  clear hN hF
  obtain ⟨m, zP, SP, hm41, hP⟩ := hp
  obtain ⟨aP, cP, rfl⟩ := pkrow_slice hP
  have HP := hid hP
  clear hP
  go_wp2_with (fail)
  obtain ⟨b5, hb5⟩ : ∃ b, b = w1.heap.size := ⟨_, rfl⟩
  have N5 := NBx.new w1 (.slice aT nT cT) (.slice aL nL cL)
  have k2 : Ext w1 (w1.alloc (.cells #[.slice aT nT cT, .slice aL nL cL] 27)) := (Ext.refl _).alloc _
  replace E := E.trans k2
  replace R1 := hid (R1.out.ext k2)
  replace HN := hid (HN.out.ext k2)
  replace HF := hid (HF.out.ext k2)
  replace HP := hid (HP.out.ext k2)
  clear k2
  rw [← hb5] at N5 ⊢
  clear hb5
  generalize w1.alloc (.cells #[.slice aT nT cT, .slice aL nL cL] 27) = w2 at N5 E R1 HN HF HP ⊢
  have N5a := N5.1
  have N5b := N5.2.1
  have N5c := N5.2.2.2.2
  clear r0
  obtain ⟨LA, ok, c1, c2, hwA, hok⟩ := packAll (.agg #[.slice aT nT cT, .slice aL nL cL]) nT zT nL zL (.slice aF nF cF) nF zF lk (.slice aP m cP) m zP SP t
  obtain ⟨nA, hnA⟩ : ∃ x, x = LA.length := ⟨_, rfl⟩
  rw [← hnA] at c1 c2 hwA hok
  have HWA := hid hwA
  have HOK := hid hok
  clear hnA hwA hok
  go_wp2_with (fail)
  refine (c1 _ HN.out HF.out HP.out).mono ?_
  rintro e w3 ⟨vA1, rfl, hr, k3⟩
  clear N5a N5b N5c
  replace E := E.trans k3
  replace N5 := N5.ext k3
  replace R1 := hid (R1.out.ext k3)
  replace HN := hid (HN.out.ext k3)
  replace HF := hid (HF.out.ext k3)
  replace HP := hid (HP.out.ext k3)
  have HA1 := hid (row_ints hr (by have := HWA.out.2; unfold maxLen; omega) HWA.out.1)
  obtain ⟨aA1, dA1, rfl⟩ := introw_sl HA1.out
  clear hr k3
  have N5a := N5.1
  have N5b := N5.2.1
  have N5c := N5.2.2.2.2
  go_wp2_with (fail)
  refine (c2 _ HN.out HF.out HP.out).mono ?_
  rintro e w4 ⟨vA2, rfl, hr, k4⟩
  clear N5a N5b N5c
  replace E := E.trans k4
  replace N5 := N5.ext k4
  replace R1 := hid (R1.out.ext k4)
  replace HN := hid (HN.out.ext k4)
  replace HF := hid (HF.out.ext k4)
  replace HP := hid (HP.out.ext k4)
  replace HA1 := hid (HA1.out.ext k4)
  have HA2 := hid (row_ints hr (by have := HWA.out.2; unfold maxLen; omega) HWA.out.1)
  obtain ⟨aA2, dA2, rfl⟩ := introw_sl HA2.out
  clear hr k4
  have N5a := N5.1
  have N5b := N5.2.1
  have N5c := N5.2.2.2.2
  go_wp2_with (fail)
  refine (sameInts_same _ _ nA LA _ HA1.out HA2.out).mono ?_
  rintro e w5 ⟨rfl, k5⟩
  clear N5a N5b N5c
  replace E := E.trans k5
  replace N5 := N5.ext k5
  replace R1 := hid (R1.out.ext k5)
  replace HN := hid (HN.out.ext k5)
  replace HF := hid (HF.out.ext k5)
  replace HP := hid (HP.out.ext k5)
  replace HA1 := hid (HA1.out.ext k5)
  replace HA2 := hid (HA2.out.ext k5)
  clear k5
  have N5a := N5.1
  have N5b := N5.2.1
  have N5c := N5.2.2.2.2
  clear c1 c2 HA1
  go_upto_if 86 with (fail)
  go_cut [14] from 16 to 117 (fun s14 wx => Ext w wx ∧ IntRow .u8 1 wx (.slice a1 n1 c1) n1 z1)
  case first =>
    cases ok with
    | false =>
      go_wp2_with (fail)
      go_meet
      exact ⟨E, R1.out⟩
    | true =>
      obtain ⟨hm20, ⟨ht0, ht1⟩, hSB, c3⟩ := HOK.out rfl
      have HSB := hid hSB
      have HC3 := hid c3
      clear HOK hSB c3
      go_wp2_with (fail)
      go_loopw [14, 89] (fun s14 s89 wr => ∃ k : Nat, k ≤ m ∧ s89 = .int .i64 (k : Int) ∧ wr.ownsRow w5.heap.size 40 2 s14 k ((pkY t SP k).map (Value.int .i64)) ∧ Ext w5 wr)
        (fun _ i _ => m - (intOf i).toNat)
      case atStart => exact ⟨0, Nat.zero_le _, rfl, World.ownsRow_nil _ _ _ _, Ext.refl _⟩
      case round =>
        obtain ⟨k, hk, rfl, hrow, hE⟩ := hrel
        obtain ⟨a14, c14, rfl, _, _, _⟩ := row_shape hrow
        have HROW := hid hrow
        clear hrow
        clear N5a N5b N5c
        by_cases hlt : k < m
        · have tl : decide ((k : Int) < (m : Int)) = true := by simpa using hlt
          obtain ⟨_, _, _, _, aP', cP', he, _, _, hcell⟩ := HP.out
          simp only [Value.slice.injEq, true_and] at he
          obtain ⟨rfl, rfl⟩ := he
          obtain ⟨b, oo, rfl, hb, hc⟩ := hcell.resolve_left (by omega)
          obtain ⟨x0, x1, x2, u, e0, e1, e2, s0, s1, s2, s3, hr⟩ := ((hc k hlt).ext hE hb).parts
          obtain ⟨ml, hml⟩ : ∃ m, m = (SP.getD k []).length := ⟨_, rfl⟩
          have hsb := HSB.out k hlt
          rw [← hml] at hr hsb
          obtain ⟨a3, c3, rfl⟩ := introw_sl hr
          have HML := hid hml
          have wt : (Lit.int .i64 t).wf = true := small_wf (by omega) (by omega)
          have wl : (Lit.int .i64 (ml : Int)).wf = true := small_wf (by omega) (by omega)
          have HWT := hid wt
          have HWL := hid wl
          have hsz := hE.size
          have hbr : b < wr.heap.size := by omega
          clear e0 e1 e2 hml hc hcell hr wt wl hlk ht
          go_wp2_with (at_builtin; go_loud (refine wpList_src2 rfl (.tmp 93) (.tmp 99) 36 rfl w5.heap.size 40 j0 _ Try.underlying36 ji jz0 jz1 jz2 rfl _ k ((pkY t SP k).map (Value.int .i64)) rfl (row_ext HROW.out (by repeat (first | (with_reducible exact Ext.refl _) | (with_reducible assumption) | (with_reducible refine Ext.alloc ?_ _) | (with_reducible refine Ext.drew ?_) | (with_reducible refine Ext.drewN ?_ _) | ((with_reducible refine Ext.setCell ?_ ?_ _); rotate_left; (first | exact Nat.le_refl _ | (simp; done) | (dsimp only; omega) | (simp only [World.size_alloc, World.size_setCell]; omega))) | (with_reducible refine Ext.trans ?_ (by assumption))))) _ 1 [t, (ml : Int)] rfl (lit2_atB _ _ t (ml : Int) _ (by simp) HWT.out HWL.out) (by omega) (by simp only [World.size_alloc]; omega) ?_; intro v1 wz hr1 hgz; obtain ⟨a2, c2, rfl, _, _, _⟩ := row_shape hr1; have hEz : Ext w5 wz := ext_append (by repeat (first | (with_reducible exact Ext.refl _) | (with_reducible assumption) | (with_reducible refine Ext.alloc ?_ _) | (with_reducible refine Ext.drew ?_) | (with_reducible refine Ext.drewN ?_ _) | ((with_reducible refine Ext.setCell ?_ ?_ _); rotate_left; (first | exact Nat.le_refl _ | (simp; done) | (dsimp only; omega) | (simp only [World.size_alloc, World.size_setCell]; omega))) | (with_reducible refine Ext.trans ?_ (by assumption)))) (row_ext HROW.out (by repeat (first | (with_reducible exact Ext.refl _) | (with_reducible assumption) | (with_reducible refine Ext.alloc ?_ _) | (with_reducible refine Ext.drew ?_) | (with_reducible refine Ext.drewN ?_ _) | ((with_reducible refine Ext.setCell ?_ ?_ _); rotate_left; (first | exact Nat.le_refl _ | (simp; done) | (dsimp only; omega) | (simp only [World.size_alloc, World.size_setCell]; omega))) | (with_reducible refine Ext.trans ?_ (by assumption))))) (Nat.le_refl _) hgz; have HR1 := hid hr1; clear hr1 hgz))
          go_roundw
          case rel =>
            refine ⟨k + 1, by omega, by go_num, ?_, hEz⟩
            rw [pkY, ← HML.out, List.map_append]
            exact HR1.out
          case measure => simp [intOf]; omega
        · obtain rfl : k = m := by omega
          have tl : decide ((k : Int) < (k : Int)) = false := by simp
          clear hlt hk
          replace E := E.trans hE
          replace N5 := N5.ext hE
          replace R1 := hid (R1.out.ext hE)
          replace HN := hid (HN.out.ext hE)
          replace HF := hid (HF.out.ext hE)
          replace HP := hid (HP.out.ext hE)
          replace HA2 := hid (HA2.out.ext hE)
          have N5a := N5.1
          have N5b := N5.2.1
          have N5c := N5.2.2.2.2
          have HJ := hid (row_ints HROW.out (by unfold maxLen; omega) (fun x hx => by obtain ⟨j, hj, rfl⟩ := getD_of_mem hx; rw [pkY_len] at hj; obtain ⟨e1, e2⟩ := pkY_get t SP k (j / 2) (by omega); have h5 := HSB.out (j / 2) (by omega); rcases Nat.mod_two_eq_zero_or_one j with e | e; (rw [show j = j / 2 * 2 by omega, e1]; exact small_wf (by omega) (by omega)); (rw [show j = j / 2 * 2 + 1 by omega, e2]; exact small_wf (by omega) (by omega))))
          clear HROW hE
          go_wp2_with (fail)
          refine (HC3.out _ _ HN.out HF.out HJ.out).mono ?_
          rintro e q6 ⟨vA3, rfl, hr, k6⟩
          clear N5a N5b N5c
          replace E := E.trans k6
          replace N5 := N5.ext k6
          replace R1 := hid (R1.out.ext k6)
          replace HN := hid (HN.out.ext k6)
          replace HF := hid (HF.out.ext k6)
          replace HP := hid (HP.out.ext k6)
          replace HA2 := hid (HA2.out.ext k6)
          replace HJ := hid (HJ.out.ext k6)
          have HA3 := hid (row_ints hr (by have := HWA.out.2; unfold maxLen; omega) HWA.out.1)
          obtain ⟨aA3, dA3, rfl⟩ := introw_sl HA3.out
          clear hr k6
          have N5a := N5.1
          have N5b := N5.2.1
          have N5c := N5.2.2.2.2
          go_wp2_with (fail)
          refine (sameInts_same _ _ nA LA _ HA3.out HA2.out).mono ?_
          rintro e q7 ⟨rfl, k7⟩
          clear N5a N5b N5c
          replace E := E.trans k7
          replace N5 := N5.ext k7
          replace R1 := hid (R1.out.ext k7)
          replace HN := hid (HN.out.ext k7)
          replace HF := hid (HF.out.ext k7)
          replace HP := hid (HP.out.ext k7)
          replace HA2 := hid (HA2.out.ext k7)
          replace HJ := hid (HJ.out.ext k7)
          replace HA3 := hid (HA3.out.ext k7)
          clear k7
          have N5a := N5.1
          have N5b := N5.2.1
          have N5c := N5.2.2.2.2
          go_wp2_with (fail)
          go_meet
          exact ⟨E, R1.out⟩
  case rest =>
    clear E R1 HN HF HP HA2
    clear N5a N5b N5c
    clear N5
    clear HOK HWA
    obtain ⟨E, r1⟩ := hcut
    have R1 := hid r1
    clear r1
    go_wp2_with (fail)
    refine (drawNF _ n1 z1 _ R1.out (by omega)).mono ?_
    rintro e p6 ⟨vN, vF, ta, tb, rfl, hq, hta, htb, k6⟩
    replace E := E.trans k6
    replace R1 := hid (R1.out.ext k6)
    clear k6
    obtain ⟨nTq, zTq, nLq, zLq, nFq, zFq, hN, hF, _, hL45q, hF61q⟩ := hq
    obtain ⟨aTq, cTq, aLq, cLq, rfl⟩ := hN.shape
    obtain ⟨aFq, cFq, rfl⟩ := introw_sl hF
    have HNq := hid hN
    have HFq := hid hF
    clear hN hF
    go_wp2_with (fail)
    obtain ⟨b5q, hb5⟩ : ∃ b, b = p6.heap.size := ⟨_, rfl⟩
    have N5q := NBx.new p6 (.slice aTq nTq cTq) (.slice aLq nLq cLq)
    have k7 : Ext p6 (p6.alloc (.cells #[.slice aTq nTq cTq, .slice aLq nLq cLq] 27)) := (Ext.refl _).alloc _
    replace E := E.trans k7
    replace R1 := hid (R1.out.ext k7)
    replace HNq := hid (HNq.out.ext k7)
    replace HFq := hid (HFq.out.ext k7)
    clear k7
    rw [← hb5] at N5q ⊢
    clear hb5
    generalize p6.alloc (.cells #[.slice aTq nTq cTq, .slice aLq nLq cLq] 27) = p7 at N5q E R1 HNq HFq ⊢
    have N5qa := N5q.1
    have N5qb := N5q.2.1
    have N5qc := N5q.2.2.2.2
    obtain ⟨LF, nf, ok2, c1, c2, hwF, hok⟩ := nightAll (.agg #[.slice aTq nTq cTq, .slice aLq nLq cLq]) nTq zTq nLq zLq (.slice aFq nFq cFq) nFq zFq ta tb
    have HWF := hid hwF
    have HOK := hid hok
    clear hwF hok
    go_wp2_with (fail)
    refine (c1 _ HNq.out HFq.out).mono ?_
    rintro e p8 ⟨vG1, rfl, hr, k8⟩
    clear N5qa N5qb N5qc
    replace E := E.trans k8
    replace N5q := N5q.ext k8
    replace R1 := hid (R1.out.ext k8)
    replace HNq := hid (HNq.out.ext k8)
    replace HFq := hid (HFq.out.ext k8)
    have HG1 := hid (row_ints hr (by have := HWF.out.2; unfold maxLen; omega) HWF.out.1)
    obtain ⟨aG1, dG1, rfl⟩ := introw_sl HG1.out
    clear hr k8
    have N5qa := N5q.1
    have N5qb := N5q.2.1
    have N5qc := N5q.2.2.2.2
    go_wp2_with (fail)
    refine (c2 _ HNq.out HFq.out).mono ?_
    rintro e p9 ⟨vG2, rfl, hr, k9⟩
    clear N5qa N5qb N5qc
    replace E := E.trans k9
    replace N5q := N5q.ext k9
    replace R1 := hid (R1.out.ext k9)
    replace HNq := hid (HNq.out.ext k9)
    replace HFq := hid (HFq.out.ext k9)
    replace HG1 := hid (HG1.out.ext k9)
    have HG2 := hid (row_ints hr (by have := HWF.out.2; unfold maxLen; omega) HWF.out.1)
    obtain ⟨aG2, dG2, rfl⟩ := introw_sl HG2.out
    clear hr k9
    have N5qa := N5q.1
    have N5qb := N5q.2.1
    have N5qc := N5q.2.2.2.2
    go_wp2_with (fail)
    refine (pSameFogs_same _ _ nf LF _ HG1.out HG2.out).mono ?_
    rintro e p10 ⟨rfl, k10⟩
    clear N5qa N5qb N5qc
    replace E := E.trans k10
    replace N5q := N5q.ext k10
    replace R1 := hid (R1.out.ext k10)
    replace HNq := hid (HNq.out.ext k10)
    replace HFq := hid (HFq.out.ext k10)
    replace HG1 := hid (HG1.out.ext k10)
    replace HG2 := hid (HG2.out.ext k10)
    clear k10
    have N5qa := N5q.1
    have N5qb := N5q.2.1
    have N5qc := N5q.2.2.2.2
    clear c1 c2 HG2
    go_upto_if 150 with (fail)
    go_cut [] from 27 to 181 (fun  wx => Ext w wx ∧ IntRow .u8 1 wx (.slice a1 n1 c1) n1 z1)
    case first =>
      cases ok2 with
      | false =>
        go_wp2_with (fail)
        go_meet
        exact ⟨E, R1.out⟩
      | true =>
        obtain ⟨c3, c4⟩ := HOK.out rfl
        clear HOK
        go_wp2_with (fail)
        refine (c3 _ _ HNq.out HG1.out).mono ?_
        rintro e p11 ⟨rfl, k11⟩
        clear N5qa N5qb N5qc
        replace E := E.trans k11
        replace N5q := N5q.ext k11
        replace R1 := hid (R1.out.ext k11)
        replace HNq := hid (HNq.out.ext k11)
        replace HFq := hid (HFq.out.ext k11)
        replace HG1 := hid (HG1.out.ext k11)
        clear k11
        have N5qa := N5q.1
        have N5qb := N5q.2.1
        have N5qc := N5q.2.2.2.2
        go_wp2_with (fail)
        refine (c4 _ _ HNq.out HG1.out).mono ?_
        rintro e p12 ⟨ag, cg, rfl, k12⟩
        clear N5qa N5qb N5qc
        replace E := E.trans k12
        replace N5q := N5q.ext k12
        replace R1 := hid (R1.out.ext k12)
        replace HNq := hid (HNq.out.ext k12)
        replace HFq := hid (HFq.out.ext k12)
        replace HG1 := hid (HG1.out.ext k12)
        clear k12
        have N5qa := N5q.1
        have N5qb := N5q.2.1
        have N5qc := N5q.2.2.2.2
        clear c3 c4
        go_wp2_with (fail)
        go_meet
        exact ⟨E, R1.out⟩
    case rest =>
      clear E R1 HNq HFq HG1
      clear N5qa N5qb N5qc
      clear N5q
      clear HOK HWF
      obtain ⟨E, r1⟩ := hcut
      have R1 := hid r1
      clear r1
      go_wp2_with (fail)
      refine (drawLC _ n1 z1 _ R1.out (by omega)).mono ?_
      rintro e r11 ⟨vN, vF, lk3, t3, e3, rfl, hq, hlk3, ht3, he3, k11⟩
      replace E := E.trans k11
      replace R1 := hid (R1.out.ext k11)
      clear k11
      obtain ⟨nTr, zTr, nLr, zLr, nFr, zFr, hN, hF, _, hL45r, hF61r⟩ := hq
      obtain ⟨aTr, cTr, aLr, cLr, rfl⟩ := hN.shape
      obtain ⟨aFr, cFr, rfl⟩ := introw_sl hF
      have HNr := hid hN
      have HFr := hid hF
      clear hN hF
      go_wp2_with (fail)
      obtain ⟨b5r, hb5⟩ : ∃ b, b = r11.heap.size := ⟨_, rfl⟩
      have N5r := NBx.new r11 (.slice aTr nTr cTr) (.slice aLr nLr cLr)
      have k12 : Ext r11 (r11.alloc (.cells #[.slice aTr nTr cTr, .slice aLr nLr cLr] 27)) := (Ext.refl _).alloc _
      replace E := E.trans k12
      replace R1 := hid (R1.out.ext k12)
      replace HNr := hid (HNr.out.ext k12)
      replace HFr := hid (HFr.out.ext k12)
      clear k12
      rw [← hb5] at N5r ⊢
      clear hb5
      generalize r11.alloc (.cells #[.slice aTr nTr cTr, .slice aLr nLr cLr] 27) = r12 at N5r E R1 HNr HFr ⊢
      have N5ra := N5r.1
      have N5rb := N5r.2.1
      have N5rc := N5r.2.2.2.2
      obtain ⟨cn, ok3, A1, A2, c1, c2, hok⟩ := lastAll (.agg #[.slice aTr nTr cTr, .slice aLr nLr cLr]) nTr zTr nLr zLr (.slice aFr nFr cFr) nFr zFr lk3 t3 e3
      have HOK := hid hok
      clear hok
      go_wp2_with (fail)
      refine (c1 _ HNr.out HFr.out).mono ?_
      rintro e r13 ⟨rfl, k13⟩
      clear N5ra N5rb N5rc
      replace E := E.trans k13
      replace N5r := N5r.ext k13
      replace R1 := hid (R1.out.ext k13)
      replace HNr := hid (HNr.out.ext k13)
      replace HFr := hid (HFr.out.ext k13)
      clear k13
      have N5ra := N5r.1
      have N5rb := N5r.2.1
      have N5rc := N5r.2.2.2.2
      go_wp2_with (fail)
      refine (c2 _ HNr.out HFr.out).mono ?_
      rintro e r14 ⟨rfl, k14⟩
      clear N5ra N5rb N5rc
      replace E := E.trans k14
      replace N5r := N5r.ext k14
      replace R1 := hid (R1.out.ext k14)
      replace HNr := hid (HNr.out.ext k14)
      replace HFr := hid (HFr.out.ext k14)
      clear k14
      have N5ra := N5r.1
      have N5rb := N5r.2.1
      have N5rc := N5r.2.2.2.2
      clear c1 c2
      cases ok3 with
      | false =>
        go_wp2_with (fail)
        go_ret
        exact ⟨rfl, E⟩
      | true =>
        obtain ⟨⟨hc1, hc2⟩, ⟨ht0, ht1⟩, hA1, hA1e, c3, c4, hnext⟩ := HOK.out rfl
        have HA1 := hid hA1
        have HNX := hid hnext
        clear HOK hA1 hnext
        go_wp2_with (fail)
        have HJI1 := hid (lit_job r14 t3 cn 40 (small_wf (by omega) (by omega)) (small_wf (by omega) (by omega)))
        have k15 : Ext r14 (r14.alloc (.cells #[.int .i64 t3, .int .i64 cn] 40)) := (Ext.refl _).alloc _
        clear N5ra N5rb N5rc
        replace E := E.trans k15
        replace N5r := N5r.ext k15
        replace R1 := hid (R1.out.ext k15)
        replace HNr := hid (HNr.out.ext k15)
        replace HFr := hid (HFr.out.ext k15)
        clear k15
        obtain ⟨bjI1, hbj⟩ : ∃ b, b = r14.heap.size := ⟨_, rfl⟩
        rw [← hbj] at HJI1 ⊢
        clear hbj
        generalize r14.alloc (.cells #[.int .i64 t3, .int .i64 cn] 40) = r15 at HJI1 E R1 HNr HFr N5r ⊢
        have N5ra := N5r.1
        have N5rb := N5r.2.1
        have N5rc := N5r.2.2.2.2
        refine (c3 _ _ HNr.out HFr.out HJI1.out).mono ?_
        rintro e r16 ⟨vI1, rfl, hr, k16⟩
        clear N5ra N5rb N5rc
        replace E := E.trans k16
        replace N5r := N5r.ext k16
        replace R1 := hid (R1.out.ext k16)
        replace HNr := hid (HNr.out.ext k16)
        replace HFr := hid (HFr.out.ext k16)
        replace HJI1 := hid (HJI1.out.ext k16)
        have HI1 := hid (row_ints hr (by unfold maxLen; omega) (fun z hz => by simp only [List.mem_singleton] at hz; subst hz; exact HA1.out))
        obtain ⟨aI1, dI1, rfl⟩ := introw_sl HI1.out
        clear hr k16 HJI1
        have N5ra := N5r.1
        have N5rb := N5r.2.1
        have N5rc := N5r.2.2.2.2
        go_wp2_with (fail)
        have HJS1 := hid (lit_job r16 t3 cn 40 (small_wf (by omega) (by omega)) (small_wf (by omega) (by omega)))
        have k17 : Ext r16 (r16.alloc (.cells #[.int .i64 t3, .int .i64 cn] 40)) := (Ext.refl _).alloc _
        clear N5ra N5rb N5rc
        replace E := E.trans k17
        replace N5r := N5r.ext k17
        replace R1 := hid (R1.out.ext k17)
        replace HNr := hid (HNr.out.ext k17)
        replace HFr := hid (HFr.out.ext k17)
        replace HI1 := hid (HI1.out.ext k17)
        clear k17
        obtain ⟨bjS1, hbj⟩ : ∃ b, b = r16.heap.size := ⟨_, rfl⟩
        rw [← hbj] at HJS1 ⊢
        clear hbj
        generalize r16.alloc (.cells #[.int .i64 t3, .int .i64 cn] 40) = r17 at HJS1 E R1 HNr HFr HI1 N5r ⊢
        have N5ra := N5r.1
        have N5rb := N5r.2.1
        have N5rc := N5r.2.2.2.2
        refine (c4 _ _ HNr.out HFr.out HJS1.out).mono ?_
        rintro e r18 ⟨vS1, rfl, hr, k18⟩
        clear N5ra N5rb N5rc
        replace E := E.trans k18
        replace N5r := N5r.ext k18
        replace R1 := hid (R1.out.ext k18)
        replace HNr := hid (HNr.out.ext k18)
        replace HFr := hid (HFr.out.ext k18)
        replace HI1 := hid (HI1.out.ext k18)
        replace HJS1 := hid (HJS1.out.ext k18)
        have HS1 := hid (row_ints hr (by unfold maxLen; omega) (fun z hz => by simp only [List.mem_singleton] at hz; subst hz; exact HA1.out))
        obtain ⟨aS1, dS1, rfl⟩ := introw_sl HS1.out
        clear hr k18 HJS1
        have N5ra := N5r.1
        have N5rb := N5r.2.1
        have N5rc := N5r.2.2.2.2
        clear c3 c4
        obtain ⟨bbS1, obS1, rfl, hbbS1, qS1⟩ : ∃ bb ob, aS1 = some ⟨bb, ob, none⟩ ∧ bb < r18.heap.size ∧ r18.cell? ⟨bb, ob, none⟩ = some (.int .i64 A1) := by
          obtain ⟨_, _, _, a', c', he, _, _, hcell⟩ := HS1.out
          simp only [Value.slice.injEq, true_and] at he
          obtain ⟨rfl, rfl⟩ := he
          obtain ⟨b, oo, rfl, hbq, hc⟩ := hcell.resolve_left (by omega)
          exact ⟨b, oo, rfl, hbq, hc 0 (by omega)⟩
        have QS1 := hid (show CellAt r18 bbS1 obS1 (.int .i64 A1) from ⟨qS1, hbbS1⟩)
        clear qS1 hbbS1
        go_wp2_with (fail)
        refine (sameInts_same _ _ 1 [A1] _ HI1.out HS1.out).mono ?_
        rintro e r19 ⟨rfl, k19⟩
        clear N5ra N5rb N5rc
        replace E := E.trans k19
        replace N5r := N5r.ext k19
        replace R1 := hid (R1.out.ext k19)
        replace HNr := hid (HNr.out.ext k19)
        replace HFr := hid (HFr.out.ext k19)
        replace HI1 := hid (HI1.out.ext k19)
        replace HS1 := hid (HS1.out.ext k19)
        replace QS1 := hid (QS1.out.ext k19)
        clear k19
        have N5ra := N5r.1
        have N5rb := N5r.2.1
        have N5rc := N5r.2.2.2.2
        have tgt : decide (e3 < A1) = false := by simp; omega
        have qc := QS1.out.1
        have qb := QS1.out.2
        by_cases h80 : cn < 80
        · have t80 : decide (cn < 80) = true := by simpa using h80
          obtain ⟨hA2, hA2e, c5, c6⟩ := HNX.out h80
          have HA2 := hid hA2
          clear HNX hA2
          have ew : IntKind.i64.wrap (cn + 1) = cn + 1 := IntWalk.i64_in _ (by omega)
          go_wp2_with (fail)
          have HJI2 := hid (lit_job r19 t3 (cn + 1) 40 (small_wf (by omega) (by omega)) (small_wf (by omega) (by omega)))
          have k20 : Ext r19 (r19.alloc (.cells #[.int .i64 t3, .int .i64 (cn + 1)] 40)) := (Ext.refl _).alloc _
          clear N5ra N5rb N5rc
          replace E := E.trans k20
          replace N5r := N5r.ext k20
          replace R1 := hid (R1.out.ext k20)
          replace HNr := hid (HNr.out.ext k20)
          replace HFr := hid (HFr.out.ext k20)
          replace HI1 := hid (HI1.out.ext k20)
          replace HS1 := hid (HS1.out.ext k20)
          replace QS1 := hid (QS1.out.ext k20)
          clear k20
          obtain ⟨bjI2, hbj⟩ : ∃ b, b = r19.heap.size := ⟨_, rfl⟩
          rw [← hbj] at HJI2 ⊢
          clear hbj
          generalize r19.alloc (.cells #[.int .i64 t3, .int .i64 (cn + 1)] 40) = r20 at HJI2 E R1 HNr HFr HI1 HS1 QS1 N5r ⊢
          have N5ra := N5r.1
          have N5rb := N5r.2.1
          have N5rc := N5r.2.2.2.2
          refine (c5 _ _ HNr.out HFr.out HJI2.out).mono ?_
          rintro e r21 ⟨vI2, rfl, hr, k21⟩
          clear N5ra N5rb N5rc
          replace E := E.trans k21
          replace N5r := N5r.ext k21
          replace R1 := hid (R1.out.ext k21)
          replace HNr := hid (HNr.out.ext k21)
          replace HFr := hid (HFr.out.ext k21)
          replace HI1 := hid (HI1.out.ext k21)
          replace HS1 := hid (HS1.out.ext k21)
          replace QS1 := hid (QS1.out.ext k21)
          replace HJI2 := hid (HJI2.out.ext k21)
          have HI2 := hid (row_ints hr (by unfold maxLen; omega) (fun z hz => by simp only [List.mem_singleton] at hz; subst hz; exact HA2.out))
          obtain ⟨aI2, dI2, rfl⟩ := introw_sl HI2.out
          clear hr k21 HJI2
          have N5ra := N5r.1
          have N5rb := N5r.2.1
          have N5rc := N5r.2.2.2.2
          go_wp2_with (fail)
          have HJS2 := hid (lit_job r21 t3 (cn + 1) 40 (small_wf (by omega) (by omega)) (small_wf (by omega) (by omega)))
          have k22 : Ext r21 (r21.alloc (.cells #[.int .i64 t3, .int .i64 (cn + 1)] 40)) := (Ext.refl _).alloc _
          clear N5ra N5rb N5rc
          replace E := E.trans k22
          replace N5r := N5r.ext k22
          replace R1 := hid (R1.out.ext k22)
          replace HNr := hid (HNr.out.ext k22)
          replace HFr := hid (HFr.out.ext k22)
          replace HI1 := hid (HI1.out.ext k22)
          replace HS1 := hid (HS1.out.ext k22)
          replace QS1 := hid (QS1.out.ext k22)
          replace HI2 := hid (HI2.out.ext k22)
          clear k22
          obtain ⟨bjS2, hbj⟩ : ∃ b, b = r21.heap.size := ⟨_, rfl⟩
          rw [← hbj] at HJS2 ⊢
          clear hbj
          generalize r21.alloc (.cells #[.int .i64 t3, .int .i64 (cn + 1)] 40) = r22 at HJS2 E R1 HNr HFr HI1 HS1 QS1 HI2 N5r ⊢
          have N5ra := N5r.1
          have N5rb := N5r.2.1
          have N5rc := N5r.2.2.2.2
          refine (c6 _ _ HNr.out HFr.out HJS2.out).mono ?_
          rintro e r23 ⟨vS2, rfl, hr, k23⟩
          clear N5ra N5rb N5rc
          replace E := E.trans k23
          replace N5r := N5r.ext k23
          replace R1 := hid (R1.out.ext k23)
          replace HNr := hid (HNr.out.ext k23)
          replace HFr := hid (HFr.out.ext k23)
          replace HI1 := hid (HI1.out.ext k23)
          replace HS1 := hid (HS1.out.ext k23)
          replace QS1 := hid (QS1.out.ext k23)
          replace HI2 := hid (HI2.out.ext k23)
          replace HJS2 := hid (HJS2.out.ext k23)
          have HS2 := hid (row_ints hr (by unfold maxLen; omega) (fun z hz => by simp only [List.mem_singleton] at hz; subst hz; exact HA2.out))
          obtain ⟨aS2, dS2, rfl⟩ := introw_sl HS2.out
          clear hr k23 HJS2
          have N5ra := N5r.1
          have N5rb := N5r.2.1
          have N5rc := N5r.2.2.2.2
          clear c5 c6 ew
          obtain ⟨bbS2, obS2, rfl, hbbS2, qS2⟩ : ∃ bb ob, aS2 = some ⟨bb, ob, none⟩ ∧ bb < r23.heap.size ∧ r23.cell? ⟨bb, ob, none⟩ = some (.int .i64 A2) := by
            obtain ⟨_, _, _, a', c', he, _, _, hcell⟩ := HS2.out
            simp only [Value.slice.injEq, true_and] at he
            obtain ⟨rfl, rfl⟩ := he
            obtain ⟨b, oo, rfl, hbq, hc⟩ := hcell.resolve_left (by omega)
            exact ⟨b, oo, rfl, hbq, hc 0 (by omega)⟩
          have QS2 := hid (show CellAt r23 bbS2 obS2 (.int .i64 A2) from ⟨qS2, hbbS2⟩)
          clear qS2 hbbS2
          have tg2 : decide (e3 < A2) = true := by simp; omega
          go_wp2_with (fail)
          refine (sameInts_same _ _ 1 [A2] _ HI2.out HS2.out).mono ?_
          rintro e r24 ⟨rfl, k24⟩
          clear N5ra N5rb N5rc
          replace E := E.trans k24
          replace N5r := N5r.ext k24
          replace R1 := hid (R1.out.ext k24)
          replace HNr := hid (HNr.out.ext k24)
          replace HFr := hid (HFr.out.ext k24)
          replace HI1 := hid (HI1.out.ext k24)
          replace HS1 := hid (HS1.out.ext k24)
          replace QS1 := hid (QS1.out.ext k24)
          replace HI2 := hid (HI2.out.ext k24)
          replace HS2 := hid (HS2.out.ext k24)
          replace QS2 := hid (QS2.out.ext k24)
          clear k24
          have N5ra := N5r.1
          have N5rb := N5r.2.1
          have N5rc := N5r.2.2.2.2
          have qc2 := QS2.out.1
          have qb2 := QS2.out.2
          go_wp2_with (fail)
          go_ret
          exact ⟨rfl, E⟩
        · have t80 : decide (cn < 80) = false := by simpa using h80
          go_wp2_with (fail)
          go_ret
          exact ⟨rfl, E⟩
end Go.Proofs.Ytjmbhlhkjjinbaa
