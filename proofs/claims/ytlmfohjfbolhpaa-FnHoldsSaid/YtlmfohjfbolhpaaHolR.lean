/- Helpers of the law of held messages: lists compared, sizes, a box of two slices, how many are held. No condition. -/
import Derived.Test.YtlmfohjfbolhpaaDFoggy
import Derived.Test.YtlmfohjfbolhpaaHolQ
import Derived.Maps.RangeWalk
namespace Go.Proofs.Ytlmfohjfbolhpaa
open Go.RowKit
set_option linter.unusedSimpArgs false
set_option linter.unusedVariables false

set_option maxRecDepth 100000 in
set_option maxHeartbeats 600000 in
theorem sameInts_same (v v' : Value) (n : Nat) (z : List Int) (w : World) (h : IntRow .i64 1 w v n z) (h' : IntRow .i64 1 w v' n z) :
    Calls Try.prog 34 #[v, v'] w fun e w' => e = .returned (.bool true) ∧ Ext w w' := by
  obtain ⟨hl, hm, hwf, a, c, rfl, hnc, hcm, hcell⟩ := h
  obtain ⟨_, _, _, a', c', rfl, hnc', hcm', hcell'⟩ := h'
  unfold maxLen at hm
  go_enter Try.func34, Try.ntmps34
  go_wp2_with (fail)
  go_loopw [13] (fun i wr => ∃ (k : Nat), k ≤ n ∧ i = .int .i64 (k : Int) ∧ Ext w wr)
    (fun i _ => n - (intOf i).toNat)
  case atStart => exact ⟨0, Nat.zero_le _, rfl, Ext.refl _⟩
  case round =>
    obtain ⟨k, hk, rfl, hE⟩ := hrel
    by_cases hlt : k < n
    · have hne : ¬ n = 0 := by omega
      obtain ⟨b, o, rfl, hb, hc⟩ := hcell.resolve_left hne
      obtain ⟨b', o', rfl, hb', hc'⟩ := hcell'.resolve_left hne
      obtain ⟨x0, hx0⟩ : ∃ x, x = z.getD (k * 1) 0 := ⟨_, rfl⟩
      have s0 : wr.cell? ⟨b, o + k, none⟩ = some (.int .i64 x0) := by rw [(Ext.cells hE).1 _ _ hb, show o + k = o + (k * 1) by omega, hc _ (by omega), hx0]
      have r0 : wr.cell? ⟨b', o' + k, none⟩ = some (.int .i64 x0) := by rw [(Ext.cells hE).1 _ _ hb', show o' + k = o' + (k * 1) by omega, hc' _ (by omega), hx0]
      clear hx0 hc hcell hc' hcell'
      go_wp2_with (fail)
      go_quiet (fail)
      go_wp2_with (fail)
      go_roundw
      case rel => exact ⟨k + 1, by omega, by go_num, (by repeat (first | exact Ext.refl _ | assumption | refine Ext.alloc ?_ _ | refine Ext.drew ?_ | refine Ext.drewN ?_ _ | refine Ext.setCell ?_ (by first | exact Nat.le_refl _ | (simp; done) | (dsimp only; omega) | (simp only [World.size_alloc, World.size_setCell]; omega)) _ | refine Ext.trans ?_ (by assumption)))⟩
      case measure => simp [intOf]; omega
    · obtain rfl : k = n := by omega
      clear hcell hcell'
      go_wp2_with (fail)
      go_ret
      exact ⟨rfl, hE⟩

set_option maxRecDepth 100000 in
set_option maxHeartbeats 1000000 in
theorem big_any (v0 : Value) (n0 : Nat) (z0 : List Int) (v1 : Value) (n1 : Nat) (z1 : List Int) (w : World) (r0 : IntRow .u8 1 w v0 n0 z0) (r1 : IntRow .u8 1 w v1 n1 z1) :
    Calls Try.prog 30 #[v0, v1] w fun e w' => ∃ b : Bool, e = .returned (.bool b) ∧ (b = false → n0 ≤ 1048576 ∧ n1 ≤ 1048576) ∧ w = w' := by
  obtain ⟨_, hm0, _, a0, c0, rfl, hnc0, hcm0, _⟩ := r0
  obtain ⟨_, hm1, _, a1, c1, rfl, hnc1, hcm1, _⟩ := r1
  by_cases h0 : n0 > 1048576
  · have t0 : decide ((1048576 : Int) < n0) = true := by simp; omega
    have t0' : decide (1048576 < n0) = true := by simp; omega
    go_enter Try.func30, Try.ntmps30
    go_wp2_with (fail)
    go_ret
    exact ⟨true, rfl, by simp, rfl⟩
  · have t0 : decide ((1048576 : Int) < n0) = false := by simp; omega
    have t0' : decide (1048576 < n0) = false := by simp; omega
    by_cases h1 : n1 > 1048576 - n0
    · have t1 : decide ((1048576 : Int) - n0 < n1) = true := by simp; omega
      go_enter Try.func30, Try.ntmps30
      go_wp2_with (fail)
      go_ret
      exact ⟨true, rfl, by simp, rfl⟩
    · have t1 : decide ((1048576 : Int) - n0 < n1) = false := by simp; omega
      go_enter Try.func30, Try.ntmps30
      go_wp2_with (fail)
      go_ret
      exact ⟨false, rfl, by omega, rfl⟩

/-- a box of two slices -/
def NBx (w : World) (b : Nat) (x y : Value) : Prop := w.cell? ⟨b, 0, none⟩ = some x ∧ w.cell? ⟨b, 1, none⟩ = some y ∧ True ∧ True ∧ b < w.heap.size
theorem NBx.ext {w w' : World} {b : Nat} {x y : Value} (h : NBx w b x y) (e : Ext w w') : NBx w' b x y := by
  obtain ⟨h1, h2, _, _, h3⟩ := h
  exact ⟨((Ext.cells e).1 _ _ h3).trans h1, ((Ext.cells e).1 _ _ h3).trans h2, trivial, trivial, Nat.lt_of_lt_of_le h3 e.size⟩
theorem NBx.new (w : World) (x y : Value) : NBx (w.alloc (.cells #[x, y] 35)) w.heap.size x y := ⟨by simp, by simp, trivial, trivial, by simp⟩
/-- a cell's content -/
def CellAt (w : World) (b o : Nat) (v : Value) : Prop := w.cell? ⟨b, o, none⟩ = some v ∧ b < w.heap.size
theorem CellAt.ext {w w' : World} {b o : Nat} {v : Value} (h : CellAt w b o v) (e : Ext w w') : CellAt w' b o v := ⟨((Ext.cells e).1 _ _ h.2).trans h.1, Nat.lt_of_lt_of_le h.2 e.size⟩
theorem NetRow.shape {w : World} {v : Value} {nT nL : Nat} {zT zL : List Int} (h : NetRow w v nT zT nL zL) : ∃ aT cT aL cL, v = .agg #[.slice aT nT cT, .slice aL nL cL] := by
  obtain ⟨vT, vL, rfl, hT, hL⟩ := h
  obtain ⟨aT, cT, rfl⟩ : ∃ a c, vT = .slice a nT c := by obtain ⟨_, _, _, a, c, rfl, _⟩ := hT; exact ⟨a, c, rfl⟩
  obtain ⟨aL, cL, rfl⟩ : ∃ a c, vL = .slice a nL c := by obtain ⟨_, _, _, a, c, rfl, _⟩ := hL; exact ⟨a, c, rfl⟩
  exact ⟨aT, cT, aL, cL, rfl⟩
theorem introw_sl {kd : IntKind} {s : Nat} {w : World} {v : Value} {n : Nat} {z : List Int} (h : IntRow kd s w v n z) : ∃ a c, v = .slice a n c := by
  obtain ⟨_, _, _, a, c, rfl, _⟩ := h
  exact ⟨a, c, rfl⟩
/-- how many are held in a second: both alike, at most all -/
theorem heldPair (v : Value) (nT : Nat) (zT : List Int) (nL : Nat) (zL : List Int) (u : Value) (nF : Nat) (zF : List Int) (link : Int) (x : Value) (m : Nat) (y : List Int) (t : Int) : ∃ (hv : Int) (g : Bool),
    (∀ w, NetRow w v nT zT nL zL → IntRow .i64 3 w u nF zF → IntRow .i64 2 w x m y → Calls Try.prog 47 #[v, u, .int .i64 link, x, .int .i64 t] w fun e w' => e = .returned (.tuple #[.int .i64 hv, .bool g]) ∧ Ext w w') ∧
    (∀ w, NetRow w v nT zT nL zL → IntRow .i64 3 w u nF zF → IntRow .i64 2 w x m y → Calls Try.prog 46 #[v, u, .int .i64 link, x, .int .i64 t] w fun e w' => e = .returned (.tuple #[.int .i64 hv, .bool g]) ∧ Ext w w') ∧ (g = true → hv ≤ m) := by
  refine ⟨haV nT zT nL zL zF nF link y m t, haC nT zT nL zL zF nF link y m t, fun w h1 h2 h3 => iHeldAt_any v nT zT nL zL u nF zF link x m y t w h1 h2 h3, fun w h1 h2 h3 => sHeldAt_any v nT zT nL zL u nF zF link x m y t w h1 h2 h3, fun h => ?_⟩
  unfold haV
  rw [if_pos h]
  have := heldN_le y (hsL zF nF link y m) t m
  omega
end Go.Proofs.Ytlmfohjfbolhpaa
