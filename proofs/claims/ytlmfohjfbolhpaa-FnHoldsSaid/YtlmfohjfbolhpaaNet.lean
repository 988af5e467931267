/- Nets carried over, measured, compared, marked: what each helper of the statements returns. No condition. -/
import Derived.Test.YtlmfohjfbolhpaaConvTower
import Derived.Test.YtlmfohjfbolhpaaConvLink
import Derived.Maps.RangeWalk
import Derived.Deep.AppendLies
namespace Go.Proofs.Ytlmfohjfbolhpaa
open Go.RowKit
set_option linter.unusedSimpArgs false
set_option linter.unusedVariables false

/-- two rows, of nT towers and of nL links -/
def NetRow (w : World) (v : Value) (nT : Nat) (zT : List Int) (nL : Nat) (zL : List Int) : Prop := ∃ vT vL, v = .agg #[vT, vL] ∧ IntRow .i64 3 w vT nT zT ∧ IntRow .i64 3 w vL nL zL
theorem NetRow.ext {w w' : World} {v : Value} {nT nL : Nat} {zT zL : List Int} (h : NetRow w v nT zT nL zL) (e : Ext w w') : NetRow w' v nT zT nL zL := by
  obtain ⟨vT, vL, rfl, hT, hL⟩ := h
  exact ⟨vT, vL, rfl, hT.ext e, hL.ext e⟩
theorem NetRow.wf {w : World} {v : Value} {nT nL : Nat} {zT zL : List Int} (h : NetRow w v nT zT nL zL) : (∀ x ∈ zT, (Lit.int .i64 x).wf = true) ∧ ∀ x ∈ zL, (Lit.int .i64 x).wf = true := by
  obtain ⟨vT, vL, rfl, hT, hL⟩ := h
  exact ⟨hT.2.2.1, hL.2.2.1⟩
/-- a net of the call's own -/
def OwnNet (w : World) (base : Nat) (v : Value) (nT : Nat) (zT : List Int) (nL : Nat) (zL : List Int) : Prop := ∃ gT gL, v = .agg #[.slice (some ⟨gT, 0, none⟩) nT nT, .slice (some ⟨gL, 0, none⟩) nL nL] ∧ gT < gL ∧ w.ownsRow base 143 3 (.slice (some ⟨gT, 0, none⟩) nT nT) nT (zT.map (Value.int .i64)) ∧ w.ownsRow base 85 3 (.slice (some ⟨gL, 0, none⟩) nL nL) nL (zL.map (Value.int .i64))
theorem OwnNet.ext {w w' : World} {base : Nat} {v : Value} {nT nL : Nat} {zT zL : List Int} (h : OwnNet w base v nT zT nL zL) (e : Ext w w') : OwnNet w' base v nT zT nL zL := by
  obtain ⟨gT, gL, rfl, hlt, hT, hL⟩ := h
  exact ⟨gT, gL, rfl, hlt, row_ext hT e, row_ext hL e⟩
theorem OwnNet.net {w : World} {base : Nat} {v : Value} {nT nL : Nat} {zT zL : List Int} (h : OwnNet w base v nT zT nL zL) (h1 : nT ≤ maxLen) (h2 : nL ≤ maxLen) (h3 : ∀ x ∈ zT, (Lit.int .i64 x).wf = true) (h4 : ∀ x ∈ zL, (Lit.int .i64 x).wf = true) : NetRow w v nT zT nL zL := by
  obtain ⟨gT, gL, rfl, hlt, hT, hL⟩ := h
  exact ⟨_, _, rfl, row_ints hT h1 h3, row_ints hL h2 h4⟩
theorem OwnNet.hi {w : World} {base : Nat} {v : Value} {nT nL : Nat} {zT zL : List Int} (h : OwnNet w base v nT zT nL zL) : ∀ gT gL, v = .agg #[.slice (some ⟨gT, 0, none⟩) nT nT, .slice (some ⟨gL, 0, none⟩) nL nL] → gL < w.heap.size := by
  obtain ⟨gT, gL, rfl, hlt, hT, hL⟩ := h
  intro gT' gL' he
  simp only [Value.agg.injEq, Array.mk.injEq, List.cons.injEq, Value.slice.injEq, Option.some.injEq, Addr.mk.injEq, and_true, true_and] at he
  obtain ⟨rfl, rfl⟩ := he
  exact (hL.lt _ rfl).2

/-- only blocks from lo to below hi have turned, of those that were there -/
def Chg (lo hi : Nat) (w w' : World) : Prop := w'.os = w.os ∧ w'.tape = w.tape ∧ w'.output = w.output ∧ w.heap.size ≤ w'.heap.size ∧ ∀ k, k < w.heap.size → (k < lo ∨ hi ≤ k) → w'.heap[k]? = w.heap[k]?
theorem Chg.of_grown {lo hi : Nat} {w w' : World} {r : Option Nat} (g : w.grownBy w' r) (hr : ∀ k, r = some k → lo ≤ k ∧ k < hi) : Chg lo hi w w' :=
  ⟨g.os, g.tape, g.output, g.size, fun k hk h => g.block k hk (fun e => by have := hr k e.symm; omega)⟩
theorem Chg.of_ext {lo hi : Nat} {w w' : World} (h : Ext w w') : Chg lo hi w w' := Chg.of_grown h.grown (fun k hk => by simp at hk)
theorem Chg.trans {lo hi : Nat} {a b c : World} (h : Chg lo hi a b) (k : Chg lo hi b c) : Chg lo hi a c :=
  ⟨k.1.trans h.1, k.2.1.trans h.2.1, k.2.2.1.trans h.2.2.1, Nat.le_trans h.2.2.2.1 k.2.2.2.1, fun j hj hh => (k.2.2.2.2 j (Nat.lt_of_lt_of_le hj h.2.2.2.1) hh).trans (h.2.2.2.2 j hj hh)⟩
theorem Ext.of_chg {a w w' : World} {lo hi : Nat} (h : Ext a w) (c : Chg lo hi w w') (hlo : a.heap.size ≤ lo) : Ext a w' :=
  show Below a.heap.size a w' from ⟨c.1.trans (Below.os h), c.2.1.trans (Below.tape h), c.2.2.1.trans (Below.output h), Nat.le_trans (Below.size h) c.2.2.2.1, fun k hk => (c.2.2.2.2 k (Nat.lt_of_lt_of_le hk (Below.size h)) (.inl (by omega))).trans (Below.block h k hk)⟩
theorem row_chg {w w' : World} {lo hi base : Nat} {e : TypeId} {size : Nat} {v : Value} {n : Nat} {xs : List Value} (h : w.ownsRow base e size v n xs) (c : Chg lo hi w w') (hv : ∀ k, v.ownBlock = some k → k < lo ∨ hi ≤ k) : w'.ownsRow base e size v n xs := by
  refine ⟨h.1, ?_⟩
  rcases h.2 with h2 | ⟨g, cap, cur, rfl, h3, h4, h5⟩
  · exact .inl h2
  · exact .inr ⟨g, cap, cur, rfl, h3, by rw [c.2.2.2.2 g (h.lt g rfl).2 (hv g rfl)]; exact h4, h5⟩
theorem chg_set (w : World) (b j : Nat) (u : Value) : Chg b (b + 1) w (w.setCell ⟨b, j, none⟩ u) :=
  ⟨rfl, rfl, rfl, by simp, fun k _ hk => heap_setCell_other w ⟨b, j, none⟩ k u (by simp; omega)⟩
theorem row_set {w : World} {base : Nat} {e : TypeId} {size : Nat} {v : Value} {n : Nat} {xs : List Value} (h : w.ownsRow base e size v n xs) {b j : Nat} {u : Value} (hb : ∀ k, v.ownBlock = some k → k ≠ b) : (w.setCell ⟨b, j, none⟩ u).ownsRow base e size v n xs :=
  row_chg h (chg_set w b j u) (fun k hk => by have := hb k hk; omega)

set_option maxRecDepth 100000 in
set_option maxHeartbeats 800000 in
theorem toNet_any (v : Value) (nT nL : Nat) (zT zL : List Int) (w : World) (h : NetRow w v nT zT nL zL) (hnT : nT ≤ 1048576) (hnL : nL ≤ 1048576) :
    Calls Try.prog 17 #[v] w fun e w' => ∃ v', e = .returned v' ∧ OwnNet w' w.heap.size v' nT zT nL zL ∧ Ext w w' := by
  obtain ⟨vT, vL, rfl, hT, hL⟩ := h
  have hT0 := hT
  have hL0 := hL
  obtain ⟨_, hm1, _, aT, cT, rfl, _, hc1, _⟩ := hT
  obtain ⟨_, hm2, _, aL, cL, rfl, _, hc2, _⟩ := hL
  clear hm1 hm2 hc1 hc2
  go_enter Try.func17, Try.ntmps17
  go_wp2_with (fail)
  refine (toTowerS_any _ nT zT _ (hT0.ext (by repeat (first | exact Ext.refl _ | assumption | refine Ext.alloc ?_ _ | refine Ext.drew ?_ | refine Ext.drewN ?_ _ | refine Ext.setCell ?_ (by first | exact Nat.le_refl _ | (simp; done) | (dsimp only; omega) | (simp only [World.size_alloc, World.size_setCell]; omega)) _ | refine Ext.trans ?_ (by assumption)))) hnT).mono ?_
  rintro e w1 ⟨gT, rfl, hrT, hb1⟩
  have hz1 := Ext.size hb1
  try simp only [World.size_alloc, World.size_setCell] at hz1
  obtain ⟨hc1, hf1⟩ := Ext.cells hb1
  try have hk1_0_0 := fun o => hc1 (w.heap.size) o (by (try simp only [World.size_alloc, World.size_setCell]); omega)
  try have hj1_0_0 := fun o => hf1 (w.heap.size) o (by (try simp only [World.size_alloc, World.size_setCell]); omega)
  try have hy1_0_0 : w.heap.size < w1.heap.size := by omega
  try have hk1_0_1 := fun o => hc1 (w.heap.size + 1) o (by (try simp only [World.size_alloc, World.size_setCell]); omega)
  try have hj1_0_1 := fun o => hf1 (w.heap.size + 1) o (by (try simp only [World.size_alloc, World.size_setCell]); omega)
  try have hy1_0_1 : w.heap.size + 1 < w1.heap.size := by omega
  try have hk1_0_2 := fun o => hc1 (w.heap.size + 1 + 1) o (by (try simp only [World.size_alloc, World.size_setCell]); omega)
  try have hj1_0_2 := fun o => hf1 (w.heap.size + 1 + 1) o (by (try simp only [World.size_alloc, World.size_setCell]); omega)
  try have hy1_0_2 : w.heap.size + 1 + 1 < w1.heap.size := by omega
  clear hc1 hf1
  have hgT := hrT.lt gT rfl
  simp only [World.size_alloc] at hgT
  go_wp2_with (fail)
  refine (toLinkS_any _ nL zL _ (hL0.ext (by repeat (first | exact Ext.refl _ | assumption | refine Ext.alloc ?_ _ | refine Ext.drew ?_ | refine Ext.drewN ?_ _ | refine Ext.setCell ?_ (by first | exact Nat.le_refl _ | (simp; done) | (dsimp only; omega) | (simp only [World.size_alloc, World.size_setCell]; omega)) _ | refine Ext.trans ?_ (by assumption)))) hnL).mono ?_
  rintro e w2 ⟨gL, rfl, hrL, hb2⟩
  have hz2 := Ext.size hb2
  try simp only [World.size_alloc, World.size_setCell] at hz2
  obtain ⟨hc2, hf2⟩ := Ext.cells hb2
  try have hk2_0_0 := fun o => hc2 (w.heap.size) o (by (try simp only [World.size_alloc, World.size_setCell]); omega)
  try have hj2_0_0 := fun o => hf2 (w.heap.size) o (by (try simp only [World.size_alloc, World.size_setCell]); omega)
  try have hy2_0_0 : w.heap.size < w2.heap.size := by omega
  try have hk2_0_1 := fun o => hc2 (w.heap.size + 1) o (by (try simp only [World.size_alloc, World.size_setCell]); omega)
  try have hj2_0_1 := fun o => hf2 (w.heap.size + 1) o (by (try simp only [World.size_alloc, World.size_setCell]); omega)
  try have hy2_0_1 : w.heap.size + 1 < w2.heap.size := by omega
  try have hk2_0_2 := fun o => hc2 (w.heap.size + 1 + 1) o (by (try simp only [World.size_alloc, World.size_setCell]); omega)
  try have hj2_0_2 := fun o => hf2 (w.heap.size + 1 + 1) o (by (try simp only [World.size_alloc, World.size_setCell]); omega)
  try have hy2_0_2 : w.heap.size + 1 + 1 < w2.heap.size := by omega
  try have hk2_1_0 := fun o => hc2 (w1.heap.size) o (by (try simp only [World.size_alloc, World.size_setCell]); omega)
  try have hj2_1_0 := fun o => hf2 (w1.heap.size) o (by (try simp only [World.size_alloc, World.size_setCell]); omega)
  try have hy2_1_0 : w1.heap.size < w2.heap.size := by omega
  try have hk2_1_1 := fun o => hc2 (w1.heap.size + 1) o (by (try simp only [World.size_alloc, World.size_setCell]); omega)
  try have hj2_1_1 := fun o => hf2 (w1.heap.size + 1) o (by (try simp only [World.size_alloc, World.size_setCell]); omega)
  try have hy2_1_1 : w1.heap.size + 1 < w2.heap.size := by omega
  clear hc2 hf2
  have hgL := hrL.lt gL rfl
  simp only [World.size_alloc, World.size_setCell] at hgL
  go_wp2_with (fail)
  refine bodyPost_ret (v := .agg #[.slice (some ⟨gT, 0, none⟩) nT nT, .slice (some ⟨gL, 0, none⟩) nL nL]) (by simp [results, Try.results17, go_sem, *]) rfl ⟨_, rfl, ⟨gT, gL, rfl, by omega, ?_, ?_⟩, (by repeat (first | exact Ext.refl _ | assumption | refine Ext.alloc ?_ _ | refine Ext.drew ?_ | refine Ext.drewN ?_ _ | refine Ext.setCell ?_ (by first | exact Nat.le_refl _ | (simp; done) | (dsimp only; omega) | (simp only [World.size_alloc, World.size_setCell]; omega)) _ | refine Ext.trans ?_ (by assumption)))⟩
  · repeat (first | exact row_mono (row_ext (row_set hrT (by simp [Value.ownBlock]; omega)) hb2) (by simp; omega) | refine row_set ?_ (by simp [Value.ownBlock]; omega))
  · repeat (first | exact row_mono hrL (by simp only [World.size_alloc, World.size_setCell]; omega) | refine row_set ?_ (by simp [Value.ownBlock]; omega))

set_option maxRecDepth 100000 in
set_option maxHeartbeats 800000 in
theorem szNet_any (v : Value) (nT : Nat) (zT : List Int) (nL : Nat) (zL : List Int) (w : World) (left : Int) (h : NetRow w v nT zT nL zL) (h1 : 0 ≤ left) (h2 : left ≤ 1048576) :
    Calls Try.prog 14 #[v, .int .i64 left] w fun e w' => e = .returned (.int .i64 (if nT + nL ≤ left then left - nT - nL else -1)) ∧ Ext w w' := by
  obtain ⟨vT, vL, rfl, hT, hL⟩ := h
  have hT0 := hT
  have hL0 := hL
  obtain ⟨_, hm1, _, aT, cT, rfl, _, hc1, _⟩ := hT
  obtain ⟨_, hm2, _, aL, cL, rfl, _, hc2, _⟩ := hL
  clear hm1 hm2 hc1 hc2
  by_cases c1 : (nT : Int) ≤ left
  · obtain ⟨q, hq⟩ : ∃ q : Int, q = left - nT := ⟨_, rfl⟩
    have hq0 : 0 ≤ q := by omega
    have hq1 : q ≤ 1048576 := by omega
    have H1 := fun W hW => szTowerS_any (.slice aT nT cT) nT zT W left hW h1 h2
    rw [if_pos c1, ← hq] at H1
    by_cases c2 : (nL : Int) ≤ q
    · have H2 := fun W hW => szLinkS_any (.slice aL nL cL) nL zL W q hW hq0 hq1
      rw [if_pos c2] at H2
      rw [show (if nT + nL ≤ left then left - nT - nL else -1) = q - nL by rw [if_pos (by omega)]; omega]
      have hq2 : 0 ≤ q - nL := by omega
      have HQ := hid hq
      clear hq
      go_enter Try.func14, Try.ntmps14
      go_wp2_with (fail)
      refine (H1 _ (hT0.ext (by repeat (first | exact Ext.refl _ | assumption | refine Ext.alloc ?_ _ | refine Ext.drew ?_ | refine Ext.drewN ?_ _ | refine Ext.setCell ?_ (by first | exact Nat.le_refl _ | (simp; done) | (dsimp only; omega) | (simp only [World.size_alloc, World.size_setCell]; omega)) _ | refine Ext.trans ?_ (by assumption))))).mono ?_
      rintro e w' ⟨rfl, rfl⟩
      go_wp2_with (fail)
      refine (H2 _ (hL0.ext (by repeat (first | exact Ext.refl _ | assumption | refine Ext.alloc ?_ _ | refine Ext.drew ?_ | refine Ext.drewN ?_ _ | refine Ext.setCell ?_ (by first | exact Nat.le_refl _ | (simp; done) | (dsimp only; omega) | (simp only [World.size_alloc, World.size_setCell]; omega)) _ | refine Ext.trans ?_ (by assumption))))).mono ?_
      rintro e w' ⟨rfl, rfl⟩
      go_wp2_with (fail)
      go_ret
      exact ⟨rfl, (by repeat (first | exact Ext.refl _ | assumption | refine Ext.alloc ?_ _ | refine Ext.drew ?_ | refine Ext.drewN ?_ _ | refine Ext.setCell ?_ (by first | exact Nat.le_refl _ | (simp; done) | (dsimp only; omega) | (simp only [World.size_alloc, World.size_setCell]; omega)) _ | refine Ext.trans ?_ (by assumption)))⟩
    · have H2 := fun W hW => szLinkS_any (.slice aL nL cL) nL zL W q hW hq0 hq1
      rw [if_neg c2] at H2
      rw [show (if nT + nL ≤ left then left - nT - nL else -1) = -1 by rw [if_neg (by omega)]]
      have HQ := hid hq
      clear hq
      go_enter Try.func14, Try.ntmps14
      go_wp2_with (fail)
      refine (H1 _ (hT0.ext (by repeat (first | exact Ext.refl _ | assumption | refine Ext.alloc ?_ _ | refine Ext.drew ?_ | refine Ext.drewN ?_ _ | refine Ext.setCell ?_ (by first | exact Nat.le_refl _ | (simp; done) | (dsimp only; omega) | (simp only [World.size_alloc, World.size_setCell]; omega)) _ | refine Ext.trans ?_ (by assumption))))).mono ?_
      rintro e w' ⟨rfl, rfl⟩
      go_wp2_with (fail)
      refine (H2 _ (hL0.ext (by repeat (first | exact Ext.refl _ | assumption | refine Ext.alloc ?_ _ | refine Ext.drew ?_ | refine Ext.drewN ?_ _ | refine Ext.setCell ?_ (by first | exact Nat.le_refl _ | (simp; done) | (dsimp only; omega) | (simp only [World.size_alloc, World.size_setCell]; omega)) _ | refine Ext.trans ?_ (by assumption))))).mono ?_
      rintro e w' ⟨rfl, rfl⟩
      go_wp2_with (fail)
      go_ret
      exact ⟨rfl, (by repeat (first | exact Ext.refl _ | assumption | refine Ext.alloc ?_ _ | refine Ext.drew ?_ | refine Ext.drewN ?_ _ | refine Ext.setCell ?_ (by first | exact Nat.le_refl _ | (simp; done) | (dsimp only; omega) | (simp only [World.size_alloc, World.size_setCell]; omega)) _ | refine Ext.trans ?_ (by assumption)))⟩
  · have H1 := fun W hW => szTowerS_any (.slice aT nT cT) nT zT W left hW h1 h2
    rw [if_neg c1] at H1
    rw [show (if nT + nL ≤ left then left - nT - nL else -1) = -1 by rw [if_neg (by omega)]]
    go_enter Try.func14, Try.ntmps14
    go_wp2_with (fail)
    refine (H1 _ (hT0.ext (by repeat (first | exact Ext.refl _ | assumption | refine Ext.alloc ?_ _ | refine Ext.drew ?_ | refine Ext.drewN ?_ _ | refine Ext.setCell ?_ (by first | exact Nat.le_refl _ | (simp; done) | (dsimp only; omega) | (simp only [World.size_alloc, World.size_setCell]; omega)) _ | refine Ext.trans ?_ (by assumption))))).mono ?_
    rintro e w' ⟨rfl, rfl⟩
    go_wp2_with (fail)
    go_ret
    exact ⟨rfl, (by repeat (first | exact Ext.refl _ | assumption | refine Ext.alloc ?_ _ | refine Ext.drew ?_ | refine Ext.drewN ?_ _ | refine Ext.setCell ?_ (by first | exact Nat.le_refl _ | (simp; done) | (dsimp only; omega) | (simp only [World.size_alloc, World.size_setCell]; omega)) _ | refine Ext.trans ?_ (by assumption)))⟩

set_option maxRecDepth 100000 in
set_option maxHeartbeats 800000 in
theorem eqNet_same (v v2 : Value) (nT : Nat) (zT : List Int) (nL : Nat) (zL : List Int) (w : World) (h : NetRow w v nT zT nL zL) (h2 : NetRow w v2 nT zT nL zL) :
    Calls Try.prog 21 #[v, v2] w fun e w' => e = .returned (.bool true) ∧ Ext w w' := by
  obtain ⟨vT, vL, rfl, hT, hL⟩ := h
  obtain ⟨uT, uL, rfl, kT, kL⟩ := h2
  have hT0 := hT
  have hL0 := hL
  have kT0 := kT
  have kL0 := kL
  obtain ⟨_, _, _, aT, cT, rfl, _, _, _⟩ := hT
  obtain ⟨_, _, _, aL, cL, rfl, _, _, _⟩ := hL
  obtain ⟨_, _, _, aT2, cT2, rfl, _, _, _⟩ := kT
  obtain ⟨_, _, _, aL2, cL2, rfl, _, _, _⟩ := kL
  go_enter Try.func21, Try.ntmps21
  go_wp2_with (fail)
  refine (eqTowerS_same _ _ nT zT _ (hT0.ext (by repeat (first | exact Ext.refl _ | assumption | refine Ext.alloc ?_ _ | refine Ext.drew ?_ | refine Ext.drewN ?_ _ | refine Ext.setCell ?_ (by first | exact Nat.le_refl _ | (simp; done) | (dsimp only; omega) | (simp only [World.size_alloc, World.size_setCell]; omega)) _ | refine Ext.trans ?_ (by assumption)))) (kT0.ext (by repeat (first | exact Ext.refl _ | assumption | refine Ext.alloc ?_ _ | refine Ext.drew ?_ | refine Ext.drewN ?_ _ | refine Ext.setCell ?_ (by first | exact Nat.le_refl _ | (simp; done) | (dsimp only; omega) | (simp only [World.size_alloc, World.size_setCell]; omega)) _ | refine Ext.trans ?_ (by assumption))))).mono ?_
  rintro e w1 ⟨rfl, hb1⟩
  have hz1 := Ext.size hb1
  try simp only [World.size_alloc, World.size_setCell] at hz1
  obtain ⟨hc1, hf1⟩ := Ext.cells hb1
  try have hk1_0_0 := fun o => hc1 (w.heap.size) o (by (try simp only [World.size_alloc, World.size_setCell]); omega)
  try have hj1_0_0 := fun o => hf1 (w.heap.size) o (by (try simp only [World.size_alloc, World.size_setCell]); omega)
  try have hy1_0_0 : w.heap.size < w1.heap.size := by omega
  try have hk1_0_1 := fun o => hc1 (w.heap.size + 1) o (by (try simp only [World.size_alloc, World.size_setCell]); omega)
  try have hj1_0_1 := fun o => hf1 (w.heap.size + 1) o (by (try simp only [World.size_alloc, World.size_setCell]); omega)
  try have hy1_0_1 : w.heap.size + 1 < w1.heap.size := by omega
  try have hk1_0_2 := fun o => hc1 (w.heap.size + 1 + 1) o (by (try simp only [World.size_alloc, World.size_setCell]); omega)
  try have hj1_0_2 := fun o => hf1 (w.heap.size + 1 + 1) o (by (try simp only [World.size_alloc, World.size_setCell]); omega)
  try have hy1_0_2 : w.heap.size + 1 + 1 < w1.heap.size := by omega
  clear hc1 hf1
  go_wp2_with (fail)
  refine (eqLinkS_same _ _ nL zL _ (hL0.ext (by repeat (first | exact Ext.refl _ | assumption | refine Ext.alloc ?_ _ | refine Ext.drew ?_ | refine Ext.drewN ?_ _ | refine Ext.setCell ?_ (by first | exact Nat.le_refl _ | (simp; done) | (dsimp only; omega) | (simp only [World.size_alloc, World.size_setCell]; omega)) _ | refine Ext.trans ?_ (by assumption)))) (kL0.ext (by repeat (first | exact Ext.refl _ | assumption | refine Ext.alloc ?_ _ | refine Ext.drew ?_ | refine Ext.drewN ?_ _ | refine Ext.setCell ?_ (by first | exact Nat.le_refl _ | (simp; done) | (dsimp only; omega) | (simp only [World.size_alloc, World.size_setCell]; omega)) _ | refine Ext.trans ?_ (by assumption))))).mono ?_
  rintro e w2 ⟨rfl, hb2⟩
  have hz2 := Ext.size hb2
  try simp only [World.size_alloc, World.size_setCell] at hz2
  obtain ⟨hc2, hf2⟩ := Ext.cells hb2
  try have hk2_0_0 := fun o => hc2 (w.heap.size) o (by (try simp only [World.size_alloc, World.size_setCell]); omega)
  try have hj2_0_0 := fun o => hf2 (w.heap.size) o (by (try simp only [World.size_alloc, World.size_setCell]); omega)
  try have hy2_0_0 : w.heap.size < w2.heap.size := by omega
  try have hk2_0_1 := fun o => hc2 (w.heap.size + 1) o (by (try simp only [World.size_alloc, World.size_setCell]); omega)
  try have hj2_0_1 := fun o => hf2 (w.heap.size + 1) o (by (try simp only [World.size_alloc, World.size_setCell]); omega)
  try have hy2_0_1 : w.heap.size + 1 < w2.heap.size := by omega
  try have hk2_0_2 := fun o => hc2 (w.heap.size + 1 + 1) o (by (try simp only [World.size_alloc, World.size_setCell]); omega)
  try have hj2_0_2 := fun o => hf2 (w.heap.size + 1 + 1) o (by (try simp only [World.size_alloc, World.size_setCell]); omega)
  try have hy2_0_2 : w.heap.size + 1 + 1 < w2.heap.size := by omega
  try have hk2_1_0 := fun o => hc2 (w1.heap.size) o (by (try simp only [World.size_alloc, World.size_setCell]); omega)
  try have hj2_1_0 := fun o => hf2 (w1.heap.size) o (by (try simp only [World.size_alloc, World.size_setCell]); omega)
  try have hy2_1_0 : w1.heap.size < w2.heap.size := by omega
  try have hk2_1_1 := fun o => hc2 (w1.heap.size + 1) o (by (try simp only [World.size_alloc, World.size_setCell]); omega)
  try have hj2_1_1 := fun o => hf2 (w1.heap.size + 1) o (by (try simp only [World.size_alloc, World.size_setCell]); omega)
  try have hy2_1_1 : w1.heap.size + 1 < w2.heap.size := by omega
  clear hc2 hf2
  go_wp2_with (fail)
  go_ret
  exact ⟨rfl, (by repeat (first | exact Ext.refl _ | assumption | refine Ext.alloc ?_ _ | refine Ext.drew ?_ | refine Ext.drewN ?_ _ | refine Ext.setCell ?_ (by first | exact Nat.le_refl _ | (simp; done) | (dsimp only; omega) | (simp only [World.size_alloc, World.size_setCell]; omega)) _ | refine Ext.trans ?_ (by assumption)))⟩

set_option maxRecDepth 100000 in
set_option maxHeartbeats 800000 in
theorem markNet_any (v : Value) (nT : Nat) (zT : List Int) (nL : Nat) (zL : List Int) (lo hi : Nat) (w : World) (k0 : Int) (h : OwnNet w lo v nT zT nL zL) (hh : ∀ gT gL, v = .agg #[.slice (some ⟨gT, 0, none⟩) nT nT, .slice (some ⟨gL, 0, none⟩) nL nL] → gL < hi) (hnT : nT ≤ 1048576) (hnL : nL ≤ 1048576) (h0 : 0 ≤ k0) (h1 : k0 ≤ 10000000) :
    Calls Try.prog 22 #[v, .int .i64 k0] w fun e w' => e = .returned (.int .i64 (k0 + 3 * nT + 3 * nL)) ∧ Chg lo hi w w' := by
  obtain ⟨gT, gL, rfl, hlt, hT, hL⟩ := h
  have hg := hh gT gL rfl
  clear hh
  have hT1 := hT.lt gT rfl
  have hL1 := hL.lt gL rfl
  have hx0 : Ext w (w.alloc (.cells #[.slice (some ⟨gT, 0, none⟩) nT nT, .slice (some ⟨gL, 0, none⟩) nL nL] 35)) := (by repeat (first | exact Ext.refl _ | assumption | refine Ext.alloc ?_ _ | refine Ext.drew ?_ | refine Ext.drewN ?_ _ | refine Ext.setCell ?_ (by first | exact Nat.le_refl _ | (simp; done) | (dsimp only; omega) | (simp only [World.size_alloc, World.size_setCell]; omega)) _ | refine Ext.trans ?_ (by assumption)))
  have hT0 := row_ext hT hx0
  have hL0 := row_ext hL hx0
  clear hT hL
  go_enter Try.func22, Try.ntmps22
  go_wp2_with (fail)
  refine (markTowerS_any _ nT _ lo _ k0 hT0 (by omega) (by omega) (by omega)).mono ?_
  rintro e w1 ⟨rfl, hr1, hg1⟩
  have hL2 := hL0.kept hg1 (.inr (by simp [Value.ownBlock]; omega))
  have k0 := fun o => hg1.cell_far ⟨w.heap.size, o, none⟩ (by simp) (by simp [Value.ownBlock]; omega)
  have hc1 : Chg lo hi w w1 := (Chg.of_ext hx0).trans (Chg.of_grown hg1 (fun k hk => by simp [Value.ownBlock] at hk; omega))
  clear hr1 hT0 hL0 hg1 hx0
  go_wp2_with (fail)
  refine (markLinkS_any _ nL _ lo _ _ hL2 (by omega) (by omega) (by omega)).mono ?_
  rintro e w2 ⟨rfl, hr2, hg2⟩
  have hc2 : Chg lo hi w w2 := hc1.trans (Chg.of_grown hg2 (fun k hk => by simp [Value.ownBlock] at hk; omega))
  clear hr2 hg2 hc1 hL2 k0
  go_wp2_with (fail)
  go_ret
  exact ⟨rfl, hc2⟩
end Go.Proofs.Ytlmfohjfbolhpaa
