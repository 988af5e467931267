/- Seconds of fog in a clear range: none. Conditions: the question is valid, the range is clear. -/
import Derived.Test.YtlmfohjfbolhpaaHolP
namespace Go.Proofs.Ytlmfohjfbolhpaa
open Go.RowKit
set_option linter.unusedSimpArgs false
set_option linter.unusedVariables false

set_option maxRecDepth 100000 in
set_option maxHeartbeats 1600000 in
theorem fogAsked_true (v : Value) (nT : Nat) (zT : List Int) (nL : Nat) (zL : List Int) (u : Value) (n : Nat) (z : List Int) (i a b : Int) (w : World) (hN : NetRow w v nT zT nL zL) (hU : IntRow .i64 3 w u n z) (hK : askH nT zT nL zL z n i = true) (ha : 0 ≤ a) (hab : a ≤ b) (hb : b ≤ 10000) :
    Calls Try.prog 106 #[v, u, .int .i64 i, .int .i64 a, .int .i64 b] w fun e w' => e = .returned (.bool true) ∧ Ext w w' := by
  have hN0 := hN
  obtain ⟨vT, vL, rfl, hT, hL⟩ := hN
  obtain ⟨_, hmT, _, aT, cT, rfl, _, _, _⟩ := hT
  obtain ⟨_, hmL, _, aL, cL, rfl, _, _, _⟩ := hL
  have hnT : nT ≤ 9223372036854775807 := by unfold maxLen at hmT; omega
  have hnL : nL ≤ 9223372036854775807 := by unfold maxLen at hmL; omega
  clear hmT hmL
  have C0 := fun (W : World) (hW : Ext w W) => isLink_any _ nT zT nL zL i W (hN0.ext hW)
  have C1 := fun (W : World) (hW : Ext w W) => areFogs_any _ nT zT nL zL u n z W (hN0.ext hW) (hU.ext hW)
  unfold askH at hK
  rw [Bool.and_eq_true, Bool.and_eq_true] at hK
  rw [hK.1, hK.2.2, Bool.and_self] at C0
  rw [hK.2.1] at C1
  clear hK
  have t1 : decide (0 ≤ a) = true := by simpa using ha
  have t2 : decide (a ≤ b) = true := by simpa using hab
  have t3 : decide (b ≤ 10000) = true := by simpa using hb
  go_enter Try.func106, Try.ntmps106
  go_wp2_with (fail)
  refine (C0 _ (by repeat (first | exact Ext.refl _ | assumption | refine Ext.alloc ?_ _ | refine Ext.drew ?_ | refine Ext.drewN ?_ _ | refine Ext.setCell ?_ (by first | exact Nat.le_refl _ | (simp; done) | (dsimp only; omega) | (simp only [World.size_alloc, World.size_setCell]; omega)) _ | refine Ext.trans ?_ (by assumption)))).mono ?_
  rintro e w1 ⟨rfl, hb1⟩
  have hz1 := Ext.size hb1
  try simp only [World.size_alloc, World.size_setCell] at hz1
  obtain ⟨hc1, hf1⟩ := Ext.cells hb1
  try have hk1_0_0 := fun o => hc1 (w.heap.size) o (by (try simp only [World.size_alloc, World.size_setCell]); omega)
  try have hj1_0_0 := fun o => hf1 (w.heap.size) o (by (try simp only [World.size_alloc, World.size_setCell]); omega)
  try have hy1_0_0 : w.heap.size < w1.heap.size := by omega
  try have hk1_0_1 := fun o => hc1 (w.heap.size + 1) o (by (try simp only [World.size_alloc, World.size_setCell]); omega)
  try have hj1_0_1 := fun o => hf1 (w.heap.size + 1) o (by (try simp only [World.size_alloc, World.size_setCell]); omega)
  try have hy1_0_1 : w.heap.size + 1 < w1.heap.size := by omega
  try have hk1_0_2 := fun o => hc1 (w.heap.size + 1 + 1) o (by (try simp only [World.size_alloc, World.size_setCell]); omega)
  try have hj1_0_2 := fun o => hf1 (w.heap.size + 1 + 1) o (by (try simp only [World.size_alloc, World.size_setCell]); omega)
  try have hy1_0_2 : w.heap.size + 1 + 1 < w1.heap.size := by omega
  clear hc1 hf1
  go_wp2_with (fail)
  refine (C1 _ (by repeat (first | exact Ext.refl _ | assumption | refine Ext.alloc ?_ _ | refine Ext.drew ?_ | refine Ext.drewN ?_ _ | refine Ext.setCell ?_ (by first | exact Nat.le_refl _ | (simp; done) | (dsimp only; omega) | (simp only [World.size_alloc, World.size_setCell]; omega)) _ | refine Ext.trans ?_ (by assumption)))).mono ?_
  rintro e w2 ⟨rfl, hb2⟩
  have hz2 := Ext.size hb2
  try simp only [World.size_alloc, World.size_setCell] at hz2
  obtain ⟨hc2, hf2⟩ := Ext.cells hb2
  try have hk2_0_0 := fun o => hc2 (w.heap.size) o (by (try simp only [World.size_alloc, World.size_setCell]); omega)
  try have hj2_0_0 := fun o => hf2 (w.heap.size) o (by (try simp only [World.size_alloc, World.size_setCell]); omega)
  try have hy2_0_0 : w.heap.size < w2.heap.size := by omega
  try have hk2_0_1 := fun o => hc2 (w.heap.size + 1) o (by (try simp only [World.size_alloc, World.size_setCell]); omega)
  try have hj2_0_1 := fun o => hf2 (w.heap.size + 1) o (by (try simp only [World.size_alloc, World.size_setCell]); omega)
  try have hy2_0_1 : w.heap.size + 1 < w2.heap.size := by omega
  try have hk2_0_2 := fun o => hc2 (w.heap.size + 1 + 1) o (by (try simp only [World.size_alloc, World.size_setCell]); omega)
  try have hj2_0_2 := fun o => hf2 (w.heap.size + 1 + 1) o (by (try simp only [World.size_alloc, World.size_setCell]); omega)
  try have hy2_0_2 : w.heap.size + 1 + 1 < w2.heap.size := by omega
  try have hk2_1_0 := fun o => hc2 (w1.heap.size) o (by (try simp only [World.size_alloc, World.size_setCell]); omega)
  try have hj2_1_0 := fun o => hf2 (w1.heap.size) o (by (try simp only [World.size_alloc, World.size_setCell]); omega)
  try have hy2_1_0 : w1.heap.size < w2.heap.size := by omega
  try have hk2_1_1 := fun o => hc2 (w1.heap.size + 1) o (by (try simp only [World.size_alloc, World.size_setCell]); omega)
  try have hj2_1_1 := fun o => hf2 (w1.heap.size + 1) o (by (try simp only [World.size_alloc, World.size_setCell]); omega)
  try have hy2_1_1 : w1.heap.size + 1 < w2.heap.size := by omega
  clear hc2 hf2
  go_wp2_with (fail)
  go_ret
  exact ⟨rfl, (by repeat (first | exact Ext.refl _ | assumption | refine Ext.alloc ?_ _ | refine Ext.drew ?_ | refine Ext.drewN ?_ _ | refine Ext.setCell ?_ (by first | exact Nat.le_refl _ | (simp; done) | (dsimp only; omega) | (simp only [World.size_alloc, World.size_setCell]; omega)) _ | refine Ext.trans ?_ (by assumption)))⟩

set_option maxRecDepth 100000 in
set_option maxHeartbeats 3200000 in
theorem iFogSeconds_clear (v : Value) (nT : Nat) (zT : List Int) (nL : Nat) (zL : List Int) (u : Value) (nF : Nat) (zF : List Int) (link ra rb : Int) (w : World) (hN : NetRow w v nT zT nL zL) (hF : IntRow .i64 3 w u nF zF) (hK : askH nT zT nL zL zF nF link = true) (ha : 0 ≤ ra) (hab : ra ≤ rb) (hb : rb ≤ 10000) (hcl : ∀ j, j < nF → f3a zF j = link → f3c zF j ≤ ra ∨ rb ≤ f3b zF j) :
    Calls Try.prog 57 #[v, u, .int .i64 link, .int .i64 ra, .int .i64 rb] w fun e w' => e = .returned (.tuple #[.int .i64 0, .bool true]) ∧ Ext w w' := by
  have hN0 := hN
  have hF0 := hF
  have hOK := askH_iff hK
  obtain ⟨vT, vL, rfl, hT, hL⟩ := hN
  obtain ⟨_, _, _, aT, cT, rfl, _, _, _⟩ := hT
  obtain ⟨_, _, _, aL, cL, rfl, _, _, _⟩ := hL
  obtain ⟨hl, hm, _, aF, cF, rfl, _, _, hcell⟩ := hF
  unfold maxLen at hm
  have HK := hid hK
  have HCL := hid hcl
  have HFB := hid (okFg_iff hOK.2.1).2
  clear hK hcl hOK
  go_enter Try.func57, Try.ntmps57
  go_wp2_with (fail)
  refine (fogAsked_true _ nT zT nL zL _ nF zF link ra rb _ (hN0.ext (by repeat (first | exact Ext.refl _ | assumption | refine Ext.alloc ?_ _ | refine Ext.drew ?_ | refine Ext.drewN ?_ _ | refine Ext.setCell ?_ (by first | exact Nat.le_refl _ | (simp; done) | (dsimp only; omega) | (simp only [World.size_alloc, World.size_setCell]; omega)) _ | refine Ext.trans ?_ (by assumption)))) (hF0.ext (by repeat (first | exact Ext.refl _ | assumption | refine Ext.alloc ?_ _ | refine Ext.drew ?_ | refine Ext.drewN ?_ _ | refine Ext.setCell ?_ (by first | exact Nat.le_refl _ | (simp; done) | (dsimp only; omega) | (simp only [World.size_alloc, World.size_setCell]; omega)) _ | refine Ext.trans ?_ (by assumption)))) HK.out ha hab hb).mono ?_
  rintro e w1 ⟨rfl, hb1⟩
  have hz1 := Ext.size hb1
  try simp only [World.size_alloc, World.size_setCell] at hz1
  obtain ⟨hc1, hf1⟩ := Ext.cells hb1
  try have hk1_0_0 := fun o => hc1 (w.heap.size) o (by (try simp only [World.size_alloc, World.size_setCell]); omega)
  try have hj1_0_0 := fun o => hf1 (w.heap.size) o (by (try simp only [World.size_alloc, World.size_setCell]); omega)
  try have hy1_0_0 : w.heap.size < w1.heap.size := by omega
  try have hk1_0_1 := fun o => hc1 (w.heap.size + 1) o (by (try simp only [World.size_alloc, World.size_setCell]); omega)
  try have hj1_0_1 := fun o => hf1 (w.heap.size + 1) o (by (try simp only [World.size_alloc, World.size_setCell]); omega)
  try have hy1_0_1 : w.heap.size + 1 < w1.heap.size := by omega
  try have hk1_0_2 := fun o => hc1 (w.heap.size + 1 + 1) o (by (try simp only [World.size_alloc, World.size_setCell]); omega)
  try have hj1_0_2 := fun o => hf1 (w.heap.size + 1 + 1) o (by (try simp only [World.size_alloc, World.size_setCell]); omega)
  try have hy1_0_2 : w.heap.size + 1 + 1 < w1.heap.size := by omega
  clear hc1 hf1
  go_wp2_with (fail)
  go_loopw [12, 24] (fun q i wr => ∃ (k : Nat), k ≤ nF ∧ i = .int .i64 (k : Int) ∧ q = .int .i64 0 ∧ Ext w wr)
    (fun _ i _ => nF - (intOf i).toNat)
  case atStart => exact ⟨0, Nat.zero_le _, rfl, rfl, (by repeat (first | exact Ext.refl _ | assumption | refine Ext.alloc ?_ _ | refine Ext.drew ?_ | refine Ext.drewN ?_ _ | refine Ext.setCell ?_ (by first | exact Nat.le_refl _ | (simp; done) | (dsimp only; omega) | (simp only [World.size_alloc, World.size_setCell]; omega)) _ | refine Ext.trans ?_ (by assumption)))⟩
  case round =>
    obtain ⟨k, hk, rfl, rfl, hE⟩ := hrel
    by_cases hlt : k < nF
    · obtain ⟨b, o, rfl, hb, hc⟩ := hcell.resolve_left (by omega)
      obtain ⟨z, hz⟩ : ∃ z, z = zF := ⟨_, rfl⟩
      rw [← hz] at hc
      obtain ⟨x0, hx0⟩ : ∃ x, x = z.getD (k * 3) 0 := ⟨_, rfl⟩
      have s0 : wr.cell? ⟨b, o + k * 3, none⟩ = some (.int .i64 x0) := by rw [(Ext.cells hE).1 _ _ hb, show o + k * 3 = o + (k * 3) by omega, hc _ (by omega), hx0]
      have H0 := hid hx0
      clear hx0
      obtain ⟨x1, hx1⟩ : ∃ x, x = z.getD (k * 3 + 1) 0 := ⟨_, rfl⟩
      have s1 : wr.cell? ⟨b, o + k * 3 + 1, none⟩ = some (.int .i64 x1) := by rw [(Ext.cells hE).1 _ _ hb, show o + k * 3 + 1 = o + (k * 3 + 1) by omega, hc _ (by omega), hx1]
      have H1 := hid hx1
      clear hx1
      obtain ⟨x2, hx2⟩ : ∃ x, x = z.getD (k * 3 + 2) 0 := ⟨_, rfl⟩
      have s2 : wr.cell? ⟨b, o + k * 3 + 2, none⟩ = some (.int .i64 x2) := by rw [(Ext.cells hE).1 _ _ hb, show o + k * 3 + 2 = o + (k * 3 + 2) by omega, hc _ (by omega), hx2]
      have H2 := hid hx2
      clear hx2
      have h1 := HFB.out k hlt
      have h2 := HCL.out k hlt
      rw [show f3a zF k = x0 by rw [H0.out, hz]; rfl, show f3b zF k = x1 by rw [H1.out, hz]; rfl, show f3c zF k = x2 by rw [H2.out, hz]; rfl] at h1
      rw [show f3a zF k = x0 by rw [H0.out, hz]; rfl, show f3b zF k = x1 by rw [H1.out, hz]; rfl, show f3c zF k = x2 by rw [H2.out, hz]; rfl] at h2
      obtain ⟨_, f1, f2, f3⟩ := h1
      clear hc hcell hz hb1
      cases he : (x0 == link) with
      | false =>
        clear h2
        go_wp2_with (fail)
        go_roundw
        case rel => exact ⟨k + 1, by omega, by go_num, rfl, (by repeat (first | exact Ext.refl _ | assumption | refine Ext.alloc ?_ _ | refine Ext.drew ?_ | refine Ext.drewN ?_ _ | refine Ext.setCell ?_ (by first | exact Nat.le_refl _ | (simp; done) | (dsimp only; omega) | (simp only [World.size_alloc, World.size_setCell]; omega)) _ | refine Ext.trans ?_ (by assumption)))⟩
        case measure => simp [intOf]; omega
      | true =>
        have h3 := h2 (by simpa using he)
        obtain ⟨mn, hmn⟩ : ∃ m, m = min x2 rb := ⟨_, rfl⟩
        obtain ⟨mx, hmx⟩ : ∃ m, m = max x1 ra := ⟨_, rfl⟩
        have e1 : IntKind.i64.wrap (min x2 rb - max x1 ra) = min x2 rb - max x1 ra := IntWalk.i64_in _ (by omega)
        have e2 : max 0 (min x2 rb - max x1 ra) = 0 := by omega
        clear hmn hmx h2
        go_wp2_with (fail)
        go_roundw
        case rel => exact ⟨k + 1, by omega, by go_num, by first | rfl | simp, (by repeat (first | exact Ext.refl _ | assumption | refine Ext.alloc ?_ _ | refine Ext.drew ?_ | refine Ext.drewN ?_ _ | refine Ext.setCell ?_ (by first | exact Nat.le_refl _ | (simp; done) | (dsimp only; omega) | (simp only [World.size_alloc, World.size_setCell]; omega)) _ | refine Ext.trans ?_ (by assumption)))⟩
        case measure => simp [intOf]; omega
    · obtain rfl : k = nF := by omega
      clear hcell
      go_wp2_with (fail)
      go_ret2
      exact ⟨rfl, (by repeat (first | exact Ext.refl _ | assumption | refine Ext.alloc ?_ _ | refine Ext.drew ?_ | refine Ext.drewN ?_ _ | refine Ext.setCell ?_ (by first | exact Nat.le_refl _ | (simp; done) | (dsimp only; omega) | (simp only [World.size_alloc, World.size_setCell]; omega)) _ | refine Ext.trans ?_ (by assumption)))⟩
end Go.Proofs.Ytlmfohjfbolhpaa
