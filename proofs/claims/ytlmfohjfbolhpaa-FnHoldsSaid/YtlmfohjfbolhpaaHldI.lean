/- The chapter of held messages: the starts and the arrivals of jobs. No condition. -/
import Derived.Test.YtlmfohjfbolhpaaHldH
namespace Go.Proofs.Ytlmfohjfbolhpaa
open Go.RowKit
set_option linter.unusedSimpArgs false
set_option linter.unusedVariables false

def stV (nT : Nat) (zT : List Int) (nL : Nat) (zL zF : List Int) (nF : Nat) (link : Int) (y : List Int) (m : Nat) : List Int := if hoC nT zT nL zL zF nF link y m = true then hsL zF nF link y m else []
def arV (nT : Nat) (zT : List Int) (nL : Nat) (zL zF : List Int) (nF : Nat) (link : Int) (y : List Int) (m : Nat) : List Int := if hoC nT zT nL zL zF nF link y m = true then haL zF nF link y (f3c zL link.toNat) m else []
theorem haL_length (zF : List Int) (nF : Nat) (link : Int) (zJ : List Int) (d : Int) (k : Nat) : (haL zF nF link zJ d k).length = k := by simp [haL]
theorem haL_getD (zF : List Int) (nF : Nat) (link : Int) (zJ : List Int) (d : Int) {k i : Nat} (h : i < k) : (haL zF nF link zJ d k).getD i 0 = haAt zF nF link zJ d i := by
  simp [haL, List.getD_eq_getElem?_getD, h]
theorem haL_map_getD {zF : List Int} {nF : Nat} {link : Int} {zJ : List Int} {d : Int} {m j : Nat} (h : j < m) : ((haL zF nF link zJ d m).map (Value.int .i64))[j]? = some (.int .i64 (haAt zF nF link zJ d j)) := by
  rw [map_getD (by rw [haL_length]; exact h), haL_getD _ _ _ _ _ h]
theorem hoC_iff {nT nL nF m : Nat} {zT zL zF y : List Int} {link : Int} (h : hoC nT zT nL zL zF nF link y m = true) : okNet nT zT nL zL = true ∧ okFg nL zF nF = true ∧ (0 ≤ link ∧ link < nL) ∧ okHs y m = true := by
  unfold hoC at h
  rw [Bool.and_eq_true] at h
  have := askH_iff h.1
  exact ⟨this.1, this.2.1, ⟨this.2.2.1, this.2.2.2⟩, h.2⟩
theorem stV_inv (nT : Nat) (zT : List Int) (nL : Nat) (zL zF : List Int) (nF : Nat) (link : Int) (y : List Int) (m : Nat) : (∀ x ∈ stV nT zT nL zL zF nF link y m, (Lit.int .i64 x).wf = true) ∧ (stV nT zT nL zL zF nF link y m).length ≤ 20 := by
  unfold stV
  by_cases c : hoC nT zT nL zL zF nF link y m = true
  · rw [if_pos c]
    obtain ⟨_, h2, _, h4⟩ := hoC_iff c
    exact ⟨hsL_wf link h2 h4, by rw [hsL_length]; exact (okHs_iff h4).1⟩
  · rw [if_neg c]
    simp
theorem haL_bd {nT nL nF m : Nat} {zT zL zF y : List Int} {link : Int} (h : hoC nT zT nL zL zF nF link y m = true) : ∀ j, j < m → 0 ≤ haAt zF nF link y (f3c zL link.toNat) j ∧ haAt zF nF link y (f3c zL link.toNat) j ≤ 30000 := fun j hj => by
  obtain ⟨h1, h2, h3, h4⟩ := hoC_iff h
  have hd := (okNet_iff h1).2.2 link.toNat (by omega)
  have h5 := okHs_iff h4
  have := hsAt_bd link h2 h5.2 j hj
  have := h5.2 j hj
  unfold haAt
  omega
theorem arV_inv (nT : Nat) (zT : List Int) (nL : Nat) (zL zF : List Int) (nF : Nat) (link : Int) (y : List Int) (m : Nat) : (∀ x ∈ arV nT zT nL zL zF nF link y m, (Lit.int .i64 x).wf = true) ∧ (arV nT zT nL zL zF nF link y m).length ≤ 20 := by
  unfold arV
  by_cases c : hoC nT zT nL zL zF nF link y m = true
  · rw [if_pos c]
    obtain ⟨_, h2, _, h4⟩ := hoC_iff c
    refine ⟨fun x hx => ?_, by rw [haL_length]; exact (okHs_iff h4).1⟩
    obtain ⟨j, hj, rfl⟩ := getD_of_mem hx
    rw [haL_length] at hj
    rw [haL_getD _ _ _ _ _ hj]
    have := haL_bd c j hj
    exact small_wf (by omega) (by omega)
  · rw [if_neg c]
    simp


set_option maxRecDepth 100000 in
set_option maxHeartbeats 3200000 in
theorem iHoldStarts_any (v : Value) (nT : Nat) (zT : List Int) (nL : Nat) (zL : List Int) (u : Value) (nF : Nat) (zF : List Int) (link : Int) (x : Value) (m : Nat) (y : List Int) (w : World) (hN : NetRow w v nT zT nL zL) (hF : IntRow .i64 3 w u nF zF) (hJ : IntRow .i64 2 w x m y) :
    Calls Try.prog 51 #[v, u, .int .i64 link, x] w fun e w' => ∃ v', e = .returned (.tuple #[v', .bool (hoC nT zT nL zL zF nF link y m)]) ∧ w'.ownsRow w.heap.size 3 1 v' ((stV nT zT nL zL zF nF link y m).length / 1) ((stV nT zT nL zL zF nF link y m).map (Value.int .i64)) ∧ Ext w w' := by
  have hN0 := hN
  have hF0 := hF
  have hJ0 := hJ
  obtain ⟨vT, vL, rfl, hT, hL⟩ := hN
  obtain ⟨_, hmT, _, aT, cT, rfl, _, _, _⟩ := hT
  have hLI := hL
  obtain ⟨_, hmL, _, aL, cL, rfl, _, _, _⟩ := hL
  obtain ⟨_, _, _, aF, cF, rfl, _, _, _⟩ := hF
  have hnL : nL ≤ 9223372036854775807 := by unfold maxLen at hmL; omega
  clear hmT hmL
  have C0 := fun (W : World) (hW : Ext w W) => holdAsked_any _ nT zT nL zL _ nF zF link x m y W (hN0.ext hW) (hF0.ext hW) (hJ0.ext hW)
  obtain ⟨Q, hQ⟩ : ∃ q, q = hoC nT zT nL zL zF nF link y m := ⟨_, rfl⟩
  rw [show (askH nT zT nL zL zF nF link && okHs y m) = Q from hQ.symm] at C0
  rw [← hQ]
  cases Q with
  | false =>
    rw [show stV nT zT nL zL zF nF link y m = [] by unfold stV; rw [← hQ]; rfl]
    have HQ := hid hQ
    clear hQ
    go_enter Try.func51, Try.ntmps51
    go_wp2_with (fail)
    refine (C0 _ (by repeat (first | exact Ext.refl _ | assumption | refine Ext.alloc ?_ _ | refine Ext.drew ?_ | refine Ext.drewN ?_ _ | refine Ext.setCell ?_ (by first | exact Nat.le_refl _ | (simp; done) | (dsimp only; omega) | (simp only [World.size_alloc, World.size_setCell]; omega)) _ | refine Ext.trans ?_ (by assumption)))).mono ?_
    rintro e w1 ⟨rfl, hb1⟩
    have hz1 := Ext.size hb1
    try simp only [World.size_alloc, World.size_setCell] at hz1
    obtain ⟨hc1, hf1⟩ := Ext.cells hb1
    try have hk1_0_0 := fun o => hc1 (w.heap.size) o (by (try simp only [World.size_alloc, World.size_setCell]); omega)
    try have hj1_0_0 := fun o => hf1 (w.heap.size) o (by (try simp only [World.size_alloc, World.size_setCell]); omega)
    try have hy1_0_0 : w.heap.size < w1.heap.size := by omega
    try have hk1_0_1 := fun o => hc1 (w.heap.size + 1) o (by (try simp only [World.size_alloc, World.size_setCell]); omega)
    try have hj1_0_1 := fun o => hf1 (w.heap.size + 1) o (by (try simp only [World.size_alloc, World.size_setCell]); omega)
    try have hy1_0_1 : w.heap.size + 1 < w1.heap.size := by omega
    try have hk1_0_2 := fun o => hc1 (w.heap.size + 1 + 1) o (by (try simp only [World.size_alloc, World.size_setCell]); omega)
    try have hj1_0_2 := fun o => hf1 (w.heap.size + 1 + 1) o (by (try simp only [World.size_alloc, World.size_setCell]); omega)
    try have hy1_0_2 : w.heap.size + 1 + 1 < w1.heap.size := by omega
    clear hc1 hf1
    go_wp2_with (fail)
    go_ret2
    exact ⟨_, rfl, World.ownsRow_nil _ _ _ _, (by repeat (first | exact Ext.refl _ | assumption | refine Ext.alloc ?_ _ | refine Ext.drew ?_ | refine Ext.drewN ?_ _ | refine Ext.setCell ?_ (by first | exact Nat.le_refl _ | (simp; done) | (dsimp only; omega) | (simp only [World.size_alloc, World.size_setCell]; omega)) _ | refine Ext.trans ?_ (by assumption)))⟩
  | true =>
    obtain ⟨ho1, ho2, ⟨ho3, ho4⟩, hB2⟩ := hoC_iff hQ.symm
    obtain ⟨hm20, hjs⟩ := okHs_iff hB2
    have HOK := hid ho2
    have HJ := hid hB2
    have HNET := hid ho1
    have HJS := hid hjs
    have HQ := hid hQ
    clear hQ hB2 ho1 ho2 hjs
    rw [show stV nT zT nL zL zF nF link y m = hsL zF nF link y m by unfold stV; rw [← HQ.out]; rfl, show (hsL zF nF link y m).length / 1 = m by rw [hsL_length]; omega]
    go_enter Try.func51, Try.ntmps51
    go_wp2_with (fail)
    refine (C0 _ (by repeat (first | exact Ext.refl _ | assumption | refine Ext.alloc ?_ _ | refine Ext.drew ?_ | refine Ext.drewN ?_ _ | refine Ext.setCell ?_ (by first | exact Nat.le_refl _ | (simp; done) | (dsimp only; omega) | (simp only [World.size_alloc, World.size_setCell]; omega)) _ | refine Ext.trans ?_ (by assumption)))).mono ?_
    rintro e w1 ⟨rfl, hb1⟩
    have hz1 := Ext.size hb1
    try simp only [World.size_alloc, World.size_setCell] at hz1
    obtain ⟨hc1, hf1⟩ := Ext.cells hb1
    try have hk1_0_0 := fun o => hc1 (w.heap.size) o (by (try simp only [World.size_alloc, World.size_setCell]); omega)
    try have hj1_0_0 := fun o => hf1 (w.heap.size) o (by (try simp only [World.size_alloc, World.size_setCell]); omega)
    try have hy1_0_0 : w.heap.size < w1.heap.size := by omega
    try have hk1_0_1 := fun o => hc1 (w.heap.size + 1) o (by (try simp only [World.size_alloc, World.size_setCell]); omega)
    try have hj1_0_1 := fun o => hf1 (w.heap.size + 1) o (by (try simp only [World.size_alloc, World.size_setCell]); omega)
    try have hy1_0_1 : w.heap.size + 1 < w1.heap.size := by omega
    try have hk1_0_2 := fun o => hc1 (w.heap.size + 1 + 1) o (by (try simp only [World.size_alloc, World.size_setCell]); omega)
    try have hj1_0_2 := fun o => hf1 (w.heap.size + 1 + 1) o (by (try simp only [World.size_alloc, World.size_setCell]); omega)
    try have hy1_0_2 : w.heap.size + 1 + 1 < w1.heap.size := by omega
    clear hc1 hf1
    go_wp2_with (fail)
    refine (holdStarts_any _ nF zF link x m y _ nL (hF0.ext (by repeat (first | exact Ext.refl _ | assumption | refine Ext.alloc ?_ _ | refine Ext.drew ?_ | refine Ext.drewN ?_ _ | refine Ext.setCell ?_ (by first | exact Nat.le_refl _ | (simp; done) | (dsimp only; omega) | (simp only [World.size_alloc, World.size_setCell]; omega)) _ | refine Ext.trans ?_ (by assumption)))) (hJ0.ext (by repeat (first | exact Ext.refl _ | assumption | refine Ext.alloc ?_ _ | refine Ext.drew ?_ | refine Ext.drewN ?_ _ | refine Ext.setCell ?_ (by first | exact Nat.le_refl _ | (simp; done) | (dsimp only; omega) | (simp only [World.size_alloc, World.size_setCell]; omega)) _ | refine Ext.trans ?_ (by assumption)))) HOK HJ).mono ?_
    rintro e w2 ⟨v2, rfl, hr2, hb2⟩
    have hE2 : Ext w w2 := (by repeat (first | exact Ext.refl _ | assumption | refine Ext.alloc ?_ _ | refine Ext.drew ?_ | refine Ext.drewN ?_ _ | refine Ext.setCell ?_ (by first | exact Nat.le_refl _ | (simp; done) | (dsimp only; omega) | (simp only [World.size_alloc, World.size_setCell]; omega)) _ | refine Ext.trans ?_ (by assumption)))
    have hr3 := row_mono hr2 (show w.heap.size ≤ w1.heap.size by omega)
    clear hr2
    go_wp2_with (fail)
    go_ret2
    exact ⟨_, rfl, hr3, (by repeat (first | exact Ext.refl _ | assumption | refine Ext.alloc ?_ _ | refine Ext.drew ?_ | refine Ext.drewN ?_ _ | refine Ext.setCell ?_ (by first | exact Nat.le_refl _ | (simp; done) | (dsimp only; omega) | (simp only [World.size_alloc, World.size_setCell]; omega)) _ | refine Ext.trans ?_ (by assumption)))⟩


set_option maxRecDepth 100000 in
set_option maxHeartbeats 3200000 in
theorem sHoldStarts_any (v : Value) (nT : Nat) (zT : List Int) (nL : Nat) (zL : List Int) (u : Value) (nF : Nat) (zF : List Int) (link : Int) (x : Value) (m : Nat) (y : List Int) (w : World) (hN : NetRow w v nT zT nL zL) (hF : IntRow .i64 3 w u nF zF) (hJ : IntRow .i64 2 w x m y) :
    Calls Try.prog 50 #[v, u, .int .i64 link, x] w fun e w' => ∃ v', e = .returned (.tuple #[v', .bool (hoC nT zT nL zL zF nF link y m)]) ∧ w'.ownsRow w.heap.size 3 1 v' ((stV nT zT nL zL zF nF link y m).length / 1) ((stV nT zT nL zL zF nF link y m).map (Value.int .i64)) ∧ Ext w w' := by
  have hN0 := hN
  have hF0 := hF
  have hJ0 := hJ
  obtain ⟨vT, vL, rfl, hT, hL⟩ := hN
  obtain ⟨_, hmT, _, aT, cT, rfl, _, _, _⟩ := hT
  have hLI := hL
  obtain ⟨_, hmL, _, aL, cL, rfl, _, _, _⟩ := hL
  obtain ⟨_, _, _, aF, cF, rfl, _, _, _⟩ := hF
  have hnL : nL ≤ 9223372036854775807 := by unfold maxLen at hmL; omega
  clear hmT hmL
  have C0 := fun (W : World) (hW : Ext w W) => hoAsked_any _ nT zT nL zL _ nF zF link x m y W (hN0.ext hW) (hF0.ext hW) (hJ0.ext hW)
  obtain ⟨Q, hQ⟩ : ∃ q, q = hoC nT zT nL zL zF nF link y m := ⟨_, rfl⟩
  rw [show (askH nT zT nL zL zF nF link && okHs y m) = Q from hQ.symm] at C0
  rw [← hQ]
  cases Q with
  | false =>
    rw [show stV nT zT nL zL zF nF link y m = [] by unfold stV; rw [← hQ]; rfl]
    have HQ := hid hQ
    clear hQ
    go_enter Try.func50, Try.ntmps50
    go_wp2_with (fail)
    refine (C0 _ (by repeat (first | exact Ext.refl _ | assumption | refine Ext.alloc ?_ _ | refine Ext.drew ?_ | refine Ext.drewN ?_ _ | refine Ext.setCell ?_ (by first | exact Nat.le_refl _ | (simp; done) | (dsimp only; omega) | (simp only [World.size_alloc, World.size_setCell]; omega)) _ | refine Ext.trans ?_ (by assumption)))).mono ?_
    rintro e w1 ⟨rfl, hb1⟩
    have hz1 := Ext.size hb1
    try simp only [World.size_alloc, World.size_setCell] at hz1
    obtain ⟨hc1, hf1⟩ := Ext.cells hb1
    try have hk1_0_0 := fun o => hc1 (w.heap.size) o (by (try simp only [World.size_alloc, World.size_setCell]); omega)
    try have hj1_0_0 := fun o => hf1 (w.heap.size) o (by (try simp only [World.size_alloc, World.size_setCell]); omega)
    try have hy1_0_0 : w.heap.size < w1.heap.size := by omega
    try have hk1_0_1 := fun o => hc1 (w.heap.size + 1) o (by (try simp only [World.size_alloc, World.size_setCell]); omega)
    try have hj1_0_1 := fun o => hf1 (w.heap.size + 1) o (by (try simp only [World.size_alloc, World.size_setCell]); omega)
    try have hy1_0_1 : w.heap.size + 1 < w1.heap.size := by omega
    try have hk1_0_2 := fun o => hc1 (w.heap.size + 1 + 1) o (by (try simp only [World.size_alloc, World.size_setCell]); omega)
    try have hj1_0_2 := fun o => hf1 (w.heap.size + 1 + 1) o (by (try simp only [World.size_alloc, World.size_setCell]); omega)
    try have hy1_0_2 : w.heap.size + 1 + 1 < w1.heap.size := by omega
    clear hc1 hf1
    go_wp2_with (fail)
    go_ret2
    exact ⟨_, rfl, World.ownsRow_nil _ _ _ _, (by repeat (first | exact Ext.refl _ | assumption | refine Ext.alloc ?_ _ | refine Ext.drew ?_ | refine Ext.drewN ?_ _ | refine Ext.setCell ?_ (by first | exact Nat.le_refl _ | (simp; done) | (dsimp only; omega) | (simp only [World.size_alloc, World.size_setCell]; omega)) _ | refine Ext.trans ?_ (by assumption)))⟩
  | true =>
    obtain ⟨ho1, ho2, ⟨ho3, ho4⟩, hB2⟩ := hoC_iff hQ.symm
    obtain ⟨hm20, hjs⟩ := okHs_iff hB2
    have HOK := hid ho2
    have HJ := hid hB2
    have HNET := hid ho1
    have HJS := hid hjs
    have HQ := hid hQ
    clear hQ hB2 ho1 ho2 hjs
    rw [show stV nT zT nL zL zF nF link y m = hsL zF nF link y m by unfold stV; rw [← HQ.out]; rfl, show (hsL zF nF link y m).length / 1 = m by rw [hsL_length]; omega]
    go_enter Try.func50, Try.ntmps50
    go_wp2_with (fail)
    refine (C0 _ (by repeat (first | exact Ext.refl _ | assumption | refine Ext.alloc ?_ _ | refine Ext.drew ?_ | refine Ext.drewN ?_ _ | refine Ext.setCell ?_ (by first | exact Nat.le_refl _ | (simp; done) | (dsimp only; omega) | (simp only [World.size_alloc, World.size_setCell]; omega)) _ | refine Ext.trans ?_ (by assumption)))).mono ?_
    rintro e w1 ⟨rfl, hb1⟩
    have hz1 := Ext.size hb1
    try simp only [World.size_alloc, World.size_setCell] at hz1
    obtain ⟨hc1, hf1⟩ := Ext.cells hb1
    try have hk1_0_0 := fun o => hc1 (w.heap.size) o (by (try simp only [World.size_alloc, World.size_setCell]); omega)
    try have hj1_0_0 := fun o => hf1 (w.heap.size) o (by (try simp only [World.size_alloc, World.size_setCell]); omega)
    try have hy1_0_0 : w.heap.size < w1.heap.size := by omega
    try have hk1_0_1 := fun o => hc1 (w.heap.size + 1) o (by (try simp only [World.size_alloc, World.size_setCell]); omega)
    try have hj1_0_1 := fun o => hf1 (w.heap.size + 1) o (by (try simp only [World.size_alloc, World.size_setCell]); omega)
    try have hy1_0_1 : w.heap.size + 1 < w1.heap.size := by omega
    try have hk1_0_2 := fun o => hc1 (w.heap.size + 1 + 1) o (by (try simp only [World.size_alloc, World.size_setCell]); omega)
    try have hj1_0_2 := fun o => hf1 (w.heap.size + 1 + 1) o (by (try simp only [World.size_alloc, World.size_setCell]); omega)
    try have hy1_0_2 : w.heap.size + 1 + 1 < w1.heap.size := by omega
    clear hc1 hf1
    go_wp2_with (fail)
    refine (hoStarts_any _ nF zF link x m y _ nL (hF0.ext (by repeat (first | exact Ext.refl _ | assumption | refine Ext.alloc ?_ _ | refine Ext.drew ?_ | refine Ext.drewN ?_ _ | refine Ext.setCell ?_ (by first | exact Nat.le_refl _ | (simp; done) | (dsimp only; omega) | (simp only [World.size_alloc, World.size_setCell]; omega)) _ | refine Ext.trans ?_ (by assumption)))) (hJ0.ext (by repeat (first | exact Ext.refl _ | assumption | refine Ext.alloc ?_ _ | refine Ext.drew ?_ | refine Ext.drewN ?_ _ | refine Ext.setCell ?_ (by first | exact Nat.le_refl _ | (simp; done) | (dsimp only; omega) | (simp only [World.size_alloc, World.size_setCell]; omega)) _ | refine Ext.trans ?_ (by assumption)))) HOK HJ).mono ?_
    rintro e w2 ⟨v2, rfl, hr2, hb2⟩
    have hE2 : Ext w w2 := (by repeat (first | exact Ext.refl _ | assumption | refine Ext.alloc ?_ _ | refine Ext.drew ?_ | refine Ext.drewN ?_ _ | refine Ext.setCell ?_ (by first | exact Nat.le_refl _ | (simp; done) | (dsimp only; omega) | (simp only [World.size_alloc, World.size_setCell]; omega)) _ | refine Ext.trans ?_ (by assumption)))
    have hr3 := row_mono hr2 (show w.heap.size ≤ w1.heap.size by omega)
    clear hr2
    go_wp2_with (fail)
    go_ret2
    exact ⟨_, rfl, hr3, (by repeat (first | exact Ext.refl _ | assumption | refine Ext.alloc ?_ _ | refine Ext.drew ?_ | refine Ext.drewN ?_ _ | refine Ext.setCell ?_ (by first | exact Nat.le_refl _ | (simp; done) | (dsimp only; omega) | (simp only [World.size_alloc, World.size_setCell]; omega)) _ | refine Ext.trans ?_ (by assumption)))⟩


set_option maxRecDepth 100000 in
set_option maxHeartbeats 4000000 in
theorem walkFnExactHoldStarts (v0 : Value) (nT0 : Nat) (zT0 : List Int) (nL0 : Nat) (zL0 : List Int) (v1 : Value) (n1 : Nat) (z1 : List Int) (a2 : Int) (v3 : Value) (n3 : Nat) (z3 : List Int) (w : World) (r0 : NetRow w v0 nT0 zT0 nL0 zL0) (r1 : IntRow .i64 3 w v1 n1 z1) (_ : (Lit.int .i64 a2).wf = true) (r3 : IntRow .i64 2 w v3 n3 z3) :
    Calls Try.prog 10 #[v0, v1, .int .i64 a2, v3] w fun e w' => e = .returned (.bool true) ∧ Ext w w' := by
  have HWT0 := hid r0.wf.1
  have HWL0 := hid r0.wf.2
  obtain ⟨vT0, vL0, rfl, _, _⟩ := id r0
  have HW1 := hid r1.2.2.1
  have HW3 := hid r3.2.2.1
  have hsz0 := fun (W : World) (hW : Ext w W) => szNet_any _ nT0 zT0 nL0 zL0 W 1048576 (r0.ext hW) (by omega) (by omega)
  by_cases hn0 : nT0 + nL0 ≤ (1048576 : Int)
  · rw [if_pos hn0] at hsz0
    obtain ⟨q0, hq0⟩ : ∃ q : Int, q = 1048576 - nT0 - nL0 := ⟨_, rfl⟩
    rw [← hq0] at hsz0
    have hqa0 : 0 ≤ q0 := by omega
    have hqb0 : q0 ≤ 1048576 := by omega
    have hsz1 := fun (W : World) (hW : Ext w W) => szFogS_any v1 n1 z1 W q0 (r1.ext hW) (by omega) (by omega)
    by_cases hn1 : (n1 : Int) ≤ q0
    · rw [if_pos hn1] at hsz1
      obtain ⟨q1, hq1⟩ : ∃ q : Int, q = q0 - n1 := ⟨_, rfl⟩
      rw [← hq1] at hsz1
      have hqa1 : 0 ≤ q1 := by omega
      have hqb1 : q1 ≤ 1048576 := by omega
      have hsz3 := fun (W : World) (hW : Ext w W) => szHeldJobS_any v3 n3 z3 W q1 (r3.ext hW) (by omega) (by omega)
      by_cases hn3 : (n3 : Int) ≤ q1
      · rw [if_pos hn3] at hsz3
        obtain ⟨q3, hq3⟩ : ∃ q : Int, q = q1 - n3 := ⟨_, rfl⟩
        rw [← hq3] at hsz3
        have hqa3 : 0 ≤ q3 := by omega
        have hqb3 : q3 ≤ 1048576 := by omega
        have hnT0 : nT0 ≤ 1048576 := by omega
        have hnL0 : nL0 ≤ 1048576 := by omega
        have hm1 : n1 ≤ 1048576 := by omega
        have hm3 : n3 ≤ 1048576 := by omega
        have HQ0 := hid hq0
        clear hq0
        have HQ1 := hid hq1
        clear hq1
        have HQ3 := hid hq3
        clear hq3
        obtain ⟨L, hL⟩ : ∃ L, L = stV nT0 zT0 nL0 zL0 z1 n1 a2 z3 n3 := ⟨_, rfl⟩
        have HLW : Hid (∀ x ∈ L, (Lit.int .i64 x).wf = true) := hid (by rw [hL]; exact (stV_inv _ _ _ _ _ _ _ _ _).1)
        have hLl : L.length / 1 ≤ 16777216 := by rw [hL]; have := (stV_inv nT0 zT0 nL0 zL0 z1 n1 a2 z3 n3).2; omega
        have HL := hid hL
        clear hL
        go_enter Try.func10, Try.ntmps10
        go_wp2_with (fail)
        have e00 : Ext w (w.alloc (.cells #[vT0, vL0] 25)) := (Ext.refl w).alloc _
        have bp0 : (w.alloc (.cells #[vT0, vL0] 25)).cell? ⟨w.heap.size, 0, none⟩ = some vT0 := by simp [go_sem]
        have bp1 : (w.alloc (.cells #[vT0, vL0] 25)).cell? ⟨w.heap.size, 1, none⟩ = some vL0 := by simp [go_sem]
        have bgs : w.heap.size < (w.alloc (.cells #[vT0, vL0] 25)).heap.size := by simp
        generalize (w.alloc (.cells #[vT0, vL0] 25)) = w0 at *
        obtain ⟨bg, hbg⟩ : ∃ g, g = w.heap.size := ⟨_, rfl⟩
        rw [← hbg] at bp0 bp1 bgs ⊢
        have HBX := hid (fun (W : World) (hW : Ext w0 W) => show W.cell? ⟨bg, 0, none⟩ = some vT0 ∧ W.cell? ⟨bg, 1, none⟩ = some vL0 from ⟨by rw [(Ext.cells hW).1 _ _ bgs]; exact bp0, by rw [(Ext.cells hW).1 _ _ bgs]; exact bp1⟩)
        clear hbg
        go_wp2_with (fail)
        refine (hsz0 _ (by repeat (first | exact Ext.refl _ | assumption | refine Ext.alloc ?_ _ | refine Ext.drew ?_ | refine Ext.drewN ?_ _ | refine Ext.setCell ?_ (by first | exact Nat.le_refl _ | (simp; done) | (dsimp only; omega) | (simp only [World.size_alloc, World.size_setCell]; omega)) _ | refine Ext.trans ?_ (by assumption)))).mono ?_
        rintro e wz ⟨rfl, hbz⟩
        clear bp0 bp1
        obtain ⟨bxa, bxb⟩ := HBX.out wz (by repeat (first | exact Ext.refl _ | assumption | refine Ext.alloc ?_ _ | refine Ext.drew ?_ | refine Ext.drewN ?_ _ | refine Ext.setCell ?_ (by first | exact Nat.le_refl _ | (simp; done) | (dsimp only; omega) | (simp only [World.size_alloc, World.size_setCell]; omega)) _ | refine Ext.trans ?_ (by assumption)))
        clear hsz0
        go_wp2_with (fail)
        refine (hsz1 _ (by repeat (first | exact Ext.refl _ | assumption | refine Ext.alloc ?_ _ | refine Ext.drew ?_ | refine Ext.drewN ?_ _ | refine Ext.setCell ?_ (by first | exact Nat.le_refl _ | (simp; done) | (dsimp only; omega) | (simp only [World.size_alloc, World.size_setCell]; omega)) _ | refine Ext.trans ?_ (by assumption)))).mono ?_
        rintro e w' ⟨rfl, rfl⟩
        clear hsz1
        go_wp2_with (fail)
        refine (hsz3 _ (by repeat (first | exact Ext.refl _ | assumption | refine Ext.alloc ?_ _ | refine Ext.drew ?_ | refine Ext.drewN ?_ _ | refine Ext.setCell ?_ (by first | exact Nat.le_refl _ | (simp; done) | (dsimp only; omega) | (simp only [World.size_alloc, World.size_setCell]; omega)) _ | refine Ext.trans ?_ (by assumption)))).mono ?_
        rintro e w' ⟨rfl, rfl⟩
        clear hsz3
        go_wp2_with (fail)
        refine (toNet_any _ nT0 nL0 zT0 zL0 _ (r0.ext (by repeat (first | exact Ext.refl _ | assumption | refine Ext.alloc ?_ _ | refine Ext.drew ?_ | refine Ext.drewN ?_ _ | refine Ext.setCell ?_ (by first | exact Nat.le_refl _ | (simp; done) | (dsimp only; omega) | (simp only [World.size_alloc, World.size_setCell]; omega)) _ | refine Ext.trans ?_ (by assumption)))) hnT0 hnL0).mono ?_
        rintro e w1 ⟨x1, rfl, hr1, hb1⟩
        obtain ⟨bxa1, bxb1⟩ := HBX.out w1 (by repeat (first | exact Ext.refl _ | assumption | refine Ext.alloc ?_ _ | refine Ext.drew ?_ | refine Ext.drewN ?_ _ | refine Ext.setCell ?_ (by first | exact Nat.le_refl _ | (simp; done) | (dsimp only; omega) | (simp only [World.size_alloc, World.size_setCell]; omega)) _ | refine Ext.trans ?_ (by assumption)))
        clear bxa bxb
        go_wp2_with (fail)
        refine (toFogS_any _ n1 z1 _ (r1.ext (by repeat (first | exact Ext.refl _ | assumption | refine Ext.alloc ?_ _ | refine Ext.drew ?_ | refine Ext.drewN ?_ _ | refine Ext.setCell ?_ (by first | exact Nat.le_refl _ | (simp; done) | (dsimp only; omega) | (simp only [World.size_alloc, World.size_setCell]; omega)) _ | refine Ext.trans ?_ (by assumption)))) hm1).mono ?_
        rintro e w2 ⟨g2, rfl, hr2, hb2⟩
        obtain ⟨bxa2, bxb2⟩ := HBX.out w2 (by repeat (first | exact Ext.refl _ | assumption | refine Ext.alloc ?_ _ | refine Ext.drew ?_ | refine Ext.drewN ?_ _ | refine Ext.setCell ?_ (by first | exact Nat.le_refl _ | (simp; done) | (dsimp only; omega) | (simp only [World.size_alloc, World.size_setCell]; omega)) _ | refine Ext.trans ?_ (by assumption)))
        clear bxa1 bxb1
        go_wp2_with (fail)
        refine (toHeldJobS_any _ n3 z3 _ (r3.ext (by repeat (first | exact Ext.refl _ | assumption | refine Ext.alloc ?_ _ | refine Ext.drew ?_ | refine Ext.drewN ?_ _ | refine Ext.setCell ?_ (by first | exact Nat.le_refl _ | (simp; done) | (dsimp only; omega) | (simp only [World.size_alloc, World.size_setCell]; omega)) _ | refine Ext.trans ?_ (by assumption)))) hm3).mono ?_
        rintro e w3 ⟨g3, rfl, hr3, hb3⟩
        obtain ⟨bxa3, bxb3⟩ := HBX.out w3 (by repeat (first | exact Ext.refl _ | assumption | refine Ext.alloc ?_ _ | refine Ext.drew ?_ | refine Ext.drewN ?_ _ | refine Ext.setCell ?_ (by first | exact Nat.le_refl _ | (simp; done) | (dsimp only; omega) | (simp only [World.size_alloc, World.size_setCell]; omega)) _ | refine Ext.trans ?_ (by assumption)))
        clear bxa2 bxb2
        go_wp2_with (fail)
        refine (sHoldStarts_any _ nT0 zT0 nL0 zL0 _ n1 z1 a2 _ n3 z3 _ ((OwnNet.ext hr1 (by repeat (first | exact Ext.refl _ | assumption | refine Ext.alloc ?_ _ | refine Ext.drew ?_ | refine Ext.drewN ?_ _ | refine Ext.setCell ?_ (by first | exact Nat.le_refl _ | (simp; done) | (dsimp only; omega) | (simp only [World.size_alloc, World.size_setCell]; omega)) _ | refine Ext.trans ?_ (by assumption)))).net (by unfold maxLen; omega) (by unfold maxLen; omega) HWT0.out HWL0.out) (row_ints (row_ext hr2 (by repeat (first | exact Ext.refl _ | assumption | refine Ext.alloc ?_ _ | refine Ext.drew ?_ | refine Ext.drewN ?_ _ | refine Ext.setCell ?_ (by first | exact Nat.le_refl _ | (simp; done) | (dsimp only; omega) | (simp only [World.size_alloc, World.size_setCell]; omega)) _ | refine Ext.trans ?_ (by assumption)))) (by unfold maxLen; omega) HW1.out) (row_ints (row_ext hr3 (by repeat (first | exact Ext.refl _ | assumption | refine Ext.alloc ?_ _ | refine Ext.drew ?_ | refine Ext.drewN ?_ _ | refine Ext.setCell ?_ (by first | exact Nat.le_refl _ | (simp; done) | (dsimp only; omega) | (simp only [World.size_alloc, World.size_setCell]; omega)) _ | refine Ext.trans ?_ (by assumption)))) (by unfold maxLen; omega) HW3.out)).mono ?_
        rintro e w4 ⟨vw, rfl, hrw, hb4⟩
        obtain ⟨bxa4, bxb4⟩ := HBX.out w4 (by repeat (first | exact Ext.refl _ | assumption | refine Ext.alloc ?_ _ | refine Ext.drew ?_ | refine Ext.drewN ?_ _ | refine Ext.setCell ?_ (by first | exact Nat.le_refl _ | (simp; done) | (dsimp only; omega) | (simp only [World.size_alloc, World.size_setCell]; omega)) _ | refine Ext.trans ?_ (by assumption)))
        clear bxa3 bxb3
        rw [← HL.out] at hrw
        go_wp2_with (fail)
        refine (toNet_any _ nT0 nL0 zT0 zL0 _ (r0.ext (by repeat (first | exact Ext.refl _ | assumption | refine Ext.alloc ?_ _ | refine Ext.drew ?_ | refine Ext.drewN ?_ _ | refine Ext.setCell ?_ (by first | exact Nat.le_refl _ | (simp; done) | (dsimp only; omega) | (simp only [World.size_alloc, World.size_setCell]; omega)) _ | refine Ext.trans ?_ (by assumption)))) hnT0 hnL0).mono ?_
        rintro e w5 ⟨x5, rfl, hr5, hb5⟩
        obtain ⟨bxa5, bxb5⟩ := HBX.out w5 (by repeat (first | exact Ext.refl _ | assumption | refine Ext.alloc ?_ _ | refine Ext.drew ?_ | refine Ext.drewN ?_ _ | refine Ext.setCell ?_ (by first | exact Nat.le_refl _ | (simp; done) | (dsimp only; omega) | (simp only [World.size_alloc, World.size_setCell]; omega)) _ | refine Ext.trans ?_ (by assumption)))
        clear bxa4 bxb4
        obtain ⟨gT, gL, hxe, hglt, hgT, hgL⟩ := id hr5
        subst hxe
        go_wp2_with (fail)
        have e5y : Ext w5 (w5.alloc (.cells #[.slice (some ⟨gT, 0, none⟩) nT0 nT0, .slice (some ⟨gL, 0, none⟩) nL0 nL0] 35)) := (Ext.refl _).alloc _
        have bq0 : (w5.alloc (.cells #[.slice (some ⟨gT, 0, none⟩) nT0 nT0, .slice (some ⟨gL, 0, none⟩) nL0 nL0] 35)).cell? ⟨w5.heap.size, 0, none⟩ = some (.slice (some ⟨gT, 0, none⟩) nT0 nT0) := by simp [go_sem]
        have bq1 : (w5.alloc (.cells #[.slice (some ⟨gT, 0, none⟩) nT0 nT0, .slice (some ⟨gL, 0, none⟩) nL0 nL0] 35)).cell? ⟨w5.heap.size, 1, none⟩ = some (.slice (some ⟨gL, 0, none⟩) nL0 nL0) := by simp [go_sem]
        have byn : w5.heap.size < (w5.alloc (.cells #[.slice (some ⟨gT, 0, none⟩) nT0 nT0, .slice (some ⟨gL, 0, none⟩) nL0 nL0] 35)).heap.size := by simp
        obtain ⟨wy, hwy⟩ : ∃ x, x = (w5.alloc (.cells #[.slice (some ⟨gT, 0, none⟩) nT0 nT0, .slice (some ⟨gL, 0, none⟩) nL0 nL0] 35)) := ⟨_, rfl⟩
        rw [← hwy] at e5y bq0 bq1 byn ⊢
        obtain ⟨by5, hby⟩ : ∃ g, g = w5.heap.size := ⟨_, rfl⟩
        rw [← hby] at bq0 bq1 byn ⊢
        have HBY := hid (fun (W : World) (hW : Ext wy W) => show W.cell? ⟨by5, 0, none⟩ = some (.slice (some ⟨gT, 0, none⟩) nT0 nT0) ∧ W.cell? ⟨by5, 1, none⟩ = some (.slice (some ⟨gL, 0, none⟩) nL0 nL0) from ⟨by rw [(Ext.cells hW).1 _ _ byn]; exact bq0, by rw [(Ext.cells hW).1 _ _ byn]; exact bq1⟩)
        have HBYE := hid hby
        clear hwy hby bq0 bq1
        obtain ⟨bya, byb⟩ := HBY.out wy (Ext.refl _)
        obtain ⟨bxa, bxb⟩ := HBX.out wy (by repeat (first | exact Ext.refl _ | assumption | refine Ext.alloc ?_ _ | refine Ext.drew ?_ | refine Ext.drewN ?_ _ | refine Ext.setCell ?_ (by first | exact Nat.le_refl _ | (simp; done) | (dsimp only; omega) | (simp only [World.size_alloc, World.size_setCell]; omega)) _ | refine Ext.trans ?_ (by assumption)))
        clear bxa5 bxb5
        go_wp2_with (fail)
        refine (toFogS_any _ n1 z1 _ (r1.ext (by repeat (first | exact Ext.refl _ | assumption | refine Ext.alloc ?_ _ | refine Ext.drew ?_ | refine Ext.drewN ?_ _ | refine Ext.setCell ?_ (by first | exact Nat.le_refl _ | (simp; done) | (dsimp only; omega) | (simp only [World.size_alloc, World.size_setCell]; omega)) _ | refine Ext.trans ?_ (by assumption)))) hm1).mono ?_
        rintro e w6 ⟨g6, rfl, hr6, hb6⟩
        obtain ⟨bxa6, bxb6⟩ := HBX.out w6 (by repeat (first | exact Ext.refl _ | assumption | refine Ext.alloc ?_ _ | refine Ext.drew ?_ | refine Ext.drewN ?_ _ | refine Ext.setCell ?_ (by first | exact Nat.le_refl _ | (simp; done) | (dsimp only; omega) | (simp only [World.size_alloc, World.size_setCell]; omega)) _ | refine Ext.trans ?_ (by assumption)))
        obtain ⟨bya6, byb6⟩ := HBY.out w6 (by repeat (first | exact Ext.refl _ | assumption | refine Ext.alloc ?_ _ | refine Ext.drew ?_ | refine Ext.drewN ?_ _ | refine Ext.setCell ?_ (by first | exact Nat.le_refl _ | (simp; done) | (dsimp only; omega) | (simp only [World.size_alloc, World.size_setCell]; omega)) _ | refine Ext.trans ?_ (by assumption)))
        clear bxa bxb bya byb
        go_wp2_with (fail)
        refine (toHeldJobS_any _ n3 z3 _ (r3.ext (by repeat (first | exact Ext.refl _ | assumption | refine Ext.alloc ?_ _ | refine Ext.drew ?_ | refine Ext.drewN ?_ _ | refine Ext.setCell ?_ (by first | exact Nat.le_refl _ | (simp; done) | (dsimp only; omega) | (simp only [World.size_alloc, World.size_setCell]; omega)) _ | refine Ext.trans ?_ (by assumption)))) hm3).mono ?_
        rintro e w7 ⟨g7, rfl, hr7, hb7⟩
        obtain ⟨bxa7, bxb7⟩ := HBX.out w7 (by repeat (first | exact Ext.refl _ | assumption | refine Ext.alloc ?_ _ | refine Ext.drew ?_ | refine Ext.drewN ?_ _ | refine Ext.setCell ?_ (by first | exact Nat.le_refl _ | (simp; done) | (dsimp only; omega) | (simp only [World.size_alloc, World.size_setCell]; omega)) _ | refine Ext.trans ?_ (by assumption)))
        obtain ⟨bya7, byb7⟩ := HBY.out w7 (by repeat (first | exact Ext.refl _ | assumption | refine Ext.alloc ?_ _ | refine Ext.drew ?_ | refine Ext.drewN ?_ _ | refine Ext.setCell ?_ (by first | exact Nat.le_refl _ | (simp; done) | (dsimp only; omega) | (simp only [World.size_alloc, World.size_setCell]; omega)) _ | refine Ext.trans ?_ (by assumption)))
        clear bxa6 bxb6 bya6 byb6
        go_wp2_with (fail)
        refine (iHoldStarts_any _ nT0 zT0 nL0 zL0 _ n1 z1 a2 _ n3 z3 _ ((OwnNet.ext hr5 (by repeat (first | exact Ext.refl _ | assumption | refine Ext.alloc ?_ _ | refine Ext.drew ?_ | refine Ext.drewN ?_ _ | refine Ext.setCell ?_ (by first | exact Nat.le_refl _ | (simp; done) | (dsimp only; omega) | (simp only [World.size_alloc, World.size_setCell]; omega)) _ | refine Ext.trans ?_ (by assumption)))).net (by unfold maxLen; omega) (by unfold maxLen; omega) HWT0.out HWL0.out) (row_ints (row_ext hr6 (by repeat (first | exact Ext.refl _ | assumption | refine Ext.alloc ?_ _ | refine Ext.drew ?_ | refine Ext.drewN ?_ _ | refine Ext.setCell ?_ (by first | exact Nat.le_refl _ | (simp; done) | (dsimp only; omega) | (simp only [World.size_alloc, World.size_setCell]; omega)) _ | refine Ext.trans ?_ (by assumption)))) (by unfold maxLen; omega) HW1.out) (row_ints (row_ext hr7 (by repeat (first | exact Ext.refl _ | assumption | refine Ext.alloc ?_ _ | refine Ext.drew ?_ | refine Ext.drewN ?_ _ | refine Ext.setCell ?_ (by first | exact Nat.le_refl _ | (simp; done) | (dsimp only; omega) | (simp only [World.size_alloc, World.size_setCell]; omega)) _ | refine Ext.trans ?_ (by assumption)))) (by unfold maxLen; omega) HW3.out)).mono ?_
        rintro e w8 ⟨vg, rfl, hrg, hb8⟩
        obtain ⟨bxa8, bxb8⟩ := HBX.out w8 (by repeat (first | exact Ext.refl _ | assumption | refine Ext.alloc ?_ _ | refine Ext.drew ?_ | refine Ext.drewN ?_ _ | refine Ext.setCell ?_ (by first | exact Nat.le_refl _ | (simp; done) | (dsimp only; omega) | (simp only [World.size_alloc, World.size_setCell]; omega)) _ | refine Ext.trans ?_ (by assumption)))
        obtain ⟨bya8, byb8⟩ := HBY.out w8 (by repeat (first | exact Ext.refl _ | assumption | refine Ext.alloc ?_ _ | refine Ext.drew ?_ | refine Ext.drewN ?_ _ | refine Ext.setCell ?_ (by first | exact Nat.le_refl _ | (simp; done) | (dsimp only; omega) | (simp only [World.size_alloc, World.size_setCell]; omega)) _ | refine Ext.trans ?_ (by assumption)))
        clear bxa7 bxb7 bya7 byb7
        rw [← HL.out] at hrg
        go_wp2_with (fail)
        refine (eqIntS_same _ _ (L.length / 1) L _ (row_ints (row_ext hrg (by repeat (first | exact Ext.refl _ | assumption | refine Ext.alloc ?_ _ | refine Ext.drew ?_ | refine Ext.drewN ?_ _ | refine Ext.setCell ?_ (by first | exact Nat.le_refl _ | (simp; done) | (dsimp only; omega) | (simp only [World.size_alloc, World.size_setCell]; omega)) _ | refine Ext.trans ?_ (by assumption)))) (by unfold maxLen; omega) HLW.out) (row_ints (row_ext hrw (by repeat (first | exact Ext.refl _ | assumption | refine Ext.alloc ?_ _ | refine Ext.drew ?_ | refine Ext.drewN ?_ _ | refine Ext.setCell ?_ (by first | exact Nat.le_refl _ | (simp; done) | (dsimp only; omega) | (simp only [World.size_alloc, World.size_setCell]; omega)) _ | refine Ext.trans ?_ (by assumption)))) (by unfold maxLen; omega) HLW.out)).mono ?_
        rintro e w9 ⟨rfl, hb9⟩
        obtain ⟨bxa9, bxb9⟩ := HBX.out w9 (by repeat (first | exact Ext.refl _ | assumption | refine Ext.alloc ?_ _ | refine Ext.drew ?_ | refine Ext.drewN ?_ _ | refine Ext.setCell ?_ (by first | exact Nat.le_refl _ | (simp; done) | (dsimp only; omega) | (simp only [World.size_alloc, World.size_setCell]; omega)) _ | refine Ext.trans ?_ (by assumption)))
        obtain ⟨bya9, byb9⟩ := HBY.out w9 (by repeat (first | exact Ext.refl _ | assumption | refine Ext.alloc ?_ _ | refine Ext.drew ?_ | refine Ext.drewN ?_ _ | refine Ext.setCell ?_ (by first | exact Nat.le_refl _ | (simp; done) | (dsimp only; omega) | (simp only [World.size_alloc, World.size_setCell]; omega)) _ | refine Ext.trans ?_ (by assumption)))
        clear bxa8 bxb8 bya8 byb8
        go_wp2_with (fail)
        have SK0 := And.intro (HBX.out w9.drew (by repeat (first | exact Ext.refl _ | assumption | refine Ext.alloc ?_ _ | refine Ext.drew ?_ | refine Ext.drewN ?_ _ | refine Ext.setCell ?_ (by first | exact Nat.le_refl _ | (simp; done) | (dsimp only; omega) | (simp only [World.size_alloc, World.size_setCell]; omega)) _ | refine Ext.trans ?_ (by assumption)))) (HBY.out w9.drew (by repeat (first | exact Ext.refl _ | assumption | refine Ext.alloc ?_ _ | refine Ext.drew ?_ | refine Ext.drewN ?_ _ | refine Ext.setCell ?_ (by first | exact Nat.le_refl _ | (simp; done) | (dsimp only; omega) | (simp only [World.size_alloc, World.size_setCell]; omega)) _ | refine Ext.trans ?_ (by assumption))))
        refine wp_region_noPanic ?_
        refine wp_region_held_drew (S := (fun W => (W.cell? ⟨bg, 0, none⟩ = some vT0 ∧ W.cell? ⟨bg, 1, none⟩ = some vL0) ∧ (W.cell? ⟨by5, 0, none⟩ = some (.slice (some ⟨gT, 0, none⟩) nT0 nT0) ∧ W.cell? ⟨by5, 1, none⟩ = some (.slice (some ⟨gL, 0, none⟩) nL0 nL0)))) (by kernel_rfl) ?_ (fun hHeld => ?_)
        · first | exact SK0 | (dsimp only; exact SK0)
        refine wpAnyH_take (i := 0) (oi := { dst := some 71, op := _, type := _, pos := _, after := _, guard := _ }) (v := ?_) rfl (by kernel_rfl) (by kernel_rfl) (by kernel_rfl) (fun _ _ _ h => h) (Or.inl ⟨by rfl, ?_⟩) (by assumption) ?_
        rotate_left
        · (intro w hSw; (try dsimp only at hSw); go_simp) <;> (first | done | with_reducible rfl | rfl)
        try simp only [Act.put, List.setIfInBounds_toArray, List.set_cons_zero, List.set_cons_succ]
        refine wpAnyH_take (i := 1) (oi := { dst := some 72, op := _, type := _, pos := _, after := _, guard := _ }) (v := ?_) rfl (by kernel_rfl) (by kernel_rfl) (by kernel_rfl) (fun _ _ _ h => h) (Or.inl ⟨by rfl, ?_⟩) (by assumption) ?_
        rotate_left
        · (intro w hSw; (try dsimp only at hSw); go_simp) <;> (first | done | with_reducible rfl | rfl)
        try simp only [Act.put, List.setIfInBounds_toArray, List.set_cons_zero, List.set_cons_succ]
        refine wpAnyH_ready (rs := [2]) (by kernel_rfl) (by simp) ?_
        refine AllReadyH.cons (o := { dst := some 73, op := _, type := _, pos := _, after := _, guard := _ }) rfl (fun K hK => ?_) AllReadyH.nil
        go_simp
        go_at_call 17
        refine (toNet_any _ nT0 nL0 zT0 zL0 _ (r0.ext (by repeat (first | exact Ext.refl _ | assumption | refine Ext.alloc ?_ _ | refine Ext.drew ?_ | refine Ext.drewN ?_ _ | refine Ext.setCell ?_ (by first | exact Nat.le_refl _ | (simp; done) | (dsimp only; omega) | (simp only [World.size_alloc, World.size_setCell]; omega)) _ | refine Ext.trans ?_ (by assumption)))) hnT0 hnL0).mono ?_
        rintro e w10 ⟨x10, rfl, hr10, hb10⟩
        have SK := And.intro (HBX.out w10 (by repeat (first | exact Ext.refl _ | assumption | refine Ext.alloc ?_ _ | refine Ext.drew ?_ | refine Ext.drewN ?_ _ | refine Ext.setCell ?_ (by first | exact Nat.le_refl _ | (simp; done) | (dsimp only; omega) | (simp only [World.size_alloc, World.size_setCell]; omega)) _ | refine Ext.trans ?_ (by assumption)))) (HBY.out w10 (by repeat (first | exact Ext.refl _ | assumption | refine Ext.alloc ?_ _ | refine Ext.drew ?_ | refine Ext.drewN ?_ _ | refine Ext.setCell ?_ (by first | exact Nat.le_refl _ | (simp; done) | (dsimp only; omega) | (simp only [World.size_alloc, World.size_setCell]; omega)) _ | refine Ext.trans ?_ (by assumption))))
        refine hK.out _ _ ?_ (fun hHeld => ?_)
        · first | exact SK | (dsimp only; exact SK)
        clear hK K
        try simp only [Act.put, List.setIfInBounds_toArray, List.set_cons_zero, List.set_cons_succ]
        refine wpAnyH_ready (rs := [3]) (by kernel_rfl) (by simp) ?_
        refine AllReadyH.cons (o := { dst := some 74, op := _, type := _, pos := _, after := _, guard := _ }) rfl (fun K hK => ?_) AllReadyH.nil
        go_simp
        go_at_call 21
        refine (eqNet_same _ _ nT0 zT0 nL0 zL0 _ ((OwnNet.ext hr5 (by repeat (first | exact Ext.refl _ | assumption | refine Ext.alloc ?_ _ | refine Ext.drew ?_ | refine Ext.drewN ?_ _ | refine Ext.setCell ?_ (by first | exact Nat.le_refl _ | (simp; done) | (dsimp only; omega) | (simp only [World.size_alloc, World.size_setCell]; omega)) _ | refine Ext.trans ?_ (by assumption)))).net (by unfold maxLen; omega) (by unfold maxLen; omega) HWT0.out HWL0.out) ((OwnNet.ext hr10 (by repeat (first | exact Ext.refl _ | assumption | refine Ext.alloc ?_ _ | refine Ext.drew ?_ | refine Ext.drewN ?_ _ | refine Ext.setCell ?_ (by first | exact Nat.le_refl _ | (simp; done) | (dsimp only; omega) | (simp only [World.size_alloc, World.size_setCell]; omega)) _ | refine Ext.trans ?_ (by assumption)))).net (by unfold maxLen; omega) (by unfold maxLen; omega) HWT0.out HWL0.out)).mono ?_
        rintro e w11 ⟨rfl, hb11⟩
        have SK2 := And.intro (HBX.out w11 (by repeat (first | exact Ext.refl _ | assumption | refine Ext.alloc ?_ _ | refine Ext.drew ?_ | refine Ext.drewN ?_ _ | refine Ext.setCell ?_ (by first | exact Nat.le_refl _ | (simp; done) | (dsimp only; omega) | (simp only [World.size_alloc, World.size_setCell]; omega)) _ | refine Ext.trans ?_ (by assumption)))) (HBY.out w11 (by repeat (first | exact Ext.refl _ | assumption | refine Ext.alloc ?_ _ | refine Ext.drew ?_ | refine Ext.drewN ?_ _ | refine Ext.setCell ?_ (by first | exact Nat.le_refl _ | (simp; done) | (dsimp only; omega) | (simp only [World.size_alloc, World.size_setCell]; omega)) _ | refine Ext.trans ?_ (by assumption))))
        refine hK.out _ _ ?_ (fun hHeld => ?_)
        · first | exact SK2 | (dsimp only; exact SK2)
        clear hK K
        try simp only [Act.put, List.setIfInBounds_toArray, List.set_cons_zero, List.set_cons_succ]
        refine wpAnyH_take (i := 4) (oi := { dst := some 75, op := _, type := _, pos := _, after := _, guard := _ }) (v := ?_) rfl (by kernel_rfl) (by kernel_rfl) (by kernel_rfl) (fun _ _ _ h => h) (Or.inl ⟨by rfl, ?_⟩) (by assumption) ?_
        rotate_left
        · (intro w hSw; (try dsimp only at hSw); go_simp) <;> (first | done | with_reducible rfl | rfl)
        try simp only [Act.put, List.setIfInBounds_toArray, List.set_cons_zero, List.set_cons_succ]
        refine wpAnyH_done (by kernel_rfl) ?_ _
        refine NoPanic.normal ?_
        clear SK0 SK SK2
        obtain ⟨bxa11, bxb11⟩ := HBX.out w11 (by repeat (first | exact Ext.refl _ | assumption | refine Ext.alloc ?_ _ | refine Ext.drew ?_ | refine Ext.drewN ?_ _ | refine Ext.setCell ?_ (by first | exact Nat.le_refl _ | (simp; done) | (dsimp only; omega) | (simp only [World.size_alloc, World.size_setCell]; omega)) _ | refine Ext.trans ?_ (by assumption)))
        obtain ⟨bya11, byb11⟩ := HBY.out w11 (by repeat (first | exact Ext.refl _ | assumption | refine Ext.alloc ?_ _ | refine Ext.drew ?_ | refine Ext.drewN ?_ _ | refine Ext.setCell ?_ (by first | exact Nat.le_refl _ | (simp; done) | (dsimp only; omega) | (simp only [World.size_alloc, World.size_setCell]; omega)) _ | refine Ext.trans ?_ (by assumption)))
        clear bxa9 bxb9 bya9 byb9
        go_wp2_with (fail)
        refine (toFogS_any _ n1 z1 _ (r1.ext (by repeat (first | exact Ext.refl _ | assumption | refine Ext.alloc ?_ _ | refine Ext.drew ?_ | refine Ext.drewN ?_ _ | refine Ext.setCell ?_ (by first | exact Nat.le_refl _ | (simp; done) | (dsimp only; omega) | (simp only [World.size_alloc, World.size_setCell]; omega)) _ | refine Ext.trans ?_ (by assumption)))) hm1).mono ?_
        rintro e w12 ⟨g12, rfl, hr12, hb12⟩
        obtain ⟨bxa12, bxb12⟩ := HBX.out w12 (by repeat (first | exact Ext.refl _ | assumption | refine Ext.alloc ?_ _ | refine Ext.drew ?_ | refine Ext.drewN ?_ _ | refine Ext.setCell ?_ (by first | exact Nat.le_refl _ | (simp; done) | (dsimp only; omega) | (simp only [World.size_alloc, World.size_setCell]; omega)) _ | refine Ext.trans ?_ (by assumption)))
        obtain ⟨bya12, byb12⟩ := HBY.out w12 (by repeat (first | exact Ext.refl _ | assumption | refine Ext.alloc ?_ _ | refine Ext.drew ?_ | refine Ext.drewN ?_ _ | refine Ext.setCell ?_ (by first | exact Nat.le_refl _ | (simp; done) | (dsimp only; omega) | (simp only [World.size_alloc, World.size_setCell]; omega)) _ | refine Ext.trans ?_ (by assumption)))
        clear bxa11 bxb11 bya11 byb11
        go_wp2_with (fail)
        refine (eqFogS_same _ _ n1 z1 _ (row_ints (row_ext hr6 (by repeat (first | exact Ext.refl _ | assumption | refine Ext.alloc ?_ _ | refine Ext.drew ?_ | refine Ext.drewN ?_ _ | refine Ext.setCell ?_ (by first | exact Nat.le_refl _ | (simp; done) | (dsimp only; omega) | (simp only [World.size_alloc, World.size_setCell]; omega)) _ | refine Ext.trans ?_ (by assumption)))) (by unfold maxLen; omega) HW1.out) (row_ints (row_ext hr12 (by repeat (first | exact Ext.refl _ | assumption | refine Ext.alloc ?_ _ | refine Ext.drew ?_ | refine Ext.drewN ?_ _ | refine Ext.setCell ?_ (by first | exact Nat.le_refl _ | (simp; done) | (dsimp only; omega) | (simp only [World.size_alloc, World.size_setCell]; omega)) _ | refine Ext.trans ?_ (by assumption)))) (by unfold maxLen; omega) HW1.out)).mono ?_
        rintro e w13 ⟨rfl, hb13⟩
        obtain ⟨bxa13, bxb13⟩ := HBX.out w13 (by repeat (first | exact Ext.refl _ | assumption | refine Ext.alloc ?_ _ | refine Ext.drew ?_ | refine Ext.drewN ?_ _ | refine Ext.setCell ?_ (by first | exact Nat.le_refl _ | (simp; done) | (dsimp only; omega) | (simp only [World.size_alloc, World.size_setCell]; omega)) _ | refine Ext.trans ?_ (by assumption)))
        obtain ⟨bya13, byb13⟩ := HBY.out w13 (by repeat (first | exact Ext.refl _ | assumption | refine Ext.alloc ?_ _ | refine Ext.drew ?_ | refine Ext.drewN ?_ _ | refine Ext.setCell ?_ (by first | exact Nat.le_refl _ | (simp; done) | (dsimp only; omega) | (simp only [World.size_alloc, World.size_setCell]; omega)) _ | refine Ext.trans ?_ (by assumption)))
        clear bxa12 bxb12 bya12 byb12
        go_wp2_with (fail)
        refine (toHeldJobS_any _ n3 z3 _ (r3.ext (by repeat (first | exact Ext.refl _ | assumption | refine Ext.alloc ?_ _ | refine Ext.drew ?_ | refine Ext.drewN ?_ _ | refine Ext.setCell ?_ (by first | exact Nat.le_refl _ | (simp; done) | (dsimp only; omega) | (simp only [World.size_alloc, World.size_setCell]; omega)) _ | refine Ext.trans ?_ (by assumption)))) hm3).mono ?_
        rintro e w14 ⟨g14, rfl, hr14, hb14⟩
        obtain ⟨bxa14, bxb14⟩ := HBX.out w14 (by repeat (first | exact Ext.refl _ | assumption | refine Ext.alloc ?_ _ | refine Ext.drew ?_ | refine Ext.drewN ?_ _ | refine Ext.setCell ?_ (by first | exact Nat.le_refl _ | (simp; done) | (dsimp only; omega) | (simp only [World.size_alloc, World.size_setCell]; omega)) _ | refine Ext.trans ?_ (by assumption)))
        obtain ⟨bya14, byb14⟩ := HBY.out w14 (by repeat (first | exact Ext.refl _ | assumption | refine Ext.alloc ?_ _ | refine Ext.drew ?_ | refine Ext.drewN ?_ _ | refine Ext.setCell ?_ (by first | exact Nat.le_refl _ | (simp; done) | (dsimp only; omega) | (simp only [World.size_alloc, World.size_setCell]; omega)) _ | refine Ext.trans ?_ (by assumption)))
        clear bxa13 bxb13 bya13 byb13
        go_wp2_with (fail)
        refine (eqHeldJobS_same _ _ n3 z3 _ (row_ints (row_ext hr7 (by repeat (first | exact Ext.refl _ | assumption | refine Ext.alloc ?_ _ | refine Ext.drew ?_ | refine Ext.drewN ?_ _ | refine Ext.setCell ?_ (by first | exact Nat.le_refl _ | (simp; done) | (dsimp only; omega) | (simp only [World.size_alloc, World.size_setCell]; omega)) _ | refine Ext.trans ?_ (by assumption)))) (by unfold maxLen; omega) HW3.out) (row_ints (row_ext hr14 (by repeat (first | exact Ext.refl _ | assumption | refine Ext.alloc ?_ _ | refine Ext.drew ?_ | refine Ext.drewN ?_ _ | refine Ext.setCell ?_ (by first | exact Nat.le_refl _ | (simp; done) | (dsimp only; omega) | (simp only [World.size_alloc, World.size_setCell]; omega)) _ | refine Ext.trans ?_ (by assumption)))) (by unfold maxLen; omega) HW3.out)).mono ?_
        rintro e w15 ⟨rfl, hb15⟩
        obtain ⟨bxa15, bxb15⟩ := HBX.out w15 (by repeat (first | exact Ext.refl _ | assumption | refine Ext.alloc ?_ _ | refine Ext.drew ?_ | refine Ext.drewN ?_ _ | refine Ext.setCell ?_ (by first | exact Nat.le_refl _ | (simp; done) | (dsimp only; omega) | (simp only [World.size_alloc, World.size_setCell]; omega)) _ | refine Ext.trans ?_ (by assumption)))
        obtain ⟨bya15, byb15⟩ := HBY.out w15 (by repeat (first | exact Ext.refl _ | assumption | refine Ext.alloc ?_ _ | refine Ext.drew ?_ | refine Ext.drewN ?_ _ | refine Ext.setCell ?_ (by first | exact Nat.le_refl _ | (simp; done) | (dsimp only; omega) | (simp only [World.size_alloc, World.size_setCell]; omega)) _ | refine Ext.trans ?_ (by assumption)))
        clear bxa14 bxb14 bya14 byb14
        have hrw15 := row_ext hrw ((by repeat (first | exact Ext.refl _ | assumption | refine Ext.alloc ?_ _ | refine Ext.drew ?_ | refine Ext.drewN ?_ _ | refine Ext.setCell ?_ (by first | exact Nat.le_refl _ | (simp; done) | (dsimp only; omega) | (simp only [World.size_alloc, World.size_setCell]; omega)) _ | refine Ext.trans ?_ (by assumption))) : Ext w4 w15)
        have hrg15 := row_ext hrg ((by repeat (first | exact Ext.refl _ | assumption | refine Ext.alloc ?_ _ | refine Ext.drew ?_ | refine Ext.drewN ?_ _ | refine Ext.setCell ?_ (by first | exact Nat.le_refl _ | (simp; done) | (dsimp only; omega) | (simp only [World.size_alloc, World.size_setCell]; omega)) _ | refine Ext.trans ?_ (by assumption))) : Ext w8 w15)
        have ha0 := OwnNet.ext hr5 ((by repeat (first | exact Ext.refl _ | assumption | refine Ext.alloc ?_ _ | refine Ext.drew ?_ | refine Ext.drewN ?_ _ | refine Ext.setCell ?_ (by first | exact Nat.le_refl _ | (simp; done) | (dsimp only; omega) | (simp only [World.size_alloc, World.size_setCell]; omega)) _ | refine Ext.trans ?_ (by assumption))) : Ext w5 w15)
        have ha1 := row_ext hr6 ((by repeat (first | exact Ext.refl _ | assumption | refine Ext.alloc ?_ _ | refine Ext.drew ?_ | refine Ext.drewN ?_ _ | refine Ext.setCell ?_ (by first | exact Nat.le_refl _ | (simp; done) | (dsimp only; omega) | (simp only [World.size_alloc, World.size_setCell]; omega)) _ | refine Ext.trans ?_ (by assumption))) : Ext w6 w15)
        have ha3 := row_ext hr7 ((by repeat (first | exact Ext.refl _ | assumption | refine Ext.alloc ?_ _ | refine Ext.drew ?_ | refine Ext.drewN ?_ _ | refine Ext.setCell ?_ (by first | exact Nat.le_refl _ | (simp; done) | (dsimp only; omega) | (simp only [World.size_alloc, World.size_setCell]; omega)) _ | refine Ext.trans ?_ (by assumption))) : Ext w7 w15)
        have hSZ0 : w4.heap.size ≤ wy.heap.size := ((by repeat (first | exact Ext.refl _ | assumption | refine Ext.alloc ?_ _ | refine Ext.drew ?_ | refine Ext.drewN ?_ _ | refine Ext.setCell ?_ (by first | exact Nat.le_refl _ | (simp; done) | (dsimp only; omega) | (simp only [World.size_alloc, World.size_setCell]; omega)) _ | refine Ext.trans ?_ (by assumption))) : Ext w4 wy).size
        have hSZ1 : wy.heap.size ≤ w6.heap.size := ((by repeat (first | exact Ext.refl _ | assumption | refine Ext.alloc ?_ _ | refine Ext.drew ?_ | refine Ext.drewN ?_ _ | refine Ext.setCell ?_ (by first | exact Nat.le_refl _ | (simp; done) | (dsimp only; omega) | (simp only [World.size_alloc, World.size_setCell]; omega)) _ | refine Ext.trans ?_ (by assumption))) : Ext wy w6).size
        have hSZ2 : w6.heap.size ≤ w7.heap.size := ((by repeat (first | exact Ext.refl _ | assumption | refine Ext.alloc ?_ _ | refine Ext.drew ?_ | refine Ext.drewN ?_ _ | refine Ext.setCell ?_ (by first | exact Nat.le_refl _ | (simp; done) | (dsimp only; omega) | (simp only [World.size_alloc, World.size_setCell]; omega)) _ | refine Ext.trans ?_ (by assumption))) : Ext w6 w7).size
        have hSZa : w0.heap.size ≤ w4.heap.size := ((by repeat (first | exact Ext.refl _ | assumption | refine Ext.alloc ?_ _ | refine Ext.drew ?_ | refine Ext.drewN ?_ _ | refine Ext.setCell ?_ (by first | exact Nat.le_refl _ | (simp; done) | (dsimp only; omega) | (simp only [World.size_alloc, World.size_setCell]; omega)) _ | refine Ext.trans ?_ (by assumption))) : Ext w0 w4).size
        have hE15 : Ext w0 w15 := (by repeat (first | exact Ext.refl _ | assumption | refine Ext.alloc ?_ _ | refine Ext.drew ?_ | refine Ext.drewN ?_ _ | refine Ext.setCell ?_ (by first | exact Nat.le_refl _ | (simp; done) | (dsimp only; omega) | (simp only [World.size_alloc, World.size_setCell]; omega)) _ | refine Ext.trans ?_ (by assumption)))
        obtain ⟨S0, hS0⟩ : ∃ n, n = w4.heap.size := ⟨_, rfl⟩
        obtain ⟨S1, hS1⟩ : ∃ n, n = wy.heap.size := ⟨_, rfl⟩
        obtain ⟨S2, hS2⟩ : ∃ n, n = w6.heap.size := ⟨_, rfl⟩
        obtain ⟨S3, hS3⟩ : ∃ n, n = w7.heap.size := ⟨_, rfl⟩
        have hz1 : w0.heap.size ≤ S0 := by rw [hS0]; exact hSZa
        have hSS0 : S0 ≤ S1 := by rw [hS0, hS1]; exact hSZ0
        have hSS1 : S1 ≤ S2 := by rw [hS1, hS2]; exact hSZ1
        have hSS2 : S2 ≤ S3 := by rw [hS2, hS3]; exact hSZ2
        have HHLW : Hid (∀ k, vw.ownBlock = some k → k < S0) := hid (fun k hk => by rw [hS0]; exact (hrw.lt k hk).2)
        have HHLG : Hid (∀ k, vg.ownBlock = some k → S3 ≤ k) := hid (fun k hk => by rw [hS3]; exact (hrg.lt k hk).1)
        have hh0 : ∀ gT2 gL2, Value.agg #[.slice (some ⟨gT, 0, none⟩) nT0 nT0, .slice (some ⟨gL, 0, none⟩) nL0 nL0] = .agg #[.slice (some ⟨gT2, 0, none⟩) nT0 nT0, .slice (some ⟨gL2, 0, none⟩) nL0 nL0] → gL2 < S1 := fun gT2 gL2 hx => by rw [hS1]; exact Nat.lt_of_lt_of_le (hr5.hi gT2 gL2 hx) e5y.size
        have HH0 := hid hh0
        clear hh0
        rw [← hS0] at ha0
        have hh1 : S1 ≤ g6 ∧ g6 < S2 := by rw [hS1, hS2]; exact hr6.lt g6 rfl
        rw [← hS1] at ha1
        have hh3 : S2 ≤ g7 ∧ g7 < S3 := by rw [hS2, hS3]; exact hr7.lt g7 rfl
        rw [← hS2] at ha3
        rw [← hS3] at hrg15
        clear hS0 hS1 hS2 hS3 hSZ0 hSZ1 hSZ2 hSZa hrw hrg hb1 hb2 hb3 hb4 hb5 hb6 hb7 hb8 hb9 hb10 hb11 hb12 hb13 hb14 hb15 hr1 hr2 hr3 hr5 hr6 hr7
        go_wp2_with (fail)
        refine (markNet_any _ nT0 zT0 nL0 zL0 S0 S1 _ 1 ha0 HH0.out (by omega) (by omega) (by omega) (by omega)).mono ?_
        rintro e w16 ⟨rfl, hc16⟩
        have hE16 : Ext w0 w16 := hE15.of_chg hc16 (by omega)
        have hrw16 := row_chg hrw15 hc16 (fun k hk => .inl (by have := HHLW.out k hk; omega))
        have hrg16 := row_chg hrg15 hc16 (fun k hk => .inr (by have := HHLG.out k hk; omega))
        replace ha1 := row_chg ha1 hc16 (fun k hk => .inr (by have := (ha1.lt k hk).1; omega))
        replace ha3 := row_chg ha3 hc16 (fun k hk => .inr (by have := (ha3.lt k hk).1; omega))
        obtain ⟨bxa16, bxb16⟩ := HBX.out w16 (by repeat (first | exact Ext.refl _ | assumption | refine Ext.alloc ?_ _ | refine Ext.drew ?_ | refine Ext.drewN ?_ _ | refine Ext.setCell ?_ (by first | exact Nat.le_refl _ | (simp; done) | (dsimp only; omega) | (simp only [World.size_alloc, World.size_setCell]; omega)) _ | refine Ext.trans ?_ (by assumption)))
        clear bxa15 bxb15 bya15 byb15
        clear ha0 hc16 hrw15 hrg15 hE15
        go_wp2_with (fail)
        refine (markFogS_any _ n1 _ S1 _ (1 + 3 * nT0 + 3 * nL0) ha1 (by omega) (by omega) (by omega)).mono ?_
        rintro e w17 ⟨rfl, hrx17, hc17⟩
        have hc17 := Chg.of_grown (lo := S1) (hi := S2) hc17 (fun k hk => by simp [Value.ownBlock] at hk; omega)
        clear hrx17
        have hE17 : Ext w0 w17 := hE16.of_chg hc17 (by omega)
        have hrw17 := row_chg hrw16 hc17 (fun k hk => .inl (by have := HHLW.out k hk; omega))
        have hrg17 := row_chg hrg16 hc17 (fun k hk => .inr (by have := HHLG.out k hk; omega))
        replace ha3 := row_chg ha3 hc17 (fun k hk => .inr (by have := (ha3.lt k hk).1; omega))
        obtain ⟨bxa17, bxb17⟩ := HBX.out w17 (by repeat (first | exact Ext.refl _ | assumption | refine Ext.alloc ?_ _ | refine Ext.drew ?_ | refine Ext.drewN ?_ _ | refine Ext.setCell ?_ (by first | exact Nat.le_refl _ | (simp; done) | (dsimp only; omega) | (simp only [World.size_alloc, World.size_setCell]; omega)) _ | refine Ext.trans ?_ (by assumption)))
        clear bxa16 bxb16
        clear ha1 hc17 hrw16 hrg16 hE16
        go_wp2_with (fail)
        refine (markHeldJobS_any _ n3 _ S2 _ ((1 + 3 * nT0 + 3 * nL0) + 3 * n1) ha3 (by omega) (by omega) (by omega)).mono ?_
        rintro e w18 ⟨rfl, hrx18, hc18⟩
        have hc18 := Chg.of_grown (lo := S2) (hi := S3) hc18 (fun k hk => by simp [Value.ownBlock] at hk; omega)
        clear hrx18
        have hE18 : Ext w0 w18 := hE17.of_chg hc18 (by omega)
        have hrw18 := row_chg hrw17 hc18 (fun k hk => .inl (by have := HHLW.out k hk; omega))
        have hrg18 := row_chg hrg17 hc18 (fun k hk => .inr (by have := HHLG.out k hk; omega))
        obtain ⟨bxa18, bxb18⟩ := HBX.out w18 (by repeat (first | exact Ext.refl _ | assumption | refine Ext.alloc ?_ _ | refine Ext.drew ?_ | refine Ext.drewN ?_ _ | refine Ext.setCell ?_ (by first | exact Nat.le_refl _ | (simp; done) | (dsimp only; omega) | (simp only [World.size_alloc, World.size_setCell]; omega)) _ | refine Ext.trans ?_ (by assumption)))
        clear bxa17 bxb17
        clear ha3 hc18 hrw17 hrg17 hE17
        go_wp2_with (fail)
        refine (eqIntS_same _ _ (L.length / 1) L _ (row_ints (row_ext hrg18 (by repeat (first | exact Ext.refl _ | assumption | refine Ext.alloc ?_ _ | refine Ext.drew ?_ | refine Ext.drewN ?_ _ | refine Ext.setCell ?_ (by first | exact Nat.le_refl _ | (simp; done) | (dsimp only; omega) | (simp only [World.size_alloc, World.size_setCell]; omega)) _ | refine Ext.trans ?_ (by assumption)))) (by unfold maxLen; omega) HLW.out) (row_ints (row_ext hrw18 (by repeat (first | exact Ext.refl _ | assumption | refine Ext.alloc ?_ _ | refine Ext.drew ?_ | refine Ext.drewN ?_ _ | refine Ext.setCell ?_ (by first | exact Nat.le_refl _ | (simp; done) | (dsimp only; omega) | (simp only [World.size_alloc, World.size_setCell]; omega)) _ | refine Ext.trans ?_ (by assumption)))) (by unfold maxLen; omega) HLW.out)).mono ?_
        rintro e w19 ⟨rfl, hb19⟩
        obtain ⟨bxa19, bxb19⟩ := HBX.out w19 (by repeat (first | exact Ext.refl _ | assumption | refine Ext.alloc ?_ _ | refine Ext.drew ?_ | refine Ext.drewN ?_ _ | refine Ext.setCell ?_ (by first | exact Nat.le_refl _ | (simp; done) | (dsimp only; omega) | (simp only [World.size_alloc, World.size_setCell]; omega)) _ | refine Ext.trans ?_ (by assumption)))
        clear bxa18 bxb18
        have hE19 : Ext w0 w19 := hE18.trans hb19
        have hrw19 := row_ext hrw18 hb19
        have hrg19 := row_ext hrg18 hb19
        clear hb19 hrw18 hrg18
        go_wp2_with (fail)
        refine (markIntS_any _ _ _ S3 _ 1 hrg19 (by omega) (by omega) (by omega)).mono ?_
        rintro e w20 ⟨rfl, hrm, hg20⟩
        have hE20 : Ext w0 w20 := hE19.of_grownAt hg20 (fun k hk => by have := HHLG.out k hk; omega)
        have hrw20 := row_below (B := S0) hrw19 HHLW.out hg20 (fun k hk => by have := HHLG.out k hk; omega)
        clear hg20 hrw19 hrg19
        obtain ⟨bxa20, bxb20⟩ := HBX.out w20 (by repeat (first | exact Ext.refl _ | assumption | refine Ext.alloc ?_ _ | refine Ext.drew ?_ | refine Ext.drewN ?_ _ | refine Ext.setCell ?_ (by first | exact Nat.le_refl _ | (simp; done) | (dsimp only; omega) | (simp only [World.size_alloc, World.size_setCell]; omega)) _ | refine Ext.trans ?_ (by assumption)))
        clear bxa19 bxb19
        go_wp2_with (fail)
        refine (heldIntS_same _ (L.length / 1) _ 1 (row_ints (row_ext hrm (by repeat (first | exact Ext.refl _ | assumption | refine Ext.alloc ?_ _ | refine Ext.drew ?_ | refine Ext.drewN ?_ _ | refine Ext.setCell ?_ (by first | exact Nat.le_refl _ | (simp; done) | (dsimp only; omega) | (simp only [World.size_alloc, World.size_setCell]; omega)) _ | refine Ext.trans ?_ (by assumption)))) (by unfold maxLen; omega) (marks_wf (by omega) (by omega))) (by omega) (by omega) (by omega)).mono ?_
        rintro e w21 ⟨rfl, hb21⟩
        obtain ⟨bxa21, bxb21⟩ := HBX.out w21 (by repeat (first | exact Ext.refl _ | assumption | refine Ext.alloc ?_ _ | refine Ext.drew ?_ | refine Ext.drewN ?_ _ | refine Ext.setCell ?_ (by first | exact Nat.le_refl _ | (simp; done) | (dsimp only; omega) | (simp only [World.size_alloc, World.size_setCell]; omega)) _ | refine Ext.trans ?_ (by assumption)))
        clear bxa20 bxb20
        go_wp2_with (fail)
        refine (toNet_any _ nT0 nL0 zT0 zL0 _ (r0.ext (by repeat (first | exact Ext.refl _ | assumption | refine Ext.alloc ?_ _ | refine Ext.drew ?_ | refine Ext.drewN ?_ _ | refine Ext.setCell ?_ (by first | exact Nat.le_refl _ | (simp; done) | (dsimp only; omega) | (simp only [World.size_alloc, World.size_setCell]; omega)) _ | refine Ext.trans ?_ (by assumption)))) hnT0 hnL0).mono ?_
        rintro e w22 ⟨x22, rfl, hr22, hb22⟩
        obtain ⟨bxa22, bxb22⟩ := HBX.out w22 (by repeat (first | exact Ext.refl _ | assumption | refine Ext.alloc ?_ _ | refine Ext.drew ?_ | refine Ext.drewN ?_ _ | refine Ext.setCell ?_ (by first | exact Nat.le_refl _ | (simp; done) | (dsimp only; omega) | (simp only [World.size_alloc, World.size_setCell]; omega)) _ | refine Ext.trans ?_ (by assumption)))
        clear bxa21 bxb21
        go_wp2_with (fail)
        refine (toFogS_any _ n1 z1 _ (r1.ext (by repeat (first | exact Ext.refl _ | assumption | refine Ext.alloc ?_ _ | refine Ext.drew ?_ | refine Ext.drewN ?_ _ | refine Ext.setCell ?_ (by first | exact Nat.le_refl _ | (simp; done) | (dsimp only; omega) | (simp only [World.size_alloc, World.size_setCell]; omega)) _ | refine Ext.trans ?_ (by assumption)))) hm1).mono ?_
        rintro e w23 ⟨g23, rfl, hr23, hb23⟩
        obtain ⟨bxa23, bxb23⟩ := HBX.out w23 (by repeat (first | exact Ext.refl _ | assumption | refine Ext.alloc ?_ _ | refine Ext.drew ?_ | refine Ext.drewN ?_ _ | refine Ext.setCell ?_ (by first | exact Nat.le_refl _ | (simp; done) | (dsimp only; omega) | (simp only [World.size_alloc, World.size_setCell]; omega)) _ | refine Ext.trans ?_ (by assumption)))
        clear bxa22 bxb22
        go_wp2_with (fail)
        refine (toHeldJobS_any _ n3 z3 _ (r3.ext (by repeat (first | exact Ext.refl _ | assumption | refine Ext.alloc ?_ _ | refine Ext.drew ?_ | refine Ext.drewN ?_ _ | refine Ext.setCell ?_ (by first | exact Nat.le_refl _ | (simp; done) | (dsimp only; omega) | (simp only [World.size_alloc, World.size_setCell]; omega)) _ | refine Ext.trans ?_ (by assumption)))) hm3).mono ?_
        rintro e w24 ⟨g24, rfl, hr24, hb24⟩
        obtain ⟨bxa24, bxb24⟩ := HBX.out w24 (by repeat (first | exact Ext.refl _ | assumption | refine Ext.alloc ?_ _ | refine Ext.drew ?_ | refine Ext.drewN ?_ _ | refine Ext.setCell ?_ (by first | exact Nat.le_refl _ | (simp; done) | (dsimp only; omega) | (simp only [World.size_alloc, World.size_setCell]; omega)) _ | refine Ext.trans ?_ (by assumption)))
        clear bxa23 bxb23
        go_wp2_with (fail)
        refine (iHoldStarts_any _ nT0 zT0 nL0 zL0 _ n1 z1 a2 _ n3 z3 _ ((OwnNet.ext hr22 (by repeat (first | exact Ext.refl _ | assumption | refine Ext.alloc ?_ _ | refine Ext.drew ?_ | refine Ext.drewN ?_ _ | refine Ext.setCell ?_ (by first | exact Nat.le_refl _ | (simp; done) | (dsimp only; omega) | (simp only [World.size_alloc, World.size_setCell]; omega)) _ | refine Ext.trans ?_ (by assumption)))).net (by unfold maxLen; omega) (by unfold maxLen; omega) HWT0.out HWL0.out) (row_ints (row_ext hr23 (by repeat (first | exact Ext.refl _ | assumption | refine Ext.alloc ?_ _ | refine Ext.drew ?_ | refine Ext.drewN ?_ _ | refine Ext.setCell ?_ (by first | exact Nat.le_refl _ | (simp; done) | (dsimp only; omega) | (simp only [World.size_alloc, World.size_setCell]; omega)) _ | refine Ext.trans ?_ (by assumption)))) (by unfold maxLen; omega) HW1.out) (row_ints (row_ext hr24 (by repeat (first | exact Ext.refl _ | assumption | refine Ext.alloc ?_ _ | refine Ext.drew ?_ | refine Ext.drewN ?_ _ | refine Ext.setCell ?_ (by first | exact Nat.le_refl _ | (simp; done) | (dsimp only; omega) | (simp only [World.size_alloc, World.size_setCell]; omega)) _ | refine Ext.trans ?_ (by assumption)))) (by unfold maxLen; omega) HW3.out)).mono ?_
        rintro e w25 ⟨vh, rfl, hrh, hb25⟩
        obtain ⟨bxa25, bxb25⟩ := HBX.out w25 (by repeat (first | exact Ext.refl _ | assumption | refine Ext.alloc ?_ _ | refine Ext.drew ?_ | refine Ext.drewN ?_ _ | refine Ext.setCell ?_ (by first | exact Nat.le_refl _ | (simp; done) | (dsimp only; omega) | (simp only [World.size_alloc, World.size_setCell]; omega)) _ | refine Ext.trans ?_ (by assumption)))
        clear bxa24 bxb24
        rw [← HL.out] at hrh
        go_wp2_with (fail)
        refine (eqIntS_same _ _ (L.length / 1) L _ (row_ints (row_ext hrh (by repeat (first | exact Ext.refl _ | assumption | refine Ext.alloc ?_ _ | refine Ext.drew ?_ | refine Ext.drewN ?_ _ | refine Ext.setCell ?_ (by first | exact Nat.le_refl _ | (simp; done) | (dsimp only; omega) | (simp only [World.size_alloc, World.size_setCell]; omega)) _ | refine Ext.trans ?_ (by assumption)))) (by unfold maxLen; omega) HLW.out) (row_ints (row_ext hrw20 (by repeat (first | exact Ext.refl _ | assumption | refine Ext.alloc ?_ _ | refine Ext.drew ?_ | refine Ext.drewN ?_ _ | refine Ext.setCell ?_ (by first | exact Nat.le_refl _ | (simp; done) | (dsimp only; omega) | (simp only [World.size_alloc, World.size_setCell]; omega)) _ | refine Ext.trans ?_ (by assumption)))) (by unfold maxLen; omega) HLW.out)).mono ?_
        rintro e w26 ⟨rfl, hb26⟩
        obtain ⟨bxa26, bxb26⟩ := HBX.out w26 (by repeat (first | exact Ext.refl _ | assumption | refine Ext.alloc ?_ _ | refine Ext.drew ?_ | refine Ext.drewN ?_ _ | refine Ext.setCell ?_ (by first | exact Nat.le_refl _ | (simp; done) | (dsimp only; omega) | (simp only [World.size_alloc, World.size_setCell]; omega)) _ | refine Ext.trans ?_ (by assumption)))
        clear bxa25 bxb25
        go_wp2_with (fail)
        refine (heldIntS_same _ (L.length / 1) _ 1 (row_ints (row_ext hrm (by repeat (first | exact Ext.refl _ | assumption | refine Ext.alloc ?_ _ | refine Ext.drew ?_ | refine Ext.drewN ?_ _ | refine Ext.setCell ?_ (by first | exact Nat.le_refl _ | (simp; done) | (dsimp only; omega) | (simp only [World.size_alloc, World.size_setCell]; omega)) _ | refine Ext.trans ?_ (by assumption)))) (by unfold maxLen; omega) (marks_wf (by omega) (by omega))) (by omega) (by omega) (by omega)).mono ?_
        rintro e w27 ⟨rfl, hb27⟩
        obtain ⟨bxa27, bxb27⟩ := HBX.out w27 (by repeat (first | exact Ext.refl _ | assumption | refine Ext.alloc ?_ _ | refine Ext.drew ?_ | refine Ext.drewN ?_ _ | refine Ext.setCell ?_ (by first | exact Nat.le_refl _ | (simp; done) | (dsimp only; omega) | (simp only [World.size_alloc, World.size_setCell]; omega)) _ | refine Ext.trans ?_ (by assumption)))
        clear bxa26 bxb26
        go_wp2_with (fail)
        go_ret
        exact ⟨rfl, (by repeat (first | exact Ext.refl _ | assumption | refine Ext.alloc ?_ _ | refine Ext.drew ?_ | refine Ext.drewN ?_ _ | refine Ext.setCell ?_ (by first | exact Nat.le_refl _ | (simp; done) | (dsimp only; omega) | (simp only [World.size_alloc, World.size_setCell]; omega)) _ | refine Ext.trans ?_ (by assumption)))⟩
      · rw [if_neg hn3] at hsz3
        have HQ0 := hid hq0
        clear hq0
        have HQ1 := hid hq1
        clear hq1
        go_enter Try.func10, Try.ntmps10
        go_wp2_with (fail)
        have e00 : Ext w (w.alloc (.cells #[vT0, vL0] 25)) := (Ext.refl w).alloc _
        have bp0 : (w.alloc (.cells #[vT0, vL0] 25)).cell? ⟨w.heap.size, 0, none⟩ = some vT0 := by simp [go_sem]
        have bp1 : (w.alloc (.cells #[vT0, vL0] 25)).cell? ⟨w.heap.size, 1, none⟩ = some vL0 := by simp [go_sem]
        have bgs : w.heap.size < (w.alloc (.cells #[vT0, vL0] 25)).heap.size := by simp
        generalize (w.alloc (.cells #[vT0, vL0] 25)) = w0 at *
        obtain ⟨bg, hbg⟩ : ∃ g, g = w.heap.size := ⟨_, rfl⟩
        rw [← hbg] at bp0 bp1 bgs ⊢
        have HBX := hid (fun (W : World) (hW : Ext w0 W) => show W.cell? ⟨bg, 0, none⟩ = some vT0 ∧ W.cell? ⟨bg, 1, none⟩ = some vL0 from ⟨by rw [(Ext.cells hW).1 _ _ bgs]; exact bp0, by rw [(Ext.cells hW).1 _ _ bgs]; exact bp1⟩)
        clear hbg
        go_wp2_with (fail)
        refine (hsz0 _ (by repeat (first | exact Ext.refl _ | assumption | refine Ext.alloc ?_ _ | refine Ext.drew ?_ | refine Ext.drewN ?_ _ | refine Ext.setCell ?_ (by first | exact Nat.le_refl _ | (simp; done) | (dsimp only; omega) | (simp only [World.size_alloc, World.size_setCell]; omega)) _ | refine Ext.trans ?_ (by assumption)))).mono ?_
        rintro e wz ⟨rfl, hbz⟩
        clear bp0 bp1
        obtain ⟨bxa, bxb⟩ := HBX.out wz (by repeat (first | exact Ext.refl _ | assumption | refine Ext.alloc ?_ _ | refine Ext.drew ?_ | refine Ext.drewN ?_ _ | refine Ext.setCell ?_ (by first | exact Nat.le_refl _ | (simp; done) | (dsimp only; omega) | (simp only [World.size_alloc, World.size_setCell]; omega)) _ | refine Ext.trans ?_ (by assumption)))
        clear hsz0
        go_wp2_with (fail)
        refine (hsz1 _ (by repeat (first | exact Ext.refl _ | assumption | refine Ext.alloc ?_ _ | refine Ext.drew ?_ | refine Ext.drewN ?_ _ | refine Ext.setCell ?_ (by first | exact Nat.le_refl _ | (simp; done) | (dsimp only; omega) | (simp only [World.size_alloc, World.size_setCell]; omega)) _ | refine Ext.trans ?_ (by assumption)))).mono ?_
        rintro e w' ⟨rfl, rfl⟩
        clear hsz1
        go_wp2_with (fail)
        refine (hsz3 _ (by repeat (first | exact Ext.refl _ | assumption | refine Ext.alloc ?_ _ | refine Ext.drew ?_ | refine Ext.drewN ?_ _ | refine Ext.setCell ?_ (by first | exact Nat.le_refl _ | (simp; done) | (dsimp only; omega) | (simp only [World.size_alloc, World.size_setCell]; omega)) _ | refine Ext.trans ?_ (by assumption)))).mono ?_
        rintro e w' ⟨rfl, rfl⟩
        clear hsz3
        go_wp2_with (fail)
        go_ret
        exact ⟨rfl, (by repeat (first | exact Ext.refl _ | assumption | refine Ext.alloc ?_ _ | refine Ext.drew ?_ | refine Ext.drewN ?_ _ | refine Ext.setCell ?_ (by first | exact Nat.le_refl _ | (simp; done) | (dsimp only; omega) | (simp only [World.size_alloc, World.size_setCell]; omega)) _ | refine Ext.trans ?_ (by assumption)))⟩
    · rw [if_neg hn1] at hsz1
      have HQ0 := hid hq0
      clear hq0
      go_enter Try.func10, Try.ntmps10
      go_wp2_with (fail)
      have e00 : Ext w (w.alloc (.cells #[vT0, vL0] 25)) := (Ext.refl w).alloc _
      have bp0 : (w.alloc (.cells #[vT0, vL0] 25)).cell? ⟨w.heap.size, 0, none⟩ = some vT0 := by simp [go_sem]
      have bp1 : (w.alloc (.cells #[vT0, vL0] 25)).cell? ⟨w.heap.size, 1, none⟩ = some vL0 := by simp [go_sem]
      have bgs : w.heap.size < (w.alloc (.cells #[vT0, vL0] 25)).heap.size := by simp
      generalize (w.alloc (.cells #[vT0, vL0] 25)) = w0 at *
      obtain ⟨bg, hbg⟩ : ∃ g, g = w.heap.size := ⟨_, rfl⟩
      rw [← hbg] at bp0 bp1 bgs ⊢
      have HBX := hid (fun (W : World) (hW : Ext w0 W) => show W.cell? ⟨bg, 0, none⟩ = some vT0 ∧ W.cell? ⟨bg, 1, none⟩ = some vL0 from ⟨by rw [(Ext.cells hW).1 _ _ bgs]; exact bp0, by rw [(Ext.cells hW).1 _ _ bgs]; exact bp1⟩)
      clear hbg
      go_wp2_with (fail)
      refine (hsz0 _ (by repeat (first | exact Ext.refl _ | assumption | refine Ext.alloc ?_ _ | refine Ext.drew ?_ | refine Ext.drewN ?_ _ | refine Ext.setCell ?_ (by first | exact Nat.le_refl _ | (simp; done) | (dsimp only; omega) | (simp only [World.size_alloc, World.size_setCell]; omega)) _ | refine Ext.trans ?_ (by assumption)))).mono ?_
      rintro e wz ⟨rfl, hbz⟩
      clear bp0 bp1
      obtain ⟨bxa, bxb⟩ := HBX.out wz (by repeat (first | exact Ext.refl _ | assumption | refine Ext.alloc ?_ _ | refine Ext.drew ?_ | refine Ext.drewN ?_ _ | refine Ext.setCell ?_ (by first | exact Nat.le_refl _ | (simp; done) | (dsimp only; omega) | (simp only [World.size_alloc, World.size_setCell]; omega)) _ | refine Ext.trans ?_ (by assumption)))
      clear hsz0
      go_wp2_with (fail)
      refine (hsz1 _ (by repeat (first | exact Ext.refl _ | assumption | refine Ext.alloc ?_ _ | refine Ext.drew ?_ | refine Ext.drewN ?_ _ | refine Ext.setCell ?_ (by first | exact Nat.le_refl _ | (simp; done) | (dsimp only; omega) | (simp only [World.size_alloc, World.size_setCell]; omega)) _ | refine Ext.trans ?_ (by assumption)))).mono ?_
      rintro e w' ⟨rfl, rfl⟩
      clear hsz1
      go_wp2_with (fail)
      go_ret
      exact ⟨rfl, (by repeat (first | exact Ext.refl _ | assumption | refine Ext.alloc ?_ _ | refine Ext.drew ?_ | refine Ext.drewN ?_ _ | refine Ext.setCell ?_ (by first | exact Nat.le_refl _ | (simp; done) | (dsimp only; omega) | (simp only [World.size_alloc, World.size_setCell]; omega)) _ | refine Ext.trans ?_ (by assumption)))⟩
  · rw [if_neg hn0] at hsz0
    go_enter Try.func10, Try.ntmps10
    go_wp2_with (fail)
    have e00 : Ext w (w.alloc (.cells #[vT0, vL0] 25)) := (Ext.refl w).alloc _
    have bp0 : (w.alloc (.cells #[vT0, vL0] 25)).cell? ⟨w.heap.size, 0, none⟩ = some vT0 := by simp [go_sem]
    have bp1 : (w.alloc (.cells #[vT0, vL0] 25)).cell? ⟨w.heap.size, 1, none⟩ = some vL0 := by simp [go_sem]
    have bgs : w.heap.size < (w.alloc (.cells #[vT0, vL0] 25)).heap.size := by simp
    generalize (w.alloc (.cells #[vT0, vL0] 25)) = w0 at *
    obtain ⟨bg, hbg⟩ : ∃ g, g = w.heap.size := ⟨_, rfl⟩
    rw [← hbg] at bp0 bp1 bgs ⊢
    have HBX := hid (fun (W : World) (hW : Ext w0 W) => show W.cell? ⟨bg, 0, none⟩ = some vT0 ∧ W.cell? ⟨bg, 1, none⟩ = some vL0 from ⟨by rw [(Ext.cells hW).1 _ _ bgs]; exact bp0, by rw [(Ext.cells hW).1 _ _ bgs]; exact bp1⟩)
    clear hbg
    go_wp2_with (fail)
    refine (hsz0 _ (by repeat (first | exact Ext.refl _ | assumption | refine Ext.alloc ?_ _ | refine Ext.drew ?_ | refine Ext.drewN ?_ _ | refine Ext.setCell ?_ (by first | exact Nat.le_refl _ | (simp; done) | (dsimp only; omega) | (simp only [World.size_alloc, World.size_setCell]; omega)) _ | refine Ext.trans ?_ (by assumption)))).mono ?_
    rintro e wz ⟨rfl, hbz⟩
    clear bp0 bp1
    obtain ⟨bxa, bxb⟩ := HBX.out wz (by repeat (first | exact Ext.refl _ | assumption | refine Ext.alloc ?_ _ | refine Ext.drew ?_ | refine Ext.drewN ?_ _ | refine Ext.setCell ?_ (by first | exact Nat.le_refl _ | (simp; done) | (dsimp only; omega) | (simp only [World.size_alloc, World.size_setCell]; omega)) _ | refine Ext.trans ?_ (by assumption)))
    clear hsz0
    go_wp2_with (fail)
    go_ret
    exact ⟨rfl, (by repeat (first | exact Ext.refl _ | assumption | refine Ext.alloc ?_ _ | refine Ext.drew ?_ | refine Ext.drewN ?_ _ | refine Ext.setCell ?_ (by first | exact Nat.le_refl _ | (simp; done) | (dsimp only; omega) | (simp only [World.size_alloc, World.size_setCell]; omega)) _ | refine Ext.trans ?_ (by assumption)))⟩


set_option maxRecDepth 100000 in
set_option maxHeartbeats 3200000 in
theorem iHoldArrivals_any (v : Value) (nT : Nat) (zT : List Int) (nL : Nat) (zL : List Int) (u : Value) (nF : Nat) (zF : List Int) (link : Int) (x : Value) (m : Nat) (y : List Int) (w : World) (hN : NetRow w v nT zT nL zL) (hF : IntRow .i64 3 w u nF zF) (hJ : IntRow .i64 2 w x m y) :
    Calls Try.prog 35 #[v, u, .int .i64 link, x] w fun e w' => ∃ v', e = .returned (.tuple #[v', .bool (hoC nT zT nL zL zF nF link y m)]) ∧ w'.ownsRow w.heap.size 3 1 v' ((arV nT zT nL zL zF nF link y m).length / 1) ((arV nT zT nL zL zF nF link y m).map (Value.int .i64)) ∧ Ext w w' := by
  have hN0 := hN
  have hF0 := hF
  have hJ0 := hJ
  obtain ⟨vT, vL, rfl, hT, hL⟩ := hN
  obtain ⟨_, hmT, _, aT, cT, rfl, _, _, _⟩ := hT
  have hLI := hL
  obtain ⟨_, hmL, _, aL, cL, rfl, _, _, _⟩ := hL
  obtain ⟨_, _, _, aF, cF, rfl, _, _, _⟩ := hF
  have hnL : nL ≤ 9223372036854775807 := by unfold maxLen at hmL; omega
  clear hmT hmL
  have C0 := fun (W : World) (hW : Ext w W) => holdAsked_any _ nT zT nL zL _ nF zF link x m y W (hN0.ext hW) (hF0.ext hW) (hJ0.ext hW)
  obtain ⟨Q, hQ⟩ : ∃ q, q = hoC nT zT nL zL zF nF link y m := ⟨_, rfl⟩
  rw [show (askH nT zT nL zL zF nF link && okHs y m) = Q from hQ.symm] at C0
  rw [← hQ]
  cases Q with
  | false =>
    rw [show arV nT zT nL zL zF nF link y m = [] by unfold arV; rw [← hQ]; rfl]
    have HQ := hid hQ
    clear hQ
    go_enter Try.func35, Try.ntmps35
    go_wp2_with (fail)
    refine (C0 _ (by repeat (first | exact Ext.refl _ | assumption | refine Ext.alloc ?_ _ | refine Ext.drew ?_ | refine Ext.drewN ?_ _ | refine Ext.setCell ?_ (by first | exact Nat.le_refl _ | (simp; done) | (dsimp only; omega) | (simp only [World.size_alloc, World.size_setCell]; omega)) _ | refine Ext.trans ?_ (by assumption)))).mono ?_
    rintro e w1 ⟨rfl, hb1⟩
    have hz1 := Ext.size hb1
    try simp only [World.size_alloc, World.size_setCell] at hz1
    obtain ⟨hc1, hf1⟩ := Ext.cells hb1
    try have hk1_0_0 := fun o => hc1 (w.heap.size) o (by (try simp only [World.size_alloc, World.size_setCell]); omega)
    try have hj1_0_0 := fun o => hf1 (w.heap.size) o (by (try simp only [World.size_alloc, World.size_setCell]); omega)
    try have hy1_0_0 : w.heap.size < w1.heap.size := by omega
    try have hk1_0_1 := fun o => hc1 (w.heap.size + 1) o (by (try simp only [World.size_alloc, World.size_setCell]); omega)
    try have hj1_0_1 := fun o => hf1 (w.heap.size + 1) o (by (try simp only [World.size_alloc, World.size_setCell]); omega)
    try have hy1_0_1 : w.heap.size + 1 < w1.heap.size := by omega
    try have hk1_0_2 := fun o => hc1 (w.heap.size + 1 + 1) o (by (try simp only [World.size_alloc, World.size_setCell]); omega)
    try have hj1_0_2 := fun o => hf1 (w.heap.size + 1 + 1) o (by (try simp only [World.size_alloc, World.size_setCell]); omega)
    try have hy1_0_2 : w.heap.size + 1 + 1 < w1.heap.size := by omega
    clear hc1 hf1
    go_wp2_with (fail)
    go_ret2
    exact ⟨_, rfl, World.ownsRow_nil _ _ _ _, (by repeat (first | exact Ext.refl _ | assumption | refine Ext.alloc ?_ _ | refine Ext.drew ?_ | refine Ext.drewN ?_ _ | refine Ext.setCell ?_ (by first | exact Nat.le_refl _ | (simp; done) | (dsimp only; omega) | (simp only [World.size_alloc, World.size_setCell]; omega)) _ | refine Ext.trans ?_ (by assumption)))⟩
  | true =>
    obtain ⟨ho1, ho2, ⟨ho3, ho4⟩, hB2⟩ := hoC_iff hQ.symm
    obtain ⟨hm20, hjs⟩ := okHs_iff hB2
    have HOK := hid ho2
    have HJ := hid hB2
    have HNET := hid ho1
    have HJS := hid hjs
    have HQ := hid hQ
    clear hQ hB2 ho1 ho2 hjs
    obtain ⟨D, hD⟩ : ∃ D, D = f3c zL link.toNat := ⟨_, rfl⟩
    have hdb := (okNet_iff HNET.out).2.2 link.toNat (by omega)
    rw [← hD] at hdb
    obtain ⟨_, _, _, hd1, hd2⟩ := hdb
    have HD := hid hD
    rw [show arV nT zT nL zL zF nF link y m = haL zF nF link y D m by unfold arV; rw [← HQ.out, hD]; rfl, show (haL zF nF link y D m).length / 1 = m by rw [haL_length]; omega]
    clear hD
    go_enter Try.func35, Try.ntmps35
    go_wp2_with (fail)
    refine (C0 _ (by repeat (first | exact Ext.refl _ | assumption | refine Ext.alloc ?_ _ | refine Ext.drew ?_ | refine Ext.drewN ?_ _ | refine Ext.setCell ?_ (by first | exact Nat.le_refl _ | (simp; done) | (dsimp only; omega) | (simp only [World.size_alloc, World.size_setCell]; omega)) _ | refine Ext.trans ?_ (by assumption)))).mono ?_
    rintro e w1 ⟨rfl, hb1⟩
    have hz1 := Ext.size hb1
    try simp only [World.size_alloc, World.size_setCell] at hz1
    obtain ⟨hc1, hf1⟩ := Ext.cells hb1
    try have hk1_0_0 := fun o => hc1 (w.heap.size) o (by (try simp only [World.size_alloc, World.size_setCell]); omega)
    try have hj1_0_0 := fun o => hf1 (w.heap.size) o (by (try simp only [World.size_alloc, World.size_setCell]); omega)
    try have hy1_0_0 : w.heap.size < w1.heap.size := by omega
    try have hk1_0_1 := fun o => hc1 (w.heap.size + 1) o (by (try simp only [World.size_alloc, World.size_setCell]); omega)
    try have hj1_0_1 := fun o => hf1 (w.heap.size + 1) o (by (try simp only [World.size_alloc, World.size_setCell]); omega)
    try have hy1_0_1 : w.heap.size + 1 < w1.heap.size := by omega
    try have hk1_0_2 := fun o => hc1 (w.heap.size + 1 + 1) o (by (try simp only [World.size_alloc, World.size_setCell]); omega)
    try have hj1_0_2 := fun o => hf1 (w.heap.size + 1 + 1) o (by (try simp only [World.size_alloc, World.size_setCell]); omega)
    try have hy1_0_2 : w.heap.size + 1 + 1 < w1.heap.size := by omega
    clear hc1 hf1
    have hbg : w.heap.size < w1.heap.size := by omega
    have NB := hid (show w1.cell? ⟨w.heap.size, 1, none⟩ = some (.slice aL nL cL) by rw [(Ext.cells hb1).1 _ _ (by simp)]; simp [go_sem])
    have EW : Ext w w1 := (by repeat (first | exact Ext.refl _ | assumption | refine Ext.alloc ?_ _ | refine Ext.drew ?_ | refine Ext.drewN ?_ _ | refine Ext.setCell ?_ (by first | exact Nat.le_refl _ | (simp; done) | (dsimp only; omega) | (simp only [World.size_alloc, World.size_setCell]; omega)) _ | refine Ext.trans ?_ (by assumption)))
    have hFb := hF0.ext EW
    have hJb := hJ0.ext EW
    have hLb := hLI.ext EW
    obtain ⟨bg, hbe⟩ : ∃ g, g = w.heap.size := ⟨_, rfl⟩
    obtain ⟨wb, hwb⟩ : ∃ W, W = w1 := ⟨_, rfl⟩
    rw [← hbe, ← hwb] at NB hbg
    rw [← hwb] at hFb hJb hLb EW
    go_wp2_with (fail)
    rw [← hwb]
    have hzb : w.heap.size ≤ wb.heap.size := EW.size
    rw [← hbe]
    clear hb1 hbe hwb hz1
    refine (holdStarts_any _ nF zF link x m y _ nL hFb hJb HOK HJ).mono ?_
    rintro e w2 ⟨v2, rfl, hr2, hb2⟩
    obtain ⟨aS, cS, rfl, hnS, hcS, hgS⟩ := row_shape hr2
    have NB2 : w2.cell? ⟨bg, 1, none⟩ = some (.slice aL nL cL) := by rw [(Ext.cells hb2).1 _ _ hbg]; exact NB.out
    obtain ⟨hl, hm, hwf, a, c, rfl, hnc, hcm, hcell⟩ := hJb
    obtain ⟨hlL, _, _, aL', cL', he, _, _, hcellL⟩ := hLb
    cases he
    obtain ⟨bL, oL, rfl, hbL, hcL⟩ := hcellL.resolve_left (by omega)
    have HCL := hid hcL
    clear hwf hFb hcL hcellL
    go_wp2_with (fail)
    go_loopw [25] (fun i wr => ∃ (k : Nat) (xs : List Value), k ≤ m ∧ i = .int .i64 (k : Int) ∧ wr.ownsRow wb.heap.size 3 1 (.slice aS m cS) m xs ∧ (∀ j, j < m → xs[j]? = some (.int .i64 (if j < k then haAt zF nF link y D j else hsAt zF nF link y j))) ∧ Ext wb wr)
      (fun i _ => m - (intOf i).toNat)
    case atStart => exact ⟨0, _, Nat.zero_le _, rfl, hr2, fun j hj => by rw [hsL_map_getD hj, if_neg (by omega)], hb2⟩
    case round =>
      obtain ⟨k, xs, hk, rfl, hrow, hpre, hE⟩ := hrel
      have HP := hid hpre
      clear hr2 hb2 NB2 hpre
      have n1 : wr.cell? ⟨bg, 1, none⟩ = some (.slice (some ⟨bL, oL, none⟩) nL cL) := by rw [(Ext.cells hE).1 _ _ hbg]; exact NB.out
      by_cases hlt : k < m
      · obtain ⟨b, o, rfl, hb, hc⟩ := hcell.resolve_left (by omega)
        obtain ⟨gS, rfl, hgS1, hgS2⟩ := hgS.resolve_left (by omega)
        obtain ⟨z, hz⟩ : ∃ z, z = y := ⟨_, rfl⟩
        rw [← hz] at hc
        obtain ⟨x0, hx0⟩ : ∃ x, x = z.getD (k * 2) 0 := ⟨_, rfl⟩
        have s0 : wr.cell? ⟨b, o + k * 2, none⟩ = some (.int .i64 x0) := by rw [(Ext.cells hE).1 _ _ hb, show o + k * 2 = o + (k * 2) by omega, hc _ (by omega), hx0]
        have H0 := hid hx0
        clear hx0
        obtain ⟨x1, hx1⟩ : ∃ x, x = z.getD (k * 2 + 1) 0 := ⟨_, rfl⟩
        have s1 : wr.cell? ⟨b, o + k * 2 + 1, none⟩ = some (.int .i64 x1) := by rw [(Ext.cells hE).1 _ _ hb, show o + k * 2 + 1 = o + (k * 2 + 1) by omega, hc _ (by omega), hx1]
        have H1 := hid hx1
        clear hx1
        have hjk := HJS.out k hlt
        rw [show hRd y k = x0 by rw [H0.out, hz]; rfl, show hCt y k = x1 by rw [H1.out, hz]; rfl] at hjk
        obtain ⟨j1, j2, j3, j4⟩ := hjk
        have hAb := hsAt_bd link HOK.out HJS.out k hlt
        obtain ⟨A, hA⟩ : ∃ A, A = hsAt zF nF link y k := ⟨_, rfl⟩
        rw [← hA] at hAb
        obtain ⟨hA1, hA2, _, _⟩ := hAb
        have HAR := hid (show haAt zF nF link y D k = A + (x1 * 10 + D) by unfold haAt; rw [hA, H1.out, hz]; rfl)
        have rA := HP.out k hlt
        rw [if_neg (by omega), ← hA] at rA
        have HA := hid hA
        clear hc hcell hz hA hgS
        have hbr : b < wr.heap.size := Nat.lt_of_lt_of_le hb hE.size
        have hgr : gS < wr.heap.size := (hrow.lt gS rfl).2
        have hgb : wb.heap.size ≤ gS := hgS1
        have hbgr : bg < wr.heap.size := Nat.lt_of_lt_of_le hbg hE.size
        have hbLr : bL < wr.heap.size := Nat.lt_of_lt_of_le hbL hE.size
        have dl : wr.cell? ⟨bL, oL + link.toNat * 3 + 2, none⟩ = some (.int .i64 D) := by
          rw [(Ext.cells hE).1 _ _ hbL, show oL + link.toNat * 3 + 2 = oL + (link.toNat * 3 + 2) by omega, HCL.out _ (by omega), HD.out]
          rfl
        have ca := hrow.cellAt k (by omega)
        rw [rA] at ca
        have fa := hrow.frozenAt k
        go_wp2_with (fail)
        have AXw : ∀ W : World, W = wr.alloc (.cells #[.int .i64 x0, .int .i64 x1] 62) → W.cell? ⟨wr.heap.size, 1, none⟩ = some (.int .i64 x1) ∧ W.cell? ⟨bg, 1, none⟩ = some (.slice (some ⟨bL, oL, none⟩) nL cL) ∧ W.cell? ⟨bL, oL + link.toNat * 3 + 2, none⟩ = some (.int .i64 D) ∧ W.cell? ⟨gS, k, none⟩ = some (.int .i64 A) ∧ W.frozen? ⟨gS, k, none⟩ = false ∧ Ext wb W ∧ W.ownsRow wb.heap.size 3 1 (.slice (some ⟨gS, 0, none⟩) m cS) m xs := by
          rintro W rfl
          exact ⟨by simp [go_sem], by simp [go_sem, *], by simp [go_sem, *], by simp [go_sem, *], by simp [go_sem, *], hE.alloc _, hrow.alloc _⟩
        obtain ⟨wx, hwx⟩ : ∃ W, W = wr.alloc (.cells #[.int .i64 x0, .int .i64 x1] 62) := ⟨_, rfl⟩
        obtain ⟨t1, t2, t3, t4, t5, hEx, hrx⟩ := AXw wx hwx
        rw [← hwx]
        obtain ⟨gx, hgx⟩ : ∃ g, g = wr.heap.size := ⟨_, rfl⟩
        rw [← hgx] at t1 ⊢
        clear AXw hwx hgx s0 s1 n1 dl ca fa hrow hE hbr hgr hbgr hbLr
        have hs1 : IntKind.i64.wrap (x1 * 10) = x1 * 10 := IntWalk.i64_in _ (by omega)
        have hs2 : IntKind.i64.wrap (x1 * 10 + D) = x1 * 10 + D := IntWalk.i64_in _ (by omega)
        have hs3 : IntKind.i64.wrap (A + (x1 * 10 + D)) = A + (x1 * 10 + D) := IntWalk.i64_in _ (by omega)
        have hnn : (0 : Int) ≤ (k : Int) := Int.natCast_nonneg _
        have hkm : (k : Int) < m := by omega
        refine wp_region_still_tail 16 (by kernel_rfl) (by kernel_rfl) ?_
        simp only [List.take_succ_cons, List.take_zero, List.drop_succ_cons, List.drop_zero]
        repeat still_step
        try refine wpStill_nil ?_
        clear hs1 hs2 hs3
        change wpList _ _ _ _ _ wx.drew
        have hEy : Ext wb wx.drew := hEx.drew
        have hry := row_ext hrx ((Ext.refl wx).drew)
        have fy := hry.frozenAt k
        have cy := hry.cellAt k (by omega)
        rw [rA] at cy
        generalize wx.drew = wy at *
        go_wp2_with (fail)
        go_roundw
        case rel =>
          have q := hry.stored k (.int .i64 (A + (x1 * 10 + D)))
          refine ⟨k + 1, _, by omega, by go_num, q.1, fun j hj => ?_, hEy.setCell hgb _⟩
          by_cases ej : k = j
          · subst ej
            rw [List.getElem?_set_self (by rw [hry.1]; omega), if_pos (by omega), HAR.out]
          · rw [List.getElem?_set_ne ej, HP.out j hj]
            by_cases e2 : j < k
            · rw [if_pos e2, if_pos (by omega)]
            · rw [if_neg e2, if_neg (by omega)]
        case measure => simp [intOf]; omega
      · obtain rfl : k = m := by omega
        have HX := hid (list_full (m := k) (by simpa using hrow.1) (haL_length zF nF link y D k) (fun j hj => by rw [HP.out j hj, if_pos hj, haL_map_getD hj]))
        clear hcell n1
        go_wp2_with (fail)
        go_ret2
        refine ⟨_, rfl, ?_, EW.trans hE⟩
        rw [← HX.out]
        exact row_mono hrow hzb


set_option maxRecDepth 100000 in
set_option maxHeartbeats 3200000 in
theorem hoArrivals_any (v : Value) (nT : Nat) (zT : List Int) (nL : Nat) (zL : List Int) (u : Value) (nF : Nat) (zF : List Int) (link : Int) (x : Value) (m : Nat) (y : List Int) (w : World) (hN : NetRow w v nT zT nL zL) (hF : IntRow .i64 3 w u nF zF) (hJ : IntRow .i64 2 w x m y) (HQ : Hid (true = hoC nT zT nL zL zF nF link y m)) :
    Calls Try.prog 95 #[v, u, .int .i64 link, x] w fun e w' => ∃ v', e = .returned v' ∧ w'.ownsRow w.heap.size 3 1 v' m ((haL zF nF link y (f3c zL link.toNat) m).map (Value.int .i64)) ∧ Ext w w' := by
  have hN0 := hN
  have hF0 := hF
  have hJ0 := hJ
  obtain ⟨vT, vL, rfl, hT, hL⟩ := hN
  obtain ⟨_, hmT, _, aT, cT, rfl, _, _, _⟩ := hT
  have hLI := hL
  obtain ⟨_, hmL, _, aL, cL, rfl, _, _, _⟩ := hL
  obtain ⟨_, _, _, aF, cF, rfl, _, _, _⟩ := hF
  have hnL : nL ≤ 9223372036854775807 := by unfold maxLen at hmL; omega
  clear hmT hmL
  obtain ⟨ho1, ho2, ⟨ho3, ho4⟩, hB2⟩ := hoC_iff HQ.out.symm
  obtain ⟨hm20, hjs⟩ := okHs_iff hB2
  have HOK := hid ho2
  have HJ := hid hB2
  have HNET := hid ho1
  have HJS := hid hjs
  clear hB2 ho1 ho2 hjs
  obtain ⟨D, hD⟩ : ∃ D, D = f3c zL link.toNat := ⟨_, rfl⟩
  have hdb := (okNet_iff HNET.out).2.2 link.toNat (by omega)
  rw [← hD] at hdb
  obtain ⟨_, _, _, hd1, hd2⟩ := hdb
  have HD := hid hD
  rw [← hD]
  clear hD
  go_enter Try.func95, Try.ntmps95
  go_wp2_with (fail)
  have EW : Ext w (w.alloc (.cells #[.slice aT nT cT, .slice aL nL cL] 35)) := (Ext.refl w).alloc _
  have hbg : w.heap.size < (w.alloc (.cells #[.slice aT nT cT, .slice aL nL cL] 35)).heap.size := by simp
  have NB := hid (show (w.alloc (.cells #[.slice aT nT cT, .slice aL nL cL] 35)).cell? ⟨w.heap.size, 1, none⟩ = some (.slice aL nL cL) by simp [go_sem])
  obtain ⟨wb, hwb⟩ : ∃ W, W = w.alloc (.cells #[.slice aT nT cT, .slice aL nL cL] 35) := ⟨_, rfl⟩
  rw [← hwb] at NB hbg EW ⊢
  have hFb := hF0.ext EW
  have hJb := hJ0.ext EW
  have hLb := hLI.ext EW
  obtain ⟨bg, hbe⟩ : ∃ g, g = w.heap.size := ⟨_, rfl⟩
  have hzb : w.heap.size ≤ wb.heap.size := EW.size
  rw [← hbe] at NB hbg ⊢
  clear hbe hwb
  refine (hoStarts_any _ nF zF link x m y _ nL hFb hJb HOK HJ).mono ?_
  rintro e w2 ⟨v2, rfl, hr2, hb2⟩
  obtain ⟨aS, cS, rfl, hnS, hcS, hgS⟩ := row_shape hr2
  have NB2 : w2.cell? ⟨bg, 1, none⟩ = some (.slice aL nL cL) := by rw [(Ext.cells hb2).1 _ _ hbg]; exact NB.out
  obtain ⟨hl, hm, hwf, a, c, rfl, hnc, hcm, hcell⟩ := hJb
  obtain ⟨hlL, _, _, aL', cL', he, _, _, hcellL⟩ := hLb
  cases he
  obtain ⟨bL, oL, rfl, hbL, hcL⟩ := hcellL.resolve_left (by omega)
  have HCL := hid hcL
  clear hwf hFb hcL hcellL
  go_wp2_with (fail)
  go_loopw [18] (fun i wr => ∃ (k : Nat) (xs : List Value), k ≤ m ∧ i = .int .i64 (k : Int) ∧ wr.ownsRow wb.heap.size 3 1 (.slice aS m cS) m xs ∧ (∀ j, j < m → xs[j]? = some (.int .i64 (if j < k then haAt zF nF link y D j else hsAt zF nF link y j))) ∧ Ext wb wr)
    (fun i _ => m - (intOf i).toNat)
  case atStart => exact ⟨0, _, Nat.zero_le _, rfl, hr2, fun j hj => by rw [hsL_map_getD hj, if_neg (by omega)], hb2⟩
  case round =>
    obtain ⟨k, xs, hk, rfl, hrow, hpre, hE⟩ := hrel
    have HP := hid hpre
    clear hr2 hb2 NB2 hpre
    have n1 : wr.cell? ⟨bg, 1, none⟩ = some (.slice (some ⟨bL, oL, none⟩) nL cL) := by rw [(Ext.cells hE).1 _ _ hbg]; exact NB.out
    by_cases hlt : k < m
    · obtain ⟨b, o, rfl, hb, hc⟩ := hcell.resolve_left (by omega)
      obtain ⟨gS, rfl, hgS1, hgS2⟩ := hgS.resolve_left (by omega)
      obtain ⟨z, hz⟩ : ∃ z, z = y := ⟨_, rfl⟩
      rw [← hz] at hc
      obtain ⟨x0, hx0⟩ : ∃ x, x = z.getD (k * 2) 0 := ⟨_, rfl⟩
      have s0 : wr.cell? ⟨b, o + k * 2, none⟩ = some (.int .i64 x0) := by rw [(Ext.cells hE).1 _ _ hb, show o + k * 2 = o + (k * 2) by omega, hc _ (by omega), hx0]
      have H0 := hid hx0
      clear hx0
      obtain ⟨x1, hx1⟩ : ∃ x, x = z.getD (k * 2 + 1) 0 := ⟨_, rfl⟩
      have s1 : wr.cell? ⟨b, o + k * 2 + 1, none⟩ = some (.int .i64 x1) := by rw [(Ext.cells hE).1 _ _ hb, show o + k * 2 + 1 = o + (k * 2 + 1) by omega, hc _ (by omega), hx1]
      have H1 := hid hx1
      clear hx1
      have hjk := HJS.out k hlt
      rw [show hRd y k = x0 by rw [H0.out, hz]; rfl, show hCt y k = x1 by rw [H1.out, hz]; rfl] at hjk
      obtain ⟨j1, j2, j3, j4⟩ := hjk
      have hAb := hsAt_bd link HOK.out HJS.out k hlt
      obtain ⟨A, hA⟩ : ∃ A, A = hsAt zF nF link y k := ⟨_, rfl⟩
      rw [← hA] at hAb
      obtain ⟨hA1, hA2, _, _⟩ := hAb
      have HAR := hid (show haAt zF nF link y D k = A + (x1 * 10 + D) by unfold haAt; rw [hA, H1.out, hz]; rfl)
      have rA := HP.out k hlt
      rw [if_neg (by omega), ← hA] at rA
      have HA := hid hA
      clear hc hcell hz hA hgS
      have hbr : b < wr.heap.size := Nat.lt_of_lt_of_le hb hE.size
      have hgr : gS < wr.heap.size := (hrow.lt gS rfl).2
      have hgb : wb.heap.size ≤ gS := hgS1
      have hbgr : bg < wr.heap.size := Nat.lt_of_lt_of_le hbg hE.size
      have hbLr : bL < wr.heap.size := Nat.lt_of_lt_of_le hbL hE.size
      have dl : wr.cell? ⟨bL, oL + link.toNat * 3 + 2, none⟩ = some (.int .i64 D) := by
        rw [(Ext.cells hE).1 _ _ hbL, show oL + link.toNat * 3 + 2 = oL + (link.toNat * 3 + 2) by omega, HCL.out _ (by omega), HD.out]
        rfl
      have ca := hrow.cellAt k (by omega)
      rw [rA] at ca
      have fa := hrow.frozenAt k
      go_wp2_with (fail)
      have AXw : ∀ W : World, W = wr.alloc (.cells #[.int .i64 x0, .int .i64 x1] 62) → W.cell? ⟨wr.heap.size, 1, none⟩ = some (.int .i64 x1) ∧ W.cell? ⟨bg, 1, none⟩ = some (.slice (some ⟨bL, oL, none⟩) nL cL) ∧ W.cell? ⟨bL, oL + link.toNat * 3 + 2, none⟩ = some (.int .i64 D) ∧ W.cell? ⟨gS, k, none⟩ = some (.int .i64 A) ∧ W.frozen? ⟨gS, k, none⟩ = false ∧ Ext wb W ∧ W.ownsRow wb.heap.size 3 1 (.slice (some ⟨gS, 0, none⟩) m cS) m xs := by
        rintro W rfl
        exact ⟨by simp [go_sem], by simp [go_sem, *], by simp [go_sem, *], by simp [go_sem, *], by simp [go_sem, *], hE.alloc _, hrow.alloc _⟩
      obtain ⟨wx, hwx⟩ : ∃ W, W = wr.alloc (.cells #[.int .i64 x0, .int .i64 x1] 62) := ⟨_, rfl⟩
      obtain ⟨t1, t2, t3, t4, t5, hEx, hrx⟩ := AXw wx hwx
      rw [← hwx]
      obtain ⟨gx, hgx⟩ : ∃ g, g = wr.heap.size := ⟨_, rfl⟩
      rw [← hgx] at t1 ⊢
      clear AXw hwx hgx s0 s1 n1 dl ca fa hrow hE hbr hgr hbgr hbLr
      have hs1 : IntKind.i64.wrap (x1 * 10) = x1 * 10 := IntWalk.i64_in _ (by omega)
      have hs2 : IntKind.i64.wrap (x1 * 10 + D) = x1 * 10 + D := IntWalk.i64_in _ (by omega)
      have hs3 : IntKind.i64.wrap (A + (x1 * 10 + D)) = A + (x1 * 10 + D) := IntWalk.i64_in _ (by omega)
      have hnn : (0 : Int) ≤ (k : Int) := Int.natCast_nonneg _
      have hkm : (k : Int) < m := by omega
      refine wp_region_still_tail 16 (by kernel_rfl) (by kernel_rfl) ?_
      simp only [List.take_succ_cons, List.take_zero, List.drop_succ_cons, List.drop_zero]
      repeat still_step
      try refine wpStill_nil ?_
      clear hs1 hs2 hs3
      change wpList _ _ _ _ _ wx.drew
      have hEy : Ext wb wx.drew := hEx.drew
      have hry := row_ext hrx ((Ext.refl wx).drew)
      have fy := hry.frozenAt k
      have cy := hry.cellAt k (by omega)
      rw [rA] at cy
      generalize wx.drew = wy at *
      go_wp2_with (fail)
      go_roundw
      case rel =>
        have q := hry.stored k (.int .i64 (A + (x1 * 10 + D)))
        refine ⟨k + 1, _, by omega, by go_num, q.1, fun j hj => ?_, hEy.setCell hgb _⟩
        by_cases ej : k = j
        · subst ej
          rw [List.getElem?_set_self (by rw [hry.1]; omega), if_pos (by omega), HAR.out]
        · rw [List.getElem?_set_ne ej, HP.out j hj]
          by_cases e2 : j < k
          · rw [if_pos e2, if_pos (by omega)]
          · rw [if_neg e2, if_neg (by omega)]
      case measure => simp [intOf]; omega
    · obtain rfl : k = m := by omega
      have HX := hid (list_full (m := k) (by simpa using hrow.1) (haL_length zF nF link y D k) (fun j hj => by rw [HP.out j hj, if_pos hj, haL_map_getD hj]))
      clear hcell n1
      go_wp2_with (fail)
      go_ret
      refine ⟨_, rfl, ?_, EW.trans hE⟩
      rw [← HX.out]
      exact row_mono hrow (by omega)


set_option maxRecDepth 100000 in
set_option maxHeartbeats 3200000 in
theorem sHoldArrivals_any (v : Value) (nT : Nat) (zT : List Int) (nL : Nat) (zL : List Int) (u : Value) (nF : Nat) (zF : List Int) (link : Int) (x : Value) (m : Nat) (y : List Int) (w : World) (hN : NetRow w v nT zT nL zL) (hF : IntRow .i64 3 w u nF zF) (hJ : IntRow .i64 2 w x m y) :
    Calls Try.prog 43 #[v, u, .int .i64 link, x] w fun e w' => ∃ v', e = .returned (.tuple #[v', .bool (hoC nT zT nL zL zF nF link y m)]) ∧ w'.ownsRow w.heap.size 3 1 v' ((arV nT zT nL zL zF nF link y m).length / 1) ((arV nT zT nL zL zF nF link y m).map (Value.int .i64)) ∧ Ext w w' := by
  have hN0 := hN
  have hF0 := hF
  have hJ0 := hJ
  obtain ⟨vT, vL, rfl, hT, hL⟩ := hN
  obtain ⟨_, hmT, _, aT, cT, rfl, _, _, _⟩ := hT
  have hLI := hL
  obtain ⟨_, hmL, _, aL, cL, rfl, _, _, _⟩ := hL
  obtain ⟨_, _, _, aF, cF, rfl, _, _, _⟩ := hF
  have hnL : nL ≤ 9223372036854775807 := by unfold maxLen at hmL; omega
  clear hmT hmL
  have C0 := fun (W : World) (hW : Ext w W) => hoAsked_any _ nT zT nL zL _ nF zF link x m y W (hN0.ext hW) (hF0.ext hW) (hJ0.ext hW)
  obtain ⟨Q, hQ⟩ : ∃ q, q = hoC nT zT nL zL zF nF link y m := ⟨_, rfl⟩
  rw [show (askH nT zT nL zL zF nF link && okHs y m) = Q from hQ.symm] at C0
  rw [← hQ]
  cases Q with
  | false =>
    rw [show arV nT zT nL zL zF nF link y m = [] by unfold arV; rw [← hQ]; rfl]
    have HQ := hid hQ
    clear hQ
    go_enter Try.func43, Try.ntmps43
    go_wp2_with (fail)
    refine (C0 _ (by repeat (first | exact Ext.refl _ | assumption | refine Ext.alloc ?_ _ | refine Ext.drew ?_ | refine Ext.drewN ?_ _ | refine Ext.setCell ?_ (by first | exact Nat.le_refl _ | (simp; done) | (dsimp only; omega) | (simp only [World.size_alloc, World.size_setCell]; omega)) _ | refine Ext.trans ?_ (by assumption)))).mono ?_
    rintro e w1 ⟨rfl, hb1⟩
    have hz1 := Ext.size hb1
    try simp only [World.size_alloc, World.size_setCell] at hz1
    obtain ⟨hc1, hf1⟩ := Ext.cells hb1
    try have hk1_0_0 := fun o => hc1 (w.heap.size) o (by (try simp only [World.size_alloc, World.size_setCell]); omega)
    try have hj1_0_0 := fun o => hf1 (w.heap.size) o (by (try simp only [World.size_alloc, World.size_setCell]); omega)
    try have hy1_0_0 : w.heap.size < w1.heap.size := by omega
    try have hk1_0_1 := fun o => hc1 (w.heap.size + 1) o (by (try simp only [World.size_alloc, World.size_setCell]); omega)
    try have hj1_0_1 := fun o => hf1 (w.heap.size + 1) o (by (try simp only [World.size_alloc, World.size_setCell]); omega)
    try have hy1_0_1 : w.heap.size + 1 < w1.heap.size := by omega
    try have hk1_0_2 := fun o => hc1 (w.heap.size + 1 + 1) o (by (try simp only [World.size_alloc, World.size_setCell]); omega)
    try have hj1_0_2 := fun o => hf1 (w.heap.size + 1 + 1) o (by (try simp only [World.size_alloc, World.size_setCell]); omega)
    try have hy1_0_2 : w.heap.size + 1 + 1 < w1.heap.size := by omega
    clear hc1 hf1
    go_wp2_with (fail)
    go_ret2
    exact ⟨_, rfl, World.ownsRow_nil _ _ _ _, (by repeat (first | exact Ext.refl _ | assumption | refine Ext.alloc ?_ _ | refine Ext.drew ?_ | refine Ext.drewN ?_ _ | refine Ext.setCell ?_ (by first | exact Nat.le_refl _ | (simp; done) | (dsimp only; omega) | (simp only [World.size_alloc, World.size_setCell]; omega)) _ | refine Ext.trans ?_ (by assumption)))⟩
  | true =>
    obtain ⟨ho1, ho2, ⟨ho3, ho4⟩, hB2⟩ := hoC_iff hQ.symm
    obtain ⟨hm20, hjs⟩ := okHs_iff hB2
    have HOK := hid ho2
    have HJ := hid hB2
    have HNET := hid ho1
    have HJS := hid hjs
    have HQ := hid hQ
    clear hQ hB2 ho1 ho2 hjs
    rw [show arV nT zT nL zL zF nF link y m = haL zF nF link y (f3c zL link.toNat) m by unfold arV; rw [← HQ.out]; rfl, show (haL zF nF link y (f3c zL link.toNat) m).length / 1 = m by rw [haL_length]; omega]
    go_enter Try.func43, Try.ntmps43
    go_wp2_with (fail)
    refine (C0 _ (by repeat (first | exact Ext.refl _ | assumption | refine Ext.alloc ?_ _ | refine Ext.drew ?_ | refine Ext.drewN ?_ _ | refine Ext.setCell ?_ (by first | exact Nat.le_refl _ | (simp; done) | (dsimp only; omega) | (simp only [World.size_alloc, World.size_setCell]; omega)) _ | refine Ext.trans ?_ (by assumption)))).mono ?_
    rintro e w1 ⟨rfl, hb1⟩
    have hz1 := Ext.size hb1
    try simp only [World.size_alloc, World.size_setCell] at hz1
    obtain ⟨hc1, hf1⟩ := Ext.cells hb1
    try have hk1_0_0 := fun o => hc1 (w.heap.size) o (by (try simp only [World.size_alloc, World.size_setCell]); omega)
    try have hj1_0_0 := fun o => hf1 (w.heap.size) o (by (try simp only [World.size_alloc, World.size_setCell]); omega)
    try have hy1_0_0 : w.heap.size < w1.heap.size := by omega
    try have hk1_0_1 := fun o => hc1 (w.heap.size + 1) o (by (try simp only [World.size_alloc, World.size_setCell]); omega)
    try have hj1_0_1 := fun o => hf1 (w.heap.size + 1) o (by (try simp only [World.size_alloc, World.size_setCell]); omega)
    try have hy1_0_1 : w.heap.size + 1 < w1.heap.size := by omega
    try have hk1_0_2 := fun o => hc1 (w.heap.size + 1 + 1) o (by (try simp only [World.size_alloc, World.size_setCell]); omega)
    try have hj1_0_2 := fun o => hf1 (w.heap.size + 1 + 1) o (by (try simp only [World.size_alloc, World.size_setCell]); omega)
    try have hy1_0_2 : w.heap.size + 1 + 1 < w1.heap.size := by omega
    clear hc1 hf1
    go_wp2_with (fail)
    refine (hoArrivals_any _ nT zT nL zL _ nF zF link x m y _ (hN0.ext (by repeat (first | exact Ext.refl _ | assumption | refine Ext.alloc ?_ _ | refine Ext.drew ?_ | refine Ext.drewN ?_ _ | refine Ext.setCell ?_ (by first | exact Nat.le_refl _ | (simp; done) | (dsimp only; omega) | (simp only [World.size_alloc, World.size_setCell]; omega)) _ | refine Ext.trans ?_ (by assumption)))) (hF0.ext (by repeat (first | exact Ext.refl _ | assumption | refine Ext.alloc ?_ _ | refine Ext.drew ?_ | refine Ext.drewN ?_ _ | refine Ext.setCell ?_ (by first | exact Nat.le_refl _ | (simp; done) | (dsimp only; omega) | (simp only [World.size_alloc, World.size_setCell]; omega)) _ | refine Ext.trans ?_ (by assumption)))) (hJ0.ext (by repeat (first | exact Ext.refl _ | assumption | refine Ext.alloc ?_ _ | refine Ext.drew ?_ | refine Ext.drewN ?_ _ | refine Ext.setCell ?_ (by first | exact Nat.le_refl _ | (simp; done) | (dsimp only; omega) | (simp only [World.size_alloc, World.size_setCell]; omega)) _ | refine Ext.trans ?_ (by assumption)))) HQ).mono ?_
    rintro e w2 ⟨v2, rfl, hr2, hb2⟩
    have hr3 := row_mono hr2 (show w.heap.size ≤ w1.heap.size by omega)
    clear hr2
    go_wp2_with (fail)
    go_ret2
    exact ⟨_, rfl, hr3, (by repeat (first | exact Ext.refl _ | assumption | refine Ext.alloc ?_ _ | refine Ext.drew ?_ | refine Ext.drewN ?_ _ | refine Ext.setCell ?_ (by first | exact Nat.le_refl _ | (simp; done) | (dsimp only; omega) | (simp only [World.size_alloc, World.size_setCell]; omega)) _ | refine Ext.trans ?_ (by assumption)))⟩


set_option maxRecDepth 100000 in
set_option maxHeartbeats 4000000 in
theorem walkFnExactHoldArrivals (v0 : Value) (nT0 : Nat) (zT0 : List Int) (nL0 : Nat) (zL0 : List Int) (v1 : Value) (n1 : Nat) (z1 : List Int) (a2 : Int) (v3 : Value) (n3 : Nat) (z3 : List Int) (w : World) (r0 : NetRow w v0 nT0 zT0 nL0 zL0) (r1 : IntRow .i64 3 w v1 n1 z1) (_ : (Lit.int .i64 a2).wf = true) (r3 : IntRow .i64 2 w v3 n3 z3) :
    Calls Try.prog 11 #[v0, v1, .int .i64 a2, v3] w fun e w' => e = .returned (.bool true) ∧ Ext w w' := by
  have HWT0 := hid r0.wf.1
  have HWL0 := hid r0.wf.2
  obtain ⟨vT0, vL0, rfl, _, _⟩ := id r0
  have HW1 := hid r1.2.2.1
  have HW3 := hid r3.2.2.1
  have hsz0 := fun (W : World) (hW : Ext w W) => szNet_any _ nT0 zT0 nL0 zL0 W 1048576 (r0.ext hW) (by omega) (by omega)
  by_cases hn0 : nT0 + nL0 ≤ (1048576 : Int)
  · rw [if_pos hn0] at hsz0
    obtain ⟨q0, hq0⟩ : ∃ q : Int, q = 1048576 - nT0 - nL0 := ⟨_, rfl⟩
    rw [← hq0] at hsz0
    have hqa0 : 0 ≤ q0 := by omega
    have hqb0 : q0 ≤ 1048576 := by omega
    have hsz1 := fun (W : World) (hW : Ext w W) => szFogS_any v1 n1 z1 W q0 (r1.ext hW) (by omega) (by omega)
    by_cases hn1 : (n1 : Int) ≤ q0
    · rw [if_pos hn1] at hsz1
      obtain ⟨q1, hq1⟩ : ∃ q : Int, q = q0 - n1 := ⟨_, rfl⟩
      rw [← hq1] at hsz1
      have hqa1 : 0 ≤ q1 := by omega
      have hqb1 : q1 ≤ 1048576 := by omega
      have hsz3 := fun (W : World) (hW : Ext w W) => szHeldJobS_any v3 n3 z3 W q1 (r3.ext hW) (by omega) (by omega)
      by_cases hn3 : (n3 : Int) ≤ q1
      · rw [if_pos hn3] at hsz3
        obtain ⟨q3, hq3⟩ : ∃ q : Int, q = q1 - n3 := ⟨_, rfl⟩
        rw [← hq3] at hsz3
        have hqa3 : 0 ≤ q3 := by omega
        have hqb3 : q3 ≤ 1048576 := by omega
        have hnT0 : nT0 ≤ 1048576 := by omega
        have hnL0 : nL0 ≤ 1048576 := by omega
        have hm1 : n1 ≤ 1048576 := by omega
        have hm3 : n3 ≤ 1048576 := by omega
        have HQ0 := hid hq0
        clear hq0
        have HQ1 := hid hq1
        clear hq1
        have HQ3 := hid hq3
        clear hq3
        obtain ⟨L, hL⟩ : ∃ L, L = arV nT0 zT0 nL0 zL0 z1 n1 a2 z3 n3 := ⟨_, rfl⟩
        have HLW : Hid (∀ x ∈ L, (Lit.int .i64 x).wf = true) := hid (by rw [hL]; exact (arV_inv _ _ _ _ _ _ _ _ _).1)
        have hLl : L.length / 1 ≤ 16777216 := by rw [hL]; have := (arV_inv nT0 zT0 nL0 zL0 z1 n1 a2 z3 n3).2; omega
        have HL := hid hL
        clear hL
        go_enter Try.func11, Try.ntmps11
        go_wp2_with (fail)
        have e00 : Ext w (w.alloc (.cells #[vT0, vL0] 25)) := (Ext.refl w).alloc _
        have bp0 : (w.alloc (.cells #[vT0, vL0] 25)).cell? ⟨w.heap.size, 0, none⟩ = some vT0 := by simp [go_sem]
        have bp1 : (w.alloc (.cells #[vT0, vL0] 25)).cell? ⟨w.heap.size, 1, none⟩ = some vL0 := by simp [go_sem]
        have bgs : w.heap.size < (w.alloc (.cells #[vT0, vL0] 25)).heap.size := by simp
        generalize (w.alloc (.cells #[vT0, vL0] 25)) = w0 at *
        obtain ⟨bg, hbg⟩ : ∃ g, g = w.heap.size := ⟨_, rfl⟩
        rw [← hbg] at bp0 bp1 bgs ⊢
        have HBX := hid (fun (W : World) (hW : Ext w0 W) => show W.cell? ⟨bg, 0, none⟩ = some vT0 ∧ W.cell? ⟨bg, 1, none⟩ = some vL0 from ⟨by rw [(Ext.cells hW).1 _ _ bgs]; exact bp0, by rw [(Ext.cells hW).1 _ _ bgs]; exact bp1⟩)
        clear hbg
        go_wp2_with (fail)
        refine (hsz0 _ (by repeat (first | exact Ext.refl _ | assumption | refine Ext.alloc ?_ _ | refine Ext.drew ?_ | refine Ext.drewN ?_ _ | refine Ext.setCell ?_ (by first | exact Nat.le_refl _ | (simp; done) | (dsimp only; omega) | (simp only [World.size_alloc, World.size_setCell]; omega)) _ | refine Ext.trans ?_ (by assumption)))).mono ?_
        rintro e wz ⟨rfl, hbz⟩
        clear bp0 bp1
        obtain ⟨bxa, bxb⟩ := HBX.out wz (by repeat (first | exact Ext.refl _ | assumption | refine Ext.alloc ?_ _ | refine Ext.drew ?_ | refine Ext.drewN ?_ _ | refine Ext.setCell ?_ (by first | exact Nat.le_refl _ | (simp; done) | (dsimp only; omega) | (simp only [World.size_alloc, World.size_setCell]; omega)) _ | refine Ext.trans ?_ (by assumption)))
        clear hsz0
        go_wp2_with (fail)
        refine (hsz1 _ (by repeat (first | exact Ext.refl _ | assumption | refine Ext.alloc ?_ _ | refine Ext.drew ?_ | refine Ext.drewN ?_ _ | refine Ext.setCell ?_ (by first | exact Nat.le_refl _ | (simp; done) | (dsimp only; omega) | (simp only [World.size_alloc, World.size_setCell]; omega)) _ | refine Ext.trans ?_ (by assumption)))).mono ?_
        rintro e w' ⟨rfl, rfl⟩
        clear hsz1
        go_wp2_with (fail)
        refine (hsz3 _ (by repeat (first | exact Ext.refl _ | assumption | refine Ext.alloc ?_ _ | refine Ext.drew ?_ | refine Ext.drewN ?_ _ | refine Ext.setCell ?_ (by first | exact Nat.le_refl _ | (simp; done) | (dsimp only; omega) | (simp only [World.size_alloc, World.size_setCell]; omega)) _ | refine Ext.trans ?_ (by assumption)))).mono ?_
        rintro e w' ⟨rfl, rfl⟩
        clear hsz3
        go_wp2_with (fail)
        refine (toNet_any _ nT0 nL0 zT0 zL0 _ (r0.ext (by repeat (first | exact Ext.refl _ | assumption | refine Ext.alloc ?_ _ | refine Ext.drew ?_ | refine Ext.drewN ?_ _ | refine Ext.setCell ?_ (by first | exact Nat.le_refl _ | (simp; done) | (dsimp only; omega) | (simp only [World.size_alloc, World.size_setCell]; omega)) _ | refine Ext.trans ?_ (by assumption)))) hnT0 hnL0).mono ?_
        rintro e w1 ⟨x1, rfl, hr1, hb1⟩
        obtain ⟨bxa1, bxb1⟩ := HBX.out w1 (by repeat (first | exact Ext.refl _ | assumption | refine Ext.alloc ?_ _ | refine Ext.drew ?_ | refine Ext.drewN ?_ _ | refine Ext.setCell ?_ (by first | exact Nat.le_refl _ | (simp; done) | (dsimp only; omega) | (simp only [World.size_alloc, World.size_setCell]; omega)) _ | refine Ext.trans ?_ (by assumption)))
        clear bxa bxb
        go_wp2_with (fail)
        refine (toFogS_any _ n1 z1 _ (r1.ext (by repeat (first | exact Ext.refl _ | assumption | refine Ext.alloc ?_ _ | refine Ext.drew ?_ | refine Ext.drewN ?_ _ | refine Ext.setCell ?_ (by first | exact Nat.le_refl _ | (simp; done) | (dsimp only; omega) | (simp only [World.size_alloc, World.size_setCell]; omega)) _ | refine Ext.trans ?_ (by assumption)))) hm1).mono ?_
        rintro e w2 ⟨g2, rfl, hr2, hb2⟩
        obtain ⟨bxa2, bxb2⟩ := HBX.out w2 (by repeat (first | exact Ext.refl _ | assumption | refine Ext.alloc ?_ _ | refine Ext.drew ?_ | refine Ext.drewN ?_ _ | refine Ext.setCell ?_ (by first | exact Nat.le_refl _ | (simp; done) | (dsimp only; omega) | (simp only [World.size_alloc, World.size_setCell]; omega)) _ | refine Ext.trans ?_ (by assumption)))
        clear bxa1 bxb1
        go_wp2_with (fail)
        refine (toHeldJobS_any _ n3 z3 _ (r3.ext (by repeat (first | exact Ext.refl _ | assumption | refine Ext.alloc ?_ _ | refine Ext.drew ?_ | refine Ext.drewN ?_ _ | refine Ext.setCell ?_ (by first | exact Nat.le_refl _ | (simp; done) | (dsimp only; omega) | (simp only [World.size_alloc, World.size_setCell]; omega)) _ | refine Ext.trans ?_ (by assumption)))) hm3).mono ?_
        rintro e w3 ⟨g3, rfl, hr3, hb3⟩
        obtain ⟨bxa3, bxb3⟩ := HBX.out w3 (by repeat (first | exact Ext.refl _ | assumption | refine Ext.alloc ?_ _ | refine Ext.drew ?_ | refine Ext.drewN ?_ _ | refine Ext.setCell ?_ (by first | exact Nat.le_refl _ | (simp; done) | (dsimp only; omega) | (simp only [World.size_alloc, World.size_setCell]; omega)) _ | refine Ext.trans ?_ (by assumption)))
        clear bxa2 bxb2
        go_wp2_with (fail)
        refine (sHoldArrivals_any _ nT0 zT0 nL0 zL0 _ n1 z1 a2 _ n3 z3 _ ((OwnNet.ext hr1 (by repeat (first | exact Ext.refl _ | assumption | refine Ext.alloc ?_ _ | refine Ext.drew ?_ | refine Ext.drewN ?_ _ | refine Ext.setCell ?_ (by first | exact Nat.le_refl _ | (simp; done) | (dsimp only; omega) | (simp only [World.size_alloc, World.size_setCell]; omega)) _ | refine Ext.trans ?_ (by assumption)))).net (by unfold maxLen; omega) (by unfold maxLen; omega) HWT0.out HWL0.out) (row_ints (row_ext hr2 (by repeat (first | exact Ext.refl _ | assumption | refine Ext.alloc ?_ _ | refine Ext.drew ?_ | refine Ext.drewN ?_ _ | refine Ext.setCell ?_ (by first | exact Nat.le_refl _ | (simp; done) | (dsimp only; omega) | (simp only [World.size_alloc, World.size_setCell]; omega)) _ | refine Ext.trans ?_ (by assumption)))) (by unfold maxLen; omega) HW1.out) (row_ints (row_ext hr3 (by repeat (first | exact Ext.refl _ | assumption | refine Ext.alloc ?_ _ | refine Ext.drew ?_ | refine Ext.drewN ?_ _ | refine Ext.setCell ?_ (by first | exact Nat.le_refl _ | (simp; done) | (dsimp only; omega) | (simp only [World.size_alloc, World.size_setCell]; omega)) _ | refine Ext.trans ?_ (by assumption)))) (by unfold maxLen; omega) HW3.out)).mono ?_
        rintro e w4 ⟨vw, rfl, hrw, hb4⟩
        obtain ⟨bxa4, bxb4⟩ := HBX.out w4 (by repeat (first | exact Ext.refl _ | assumption | refine Ext.alloc ?_ _ | refine Ext.drew ?_ | refine Ext.drewN ?_ _ | refine Ext.setCell ?_ (by first | exact Nat.le_refl _ | (simp; done) | (dsimp only; omega) | (simp only [World.size_alloc, World.size_setCell]; omega)) _ | refine Ext.trans ?_ (by assumption)))
        clear bxa3 bxb3
        rw [← HL.out] at hrw
        go_wp2_with (fail)
        refine (toNet_any _ nT0 nL0 zT0 zL0 _ (r0.ext (by repeat (first | exact Ext.refl _ | assumption | refine Ext.alloc ?_ _ | refine Ext.drew ?_ | refine Ext.drewN ?_ _ | refine Ext.setCell ?_ (by first | exact Nat.le_refl _ | (simp; done) | (dsimp only; omega) | (simp only [World.size_alloc, World.size_setCell]; omega)) _ | refine Ext.trans ?_ (by assumption)))) hnT0 hnL0).mono ?_
        rintro e w5 ⟨x5, rfl, hr5, hb5⟩
        obtain ⟨bxa5, bxb5⟩ := HBX.out w5 (by repeat (first | exact Ext.refl _ | assumption | refine Ext.alloc ?_ _ | refine Ext.drew ?_ | refine Ext.drewN ?_ _ | refine Ext.setCell ?_ (by first | exact Nat.le_refl _ | (simp; done) | (dsimp only; omega) | (simp only [World.size_alloc, World.size_setCell]; omega)) _ | refine Ext.trans ?_ (by assumption)))
        clear bxa4 bxb4
        obtain ⟨gT, gL, hxe, hglt, hgT, hgL⟩ := id hr5
        subst hxe
        go_wp2_with (fail)
        have e5y : Ext w5 (w5.alloc (.cells #[.slice (some ⟨gT, 0, none⟩) nT0 nT0, .slice (some ⟨gL, 0, none⟩) nL0 nL0] 35)) := (Ext.refl _).alloc _
        have bq0 : (w5.alloc (.cells #[.slice (some ⟨gT, 0, none⟩) nT0 nT0, .slice (some ⟨gL, 0, none⟩) nL0 nL0] 35)).cell? ⟨w5.heap.size, 0, none⟩ = some (.slice (some ⟨gT, 0, none⟩) nT0 nT0) := by simp [go_sem]
        have bq1 : (w5.alloc (.cells #[.slice (some ⟨gT, 0, none⟩) nT0 nT0, .slice (some ⟨gL, 0, none⟩) nL0 nL0] 35)).cell? ⟨w5.heap.size, 1, none⟩ = some (.slice (some ⟨gL, 0, none⟩) nL0 nL0) := by simp [go_sem]
        have byn : w5.heap.size < (w5.alloc (.cells #[.slice (some ⟨gT, 0, none⟩) nT0 nT0, .slice (some ⟨gL, 0, none⟩) nL0 nL0] 35)).heap.size := by simp
        obtain ⟨wy, hwy⟩ : ∃ x, x = (w5.alloc (.cells #[.slice (some ⟨gT, 0, none⟩) nT0 nT0, .slice (some ⟨gL, 0, none⟩) nL0 nL0] 35)) := ⟨_, rfl⟩
        rw [← hwy] at e5y bq0 bq1 byn ⊢
        obtain ⟨by5, hby⟩ : ∃ g, g = w5.heap.size := ⟨_, rfl⟩
        rw [← hby] at bq0 bq1 byn ⊢
        have HBY := hid (fun (W : World) (hW : Ext wy W) => show W.cell? ⟨by5, 0, none⟩ = some (.slice (some ⟨gT, 0, none⟩) nT0 nT0) ∧ W.cell? ⟨by5, 1, none⟩ = some (.slice (some ⟨gL, 0, none⟩) nL0 nL0) from ⟨by rw [(Ext.cells hW).1 _ _ byn]; exact bq0, by rw [(Ext.cells hW).1 _ _ byn]; exact bq1⟩)
        have HBYE := hid hby
        clear hwy hby bq0 bq1
        obtain ⟨bya, byb⟩ := HBY.out wy (Ext.refl _)
        obtain ⟨bxa, bxb⟩ := HBX.out wy (by repeat (first | exact Ext.refl _ | assumption | refine Ext.alloc ?_ _ | refine Ext.drew ?_ | refine Ext.drewN ?_ _ | refine Ext.setCell ?_ (by first | exact Nat.le_refl _ | (simp; done) | (dsimp only; omega) | (simp only [World.size_alloc, World.size_setCell]; omega)) _ | refine Ext.trans ?_ (by assumption)))
        clear bxa5 bxb5
        go_wp2_with (fail)
        refine (toFogS_any _ n1 z1 _ (r1.ext (by repeat (first | exact Ext.refl _ | assumption | refine Ext.alloc ?_ _ | refine Ext.drew ?_ | refine Ext.drewN ?_ _ | refine Ext.setCell ?_ (by first | exact Nat.le_refl _ | (simp; done) | (dsimp only; omega) | (simp only [World.size_alloc, World.size_setCell]; omega)) _ | refine Ext.trans ?_ (by assumption)))) hm1).mono ?_
        rintro e w6 ⟨g6, rfl, hr6, hb6⟩
        obtain ⟨bxa6, bxb6⟩ := HBX.out w6 (by repeat (first | exact Ext.refl _ | assumption | refine Ext.alloc ?_ _ | refine Ext.drew ?_ | refine Ext.drewN ?_ _ | refine Ext.setCell ?_ (by first | exact Nat.le_refl _ | (simp; done) | (dsimp only; omega) | (simp only [World.size_alloc, World.size_setCell]; omega)) _ | refine Ext.trans ?_ (by assumption)))
        obtain ⟨bya6, byb6⟩ := HBY.out w6 (by repeat (first | exact Ext.refl _ | assumption | refine Ext.alloc ?_ _ | refine Ext.drew ?_ | refine Ext.drewN ?_ _ | refine Ext.setCell ?_ (by first | exact Nat.le_refl _ | (simp; done) | (dsimp only; omega) | (simp only [World.size_alloc, World.size_setCell]; omega)) _ | refine Ext.trans ?_ (by assumption)))
        clear bxa bxb bya byb
        go_wp2_with (fail)
        refine (toHeldJobS_any _ n3 z3 _ (r3.ext (by repeat (first | exact Ext.refl _ | assumption | refine Ext.alloc ?_ _ | refine Ext.drew ?_ | refine Ext.drewN ?_ _ | refine Ext.setCell ?_ (by first | exact Nat.le_refl _ | (simp; done) | (dsimp only; omega) | (simp only [World.size_alloc, World.size_setCell]; omega)) _ | refine Ext.trans ?_ (by assumption)))) hm3).mono ?_
        rintro e w7 ⟨g7, rfl, hr7, hb7⟩
        obtain ⟨bxa7, bxb7⟩ := HBX.out w7 (by repeat (first | exact Ext.refl _ | assumption | refine Ext.alloc ?_ _ | refine Ext.drew ?_ | refine Ext.drewN ?_ _ | refine Ext.setCell ?_ (by first | exact Nat.le_refl _ | (simp; done) | (dsimp only; omega) | (simp only [World.size_alloc, World.size_setCell]; omega)) _ | refine Ext.trans ?_ (by assumption)))
        obtain ⟨bya7, byb7⟩ := HBY.out w7 (by repeat (first | exact Ext.refl _ | assumption | refine Ext.alloc ?_ _ | refine Ext.drew ?_ | refine Ext.drewN ?_ _ | refine Ext.setCell ?_ (by first | exact Nat.le_refl _ | (simp; done) | (dsimp only; omega) | (simp only [World.size_alloc, World.size_setCell]; omega)) _ | refine Ext.trans ?_ (by assumption)))
        clear bxa6 bxb6 bya6 byb6
        go_wp2_with (fail)
        refine (iHoldArrivals_any _ nT0 zT0 nL0 zL0 _ n1 z1 a2 _ n3 z3 _ ((OwnNet.ext hr5 (by repeat (first | exact Ext.refl _ | assumption | refine Ext.alloc ?_ _ | refine Ext.drew ?_ | refine Ext.drewN ?_ _ | refine Ext.setCell ?_ (by first | exact Nat.le_refl _ | (simp; done) | (dsimp only; omega) | (simp only [World.size_alloc, World.size_setCell]; omega)) _ | refine Ext.trans ?_ (by assumption)))).net (by unfold maxLen; omega) (by unfold maxLen; omega) HWT0.out HWL0.out) (row_ints (row_ext hr6 (by repeat (first | exact Ext.refl _ | assumption | refine Ext.alloc ?_ _ | refine Ext.drew ?_ | refine Ext.drewN ?_ _ | refine Ext.setCell ?_ (by first | exact Nat.le_refl _ | (simp; done) | (dsimp only; omega) | (simp only [World.size_alloc, World.size_setCell]; omega)) _ | refine Ext.trans ?_ (by assumption)))) (by unfold maxLen; omega) HW1.out) (row_ints (row_ext hr7 (by repeat (first | exact Ext.refl _ | assumption | refine Ext.alloc ?_ _ | refine Ext.drew ?_ | refine Ext.drewN ?_ _ | refine Ext.setCell ?_ (by first | exact Nat.le_refl _ | (simp; done) | (dsimp only; omega) | (simp only [World.size_alloc, World.size_setCell]; omega)) _ | refine Ext.trans ?_ (by assumption)))) (by unfold maxLen; omega) HW3.out)).mono ?_
        rintro e w8 ⟨vg, rfl, hrg, hb8⟩
        obtain ⟨bxa8, bxb8⟩ := HBX.out w8 (by repeat (first | exact Ext.refl _ | assumption | refine Ext.alloc ?_ _ | refine Ext.drew ?_ | refine Ext.drewN ?_ _ | refine Ext.setCell ?_ (by first | exact Nat.le_refl _ | (simp; done) | (dsimp only; omega) | (simp only [World.size_alloc, World.size_setCell]; omega)) _ | refine Ext.trans ?_ (by assumption)))
        obtain ⟨bya8, byb8⟩ := HBY.out w8 (by repeat (first | exact Ext.refl _ | assumption | refine Ext.alloc ?_ _ | refine Ext.drew ?_ | refine Ext.drewN ?_ _ | refine Ext.setCell ?_ (by first | exact Nat.le_refl _ | (simp; done) | (dsimp only; omega) | (simp only [World.size_alloc, World.size_setCell]; omega)) _ | refine Ext.trans ?_ (by assumption)))
        clear bxa7 bxb7 bya7 byb7
        rw [← HL.out] at hrg
        go_wp2_with (fail)
        refine (eqIntS_same _ _ (L.length / 1) L _ (row_ints (row_ext hrg (by repeat (first | exact Ext.refl _ | assumption | refine Ext.alloc ?_ _ | refine Ext.drew ?_ | refine Ext.drewN ?_ _ | refine Ext.setCell ?_ (by first | exact Nat.le_refl _ | (simp; done) | (dsimp only; omega) | (simp only [World.size_alloc, World.size_setCell]; omega)) _ | refine Ext.trans ?_ (by assumption)))) (by unfold maxLen; omega) HLW.out) (row_ints (row_ext hrw (by repeat (first | exact Ext.refl _ | assumption | refine Ext.alloc ?_ _ | refine Ext.drew ?_ | refine Ext.drewN ?_ _ | refine Ext.setCell ?_ (by first | exact Nat.le_refl _ | (simp; done) | (dsimp only; omega) | (simp only [World.size_alloc, World.size_setCell]; omega)) _ | refine Ext.trans ?_ (by assumption)))) (by unfold maxLen; omega) HLW.out)).mono ?_
        rintro e w9 ⟨rfl, hb9⟩
        obtain ⟨bxa9, bxb9⟩ := HBX.out w9 (by repeat (first | exact Ext.refl _ | assumption | refine Ext.alloc ?_ _ | refine Ext.drew ?_ | refine Ext.drewN ?_ _ | refine Ext.setCell ?_ (by first | exact Nat.le_refl _ | (simp; done) | (dsimp only; omega) | (simp only [World.size_alloc, World.size_setCell]; omega)) _ | refine Ext.trans ?_ (by assumption)))
        obtain ⟨bya9, byb9⟩ := HBY.out w9 (by repeat (first | exact Ext.refl _ | assumption | refine Ext.alloc ?_ _ | refine Ext.drew ?_ | refine Ext.drewN ?_ _ | refine Ext.setCell ?_ (by first | exact Nat.le_refl _ | (simp; done) | (dsimp only; omega) | (simp only [World.size_alloc, World.size_setCell]; omega)) _ | refine Ext.trans ?_ (by assumption)))
        clear bxa8 bxb8 bya8 byb8
        go_wp2_with (fail)
        have SK0 := And.intro (HBX.out w9.drew (by repeat (first | exact Ext.refl _ | assumption | refine Ext.alloc ?_ _ | refine Ext.drew ?_ | refine Ext.drewN ?_ _ | refine Ext.setCell ?_ (by first | exact Nat.le_refl _ | (simp; done) | (dsimp only; omega) | (simp only [World.size_alloc, World.size_setCell]; omega)) _ | refine Ext.trans ?_ (by assumption)))) (HBY.out w9.drew (by repeat (first | exact Ext.refl _ | assumption | refine Ext.alloc ?_ _ | refine Ext.drew ?_ | refine Ext.drewN ?_ _ | refine Ext.setCell ?_ (by first | exact Nat.le_refl _ | (simp; done) | (dsimp only; omega) | (simp only [World.size_alloc, World.size_setCell]; omega)) _ | refine Ext.trans ?_ (by assumption))))
        refine wp_region_noPanic ?_
        refine wp_region_held_drew (S := (fun W => (W.cell? ⟨bg, 0, none⟩ = some vT0 ∧ W.cell? ⟨bg, 1, none⟩ = some vL0) ∧ (W.cell? ⟨by5, 0, none⟩ = some (.slice (some ⟨gT, 0, none⟩) nT0 nT0) ∧ W.cell? ⟨by5, 1, none⟩ = some (.slice (some ⟨gL, 0, none⟩) nL0 nL0)))) (by kernel_rfl) ?_ (fun hHeld => ?_)
        · first | exact SK0 | (dsimp only; exact SK0)
        refine wpAnyH_take (i := 0) (oi := { dst := some 71, op := _, type := _, pos := _, after := _, guard := _ }) (v := ?_) rfl (by kernel_rfl) (by kernel_rfl) (by kernel_rfl) (fun _ _ _ h => h) (Or.inl ⟨by rfl, ?_⟩) (by assumption) ?_
        rotate_left
        · (intro w hSw; (try dsimp only at hSw); go_simp) <;> (first | done | with_reducible rfl | rfl)
        try simp only [Act.put, List.setIfInBounds_toArray, List.set_cons_zero, List.set_cons_succ]
        refine wpAnyH_take (i := 1) (oi := { dst := some 72, op := _, type := _, pos := _, after := _, guard := _ }) (v := ?_) rfl (by kernel_rfl) (by kernel_rfl) (by kernel_rfl) (fun _ _ _ h => h) (Or.inl ⟨by rfl, ?_⟩) (by assumption) ?_
        rotate_left
        · (intro w hSw; (try dsimp only at hSw); go_simp) <;> (first | done | with_reducible rfl | rfl)
        try simp only [Act.put, List.setIfInBounds_toArray, List.set_cons_zero, List.set_cons_succ]
        refine wpAnyH_ready (rs := [2]) (by kernel_rfl) (by simp) ?_
        refine AllReadyH.cons (o := { dst := some 73, op := _, type := _, pos := _, after := _, guard := _ }) rfl (fun K hK => ?_) AllReadyH.nil
        go_simp
        go_at_call 17
        refine (toNet_any _ nT0 nL0 zT0 zL0 _ (r0.ext (by repeat (first | exact Ext.refl _ | assumption | refine Ext.alloc ?_ _ | refine Ext.drew ?_ | refine Ext.drewN ?_ _ | refine Ext.setCell ?_ (by first | exact Nat.le_refl _ | (simp; done) | (dsimp only; omega) | (simp only [World.size_alloc, World.size_setCell]; omega)) _ | refine Ext.trans ?_ (by assumption)))) hnT0 hnL0).mono ?_
        rintro e w10 ⟨x10, rfl, hr10, hb10⟩
        have SK := And.intro (HBX.out w10 (by repeat (first | exact Ext.refl _ | assumption | refine Ext.alloc ?_ _ | refine Ext.drew ?_ | refine Ext.drewN ?_ _ | refine Ext.setCell ?_ (by first | exact Nat.le_refl _ | (simp; done) | (dsimp only; omega) | (simp only [World.size_alloc, World.size_setCell]; omega)) _ | refine Ext.trans ?_ (by assumption)))) (HBY.out w10 (by repeat (first | exact Ext.refl _ | assumption | refine Ext.alloc ?_ _ | refine Ext.drew ?_ | refine Ext.drewN ?_ _ | refine Ext.setCell ?_ (by first | exact Nat.le_refl _ | (simp; done) | (dsimp only; omega) | (simp only [World.size_alloc, World.size_setCell]; omega)) _ | refine Ext.trans ?_ (by assumption))))
        refine hK.out _ _ ?_ (fun hHeld => ?_)
        · first | exact SK | (dsimp only; exact SK)
        clear hK K
        try simp only [Act.put, List.setIfInBounds_toArray, List.set_cons_zero, List.set_cons_succ]
        refine wpAnyH_ready (rs := [3]) (by kernel_rfl) (by simp) ?_
        refine AllReadyH.cons (o := { dst := some 74, op := _, type := _, pos := _, after := _, guard := _ }) rfl (fun K hK => ?_) AllReadyH.nil
        go_simp
        go_at_call 21
        refine (eqNet_same _ _ nT0 zT0 nL0 zL0 _ ((OwnNet.ext hr5 (by repeat (first | exact Ext.refl _ | assumption | refine Ext.alloc ?_ _ | refine Ext.drew ?_ | refine Ext.drewN ?_ _ | refine Ext.setCell ?_ (by first | exact Nat.le_refl _ | (simp; done) | (dsimp only; omega) | (simp only [World.size_alloc, World.size_setCell]; omega)) _ | refine Ext.trans ?_ (by assumption)))).net (by unfold maxLen; omega) (by unfold maxLen; omega) HWT0.out HWL0.out) ((OwnNet.ext hr10 (by repeat (first | exact Ext.refl _ | assumption | refine Ext.alloc ?_ _ | refine Ext.drew ?_ | refine Ext.drewN ?_ _ | refine Ext.setCell ?_ (by first | exact Nat.le_refl _ | (simp; done) | (dsimp only; omega) | (simp only [World.size_alloc, World.size_setCell]; omega)) _ | refine Ext.trans ?_ (by assumption)))).net (by unfold maxLen; omega) (by unfold maxLen; omega) HWT0.out HWL0.out)).mono ?_
        rintro e w11 ⟨rfl, hb11⟩
        have SK2 := And.intro (HBX.out w11 (by repeat (first | exact Ext.refl _ | assumption | refine Ext.alloc ?_ _ | refine Ext.drew ?_ | refine Ext.drewN ?_ _ | refine Ext.setCell ?_ (by first | exact Nat.le_refl _ | (simp; done) | (dsimp only; omega) | (simp only [World.size_alloc, World.size_setCell]; omega)) _ | refine Ext.trans ?_ (by assumption)))) (HBY.out w11 (by repeat (first | exact Ext.refl _ | assumption | refine Ext.alloc ?_ _ | refine Ext.drew ?_ | refine Ext.drewN ?_ _ | refine Ext.setCell ?_ (by first | exact Nat.le_refl _ | (simp; done) | (dsimp only; omega) | (simp only [World.size_alloc, World.size_setCell]; omega)) _ | refine Ext.trans ?_ (by assumption))))
        refine hK.out _ _ ?_ (fun hHeld => ?_)
        · first | exact SK2 | (dsimp only; exact SK2)
        clear hK K
        try simp only [Act.put, List.setIfInBounds_toArray, List.set_cons_zero, List.set_cons_succ]
        refine wpAnyH_take (i := 4) (oi := { dst := some 75, op := _, type := _, pos := _, after := _, guard := _ }) (v := ?_) rfl (by kernel_rfl) (by kernel_rfl) (by kernel_rfl) (fun _ _ _ h => h) (Or.inl ⟨by rfl, ?_⟩) (by assumption) ?_
        rotate_left
        · (intro w hSw; (try dsimp only at hSw); go_simp) <;> (first | done | with_reducible rfl | rfl)
        try simp only [Act.put, List.setIfInBounds_toArray, List.set_cons_zero, List.set_cons_succ]
        refine wpAnyH_done (by kernel_rfl) ?_ _
        refine NoPanic.normal ?_
        clear SK0 SK SK2
        obtain ⟨bxa11, bxb11⟩ := HBX.out w11 (by repeat (first | exact Ext.refl _ | assumption | refine Ext.alloc ?_ _ | refine Ext.drew ?_ | refine Ext.drewN ?_ _ | refine Ext.setCell ?_ (by first | exact Nat.le_refl _ | (simp; done) | (dsimp only; omega) | (simp only [World.size_alloc, World.size_setCell]; omega)) _ | refine Ext.trans ?_ (by assumption)))
        obtain ⟨bya11, byb11⟩ := HBY.out w11 (by repeat (first | exact Ext.refl _ | assumption | refine Ext.alloc ?_ _ | refine Ext.drew ?_ | refine Ext.drewN ?_ _ | refine Ext.setCell ?_ (by first | exact Nat.le_refl _ | (simp; done) | (dsimp only; omega) | (simp only [World.size_alloc, World.size_setCell]; omega)) _ | refine Ext.trans ?_ (by assumption)))
        clear bxa9 bxb9 bya9 byb9
        go_wp2_with (fail)
        refine (toFogS_any _ n1 z1 _ (r1.ext (by repeat (first | exact Ext.refl _ | assumption | refine Ext.alloc ?_ _ | refine Ext.drew ?_ | refine Ext.drewN ?_ _ | refine Ext.setCell ?_ (by first | exact Nat.le_refl _ | (simp; done) | (dsimp only; omega) | (simp only [World.size_alloc, World.size_setCell]; omega)) _ | refine Ext.trans ?_ (by assumption)))) hm1).mono ?_
        rintro e w12 ⟨g12, rfl, hr12, hb12⟩
        obtain ⟨bxa12, bxb12⟩ := HBX.out w12 (by repeat (first | exact Ext.refl _ | assumption | refine Ext.alloc ?_ _ | refine Ext.drew ?_ | refine Ext.drewN ?_ _ | refine Ext.setCell ?_ (by first | exact Nat.le_refl _ | (simp; done) | (dsimp only; omega) | (simp only [World.size_alloc, World.size_setCell]; omega)) _ | refine Ext.trans ?_ (by assumption)))
        obtain ⟨bya12, byb12⟩ := HBY.out w12 (by repeat (first | exact Ext.refl _ | assumption | refine Ext.alloc ?_ _ | refine Ext.drew ?_ | refine Ext.drewN ?_ _ | refine Ext.setCell ?_ (by first | exact Nat.le_refl _ | (simp; done) | (dsimp only; omega) | (simp only [World.size_alloc, World.size_setCell]; omega)) _ | refine Ext.trans ?_ (by assumption)))
        clear bxa11 bxb11 bya11 byb11
        go_wp2_with (fail)
        refine (eqFogS_same _ _ n1 z1 _ (row_ints (row_ext hr6 (by repeat (first | exact Ext.refl _ | assumption | refine Ext.alloc ?_ _ | refine Ext.drew ?_ | refine Ext.drewN ?_ _ | refine Ext.setCell ?_ (by first | exact Nat.le_refl _ | (simp; done) | (dsimp only; omega) | (simp only [World.size_alloc, World.size_setCell]; omega)) _ | refine Ext.trans ?_ (by assumption)))) (by unfold maxLen; omega) HW1.out) (row_ints (row_ext hr12 (by repeat (first | exact Ext.refl _ | assumption | refine Ext.alloc ?_ _ | refine Ext.drew ?_ | refine Ext.drewN ?_ _ | refine Ext.setCell ?_ (by first | exact Nat.le_refl _ | (simp; done) | (dsimp only; omega) | (simp only [World.size_alloc, World.size_setCell]; omega)) _ | refine Ext.trans ?_ (by assumption)))) (by unfold maxLen; omega) HW1.out)).mono ?_
        rintro e w13 ⟨rfl, hb13⟩
        obtain ⟨bxa13, bxb13⟩ := HBX.out w13 (by repeat (first | exact Ext.refl _ | assumption | refine Ext.alloc ?_ _ | refine Ext.drew ?_ | refine Ext.drewN ?_ _ | refine Ext.setCell ?_ (by first | exact Nat.le_refl _ | (simp; done) | (dsimp only; omega) | (simp only [World.size_alloc, World.size_setCell]; omega)) _ | refine Ext.trans ?_ (by assumption)))
        obtain ⟨bya13, byb13⟩ := HBY.out w13 (by repeat (first | exact Ext.refl _ | assumption | refine Ext.alloc ?_ _ | refine Ext.drew ?_ | refine Ext.drewN ?_ _ | refine Ext.setCell ?_ (by first | exact Nat.le_refl _ | (simp; done) | (dsimp only; omega) | (simp only [World.size_alloc, World.size_setCell]; omega)) _ | refine Ext.trans ?_ (by assumption)))
        clear bxa12 bxb12 bya12 byb12
        go_wp2_with (fail)
        refine (toHeldJobS_any _ n3 z3 _ (r3.ext (by repeat (first | exact Ext.refl _ | assumption | refine Ext.alloc ?_ _ | refine Ext.drew ?_ | refine Ext.drewN ?_ _ | refine Ext.setCell ?_ (by first | exact Nat.le_refl _ | (simp; done) | (dsimp only; omega) | (simp only [World.size_alloc, World.size_setCell]; omega)) _ | refine Ext.trans ?_ (by assumption)))) hm3).mono ?_
        rintro e w14 ⟨g14, rfl, hr14, hb14⟩
        obtain ⟨bxa14, bxb14⟩ := HBX.out w14 (by repeat (first | exact Ext.refl _ | assumption | refine Ext.alloc ?_ _ | refine Ext.drew ?_ | refine Ext.drewN ?_ _ | refine Ext.setCell ?_ (by first | exact Nat.le_refl _ | (simp; done) | (dsimp only; omega) | (simp only [World.size_alloc, World.size_setCell]; omega)) _ | refine Ext.trans ?_ (by assumption)))
        obtain ⟨bya14, byb14⟩ := HBY.out w14 (by repeat (first | exact Ext.refl _ | assumption | refine Ext.alloc ?_ _ | refine Ext.drew ?_ | refine Ext.drewN ?_ _ | refine Ext.setCell ?_ (by first | exact Nat.le_refl _ | (simp; done) | (dsimp only; omega) | (simp only [World.size_alloc, World.size_setCell]; omega)) _ | refine Ext.trans ?_ (by assumption)))
        clear bxa13 bxb13 bya13 byb13
        go_wp2_with (fail)
        refine (eqHeldJobS_same _ _ n3 z3 _ (row_ints (row_ext hr7 (by repeat (first | exact Ext.refl _ | assumption | refine Ext.alloc ?_ _ | refine Ext.drew ?_ | refine Ext.drewN ?_ _ | refine Ext.setCell ?_ (by first | exact Nat.le_refl _ | (simp; done) | (dsimp only; omega) | (simp only [World.size_alloc, World.size_setCell]; omega)) _ | refine Ext.trans ?_ (by assumption)))) (by unfold maxLen; omega) HW3.out) (row_ints (row_ext hr14 (by repeat (first | exact Ext.refl _ | assumption | refine Ext.alloc ?_ _ | refine Ext.drew ?_ | refine Ext.drewN ?_ _ | refine Ext.setCell ?_ (by first | exact Nat.le_refl _ | (simp; done) | (dsimp only; omega) | (simp only [World.size_alloc, World.size_setCell]; omega)) _ | refine Ext.trans ?_ (by assumption)))) (by unfold maxLen; omega) HW3.out)).mono ?_
        rintro e w15 ⟨rfl, hb15⟩
        obtain ⟨bxa15, bxb15⟩ := HBX.out w15 (by repeat (first | exact Ext.refl _ | assumption | refine Ext.alloc ?_ _ | refine Ext.drew ?_ | refine Ext.drewN ?_ _ | refine Ext.setCell ?_ (by first | exact Nat.le_refl _ | (simp; done) | (dsimp only; omega) | (simp only [World.size_alloc, World.size_setCell]; omega)) _ | refine Ext.trans ?_ (by assumption)))
        obtain ⟨bya15, byb15⟩ := HBY.out w15 (by repeat (first | exact Ext.refl _ | assumption | refine Ext.alloc ?_ _ | refine Ext.drew ?_ | refine Ext.drewN ?_ _ | refine Ext.setCell ?_ (by first | exact Nat.le_refl _ | (simp; done) | (dsimp only; omega) | (simp only [World.size_alloc, World.size_setCell]; omega)) _ | refine Ext.trans ?_ (by assumption)))
        clear bxa14 bxb14 bya14 byb14
        have hrw15 := row_ext hrw ((by repeat (first | exact Ext.refl _ | assumption | refine Ext.alloc ?_ _ | refine Ext.drew ?_ | refine Ext.drewN ?_ _ | refine Ext.setCell ?_ (by first | exact Nat.le_refl _ | (simp; done) | (dsimp only; omega) | (simp only [World.size_alloc, World.size_setCell]; omega)) _ | refine Ext.trans ?_ (by assumption))) : Ext w4 w15)
        have hrg15 := row_ext hrg ((by repeat (first | exact Ext.refl _ | assumption | refine Ext.alloc ?_ _ | refine Ext.drew ?_ | refine Ext.drewN ?_ _ | refine Ext.setCell ?_ (by first | exact Nat.le_refl _ | (simp; done) | (dsimp only; omega) | (simp only [World.size_alloc, World.size_setCell]; omega)) _ | refine Ext.trans ?_ (by assumption))) : Ext w8 w15)
        have ha0 := OwnNet.ext hr5 ((by repeat (first | exact Ext.refl _ | assumption | refine Ext.alloc ?_ _ | refine Ext.drew ?_ | refine Ext.drewN ?_ _ | refine Ext.setCell ?_ (by first | exact Nat.le_refl _ | (simp; done) | (dsimp only; omega) | (simp only [World.size_alloc, World.size_setCell]; omega)) _ | refine Ext.trans ?_ (by assumption))) : Ext w5 w15)
        have ha1 := row_ext hr6 ((by repeat (first | exact Ext.refl _ | assumption | refine Ext.alloc ?_ _ | refine Ext.drew ?_ | refine Ext.drewN ?_ _ | refine Ext.setCell ?_ (by first | exact Nat.le_refl _ | (simp; done) | (dsimp only; omega) | (simp only [World.size_alloc, World.size_setCell]; omega)) _ | refine Ext.trans ?_ (by assumption))) : Ext w6 w15)
        have ha3 := row_ext hr7 ((by repeat (first | exact Ext.refl _ | assumption | refine Ext.alloc ?_ _ | refine Ext.drew ?_ | refine Ext.drewN ?_ _ | refine Ext.setCell ?_ (by first | exact Nat.le_refl _ | (simp; done) | (dsimp only; omega) | (simp only [World.size_alloc, World.size_setCell]; omega)) _ | refine Ext.trans ?_ (by assumption))) : Ext w7 w15)
        have hSZ0 : w4.heap.size ≤ wy.heap.size := ((by repeat (first | exact Ext.refl _ | assumption | refine Ext.alloc ?_ _ | refine Ext.drew ?_ | refine Ext.drewN ?_ _ | refine Ext.setCell ?_ (by first | exact Nat.le_refl _ | (simp; done) | (dsimp only; omega) | (simp only [World.size_alloc, World.size_setCell]; omega)) _ | refine Ext.trans ?_ (by assumption))) : Ext w4 wy).size
        have hSZ1 : wy.heap.size ≤ w6.heap.size := ((by repeat (first | exact Ext.refl _ | assumption | refine Ext.alloc ?_ _ | refine Ext.drew ?_ | refine Ext.drewN ?_ _ | refine Ext.setCell ?_ (by first | exact Nat.le_refl _ | (simp; done) | (dsimp only; omega) | (simp only [World.size_alloc, World.size_setCell]; omega)) _ | refine Ext.trans ?_ (by assumption))) : Ext wy w6).size
        have hSZ2 : w6.heap.size ≤ w7.heap.size := ((by repeat (first | exact Ext.refl _ | assumption | refine Ext.alloc ?_ _ | refine Ext.drew ?_ | refine Ext.drewN ?_ _ | refine Ext.setCell ?_ (by first | exact Nat.le_refl _ | (simp; done) | (dsimp only; omega) | (simp only [World.size_alloc, World.size_setCell]; omega)) _ | refine Ext.trans ?_ (by assumption))) : Ext w6 w7).size
        have hSZa : w0.heap.size ≤ w4.heap.size := ((by repeat (first | exact Ext.refl _ | assumption | refine Ext.alloc ?_ _ | refine Ext.drew ?_ | refine Ext.drewN ?_ _ | refine Ext.setCell ?_ (by first | exact Nat.le_refl _ | (simp; done) | (dsimp only; omega) | (simp only [World.size_alloc, World.size_setCell]; omega)) _ | refine Ext.trans ?_ (by assumption))) : Ext w0 w4).size
        have hE15 : Ext w0 w15 := (by repeat (first | exact Ext.refl _ | assumption | refine Ext.alloc ?_ _ | refine Ext.drew ?_ | refine Ext.drewN ?_ _ | refine Ext.setCell ?_ (by first | exact Nat.le_refl _ | (simp; done) | (dsimp only; omega) | (simp only [World.size_alloc, World.size_setCell]; omega)) _ | refine Ext.trans ?_ (by assumption)))
        obtain ⟨S0, hS0⟩ : ∃ n, n = w4.heap.size := ⟨_, rfl⟩
        obtain ⟨S1, hS1⟩ : ∃ n, n = wy.heap.size := ⟨_, rfl⟩
        obtain ⟨S2, hS2⟩ : ∃ n, n = w6.heap.size := ⟨_, rfl⟩
        obtain ⟨S3, hS3⟩ : ∃ n, n = w7.heap.size := ⟨_, rfl⟩
        have hz1 : w0.heap.size ≤ S0 := by rw [hS0]; exact hSZa
        have hSS0 : S0 ≤ S1 := by rw [hS0, hS1]; exact hSZ0
        have hSS1 : S1 ≤ S2 := by rw [hS1, hS2]; exact hSZ1
        have hSS2 : S2 ≤ S3 := by rw [hS2, hS3]; exact hSZ2
        have HHLW : Hid (∀ k, vw.ownBlock = some k → k < S0) := hid (fun k hk => by rw [hS0]; exact (hrw.lt k hk).2)
        have HHLG : Hid (∀ k, vg.ownBlock = some k → S3 ≤ k) := hid (fun k hk => by rw [hS3]; exact (hrg.lt k hk).1)
        have hh0 : ∀ gT2 gL2, Value.agg #[.slice (some ⟨gT, 0, none⟩) nT0 nT0, .slice (some ⟨gL, 0, none⟩) nL0 nL0] = .agg #[.slice (some ⟨gT2, 0, none⟩) nT0 nT0, .slice (some ⟨gL2, 0, none⟩) nL0 nL0] → gL2 < S1 := fun gT2 gL2 hx => by rw [hS1]; exact Nat.lt_of_lt_of_le (hr5.hi gT2 gL2 hx) e5y.size
        have HH0 := hid hh0
        clear hh0
        rw [← hS0] at ha0
        have hh1 : S1 ≤ g6 ∧ g6 < S2 := by rw [hS1, hS2]; exact hr6.lt g6 rfl
        rw [← hS1] at ha1
        have hh3 : S2 ≤ g7 ∧ g7 < S3 := by rw [hS2, hS3]; exact hr7.lt g7 rfl
        rw [← hS2] at ha3
        rw [← hS3] at hrg15
        clear hS0 hS1 hS2 hS3 hSZ0 hSZ1 hSZ2 hSZa hrw hrg hb1 hb2 hb3 hb4 hb5 hb6 hb7 hb8 hb9 hb10 hb11 hb12 hb13 hb14 hb15 hr1 hr2 hr3 hr5 hr6 hr7
        go_wp2_with (fail)
        refine (markNet_any _ nT0 zT0 nL0 zL0 S0 S1 _ 1 ha0 HH0.out (by omega) (by omega) (by omega) (by omega)).mono ?_
        rintro e w16 ⟨rfl, hc16⟩
        have hE16 : Ext w0 w16 := hE15.of_chg hc16 (by omega)
        have hrw16 := row_chg hrw15 hc16 (fun k hk => .inl (by have := HHLW.out k hk; omega))
        have hrg16 := row_chg hrg15 hc16 (fun k hk => .inr (by have := HHLG.out k hk; omega))
        replace ha1 := row_chg ha1 hc16 (fun k hk => .inr (by have := (ha1.lt k hk).1; omega))
        replace ha3 := row_chg ha3 hc16 (fun k hk => .inr (by have := (ha3.lt k hk).1; omega))
        obtain ⟨bxa16, bxb16⟩ := HBX.out w16 (by repeat (first | exact Ext.refl _ | assumption | refine Ext.alloc ?_ _ | refine Ext.drew ?_ | refine Ext.drewN ?_ _ | refine Ext.setCell ?_ (by first | exact Nat.le_refl _ | (simp; done) | (dsimp only; omega) | (simp only [World.size_alloc, World.size_setCell]; omega)) _ | refine Ext.trans ?_ (by assumption)))
        clear bxa15 bxb15 bya15 byb15
        clear ha0 hc16 hrw15 hrg15 hE15
        go_wp2_with (fail)
        refine (markFogS_any _ n1 _ S1 _ (1 + 3 * nT0 + 3 * nL0) ha1 (by omega) (by omega) (by omega)).mono ?_
        rintro e w17 ⟨rfl, hrx17, hc17⟩
        have hc17 := Chg.of_grown (lo := S1) (hi := S2) hc17 (fun k hk => by simp [Value.ownBlock] at hk; omega)
        clear hrx17
        have hE17 : Ext w0 w17 := hE16.of_chg hc17 (by omega)
        have hrw17 := row_chg hrw16 hc17 (fun k hk => .inl (by have := HHLW.out k hk; omega))
        have hrg17 := row_chg hrg16 hc17 (fun k hk => .inr (by have := HHLG.out k hk; omega))
        replace ha3 := row_chg ha3 hc17 (fun k hk => .inr (by have := (ha3.lt k hk).1; omega))
        obtain ⟨bxa17, bxb17⟩ := HBX.out w17 (by repeat (first | exact Ext.refl _ | assumption | refine Ext.alloc ?_ _ | refine Ext.drew ?_ | refine Ext.drewN ?_ _ | refine Ext.setCell ?_ (by first | exact Nat.le_refl _ | (simp; done) | (dsimp only; omega) | (simp only [World.size_alloc, World.size_setCell]; omega)) _ | refine Ext.trans ?_ (by assumption)))
        clear bxa16 bxb16
        clear ha1 hc17 hrw16 hrg16 hE16
        go_wp2_with (fail)
        refine (markHeldJobS_any _ n3 _ S2 _ ((1 + 3 * nT0 + 3 * nL0) + 3 * n1) ha3 (by omega) (by omega) (by omega)).mono ?_
        rintro e w18 ⟨rfl, hrx18, hc18⟩
        have hc18 := Chg.of_grown (lo := S2) (hi := S3) hc18 (fun k hk => by simp [Value.ownBlock] at hk; omega)
        clear hrx18
        have hE18 : Ext w0 w18 := hE17.of_chg hc18 (by omega)
        have hrw18 := row_chg hrw17 hc18 (fun k hk => .inl (by have := HHLW.out k hk; omega))
        have hrg18 := row_chg hrg17 hc18 (fun k hk => .inr (by have := HHLG.out k hk; omega))
        obtain ⟨bxa18, bxb18⟩ := HBX.out w18 (by repeat (first | exact Ext.refl _ | assumption | refine Ext.alloc ?_ _ | refine Ext.drew ?_ | refine Ext.drewN ?_ _ | refine Ext.setCell ?_ (by first | exact Nat.le_refl _ | (simp; done) | (dsimp only; omega) | (simp only [World.size_alloc, World.size_setCell]; omega)) _ | refine Ext.trans ?_ (by assumption)))
        clear bxa17 bxb17
        clear ha3 hc18 hrw17 hrg17 hE17
        go_wp2_with (fail)
        refine (eqIntS_same _ _ (L.length / 1) L _ (row_ints (row_ext hrg18 (by repeat (first | exact Ext.refl _ | assumption | refine Ext.alloc ?_ _ | refine Ext.drew ?_ | refine Ext.drewN ?_ _ | refine Ext.setCell ?_ (by first | exact Nat.le_refl _ | (simp; done) | (dsimp only; omega) | (simp only [World.size_alloc, World.size_setCell]; omega)) _ | refine Ext.trans ?_ (by assumption)))) (by unfold maxLen; omega) HLW.out) (row_ints (row_ext hrw18 (by repeat (first | exact Ext.refl _ | assumption | refine Ext.alloc ?_ _ | refine Ext.drew ?_ | refine Ext.drewN ?_ _ | refine Ext.setCell ?_ (by first | exact Nat.le_refl _ | (simp; done) | (dsimp only; omega) | (simp only [World.size_alloc, World.size_setCell]; omega)) _ | refine Ext.trans ?_ (by assumption)))) (by unfold maxLen; omega) HLW.out)).mono ?_
        rintro e w19 ⟨rfl, hb19⟩
        obtain ⟨bxa19, bxb19⟩ := HBX.out w19 (by repeat (first | exact Ext.refl _ | assumption | refine Ext.alloc ?_ _ | refine Ext.drew ?_ | refine Ext.drewN ?_ _ | refine Ext.setCell ?_ (by first | exact Nat.le_refl _ | (simp; done) | (dsimp only; omega) | (simp only [World.size_alloc, World.size_setCell]; omega)) _ | refine Ext.trans ?_ (by assumption)))
        clear bxa18 bxb18
        have hE19 : Ext w0 w19 := hE18.trans hb19
        have hrw19 := row_ext hrw18 hb19
        have hrg19 := row_ext hrg18 hb19
        clear hb19 hrw18 hrg18
        go_wp2_with (fail)
        refine (markIntS_any _ _ _ S3 _ 1 hrg19 (by omega) (by omega) (by omega)).mono ?_
        rintro e w20 ⟨rfl, hrm, hg20⟩
        have hE20 : Ext w0 w20 := hE19.of_grownAt hg20 (fun k hk => by have := HHLG.out k hk; omega)
        have hrw20 := row_below (B := S0) hrw19 HHLW.out hg20 (fun k hk => by have := HHLG.out k hk; omega)
        clear hg20 hrw19 hrg19
        obtain ⟨bxa20, bxb20⟩ := HBX.out w20 (by repeat (first | exact Ext.refl _ | assumption | refine Ext.alloc ?_ _ | refine Ext.drew ?_ | refine Ext.drewN ?_ _ | refine Ext.setCell ?_ (by first | exact Nat.le_refl _ | (simp; done) | (dsimp only; omega) | (simp only [World.size_alloc, World.size_setCell]; omega)) _ | refine Ext.trans ?_ (by assumption)))
        clear bxa19 bxb19
        go_wp2_with (fail)
        refine (heldIntS_same _ (L.length / 1) _ 1 (row_ints (row_ext hrm (by repeat (first | exact Ext.refl _ | assumption | refine Ext.alloc ?_ _ | refine Ext.drew ?_ | refine Ext.drewN ?_ _ | refine Ext.setCell ?_ (by first | exact Nat.le_refl _ | (simp; done) | (dsimp only; omega) | (simp only [World.size_alloc, World.size_setCell]; omega)) _ | refine Ext.trans ?_ (by assumption)))) (by unfold maxLen; omega) (marks_wf (by omega) (by omega))) (by omega) (by omega) (by omega)).mono ?_
        rintro e w21 ⟨rfl, hb21⟩
        obtain ⟨bxa21, bxb21⟩ := HBX.out w21 (by repeat (first | exact Ext.refl _ | assumption | refine Ext.alloc ?_ _ | refine Ext.drew ?_ | refine Ext.drewN ?_ _ | refine Ext.setCell ?_ (by first | exact Nat.le_refl _ | (simp; done) | (dsimp only; omega) | (simp only [World.size_alloc, World.size_setCell]; omega)) _ | refine Ext.trans ?_ (by assumption)))
        clear bxa20 bxb20
        go_wp2_with (fail)
        refine (toNet_any _ nT0 nL0 zT0 zL0 _ (r0.ext (by repeat (first | exact Ext.refl _ | assumption | refine Ext.alloc ?_ _ | refine Ext.drew ?_ | refine Ext.drewN ?_ _ | refine Ext.setCell ?_ (by first | exact Nat.le_refl _ | (simp; done) | (dsimp only; omega) | (simp only [World.size_alloc, World.size_setCell]; omega)) _ | refine Ext.trans ?_ (by assumption)))) hnT0 hnL0).mono ?_
        rintro e w22 ⟨x22, rfl, hr22, hb22⟩
        obtain ⟨bxa22, bxb22⟩ := HBX.out w22 (by repeat (first | exact Ext.refl _ | assumption | refine Ext.alloc ?_ _ | refine Ext.drew ?_ | refine Ext.drewN ?_ _ | refine Ext.setCell ?_ (by first | exact Nat.le_refl _ | (simp; done) | (dsimp only; omega) | (simp only [World.size_alloc, World.size_setCell]; omega)) _ | refine Ext.trans ?_ (by assumption)))
        clear bxa21 bxb21
        go_wp2_with (fail)
        refine (toFogS_any _ n1 z1 _ (r1.ext (by repeat (first | exact Ext.refl _ | assumption | refine Ext.alloc ?_ _ | refine Ext.drew ?_ | refine Ext.drewN ?_ _ | refine Ext.setCell ?_ (by first | exact Nat.le_refl _ | (simp; done) | (dsimp only; omega) | (simp only [World.size_alloc, World.size_setCell]; omega)) _ | refine Ext.trans ?_ (by assumption)))) hm1).mono ?_
        rintro e w23 ⟨g23, rfl, hr23, hb23⟩
        obtain ⟨bxa23, bxb23⟩ := HBX.out w23 (by repeat (first | exact Ext.refl _ | assumption | refine Ext.alloc ?_ _ | refine Ext.drew ?_ | refine Ext.drewN ?_ _ | refine Ext.setCell ?_ (by first | exact Nat.le_refl _ | (simp; done) | (dsimp only; omega) | (simp only [World.size_alloc, World.size_setCell]; omega)) _ | refine Ext.trans ?_ (by assumption)))
        clear bxa22 bxb22
        go_wp2_with (fail)
        refine (toHeldJobS_any _ n3 z3 _ (r3.ext (by repeat (first | exact Ext.refl _ | assumption | refine Ext.alloc ?_ _ | refine Ext.drew ?_ | refine Ext.drewN ?_ _ | refine Ext.setCell ?_ (by first | exact Nat.le_refl _ | (simp; done) | (dsimp only; omega) | (simp only [World.size_alloc, World.size_setCell]; omega)) _ | refine Ext.trans ?_ (by assumption)))) hm3).mono ?_
        rintro e w24 ⟨g24, rfl, hr24, hb24⟩
        obtain ⟨bxa24, bxb24⟩ := HBX.out w24 (by repeat (first | exact Ext.refl _ | assumption | refine Ext.alloc ?_ _ | refine Ext.drew ?_ | refine Ext.drewN ?_ _ | refine Ext.setCell ?_ (by first | exact Nat.le_refl _ | (simp; done) | (dsimp only; omega) | (simp only [World.size_alloc, World.size_setCell]; omega)) _ | refine Ext.trans ?_ (by assumption)))
        clear bxa23 bxb23
        go_wp2_with (fail)
        refine (iHoldArrivals_any _ nT0 zT0 nL0 zL0 _ n1 z1 a2 _ n3 z3 _ ((OwnNet.ext hr22 (by repeat (first | exact Ext.refl _ | assumption | refine Ext.alloc ?_ _ | refine Ext.drew ?_ | refine Ext.drewN ?_ _ | refine Ext.setCell ?_ (by first | exact Nat.le_refl _ | (simp; done) | (dsimp only; omega) | (simp only [World.size_alloc, World.size_setCell]; omega)) _ | refine Ext.trans ?_ (by assumption)))).net (by unfold maxLen; omega) (by unfold maxLen; omega) HWT0.out HWL0.out) (row_ints (row_ext hr23 (by repeat (first | exact Ext.refl _ | assumption | refine Ext.alloc ?_ _ | refine Ext.drew ?_ | refine Ext.drewN ?_ _ | refine Ext.setCell ?_ (by first | exact Nat.le_refl _ | (simp; done) | (dsimp only; omega) | (simp only [World.size_alloc, World.size_setCell]; omega)) _ | refine Ext.trans ?_ (by assumption)))) (by unfold maxLen; omega) HW1.out) (row_ints (row_ext hr24 (by repeat (first | exact Ext.refl _ | assumption | refine Ext.alloc ?_ _ | refine Ext.drew ?_ | refine Ext.drewN ?_ _ | refine Ext.setCell ?_ (by first | exact Nat.le_refl _ | (simp; done) | (dsimp only; omega) | (simp only [World.size_alloc, World.size_setCell]; omega)) _ | refine Ext.trans ?_ (by assumption)))) (by unfold maxLen; omega) HW3.out)).mono ?_
        rintro e w25 ⟨vh, rfl, hrh, hb25⟩
        obtain ⟨bxa25, bxb25⟩ := HBX.out w25 (by repeat (first | exact Ext.refl _ | assumption | refine Ext.alloc ?_ _ | refine Ext.drew ?_ | refine Ext.drewN ?_ _ | refine Ext.setCell ?_ (by first | exact Nat.le_refl _ | (simp; done) | (dsimp only; omega) | (simp only [World.size_alloc, World.size_setCell]; omega)) _ | refine Ext.trans ?_ (by assumption)))
        clear bxa24 bxb24
        rw [← HL.out] at hrh
        go_wp2_with (fail)
        refine (eqIntS_same _ _ (L.length / 1) L _ (row_ints (row_ext hrh (by repeat (first | exact Ext.refl _ | assumption | refine Ext.alloc ?_ _ | refine Ext.drew ?_ | refine Ext.drewN ?_ _ | refine Ext.setCell ?_ (by first | exact Nat.le_refl _ | (simp; done) | (dsimp only; omega) | (simp only [World.size_alloc, World.size_setCell]; omega)) _ | refine Ext.trans ?_ (by assumption)))) (by unfold maxLen; omega) HLW.out) (row_ints (row_ext hrw20 (by repeat (first | exact Ext.refl _ | assumption | refine Ext.alloc ?_ _ | refine Ext.drew ?_ | refine Ext.drewN ?_ _ | refine Ext.setCell ?_ (by first | exact Nat.le_refl _ | (simp; done) | (dsimp only; omega) | (simp only [World.size_alloc, World.size_setCell]; omega)) _ | refine Ext.trans ?_ (by assumption)))) (by unfold maxLen; omega) HLW.out)).mono ?_
        rintro e w26 ⟨rfl, hb26⟩
        obtain ⟨bxa26, bxb26⟩ := HBX.out w26 (by repeat (first | exact Ext.refl _ | assumption | refine Ext.alloc ?_ _ | refine Ext.drew ?_ | refine Ext.drewN ?_ _ | refine Ext.setCell ?_ (by first | exact Nat.le_refl _ | (simp; done) | (dsimp only; omega) | (simp only [World.size_alloc, World.size_setCell]; omega)) _ | refine Ext.trans ?_ (by assumption)))
        clear bxa25 bxb25
        go_wp2_with (fail)
        refine (heldIntS_same _ (L.length / 1) _ 1 (row_ints (row_ext hrm (by repeat (first | exact Ext.refl _ | assumption | refine Ext.alloc ?_ _ | refine Ext.drew ?_ | refine Ext.drewN ?_ _ | refine Ext.setCell ?_ (by first | exact Nat.le_refl _ | (simp; done) | (dsimp only; omega) | (simp only [World.size_alloc, World.size_setCell]; omega)) _ | refine Ext.trans ?_ (by assumption)))) (by unfold maxLen; omega) (marks_wf (by omega) (by omega))) (by omega) (by omega) (by omega)).mono ?_
        rintro e w27 ⟨rfl, hb27⟩
        obtain ⟨bxa27, bxb27⟩ := HBX.out w27 (by repeat (first | exact Ext.refl _ | assumption | refine Ext.alloc ?_ _ | refine Ext.drew ?_ | refine Ext.drewN ?_ _ | refine Ext.setCell ?_ (by first | exact Nat.le_refl _ | (simp; done) | (dsimp only; omega) | (simp only [World.size_alloc, World.size_setCell]; omega)) _ | refine Ext.trans ?_ (by assumption)))
        clear bxa26 bxb26
        go_wp2_with (fail)
        go_ret
        exact ⟨rfl, (by repeat (first | exact Ext.refl _ | assumption | refine Ext.alloc ?_ _ | refine Ext.drew ?_ | refine Ext.drewN ?_ _ | refine Ext.setCell ?_ (by first | exact Nat.le_refl _ | (simp; done) | (dsimp only; omega) | (simp only [World.size_alloc, World.size_setCell]; omega)) _ | refine Ext.trans ?_ (by assumption)))⟩
      · rw [if_neg hn3] at hsz3
        have HQ0 := hid hq0
        clear hq0
        have HQ1 := hid hq1
        clear hq1
        go_enter Try.func11, Try.ntmps11
        go_wp2_with (fail)
        have e00 : Ext w (w.alloc (.cells #[vT0, vL0] 25)) := (Ext.refl w).alloc _
        have bp0 : (w.alloc (.cells #[vT0, vL0] 25)).cell? ⟨w.heap.size, 0, none⟩ = some vT0 := by simp [go_sem]
        have bp1 : (w.alloc (.cells #[vT0, vL0] 25)).cell? ⟨w.heap.size, 1, none⟩ = some vL0 := by simp [go_sem]
        have bgs : w.heap.size < (w.alloc (.cells #[vT0, vL0] 25)).heap.size := by simp
        generalize (w.alloc (.cells #[vT0, vL0] 25)) = w0 at *
        obtain ⟨bg, hbg⟩ : ∃ g, g = w.heap.size := ⟨_, rfl⟩
        rw [← hbg] at bp0 bp1 bgs ⊢
        have HBX := hid (fun (W : World) (hW : Ext w0 W) => show W.cell? ⟨bg, 0, none⟩ = some vT0 ∧ W.cell? ⟨bg, 1, none⟩ = some vL0 from ⟨by rw [(Ext.cells hW).1 _ _ bgs]; exact bp0, by rw [(Ext.cells hW).1 _ _ bgs]; exact bp1⟩)
        clear hbg
        go_wp2_with (fail)
        refine (hsz0 _ (by repeat (first | exact Ext.refl _ | assumption | refine Ext.alloc ?_ _ | refine Ext.drew ?_ | refine Ext.drewN ?_ _ | refine Ext.setCell ?_ (by first | exact Nat.le_refl _ | (simp; done) | (dsimp only; omega) | (simp only [World.size_alloc, World.size_setCell]; omega)) _ | refine Ext.trans ?_ (by assumption)))).mono ?_
        rintro e wz ⟨rfl, hbz⟩
        clear bp0 bp1
        obtain ⟨bxa, bxb⟩ := HBX.out wz (by repeat (first | exact Ext.refl _ | assumption | refine Ext.alloc ?_ _ | refine Ext.drew ?_ | refine Ext.drewN ?_ _ | refine Ext.setCell ?_ (by first | exact Nat.le_refl _ | (simp; done) | (dsimp only; omega) | (simp only [World.size_alloc, World.size_setCell]; omega)) _ | refine Ext.trans ?_ (by assumption)))
        clear hsz0
        go_wp2_with (fail)
        refine (hsz1 _ (by repeat (first | exact Ext.refl _ | assumption | refine Ext.alloc ?_ _ | refine Ext.drew ?_ | refine Ext.drewN ?_ _ | refine Ext.setCell ?_ (by first | exact Nat.le_refl _ | (simp; done) | (dsimp only; omega) | (simp only [World.size_alloc, World.size_setCell]; omega)) _ | refine Ext.trans ?_ (by assumption)))).mono ?_
        rintro e w' ⟨rfl, rfl⟩
        clear hsz1
        go_wp2_with (fail)
        refine (hsz3 _ (by repeat (first | exact Ext.refl _ | assumption | refine Ext.alloc ?_ _ | refine Ext.drew ?_ | refine Ext.drewN ?_ _ | refine Ext.setCell ?_ (by first | exact Nat.le_refl _ | (simp; done) | (dsimp only; omega) | (simp only [World.size_alloc, World.size_setCell]; omega)) _ | refine Ext.trans ?_ (by assumption)))).mono ?_
        rintro e w' ⟨rfl, rfl⟩
        clear hsz3
        go_wp2_with (fail)
        go_ret
        exact ⟨rfl, (by repeat (first | exact Ext.refl _ | assumption | refine Ext.alloc ?_ _ | refine Ext.drew ?_ | refine Ext.drewN ?_ _ | refine Ext.setCell ?_ (by first | exact Nat.le_refl _ | (simp; done) | (dsimp only; omega) | (simp only [World.size_alloc, World.size_setCell]; omega)) _ | refine Ext.trans ?_ (by assumption)))⟩
    · rw [if_neg hn1] at hsz1
      have HQ0 := hid hq0
      clear hq0
      go_enter Try.func11, Try.ntmps11
      go_wp2_with (fail)
      have e00 : Ext w (w.alloc (.cells #[vT0, vL0] 25)) := (Ext.refl w).alloc _
      have bp0 : (w.alloc (.cells #[vT0, vL0] 25)).cell? ⟨w.heap.size, 0, none⟩ = some vT0 := by simp [go_sem]
      have bp1 : (w.alloc (.cells #[vT0, vL0] 25)).cell? ⟨w.heap.size, 1, none⟩ = some vL0 := by simp [go_sem]
      have bgs : w.heap.size < (w.alloc (.cells #[vT0, vL0] 25)).heap.size := by simp
      generalize (w.alloc (.cells #[vT0, vL0] 25)) = w0 at *
      obtain ⟨bg, hbg⟩ : ∃ g, g = w.heap.size := ⟨_, rfl⟩
      rw [← hbg] at bp0 bp1 bgs ⊢
      have HBX := hid (fun (W : World) (hW : Ext w0 W) => show W.cell? ⟨bg, 0, none⟩ = some vT0 ∧ W.cell? ⟨bg, 1, none⟩ = some vL0 from ⟨by rw [(Ext.cells hW).1 _ _ bgs]; exact bp0, by rw [(Ext.cells hW).1 _ _ bgs]; exact bp1⟩)
      clear hbg
      go_wp2_with (fail)
      refine (hsz0 _ (by repeat (first | exact Ext.refl _ | assumption | refine Ext.alloc ?_ _ | refine Ext.drew ?_ | refine Ext.drewN ?_ _ | refine Ext.setCell ?_ (by first | exact Nat.le_refl _ | (simp; done) | (dsimp only; omega) | (simp only [World.size_alloc, World.size_setCell]; omega)) _ | refine Ext.trans ?_ (by assumption)))).mono ?_
      rintro e wz ⟨rfl, hbz⟩
      clear bp0 bp1
      obtain ⟨bxa, bxb⟩ := HBX.out wz (by repeat (first | exact Ext.refl _ | assumption | refine Ext.alloc ?_ _ | refine Ext.drew ?_ | refine Ext.drewN ?_ _ | refine Ext.setCell ?_ (by first | exact Nat.le_refl _ | (simp; done) | (dsimp only; omega) | (simp only [World.size_alloc, World.size_setCell]; omega)) _ | refine Ext.trans ?_ (by assumption)))
      clear hsz0
      go_wp2_with (fail)
      refine (hsz1 _ (by repeat (first | exact Ext.refl _ | assumption | refine Ext.alloc ?_ _ | refine Ext.drew ?_ | refine Ext.drewN ?_ _ | refine Ext.setCell ?_ (by first | exact Nat.le_refl _ | (simp; done) | (dsimp only; omega) | (simp only [World.size_alloc, World.size_setCell]; omega)) _ | refine Ext.trans ?_ (by assumption)))).mono ?_
      rintro e w' ⟨rfl, rfl⟩
      clear hsz1
      go_wp2_with (fail)
      go_ret
      exact ⟨rfl, (by repeat (first | exact Ext.refl _ | assumption | refine Ext.alloc ?_ _ | refine Ext.drew ?_ | refine Ext.drewN ?_ _ | refine Ext.setCell ?_ (by first | exact Nat.le_refl _ | (simp; done) | (dsimp only; omega) | (simp only [World.size_alloc, World.size_setCell]; omega)) _ | refine Ext.trans ?_ (by assumption)))⟩
  · rw [if_neg hn0] at hsz0
    go_enter Try.func11, Try.ntmps11
    go_wp2_with (fail)
    have e00 : Ext w (w.alloc (.cells #[vT0, vL0] 25)) := (Ext.refl w).alloc _
    have bp0 : (w.alloc (.cells #[vT0, vL0] 25)).cell? ⟨w.heap.size, 0, none⟩ = some vT0 := by simp [go_sem]
    have bp1 : (w.alloc (.cells #[vT0, vL0] 25)).cell? ⟨w.heap.size, 1, none⟩ = some vL0 := by simp [go_sem]
    have bgs : w.heap.size < (w.alloc (.cells #[vT0, vL0] 25)).heap.size := by simp
    generalize (w.alloc (.cells #[vT0, vL0] 25)) = w0 at *
    obtain ⟨bg, hbg⟩ : ∃ g, g = w.heap.size := ⟨_, rfl⟩
    rw [← hbg] at bp0 bp1 bgs ⊢
    have HBX := hid (fun (W : World) (hW : Ext w0 W) => show W.cell? ⟨bg, 0, none⟩ = some vT0 ∧ W.cell? ⟨bg, 1, none⟩ = some vL0 from ⟨by rw [(Ext.cells hW).1 _ _ bgs]; exact bp0, by rw [(Ext.cells hW).1 _ _ bgs]; exact bp1⟩)
    clear hbg
    go_wp2_with (fail)
    refine (hsz0 _ (by repeat (first | exact Ext.refl _ | assumption | refine Ext.alloc ?_ _ | refine Ext.drew ?_ | refine Ext.drewN ?_ _ | refine Ext.setCell ?_ (by first | exact Nat.le_refl _ | (simp; done) | (dsimp only; omega) | (simp only [World.size_alloc, World.size_setCell]; omega)) _ | refine Ext.trans ?_ (by assumption)))).mono ?_
    rintro e wz ⟨rfl, hbz⟩
    clear bp0 bp1
    obtain ⟨bxa, bxb⟩ := HBX.out wz (by repeat (first | exact Ext.refl _ | assumption | refine Ext.alloc ?_ _ | refine Ext.drew ?_ | refine Ext.drewN ?_ _ | refine Ext.setCell ?_ (by first | exact Nat.le_refl _ | (simp; done) | (dsimp only; omega) | (simp only [World.size_alloc, World.size_setCell]; omega)) _ | refine Ext.trans ?_ (by assumption)))
    clear hsz0
    go_wp2_with (fail)
    go_ret
    exact ⟨rfl, (by repeat (first | exact Ext.refl _ | assumption | refine Ext.alloc ?_ _ | refine Ext.drew ?_ | refine Ext.drewN ?_ _ | refine Ext.setCell ?_ (by first | exact Nat.le_refl _ | (simp; done) | (dsimp only; omega) | (simp only [World.size_alloc, World.size_setCell]; omega)) _ | refine Ext.trans ?_ (by assumption)))⟩

end Go.Proofs.Ytlmfohjfbolhpaa