/- The chapter of held messages: how many jobs are held, the most held, the sum of the waits. No condition. The chapter of held messages: the starts and the arrivals of jobs. No condition. -/
import Derived.Test.YtjmbhlhkjjinbaaHldG
namespace Go.Proofs.Ytjmbhlhkjjinbaa
open Go.RowKit
set_option linter.unusedSimpArgs false
set_option linter.unusedVariables false

theorem hsL_bd {nL : Nat} {zF : List Int} {nF : Nat} {zJ : List Int} {m : Nat} (link : Int) (h : okFg nL zF nF = true) (hJ : okHs zJ m = true) : ∀ j, j < m → 0 ≤ (hsL zF nF link zJ m).getD j 0 ∧ (hsL zF nF link zJ m).getD j 0 ≤ 30000 := fun j hj => by
  have h1 := okHs_iff hJ
  rw [hsL_getD _ _ _ _ hj]
  have := hsAt_bd link h h1.2 j hj
  omega
theorem getD_of_mem {l : List Int} {x : Int} (h : x ∈ l) : ∃ j, j < l.length ∧ l.getD j 0 = x := by
  obtain ⟨j, hj, rfl⟩ := List.getElem_of_mem h
  exact ⟨j, hj, by simp [List.getD_eq_getElem?_getD, hj]⟩
theorem hsL_wf {nL : Nat} {zF : List Int} {nF : Nat} {zJ : List Int} {m : Nat} (link : Int) (h : okFg nL zF nF = true) (hJ : okHs zJ m = true) : ∀ x ∈ hsL zF nF link zJ m, (Lit.int .i64 x).wf = true := fun x hx => by
  obtain ⟨j, hj, rfl⟩ := getD_of_mem hx
  have := hsL_bd link h hJ j (by rwa [hsL_length] at hj)
  exact small_wf (by omega) (by omega)


def hoC (nT : Nat) (zT : List Int) (nL : Nat) (zL zF : List Int) (nF : Nat) (link : Int) (y : List Int) (m : Nat) : Bool := askH nT zT nL zL zF nF link && okHs y m
def haC (nT : Nat) (zT : List Int) (nL : Nat) (zL zF : List Int) (nF : Nat) (link : Int) (y : List Int) (m : Nat) (t : Int) : Bool := hoC nT zT nL zL zF nF link y m && inR t 0 10000
def haV (nT : Nat) (zT : List Int) (nL : Nat) (zL zF : List Int) (nF : Nat) (link : Int) (y : List Int) (m : Nat) (t : Int) : Int := if haC nT zT nL zL zF nF link y m t = true then (heldN y (hsL zF nF link y m) t m : Int) else 0
def wsV (nT : Nat) (zT : List Int) (nL : Nat) (zL zF : List Int) (nF : Nat) (link : Int) (y : List Int) (m : Nat) : Int := if hoC nT zT nL zL zF nF link y m = true then waitS y (hsL zF nF link y m) m else 0
def mhV (nT : Nat) (zT : List Int) (nL : Nat) (zL zF : List Int) (nF : Nat) (link : Int) (y : List Int) (m : Nat) : Int × Int := if hoC nT zT nL zL zF nF link y m = true then mostH y (hsL zF nF link y m) m m else (0, 0)


end Go.Proofs.Ytjmbhlhkjjinbaa
namespace Go.Proofs.Ytjmbhlhkjjinbaa
open Go.RowKit
set_option linter.unusedSimpArgs false
set_option linter.unusedVariables false

def stV (nT : Nat) (zT : List Int) (nL : Nat) (zL zF : List Int) (nF : Nat) (link : Int) (y : List Int) (m : Nat) : List Int := if hoC nT zT nL zL zF nF link y m = true then hsL zF nF link y m else []
def arV (nT : Nat) (zT : List Int) (nL : Nat) (zL zF : List Int) (nF : Nat) (link : Int) (y : List Int) (m : Nat) : List Int := if hoC nT zT nL zL zF nF link y m = true then haL zF nF link y (f3c zL link.toNat) m else []
theorem haL_length (zF : List Int) (nF : Nat) (link : Int) (zJ : List Int) (d : Int) (k : Nat) : (haL zF nF link zJ d k).length = k := by simp [haL]
theorem haL_getD (zF : List Int) (nF : Nat) (link : Int) (zJ : List Int) (d : Int) {k i : Nat} (h : i < k) : (haL zF nF link zJ d k).getD i 0 = haAt zF nF link zJ d i := by
  simp [haL, List.getD_eq_getElem?_getD, h]
theorem haL_map_getD {zF : List Int} {nF : Nat} {link : Int} {zJ : List Int} {d : Int} {m j : Nat} (h : j < m) : ((haL zF nF link zJ d m).map (Value.int .i64))[j]? = some (.int .i64 (haAt zF nF link zJ d j)) := by
  rw [map_getD (by rw [haL_length]; exact h), haL_getD _ _ _ _ _ h]
theorem hoC_iff {nT nL nF m : Nat} {zT zL zF y : List Int} {link : Int} (h : hoC nT zT nL zL zF nF link y m = true) : okNet nT zT nL zL = true ∧ okFg nL zF nF = true ∧ (0 ≤ link ∧ link < nL) ∧ okHs y m = true := by
  unfold hoC at h
  rw [Bool.and_eq_true] at h
  have := askH_iff h.1
  exact ⟨this.1, this.2.1, ⟨this.2.2.1, this.2.2.2⟩, h.2⟩
theorem stV_inv (nT : Nat) (zT : List Int) (nL : Nat) (zL zF : List Int) (nF : Nat) (link : Int) (y : List Int) (m : Nat) : (∀ x ∈ stV nT zT nL zL zF nF link y m, (Lit.int .i64 x).wf = true) ∧ (stV nT zT nL zL zF nF link y m).length ≤ 20 := by
  unfold stV
  by_cases c : hoC nT zT nL zL zF nF link y m = true
  · rw [if_pos c]
    obtain ⟨_, h2, _, h4⟩ := hoC_iff c
    exact ⟨hsL_wf link h2 h4, by rw [hsL_length]; exact (okHs_iff h4).1⟩
  · rw [if_neg c]
    simp
theorem haL_bd {nT nL nF m : Nat} {zT zL zF y : List Int} {link : Int} (h : hoC nT zT nL zL zF nF link y m = true) : ∀ j, j < m → 0 ≤ haAt zF nF link y (f3c zL link.toNat) j ∧ haAt zF nF link y (f3c zL link.toNat) j ≤ 30000 := fun j hj => by
  obtain ⟨h1, h2, h3, h4⟩ := hoC_iff h
  have hd := (okNet_iff h1).2.2 link.toNat (by omega)
  have h5 := okHs_iff h4
  have := hsAt_bd link h2 h5.2 j hj
  have := h5.2 j hj
  unfold haAt
  omega
theorem arV_inv (nT : Nat) (zT : List Int) (nL : Nat) (zL zF : List Int) (nF : Nat) (link : Int) (y : List Int) (m : Nat) : (∀ x ∈ arV nT zT nL zL zF nF link y m, (Lit.int .i64 x).wf = true) ∧ (arV nT zT nL zL zF nF link y m).length ≤ 20 := by
  unfold arV
  by_cases c : hoC nT zT nL zL zF nF link y m = true
  · rw [if_pos c]
    obtain ⟨_, h2, _, h4⟩ := hoC_iff c
    refine ⟨fun x hx => ?_, by rw [haL_length]; exact (okHs_iff h4).1⟩
    obtain ⟨j, hj, rfl⟩ := getD_of_mem hx
    rw [haL_length] at hj
    rw [haL_getD _ _ _ _ _ hj]
    have := haL_bd c j hj
    exact small_wf (by omega) (by omega)
  · rw [if_neg c]
    simp


set_option maxRecDepth 100000 in
set_option maxHeartbeats 3200000 in
theorem iHoldArrivals_any (v : Value) (nT : Nat) (zT : List Int) (nL : Nat) (zL : List Int) (u : Value) (nF : Nat) (zF : List Int) (link : Int) (x : Value) (m : Nat) (y : List Int) (w : World) (hN : NetRow w v nT zT nL zL) (hF : IntRow .i64 3 w u nF zF) (hJ : IntRow .i64 2 w x m y) :
    Calls Try.prog 9 #[v, u, .int .i64 link, x] w fun e w' => ∃ v', e = .returned (.tuple #[v', .bool (hoC nT zT nL zL zF nF link y m)]) ∧ w'.ownsRow w.heap.size 3 1 v' ((arV nT zT nL zL zF nF link y m).length / 1) ((arV nT zT nL zL zF nF link y m).map (Value.int .i64)) ∧ Ext w w' := by
  have hN0 := hN
  have hF0 := hF
  have hJ0 := hJ
  obtain ⟨vT, vL, rfl, hT, hL⟩ := hN
  obtain ⟨_, hmT, _, aT, cT, rfl, _, _, _⟩ := hT
  have hLI := hL
  obtain ⟨_, hmL, _, aL, cL, rfl, _, _, _⟩ := hL
  obtain ⟨_, _, _, aF, cF, rfl, _, _, _⟩ := hF
  have hnL : nL ≤ 9223372036854775807 := by unfold maxLen at hmL; omega
  clear hmT hmL
  have C0 := fun (W : World) (hW : Ext w W) => holdAsked_any _ nT zT nL zL _ nF zF link x m y W (hN0.ext hW) (hF0.ext hW) (hJ0.ext hW)
  obtain ⟨Q, hQ⟩ : ∃ q, q = hoC nT zT nL zL zF nF link y m := ⟨_, rfl⟩
  rw [show (askH nT zT nL zL zF nF link && okHs y m) = Q from hQ.symm] at C0
  rw [← hQ]
  cases Q with
  | false =>
    rw [show arV nT zT nL zL zF nF link y m = [] by unfold arV; rw [← hQ]; rfl]
    have HQ := hid hQ
    clear hQ
    go_enter Try.func9, Try.ntmps9
    go_wp2_with (fail)
    refine (C0 _ (by repeat (first | exact Ext.refl _ | assumption | refine Ext.alloc ?_ _ | refine Ext.drew ?_ | refine Ext.drewN ?_ _ | refine Ext.setCell ?_ (by first | exact Nat.le_refl _ | (simp; done) | (dsimp only; omega) | (simp only [World.size_alloc, World.size_setCell]; omega)) _ | refine Ext.trans ?_ (by assumption)))).mono ?_
    rintro e w1 ⟨rfl, hb1⟩
    have hz1 := Ext.size hb1
    try simp only [World.size_alloc, World.size_setCell] at hz1
    obtain ⟨hc1, hf1⟩ := Ext.cells hb1
    try have hk1_0_0 := fun o => hc1 (w.heap.size) o (by (try simp only [World.size_alloc, World.size_setCell]); omega)
    try have hj1_0_0 := fun o => hf1 (w.heap.size) o (by (try simp only [World.size_alloc, World.size_setCell]); omega)
    try have hy1_0_0 : w.heap.size < w1.heap.size := by omega
    try have hk1_0_1 := fun o => hc1 (w.heap.size + 1) o (by (try simp only [World.size_alloc, World.size_setCell]); omega)
    try have hj1_0_1 := fun o => hf1 (w.heap.size + 1) o (by (try simp only [World.size_alloc, World.size_setCell]); omega)
    try have hy1_0_1 : w.heap.size + 1 < w1.heap.size := by omega
    try have hk1_0_2 := fun o => hc1 (w.heap.size + 1 + 1) o (by (try simp only [World.size_alloc, World.size_setCell]); omega)
    try have hj1_0_2 := fun o => hf1 (w.heap.size + 1 + 1) o (by (try simp only [World.size_alloc, World.size_setCell]); omega)
    try have hy1_0_2 : w.heap.size + 1 + 1 < w1.heap.size := by omega
    clear hc1 hf1
    go_wp2_with (fail)
    go_ret2
    exact ⟨_, rfl, World.ownsRow_nil _ _ _ _, (by repeat (first | exact Ext.refl _ | assumption | refine Ext.alloc ?_ _ | refine Ext.drew ?_ | refine Ext.drewN ?_ _ | refine Ext.setCell ?_ (by first | exact Nat.le_refl _ | (simp; done) | (dsimp only; omega) | (simp only [World.size_alloc, World.size_setCell]; omega)) _ | refine Ext.trans ?_ (by assumption)))⟩
  | true =>
    obtain ⟨ho1, ho2, ⟨ho3, ho4⟩, hB2⟩ := hoC_iff hQ.symm
    obtain ⟨hm20, hjs⟩ := okHs_iff hB2
    have HOK := hid ho2
    have HJ := hid hB2
    have HNET := hid ho1
    have HJS := hid hjs
    have HQ := hid hQ
    clear hQ hB2 ho1 ho2 hjs
    obtain ⟨D, hD⟩ : ∃ D, D = f3c zL link.toNat := ⟨_, rfl⟩
    have hdb := (okNet_iff HNET.out).2.2 link.toNat (by omega)
    rw [← hD] at hdb
    obtain ⟨_, _, _, hd1, hd2⟩ := hdb
    have HD := hid hD
    rw [show arV nT zT nL zL zF nF link y m = haL zF nF link y D m by unfold arV; rw [← HQ.out, hD]; rfl, show (haL zF nF link y D m).length / 1 = m by rw [haL_length]; omega]
    clear hD
    go_enter Try.func9, Try.ntmps9
    go_wp2_with (fail)
    refine (C0 _ (by repeat (first | exact Ext.refl _ | assumption | refine Ext.alloc ?_ _ | refine Ext.drew ?_ | refine Ext.drewN ?_ _ | refine Ext.setCell ?_ (by first | exact Nat.le_refl _ | (simp; done) | (dsimp only; omega) | (simp only [World.size_alloc, World.size_setCell]; omega)) _ | refine Ext.trans ?_ (by assumption)))).mono ?_
    rintro e w1 ⟨rfl, hb1⟩
    have hz1 := Ext.size hb1
    try simp only [World.size_alloc, World.size_setCell] at hz1
    obtain ⟨hc1, hf1⟩ := Ext.cells hb1
    try have hk1_0_0 := fun o => hc1 (w.heap.size) o (by (try simp only [World.size_alloc, World.size_setCell]); omega)
    try have hj1_0_0 := fun o => hf1 (w.heap.size) o (by (try simp only [World.size_alloc, World.size_setCell]); omega)
    try have hy1_0_0 : w.heap.size < w1.heap.size := by omega
    try have hk1_0_1 := fun o => hc1 (w.heap.size + 1) o (by (try simp only [World.size_alloc, World.size_setCell]); omega)
    try have hj1_0_1 := fun o => hf1 (w.heap.size + 1) o (by (try simp only [World.size_alloc, World.size_setCell]); omega)
    try have hy1_0_1 : w.heap.size + 1 < w1.heap.size := by omega
    try have hk1_0_2 := fun o => hc1 (w.heap.size + 1 + 1) o (by (try simp only [World.size_alloc, World.size_setCell]); omega)
    try have hj1_0_2 := fun o => hf1 (w.heap.size + 1 + 1) o (by (try simp only [World.size_alloc, World.size_setCell]); omega)
    try have hy1_0_2 : w.heap.size + 1 + 1 < w1.heap.size := by omega
    clear hc1 hf1
    have hbg : w.heap.size < w1.heap.size := by omega
    have NB := hid (show w1.cell? ⟨w.heap.size, 1, none⟩ = some (.slice aL nL cL) by rw [(Ext.cells hb1).1 _ _ (by simp)]; simp [go_sem])
    have EW : Ext w w1 := (by repeat (first | exact Ext.refl _ | assumption | refine Ext.alloc ?_ _ | refine Ext.drew ?_ | refine Ext.drewN ?_ _ | refine Ext.setCell ?_ (by first | exact Nat.le_refl _ | (simp; done) | (dsimp only; omega) | (simp only [World.size_alloc, World.size_setCell]; omega)) _ | refine Ext.trans ?_ (by assumption)))
    have hFb := hF0.ext EW
    have hJb := hJ0.ext EW
    have hLb := hLI.ext EW
    obtain ⟨bg, hbe⟩ : ∃ g, g = w.heap.size := ⟨_, rfl⟩
    obtain ⟨wb, hwb⟩ : ∃ W, W = w1 := ⟨_, rfl⟩
    rw [← hbe, ← hwb] at NB hbg
    rw [← hwb] at hFb hJb hLb EW
    go_wp2_with (fail)
    rw [← hwb]
    have hzb : w.heap.size ≤ wb.heap.size := EW.size
    rw [← hbe]
    clear hb1 hbe hwb hz1
    refine (holdStarts_any _ nF zF link x m y _ nL hFb hJb HOK HJ).mono ?_
    rintro e w2 ⟨v2, rfl, hr2, hb2⟩
    obtain ⟨aS, cS, rfl, hnS, hcS, hgS⟩ := row_shape hr2
    have NB2 : w2.cell? ⟨bg, 1, none⟩ = some (.slice aL nL cL) := by rw [(Ext.cells hb2).1 _ _ hbg]; exact NB.out
    obtain ⟨hl, hm, hwf, a, c, rfl, hnc, hcm, hcell⟩ := hJb
    obtain ⟨hlL, _, _, aL', cL', he, _, _, hcellL⟩ := hLb
    cases he
    obtain ⟨bL, oL, rfl, hbL, hcL⟩ := hcellL.resolve_left (by omega)
    have HCL := hid hcL
    clear hwf hFb hcL hcellL
    go_wp2_with (fail)
    go_loopw [25] (fun i wr => ∃ (k : Nat) (xs : List Value), k ≤ m ∧ i = .int .i64 (k : Int) ∧ wr.ownsRow wb.heap.size 3 1 (.slice aS m cS) m xs ∧ (∀ j, j < m → xs[j]? = some (.int .i64 (if j < k then haAt zF nF link y D j else hsAt zF nF link y j))) ∧ Ext wb wr)
      (fun i _ => m - (intOf i).toNat)
    case atStart => exact ⟨0, _, Nat.zero_le _, rfl, hr2, fun j hj => by rw [hsL_map_getD hj, if_neg (by omega)], hb2⟩
    case round =>
      obtain ⟨k, xs, hk, rfl, hrow, hpre, hE⟩ := hrel
      have HP := hid hpre
      clear hr2 hb2 NB2 hpre
      have n1 : wr.cell? ⟨bg, 1, none⟩ = some (.slice (some ⟨bL, oL, none⟩) nL cL) := by rw [(Ext.cells hE).1 _ _ hbg]; exact NB.out
      by_cases hlt : k < m
      · obtain ⟨b, o, rfl, hb, hc⟩ := hcell.resolve_left (by omega)
        obtain ⟨gS, rfl, hgS1, hgS2⟩ := hgS.resolve_left (by omega)
        obtain ⟨z, hz⟩ : ∃ z, z = y := ⟨_, rfl⟩
        rw [← hz] at hc
        obtain ⟨x0, hx0⟩ : ∃ x, x = z.getD (k * 2) 0 := ⟨_, rfl⟩
        have s0 : wr.cell? ⟨b, o + k * 2, none⟩ = some (.int .i64 x0) := by rw [(Ext.cells hE).1 _ _ hb, show o + k * 2 = o + (k * 2) by omega, hc _ (by omega), hx0]
        have H0 := hid hx0
        clear hx0
        obtain ⟨x1, hx1⟩ : ∃ x, x = z.getD (k * 2 + 1) 0 := ⟨_, rfl⟩
        have s1 : wr.cell? ⟨b, o + k * 2 + 1, none⟩ = some (.int .i64 x1) := by rw [(Ext.cells hE).1 _ _ hb, show o + k * 2 + 1 = o + (k * 2 + 1) by omega, hc _ (by omega), hx1]
        have H1 := hid hx1
        clear hx1
        have hjk := HJS.out k hlt
        rw [show hRd y k = x0 by rw [H0.out, hz]; rfl, show hCt y k = x1 by rw [H1.out, hz]; rfl] at hjk
        obtain ⟨j1, j2, j3, j4⟩ := hjk
        have hAb := hsAt_bd link HOK.out HJS.out k hlt
        obtain ⟨A, hA⟩ : ∃ A, A = hsAt zF nF link y k := ⟨_, rfl⟩
        rw [← hA] at hAb
        obtain ⟨hA1, hA2, _, _⟩ := hAb
        have HAR := hid (show haAt zF nF link y D k = A + (x1 * 10 + D) by unfold haAt; rw [hA, H1.out, hz]; rfl)
        have rA := HP.out k hlt
        rw [if_neg (by omega), ← hA] at rA
        have HA := hid hA
        clear hc hcell hz hA hgS
        have hbr : b < wr.heap.size := Nat.lt_of_lt_of_le hb hE.size
        have hgr : gS < wr.heap.size := (hrow.lt gS rfl).2
        have hgb : wb.heap.size ≤ gS := hgS1
        have hbgr : bg < wr.heap.size := Nat.lt_of_lt_of_le hbg hE.size
        have hbLr : bL < wr.heap.size := Nat.lt_of_lt_of_le hbL hE.size
        have dl : wr.cell? ⟨bL, oL + link.toNat * 3 + 2, none⟩ = some (.int .i64 D) := by
          rw [(Ext.cells hE).1 _ _ hbL, show oL + link.toNat * 3 + 2 = oL + (link.toNat * 3 + 2) by omega, HCL.out _ (by omega), HD.out]
          rfl
        have ca := hrow.cellAt k (by omega)
        rw [rA] at ca
        have fa := hrow.frozenAt k
        go_wp2_with (fail)
        have AXw : ∀ W : World, W = wr.alloc (.cells #[.int .i64 x0, .int .i64 x1] 40) → W.cell? ⟨wr.heap.size, 1, none⟩ = some (.int .i64 x1) ∧ W.cell? ⟨bg, 1, none⟩ = some (.slice (some ⟨bL, oL, none⟩) nL cL) ∧ W.cell? ⟨bL, oL + link.toNat * 3 + 2, none⟩ = some (.int .i64 D) ∧ W.cell? ⟨gS, k, none⟩ = some (.int .i64 A) ∧ W.frozen? ⟨gS, k, none⟩ = false ∧ Ext wb W ∧ W.ownsRow wb.heap.size 3 1 (.slice (some ⟨gS, 0, none⟩) m cS) m xs := by
          rintro W rfl
          exact ⟨by simp [go_sem], by simp [go_sem, *], by simp [go_sem, *], by simp [go_sem, *], by simp [go_sem, *], hE.alloc _, hrow.alloc _⟩
        obtain ⟨wx, hwx⟩ : ∃ W, W = wr.alloc (.cells #[.int .i64 x0, .int .i64 x1] 40) := ⟨_, rfl⟩
        obtain ⟨t1, t2, t3, t4, t5, hEx, hrx⟩ := AXw wx hwx
        rw [← hwx]
        obtain ⟨gx, hgx⟩ : ∃ g, g = wr.heap.size := ⟨_, rfl⟩
        rw [← hgx] at t1 ⊢
        clear AXw hwx hgx s0 s1 n1 dl ca fa hrow hE hbr hgr hbgr hbLr
        have hs1 : IntKind.i64.wrap (x1 * 10) = x1 * 10 := IntWalk.i64_in _ (by omega)
        have hs2 : IntKind.i64.wrap (x1 * 10 + D) = x1 * 10 + D := IntWalk.i64_in _ (by omega)
        have hs3 : IntKind.i64.wrap (A + (x1 * 10 + D)) = A + (x1 * 10 + D) := IntWalk.i64_in _ (by omega)
        have hnn : (0 : Int) ≤ (k : Int) := Int.natCast_nonneg _
        have hkm : (k : Int) < m := by omega
        refine wp_region_still_tail 16 (by kernel_rfl) (by kernel_rfl) ?_
        simp only [List.take_succ_cons, List.take_zero, List.drop_succ_cons, List.drop_zero]
        repeat still_step
        try refine wpStill_nil ?_
        clear hs1 hs2 hs3
        change wpList _ _ _ _ _ wx.drew
        have hEy : Ext wb wx.drew := hEx.drew
        have hry := row_ext hrx ((Ext.refl wx).drew)
        have fy := hry.frozenAt k
        have cy := hry.cellAt k (by omega)
        rw [rA] at cy
        generalize wx.drew = wy at *
        go_wp2_with (fail)
        go_roundw
        case rel =>
          have q := hry.stored k (.int .i64 (A + (x1 * 10 + D)))
          refine ⟨k + 1, _, by omega, by go_num, q.1, fun j hj => ?_, hEy.setCell hgb _⟩
          by_cases ej : k = j
          · subst ej
            rw [List.getElem?_set_self (by rw [hry.1]; omega), if_pos (by omega), HAR.out]
          · rw [List.getElem?_set_ne ej, HP.out j hj]
            by_cases e2 : j < k
            · rw [if_pos e2, if_pos (by omega)]
            · rw [if_neg e2, if_neg (by omega)]
        case measure => simp [intOf]; omega
      · obtain rfl : k = m := by omega
        have HX := hid (list_full (m := k) (by simpa using hrow.1) (haL_length zF nF link y D k) (fun j hj => by rw [HP.out j hj, if_pos hj, haL_map_getD hj]))
        clear hcell n1
        go_wp2_with (fail)
        go_ret2
        refine ⟨_, rfl, ?_, EW.trans hE⟩
        rw [← HX.out]
        exact row_mono hrow hzb


set_option maxRecDepth 100000 in
set_option maxHeartbeats 3200000 in
theorem hoArrivals_any (v : Value) (nT : Nat) (zT : List Int) (nL : Nat) (zL : List Int) (u : Value) (nF : Nat) (zF : List Int) (link : Int) (x : Value) (m : Nat) (y : List Int) (w : World) (hN : NetRow w v nT zT nL zL) (hF : IntRow .i64 3 w u nF zF) (hJ : IntRow .i64 2 w x m y) (HQ : Hid (true = hoC nT zT nL zL zF nF link y m)) :
    Calls Try.prog 31 #[v, u, .int .i64 link, x] w fun e w' => ∃ v', e = .returned v' ∧ w'.ownsRow w.heap.size 3 1 v' m ((haL zF nF link y (f3c zL link.toNat) m).map (Value.int .i64)) ∧ Ext w w' := by
  have hN0 := hN
  have hF0 := hF
  have hJ0 := hJ
  obtain ⟨vT, vL, rfl, hT, hL⟩ := hN
  obtain ⟨_, hmT, _, aT, cT, rfl, _, _, _⟩ := hT
  have hLI := hL
  obtain ⟨_, hmL, _, aL, cL, rfl, _, _, _⟩ := hL
  obtain ⟨_, _, _, aF, cF, rfl, _, _, _⟩ := hF
  have hnL : nL ≤ 9223372036854775807 := by unfold maxLen at hmL; omega
  clear hmT hmL
  obtain ⟨ho1, ho2, ⟨ho3, ho4⟩, hB2⟩ := hoC_iff HQ.out.symm
  obtain ⟨hm20, hjs⟩ := okHs_iff hB2
  have HOK := hid ho2
  have HJ := hid hB2
  have HNET := hid ho1
  have HJS := hid hjs
  clear hB2 ho1 ho2 hjs
  obtain ⟨D, hD⟩ : ∃ D, D = f3c zL link.toNat := ⟨_, rfl⟩
  have hdb := (okNet_iff HNET.out).2.2 link.toNat (by omega)
  rw [← hD] at hdb
  obtain ⟨_, _, _, hd1, hd2⟩ := hdb
  have HD := hid hD
  rw [← hD]
  clear hD
  go_enter Try.func31, Try.ntmps31
  go_wp2_with (fail)
  have EW : Ext w (w.alloc (.cells #[.slice aT nT cT, .slice aL nL cL] 27)) := (Ext.refl w).alloc _
  have hbg : w.heap.size < (w.alloc (.cells #[.slice aT nT cT, .slice aL nL cL] 27)).heap.size := by simp
  have NB := hid (show (w.alloc (.cells #[.slice aT nT cT, .slice aL nL cL] 27)).cell? ⟨w.heap.size, 1, none⟩ = some (.slice aL nL cL) by simp [go_sem])
  obtain ⟨wb, hwb⟩ : ∃ W, W = w.alloc (.cells #[.slice aT nT cT, .slice aL nL cL] 27) := ⟨_, rfl⟩
  rw [← hwb] at NB hbg EW ⊢
  have hFb := hF0.ext EW
  have hJb := hJ0.ext EW
  have hLb := hLI.ext EW
  obtain ⟨bg, hbe⟩ : ∃ g, g = w.heap.size := ⟨_, rfl⟩
  have hzb : w.heap.size ≤ wb.heap.size := EW.size
  rw [← hbe] at NB hbg ⊢
  clear hbe hwb
  refine (hoStarts_any _ nF zF link x m y _ nL hFb hJb HOK HJ).mono ?_
  rintro e w2 ⟨v2, rfl, hr2, hb2⟩
  obtain ⟨aS, cS, rfl, hnS, hcS, hgS⟩ := row_shape hr2
  have NB2 : w2.cell? ⟨bg, 1, none⟩ = some (.slice aL nL cL) := by rw [(Ext.cells hb2).1 _ _ hbg]; exact NB.out
  obtain ⟨hl, hm, hwf, a, c, rfl, hnc, hcm, hcell⟩ := hJb
  obtain ⟨hlL, _, _, aL', cL', he, _, _, hcellL⟩ := hLb
  cases he
  obtain ⟨bL, oL, rfl, hbL, hcL⟩ := hcellL.resolve_left (by omega)
  have HCL := hid hcL
  clear hwf hFb hcL hcellL
  go_wp2_with (fail)
  go_loopw [18] (fun i wr => ∃ (k : Nat) (xs : List Value), k ≤ m ∧ i = .int .i64 (k : Int) ∧ wr.ownsRow wb.heap.size 3 1 (.slice aS m cS) m xs ∧ (∀ j, j < m → xs[j]? = some (.int .i64 (if j < k then haAt zF nF link y D j else hsAt zF nF link y j))) ∧ Ext wb wr)
    (fun i _ => m - (intOf i).toNat)
  case atStart => exact ⟨0, _, Nat.zero_le _, rfl, hr2, fun j hj => by rw [hsL_map_getD hj, if_neg (by omega)], hb2⟩
  case round =>
    obtain ⟨k, xs, hk, rfl, hrow, hpre, hE⟩ := hrel
    have HP := hid hpre
    clear hr2 hb2 NB2 hpre
    have n1 : wr.cell? ⟨bg, 1, none⟩ = some (.slice (some ⟨bL, oL, none⟩) nL cL) := by rw [(Ext.cells hE).1 _ _ hbg]; exact NB.out
    by_cases hlt : k < m
    · obtain ⟨b, o, rfl, hb, hc⟩ := hcell.resolve_left (by omega)
      obtain ⟨gS, rfl, hgS1, hgS2⟩ := hgS.resolve_left (by omega)
      obtain ⟨z, hz⟩ : ∃ z, z = y := ⟨_, rfl⟩
      rw [← hz] at hc
      obtain ⟨x0, hx0⟩ : ∃ x, x = z.getD (k * 2) 0 := ⟨_, rfl⟩
      have s0 : wr.cell? ⟨b, o + k * 2, none⟩ = some (.int .i64 x0) := by rw [(Ext.cells hE).1 _ _ hb, show o + k * 2 = o + (k * 2) by omega, hc _ (by omega), hx0]
      have H0 := hid hx0
      clear hx0
      obtain ⟨x1, hx1⟩ : ∃ x, x = z.getD (k * 2 + 1) 0 := ⟨_, rfl⟩
      have s1 : wr.cell? ⟨b, o + k * 2 + 1, none⟩ = some (.int .i64 x1) := by rw [(Ext.cells hE).1 _ _ hb, show o + k * 2 + 1 = o + (k * 2 + 1) by omega, hc _ (by omega), hx1]
      have H1 := hid hx1
      clear hx1
      have hjk := HJS.out k hlt
      rw [show hRd y k = x0 by rw [H0.out, hz]; rfl, show hCt y k = x1 by rw [H1.out, hz]; rfl] at hjk
      obtain ⟨j1, j2, j3, j4⟩ := hjk
      have hAb := hsAt_bd link HOK.out HJS.out k hlt
      obtain ⟨A, hA⟩ : ∃ A, A = hsAt zF nF link y k := ⟨_, rfl⟩
      rw [← hA] at hAb
      obtain ⟨hA1, hA2, _, _⟩ := hAb
      have HAR := hid (show haAt zF nF link y D k = A + (x1 * 10 + D) by unfold haAt; rw [hA, H1.out, hz]; rfl)
      have rA := HP.out k hlt
      rw [if_neg (by omega), ← hA] at rA
      have HA := hid hA
      clear hc hcell hz hA hgS
      have hbr : b < wr.heap.size := Nat.lt_of_lt_of_le hb hE.size
      have hgr : gS < wr.heap.size := (hrow.lt gS rfl).2
      have hgb : wb.heap.size ≤ gS := hgS1
      have hbgr : bg < wr.heap.size := Nat.lt_of_lt_of_le hbg hE.size
      have hbLr : bL < wr.heap.size := Nat.lt_of_lt_of_le hbL hE.size
      have dl : wr.cell? ⟨bL, oL + link.toNat * 3 + 2, none⟩ = some (.int .i64 D) := by
        rw [(Ext.cells hE).1 _ _ hbL, show oL + link.toNat * 3 + 2 = oL + (link.toNat * 3 + 2) by omega, HCL.out _ (by omega), HD.out]
        rfl
      have ca := hrow.cellAt k (by omega)
      rw [rA] at ca
      have fa := hrow.frozenAt k
      go_wp2_with (fail)
      have AXw : ∀ W : World, W = wr.alloc (.cells #[.int .i64 x0, .int .i64 x1] 40) → W.cell? ⟨wr.heap.size, 1, none⟩ = some (.int .i64 x1) ∧ W.cell? ⟨bg, 1, none⟩ = some (.slice (some ⟨bL, oL, none⟩) nL cL) ∧ W.cell? ⟨bL, oL + link.toNat * 3 + 2, none⟩ = some (.int .i64 D) ∧ W.cell? ⟨gS, k, none⟩ = some (.int .i64 A) ∧ W.frozen? ⟨gS, k, none⟩ = false ∧ Ext wb W ∧ W.ownsRow wb.heap.size 3 1 (.slice (some ⟨gS, 0, none⟩) m cS) m xs := by
        rintro W rfl
        exact ⟨by simp [go_sem], by simp [go_sem, *], by simp [go_sem, *], by simp [go_sem, *], by simp [go_sem, *], hE.alloc _, hrow.alloc _⟩
      obtain ⟨wx, hwx⟩ : ∃ W, W = wr.alloc (.cells #[.int .i64 x0, .int .i64 x1] 40) := ⟨_, rfl⟩
      obtain ⟨t1, t2, t3, t4, t5, hEx, hrx⟩ := AXw wx hwx
      rw [← hwx]
      obtain ⟨gx, hgx⟩ : ∃ g, g = wr.heap.size := ⟨_, rfl⟩
      rw [← hgx] at t1 ⊢
      clear AXw hwx hgx s0 s1 n1 dl ca fa hrow hE hbr hgr hbgr hbLr
      have hs1 : IntKind.i64.wrap (x1 * 10) = x1 * 10 := IntWalk.i64_in _ (by omega)
      have hs2 : IntKind.i64.wrap (x1 * 10 + D) = x1 * 10 + D := IntWalk.i64_in _ (by omega)
      have hs3 : IntKind.i64.wrap (A + (x1 * 10 + D)) = A + (x1 * 10 + D) := IntWalk.i64_in _ (by omega)
      have hnn : (0 : Int) ≤ (k : Int) := Int.natCast_nonneg _
      have hkm : (k : Int) < m := by omega
      refine wp_region_still_tail 16 (by kernel_rfl) (by kernel_rfl) ?_
      simp only [List.take_succ_cons, List.take_zero, List.drop_succ_cons, List.drop_zero]
      repeat still_step
      try refine wpStill_nil ?_
      clear hs1 hs2 hs3
      change wpList _ _ _ _ _ wx.drew
      have hEy : Ext wb wx.drew := hEx.drew
      have hry := row_ext hrx ((Ext.refl wx).drew)
      have fy := hry.frozenAt k
      have cy := hry.cellAt k (by omega)
      rw [rA] at cy
      generalize wx.drew = wy at *
      go_wp2_with (fail)
      go_roundw
      case rel =>
        have q := hry.stored k (.int .i64 (A + (x1 * 10 + D)))
        refine ⟨k + 1, _, by omega, by go_num, q.1, fun j hj => ?_, hEy.setCell hgb _⟩
        by_cases ej : k = j
        · subst ej
          rw [List.getElem?_set_self (by rw [hry.1]; omega), if_pos (by omega), HAR.out]
        · rw [List.getElem?_set_ne ej, HP.out j hj]
          by_cases e2 : j < k
          · rw [if_pos e2, if_pos (by omega)]
          · rw [if_neg e2, if_neg (by omega)]
      case measure => simp [intOf]; omega
    · obtain rfl : k = m := by omega
      have HX := hid (list_full (m := k) (by simpa using hrow.1) (haL_length zF nF link y D k) (fun j hj => by rw [HP.out j hj, if_pos hj, haL_map_getD hj]))
      clear hcell n1
      go_wp2_with (fail)
      go_ret
      refine ⟨_, rfl, ?_, EW.trans hE⟩
      rw [← HX.out]
      exact row_mono hrow (by omega)


set_option maxRecDepth 100000 in
set_option maxHeartbeats 3200000 in
theorem sHoldArrivals_any (v : Value) (nT : Nat) (zT : List Int) (nL : Nat) (zL : List Int) (u : Value) (nF : Nat) (zF : List Int) (link : Int) (x : Value) (m : Nat) (y : List Int) (w : World) (hN : NetRow w v nT zT nL zL) (hF : IntRow .i64 3 w u nF zF) (hJ : IntRow .i64 2 w x m y) :
    Calls Try.prog 19 #[v, u, .int .i64 link, x] w fun e w' => ∃ v', e = .returned (.tuple #[v', .bool (hoC nT zT nL zL zF nF link y m)]) ∧ w'.ownsRow w.heap.size 3 1 v' ((arV nT zT nL zL zF nF link y m).length / 1) ((arV nT zT nL zL zF nF link y m).map (Value.int .i64)) ∧ Ext w w' := by
  have hN0 := hN
  have hF0 := hF
  have hJ0 := hJ
  obtain ⟨vT, vL, rfl, hT, hL⟩ := hN
  obtain ⟨_, hmT, _, aT, cT, rfl, _, _, _⟩ := hT
  have hLI := hL
  obtain ⟨_, hmL, _, aL, cL, rfl, _, _, _⟩ := hL
  obtain ⟨_, _, _, aF, cF, rfl, _, _, _⟩ := hF
  have hnL : nL ≤ 9223372036854775807 := by unfold maxLen at hmL; omega
  clear hmT hmL
  have C0 := fun (W : World) (hW : Ext w W) => hoAsked_any _ nT zT nL zL _ nF zF link x m y W (hN0.ext hW) (hF0.ext hW) (hJ0.ext hW)
  obtain ⟨Q, hQ⟩ : ∃ q, q = hoC nT zT nL zL zF nF link y m := ⟨_, rfl⟩
  rw [show (askH nT zT nL zL zF nF link && okHs y m) = Q from hQ.symm] at C0
  rw [← hQ]
  cases Q with
  | false =>
    rw [show arV nT zT nL zL zF nF link y m = [] by unfold arV; rw [← hQ]; rfl]
    have HQ := hid hQ
    clear hQ
    go_enter Try.func19, Try.ntmps19
    go_wp2_with (fail)
    refine (C0 _ (by repeat (first | exact Ext.refl _ | assumption | refine Ext.alloc ?_ _ | refine Ext.drew ?_ | refine Ext.drewN ?_ _ | refine Ext.setCell ?_ (by first | exact Nat.le_refl _ | (simp; done) | (dsimp only; omega) | (simp only [World.size_alloc, World.size_setCell]; omega)) _ | refine Ext.trans ?_ (by assumption)))).mono ?_
    rintro e w1 ⟨rfl, hb1⟩
    have hz1 := Ext.size hb1
    try simp only [World.size_alloc, World.size_setCell] at hz1
    obtain ⟨hc1, hf1⟩ := Ext.cells hb1
    try have hk1_0_0 := fun o => hc1 (w.heap.size) o (by (try simp only [World.size_alloc, World.size_setCell]); omega)
    try have hj1_0_0 := fun o => hf1 (w.heap.size) o (by (try simp only [World.size_alloc, World.size_setCell]); omega)
    try have hy1_0_0 : w.heap.size < w1.heap.size := by omega
    try have hk1_0_1 := fun o => hc1 (w.heap.size + 1) o (by (try simp only [World.size_alloc, World.size_setCell]); omega)
    try have hj1_0_1 := fun o => hf1 (w.heap.size + 1) o (by (try simp only [World.size_alloc, World.size_setCell]); omega)
    try have hy1_0_1 : w.heap.size + 1 < w1.heap.size := by omega
    try have hk1_0_2 := fun o => hc1 (w.heap.size + 1 + 1) o (by (try simp only [World.size_alloc, World.size_setCell]); omega)
    try have hj1_0_2 := fun o => hf1 (w.heap.size + 1 + 1) o (by (try simp only [World.size_alloc, World.size_setCell]); omega)
    try have hy1_0_2 : w.heap.size + 1 + 1 < w1.heap.size := by omega
    clear hc1 hf1
    go_wp2_with (fail)
    go_ret2
    exact ⟨_, rfl, World.ownsRow_nil _ _ _ _, (by repeat (first | exact Ext.refl _ | assumption | refine Ext.alloc ?_ _ | refine Ext.drew ?_ | refine Ext.drewN ?_ _ | refine Ext.setCell ?_ (by first | exact Nat.le_refl _ | (simp; done) | (dsimp only; omega) | (simp only [World.size_alloc, World.size_setCell]; omega)) _ | refine Ext.trans ?_ (by assumption)))⟩
  | true =>
    obtain ⟨ho1, ho2, ⟨ho3, ho4⟩, hB2⟩ := hoC_iff hQ.symm
    obtain ⟨hm20, hjs⟩ := okHs_iff hB2
    have HOK := hid ho2
    have HJ := hid hB2
    have HNET := hid ho1
    have HJS := hid hjs
    have HQ := hid hQ
    clear hQ hB2 ho1 ho2 hjs
    rw [show arV nT zT nL zL zF nF link y m = haL zF nF link y (f3c zL link.toNat) m by unfold arV; rw [← HQ.out]; rfl, show (haL zF nF link y (f3c zL link.toNat) m).length / 1 = m by rw [haL_length]; omega]
    go_enter Try.func19, Try.ntmps19
    go_wp2_with (fail)
    refine (C0 _ (by repeat (first | exact Ext.refl _ | assumption | refine Ext.alloc ?_ _ | refine Ext.drew ?_ | refine Ext.drewN ?_ _ | refine Ext.setCell ?_ (by first | exact Nat.le_refl _ | (simp; done) | (dsimp only; omega) | (simp only [World.size_alloc, World.size_setCell]; omega)) _ | refine Ext.trans ?_ (by assumption)))).mono ?_
    rintro e w1 ⟨rfl, hb1⟩
    have hz1 := Ext.size hb1
    try simp only [World.size_alloc, World.size_setCell] at hz1
    obtain ⟨hc1, hf1⟩ := Ext.cells hb1
    try have hk1_0_0 := fun o => hc1 (w.heap.size) o (by (try simp only [World.size_alloc, World.size_setCell]); omega)
    try have hj1_0_0 := fun o => hf1 (w.heap.size) o (by (try simp only [World.size_alloc, World.size_setCell]); omega)
    try have hy1_0_0 : w.heap.size < w1.heap.size := by omega
    try have hk1_0_1 := fun o => hc1 (w.heap.size + 1) o (by (try simp only [World.size_alloc, World.size_setCell]); omega)
    try have hj1_0_1 := fun o => hf1 (w.heap.size + 1) o (by (try simp only [World.size_alloc, World.size_setCell]); omega)
    try have hy1_0_1 : w.heap.size + 1 < w1.heap.size := by omega
    try have hk1_0_2 := fun o => hc1 (w.heap.size + 1 + 1) o (by (try simp only [World.size_alloc, World.size_setCell]); omega)
    try have hj1_0_2 := fun o => hf1 (w.heap.size + 1 + 1) o (by (try simp only [World.size_alloc, World.size_setCell]); omega)
    try have hy1_0_2 : w.heap.size + 1 + 1 < w1.heap.size := by omega
    clear hc1 hf1
    go_wp2_with (fail)
    refine (hoArrivals_any _ nT zT nL zL _ nF zF link x m y _ (hN0.ext (by repeat (first | exact Ext.refl _ | assumption | refine Ext.alloc ?_ _ | refine Ext.drew ?_ | refine Ext.drewN ?_ _ | refine Ext.setCell ?_ (by first | exact Nat.le_refl _ | (simp; done) | (dsimp only; omega) | (simp only [World.size_alloc, World.size_setCell]; omega)) _ | refine Ext.trans ?_ (by assumption)))) (hF0.ext (by repeat (first | exact Ext.refl _ | assumption | refine Ext.alloc ?_ _ | refine Ext.drew ?_ | refine Ext.drewN ?_ _ | refine Ext.setCell ?_ (by first | exact Nat.le_refl _ | (simp; done) | (dsimp only; omega) | (simp only [World.size_alloc, World.size_setCell]; omega)) _ | refine Ext.trans ?_ (by assumption)))) (hJ0.ext (by repeat (first | exact Ext.refl _ | assumption | refine Ext.alloc ?_ _ | refine Ext.drew ?_ | refine Ext.drewN ?_ _ | refine Ext.setCell ?_ (by first | exact Nat.le_refl _ | (simp; done) | (dsimp only; omega) | (simp only [World.size_alloc, World.size_setCell]; omega)) _ | refine Ext.trans ?_ (by assumption)))) HQ).mono ?_
    rintro e w2 ⟨v2, rfl, hr2, hb2⟩
    have hr3 := row_mono hr2 (show w.heap.size ≤ w1.heap.size by omega)
    clear hr2
    go_wp2_with (fail)
    go_ret2
    exact ⟨_, rfl, hr3, (by repeat (first | exact Ext.refl _ | assumption | refine Ext.alloc ?_ _ | refine Ext.drew ?_ | refine Ext.drewN ?_ _ | refine Ext.setCell ?_ (by first | exact Nat.le_refl _ | (simp; done) | (dsimp only; omega) | (simp only [World.size_alloc, World.size_setCell]; omega)) _ | refine Ext.trans ?_ (by assumption)))⟩


end Go.Proofs.Ytjmbhlhkjjinbaa
