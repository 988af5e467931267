/- All that the law of held messages asks of one question, by letters. No condition. -/
import Derived.Test.YtlmfohjfbolhpaaHolP
import Derived.Test.YtlmfohjfbolhpaaHolF
namespace Go.Proofs.Ytlmfohjfbolhpaa
open Go.RowKit
set_option linter.unusedSimpArgs false
set_option linter.unusedVariables false

theorem holdAll (v : Value) (nT : Nat) (zT : List Int) (nL : Nat) (zL : List Int) (u : Value) (nF : Nat) (zF : List Int) (link : Int) (x : Value) (m : Nat) (y : List Int) : ∃ (LS LA : List Int) (WS MT MK : Int) (ok jb : Bool), (∀ w, NetRow w v nT zT nL zL → IntRow .i64 3 w u nF zF → IntRow .i64 2 w x m y → Calls Try.prog 51 #[v, u, .int .i64 link, x] w fun e w' => ∃ v', e = .returned (.tuple #[v', .bool ok]) ∧ w'.ownsRow w.heap.size 3 1 v' LS.length (LS.map (Value.int .i64)) ∧ Ext w w') ∧ (∀ w, NetRow w v nT zT nL zL → IntRow .i64 3 w u nF zF → IntRow .i64 2 w x m y → Calls Try.prog 50 #[v, u, .int .i64 link, x] w fun e w' => ∃ v', e = .returned (.tuple #[v', .bool ok]) ∧ w'.ownsRow w.heap.size 3 1 v' LS.length (LS.map (Value.int .i64)) ∧ Ext w w') ∧ (∀ w, NetRow w v nT zT nL zL → IntRow .i64 3 w u nF zF → IntRow .i64 2 w x m y → Calls Try.prog 35 #[v, u, .int .i64 link, x] w fun e w' => ∃ v', e = .returned (.tuple #[v', .bool ok]) ∧ w'.ownsRow w.heap.size 3 1 v' LA.length (LA.map (Value.int .i64)) ∧ Ext w w') ∧ (∀ w, NetRow w v nT zT nL zL → IntRow .i64 3 w u nF zF → IntRow .i64 2 w x m y → Calls Try.prog 43 #[v, u, .int .i64 link, x] w fun e w' => ∃ v', e = .returned (.tuple #[v', .bool ok]) ∧ w'.ownsRow w.heap.size 3 1 v' LA.length (LA.map (Value.int .i64)) ∧ Ext w w') ∧ (∀ w, NetRow w v nT zT nL zL → IntRow .i64 3 w u nF zF → IntRow .i64 2 w x m y → Calls Try.prog 45 #[v, u, .int .i64 link, x] w fun e w' => e = .returned (.tuple #[.int .i64 WS, .bool ok]) ∧ Ext w w') ∧ (∀ w, NetRow w v nT zT nL zL → IntRow .i64 3 w u nF zF → IntRow .i64 2 w x m y → Calls Try.prog 44 #[v, u, .int .i64 link, x] w fun e w' => e = .returned (.tuple #[.int .i64 WS, .bool ok]) ∧ Ext w w') ∧ (∀ w, NetRow w v nT zT nL zL → IntRow .i64 3 w u nF zF → IntRow .i64 2 w x m y → Calls Try.prog 28 #[x] w fun e w' => e = .returned (.bool jb) ∧ Ext w w') ∧ (∀ w, NetRow w v nT zT nL zL → IntRow .i64 3 w u nF zF → IntRow .i64 2 w x m y → Calls Try.prog 26 #[x] w fun e w' => e = .returned (.bool jb) ∧ Ext w w') ∧ (∀ w, NetRow w v nT zT nL zL → IntRow .i64 3 w u nF zF → IntRow .i64 2 w x m y → Calls Try.prog 49 #[v, u, .int .i64 link, x] w fun e w' => e = .returned (.tuple #[.int .i64 MT, .int .i64 MK, .bool ok]) ∧ Ext w w') ∧ (∀ w, NetRow w v nT zT nL zL → IntRow .i64 3 w u nF zF → IntRow .i64 2 w x m y → Calls Try.prog 48 #[v, u, .int .i64 link, x] w fun e w' => e = .returned (.tuple #[.int .i64 MT, .int .i64 MK, .bool ok]) ∧ Ext w w') ∧ ((∀ z ∈ LS, (Lit.int .i64 z).wf = true) ∧ (∀ z ∈ LA, (Lit.int .i64 z).wf = true) ∧ LS.length ≤ 20 ∧ LA.length ≤ 20) ∧ (ok = true → ∃ (D : Int) (EN SM : Nat → Int), LS.length = m ∧ LA.length = m ∧ m ≤ 20 ∧ (0 ≤ link ∧ link < nL ∧ nL ≤ 40) ∧ f3c zL link.toNat = D ∧ (1 ≤ D ∧ D ≤ 60) ∧ EN 0 = 0 ∧ SM 0 = 0 ∧ SM m = WS ∧ (∀ k, k < m → (0 ≤ hRd y k ∧ hRd y k ≤ 10000 ∧ 1 ≤ hCt y k ∧ hCt y k ≤ 80) ∧ (0 ≤ LS.getD k 0 ∧ LS.getD k 0 ≤ 30000 ∧ hRd y k ≤ LS.getD k 0 ∧ EN k ≤ LS.getD k 0) ∧ LA.getD k 0 = LS.getD k 0 + (hCt y k * 10 + D) ∧ EN (k + 1) = LS.getD k 0 + hCt y k * 10 ∧ SM (k + 1) = SM k + (LS.getD k 0 - hRd y k) ∧ (0 ≤ SM k ∧ SM k ≤ 30000 * (k : Int)) ∧ (LS.getD k 0 + hCt y k * 10 ≤ 10000 → (∀ w, NetRow w v nT zT nL zL → IntRow .i64 3 w u nF zF → IntRow .i64 2 w x m y → Calls Try.prog 57 #[v, u, .int .i64 link, .int .i64 (LS.getD k 0), .int .i64 (LS.getD k 0 + hCt y k * 10)] w fun e w' => e = .returned (.tuple #[.int .i64 0, .bool true]) ∧ Ext w w'))) ∧ (∀ w, NetRow w v nT zT nL zL → IntRow .i64 3 w u nF zF → IntRow .i64 2 w x m y → Calls Try.prog 47 #[v, u, .int .i64 link, x, .int .i64 MT] w fun e w' => e = .returned (.tuple #[.int .i64 MK, .bool true]) ∧ Ext w w') ∧ (MK = 0 ↔ WS = 0) ∧ (0 ≤ MK ∧ MK ≤ 20)) := by
  refine ⟨stV nT zT nL zL zF nF link y m, arV nT zT nL zL zF nF link y m, wsV nT zT nL zL zF nF link y m, (mhV nT zT nL zL zF nF link y m).1, (mhV nT zT nL zL zF nF link y m).2, hoC nT zT nL zL zF nF link y m, okHs y m, ?_, ?_, ?_, ?_, fun w h1 h2 h3 => iWaitingSum_any v nT zT nL zL u nF zF link x m y w h1 h2 h3, fun w h1 h2 h3 => sWaitingSum_any v nT zT nL zL u nF zF link x m y w h1 h2 h3, fun w _ _ h3 => iAreHeldJobs_any x m y w h3, fun w _ _ h3 => sAreHeldJobs_any x m y w h3, fun w h1 h2 h3 => iMostHeld_any v nT zT nL zL u nF zF link x m y w h1 h2 h3, fun w h1 h2 h3 => sMostHeld_any v nT zT nL zL u nF zF link x m y w h1 h2 h3, ?_, fun h => ?_⟩
  · intro w h1 h2 h3
    have := iHoldStarts_any v nT zT nL zL u nF zF link x m y w h1 h2 h3
    rwa [Nat.div_one] at this
  · intro w h1 h2 h3
    have := sHoldStarts_any v nT zT nL zL u nF zF link x m y w h1 h2 h3
    rwa [Nat.div_one] at this
  · intro w h1 h2 h3
    have := iHoldArrivals_any v nT zT nL zL u nF zF link x m y w h1 h2 h3
    rwa [Nat.div_one] at this
  · intro w h1 h2 h3
    have := sHoldArrivals_any v nT zT nL zL u nF zF link x m y w h1 h2 h3
    rwa [Nat.div_one] at this
  · unfold stV arV
    by_cases h : hoC nT zT nL zL zF nF link y m = true
    · rw [if_pos h, if_pos h]
      unfold hoC at h
      rw [Bool.and_eq_true] at h
      obtain ⟨hk, hj⟩ := h
      obtain ⟨hn, hf, hl0, hl1⟩ := askH_iff hk
      have hJ := okHs_iff hj
      refine ⟨hsL_wf link hf hj, ?_, by rw [hsL_length]; omega, by simp [haL]; omega⟩
      intro z hz
      unfold haL at hz
      rw [List.mem_map] at hz
      obtain ⟨k, hk2, rfl⟩ := hz
      have hk3 := List.mem_range.1 hk2
      have h1 := hsAt_bd link hf hJ.2 k hk3
      have h2 := hJ.2 k hk3
      have h3 := (okNet_iff hn).2.2 link.toNat (by omega)
      unfold haAt
      exact small_wf (by omega) (by omega)
    · rw [if_neg h, if_neg h]
      simp
  · have hV := h
    unfold hoC at h
    rw [Bool.and_eq_true] at h
    obtain ⟨hk, hj⟩ := h
    obtain ⟨hn, hf, hl0, hl1⟩ := askH_iff hk
    have hJ := okHs_iff hj
    have hD := (okNet_iff hn).2.2 link.toNat (by omega)
    have hnL := (okNet_iff hn).2.1
    have hSt : stV nT zT nL zL zF nF link y m = hsL zF nF link y m := by unfold stV; rw [if_pos hV]
    have hAr : arV nT zT nL zL zF nF link y m = haL zF nF link y (f3c zL link.toNat) m := by unfold arV; rw [if_pos hV]
    have hWs : wsV nT zT nL zL zF nF link y m = waitS y (hsL zF nF link y m) m := by unfold wsV; rw [if_pos hV]
    have hMh : mhV nT zT nL zL zF nF link y m = mostH y (hsL zF nF link y m) m m := by unfold mhV; rw [if_pos hV]
    have hle : ∀ j, j < m → hRd y j ≤ (hsL zF nF link y m).getD j 0 := fun j hj1 => by
      rw [hsL_getD _ _ _ _ hj1]
      exact (hsAt_bd link hf hJ.2 j hj1).2.2.1
    have hMt := most_held (zJ := y) (S := hsL zF nF link y m) (n := m) (fun j hj1 => by have := hJ.2 j hj1; omega)
    have hMw := most_wait hle
    have hMb := mostH_bd y (hsL zF nF link y m) m m
    rw [hSt, hAr, hWs, hMh]
    refine ⟨f3c zL link.toNat, hsEnd zF nF link y, waitS y (hsL zF nF link y m), hsL_length _ _ _ _ _, by simp [haL], hJ.1, ⟨hl0, hl1, hnL⟩, rfl, ⟨hD.2.2.2.1, hD.2.2.2.2⟩, rfl, rfl, rfl, fun k hkm => ?_, fun w h1 h2 h3 => ?_, hMw, ⟨hMb.1, by omega⟩⟩
    · have h1 := hsAt_bd link hf hJ.2 k hkm
      have h2 := hJ.2 k hkm
      have h3 := hsAt_end (zJ := y) (link := link) hf k
      have h4 := (waitS_zero hle k (by omega)).1
      have h5 := waitS_bd (zJ := y) (S := hsL zF nF link y m) (n := m) (fun j hj1 => by have := hJ.2 j hj1; omega) (fun j hj1 => hsL_bd link hf hj j hj1) k (by omega)
      rw [hsL_getD _ _ _ _ hkm]
      refine ⟨h2, ⟨h1.1, by omega, h1.2.2.1, h3⟩, ?_, rfl, ?_, ⟨h4, h5.2⟩, fun hle2 w g1 g2 g3 => ?_⟩
      · simp [haL, haAt, List.getD_eq_getElem?_getD, hkm]
      · rw [waitS, hsL_getD _ _ _ _ hkm]
      · exact iFogSeconds_clear v nT zT nL zL u nF zF link _ _ w g1 g2 hk h1.1 (by omega) hle2 (hsAt_clear hf hj k hkm)
    · have := iHeldAt_any v nT zT nL zL u nF zF link x m y (mostH y (hsL zF nF link y m) m m).1 w h1 h2 h3
      have hC : haC nT zT nL zL zF nF link y m (mostH y (hsL zF nF link y m) m m).1 = true := by
        unfold haC
        rw [hV, Bool.true_and, inR_iff]
        exact hMt.2
      unfold haV at this
      rw [if_pos hC, hC, hMt.1] at this
      exact this
end Go.Proofs.Ytlmfohjfbolhpaa