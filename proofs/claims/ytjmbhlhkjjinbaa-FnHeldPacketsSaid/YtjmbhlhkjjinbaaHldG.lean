/- The chapter of held messages: the starts of jobs. Conditions: the fogs and the jobs are valid. -/
import Derived.Test.YtjmbhlhkjjinbaaHldF
namespace Go.Proofs.Ytjmbhlhkjjinbaa
open Go.RowKit
set_option linter.unusedSimpArgs false
set_option linter.unusedVariables false



set_option maxRecDepth 100000 in
set_option maxHeartbeats 1600000 in
theorem startAfter_any (u : Value) (n : Nat) (z : List Int) (link t s : Int) (w : World) (nL : Nat) (h : IntRow .i64 3 w u n z) (HOK : Hid (okFg nL z n = true)) (ht : 0 ≤ t) (ht2 : t ≤ 1000000) (hs : 0 ≤ s) (hs2 : s ≤ 1000000) :
    Calls Try.prog 61 #[u, .int .i64 link, .int .i64 t, .int .i64 s] w fun e w' => e = .returned (.int .i64 (stF z link s n t)) ∧ Ext w w' := by
  obtain ⟨hl, hm, hwf, a, c, rfl, hnc, hcm, hcell⟩ := h
  unfold maxLen at hm
  clear hwf
  obtain ⟨V, hV⟩ : ∃ V, V = stF z link s n t := ⟨_, rfl⟩
  rw [← hV]
  have HV := hid hV
  clear hV
  go_enter Try.func61, Try.ntmps61
  go_wp2_with (fail)
  go_loopw [2, 13] (fun q i wr => ∃ (k : Nat), k ≤ n ∧ i = .int .i64 (k : Int) ∧ q = .int .i64 (stF z link s k t) ∧ Ext w wr)
    (fun _ i _ => n - (intOf i).toNat)
  case atStart => exact ⟨0, Nat.zero_le _, rfl, rfl, Ext.refl _⟩
  case round =>
    obtain ⟨k, hk, rfl, rfl, hE⟩ := hrel
    have hbd := stF_bd HOK.out link s t k hk
    by_cases hlt : k < n
    · obtain ⟨b, o, rfl, hb, hc⟩ := hcell.resolve_left (by omega)
      obtain ⟨x0, hx0⟩ : ∃ x, x = z.getD (k * 3) 0 := ⟨_, rfl⟩
      have s0 : wr.cell? ⟨b, o + k * 3, none⟩ = some (.int .i64 x0) := by rw [(Ext.cells hE).1 _ _ hb, show o + k * 3 = o + (k * 3) by omega, hc _ (by omega), hx0]
      have H0 := hid hx0
      clear hx0
      obtain ⟨x1, hx1⟩ : ∃ x, x = z.getD (k * 3 + 1) 0 := ⟨_, rfl⟩
      have s1 : wr.cell? ⟨b, o + k * 3 + 1, none⟩ = some (.int .i64 x1) := by rw [(Ext.cells hE).1 _ _ hb, show o + k * 3 + 1 = o + (k * 3 + 1) by omega, hc _ (by omega), hx1]
      have H1 := hid hx1
      clear hx1
      obtain ⟨x2, hx2⟩ : ∃ x, x = z.getD (k * 3 + 2) 0 := ⟨_, rfl⟩
      have s2 : wr.cell? ⟨b, o + k * 3 + 2, none⟩ = some (.int .i64 x2) := by rw [(Ext.cells hE).1 _ _ hb, show o + k * 3 + 2 = o + (k * 3 + 2) by omega, hc _ (by omega), hx2]
      have H2 := hid hx2
      clear hx2
      have hst : Hid (stF z link s (k + 1) t = if x0 = link ∧ stF z link s k t < x2 ∧ x1 < stF z link s k t + s then x2 else stF z link s k t) := hid (by rw [H0.out, H1.out, H2.out]; rfl)
      obtain ⟨T, hT⟩ : ∃ T, T = stF z link s k t := ⟨_, rfl⟩
      rw [← hT] at hst hbd ⊢
      have HT := hid hT
      obtain ⟨hb1, hb2⟩ := hbd
      have hT0 : 0 ≤ T := by omega
      have hT1 : T ≤ 1000000 := by omega
      clear hT hc hcell hb2
      cases he : (x0 == link) with
      | false =>
        have HST := hid (show stF z link s (k + 1) t = T by rw [hst.out, if_neg (fun hc => by simp [hc.1] at he)])
        go_wp2_with (fail)
        go_roundw
        case rel => exact ⟨k + 1, by omega, by go_num, by rw [HST.out], (by repeat (first | exact Ext.refl _ | assumption | refine Ext.alloc ?_ _ | refine Ext.drew ?_ | refine Ext.drewN ?_ _ | refine Ext.setCell ?_ (by first | exact Nat.le_refl _ | (simp; done) | (dsimp only; omega) | (simp only [World.size_alloc, World.size_setCell]; omega)) _ | refine Ext.trans ?_ (by assumption)))⟩
        case measure => simp [intOf]; omega
      | true =>
        by_cases h1 : T < x2
        · have d1 : decide (T < x2) = true := decide_eq_true h1
          by_cases h2 : x1 < T + s
          · have d2 : decide (x1 < T + s) = true := decide_eq_true h2
            have HST := hid (show stF z link s (k + 1) t = x2 by rw [hst.out, if_pos ⟨by simpa using he, h1, h2⟩])
            go_wp2_with (fail)
            go_roundw
            case rel => exact ⟨k + 1, by omega, by go_num, by rw [HST.out], (by repeat (first | exact Ext.refl _ | assumption | refine Ext.alloc ?_ _ | refine Ext.drew ?_ | refine Ext.drewN ?_ _ | refine Ext.setCell ?_ (by first | exact Nat.le_refl _ | (simp; done) | (dsimp only; omega) | (simp only [World.size_alloc, World.size_setCell]; omega)) _ | refine Ext.trans ?_ (by assumption)))⟩
            case measure => simp [intOf]; omega
          · have d2 : decide (x1 < T + s) = false := decide_eq_false h2
            have HST := hid (show stF z link s (k + 1) t = T by rw [hst.out, if_neg (fun hc => h2 hc.2.2)])
            go_wp2_with (fail)
            go_roundw
            case rel => exact ⟨k + 1, by omega, by go_num, by rw [HST.out], (by repeat (first | exact Ext.refl _ | assumption | refine Ext.alloc ?_ _ | refine Ext.drew ?_ | refine Ext.drewN ?_ _ | refine Ext.setCell ?_ (by first | exact Nat.le_refl _ | (simp; done) | (dsimp only; omega) | (simp only [World.size_alloc, World.size_setCell]; omega)) _ | refine Ext.trans ?_ (by assumption)))⟩
            case measure => simp [intOf]; omega
        · have d1 : decide (T < x2) = false := decide_eq_false h1
          have HST := hid (show stF z link s (k + 1) t = T by rw [hst.out, if_neg (fun hc => h1 hc.2.1)])
          go_wp2_with (fail)
          go_roundw
          case rel => exact ⟨k + 1, by omega, by go_num, by rw [HST.out], (by repeat (first | exact Ext.refl _ | assumption | refine Ext.alloc ?_ _ | refine Ext.drew ?_ | refine Ext.drewN ?_ _ | refine Ext.setCell ?_ (by first | exact Nat.le_refl _ | (simp; done) | (dsimp only; omega) | (simp only [World.size_alloc, World.size_setCell]; omega)) _ | refine Ext.trans ?_ (by assumption)))⟩
          case measure => simp [intOf]; omega
    · obtain rfl : k = n := by omega
      clear hcell
      go_wp2_with (fail)
      go_ret
      exact ⟨ret_int HV.out.symm, (by repeat (first | exact Ext.refl _ | assumption | refine Ext.alloc ?_ _ | refine Ext.drew ?_ | refine Ext.drewN ?_ _ | refine Ext.setCell ?_ (by first | exact Nat.le_refl _ | (simp; done) | (dsimp only; omega) | (simp only [World.size_alloc, World.size_setCell]; omega)) _ | refine Ext.trans ?_ (by assumption)))⟩


set_option maxRecDepth 100000 in
set_option maxHeartbeats 1600000 in
theorem fgStart_any (u : Value) (n : Nat) (z : List Int) (link t s : Int) (w : World) (nL : Nat) (h : IntRow .i64 3 w u n z) (HOK : Hid (okFg nL z n = true)) (ht : 0 ≤ t) (ht2 : t ≤ 1000000) (hs : 0 ≤ s) (hs2 : s ≤ 1000000) :
    Calls Try.prog 77 #[u, .int .i64 link, .int .i64 t, .int .i64 s] w fun e w' => e = .returned (.int .i64 (stF z link s n t)) ∧ Ext w w' := by
  obtain ⟨hl, hm, hwf, a, c, rfl, hnc, hcm, hcell⟩ := h
  unfold maxLen at hm
  clear hwf
  obtain ⟨V, hV⟩ : ∃ V, V = stF z link s n t := ⟨_, rfl⟩
  rw [← hV]
  have HV := hid hV
  clear hV
  go_enter Try.func77, Try.ntmps77
  go_wp2_with (fail)
  go_loopw [2, 13] (fun q i wr => ∃ (k : Nat), k ≤ n ∧ i = .int .i64 (k : Int) ∧ q = .int .i64 (stF z link s k t) ∧ Ext w wr)
    (fun _ i _ => n - (intOf i).toNat)
  case atStart => exact ⟨0, Nat.zero_le _, rfl, rfl, Ext.refl _⟩
  case round =>
    obtain ⟨k, hk, rfl, rfl, hE⟩ := hrel
    have hbd := stF_bd HOK.out link s t k hk
    by_cases hlt : k < n
    · obtain ⟨b, o, rfl, hb, hc⟩ := hcell.resolve_left (by omega)
      obtain ⟨x0, hx0⟩ : ∃ x, x = z.getD (k * 3) 0 := ⟨_, rfl⟩
      have s0 : wr.cell? ⟨b, o + k * 3, none⟩ = some (.int .i64 x0) := by rw [(Ext.cells hE).1 _ _ hb, show o + k * 3 = o + (k * 3) by omega, hc _ (by omega), hx0]
      have H0 := hid hx0
      clear hx0
      obtain ⟨x1, hx1⟩ : ∃ x, x = z.getD (k * 3 + 1) 0 := ⟨_, rfl⟩
      have s1 : wr.cell? ⟨b, o + k * 3 + 1, none⟩ = some (.int .i64 x1) := by rw [(Ext.cells hE).1 _ _ hb, show o + k * 3 + 1 = o + (k * 3 + 1) by omega, hc _ (by omega), hx1]
      have H1 := hid hx1
      clear hx1
      obtain ⟨x2, hx2⟩ : ∃ x, x = z.getD (k * 3 + 2) 0 := ⟨_, rfl⟩
      have s2 : wr.cell? ⟨b, o + k * 3 + 2, none⟩ = some (.int .i64 x2) := by rw [(Ext.cells hE).1 _ _ hb, show o + k * 3 + 2 = o + (k * 3 + 2) by omega, hc _ (by omega), hx2]
      have H2 := hid hx2
      clear hx2
      have hst : Hid (stF z link s (k + 1) t = if x0 = link ∧ stF z link s k t < x2 ∧ x1 < stF z link s k t + s then x2 else stF z link s k t) := hid (by rw [H0.out, H1.out, H2.out]; rfl)
      obtain ⟨T, hT⟩ : ∃ T, T = stF z link s k t := ⟨_, rfl⟩
      rw [← hT] at hst hbd ⊢
      have HT := hid hT
      obtain ⟨hb1, hb2⟩ := hbd
      have hT0 : 0 ≤ T := by omega
      have hT1 : T ≤ 1000000 := by omega
      clear hT hc hcell hb2
      cases he : (x0 == link) with
      | false =>
        have HST := hid (show stF z link s (k + 1) t = T by rw [hst.out, if_neg (fun hc => by simp [hc.1] at he)])
        go_wp2_with (fail)
        go_roundw
        case rel => exact ⟨k + 1, by omega, by go_num, by rw [HST.out], (by repeat (first | exact Ext.refl _ | assumption | refine Ext.alloc ?_ _ | refine Ext.drew ?_ | refine Ext.drewN ?_ _ | refine Ext.setCell ?_ (by first | exact Nat.le_refl _ | (simp; done) | (dsimp only; omega) | (simp only [World.size_alloc, World.size_setCell]; omega)) _ | refine Ext.trans ?_ (by assumption)))⟩
        case measure => simp [intOf]; omega
      | true =>
        by_cases h1 : T < x2
        · have d1 : decide (T < x2) = true := decide_eq_true h1
          by_cases h2 : x1 < T + s
          · have d2 : decide (x1 < T + s) = true := decide_eq_true h2
            have HST := hid (show stF z link s (k + 1) t = x2 by rw [hst.out, if_pos ⟨by simpa using he, h1, h2⟩])
            go_wp2_with (fail)
            go_roundw
            case rel => exact ⟨k + 1, by omega, by go_num, by rw [HST.out], (by repeat (first | exact Ext.refl _ | assumption | refine Ext.alloc ?_ _ | refine Ext.drew ?_ | refine Ext.drewN ?_ _ | refine Ext.setCell ?_ (by first | exact Nat.le_refl _ | (simp; done) | (dsimp only; omega) | (simp only [World.size_alloc, World.size_setCell]; omega)) _ | refine Ext.trans ?_ (by assumption)))⟩
            case measure => simp [intOf]; omega
          · have d2 : decide (x1 < T + s) = false := decide_eq_false h2
            have HST := hid (show stF z link s (k + 1) t = T by rw [hst.out, if_neg (fun hc => h2 hc.2.2)])
            go_wp2_with (fail)
            go_roundw
            case rel => exact ⟨k + 1, by omega, by go_num, by rw [HST.out], (by repeat (first | exact Ext.refl _ | assumption | refine Ext.alloc ?_ _ | refine Ext.drew ?_ | refine Ext.drewN ?_ _ | refine Ext.setCell ?_ (by first | exact Nat.le_refl _ | (simp; done) | (dsimp only; omega) | (simp only [World.size_alloc, World.size_setCell]; omega)) _ | refine Ext.trans ?_ (by assumption)))⟩
            case measure => simp [intOf]; omega
        · have d1 : decide (T < x2) = false := decide_eq_false h1
          have HST := hid (show stF z link s (k + 1) t = T by rw [hst.out, if_neg (fun hc => h1 hc.2.1)])
          go_wp2_with (fail)
          go_roundw
          case rel => exact ⟨k + 1, by omega, by go_num, by rw [HST.out], (by repeat (first | exact Ext.refl _ | assumption | refine Ext.alloc ?_ _ | refine Ext.drew ?_ | refine Ext.drewN ?_ _ | refine Ext.setCell ?_ (by first | exact Nat.le_refl _ | (simp; done) | (dsimp only; omega) | (simp only [World.size_alloc, World.size_setCell]; omega)) _ | refine Ext.trans ?_ (by assumption)))⟩
          case measure => simp [intOf]; omega
    · obtain rfl : k = n := by omega
      clear hcell
      go_wp2_with (fail)
      go_ret
      exact ⟨ret_int HV.out.symm, (by repeat (first | exact Ext.refl _ | assumption | refine Ext.alloc ?_ _ | refine Ext.drew ?_ | refine Ext.drewN ?_ _ | refine Ext.setCell ?_ (by first | exact Nat.le_refl _ | (simp; done) | (dsimp only; omega) | (simp only [World.size_alloc, World.size_setCell]; omega)) _ | refine Ext.trans ?_ (by assumption)))⟩


theorem okHs_iff {y : List Int} {m : Nat} (h : okHs y m = true) : m ≤ 20 ∧ ∀ j, j < m → 0 ≤ hRd y j ∧ hRd y j ≤ 10000 ∧ 1 ≤ hCt y j ∧ hCt y j ≤ 80 := by
  unfold okHs at h
  rw [Bool.and_eq_true, decide_eq_true_eq] at h
  refine ⟨h.1, fun j hj => ?_⟩
  have := allB_get h.2 j hj
  unfold hjAt hjB at this
  rw [Bool.and_eq_true, Bool.and_eq_true, inR_iff, inR_iff] at this
  omega
theorem hsL_map_getD {zF : List Int} {nF : Nat} {link : Int} {zJ : List Int} {m j : Nat} (h : j < m) : ((hsL zF nF link zJ m).map (Value.int .i64))[j]? = some (.int .i64 (hsAt zF nF link zJ j)) := by
  rw [map_getD (by rw [hsL_length]; exact h), hsL_getD _ _ _ _ h]
theorem int_snoc (l : List Int) (x : Int) : (l ++ [x]).map (Value.int .i64) = l.map (Value.int .i64) ++ [Value.int .i64 x] := by simp

set_option maxRecDepth 100000 in
set_option maxHeartbeats 400000 in
theorem l1Most_any (a b : Int) (w : World) : Calls Try.prog 69 #[.int .i64 a, .int .i64 b] w fun e w' => e = .returned (.int .i64 (mxI a b)) ∧ w = w' := by
  unfold mxI
  by_cases h : b < a
  · rw [if_pos h]
    go_enter Try.func69, Try.ntmps69
    go_wp2
    go_ret
    exact ⟨rfl, rfl⟩
  · rw [if_neg h]
    go_enter Try.func69, Try.ntmps69
    go_wp2
    go_ret
    exact ⟨rfl, rfl⟩


set_option maxRecDepth 100000 in
set_option maxHeartbeats 3200000 in
theorem hoStarts_any (u : Value) (nF : Nat) (zF : List Int) (link : Int) (x : Value) (m : Nat) (y : List Int) (w : World) (nL : Nat) (hF : IntRow .i64 3 w u nF zF) (hJ : IntRow .i64 2 w x m y) (HOK : Hid (okFg nL zF nF = true)) (HJ : Hid (okHs y m = true)) :
    Calls Try.prog 59 #[u, .int .i64 link, x] w fun e w' => ∃ v', e = .returned v' ∧ w'.ownsRow w.heap.size 3 1 v' m ((hsL zF nF link y m).map (Value.int .i64)) ∧ Ext w w' := by
  obtain ⟨i0, hi, hz0, hz1, hz2⟩ := info_parts info_Int
  have hF0 := hF
  obtain ⟨hm20, hjs⟩ := okHs_iff HJ.out
  have HJS := hid hjs
  obtain ⟨_, _, _, aF, cF, rfl, _, _, _⟩ := hF
  obtain ⟨hl, hm, hwf, a, c, rfl, hnc, hcm, hcell⟩ := hJ
  unfold maxLen at hm
  clear hwf hjs
  go_enter Try.func59, Try.ntmps59
  go_wp2_with (fail)
  go_loopw [7, 8, 15] (fun q7 q8 i wr => ∃ (k : Nat), k ≤ m ∧ i = .int .i64 (k : Int) ∧ q8 = .int .i64 (hsEnd zF nF link y k) ∧ wr.ownsRow w.heap.size 3 1 q7 k ((hsL zF nF link y k).map (Value.int .i64)) ∧ Ext w wr)
    (fun _ _ i _ => m - (intOf i).toNat)
  case atStart => exact ⟨0, Nat.zero_le _, rfl, rfl, World.ownsRow_nil _ _ _ _, Ext.refl _⟩
  case round =>
    obtain ⟨k, hk, rfl, rfl, hrow, hE⟩ := hrel
    by_cases hlt : k < m
    · obtain ⟨b, o, rfl, hb, hc⟩ := hcell.resolve_left (by omega)
      obtain ⟨z, hz⟩ : ∃ z, z = y := ⟨_, rfl⟩
      rw [← hz] at hc
      obtain ⟨x0, hx0⟩ : ∃ x, x = z.getD (k * 2) 0 := ⟨_, rfl⟩
      have s0 : wr.cell? ⟨b, o + k * 2, none⟩ = some (.int .i64 x0) := by rw [(Ext.cells hE).1 _ _ hb, show o + k * 2 = o + (k * 2) by omega, hc _ (by omega), hx0]
      have H0 := hid hx0
      clear hx0
      obtain ⟨x1, hx1⟩ : ∃ x, x = z.getD (k * 2 + 1) 0 := ⟨_, rfl⟩
      have s1 : wr.cell? ⟨b, o + k * 2 + 1, none⟩ = some (.int .i64 x1) := by rw [(Ext.cells hE).1 _ _ hb, show o + k * 2 + 1 = o + (k * 2 + 1) by omega, hc _ (by omega), hx1]
      have H1 := hid hx1
      clear hx1
      have hjk := HJS.out k hlt
      rw [show hRd y k = x0 by rw [H0.out, hz]; rfl, show hCt y k = x1 by rw [H1.out, hz]; rfl] at hjk
      obtain ⟨j1, j2, j3, j4⟩ := hjk
      obtain ⟨E, hEe⟩ : ∃ E, E = hsEnd zF nF link y k := ⟨_, rfl⟩
      have hEb := hsEnd_bd link HOK.out HJS.out k hk
      have hAt := hid (show hsAt zF nF link y k = stF zF link (x1 * 10) nF (mxI x0 E) by rw [hEe, H0.out, H1.out, hz]; rfl)
      have hNx := hid (show hsEnd zF nF link y (k + 1) = hsAt zF nF link y k + x1 * 10 by rw [H1.out, hz]; rfl)
      have hAb := hsAt_bd link HOK.out HJS.out k hlt
      rw [← hEe] at hEb ⊢
      obtain ⟨A, hA⟩ : ∃ A, A = hsAt zF nF link y k := ⟨_, rfl⟩
      rw [← hA] at hAt hNx hAb
      obtain ⟨hA1, hA2, _, _⟩ := hAb
      obtain ⟨hE1, hE2⟩ := hEb
      have hmx := mxI_bd x0 E
      obtain ⟨X, hX⟩ : ∃ X, X = mxI x0 E := ⟨_, rfl⟩
      rw [← hX] at hAt hmx
      have HX := hid hX
      have HA := hid hA
      have HE := hid hEe
      have hX0 : 0 ≤ X := by omega
      have hX1 : X ≤ 1000000 := by omega
      clear hc hcell hz hEe hA hX hmx
      go_wp2_with (fail)
      refine (l1Most_any _ _ _).mono ?_
      rw [← HX.out]
      rintro e w' ⟨rfl, rfl⟩
      go_wp2_with (fail)
      refine (fgStart_any _ nF zF _ _ _ _ nL (hF0.ext (by repeat (first | exact Ext.refl _ | assumption | refine Ext.alloc ?_ _ | refine Ext.drew ?_ | refine Ext.drewN ?_ _ | refine Ext.setCell ?_ (by first | exact Nat.le_refl _ | (simp; done) | (dsimp only; omega) | (simp only [World.size_alloc, World.size_setCell]; omega)) _ | refine Ext.trans ?_ (by assumption)))) HOK hX0 hX1 (by omega) (by omega)).mono ?_
      rw [← hAt.out]
      rintro e w5 ⟨rfl, hb5⟩
      have hE5 : Ext w w5 := (by repeat (first | exact Ext.refl _ | assumption | refine Ext.alloc ?_ _ | refine Ext.drew ?_ | refine Ext.drewN ?_ _ | refine Ext.setCell ?_ (by first | exact Nat.le_refl _ | (simp; done) | (dsimp only; omega) | (simp only [World.size_alloc, World.size_setCell]; omega)) _ | refine Ext.trans ?_ (by assumption)))
      have hrow5 := row_ext (hrow.alloc _) hb5
      have hsz5 := hE5.size
      clear hb5 hrow hE s0 s1
      go_wp2_with (first | (at_builtin; refine wpList_append_own _ rfl _ _ 32 rfl w.heap.size 3 i0 _ _ _ Try.underlying32 hi hz0 hz1 hz2 rfl (by decide) _ _ _ rfl (hrow5.alloc _) _ 1 1 [.int .i64 A] rfl rfl (cell_new1 _ _ _ _ (by simp)) (fun x hx => by simp at hx; subst hx; rfl) (by unfold maxLen; omega) (by omega) (by simp; omega) ?_; intro v' w3 hown' hgrow' hnil'))
      go_roundw
      case rel =>
        refine ⟨k + 1, by omega, by go_num, by rw [hNx.out], ?_, ext_append ((by repeat (first | exact Ext.refl _ | assumption | refine Ext.alloc ?_ _ | refine Ext.drew ?_ | refine Ext.drewN ?_ _ | refine Ext.setCell ?_ (by first | exact Nat.le_refl _ | (simp; done) | (dsimp only; omega) | (simp only [World.size_alloc, World.size_setCell]; omega)) _ | refine Ext.trans ?_ (by assumption))) : Ext w _) (hrow5.alloc _) (Nat.le_refl _) hgrow'⟩
        rw [hsL_succ, int_snoc, ← HA.out]
        exact hown'
      case measure => simp [intOf]; omega
    · obtain rfl : k = m := by omega
      clear hcell
      go_wp2_with (fail)
      go_ret
      exact ⟨_, rfl, hrow, hE⟩


set_option maxRecDepth 100000 in
set_option maxHeartbeats 3200000 in
theorem holdStarts_any (u : Value) (nF : Nat) (zF : List Int) (link : Int) (x : Value) (m : Nat) (y : List Int) (w : World) (nL : Nat) (hF : IntRow .i64 3 w u nF zF) (hJ : IntRow .i64 2 w x m y) (HOK : Hid (okFg nL zF nF = true)) (HJ : Hid (okHs y m = true)) :
    Calls Try.prog 33 #[u, .int .i64 link, x] w fun e w' => ∃ v', e = .returned v' ∧ w'.ownsRow w.heap.size 3 1 v' m ((hsL zF nF link y m).map (Value.int .i64)) ∧ Ext w w' := by
  obtain ⟨i0, hi, hz0, hz1, hz2⟩ := info_parts info_Int
  have hF0 := hF
  obtain ⟨hm20, hjs⟩ := okHs_iff HJ.out
  have HJS := hid hjs
  obtain ⟨_, _, _, aF, cF, rfl, _, _, _⟩ := hF
  obtain ⟨hl, hm, hwf, a, c, rfl, hnc, hcm, hcell⟩ := hJ
  unfold maxLen at hm
  clear hwf hjs
  go_enter Try.func33, Try.ntmps33
  go_wp2_with (first | (at_make; refine wpList_make_full _ rfl _ _ 32 rfl w.heap.size 3 i0 _ 1 Try.underlying32 hi hz0 hz1 .i64 .i64 _ _ m rfl rfl rfl rfl (by rw [hz2]; omega) (by unfold maxLen; omega) (Nat.le_refl _) ?_; intro w1 hown hgrow))
  go_loopw [8, 16] (fun q8 i wr => ∃ (k : Nat) (xs : List Value), k ≤ m ∧ i = .int .i64 (k : Int) ∧ q8 = .int .i64 (hsEnd zF nF link y k) ∧ wr.ownsRow w.heap.size 3 1 (.slice (some ⟨w.heap.size, 0, none⟩) m m) m xs ∧ (∀ j, j < k → xs[j]? = ((hsL zF nF link y m).map (Value.int .i64))[j]?) ∧ Ext w wr)
    (fun _ i _ => m - (intOf i).toNat)
  case atStart => exact ⟨0, _, Nat.zero_le _, rfl, rfl, hown, by simp, (Ext.refl _).of_grown hgrow⟩
  case round =>
    obtain ⟨k, xs, hk, rfl, rfl, hrow, hpre, hE⟩ := hrel
    have HP := hid hpre
    clear hown hgrow hpre
    by_cases hlt : k < m
    · obtain ⟨b, o, rfl, hb, hc⟩ := hcell.resolve_left (by omega)
      obtain ⟨z, hz⟩ : ∃ z, z = y := ⟨_, rfl⟩
      rw [← hz] at hc
      obtain ⟨x0, hx0⟩ : ∃ x, x = z.getD (k * 2) 0 := ⟨_, rfl⟩
      have s0 : wr.cell? ⟨b, o + k * 2, none⟩ = some (.int .i64 x0) := by rw [(Ext.cells hE).1 _ _ hb, show o + k * 2 = o + (k * 2) by omega, hc _ (by omega), hx0]
      have H0 := hid hx0
      clear hx0
      obtain ⟨x1, hx1⟩ : ∃ x, x = z.getD (k * 2 + 1) 0 := ⟨_, rfl⟩
      have s1 : wr.cell? ⟨b, o + k * 2 + 1, none⟩ = some (.int .i64 x1) := by rw [(Ext.cells hE).1 _ _ hb, show o + k * 2 + 1 = o + (k * 2 + 1) by omega, hc _ (by omega), hx1]
      have H1 := hid hx1
      clear hx1
      have hjk := HJS.out k hlt
      rw [show hRd y k = x0 by rw [H0.out, hz]; rfl, show hCt y k = x1 by rw [H1.out, hz]; rfl] at hjk
      obtain ⟨j1, j2, j3, j4⟩ := hjk
      obtain ⟨E, hEe⟩ : ∃ E, E = hsEnd zF nF link y k := ⟨_, rfl⟩
      have hEb := hsEnd_bd link HOK.out HJS.out k hk
      have hAt := hid (show hsAt zF nF link y k = stF zF link (x1 * 10) nF (mxI x0 E) by rw [hEe, H0.out, H1.out, hz]; rfl)
      have hNx := hid (show hsEnd zF nF link y (k + 1) = hsAt zF nF link y k + x1 * 10 by rw [H1.out, hz]; rfl)
      have hAb := hsAt_bd link HOK.out HJS.out k hlt
      rw [← hEe] at hEb ⊢
      obtain ⟨A, hA⟩ : ∃ A, A = hsAt zF nF link y k := ⟨_, rfl⟩
      rw [← hA] at hAt hNx hAb
      obtain ⟨hA1, hA2, _, _⟩ := hAb
      obtain ⟨hE1, hE2⟩ := hEb
      have hmx := mxI_bd x0 E
      obtain ⟨X, hX⟩ : ∃ X, X = mxI x0 E := ⟨_, rfl⟩
      rw [← hX] at hAt hmx
      have HX := hid hX
      have HA := hid hA
      have HE := hid hEe
      have hX0 : 0 ≤ X := by omega
      have hX1 : X ≤ 1000000 := by omega
      clear hc hcell hz hEe hA hX hmx
      have hsw := hE.size
      have hmy := hid (show ∀ q, q = X → A = stF zF link (x1 * 10) nF q by intro q hq; rw [hq]; exact hAt.out)
      by_cases hEx : E < x0
      · have hXv : x0 = X := by rw [HX.out]; unfold mxI; split <;> omega
        have hAq := hid (hmy.out _ hXv)
        clear hXv
        go_wp2_with (fail)
        refine (startAfter_any _ nF zF _ _ _ _ nL (hF0.ext (by repeat (first | exact Ext.refl _ | assumption | refine Ext.alloc ?_ _ | refine Ext.drew ?_ | refine Ext.drewN ?_ _ | refine Ext.setCell ?_ (by first | exact Nat.le_refl _ | (simp; done) | (dsimp only; omega) | (simp only [World.size_alloc, World.size_setCell]; omega)) _ | refine Ext.trans ?_ (by assumption)))) HOK (by omega) (by omega) (by omega) (by omega)).mono ?_
        rw [← hAq.out]
        rintro e w5 ⟨rfl, hb5⟩
        have hE5 : Ext w w5 := (by repeat (first | exact Ext.refl _ | assumption | refine Ext.alloc ?_ _ | refine Ext.drew ?_ | refine Ext.drewN ?_ _ | refine Ext.setCell ?_ (by first | exact Nat.le_refl _ | (simp; done) | (dsimp only; omega) | (simp only [World.size_alloc, World.size_setCell]; omega)) _ | refine Ext.trans ?_ (by assumption)))
        have hrow5 := row_ext (hrow.alloc _) hb5
        have p1 : w5.cell? ⟨wr.heap.size, 1, none⟩ = some (.int .i64 x1) := by rw [(Ext.cells hb5).1 _ _ (by simp)]; simp [go_sem]
        have hp : wr.heap.size < w5.heap.size := by have := hb5.size; simp at this; omega
        obtain ⟨gx, hgx⟩ : ∃ g, g = wr.heap.size := ⟨_, rfl⟩
        rw [← hgx] at p1 hp ⊢
        have hgl : w.heap.size < wr.heap.size := (hrow.lt w.heap.size rfl).2
        have hgw : w.heap.size + 1 ≤ gx := by rw [hgx]; exact hgl
        obtain ⟨u0, c0, d0⟩ := row_cell hrow5 k (by omega)
        have f0 := hrow5.frozenAt k
        have hsw5 := hE5.size
        have q0 := hrow5.stored k (.int .i64 A)
        have r0 := q0.1.cellAt k (by omega)
        rw [List.getElem?_set_self (by rw [hrow5.1]; omega)] at r0
        clear hb5 hrow hE s0 s1 hgx hsw
        go_wp2_with (fail)
        go_quiet (fail)
        go_wp2_with (fail)
        go_roundw
        case rel =>
          refine ⟨k + 1, _, by omega, by go_num, by rw [hNx.out], row_ext q0.1 ((by repeat (first | exact Ext.refl _ | assumption | refine Ext.alloc ?_ _ | refine Ext.drew ?_ | refine Ext.drewN ?_ _ | refine Ext.setCell ?_ (by first | exact Nat.le_refl _ | (simp; done) | (dsimp only; omega) | (simp only [World.size_alloc, World.size_setCell]; omega)) _ | refine Ext.trans ?_ (by assumption))) : Ext (w5.setCell ⟨w.heap.size, k, none⟩ (.int .i64 A)) _), fun j hj => ?_, (hE5.setCell (Nat.le_refl _) _).drewN _⟩
          by_cases ej : k = j
          · subst ej
            rw [List.getElem?_set_self (by rw [hrow5.1]; omega), hsL_map_getD hlt, HA.out]
          · rw [List.getElem?_set_ne ej]
            exact HP.out j (by omega)
        case measure => simp [intOf]; omega
      · have hXv : E = X := by rw [HX.out]; unfold mxI; split <;> omega
        have hAq := hid (hmy.out _ hXv)
        clear hXv
        go_wp2_with (fail)
        refine (startAfter_any _ nF zF _ _ _ _ nL (hF0.ext (by repeat (first | exact Ext.refl _ | assumption | refine Ext.alloc ?_ _ | refine Ext.drew ?_ | refine Ext.drewN ?_ _ | refine Ext.setCell ?_ (by first | exact Nat.le_refl _ | (simp; done) | (dsimp only; omega) | (simp only [World.size_alloc, World.size_setCell]; omega)) _ | refine Ext.trans ?_ (by assumption)))) HOK (by omega) (by omega) (by omega) (by omega)).mono ?_
        rw [← hAq.out]
        rintro e w5 ⟨rfl, hb5⟩
        have hE5 : Ext w w5 := (by repeat (first | exact Ext.refl _ | assumption | refine Ext.alloc ?_ _ | refine Ext.drew ?_ | refine Ext.drewN ?_ _ | refine Ext.setCell ?_ (by first | exact Nat.le_refl _ | (simp; done) | (dsimp only; omega) | (simp only [World.size_alloc, World.size_setCell]; omega)) _ | refine Ext.trans ?_ (by assumption)))
        have hrow5 := row_ext (hrow.alloc _) hb5
        have p1 : w5.cell? ⟨wr.heap.size, 1, none⟩ = some (.int .i64 x1) := by rw [(Ext.cells hb5).1 _ _ (by simp)]; simp [go_sem]
        have hp : wr.heap.size < w5.heap.size := by have := hb5.size; simp at this; omega
        obtain ⟨gx, hgx⟩ : ∃ g, g = wr.heap.size := ⟨_, rfl⟩
        rw [← hgx] at p1 hp ⊢
        have hgl : w.heap.size < wr.heap.size := (hrow.lt w.heap.size rfl).2
        have hgw : w.heap.size + 1 ≤ gx := by rw [hgx]; exact hgl
        obtain ⟨u0, c0, d0⟩ := row_cell hrow5 k (by omega)
        have f0 := hrow5.frozenAt k
        have hsw5 := hE5.size
        have q0 := hrow5.stored k (.int .i64 A)
        have r0 := q0.1.cellAt k (by omega)
        rw [List.getElem?_set_self (by rw [hrow5.1]; omega)] at r0
        clear hb5 hrow hE s0 s1 hgx hsw
        go_wp2_with (fail)
        go_quiet (fail)
        go_wp2_with (fail)
        go_roundw
        case rel =>
          refine ⟨k + 1, _, by omega, by go_num, by rw [hNx.out], row_ext q0.1 ((by repeat (first | exact Ext.refl _ | assumption | refine Ext.alloc ?_ _ | refine Ext.drew ?_ | refine Ext.drewN ?_ _ | refine Ext.setCell ?_ (by first | exact Nat.le_refl _ | (simp; done) | (dsimp only; omega) | (simp only [World.size_alloc, World.size_setCell]; omega)) _ | refine Ext.trans ?_ (by assumption))) : Ext (w5.setCell ⟨w.heap.size, k, none⟩ (.int .i64 A)) _), fun j hj => ?_, (hE5.setCell (Nat.le_refl _) _).drewN _⟩
          by_cases ej : k = j
          · subst ej
            rw [List.getElem?_set_self (by rw [hrow5.1]; omega), hsL_map_getD hlt, HA.out]
          · rw [List.getElem?_set_ne ej]
            exact HP.out j (by omega)
        case measure => simp [intOf]; omega
    · obtain rfl : k = m := by omega
      have e1 : xs = (hsL zF nF link y k).map (Value.int .i64) := list_full (m := k) (by simpa using hrow.1) (hsL_length _ _ _ _ _) HP.out
      have E1 := hid e1
      clear e1 hcell
      go_wp2_with (fail)
      go_ret
      exact ⟨_, rfl, by rw [← E1.out]; exact hrow, hE⟩

end Go.Proofs.Ytjmbhlhkjjinbaa