/- The chapter of acknowledgements: the reference's runs and answers. No condition. -/
import Derived.Test.YtmmmiccpimplhaaAckD
namespace Go.Proofs.Ytmmmiccpimplhaa
open Go.RowKit
set_option linter.unusedSimpArgs false
set_option linter.unusedVariables false

theorem bitsL_zero : ∀ n, bitsL 0 n = []
  | 0 => rfl
  | n + 1 => by rw [bitsL, if_neg (by simp), bitsL_zero n]
set_option maxRecDepth 100000 in
set_option maxHeartbeats 4000000 in
theorem akRun_any (N W k : Nat) (v : Value) (n : Nat) (z : List Int) (w : World) (h : IntRow .i64 1 w v n z) (hs : scB z n = true) (hN : 1 ≤ N) (hN2 : N ≤ 9) (hW : 1 ≤ W) (hW2 : W ≤ 9) (hk : k ≤ 1000) :
    Calls Try.prog 39 #[.int .i64 (N : Int), .int .i64 (W : Int), v, .int .i64 (k : Int)] w fun e w' => ∃ g, e = .returned (.pointer (some ⟨g, 0, none⟩)) ∧ w.heap.size ≤ g ∧ StA w' g N (akS N W (lfZ z n) k) ∧ Ext w w' := by
  obtain ⟨hl, hm, hwf, a, c, rfl, hnc, hcm, hcell⟩ := h
  unfold maxLen at hm
  have HS := hid hs
  have hn30 := (scB_iff hs).1
  have HC := hid hcell
  clear hwf hs hcell
  have hR0 : (w.alloc (.cells #[.slice none 0 0, .slice none 0 0, .int .i64 0, .int .i64 0, .int .i64 0] 51)).ownsRow w.heap.size 51 5 (.slice (some ⟨w.heap.size, 0, none⟩) 1 1) 1 (spC (.slice none 0 0) (.slice none 0 0) 0 0 0) :=
    World.ownsRow_lit (base := w.heap.size) (e := 51) (size := 5) w #[.slice none 0 0, .slice none 0 0, .int .i64 0, .int .i64 0, .int .i64 0] 1 (Nat.le_refl _) (by simp [maxLen]) rfl
  go_enter Try.func39, Try.ntmps39
  go_wp2_with (fail)
  have hX0 : Ext w (w.alloc (.cells #[.slice none 0 0, .slice none 0 0, .int .i64 0, .int .i64 0, .int .i64 0] 51)) := (by repeat (first | exact Ext.refl _ | assumption | refine Ext.alloc ?_ _ | refine Ext.drew ?_ | refine Ext.drewN ?_ _ | refine Ext.setCell ?_ (by first | exact Nat.le_refl _ | (simp; done) | (dsimp only; omega) | (simp only [World.size_alloc, World.size_setCell]; omega)) _ | refine Ext.trans ?_ (by assumption)))
  obtain ⟨g, hg⟩ : ∃ g, g = w.heap.size := ⟨_, rfl⟩
  rw [← hg] at hR0 ⊢
  have hgw : w.heap.size ≤ g := by omega
  clear hg
  have hS0 : StA (w.alloc (.cells #[.slice none 0 0, .slice none 0 0, .int .i64 0, .int .i64 0, .int .i64 0] 51)) g N (akS N W (lfZ z n) 0) := by
    refine ⟨_, _, hR0, ?_, ?_⟩
    · rw [show bitsL (akS N W (lfZ z n) 0).A N = [] from bitsL_zero N]
      exact World.ownsRow_nil _ _ _ _
    · rw [show bitsL (akS N W (lfZ z n) 0).K N = [] from bitsL_zero N]
      exact World.ownsRow_nil _ _ _ _
  clear hR0
  generalize w.alloc (.cells #[.slice none 0 0, .slice none 0 0, .int .i64 0, .int .i64 0, .int .i64 0] 51) = wa at *
  go_loopw [10] (fun q wr => ∃ (j : Nat), j ≤ k ∧ (akS N W (lfZ z n) j).r = j ∧ StA wr g N (akS N W (lfZ z n) j) ∧ Ext w wr)
    (fun _ wr => k - cellNat wr g 2)
  case atStart => exact ⟨0, Nat.zero_le _, rfl, hS0, hX0⟩
  case round =>
    clear hS0 hX0
    obtain ⟨j, hj, hrj, hS, hX⟩ := hrel
    have bd := akS_bd N W (lfZ z n) j
    have hst : akS N W (lfZ z n) (j + 1) = (if (akS N W (lfZ z n) j).K = 2 ^ N - 1 then akS N W (lfZ z n) j else
      (⟨(akS N W (lfZ z n) j).r + 1, (rdS (akS N W (lfZ z n) j).A (akS N W (lfZ z n) j).K (lfZ z n (akS N W (lfZ z n) j).r) W N).N, if (lfZ z n (akS N W (lfZ z n) j).r).testBit 9 = true then (akS N W (lfZ z n) j).K else (rdS (akS N W (lfZ z n) j).A (akS N W (lfZ z n) j).K (lfZ z n (akS N W (lfZ z n) j).r) W N).N, (akS N W (lfZ z n) j).s + (rdS (akS N W (lfZ z n) j).A (akS N W (lfZ z n) j).K (lfZ z n (akS N W (lfZ z n) j).r) W N).s, (akS N W (lfZ z n) j).d + (rdS (akS N W (lfZ z n) j).A (akS N W (lfZ z n) j).K (lfZ z n (akS N W (lfZ z n) j).r) W N).d⟩ : Ak)) := rfl
    have hstay := akS_stay (n := N) (w := W) (l := lfZ z n) (k := j)
    obtain ⟨X, hXe⟩ : ∃ X, X = akS N W (lfZ z n) j := ⟨_, rfl⟩
    rw [← hXe] at hrj hS bd hst hstay
    have HXE := hid hXe
    obtain ⟨r, A, K, s, d⟩ := X
    simp only at hrj bd hst hstay
    subst hrj
    obtain ⟨bd1, bd2, bd3, bd4, bd5, bd6⟩ := bd
    have b4 : N * r ≤ 9 * 1000 := Nat.mul_le_mul hN2 (by omega)
    have bs : s ≤ 9000 := by omega
    have bd' : d ≤ 9000 := by omega
    have hfull := bitsL_full bd3
    have HST := hid hst
    have HSTAY := hid hstay
    have HS2 := hid hS
    have HA2 := hid bd2
    obtain ⟨va, vk, hR, hAr, hKr⟩ := hS
    simp only at hR hAr hKr
    obtain ⟨ak, ck, rfl, hk1, hk2, _⟩ := row_shape hKr
    obtain ⟨lk, hlk⟩ : ∃ l, l = (bitsL K N).length := ⟨_, rfl⟩
    have hlk2 := bitsL_len_le K N
    rw [← hlk] at hR hfull hlk2
    have c1 : wr.cell? ⟨g, 1, none⟩ = some (.slice ak lk ck) := hR.cellAt 1 (by omega)
    have c2 : wr.cell? ⟨g, 2, none⟩ = some (.int .i64 (r : Int)) := hR.cellAt 2 (by omega)
    have f1 := hR.frozenAt 1
    have f2 := hR.frozenAt 2
    have hcn : cellNat wr g 2 = r := by unfold cellNat; rw [c2]; simp [intOf]
    have HCN := hid hcn
    have hgs : g < wr.heap.size := (hR.lt _ rfl).2
    have HB6 := hid bd6
    clear hst hstay hXe hcn hR hAr hKr hlk hk1 hk2 bd2 bd3 bd4 bd5 bd6 b4 bd1
    by_cases hrk : r < k
    · by_cases hKF : lk = N
      · have HE := hid (show akS N W (lfZ z n) k = ⟨r, A, K, s, d⟩ by
          have := HSTAY.out (hfull.1 hKF) (k - r)
          rw [show r + (k - r) = k by omega] at this
          exact this)
        clear hfull
        go_wp2_with (fail)
        go_ret
        exact ⟨g, rfl, hgw, by rw [HE.out]; exact HS2.out, hX⟩
      · have hnx := HST.out
        rw [if_neg (fun e => hKF (hfull.2 e))] at hnx
        have hLb := lfZ_bd HS.out r
        have hLe : lfZ z n r = if r < n then (z.getD r 0).toNat else 0 := rfl
        have hL0 := fun hr => ((scB_iff HS.out).2 r hr).1
        obtain ⟨L, hL⟩ : ∃ L, L = lfZ z n r := ⟨_, rfl⟩
        rw [← hL] at hnx hLb hLe
        have HNX := hid hnx
        have HL := hid hL
        have hlk3 : lk < N := by omega
        clear hnx HST HSTAY HXE HB6 hfull hL
        by_cases hrn : r < n
        · obtain ⟨b, o, rfl, hb, hcell⟩ := HC.out.resolve_left (by omega)
          have hz0 := hL0 hrn
          rw [if_pos hrn] at hLe
          have cs : wr.cell? ⟨b, o + r, none⟩ = some (.int .i64 (L : Int)) := by
            rw [(Ext.cells hX).1 _ _ hb, hcell r (by omega)]
            congr 2; omega
          clear hL0 hLe hz0 hcell
          go_wp2_with (fail)
          refine (round_any w g N W L r A K s d wr HS2.out hX hgw hN hN2 hW hW2 hLb (by omega) bs bd' HA2.out).mono ?_
          rintro e w2 ⟨rfl, hS2, hX2⟩
          rw [← HNX.out] at hS2
          have HS3 := hid hS2
          clear hS2
          go_wp2_with (fail)
          go_roundw
          case rel => exact ⟨r + 1, by omega, by rw [HNX.out], HS3.out, hX2⟩
          case measure =>
            obtain ⟨va2, vk2, hR2, _, _⟩ := HS3.out
            have hNc := hR2.cellAt 2 (by omega)
            rw [HNX.out] at hNc
            have e2 : cellNat w2 g 2 = r + 1 := by unfold cellNat; rw [hNc]; simp [intOf, spC]
            rw [HCN.out, e2]
            omega
        · rw [if_neg hrn] at hLe
          subst hLe
          clear hL0
          go_wp2_with (fail)
          refine (round_any w g N W 0 r A K s d wr HS2.out hX hgw hN hN2 hW hW2 hLb (by omega) bs bd' HA2.out).mono ?_
          rintro e w2 ⟨rfl, hS2, hX2⟩
          rw [← HNX.out] at hS2
          have HS3 := hid hS2
          clear hS2
          go_wp2_with (fail)
          go_roundw
          case rel => exact ⟨r + 1, by omega, by rw [HNX.out], HS3.out, hX2⟩
          case measure =>
            obtain ⟨va2, vk2, hR2, _, _⟩ := HS3.out
            have hNc := hR2.cellAt 2 (by omega)
            rw [HNX.out] at hNc
            have e2 : cellNat w2 g 2 = r + 1 := by unfold cellNat; rw [hNc]; simp [intOf, spC]
            rw [HCN.out, e2]
            omega
    · obtain rfl : r = k := by omega
      have HE := hid HXE.out.symm
      clear hfull
      go_wp2_with (fail)
      go_ret
      exact ⟨g, rfl, hgw, by rw [HE.out]; exact HS2.out, hX⟩


set_option maxRecDepth 100000 in
set_option maxHeartbeats 800000 in
theorem sArrivedAfter_any (N W : Int) (v : Value) (n : Nat) (z : List Int) (k : Int) (w : World) (h : IntRow .i64 1 w v n z) :
    Calls Try.prog 18 #[.int .i64 N, .int .i64 W, v, .int .i64 k] w fun e w' => ∃ v', e = .returned (.tuple #[v', .bool (askB N W z n k)]) ∧ w'.ownsRow w.heap.size 3 1 v' (arrL N W z n k).length ((arrL N W z n k).map (Value.int .i64)) ∧ Ext w w' := by
  have hh := h
  obtain ⟨hl, hm, hwf, a, c, rfl, hnc, hcm, hcell⟩ := h
  clear hwf hcell
  cases hask : askB N W z n k with
  | false =>
    rw [show arrL N W z n k = [] by unfold arrL; rw [hask]; rfl]
    have HA := hid hask
    clear hask
    go_enter Try.func18, Try.ntmps18
    go_wp2_with (go_at_call 38; refine (akAsked_any _ _ _ n z _ _ hh).mono ?_; rw [HA.out]; rintro e w' ⟨rfl, rfl⟩)
    go_ret2
    exact ⟨_, rfl, World.ownsRow_nil _ _ _ _, Ext.refl _⟩
  | true =>
    obtain ⟨N, W, k, rfl, rfl, rfl, h1, h2, h3, h4, h5, h6⟩ := askB_nat hask
    rw [show arrL N W z n k = bitsL (akS N W (lfZ z n) k).A N by unfold arrL; rw [hask, if_pos rfl, Int.toNat_natCast, Int.toNat_natCast, Int.toNat_natCast]]
    have HA := hid hask
    clear hask
    obtain ⟨X, hX⟩ : ∃ X, X = akS N W (lfZ z n) k := ⟨_, rfl⟩
    rw [← hX]
    have HX := hid hX
    clear hX
    go_enter Try.func18, Try.ntmps18
    go_wp2_with (go_at_call 38; refine (akAsked_any _ _ _ n z _ _ hh).mono ?_; rw [HA.out]; rintro e w' ⟨rfl, rfl⟩)
    refine (akRun_any N W k _ n z _ hh h6 h1 h2 h3 h4 (by omega)).mono ?_
    rw [← HX.out]
    rintro e w1 ⟨g, rfl, hgw, ⟨va, vk, hR, hAr, hKr⟩, hb1⟩
    obtain ⟨aa, ca, rfl, _, _, _⟩ := row_shape hAr
    obtain ⟨ak, ck, rfl, _, _, _⟩ := row_shape hKr
    have c0 := hR.cellAt 0 (by omega)
    simp only [spC, List.getElem?_cons_zero, List.getElem?_cons_succ] at c0
    have f0 := hR.frozenAt 0
    have hgs : g < w1.heap.size := (hR.lt _ rfl).2
    have HAR := hid hAr
    clear hAr hKr hR
    go_wp2_with (fail)
    go_ret2
    exact ⟨_, rfl, row_base HAR.out (by omega), hb1⟩

set_option maxRecDepth 100000 in
set_option maxHeartbeats 800000 in
theorem sKnownAfter_any (N W : Int) (v : Value) (n : Nat) (z : List Int) (k : Int) (w : World) (h : IntRow .i64 1 w v n z) :
    Calls Try.prog 22 #[.int .i64 N, .int .i64 W, v, .int .i64 k] w fun e w' => ∃ v', e = .returned (.tuple #[v', .bool (askB N W z n k)]) ∧ w'.ownsRow w.heap.size 3 1 v' (knL N W z n k).length ((knL N W z n k).map (Value.int .i64)) ∧ Ext w w' := by
  have hh := h
  obtain ⟨hl, hm, hwf, a, c, rfl, hnc, hcm, hcell⟩ := h
  clear hwf hcell
  cases hask : askB N W z n k with
  | false =>
    rw [show knL N W z n k = [] by unfold knL; rw [hask]; rfl]
    have HA := hid hask
    clear hask
    go_enter Try.func22, Try.ntmps22
    go_wp2_with (go_at_call 38; refine (akAsked_any _ _ _ n z _ _ hh).mono ?_; rw [HA.out]; rintro e w' ⟨rfl, rfl⟩)
    go_ret2
    exact ⟨_, rfl, World.ownsRow_nil _ _ _ _, Ext.refl _⟩
  | true =>
    obtain ⟨N, W, k, rfl, rfl, rfl, h1, h2, h3, h4, h5, h6⟩ := askB_nat hask
    rw [show knL N W z n k = bitsL (akS N W (lfZ z n) k).K N by unfold knL; rw [hask, if_pos rfl, Int.toNat_natCast, Int.toNat_natCast, Int.toNat_natCast]]
    have HA := hid hask
    clear hask
    obtain ⟨X, hX⟩ : ∃ X, X = akS N W (lfZ z n) k := ⟨_, rfl⟩
    rw [← hX]
    have HX := hid hX
    clear hX
    go_enter Try.func22, Try.ntmps22
    go_wp2_with (go_at_call 38; refine (akAsked_any _ _ _ n z _ _ hh).mono ?_; rw [HA.out]; rintro e w' ⟨rfl, rfl⟩)
    refine (akRun_any N W k _ n z _ hh h6 h1 h2 h3 h4 (by omega)).mono ?_
    rw [← HX.out]
    rintro e w1 ⟨g, rfl, hgw, ⟨va, vk, hR, hAr, hKr⟩, hb1⟩
    obtain ⟨aa, ca, rfl, _, _, _⟩ := row_shape hAr
    obtain ⟨ak, ck, rfl, _, _, _⟩ := row_shape hKr
    have c0 := hR.cellAt 1 (by omega)
    simp only [spC, List.getElem?_cons_zero, List.getElem?_cons_succ] at c0
    have f0 := hR.frozenAt 1
    have hgs : g < w1.heap.size := (hR.lt _ rfl).2
    have HAR := hid hKr
    clear hAr hKr hR
    go_wp2_with (fail)
    go_ret2
    exact ⟨_, rfl, row_base HAR.out (by omega), hb1⟩

set_option maxRecDepth 100000 in
set_option maxHeartbeats 800000 in
theorem sStandsAfter_any (N W : Int) (v : Value) (n : Nat) (z : List Int) (k : Int) (w : World) (h : IntRow .i64 1 w v n z) :
    Calls Try.prog 10 #[.int .i64 N, .int .i64 W, v, .int .i64 k] w fun e w' => e = .returned (.tuple #[.int .i64 (stV N W z n k), .bool (askB N W z n k)]) ∧ Ext w w' := by
  have hh := h
  obtain ⟨hl, hm, hwf, a, c, rfl, hnc, hcm, hcell⟩ := h
  clear hwf hcell
  cases hask : askB N W z n k with
  | false =>
    rw [show stV N W z n k = 0 by unfold stV; rw [hask]; rfl]
    have HA := hid hask
    clear hask
    go_enter Try.func10, Try.ntmps10
    go_wp2_with (go_at_call 38; refine (akAsked_any _ _ _ n z _ _ hh).mono ?_; rw [HA.out]; rintro e w' ⟨rfl, rfl⟩)
    go_ret2
    exact ⟨rfl, Ext.refl _⟩
  | true =>
    obtain ⟨N, W, k, rfl, rfl, rfl, h1, h2, h3, h4, h5, h6⟩ := askB_nat hask
    rw [show stV N W z n k = (if (akS N W (lfZ z n) k).K = 2 ^ N - 1 then 2 else if (akS N W (lfZ z n) k).A = 2 ^ N - 1 then 1 else 0) by unfold stV; rw [hask, if_pos rfl, Int.toNat_natCast, Int.toNat_natCast, Int.toNat_natCast]]
    have HA := hid hask
    have HB := akS_bd N W (lfZ z n) k
    clear hask
    obtain ⟨X, hX⟩ : ∃ X, X = akS N W (lfZ z n) k := ⟨_, rfl⟩
    rw [← hX] at HB ⊢
    have HX := hid hX
    clear hX
    obtain ⟨r, A, K, s, d⟩ := X
    obtain ⟨hb1, hb2, hb3, hb4, hb5, hb6⟩ := HB
    simp only at hb1 hb2 hb3 hb4 hb5 hb6 ⊢
    have fK := bitsL_full hb3
    have fA := bitsL_full hb2
    have hlk := bitsL_len_le K N
    have hla := bitsL_len_le A N
    obtain ⟨lk, hlk2⟩ : ∃ l, l = (bitsL K N).length := ⟨_, rfl⟩
    obtain ⟨la, hla2⟩ : ∃ l, l = (bitsL A N).length := ⟨_, rfl⟩
    rw [← hlk2] at fK hlk
    rw [← hla2] at fA hla
    have HLK := hid hlk2
    have HLA := hid hla2
    obtain ⟨res, hres⟩ : ∃ res : Int, res = if K = 2 ^ N - 1 then 2 else if A = 2 ^ N - 1 then 1 else 0 := ⟨_, rfl⟩
    rw [← hres]
    have HRES := hid (show res = if lk = N then 2 else if la = N then 1 else 0 by
      rw [hres]
      by_cases e1 : lk = N
      · rw [if_pos e1, if_pos (fK.1 e1)]
      · rw [if_neg e1, if_neg (fun e => e1 (fK.2 e))]
        by_cases e2 : la = N
        · rw [if_pos e2, if_pos (fA.1 e2)]
        · rw [if_neg e2, if_neg (fun e => e2 (fA.2 e))])
    clear hres hb1 hb2 hb3 hb4 hb5 hb6 fK fA hlk2 hla2
    go_enter Try.func10, Try.ntmps10
    go_wp2_with (go_at_call 38; refine (akAsked_any _ _ _ n z _ _ hh).mono ?_; rw [HA.out]; rintro e w' ⟨rfl, rfl⟩)
    refine (akRun_any N W k _ n z _ hh h6 h1 h2 h3 h4 (by omega)).mono ?_
    rw [← HX.out]
    rintro e w1 ⟨g, rfl, hgw, ⟨va, vk, hR, hAr, hKr⟩, hx1⟩
    simp only at hR hAr hKr
    obtain ⟨aa, ca, rfl, _, _, _⟩ := row_shape hAr
    obtain ⟨ak, ck, rfl, _, _, _⟩ := row_shape hKr
    rw [← HLK.out, ← HLA.out] at hR
    have c0 : w1.cell? ⟨g, 0, none⟩ = some (.slice aa la ca) := hR.cellAt 0 (by omega)
    have c1 : w1.cell? ⟨g, 1, none⟩ = some (.slice ak lk ck) := hR.cellAt 1 (by omega)
    have f0 := hR.frozenAt 0
    have f1 := hR.frozenAt 1
    have hgs : g < w1.heap.size := (hR.lt _ rfl).2
    clear hAr hKr hR
    by_cases e1 : lk = N
    · have hr : res = 2 := by rw [HRES.out, if_pos e1]
      subst hr
      have t1 : ((lk : Int) == (N : Int)) = true := by simp; omega
      have t1b : (lk == N) = true := by simp; omega
      clear HRES
      go_wp2_with (fail)
      go_ret2
      exact ⟨rfl, hx1⟩
    · have t1 : ((lk : Int) == (N : Int)) = false := by simp; omega
      have t1b : (lk == N) = false := by simp; omega
      by_cases e2 : la = N
      · have hr : res = 1 := by rw [HRES.out, if_neg e1, if_pos e2]
        subst hr
        have t2 : ((la : Int) == (N : Int)) = true := by simp; omega
        have t2b : (la == N) = true := by simp; omega
        clear HRES
        go_wp2_with (fail)
        go_ret2
        exact ⟨rfl, hx1⟩
      · have hr : res = 0 := by rw [HRES.out, if_neg e1, if_neg e2]
        subst hr
        have t2 : ((la : Int) == (N : Int)) = false := by simp; omega
        have t2b : (la == N) = false := by simp; omega
        clear HRES
        go_wp2_with (fail)
        go_ret2
        exact ⟨rfl, hx1⟩

end Go.Proofs.Ytmmmiccpimplhaa
