/- What the reference draws for the laws of shifts. Condition: the code's length. -/
import Derived.Test.YtedkffdkhnfoiaaDoorRosF
import Derived.Test.YtedkffdkhnfoiaaDoorCurC
import Derived.Handy
namespace Go.Proofs.YtedkffdkhnfoiaaDoor
open Go.RowKit
set_option linter.unusedSimpArgs false
set_option linter.unusedVariables false

set_option maxHeartbeats 400000 in
theorem l1Least_any (a b : Int) (w : World) : Calls Tryd.prog 66 #[.int .i64 a, .int .i64 b] w fun e w' => e = .returned (.int .i64 (min a b)) ∧ w = w' := by
  go_enter Tryd.func66, Tryd.ntmps66
  go_wp2
  all_goals (go_ret; refine ⟨ret_int ?_, rfl⟩)
  all_goals first | rw [Int.min_eq_left (by omega)] | rw [Int.min_eq_right (by omega)]
theorem _root_.Go.World.grownBy.andThenE {w w1 w2 : World} {r : Option Nat} (g : w.grownBy w1 r) (e : Ext w1 w2) : w.grownBy w2 r := World.grownBy.trans g (e.grown.but r)

set_option maxRecDepth 100000 in
set_option maxHeartbeats 4000000 in
theorem shiftsS {w : World} {B : Nat} {vc : Value} {n : Nat} {zc : List Int} {q : Nat} (h : CS w B vc n zc q) (hq : q ≤ 100000000000) :
    Calls Tryd.prog 53 #[.pointer (some ⟨B, 0, none⟩)] w fun e w' => ∃ (v : Value) (m : Nat) (zs : List Int) (q' : Nat), e = .returned v ∧ w'.ownsRow w.heap.size 42 3 v m (zs.map (Value.int .i64)) ∧ m ≤ 60 ∧ (∀ z ∈ zs, (Lit.int .i64 z).wf = true) ∧ q' ≤ q + 3000 ∧ CS w' B vc n zc q' ∧ w.grownBy w' (some B) := by
  obtain ⟨i0, hi, hz0, hz1, hz2⟩ := info_parts info_Shift
  have hBs := h.size
  go_enter Tryd.func53, Tryd.ntmps53
  go_wp2_with (fail)
  refine (pickS 10 h (by omega)).mono ?_
  rintro e w1 ⟨x1, q1, rfl, hx1, _, hx1', hq1, hq1', hc1, hg1⟩
  have hx1'' := hx1' (by omega)
  go_wp2_with (fail)
  refine (oneS 20 hc1 (by omega)).mono ?_
  rintro e w2 ⟨o2, q2, rfl, hq2, hq2', hc2, hg2⟩
  have hg02 := World.grownBy.trans hg1 hg2
  clear hc1 hg1 hg2 h
  go_upto_if 14 with (fail)
  go_cut [4] from 11 to 15 (fun s4 wx => ∃ (N : Nat), s4 = .int .i64 (N : Int) ∧ N ≤ 60 ∧ CS wx B vc n zc q2 ∧ w.grownBy wx (some B))
  case first =>
    cases o2 with
    | false =>
      go_wp2_with (fail)
      go_meet
      obtain ⟨k, rfl⟩ := Int.eq_ofNat_of_zero_le hx1
      exact ⟨k, rfl, by omega, hc2, hg02⟩
    | true =>
      go_wp2_with (fail)
      go_meet
      exact ⟨60, rfl, by omega, hc2, hg02⟩
  case rest =>
    obtain ⟨N, rfl, hN, hc3, hg3⟩ := hcut
    clear hc2 hg02
    go_wp2_with (fail)
    refine (amongL [40, 100, 160] hc3 (by omega) rfl (by simp) (by simp) rfl (by intro z hz; simp at hz; omega)).mono ?_
    rintro e w4 ⟨mo, q4, rfl, hmo, hq4, hq4', hc4, hg4⟩
    replace hmo : 40 ≤ mo ∧ mo ≤ 160 := by simp at hmo; omega
    obtain ⟨hmo1, hmo2⟩ := hmo
    have hg04 := World.grownBy.trans hg3 hg4
    clear hc3 hg3 hg4
    go_wp2_with (fail)
    go_loopw [3, 6] (fun s3 s6 wr => ∃ (m t : Nat) (zs : List Int) (qr : Nat), m ≤ N ∧ t ≤ 300 ∧ s6 = .int .i64 (t : Int) ∧ wr.ownsRow w.heap.size 42 3 s3 m (zs.map (Value.int .i64)) ∧ (∀ z ∈ zs, (Lit.int .i64 z).wf = true) ∧ qr ≤ q + 10 + 8 * t ∧ CS wr B vc n zc qr ∧ w.grownBy wr (some B))
      (fun _ s6 _ => 300 - (intOf s6).toNat)
    case atStart => exact ⟨0, 0, [], q4, Nat.zero_le _, by omega, rfl, World.ownsRow_nil _ _ _ _, by simp, by omega, hc4, hg04⟩
    case round =>
      obtain ⟨m, t, zs, qr, hm, ht, rfl, hrow, hzw, hqr, hcr, hgr⟩ := hrel
      clear hc4 hg04
      obtain ⟨a3, c3, rfl, hnc, hcm, hown⟩ := row_shape hrow
      have HROW := hid hrow
      have hl3 : zs.length = m * 3 := by simpa using hrow.1
      have hfar : ∀ k, (Value.slice a3 m c3).ownBlock = some k → B < k ∧ w.heap.size ≤ k := fun k hk => by have := (hrow.lt k hk).1; omega
      have HFAR := hid hfar
      clear hrow hfar hown
      by_cases hgo : m < N ∧ t < 300
      · obtain ⟨hlt, htt⟩ := hgo
        have t1 : decide ((m : Int) < (N : Int)) = true := by simpa using hlt
        have t2 : decide ((t : Int) < 300) = true := by simp; omega
        go_wp2_with (fail)
        refine (pickS mo hcr (by omega)).mono ?_
        rintro e w5 ⟨x5, q5, rfl, hx5, _, hx5', hq5, hq5', hc5, hg5⟩
        have hx5'' := hx5' (by omega)
        go_wp2_with (fail)
        refine (pickS 5 hc5 (by omega)).mono ?_
        rintro e w6 ⟨x6, q6, rfl, hx6, _, hx6', hq6, hq6', hc6, hg6⟩
        have hx6'' := hx6' (by omega)
        go_wp2_with (fail)
        refine (amongL [1, 4, 8, 8, 12] hc6 (by omega) rfl (by simp) (by simp) rfl (by intro z hz; simp at hz; omega)).mono ?_
        rintro e w7 ⟨y, q7, rfl, hy, hq7, hq7', hc7, hg7⟩
        replace hy : 1 ≤ y ∧ y ≤ 12 := by simp at hy; omega
        obtain ⟨hy1, hy2⟩ := hy
        clear hx5' hx6'
        go_wp2_with (fail)
        refine (l1Least_any _ _ _).mono ?_
        rintro e w8 ⟨rfl, rfl⟩
        obtain ⟨LT, hLT⟩ : ∃ x, x = min 168 (x5 + y) := ⟨_, rfl⟩
        rw [← hLT]
        have hLT2 : 0 ≤ LT ∧ LT ≤ 168 := by omega
        clear hLT
        have hg07 := World.grownBy.trans (World.grownBy.trans (World.grownBy.trans hgr hg5) hg6) hg7
        have HROW7 := hid (((HROW.out.kept hg5 (.inr (fun e => by have := (HFAR.out _ e).1; omega))).kept hg6 (.inr (fun e => by have := (HFAR.out _ e).1; omega))).kept hg7 (.inr (fun e => by have := (HFAR.out _ e).1; omega)))
        have wx6 : (Lit.int .i64 (1 + x6)).wf = true := wf_i64 (by omega)
        have wx5 : (Lit.int .i64 x5).wf = true := wf_i64 (by omega)
        have wLT : (Lit.int .i64 LT).wf = true := wf_i64 (by omega)
        clear hcr hc5 hc6 hgr hg5 hg6 hg7 HROW
        go_upto_if 43 with (fail)
        generalize hbx : w7.heap.size = bx
        go_cut [] from 44 to 58 (fun wx => ∃ (a0 a1 a2 : Int), (Lit.int .i64 a0).wf = true ∧ (Lit.int .i64 a1).wf = true ∧ (Lit.int .i64 a2).wf = true ∧ wx.cell? ⟨bx, 0, none⟩ = some (.int .i64 a0) ∧ wx.cell? ⟨bx, 1, none⟩ = some (.int .i64 a1) ∧ wx.cell? ⟨bx, 2, none⟩ = some (.int .i64 a2) ∧ bx < wx.heap.size ∧ wx.ownsRow w.heap.size 42 3 (.slice a3 m c3) m (zs.map (Value.int .i64)) ∧ CS wx B vc n zc q7 ∧ w.grownBy wx (some B))
        case first =>
          subst hbx
          have hE7 : Ext w7 (w7.alloc (.cells #[.int .i64 (1 + x6), .int .i64 x5, .int .i64 LT] 42)) := (Ext.refl _).alloc _
          have hcells : (w7.alloc (.cells #[.int .i64 (1 + x6), .int .i64 x5, .int .i64 LT] 42)).cell? ⟨w7.heap.size, 0, none⟩ = some (.int .i64 (1 + x6)) ∧ (w7.alloc (.cells #[.int .i64 (1 + x6), .int .i64 x5, .int .i64 LT] 42)).cell? ⟨w7.heap.size, 1, none⟩ = some (.int .i64 x5) ∧ (w7.alloc (.cells #[.int .i64 (1 + x6), .int .i64 x5, .int .i64 LT] 42)).cell? ⟨w7.heap.size, 2, none⟩ = some (.int .i64 LT) ∧ w7.heap.size < (w7.alloc (.cells #[.int .i64 (1 + x6), .int .i64 x5, .int .i64 LT] 42)).heap.size := ⟨by simp, by simp, by simp, by simp⟩
          by_cases hN60 : N = 60
          · have u1 : decide ((N : Int) = 60) = true := by simp; omega
            have u2 : ((N : Int) == 60) = true := by simp; omega
            have d1 : (m : Int).tdiv 30 = (m : Int) / 30 := Int.tdiv_eq_ediv_of_nonneg (by omega)
            have d2 : (m : Int).tmod 30 = (m : Int) % 30 := Int.tmod_eq_emod_of_nonneg (by omega)
            have d3 : IntKind.i64.wrap ((m : Int) / 30) = (m : Int) / 30 := IntWalk.i64_in _ (by omega)
            have d4 : IntKind.i64.wrap ((m : Int) % 30) = (m : Int) % 30 := IntWalk.i64_in _ (by omega)
            have d5 : IntKind.i64.wrap (1 + (m : Int) % 30) = 1 + (m : Int) % 30 := IntWalk.i64_in _ (by omega)
            have d6 : IntKind.i64.wrap ((m : Int) / 30 * 20) = (m : Int) / 30 * 20 := IntWalk.i64_in _ (by omega)
            have d7 : IntKind.i64.wrap ((m : Int) / 30 * 20 + 8) = (m : Int) / 30 * 20 + 8 := IntWalk.i64_in _ (by omega)
            go_wp2_with (fail)
            go_meet
            refine ⟨1 + (m : Int) % 30, (m : Int) / 30 * 20, (m : Int) / 30 * 20 + 8, wf_i64 (by omega), wf_i64 (by omega), wf_i64 (by omega), by simp [go_sem], by simp [go_sem], by simp [go_sem], by simp [go_sem], row_ext HROW7.out (by repeat (first | exact Ext.refl _ | assumption | refine Ext.alloc ?_ _ | refine Ext.drew ?_ | refine Ext.drewN ?_ _ | refine Ext.setCell ?_ (by first | exact Nat.le_refl _ | (simp; done) | (dsimp only; omega) | (simp only [World.size_alloc, World.size_setCell]; omega)) _ | refine Ext.trans ?_ (by assumption))), hc7.ext (by repeat (first | exact Ext.refl _ | assumption | refine Ext.alloc ?_ _ | refine Ext.drew ?_ | refine Ext.drewN ?_ _ | refine Ext.setCell ?_ (by first | exact Nat.le_refl _ | (simp; done) | (dsimp only; omega) | (simp only [World.size_alloc, World.size_setCell]; omega)) _ | refine Ext.trans ?_ (by assumption))), hg07.andThenE (by repeat (first | exact Ext.refl _ | assumption | refine Ext.alloc ?_ _ | refine Ext.drew ?_ | refine Ext.drewN ?_ _ | refine Ext.setCell ?_ (by first | exact Nat.le_refl _ | (simp; done) | (dsimp only; omega) | (simp only [World.size_alloc, World.size_setCell]; omega)) _ | refine Ext.trans ?_ (by assumption)))⟩
          · have u1 : decide ((N : Int) = 60) = false := by simp; omega
            have u2 : ((N : Int) == 60) = false := by simp; omega
            go_wp2_with (fail)
            go_meet
            exact ⟨1 + x6, x5, LT, wx6, wx5, wLT, hcells.1, hcells.2.1, hcells.2.2.1, hcells.2.2.2, row_ext HROW7.out hE7, hc7.ext hE7, hg07.andThenE hE7⟩
        case rest =>
          obtain ⟨a0, a1, a2, ha0, ha1, ha2, hb0, hb1, hb2, hbw, hrx, hcx, hgx⟩ := hcut
          have HRX := hid hrx
          have HT := hid (row_ints hrx (by unfold maxLen; omega) hzw)
          have EB := Ext.refl wc
          have SKP := hid (fun (W : World) (hW : Ext wc W) => show W.cell? ⟨bx, 0, none⟩ = some (.int .i64 a0) ∧ W.cell? ⟨bx, 1, none⟩ = some (.int .i64 a1) ∧ W.cell? ⟨bx, 2, none⟩ = some (.int .i64 a2) from ⟨by rw [(Ext.cells hW).1 _ _ hbw]; exact hb0, by rw [(Ext.cells hW).1 _ _ hbw]; exact hb1, by rw [(Ext.cells hW).1 _ _ hbw]; exact hb2⟩)
          clear hrx hc7 hg07 HROW7
          go_wp2_with (fail)
          generalize wc = wB at *
          refine wp_region_noPanic ?_
          refine wp_region_held_drew (S := (fun W => W.cell? ⟨bx, 0, none⟩ = some (.int .i64 a0) ∧ W.cell? ⟨bx, 1, none⟩ = some (.int .i64 a1) ∧ W.cell? ⟨bx, 2, none⟩ = some (.int .i64 a2))) (by kernel_rfl) ?_ (fun hHeld => ?_)
          · first | exact SKP.out _ (EB.drew) | (dsimp only; exact SKP.out _ (EB.drew))
          have ED := EB.drew
          generalize wB.drew = wd at *
          refine wpAnyH_take (i := 1) (oi := { dst := some 60, op := _, type := _, pos := _, after := _, guard := _ }) (v := ?_) rfl (by kernel_rfl) (by kernel_rfl) (by kernel_rfl) (fun _ _ _ h => h) (Or.inl ⟨by rfl, ?_⟩) (by assumption) ?_
          rotate_left
          · (intro w hSw; (try dsimp only at hSw); go_simp) <;> (first | done | with_reducible rfl | rfl)
          try simp only [Act.put, List.setIfInBounds_toArray, List.set_cons_zero, List.set_cons_succ]
          refine wpAnyH_take (i := 3) (oi := { dst := some 62, op := _, type := _, pos := _, after := _, guard := _ }) (v := ?_) rfl (by kernel_rfl) (by kernel_rfl) (by kernel_rfl) (fun _ _ _ h => h) (Or.inl ⟨by rfl, ?_⟩) (by assumption) ?_
          rotate_left
          · (intro w hSw; (try dsimp only at hSw); go_simp) <;> (first | done | with_reducible rfl | rfl)
          try simp only [Act.put, List.setIfInBounds_toArray, List.set_cons_zero, List.set_cons_succ]
          refine wpAnyH_ready (rs := [0, 4]) (by kernel_rfl) (by simp) ?_
          refine AllReadyH.cons (o := { dst := some 59, op := _, type := _, pos := _, after := _, guard := _ }) rfl (fun K hK => ?_) (AllReadyH.cons (o := { dst := some 63, op := _, type := _, pos := _, after := _, guard := _ }) rfl (fun K hK => ?_) AllReadyH.nil)
          · go_simp
            have E1 : Ext wB (wd.alloc (.cells #[] 42)) := Ext.alloc ED _
            have R1 := row_mono (row_empty3 wd 42) (show wB.heap.size ≤ wd.heap.size from ED.size)
            obtain ⟨g29, hg29⟩ : ∃ q, q = wd.heap.size := ⟨_, rfl⟩
            have hgl : wB.heap.size ≤ g29 := by rw [hg29]; exact ED.size
            have hlt29 : g29 < (wd.alloc (.cells #[] 42)).heap.size := by rw [hg29]; simp
            rw [← hg29] at R1 ⊢
            clear hg29
            obtain ⟨wk1, hw1⟩ : ∃ W, W = wd.alloc (.cells #[] 42) := ⟨_, rfl⟩
            rw [← hw1] at E1 R1 hlt29 ⊢
            clear hw1
            refine hK.out _ _ (by first | exact SKP.out _ E1 | (dsimp only; exact SKP.out _ E1)) (fun hHeld => ?_)
            clear hK K
            try simp only [Act.put, List.setIfInBounds_toArray, List.set_cons_zero, List.set_cons_succ]
            refine wpAnyH_ready (rs := [2, 4]) (by kernel_rfl) (by simp) ?_
            refine AllReadyH.cons (o := { dst := some 61, op := _, type := _, pos := _, after := _, guard := _ }) rfl (fun K hK => ?_) (AllReadyH.cons (o := { dst := some 63, op := _, type := _, pos := _, after := _, guard := _ }) rfl (fun K hK => ?_) AllReadyH.nil)
            · refine step_src3 (by rfl) (.tmp 59) (.tmp 60) 23 (by rfl) wB.heap.size 42 i0 _ Tryd.underlying23 hi hz0 hz1 hz2 rfl _ 0 [] (by rfl) R1 _ m zs (by rfl) (HT.out.ext E1) (by omega) E1.size ?_
              intro v2 wk2 R2 G2
              have E2 : Ext wB wk2 := Ext.of_grownAt E1 G2 (fun q hq => (R1.lt q hq).1)
              refine hK.out _ _ (by first | exact SKP.out _ E2 | (dsimp only; exact SKP.out _ E2)) (fun hHeld => ?_)
              clear hK K
              try simp only [Act.put, List.setIfInBounds_toArray, List.set_cons_zero, List.set_cons_succ]
              refine wpAnyH_ready (rs := [4]) (by kernel_rfl) (by simp) ?_
              refine AllReadyH.cons (o := { dst := some 63, op := _, type := _, pos := _, after := _, guard := _ }) rfl (fun K hK => ?_) AllReadyH.nil
              go_simp
              have E3 : Ext wB (wk2.alloc (.cells #[.int .i64 a0, .int .i64 a1, .int .i64 a2] 42)) := Ext.alloc E2 _
              have L3 := lit3_row wk2 a0 a1 a2 42 ha0 ha1 ha2
              have R3 := row_ext R2 ((Ext.refl wk2).alloc (.cells #[.int .i64 a0, .int .i64 a1, .int .i64 a2] 42))
              obtain ⟨g35, hg35⟩ : ∃ q, q = wk2.heap.size := ⟨_, rfl⟩
              rw [← hg35] at L3 ⊢
              clear hg35
              obtain ⟨wk3, hw3⟩ : ∃ W, W = wk2.alloc (.cells #[.int .i64 a0, .int .i64 a1, .int .i64 a2] 42) := ⟨_, rfl⟩
              rw [← hw3] at E3 R3 L3 ⊢
              clear hw3
              refine hK.out _ _ (by first | exact SKP.out _ E3 | (dsimp only; exact SKP.out _ E3)) (fun hHeld => ?_)
              clear hK K
              try simp only [Act.put, List.setIfInBounds_toArray, List.set_cons_zero, List.set_cons_succ]
              refine wpAnyH_ready (rs := [5]) (by kernel_rfl) (by simp) ?_
              refine AllReadyH.cons (o := { dst := some 64, op := _, type := _, pos := _, after := _, guard := _ }) rfl (fun K hK => ?_) AllReadyH.nil
              refine step_src3 (by rfl) (.tmp 61) (.tmp 63) 23 (by rfl) wB.heap.size 42 i0 _ Tryd.underlying23 hi hz0 hz1 hz2 rfl _ (0 + m) _ (by rfl) R3 _ 1 [a0, a1, a2] (by rfl) L3 (by omega) E3.size ?_
              intro v4 wk4 R4 G4
              have E4 : Ext wB wk4 := Ext.of_grownAt E3 G4 (fun q hq => (R3.lt q hq).1)
              refine hK.out _ _ (by first | exact SKP.out _ E4 | (dsimp only; exact SKP.out _ E4)) (fun hHeld => ?_)
              clear hK K
              try simp only [Act.put, List.setIfInBounds_toArray, List.set_cons_zero, List.set_cons_succ]
              refine wpAnyH_ready (rs := [6]) (by kernel_rfl) (by simp) ?_
              refine AllReadyH.cons (o := { dst := some 65, op := _, type := _, pos := _, after := _, guard := _ }) rfl (fun K hK => ?_) AllReadyH.nil
              rw [show [] ++ zs.map (Value.int .i64) ++ [a0, a1, a2].map (Value.int .i64) = (zs ++ [a0, a1, a2]).map (Value.int .i64) by simp, show 0 + m + 1 = m + 1 by omega] at R4
              have hZr := row_ints R4 (by unfold maxLen; omega) (mem_wf3 hzw ha0 ha1 ha2)
              go_simp
              refine (shSort_any _ (m + 1) (zs ++ [a0, a1, a2]) _ hZr (by omega)).mono ?_
              rintro e wk5 ⟨v5, rfl, hr6, hx6⟩
              have R5 := row_mono hr6 (show wB.heap.size ≤ _ from E4.size)
              have E5 : Ext wB wk5 := E4.trans hx6
              clear hr6 hx6 hZr
              refine hK.out _ _ (by first | exact SKP.out _ E5 | (dsimp only; exact SKP.out _ E5)) (fun hHeld => ?_)
              clear hK K
              try simp only [Act.put, List.setIfInBounds_toArray, List.set_cons_zero, List.set_cons_succ]
              refine wpAnyH_take (i := 7) (oi := { dst := some 58, op := _, type := _, pos := _, after := _, guard := _ }) (v := ?_) rfl (by kernel_rfl) (by kernel_rfl) (by kernel_rfl) (fun _ _ _ h => h) (Or.inl ⟨by rfl, ?_⟩) (by assumption) ?_
              rotate_left
              · (intro w hSw; (try dsimp only at hSw); go_simp) <;> (first | done | with_reducible rfl | rfl)
              try simp only [Act.put, List.setIfInBounds_toArray, List.set_cons_zero, List.set_cons_succ]
              refine wpAnyH_take (i := 8) (oi := { dst := some 66, op := _, type := _, pos := _, after := _, guard := _ }) (v := ?_) rfl (by kernel_rfl) (by kernel_rfl) (by kernel_rfl) (fun _ _ _ h => h) (Or.inl ⟨by rfl, ?_⟩) (by assumption) ?_
              rotate_left
              · (intro w hSw; (try dsimp only at hSw); go_simp) <;> (first | done | with_reducible rfl | rfl)
              try simp only [Act.put, List.setIfInBounds_toArray, List.set_cons_zero, List.set_cons_succ]
              refine wpAnyH_take (i := 9) (oi := { dst := some 67, op := _, type := _, pos := _, after := _, guard := _ }) (v := ?_) rfl (by kernel_rfl) (by kernel_rfl) (by kernel_rfl) (fun _ _ _ h => h) (Or.inl ⟨by rfl, ?_⟩) (by assumption) ?_
              rotate_left
              · (intro w hSw; (try dsimp only at hSw); go_simp) <;> (first | done | with_reducible rfl | rfl)
              try simp only [Act.put, List.setIfInBounds_toArray, List.set_cons_zero, List.set_cons_succ]
              refine wpAnyH_take (i := 10) (oi := { dst := some 9, op := _, type := _, pos := _, after := _, guard := _ }) (v := ?_) rfl (by kernel_rfl) (by kernel_rfl) (by kernel_rfl) (fun _ _ _ h => h) (Or.inl ⟨by rfl, ?_⟩) (by assumption) ?_
              rotate_left
              · (intro w hSw; (try dsimp only at hSw); go_simp) <;> (first | done | with_reducible rfl | rfl)
              try simp only [Act.put, List.setIfInBounds_toArray, List.set_cons_zero, List.set_cons_succ]
              refine wpAnyH_take (i := 11) (oi := { dst := some 10, op := _, type := _, pos := _, after := _, guard := _ }) (v := ?_) rfl (by kernel_rfl) (by kernel_rfl) (by kernel_rfl) (fun _ _ _ h => h) (Or.inl ⟨by rfl, ?_⟩) (by assumption) ?_
              rotate_left
              · (intro w hSw; (try dsimp only at hSw); go_simp) <;> (first | done | with_reducible rfl | rfl)
              try simp only [Act.put, List.setIfInBounds_toArray, List.set_cons_zero, List.set_cons_succ]
              refine wpAnyH_done (by kernel_rfl) ?_ _
              refine NoPanic.normal ?_
              obtain ⟨O, hO⟩ : ∃ O, O = soO (zs ++ [a0, a1, a2]) (m + 1) := ⟨_, rfl⟩
              rw [← hO]
              have HO := hid hO
              clear hO
              cases O with
              | false =>
                go_wp2_with (fail)
                go_roundw
                case rel => exact ⟨m, t + 1, zs, q7, by omega, by omega, by first | rfl | go_num, row_ext HRX.out E5, hzw, by omega, hcx.ext E5, hgx.andThenE E5⟩
                case measure => simp [intOf]; omega
              | true =>
                have hs : soL (zs ++ [a0, a1, a2]) (m + 1) = srtZ (zs ++ [a0, a1, a2]) (m + 1) := by unfold soL; rw [← HO.out]; rfl
                have hRE := R5
                rw [hs, srtZ_length, show (m + 1) * 3 / 3 = m + 1 by omega] at hRE
                have hRE2 := row_mono hRE (show w.heap.size ≤ wB.heap.size from hgx.size)
                go_wp2_with (fail)
                go_roundw
                case rel => exact ⟨m + 1, t + 1, _, q7, by omega, by omega, by first | rfl | go_num, hRE2, srtZ_wf (by simp; omega) (mem_wf3 hzw ha0 ha1 ha2), by omega, hcx.ext E5, hgx.andThenE E5⟩
                case measure => simp [intOf]; omega
            · go_simp
              have E6 : Ext wB (wk1.alloc (.cells #[.int .i64 a0, .int .i64 a1, .int .i64 a2] 42)) := Ext.alloc E1 _
              have L6 := lit3_row wk1 a0 a1 a2 42 ha0 ha1 ha2
              have R6 := row_ext R1 ((Ext.refl wk1).alloc (.cells #[.int .i64 a0, .int .i64 a1, .int .i64 a2] 42))
              obtain ⟨g35, hg35⟩ : ∃ q, q = wk1.heap.size := ⟨_, rfl⟩
              have hne : g29 ≠ g35 := by rw [hg35]; omega
              rw [← hg35] at L6 ⊢
              clear hg35
              obtain ⟨wk6, hw6⟩ : ∃ W, W = wk1.alloc (.cells #[.int .i64 a0, .int .i64 a1, .int .i64 a2] 42) := ⟨_, rfl⟩
              rw [← hw6] at E6 R6 L6 ⊢
              clear hw6
              refine hK.out _ _ (by first | exact SKP.out _ E6 | (dsimp only; exact SKP.out _ E6)) (fun hHeld => ?_)
              clear hK K
              try simp only [Act.put, List.setIfInBounds_toArray, List.set_cons_zero, List.set_cons_succ]
              refine wpAnyH_ready (rs := [2]) (by kernel_rfl) (by simp) ?_
              refine AllReadyH.cons (o := { dst := some 61, op := _, type := _, pos := _, after := _, guard := _ }) rfl (fun K hK => ?_) AllReadyH.nil
              refine step_src3 (by rfl) (.tmp 59) (.tmp 60) 23 (by rfl) wB.heap.size 42 i0 _ Tryd.underlying23 hi hz0 hz1 hz2 rfl _ 0 [] (by rfl) R6 _ m zs (by rfl) (HT.out.ext E6) (by omega) E6.size ?_
              intro v7 wk7 R7 G7
              have E7 : Ext wB wk7 := Ext.of_grownAt E6 G7 (fun q hq => (R6.lt q hq).1)
              have L7 := introw_far3 L6 G7 (by simp [Value.ownBlock]; omega)
              refine hK.out _ _ (by first | exact SKP.out _ E7 | (dsimp only; exact SKP.out _ E7)) (fun hHeld => ?_)
              clear hK K
              try simp only [Act.put, List.setIfInBounds_toArray, List.set_cons_zero, List.set_cons_succ]
              refine wpAnyH_ready (rs := [5]) (by kernel_rfl) (by simp) ?_
              refine AllReadyH.cons (o := { dst := some 64, op := _, type := _, pos := _, after := _, guard := _ }) rfl (fun K hK => ?_) AllReadyH.nil
              refine step_src3 (by rfl) (.tmp 61) (.tmp 63) 23 (by rfl) wB.heap.size 42 i0 _ Tryd.underlying23 hi hz0 hz1 hz2 rfl _ (0 + m) _ (by rfl) R7 _ 1 [a0, a1, a2] (by rfl) L7 (by omega) E7.size ?_
              intro v8 wk8 R8 G8
              have E8 : Ext wB wk8 := Ext.of_grownAt E7 G8 (fun q hq => (R7.lt q hq).1)
              refine hK.out _ _ (by first | exact SKP.out _ E8 | (dsimp only; exact SKP.out _ E8)) (fun hHeld => ?_)
              clear hK K
              try simp only [Act.put, List.setIfInBounds_toArray, List.set_cons_zero, List.set_cons_succ]
              refine wpAnyH_ready (rs := [6]) (by kernel_rfl) (by simp) ?_
              refine AllReadyH.cons (o := { dst := some 65, op := _, type := _, pos := _, after := _, guard := _ }) rfl (fun K hK => ?_) AllReadyH.nil
              rw [show [] ++ zs.map (Value.int .i64) ++ [a0, a1, a2].map (Value.int .i64) = (zs ++ [a0, a1, a2]).map (Value.int .i64) by simp, show 0 + m + 1 = m + 1 by omega] at R8
              have hZr := row_ints R8 (by unfold maxLen; omega) (mem_wf3 hzw ha0 ha1 ha2)
              go_simp
              refine (shSort_any _ (m + 1) (zs ++ [a0, a1, a2]) _ hZr (by omega)).mono ?_
              rintro e wk9 ⟨v9, rfl, hr6, hx6⟩
              have R9 := row_mono hr6 (show wB.heap.size ≤ _ from E8.size)
              have E9 : Ext wB wk9 := E8.trans hx6
              clear hr6 hx6 hZr
              refine hK.out _ _ (by first | exact SKP.out _ E9 | (dsimp only; exact SKP.out _ E9)) (fun hHeld => ?_)
              clear hK K
              try simp only [Act.put, List.setIfInBounds_toArray, List.set_cons_zero, List.set_cons_succ]
              refine wpAnyH_take (i := 7) (oi := { dst := some 58, op := _, type := _, pos := _, after := _, guard := _ }) (v := ?_) rfl (by kernel_rfl) (by kernel_rfl) (by kernel_rfl) (fun _ _ _ h => h) (Or.inl ⟨by rfl, ?_⟩) (by assumption) ?_
              rotate_left
              · (intro w hSw; (try dsimp only at hSw); go_simp) <;> (first | done | with_reducible rfl | rfl)
              try simp only [Act.put, List.setIfInBounds_toArray, List.set_cons_zero, List.set_cons_succ]
              refine wpAnyH_take (i := 8) (oi := { dst := some 66, op := _, type := _, pos := _, after := _, guard := _ }) (v := ?_) rfl (by kernel_rfl) (by kernel_rfl) (by kernel_rfl) (fun _ _ _ h => h) (Or.inl ⟨by rfl, ?_⟩) (by assumption) ?_
              rotate_left
              · (intro w hSw; (try dsimp only at hSw); go_simp) <;> (first | done | with_reducible rfl | rfl)
              try simp only [Act.put, List.setIfInBounds_toArray, List.set_cons_zero, List.set_cons_succ]
              refine wpAnyH_take (i := 9) (oi := { dst := some 67, op := _, type := _, pos := _, after := _, guard := _ }) (v := ?_) rfl (by kernel_rfl) (by kernel_rfl) (by kernel_rfl) (fun _ _ _ h => h) (Or.inl ⟨by rfl, ?_⟩) (by assumption) ?_
              rotate_left
              · (intro w hSw; (try dsimp only at hSw); go_simp) <;> (first | done | with_reducible rfl | rfl)
              try simp only [Act.put, List.setIfInBounds_toArray, List.set_cons_zero, List.set_cons_succ]
              refine wpAnyH_take (i := 10) (oi := { dst := some 9, op := _, type := _, pos := _, after := _, guard := _ }) (v := ?_) rfl (by kernel_rfl) (by kernel_rfl) (by kernel_rfl) (fun _ _ _ h => h) (Or.inl ⟨by rfl, ?_⟩) (by assumption) ?_
              rotate_left
              · (intro w hSw; (try dsimp only at hSw); go_simp) <;> (first | done | with_reducible rfl | rfl)
              try simp only [Act.put, List.setIfInBounds_toArray, List.set_cons_zero, List.set_cons_succ]
              refine wpAnyH_take (i := 11) (oi := { dst := some 10, op := _, type := _, pos := _, after := _, guard := _ }) (v := ?_) rfl (by kernel_rfl) (by kernel_rfl) (by kernel_rfl) (fun _ _ _ h => h) (Or.inl ⟨by rfl, ?_⟩) (by assumption) ?_
              rotate_left
              · (intro w hSw; (try dsimp only at hSw); go_simp) <;> (first | done | with_reducible rfl | rfl)
              try simp only [Act.put, List.setIfInBounds_toArray, List.set_cons_zero, List.set_cons_succ]
              refine wpAnyH_done (by kernel_rfl) ?_ _
              refine NoPanic.normal ?_
              obtain ⟨O, hO⟩ : ∃ O, O = soO (zs ++ [a0, a1, a2]) (m + 1) := ⟨_, rfl⟩
              rw [← hO]
              have HO := hid hO
              clear hO
              cases O with
              | false =>
                go_wp2_with (fail)
                go_roundw
                case rel => exact ⟨m, t + 1, zs, q7, by omega, by omega, by first | rfl | go_num, row_ext HRX.out E9, hzw, by omega, hcx.ext E9, hgx.andThenE E9⟩
                case measure => simp [intOf]; omega
              | true =>
                have hs : soL (zs ++ [a0, a1, a2]) (m + 1) = srtZ (zs ++ [a0, a1, a2]) (m + 1) := by unfold soL; rw [← HO.out]; rfl
                have hRE := R9
                rw [hs, srtZ_length, show (m + 1) * 3 / 3 = m + 1 by omega] at hRE
                have hRE2 := row_mono hRE (show w.heap.size ≤ wB.heap.size from hgx.size)
                go_wp2_with (fail)
                go_roundw
                case rel => exact ⟨m + 1, t + 1, _, q7, by omega, by omega, by first | rfl | go_num, hRE2, srtZ_wf (by simp; omega) (mem_wf3 hzw ha0 ha1 ha2), by omega, hcx.ext E9, hgx.andThenE E9⟩
                case measure => simp [intOf]; omega
          · go_simp
            have E10 : Ext wB (wd.alloc (.cells #[.int .i64 a0, .int .i64 a1, .int .i64 a2] 42)) := Ext.alloc ED _
            have L10 := lit3_row wd a0 a1 a2 42 ha0 ha1 ha2
            obtain ⟨g35, hg35⟩ : ∃ q, q = wd.heap.size := ⟨_, rfl⟩
            have hlt35 : g35 < (wd.alloc (.cells #[.int .i64 a0, .int .i64 a1, .int .i64 a2] 42)).heap.size := by rw [hg35]; simp
            rw [← hg35] at L10 ⊢
            clear hg35
            obtain ⟨wk10, hw10⟩ : ∃ W, W = wd.alloc (.cells #[.int .i64 a0, .int .i64 a1, .int .i64 a2] 42) := ⟨_, rfl⟩
            rw [← hw10] at E10 L10 hlt35 ⊢
            clear hw10
            refine hK.out _ _ (by first | exact SKP.out _ E10 | (dsimp only; exact SKP.out _ E10)) (fun hHeld => ?_)
            clear hK K
            try simp only [Act.put, List.setIfInBounds_toArray, List.set_cons_zero, List.set_cons_succ]
            refine wpAnyH_ready (rs := [0]) (by kernel_rfl) (by simp) ?_
            refine AllReadyH.cons (o := { dst := some 59, op := _, type := _, pos := _, after := _, guard := _ }) rfl (fun K hK => ?_) AllReadyH.nil
            go_simp
            have E11 : Ext wB (wk10.alloc (.cells #[] 42)) := Ext.alloc E10 _
            have R11 := row_mono (row_empty3 wk10 42) (show wB.heap.size ≤ wk10.heap.size from E10.size)
            have L11 := IntRow.ext L10 ((Ext.refl wk10).alloc (.cells #[] 42))
            obtain ⟨g29, hg29⟩ : ∃ q, q = wk10.heap.size := ⟨_, rfl⟩
            have hne : g29 ≠ g35 := by rw [hg29]; omega
            have hgl : wB.heap.size ≤ g29 := by rw [hg29]; exact E10.size
            rw [← hg29] at R11 ⊢
            clear hg29
            obtain ⟨wk11, hw11⟩ : ∃ W, W = wk10.alloc (.cells #[] 42) := ⟨_, rfl⟩
            rw [← hw11] at E11 R11 L11 ⊢
            clear hw11
            refine hK.out _ _ (by first | exact SKP.out _ E11 | (dsimp only; exact SKP.out _ E11)) (fun hHeld => ?_)
            clear hK K
            try simp only [Act.put, List.setIfInBounds_toArray, List.set_cons_zero, List.set_cons_succ]
            refine wpAnyH_ready (rs := [2]) (by kernel_rfl) (by simp) ?_
            refine AllReadyH.cons (o := { dst := some 61, op := _, type := _, pos := _, after := _, guard := _ }) rfl (fun K hK => ?_) AllReadyH.nil
            refine step_src3 (by rfl) (.tmp 59) (.tmp 60) 23 (by rfl) wB.heap.size 42 i0 _ Tryd.underlying23 hi hz0 hz1 hz2 rfl _ 0 [] (by rfl) R11 _ m zs (by rfl) (HT.out.ext E11) (by omega) E11.size ?_
            intro v12 wk12 R12 G12
            have E12 : Ext wB wk12 := Ext.of_grownAt E11 G12 (fun q hq => (R11.lt q hq).1)
            have L12 := introw_far3 L11 G12 (by simp [Value.ownBlock]; omega)
            refine hK.out _ _ (by first | exact SKP.out _ E12 | (dsimp only; exact SKP.out _ E12)) (fun hHeld => ?_)
            clear hK K
            try simp only [Act.put, List.setIfInBounds_toArray, List.set_cons_zero, List.set_cons_succ]
            refine wpAnyH_ready (rs := [5]) (by kernel_rfl) (by simp) ?_
            refine AllReadyH.cons (o := { dst := some 64, op := _, type := _, pos := _, after := _, guard := _ }) rfl (fun K hK => ?_) AllReadyH.nil
            refine step_src3 (by rfl) (.tmp 61) (.tmp 63) 23 (by rfl) wB.heap.size 42 i0 _ Tryd.underlying23 hi hz0 hz1 hz2 rfl _ (0 + m) _ (by rfl) R12 _ 1 [a0, a1, a2] (by rfl) L12 (by omega) E12.size ?_
            intro v13 wk13 R13 G13
            have E13 : Ext wB wk13 := Ext.of_grownAt E12 G13 (fun q hq => (R12.lt q hq).1)
            refine hK.out _ _ (by first | exact SKP.out _ E13 | (dsimp only; exact SKP.out _ E13)) (fun hHeld => ?_)
            clear hK K
            try simp only [Act.put, List.setIfInBounds_toArray, List.set_cons_zero, List.set_cons_succ]
            refine wpAnyH_ready (rs := [6]) (by kernel_rfl) (by simp) ?_
            refine AllReadyH.cons (o := { dst := some 65, op := _, type := _, pos := _, after := _, guard := _ }) rfl (fun K hK => ?_) AllReadyH.nil
            rw [show [] ++ zs.map (Value.int .i64) ++ [a0, a1, a2].map (Value.int .i64) = (zs ++ [a0, a1, a2]).map (Value.int .i64) by simp, show 0 + m + 1 = m + 1 by omega] at R13
            have hZr := row_ints R13 (by unfold maxLen; omega) (mem_wf3 hzw ha0 ha1 ha2)
            go_simp
            refine (shSort_any _ (m + 1) (zs ++ [a0, a1, a2]) _ hZr (by omega)).mono ?_
            rintro e wk14 ⟨v14, rfl, hr6, hx6⟩
            have R14 := row_mono hr6 (show wB.heap.size ≤ _ from E13.size)
            have E14 : Ext wB wk14 := E13.trans hx6
            clear hr6 hx6 hZr
            refine hK.out _ _ (by first | exact SKP.out _ E14 | (dsimp only; exact SKP.out _ E14)) (fun hHeld => ?_)
            clear hK K
            try simp only [Act.put, List.setIfInBounds_toArray, List.set_cons_zero, List.set_cons_succ]
            refine wpAnyH_take (i := 7) (oi := { dst := some 58, op := _, type := _, pos := _, after := _, guard := _ }) (v := ?_) rfl (by kernel_rfl) (by kernel_rfl) (by kernel_rfl) (fun _ _ _ h => h) (Or.inl ⟨by rfl, ?_⟩) (by assumption) ?_
            rotate_left
            · (intro w hSw; (try dsimp only at hSw); go_simp) <;> (first | done | with_reducible rfl | rfl)
            try simp only [Act.put, List.setIfInBounds_toArray, List.set_cons_zero, List.set_cons_succ]
            refine wpAnyH_take (i := 8) (oi := { dst := some 66, op := _, type := _, pos := _, after := _, guard := _ }) (v := ?_) rfl (by kernel_rfl) (by kernel_rfl) (by kernel_rfl) (fun _ _ _ h => h) (Or.inl ⟨by rfl, ?_⟩) (by assumption) ?_
            rotate_left
            · (intro w hSw; (try dsimp only at hSw); go_simp) <;> (first | done | with_reducible rfl | rfl)
            try simp only [Act.put, List.setIfInBounds_toArray, List.set_cons_zero, List.set_cons_succ]
            refine wpAnyH_take (i := 9) (oi := { dst := some 67, op := _, type := _, pos := _, after := _, guard := _ }) (v := ?_) rfl (by kernel_rfl) (by kernel_rfl) (by kernel_rfl) (fun _ _ _ h => h) (Or.inl ⟨by rfl, ?_⟩) (by assumption) ?_
            rotate_left
            · (intro w hSw; (try dsimp only at hSw); go_simp) <;> (first | done | with_reducible rfl | rfl)
            try simp only [Act.put, List.setIfInBounds_toArray, List.set_cons_zero, List.set_cons_succ]
            refine wpAnyH_take (i := 10) (oi := { dst := some 9, op := _, type := _, pos := _, after := _, guard := _ }) (v := ?_) rfl (by kernel_rfl) (by kernel_rfl) (by kernel_rfl) (fun _ _ _ h => h) (Or.inl ⟨by rfl, ?_⟩) (by assumption) ?_
            rotate_left
            · (intro w hSw; (try dsimp only at hSw); go_simp) <;> (first | done | with_reducible rfl | rfl)
            try simp only [Act.put, List.setIfInBounds_toArray, List.set_cons_zero, List.set_cons_succ]
            refine wpAnyH_take (i := 11) (oi := { dst := some 10, op := _, type := _, pos := _, after := _, guard := _ }) (v := ?_) rfl (by kernel_rfl) (by kernel_rfl) (by kernel_rfl) (fun _ _ _ h => h) (Or.inl ⟨by rfl, ?_⟩) (by assumption) ?_
            rotate_left
            · (intro w hSw; (try dsimp only at hSw); go_simp) <;> (first | done | with_reducible rfl | rfl)
            try simp only [Act.put, List.setIfInBounds_toArray, List.set_cons_zero, List.set_cons_succ]
            refine wpAnyH_done (by kernel_rfl) ?_ _
            refine NoPanic.normal ?_
            obtain ⟨O, hO⟩ : ∃ O, O = soO (zs ++ [a0, a1, a2]) (m + 1) := ⟨_, rfl⟩
            rw [← hO]
            have HO := hid hO
            clear hO
            cases O with
            | false =>
              go_wp2_with (fail)
              go_roundw
              case rel => exact ⟨m, t + 1, zs, q7, by omega, by omega, by first | rfl | go_num, row_ext HRX.out E14, hzw, by omega, hcx.ext E14, hgx.andThenE E14⟩
              case measure => simp [intOf]; omega
            | true =>
              have hs : soL (zs ++ [a0, a1, a2]) (m + 1) = srtZ (zs ++ [a0, a1, a2]) (m + 1) := by unfold soL; rw [← HO.out]; rfl
              have hRE := R14
              rw [hs, srtZ_length, show (m + 1) * 3 / 3 = m + 1 by omega] at hRE
              have hRE2 := row_mono hRE (show w.heap.size ≤ wB.heap.size from hgx.size)
              go_wp2_with (fail)
              go_roundw
              case rel => exact ⟨m + 1, t + 1, _, q7, by omega, by omega, by first | rfl | go_num, hRE2, srtZ_wf (by simp; omega) (mem_wf3 hzw ha0 ha1 ha2), by omega, hcx.ext E14, hgx.andThenE E14⟩
              case measure => simp [intOf]; omega
      · have t0 : (decide ((m : Int) < (N : Int)) && decide ((t : Int) < 300)) = false := by
          rw [← Bool.not_eq_true, Bool.and_eq_true, decide_eq_true_eq, decide_eq_true_eq]; omega
        by_cases hlt : m < N
        · have t1 : decide ((m : Int) < (N : Int)) = true := by simpa using hlt
          have t2 : decide ((t : Int) < 300) = false := by simp; omega
          clear t0
          go_wp2_with (fail)
          go_ret
          exact ⟨_, m, zs, qr, rfl, HROW.out, by omega, hzw, by omega, hcr, hgr⟩
        · have t1 : decide ((m : Int) < (N : Int)) = false := by simp; omega
          clear t0
          go_wp2_with (fail)
          go_ret
          exact ⟨_, m, zs, qr, rfl, HROW.out, by omega, hzw, by omega, hcr, hgr⟩

end Go.Proofs.YtedkffdkhnfoiaaDoor
