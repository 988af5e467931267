/- The chapter of acknowledgements: the reference's rounds. No condition. -/
import Derived.Test.YtmmmiccpimplhaaAckC
namespace Go.Proofs.Ytmmmiccpimplhaa
open Go.RowKit
set_option linter.unusedSimpArgs false
set_option linter.unusedVariables false

theorem bit9_lt {l : Nat} (h : l ≤ 1023) : l.testBit 9 = decide (512 ≤ l) := by
  rw [Nat.testBit_eq_decide_div_mod_eq]
  rw [Bool.eq_iff_iff, decide_eq_true_eq, decide_eq_true_eq]
  omega
theorem bitsL_wf (a : Nat) {n : Nat} (hn : n ≤ 9) : ∀ x ∈ bitsL a n, (Lit.int .i64 x).wf = true := fun x hx => by
  have := bitsL_range a n x hx
  simp [Lit.wf, IntKind.min, IntKind.max, IntKind.signed, IntKind.bits]; omega
theorem row_far {w : World} {g : Nat} {e : TypeId} {size : Nat} {v : Value} {n : Nat} {xs : List Value} (h : w.ownsRow (g + 1) e size v n xs) (o : Nat) (u : Value) : (w.setCell ⟨g, o, none⟩ u).ownsRow (g + 1) e size v n xs :=
  h.kept (row := some g) ⟨rfl, rfl, rfl, by simp, fun k _ hk => heap_setCell_other w ⟨g, o, none⟩ k u (fun e => hk (by rw [e]))⟩ (.inr (fun e => by have := (h.lt g e).1; omega))

set_option maxRecDepth 100000 in
set_option maxHeartbeats 800000 in
theorem l1Own_any (v : Value) (n : Nat) (z : List Int) (w : World) (h : IntRow .i64 1 w v n z) (hn : n ≤ 1000) :
    Calls Try.prog 61 #[v] w fun e w' => ∃ v', e = .returned v' ∧ w'.ownsRow w.heap.size 3 1 v' n (z.map (Value.int .i64)) ∧ Ext w w' := by
  obtain ⟨i0, hi, hz0, hz1, hz2⟩ := info_parts info_Int
  have HO1 := hid (World.ownsRow_lit (base := w.heap.size) (e := 3) (size := 1) w #[] 0 (Nat.le_refl _) (Nat.zero_le _) rfl)
  have HE1 := hid ((Ext.refl w).alloc (.cells #[] 3))
  have HR := hid h
  obtain ⟨hl, hm, hwf, a, c, rfl, hnc, hcm, hcell⟩ := h
  clear hwf hcell
  go_enter Try.func61, Try.ntmps61
  go_wp2_with (at_builtin; refine wpList_append_src rfl (.tmp 3) (.tmp 4) 22 rfl w.heap.size 3 i0 _ Try.underlying22 hi hz0 hz1 hz2 rfl _ 0 [] rfl HO1.out _ n _ rfl (HR.out.ext (by repeat (first | exact Ext.refl _ | assumption | refine Ext.alloc ?_ _ | refine Ext.drew ?_ | refine Ext.drewN ?_ _ | refine Ext.setCell ?_ (by first | exact Nat.le_refl _ | (simp; done) | (dsimp only; omega) | (simp only [World.size_alloc, World.size_setCell]; omega)) _ | refine Ext.trans ?_ (by assumption)))) (by omega) (by simp) ?_; intro v1 w1 hr1 hg1; have hE1 : Ext w w1 := ext_append HE1.out HO1.out (Nat.le_refl _) hg1)
  go_ret
  refine ⟨_, rfl, ?_, hE1⟩
  have := hr1
  rw [Nat.zero_add, List.nil_append] at this
  exact this

def spC (va vk : Value) (r s d : Nat) : List Value := [va, vk, .int .i64 (r : Int), .int .i64 (s : Int), .int .i64 (d : Int)]
def StA (w : World) (g N : Nat) (x : Ak) : Prop := ∃ va vk, w.ownsRow g 51 5 (.slice (some ⟨g, 0, none⟩) 1 1) 1 (spC va vk x.r x.s x.d) ∧ w.ownsRow (g + 1) 3 1 va (bitsL x.A N).length ((bitsL x.A N).map (Value.int .i64)) ∧ w.ownsRow (g + 1) 3 1 vk (bitsL x.K N).length ((bitsL x.K N).map (Value.int .i64))

set_option maxRecDepth 100000 in
set_option maxHeartbeats 1000000 in
theorem round_any (ao : World) (g N W L r A K s d : Nat) (w : World) (hS : StA w g N ⟨r, A, K, s, d⟩) (hE : Ext ao w) (hao : ao.heap.size ≤ g) (hN : 1 ≤ N) (hN2 : N ≤ 9) (hW : 1 ≤ W) (hW2 : W ≤ 9) (hL : L ≤ 1023) (hr : r ≤ 1000) (hs : s ≤ 9000) (hd : d ≤ 9000) (hA : A < 2 ^ N) :
    Calls Try.prog 53 #[.pointer (some ⟨g, 0, none⟩), .int .i64 (N : Int), .int .i64 (W : Int), .int .i64 (L : Int)] w fun e w' => e = .returned (.tuple #[]) ∧ StA w' g N ⟨r + 1, (rdS A K L W N).N, if L.testBit 9 = true then K else (rdS A K L W N).N, s + (rdS A K L W N).s, d + (rdS A K L W N).d⟩ ∧ Ext ao w' := by
  obtain ⟨va0, vk, hR0, hA0, hK0⟩ := hS
  simp only at hR0 hA0 hK0
  obtain ⟨ak, ck, rfl, hk1, hk2, _⟩ := row_shape hK0
  have HA2 := hid hA
  have hyc : ∀ p, (rdS A K L W p).s ≤ p ∧ (rdS A K L W p).d ≤ (rdS A K L W p).s ∧ (rdS A K L W p).s ≤ W := rdS_bd A K L W
  have HYC := hid hyc
  have h9e := bit9_lt hL
  have H9E := hid h9e
  have hlk := bitsL_len_le K N
  obtain ⟨lk, hlk2⟩ : ∃ l, l = (bitsL K N).length := ⟨_, rfl⟩
  rw [← hlk2] at hR0 hK0 hlk hk1
  have HLK := hid hlk2
  clear hlk2
  obtain ⟨q, hq⟩ : ∃ q : Ak, q = ⟨r + 1, (rdS A K L W N).N, if L.testBit 9 = true then K else (rdS A K L W N).N, s + (rdS A K L W N).s, d + (rdS A K L W N).d⟩ := ⟨_, rfl⟩
  rw [← hq]
  have HQ := hid hq
  have hgw : ao.heap.size ≤ g := hao
  clear hyc hA h9e hq hao
  go_enter Try.func53, Try.ntmps53
  go_wp2_with (fail)
  go_loopw [8, 9] (fun q8 q9 wr => ∃ (p : Nat) (va : Value), p ≤ N ∧ q8 = .int .i64 ((rdS A K L W p).s : Int) ∧ q9 = .int .i64 (p : Int) ∧ wr.ownsRow g 51 5 (.slice (some ⟨g, 0, none⟩) 1 1) 1 (spC va (.slice ak lk ck) r s (d + (rdS A K L W p).d)) ∧ wr.ownsRow (g + 1) 3 1 va (bitsL (rdS A K L W p).N N).length ((bitsL (rdS A K L W p).N N).map (Value.int .i64)) ∧ wr.ownsRow (g + 1) 3 1 (.slice ak lk ck) lk ((bitsL K N).map (Value.int .i64)) ∧ Ext ao wr)
    (fun _ q9 _ => N - (intOf q9).toNat)
  case atStart => exact ⟨0, va0, Nat.zero_le _, rfl, rfl, by simpa [rdS] using hR0, hA0, hK0, hE⟩
  case round =>
    clear hR0 hA0 hK0 hE
    obtain ⟨p, va, hp, rfl, rfl, hR, hAr, hKr, hX⟩ := hrel
    have yb := HYC.out p
    have yb4 := rdS_lt HA2.out K L W hp
    have yst : rdS A K L W (p + 1) = (if (rdS A K L W p).s < W then (if K.testBit p = true then rdS A K L W p else if L.testBit p = true then ⟨(rdS A K L W p).s + 1, (rdS A K L W p).N, (rdS A K L W p).d⟩ else ⟨(rdS A K L W p).s + 1, (rdS A K L W p).N ||| 2 ^ p, if A.testBit p = true then (rdS A K L W p).d + 1 else (rdS A K L W p).d⟩) else rdS A K L W p) := rfl
    have yend := rdS_stay (A := A) (K := K) (l := L) (w := W) (p := p)
    have yfr := rdS_fresh A K L W p
    obtain ⟨Y, hYe⟩ : ∃ Y, Y = rdS A K L W p := ⟨_, rfl⟩
    rw [← hYe] at yb yb4 yst yend hR hAr yfr ⊢
    have HYE := hid hYe
    have HYS := hid yst
    have HYN := hid yend
    obtain ⟨ys, yN, yd⟩ := Y
    simp only at yb yb4 hR hAr yfr ⊢
    obtain ⟨yb1, yb2, yb3⟩ := yb
    obtain ⟨aa, ca, rfl, ha1, ha2, _⟩ := row_shape hAr
    have hla := bitsL_len_le yN N
    obtain ⟨la, hla2⟩ : ∃ l, l = (bitsL yN N).length := ⟨_, rfl⟩
    rw [← hla2] at hAr hla ha1 hR
    have HLA := hid hla2
    clear hla2
    have c0 : wr.cell? ⟨g, 0, none⟩ = some (.slice aa la ca) := hR.cellAt 0 (by omega)
    have c1 : wr.cell? ⟨g, 1, none⟩ = some (.slice ak lk ck) := hR.cellAt 1 (by omega)
    have c2 : wr.cell? ⟨g, 2, none⟩ = some (.int .i64 (r : Int)) := hR.cellAt 2 (by omega)
    have c3 : wr.cell? ⟨g, 3, none⟩ = some (.int .i64 (s : Int)) := hR.cellAt 3 (by omega)
    have c4 : wr.cell? ⟨g, 4, none⟩ = some (.int .i64 ((d : Int) + (yd : Int))) := by rw [← Int.natCast_add]; exact hR.cellAt 4 (by omega)
    have f0 := hR.frozenAt 0
    have f1 := hR.frozenAt 1
    have f2 := hR.frozenAt 2
    have f3 := hR.frozenAt 3
    have f4 := hR.frozenAt 4
    have HR := hid hR
    have HAR := hid hAr
    have HKR := hid hKr
    have HKI := hid (row_ints hKr (by unfold maxLen; omega) (bitsL_wf K hN2))
    have HAI := hid (row_ints hAr (by unfold maxLen; omega) (bitsL_wf yN hN2))
    have hlg : g < wr.heap.size := (hR.lt _ rfl).2
    have H4 := hid yb4
    have HFR := hid yfr
    clear hYe yst yend hR hAr hKr yb4 yfr
    by_cases hgo : p < N ∧ ys < W
    · obtain ⟨hpl, hyl⟩ := hgo
      have hyst := HYS.out
      simp only at hyst
      rw [if_pos hyl] at hyst
      have hpl2 := hpl
      have HPL := hid hpl2
      clear hpl2
      have k2 := shr_i64 (K := L) (p := p) (by omega)
      cases hKb : K.testBit p with
      | true =>
        rw [hKb, if_pos rfl] at hyst
        have HY := hid hyst
        have HK := hid hKb
        have HCK := hid (show Calls Try.prog 44 #[.slice ak lk ck, .int .i64 (p : Int)] wr fun e w' => e = .returned (.bool true) ∧ wr = w' by have := l1Has_any _ _ (bitsL K N) (p : Int) _ HKI.out; rw [bitsL_has HPL.out, HK.out] at this; exact this)
        clear hyst k2 hKb
        go_wp2_with (go_at_call 44; with_reducible refine HCK.out.mono ?_; rintro e w' ⟨rfl, rfl⟩)
        go_roundw
        case rel => exact ⟨p + 1, _, by omega, by rw [HY.out], by go_num, by rw [HY.out]; exact HR.out, by rw [HY.out]; simp only; rw [← HLA.out]; exact HAR.out, HKR.out, hX⟩
        case measure => simp [intOf]; omega
      | false =>
        rw [hKb, if_neg (by decide)] at hyst
        have HK := hid hKb
        have HCK := hid (show Calls Try.prog 44 #[.slice ak lk ck, .int .i64 (p : Int)] wr fun e w' => e = .returned (.bool false) ∧ wr = w' by have := l1Has_any _ _ (bitsL K N) (p : Int) _ HKI.out; rw [bitsL_has HPL.out, HK.out] at this; exact this)
        cases hLb2 : L.testBit p with
        | true =>
          rw [hLb2, if_pos rfl] at k2 hyst
          have HY := hid hyst
          clear hyst hLb2 hKb
          go_wp2_with (go_at_call 44; with_reducible refine HCK.out.mono ?_; rintro e w' ⟨rfl, rfl⟩)
          go_roundw
          case rel => exact ⟨p + 1, _, by omega, by rw [HY.out]; go_num, by go_num, by rw [HY.out]; exact HR.out, by rw [HY.out]; simp only; rw [← HLA.out]; exact HAR.out, HKR.out, hX⟩
          case measure => simp [intOf]; omega
        | false =>
          rw [hLb2, if_neg (by decide)] at k2 hyst
          cases hAb : A.testBit p with
          | true =>
            rw [hAb, if_pos rfl] at hyst
            have HY := hid hyst
            have HF := hid (HFR.out.trans hAb)
            have HCA := hid (show Calls Try.prog 44 #[.slice aa la ca, .int .i64 (p : Int)] wr fun e w' => e = .returned (.bool true) ∧ wr = w' by have := l1Has_any _ _ (bitsL yN N) (p : Int) _ HAI.out; rw [bitsL_has HPL.out, HF.out] at this; exact this)
            have st4 := hid (HR.out.stored 4 (.int .i64 ((d : Int) + (yd : Int) + 1)))
            clear hyst hLb2 hKb hAb
            go_wp2_with (first | (go_at_call 44; with_reducible refine HCK.out.mono ?_; rintro e w' ⟨rfl, rfl⟩) | (go_at_call 44; with_reducible refine HCA.out.mono ?_; rintro e w' ⟨rfl, rfl⟩))
            refine (l1Put_any (g + 1) _ _ (bitsL yN N) (p : Int) _ (row_far HAR.out _ _) (bitsL_wf yN hN2) (by omega) (by simp; omega)).mono ?_
            rintro e w2 ⟨v2, rfl, hr2, hb2⟩
            rw [bitsL_put HPL.out] at hr2
            obtain ⟨a2, e2, rfl, _, _, _⟩ := row_shape hr2
            obtain ⟨l2, hl2⟩ : ∃ l, l = (bitsL (yN ||| 2 ^ p) N).length := ⟨_, rfl⟩
            rw [← hl2] at hr2 ⊢
            have HL2 := hid hl2
            clear hl2
            have hR2 := row_ext st4.out.1 hb2
            have f0 := hR2.frozenAt 0
            have c0 : w2.cell? ⟨g, 0, none⟩ = some (.slice aa la ca) := hR2.cellAt 0 (by omega)
            have st0 := hid (hR2.stored 0 (.slice a2 l2 e2))
            have hX2 : Ext ao w2 := (hX.setCell hgw _).trans hb2
            have HKR2 := hid (row_far (row_ext (row_far HKR.out 4 (.int .i64 ((d : Int) + (yd : Int) + 1))) hb2) 0 (.slice a2 l2 e2))
            have hlg2 : g < w2.heap.size := (hR2.lt _ rfl).2
            have HR2' := hid hr2
            clear hb2 hR2 hr2
            go_wp2_with (fail)
            go_roundw
            case rel =>
              refine ⟨p + 1, _, by omega, by rw [HY.out]; go_num, by go_num, ?_, by rw [HY.out]; simp only; rw [← HL2.out]; exact row_far HR2'.out _ _, HKR2.out, hX2.setCell hgw _⟩
              rw [HY.out]
              have := st0.out.1
              simp only [spC, List.set] at this ⊢
              rw [show ((d + (yd + 1) : Nat) : Int) = (d : Int) + (yd : Int) + 1 by omega]
              exact this
            case measure => simp [intOf]; omega
          | false =>
            rw [hAb, if_neg (by decide)] at hyst
            have HY := hid hyst
            have HF := hid (HFR.out.trans hAb)
            have HCA := hid (show Calls Try.prog 44 #[.slice aa la ca, .int .i64 (p : Int)] wr fun e w' => e = .returned (.bool false) ∧ wr = w' by have := l1Has_any _ _ (bitsL yN N) (p : Int) _ HAI.out; rw [bitsL_has HPL.out, HF.out] at this; exact this)
            clear hyst hLb2 hKb hAb
            go_wp2_with (first | (go_at_call 44; with_reducible refine HCK.out.mono ?_; rintro e w' ⟨rfl, rfl⟩) | (go_at_call 44; with_reducible refine HCA.out.mono ?_; rintro e w' ⟨rfl, rfl⟩))
            refine (l1Put_any (g + 1) _ _ (bitsL yN N) (p : Int) _ HAR.out (bitsL_wf yN hN2) (by omega) (by omega)).mono ?_
            rintro e w2 ⟨v2, rfl, hr2, hb2⟩
            rw [bitsL_put HPL.out] at hr2
            obtain ⟨a2, e2, rfl, _, _, _⟩ := row_shape hr2
            obtain ⟨l2, hl2⟩ : ∃ l, l = (bitsL (yN ||| 2 ^ p) N).length := ⟨_, rfl⟩
            rw [← hl2] at hr2 ⊢
            have HL2 := hid hl2
            clear hl2
            have hR2 := row_ext HR.out hb2
            have f0 := hR2.frozenAt 0
            have c0 : w2.cell? ⟨g, 0, none⟩ = some (.slice aa la ca) := hR2.cellAt 0 (by omega)
            have st0 := hid (hR2.stored 0 (.slice a2 l2 e2))
            have hX2 : Ext ao w2 := hX.trans hb2
            have HKR2 := hid (row_far (row_ext HKR.out hb2) 0 (.slice a2 l2 e2))
            have hlg2 : g < w2.heap.size := (hR2.lt _ rfl).2
            have HR2' := hid hr2
            clear hb2 hR2 hr2
            go_wp2_with (fail)
            go_roundw
            case rel =>
              refine ⟨p + 1, _, by omega, by rw [HY.out]; go_num, by go_num, ?_, by rw [HY.out]; simp only; rw [← HL2.out]; exact row_far HR2'.out _ _, HKR2.out, hX2.setCell hgw _⟩
              rw [HY.out]
              have := st0.out.1
              simp only [spC, List.set] at this ⊢
              exact this
            case measure => simp [intOf]; omega
    · have yN2 : rdS A K L W N = ⟨ys, yN, yd⟩ := by
        by_cases h : p < N
        · have := HYN.out (by simp only; omega) (N - p)
          rw [show p + (N - p) = N by omega] at this
          exact this
        · rw [show N = p by omega]; exact HYE.out.symm
      have hq := HQ.out
      rw [yN2] at hq
      simp only at hq
      have st3 := HR.out.stored 3 (.int .i64 ((s : Int) + (ys : Int)))
      have st2 := st3.1.stored 2 (.int .i64 ((r : Int) + 1))
      have ST2 := hid st2.1
      have HAR2 := hid (row_far (row_far HAR.out 3 (.int .i64 ((s : Int) + (ys : Int)))) 2 (.int .i64 ((r : Int) + 1)))
      have HKR2 := hid (row_far (row_far HKR.out 3 (.int .i64 ((s : Int) + (ys : Int)))) 2 (.int .i64 ((r : Int) + 1)))
      clear st3 st2 yN2
      have t0 : p < N → decide (ys < W) = false := fun h => decide_eq_false (by omega)
      cases h9 : L.testBit 9 with
      | true =>
        rw [h9, if_pos rfl] at hq
        have h512 : 512 ≤ L := by have := H9E.out; rw [h9] at this; exact of_decide_eq_true this.symm
        have HN := hid hq
        clear hq h9
        by_cases hpl : p < N
        · have hyw : ¬ ys < W := by omega
          clear hgo t0
          go_wp2_with (fail)

          refine bodyPost_end (v := .tuple #[]) (by simp [results, Try.results53, go_sem]) rfl ⟨rfl, ?_, (hX.setCell hgw _).setCell hgw _⟩
          rw [HN.out]
          refine ⟨_, _, ?_, by simp only; rw [← HLA.out]; exact HAR2.out, by simp only; rw [← HLK.out]; exact HKR2.out⟩
          have := ST2.out
          simp only [spC, List.set, Int.natCast_add] at this ⊢
          exact this
        · obtain rfl : N = p := by omega
          clear hgo t0
          go_wp2_with (fail)

          refine bodyPost_end (v := .tuple #[]) (by simp [results, Try.results53, go_sem]) rfl ⟨rfl, ?_, (hX.setCell hgw _).setCell hgw _⟩
          rw [HN.out]
          refine ⟨_, _, ?_, by simp only; rw [← HLA.out]; exact HAR2.out, by simp only; rw [← HLK.out]; exact HKR2.out⟩
          have := ST2.out
          simp only [spC, List.set, Int.natCast_add] at this ⊢
          exact this
      | false =>
        rw [h9, if_neg (by decide)] at hq
        have h512 : ¬ 512 ≤ L := by have := H9E.out; rw [h9] at this; exact of_decide_eq_false this.symm
        have HN := hid hq
        clear hq h9
        by_cases hpl : p < N
        · have hyw : ¬ ys < W := by omega
          clear hgo t0
          go_wp2_with (fail)
          refine (l1Own_any _ _ (bitsL yN N) _ (row_ints HAR2.out (by unfold maxLen; omega) (bitsL_wf yN hN2)) (by omega)).mono ?_
          rintro e w2 ⟨v2, rfl, hr2, hb2⟩
          obtain ⟨a2, e2, rfl, _, _, _⟩ := row_shape hr2
          have hR2 := row_ext ST2.out hb2
          have f1 := hR2.frozenAt 1
          have c1 : w2.cell? ⟨g, 1, none⟩ = some (.slice ak lk ck) := hR2.cellAt 1 (by omega)
          have st1 := hid (hR2.stored 1 (.slice a2 la e2)).1
          have hX2 : Ext ao w2 := ((hX.setCell hgw _).setCell hgw _).trans hb2
          have HAR3 := hid (row_far (row_ext HAR2.out hb2) 1 (.slice a2 la e2))
          have hlg2 : g < w2.heap.size := (hR2.lt _ rfl).2
          have HR2' := hid (row_far (row_base hr2 (show g + 1 ≤ _ by simp; omega)) 1 (.slice a2 la e2))
          clear hb2 hR2 hr2
          go_wp2_with (fail)
          refine bodyPost_end (v := .tuple #[]) (by simp [results, Try.results53, go_sem]) rfl ⟨rfl, ?_, hX2.setCell hgw _⟩
          rw [HN.out]
          refine ⟨_, _, ?_, by simp only; rw [← HLA.out]; exact HAR3.out, by simp only; rw [← HLA.out]; exact HR2'.out⟩
          have := st1.out
          simp only [spC, List.set, Int.natCast_add] at this ⊢
          exact this
        · obtain rfl : N = p := by omega
          clear hgo t0
          go_wp2_with (fail)
          refine (l1Own_any _ _ (bitsL yN N) _ (row_ints HAR2.out (by unfold maxLen; omega) (bitsL_wf yN hN2)) (by omega)).mono ?_
          rintro e w2 ⟨v2, rfl, hr2, hb2⟩
          obtain ⟨a2, e2, rfl, _, _, _⟩ := row_shape hr2
          have hR2 := row_ext ST2.out hb2
          have f1 := hR2.frozenAt 1
          have c1 : w2.cell? ⟨g, 1, none⟩ = some (.slice ak lk ck) := hR2.cellAt 1 (by omega)
          have st1 := hid (hR2.stored 1 (.slice a2 la e2)).1
          have hX2 : Ext ao w2 := ((hX.setCell hgw _).setCell hgw _).trans hb2
          have HAR3 := hid (row_far (row_ext HAR2.out hb2) 1 (.slice a2 la e2))
          have hlg2 : g < w2.heap.size := (hR2.lt _ rfl).2
          have HR2' := hid (row_far (row_base hr2 (show g + 1 ≤ _ by simp; omega)) 1 (.slice a2 la e2))
          clear hb2 hR2 hr2
          go_wp2_with (fail)
          refine bodyPost_end (v := .tuple #[]) (by simp [results, Try.results53, go_sem]) rfl ⟨rfl, ?_, hX2.setCell hgw _⟩
          rw [HN.out]
          refine ⟨_, _, ?_, by simp only; rw [← HLA.out]; exact HAR3.out, by simp only; rw [← HLA.out]; exact HR2'.out⟩
          have := st1.out
          simp only [spC, List.set, Int.natCast_add] at this ⊢
          exact this

end Go.Proofs.Ytmmmiccpimplhaa
