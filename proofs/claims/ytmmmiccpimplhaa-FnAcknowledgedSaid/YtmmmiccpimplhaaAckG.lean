/- The chapter of acknowledgements: StatusText. No condition. -/
import Derived.Test.YtmmmiccpimplhaaAckF
namespace Go.Proofs.Ytmmmiccpimplhaa
open Go.RowKit
set_option linter.unusedSimpArgs false
set_option linter.unusedVariables false

def txV (A K p : Nat) : UInt8 := if K.testBit p = true then 107 else if A.testBit p = true then 97 else 46
def txL (A K : Nat) : Nat → List UInt8
  | 0 => []
  | p + 1 => txL A K p ++ [txV A K p]
theorem txL_length (A K : Nat) : ∀ p, (txL A K p).length = p
  | 0 => rfl
  | p + 1 => by rw [txL, List.length_append, txL_length A K p]; rfl
theorem txL_get (A K : Nat) : ∀ p j, j < p → (txL A K p)[j]? = some (txV A K j)
  | 0, j, h => absurd h (by omega)
  | p + 1, j, h => by
    rw [txL]
    by_cases e : j = p
    · subst e
      rw [List.getElem?_append_right (by rw [txL_length]; omega), txL_length]
      simp
    · rw [List.getElem?_append_left (by rw [txL_length]; omega)]
      exact txL_get A K p j (by omega)
def stT (N W : Int) (z : List Int) (n : Nat) (k : Int) : ByteArray := if askB N W z n k = true then ⟨(txL (akS N.toNat W.toNat (lfZ z n) k.toNat).A (akS N.toNat W.toNat (lfZ z n) k.toNat).K N.toNat).toArray⟩ else ⟨#[]⟩

set_option maxRecDepth 100000 in
set_option maxHeartbeats 2000000 in
theorem sStatusText_any (N W : Int) (v : Value) (n : Nat) (z : List Int) (k : Int) (w : World) (h : IntRow .i64 1 w v n z) :
    Calls Try.prog 16 #[.int .i64 N, .int .i64 W, v, .int .i64 k] w fun e w' => e = .returned (.tuple #[.string (stT N W z n k), .bool (askB N W z n k)]) ∧ Ext w w' := by
  have hh := h
  obtain ⟨hl, hm, hwf, a, c, rfl, hnc, hcm, hcell⟩ := h
  clear hwf hcell
  cases hask : askB N W z n k with
  | false =>
    rw [show stT N W z n k = ⟨#[]⟩ by unfold stT; rw [hask]; rfl]
    have HA := hid hask
    clear hask
    go_enter Try.func16, Try.ntmps16
    go_wp2_with (go_at_call 38; refine (akAsked_any _ _ _ n z _ _ hh).mono ?_; rw [HA.out]; rintro e w' ⟨rfl, rfl⟩)
    go_ret2
    exact ⟨rfl, Ext.refl _⟩
  | true =>
    obtain ⟨N, W, k, rfl, rfl, rfl, h1, h2, h3, h4, h5, h6⟩ := askB_nat hask
    rw [show stT N W z n k = ⟨(txL (akS N W (lfZ z n) k).A (akS N W (lfZ z n) k).K N).toArray⟩ by unfold stT; rw [hask, if_pos rfl, Int.toNat_natCast, Int.toNat_natCast, Int.toNat_natCast]]
    have HA := hid hask
    clear hask
    obtain ⟨X, hX⟩ : ∃ X, X = akS N W (lfZ z n) k := ⟨_, rfl⟩
    rw [← hX]
    have HX := hid hX
    clear hX
    obtain ⟨r, A, K, s, d⟩ := X
    simp only
    obtain ⟨S, hS⟩ : ∃ S : ByteArray, S = ⟨(txL A K N).toArray⟩ := ⟨_, rfl⟩
    rw [← hS]
    have HSS := hid hS
    clear hS
    go_enter Try.func16, Try.ntmps16
    go_wp2_with (go_at_call 38; refine (akAsked_any _ _ _ n z _ _ hh).mono ?_; rw [HA.out]; rintro e w' ⟨rfl, rfl⟩)
    refine (akRun_any N W k _ n z _ hh h6 h1 h2 h3 h4 (by omega)).mono ?_
    rw [← HX.out]
    rintro e w1 ⟨g, rfl, hgw, ⟨va, vk, hR, hAr, hKr⟩, hx1⟩
    simp only at hR hAr hKr
    obtain ⟨aa, ca, rfl, ha1, ha2, _⟩ := row_shape hAr
    obtain ⟨ak, ck, rfl, hk1, hk2, _⟩ := row_shape hKr
    have hlk := bitsL_len_le K N
    have hla := bitsL_len_le A N
    have HKI := hid (row_ints hKr (by unfold maxLen; omega) (bitsL_wf K h2))
    have HAI := hid (row_ints hAr (by unfold maxLen; omega) (bitsL_wf A h2))
    obtain ⟨lk, hlk2⟩ : ∃ l, l = (bitsL K N).length := ⟨_, rfl⟩
    obtain ⟨la, hla2⟩ : ∃ l, l = (bitsL A N).length := ⟨_, rfl⟩
    rw [← hlk2] at hR hk1 HKI hlk
    rw [← hla2] at hR ha1 HAI hla
    have c0 : w1.cell? ⟨g, 0, none⟩ = some (.slice aa la ca) := hR.cellAt 0 (by omega)
    have c1 : w1.cell? ⟨g, 1, none⟩ = some (.slice ak lk ck) := hR.cellAt 1 (by omega)
    have hgs : g < w1.heap.size := (hR.lt _ rfl).2
    clear hAr hKr hR hlk2 hla2
    go_wp2_with (fail)
    go_loop [11, 12] (fun q i => ∃ (p : Nat), p ≤ N ∧ q = .string ⟨(txL A K p).toArray⟩ ∧ i = .int .i64 (p : Int)) (fun _ i => N - (intOf i).toNat)
    case atStart => exact ⟨0, Nat.zero_le _, rfl, rfl⟩
    case round =>
      obtain ⟨p, hp, rfl, rfl⟩ := hrel
      obtain ⟨T, hT⟩ : ∃ T : ByteArray, T = ⟨(txL A K p).toArray⟩ := ⟨_, rfl⟩
      have hTs : T.size = p := by rw [hT]; show (txL A K p).toArray.size = p; simp [txL_length]
      have hst : ∀ x : UInt8, txV A K p = x → T ++ ⟨#[x]⟩ = ⟨(txL A K (p + 1)).toArray⟩ := fun x hx => by
        rw [hT, txL, hx]
        exact ByteArray.mk_append_mk _ _
      rw [← hT]
      have HT := hid hT
      have HST := hid hst
      clear hT hst
      have tsz : ∀ x : UInt8, (⟨#[x]⟩ : ByteArray).size = 1 := fun _ => rfl
      by_cases hlt : p < N
      · have HPL := hid hlt
        cases hKb : K.testBit p with
        | true =>
          have HV := hid (show txV A K p = 107 by unfold txV; rw [hKb]; rfl)
          have HK := hid hKb
          have HCK := hid (show Calls Try.prog 44 #[.slice ak lk ck, .int .i64 (p : Int)] w1 fun e w' => e = .returned (.bool true) ∧ w1 = w' by have := l1Has_any _ _ (bitsL K N) (p : Int) _ HKI.out; rw [bitsL_has HPL.out, HK.out] at this; exact this)
          clear hKb
          go_wp2_with (go_at_call 44; with_reducible refine HCK.out.mono ?_; rintro e w' ⟨rfl, rfl⟩)
          go_round
          case rel => exact ⟨p + 1, by omega, by rw [← HST.out _ HV.out], by go_num⟩
          case measure => simp [intOf]; omega
        | false =>
          have HK := hid hKb
          have HCK := hid (show Calls Try.prog 44 #[.slice ak lk ck, .int .i64 (p : Int)] w1 fun e w' => e = .returned (.bool false) ∧ w1 = w' by have := l1Has_any _ _ (bitsL K N) (p : Int) _ HKI.out; rw [bitsL_has HPL.out, HK.out] at this; exact this)
          cases hAb : A.testBit p with
          | true =>
            have HV := hid (show txV A K p = 97 by unfold txV; rw [hKb, hAb]; rfl)
            have HF := hid hAb
            have HCA := hid (show Calls Try.prog 44 #[.slice aa la ca, .int .i64 (p : Int)] w1 fun e w' => e = .returned (.bool true) ∧ w1 = w' by have := l1Has_any _ _ (bitsL A N) (p : Int) _ HAI.out; rw [bitsL_has HPL.out, HF.out] at this; exact this)
            clear hKb hAb
            go_wp2_with (first | (go_at_call 44; with_reducible refine HCK.out.mono ?_; rintro e w' ⟨rfl, rfl⟩) | (go_at_call 44; with_reducible refine HCA.out.mono ?_; rintro e w' ⟨rfl, rfl⟩))
            go_round
            case rel => exact ⟨p + 1, by omega, by rw [← HST.out _ HV.out], by go_num⟩
            case measure => simp [intOf]; omega
          | false =>
            have HV := hid (show txV A K p = 46 by unfold txV; rw [hKb, hAb]; rfl)
            have HF := hid hAb
            have HCA := hid (show Calls Try.prog 44 #[.slice aa la ca, .int .i64 (p : Int)] w1 fun e w' => e = .returned (.bool false) ∧ w1 = w' by have := l1Has_any _ _ (bitsL A N) (p : Int) _ HAI.out; rw [bitsL_has HPL.out, HF.out] at this; exact this)
            clear hKb hAb
            go_wp2_with (first | (go_at_call 44; with_reducible refine HCK.out.mono ?_; rintro e w' ⟨rfl, rfl⟩) | (go_at_call 44; with_reducible refine HCA.out.mono ?_; rintro e w' ⟨rfl, rfl⟩))
            go_round
            case rel => exact ⟨p + 1, by omega, by rw [← HST.out _ HV.out], by go_num⟩
            case measure => simp [intOf]; omega
      · obtain rfl : N = p := by omega
        have HE := hid (HSS.out.trans HT.out.symm)
        go_wp2_with (fail)
        go_ret2
        exact ⟨by rw [HE.out]; rfl, hx1⟩

theorem info_U8 : (Try.prog.info? 5).map (fun i => (i.zero, i.size, i.bytes)) = some (some (.int .u8 0), 1, 1) := by kernel_rfl

set_option maxRecDepth 100000 in
set_option maxHeartbeats 2000000 in
theorem iStatusText_any (N W : Int) (v : Value) (n : Nat) (z : List Int) (k : Int) (w : World) (h : IntRow .i64 1 w v n z) :
    Calls Try.prog 17 #[.int .i64 N, .int .i64 W, v, .int .i64 k] w fun e w' => e = .returned (.tuple #[.string (stT N W z n k), .bool (askB N W z n k)]) ∧ Ext w w' := by
  obtain ⟨i0, hi, hz0, hz1, hz2⟩ := info_parts info_U8
  have hh := h
  obtain ⟨hl, hm, hwf, a, c, rfl, hnc, hcm, hcell⟩ := h
  clear hwf hcell
  cases hask : askB N W z n k with
  | false =>
    rw [show stT N W z n k = ⟨#[]⟩ by unfold stT; rw [hask]; rfl]
    have HA := hid hask
    clear hask
    go_enter Try.func17, Try.ntmps17
    go_wp2_with (go_at_call 40; refine (roundsAsked_any _ _ _ n z _ _ hh).mono ?_; rw [HA.out]; rintro e w' ⟨rfl, rfl⟩)
    go_ret2
    exact ⟨rfl, Ext.refl _⟩
  | true =>
    obtain ⟨N, W, k, rfl, rfl, rfl, h1, h2, h3, h4, h5, h6⟩ := askB_nat hask
    rw [show stT N W z n k = ⟨(txL (akS N W (lfZ z n) k).A (akS N W (lfZ z n) k).K N).toArray⟩ by unfold stT; rw [hask, if_pos rfl, Int.toNat_natCast, Int.toNat_natCast, Int.toNat_natCast]]
    have HA := hid hask
    have HB := akS_bd N W (lfZ z n) k
    clear hask
    obtain ⟨X, hX⟩ : ∃ X, X = akS N W (lfZ z n) k := ⟨_, rfl⟩
    rw [← hX] at HB ⊢
    have HX := hid hX
    clear hX
    obtain ⟨r, A, K, s, d⟩ := X
    obtain ⟨hb1, hb2, hb3, hb4, hb5, hb6⟩ := HB
    simp only at hb1 hb2 hb3 hb4 hb5 hb6 ⊢
    have hpN := pow_small h2
    have bA : A < 512 := by omega
    have bK : K < 512 := by omega
    clear hb1 hb2 hb3 hb4 hb5 hb6 hpN
    obtain ⟨S, hS⟩ : ∃ S : ByteArray, S = ⟨(txL A K N).toArray⟩ := ⟨_, rfl⟩
    rw [← hS]
    have HSS := hid hS
    clear hS
    go_enter Try.func17, Try.ntmps17
    go_wp2_with (go_at_call 40; refine (roundsAsked_any _ _ _ n z _ _ hh).mono ?_; rw [HA.out]; rintro e w' ⟨rfl, rfl⟩)
    refine (runRounds_any N W k _ n z _ hh h6 h1 h2 h3 h4 (by omega)).mono ?_
    rw [← HX.out, show (akC ⟨r, A, K, s, d⟩).toArray = #[.int .u64 (A : Int), .int .u64 (K : Int), .int .i64 (r : Int), .int .i64 (s : Int), .int .i64 (d : Int)] from rfl]
    rintro e w1 ⟨rfl, hx1⟩
    have hsz1 := hx1.size
    go_wp2_with (first | (at_make; refine wpList_make_full _ rfl _ _ 36 rfl (w1.heap.size + 1) 5 i0 _ 1 Try.underlying36 hi hz0 hz1 .i64 .i64 _ _ N rfl rfl rfl rfl (by rw [hz2]; omega) (by unfold maxLen; omega) (by simp) ?_; intro w2 hown hgrow))
    have hE2 : Ext (w1.alloc (.cells #[.int .u64 (A : Int), .int .u64 (K : Int), .int .i64 (r : Int), .int .i64 (s : Int), .int .i64 (d : Int)] 54)) w2 := (Ext.refl _).of_grown hgrow
    have e0 : w2.cell? ⟨w1.heap.size, 0, none⟩ = some (.int .u64 (A : Int)) := by
      rw [(Ext.cells hE2).1 _ _ (by simp)]; simp [go_sem]
    have e1 : w2.cell? ⟨w1.heap.size, 1, none⟩ = some (.int .u64 (K : Int)) := by
      rw [(Ext.cells hE2).1 _ _ (by simp)]; simp [go_sem]
    have hx2 : Ext w w2 := (hx1.alloc _).trans hE2
    have hown2 : ∃ xs, w2.ownsRow (w1.heap.size + 1) 5 1 (.slice (some ⟨w1.heap.size + 1, 0, none⟩) N N) N xs := ⟨_, by simpa using hown⟩
    obtain ⟨xs0, hrow0⟩ := hown2
    clear hown hgrow hE2 hi hz0 hz1 hz2
    obtain ⟨gs, hgs⟩ : ∃ g, g = w1.heap.size := ⟨_, rfl⟩
    rw [← hgs] at e0 e1 hrow0 hsz1 ⊢
    have hgw : w.heap.size ≤ gs + 1 := by omega
    clear hgs
    go_loopw [12, 28] (fun q i wr => ∃ (p : Nat) (xs : List Value), p ≤ N ∧ i = .int .i64 (p : Int) ∧ wr.ownsRow (gs + 1) 5 1 (.slice (some ⟨gs + 1, 0, none⟩) N N) N xs ∧ (∀ j, j < p → xs[j]? = some (.int .u8 ((txV A K j).toNat : Int))) ∧ wr.cell? ⟨gs, 0, none⟩ = some (.int .u64 (A : Int)) ∧ wr.cell? ⟨gs, 1, none⟩ = some (.int .u64 (K : Int)) ∧ Ext w wr)
      (fun _ i _ => N - (intOf i).toNat)
    case atStart => exact ⟨0, xs0, Nat.zero_le _, rfl, hrow0, fun j hj => absurd hj (by omega), e0, e1, hx2⟩
    case round =>
      clear hrow0 e0 e1 hx2
      obtain ⟨p, xs, hp, rfl, hrow, hall, e0, e1, hX⟩ := hrel
      have HALL := hid hall
      have HROW := hid hrow
      by_cases hlt : p < N
      · obtain ⟨u0, cu, du⟩ := row_cell hrow p (by omega)
        have fu := hrow.frozenAt p
        have hxl : xs.length = N := by have := hrow.1; omega
        have HXL := hid hxl
        have hgl : gs + 1 < wr.heap.size := (hrow.lt _ rfl).2
        have k1 := shr_u64 (K := K) (p := p) (by omega)
        have k2 := shr_u64 (K := A) (p := p) (by omega)
        have step : ∀ x : UInt8, txV A K p = x → ∀ j, j < p + 1 → (xs.set p (.int .u8 (x.toNat : Int)))[j]? = some (.int .u8 ((txV A K j).toNat : Int)) := fun x hx j hj => by
          rw [List.getElem?_set]
          by_cases e : p = j
          · subst e
            rw [if_pos rfl, if_pos (by omega), hx]
          · rw [if_neg e]
            exact hall j (by omega)
        have HST := hid step
        clear hall hrow du step hxl
        cases hKb : K.testBit p with
        | true =>
          rw [hKb, if_pos rfl] at k1
          have HV := hid (show txV A K p = 107 by unfold txV; rw [hKb]; rfl)
          clear hKb k2
          go_wp2_with (fail)
          go_roundw
          case rel =>
            refine ⟨p + 1, _, by omega, by go_num, (HROW.out.stored p (.int .u8 107)).1, HST.out 107 HV.out, ?_, ?_, hX.setCell hgw _⟩
            · rw [World.cell?_setCell_other _ _ _ _ (by simp)]; exact e0
            · rw [World.cell?_setCell_other _ _ _ _ (by simp)]; exact e1
          case measure => simp [intOf]; omega
        | false =>
          rw [hKb, if_neg (by decide)] at k1
          cases hAb : A.testBit p with
          | true =>
            rw [hAb, if_pos rfl] at k2
            have HV := hid (show txV A K p = 97 by unfold txV; rw [hKb, hAb]; rfl)
            clear hKb hAb
            go_wp2_with (fail)
            go_roundw
            case rel =>
              refine ⟨p + 1, _, by omega, by go_num, (HROW.out.stored p (.int .u8 97)).1, HST.out 97 HV.out, ?_, ?_, hX.setCell hgw _⟩
              · rw [World.cell?_setCell_other _ _ _ _ (by simp)]; exact e0
              · rw [World.cell?_setCell_other _ _ _ _ (by simp)]; exact e1
            case measure => simp [intOf]; omega
          | false =>
            rw [hAb, if_neg (by decide)] at k2
            have HV := hid (show txV A K p = 46 by unfold txV; rw [hKb, hAb]; rfl)
            clear hKb hAb
            go_wp2_with (fail)
            go_roundw
            case rel =>
              refine ⟨p + 1, _, by omega, by go_num, (HROW.out.stored p (.int .u8 46)).1, HST.out 46 HV.out, ?_, ?_, hX.setCell hgw _⟩
              · rw [World.cell?_setCell_other _ _ _ _ (by simp)]; exact e0
              · rw [World.cell?_setCell_other _ _ _ _ (by simp)]; exact e1
            case measure => simp [intOf]; omega
      · obtain rfl : N = p := by omega
        have hconv := run_convert_bytes_back (P := Try.prog) wr 36 9 5 ⟨gs + 1, 0, none⟩ N (txL A K N) Try.underlying36 Try.underlying5 Try.underlying9 (fun j hj => by
            rw [txL_length] at hj
            have h1 := txL_get A K N j hj
            rw [Go.WideShapes.add_plain, Nat.zero_add, hrow.cellAt j (by omega), hall j hj]
            rw [List.getElem?_eq_getElem (by rw [txL_length]; exact hj)] at h1
            rw [Option.some.inj h1])
        rw [txL_length, ← HSS.out] at hconv
        clear hall hrow
        go_wp2_with (fail)
        go_ret2
        exact ⟨rfl, hX⟩


set_option maxHeartbeats 2000000 in
theorem walkFnExactStatusText (a0 : Int) (a1 : Int) (v0 : Value) (n0 : Nat) (z0 : List Int) (a3 : Int) (w : World) (_ : (Lit.int .i64 a0).wf = true) (_ : (Lit.int .i64 a1).wf = true) (r0 : IntRow .i64 1 w v0 n0 z0) (_ : (Lit.int .i64 a3).wf = true) :
    Calls Try.prog 5 #[.int .i64 a0, .int .i64 a1, v0, .int .i64 a3] w fun e w' => e = .returned (.bool true) ∧ Ext w w' := by
  obtain ⟨hl, hm, hwf, ad, cd, rfl, hnc, hcm, hcell⟩ := id r0
  unfold maxLen at hm
  clear hcell
  by_cases hn : n0 ≤ 1048576
  · have hnd : decide ((1048576 : Int) < n0) = false := decide_eq_false (by omega)
    have hwf := r0.2.2.1
    go_enter Try.func5, Try.ntmps5
    go_wp2_with (fail)
    refine (toIntS_any _ n0 z0 _ (r0.ext (by repeat (first | exact Ext.refl _ | assumption | refine Ext.alloc ?_ _ | refine Ext.drew ?_ | refine Ext.drewN ?_ _ | refine Ext.setCell ?_ (by first | exact Nat.le_refl _ | (simp; done) | (dsimp only; omega) | (simp only [World.size_alloc, World.size_setCell]; omega)) _ | refine Ext.trans ?_ (by assumption)))) hn).mono ?_
    rintro e w1 ⟨g1, rfl, hr1, hb1⟩
    go_wp2_with (fail)
    refine (sStatusText_any a0 a1 _ n0 z0 a3 _ (row_ints (row_ext hr1 (by repeat (first | exact Ext.refl _ | assumption | refine Ext.alloc ?_ _ | refine Ext.drew ?_ | refine Ext.drewN ?_ _ | refine Ext.setCell ?_ (by first | exact Nat.le_refl _ | (simp; done) | (dsimp only; omega) | (simp only [World.size_alloc, World.size_setCell]; omega)) _ | refine Ext.trans ?_ (by assumption)))) (by unfold maxLen; omega) hwf)).mono ?_
    rintro e w2 ⟨rfl, hb2⟩
    go_wp2_with (fail)
    refine (toIntS_any _ n0 z0 _ (r0.ext (by repeat (first | exact Ext.refl _ | assumption | refine Ext.alloc ?_ _ | refine Ext.drew ?_ | refine Ext.drewN ?_ _ | refine Ext.setCell ?_ (by first | exact Nat.le_refl _ | (simp; done) | (dsimp only; omega) | (simp only [World.size_alloc, World.size_setCell]; omega)) _ | refine Ext.trans ?_ (by assumption)))) hn).mono ?_
    rintro e w3 ⟨g3, rfl, hr3, hb3⟩
    go_wp2_with (fail)
    refine (iStatusText_any a0 a1 _ n0 z0 a3 _ (row_ints (row_ext hr3 (by repeat (first | exact Ext.refl _ | assumption | refine Ext.alloc ?_ _ | refine Ext.drew ?_ | refine Ext.drewN ?_ _ | refine Ext.setCell ?_ (by first | exact Nat.le_refl _ | (simp; done) | (dsimp only; omega) | (simp only [World.size_alloc, World.size_setCell]; omega)) _ | refine Ext.trans ?_ (by assumption)))) (by unfold maxLen; omega) hwf)).mono ?_
    rintro e w4 ⟨rfl, hb4⟩
    go_wp2_with (fail)
    refine (toIntS_any _ n0 z0 _ (r0.ext (by repeat (first | exact Ext.refl _ | assumption | refine Ext.alloc ?_ _ | refine Ext.drew ?_ | refine Ext.drewN ?_ _ | refine Ext.setCell ?_ (by first | exact Nat.le_refl _ | (simp; done) | (dsimp only; omega) | (simp only [World.size_alloc, World.size_setCell]; omega)) _ | refine Ext.trans ?_ (by assumption)))) hn).mono ?_
    rintro e w5 ⟨g5, rfl, hr5, hb5⟩
    go_wp2_with (fail)
    refine (eqIntS_same _ _ n0 z0 _ (row_ints (row_ext hr3 (by repeat (first | exact Ext.refl _ | assumption | refine Ext.alloc ?_ _ | refine Ext.drew ?_ | refine Ext.drewN ?_ _ | refine Ext.setCell ?_ (by first | exact Nat.le_refl _ | (simp; done) | (dsimp only; omega) | (simp only [World.size_alloc, World.size_setCell]; omega)) _ | refine Ext.trans ?_ (by assumption)))) (by unfold maxLen; omega) hwf) (row_ints (row_ext hr5 (by repeat (first | exact Ext.refl _ | assumption | refine Ext.alloc ?_ _ | refine Ext.drew ?_ | refine Ext.drewN ?_ _ | refine Ext.setCell ?_ (by first | exact Nat.le_refl _ | (simp; done) | (dsimp only; omega) | (simp only [World.size_alloc, World.size_setCell]; omega)) _ | refine Ext.trans ?_ (by assumption)))) (by unfold maxLen; omega) hwf)).mono ?_
    rintro e w6 ⟨rfl, hb6⟩
    go_wp2_with (fail)
    go_ret
    exact ⟨rfl, (by repeat (first | exact Ext.refl _ | assumption | refine Ext.alloc ?_ _ | refine Ext.drew ?_ | refine Ext.drewN ?_ _ | refine Ext.setCell ?_ (by first | exact Nat.le_refl _ | (simp; done) | (dsimp only; omega) | (simp only [World.size_alloc, World.size_setCell]; omega)) _ | refine Ext.trans ?_ (by assumption)))⟩
  · have hnd : decide ((1048576 : Int) < n0) = true := decide_eq_true (by omega)
    go_enter Try.func5, Try.ntmps5
    go_wp2_with (fail)
    go_ret
    exact ⟨rfl, Ext.refl _⟩


end Go.Proofs.Ytmmmiccpimplhaa