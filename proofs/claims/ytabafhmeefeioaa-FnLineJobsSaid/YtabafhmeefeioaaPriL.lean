/- The chapter of priorities: the statements on segments and breaks. No condition. -/
import Derived.Test.YtabafhmeefeioaaPriK
namespace Go.Proofs.Ytabafhmeefeioaa
open Go.RowKit
set_option linter.unusedSimpArgs false
set_option linter.unusedVariables false

def segV (z : List Int) (n : Nat) : List (List Int) := if okJs z n = true then segJ z n else []
theorem segJ_inv {z : List Int} {n : Nat} (h : okJs z n = true) : (segJ z n).length ≤ 680 ∧ ∀ x ∈ segJ z n, ∃ i a b : Int, x = [i, a, b] ∧ 0 ≤ i ∧ i < n ∧ 0 ≤ a ∧ a < b ∧ b ≤ 680 := by
  have hN := endT_le h
  obtain ⟨h1, h2, _, _⟩ := sgZ_inv (T := tickB z n) (n := (n : Int)) (fun t => (tick_range z n t).2) (endT z n)
  unfold segJ
  refine ⟨by omega, fun x hx => ?_⟩
  obtain ⟨i, a, b, e, h3⟩ := h2 x hx
  exact ⟨i, a, b, e, by omega⟩
theorem segV_inv (z : List Int) (n : Nat) : (segV z n).length ≤ 1000 ∧ ∀ x ∈ segV z n, ∀ y ∈ x, (Lit.int .i64 y).wf = true := by
  unfold segV
  by_cases h : okJs z n = true
  · rw [if_pos h]
    obtain ⟨h1, h2⟩ := segJ_inv h
    have hn := okJs_n h
    refine ⟨by omega, fun x hx y hy => ?_⟩
    obtain ⟨i, a, b, rfl, h3⟩ := h2 x hx
    simp only [List.mem_cons, List.not_mem_nil, or_false] at hy
    rcases hy with rfl | rfl | rfl <;> exact small_wf (by omega) (by omega)
  · rw [if_neg h]
    simp

/-- how often each job was interrupted, of the first j segments -/
def brkF (S : List (List Int)) (n : Nat) : Nat → List Int
  | 0 => List.replicate n (-1)
  | j + 1 => (brkF S n j).set ((S.getD j []).getD 0 0).toNat ((brkF S n j).getD ((S.getD j []).getD 0 0).toNat 0 + 1)
theorem brkF_inv (S : List (List Int)) (n : Nat) : ∀ j, (brkF S n j).length = n ∧ ∀ x ∈ brkF S n j, -1 ≤ x ∧ x ≤ j
  | 0 => by
    refine ⟨by simp [brkF], fun x hx => ?_⟩
    simp only [brkF, List.mem_replicate] at hx
    omega
  | j + 1 => by
    obtain ⟨h1, h2⟩ := brkF_inv S n j
    rw [brkF]
    refine ⟨by simpa using h1, fun x hx => ?_⟩
    rcases List.mem_or_eq_of_mem_set hx with hx | rfl
    · have := h2 x hx
      omega
    · by_cases c : ((S.getD j []).getD 0 0).toNat < (brkF S n j).length
      · have := h2 _ (getD_mem c)
        omega
      · rw [List.getD_eq_getElem?_getD, List.getElem?_eq_none (by omega)]
        simp
        omega
def brkJ (z : List Int) (n : Nat) : List Int := brkF (segJ z n) n (segJ z n).length
def brkV (z : List Int) (n : Nat) : List Int := if okJs z n = true then brkJ z n else []
theorem brkJ_len (z : List Int) (n : Nat) : (brkJ z n).length = n := (brkF_inv _ n _).1
theorem brkV_wf (z : List Int) (n : Nat) : ∀ x ∈ brkV z n, (Lit.int .i64 x).wf = true := by
  unfold brkV
  by_cases h : okJs z n = true
  · rw [if_pos h]
    intro x hx
    have := (brkF_inv (segJ z n) n (segJ z n).length).2 x hx
    have := (segJ_inv h).1
    exact small_wf (by omega) (by omega)
  · rw [if_neg h]
    simp
theorem brkV_len (z : List Int) (n : Nat) : (brkV z n).length ≤ 12 := by
  unfold brkV
  by_cases h : okJs z n = true
  · rw [if_pos h, brkJ_len]
    exact okJs_n h
  · rw [if_neg h]
    simp

set_option maxHeartbeats 800000 in
theorem sSegmentsOf_any (v : Value) (n : Nat) (z : List Int) (w : World) (h : IntRow .i64 3 w v n z) :
    Calls Try.prog 41 #[v] w fun e w' => ∃ v' gs, e = .returned (.tuple #[v', .bool (okJs z n)]) ∧ Lists w' w.heap.size v' 3 gs (segV z n) ∧ Ext w w' := by
  by_cases hok : okJs z n = true
  · have HV := hid (show segV z n = segJ z n by unfold segV; rw [if_pos hok])
    have HOK := hid hok
    rw [HV.out, hok]
    clear hok
    go_enter Try.func41, Try.ntmps41
    go_wp2_with (fail)
    refine (prGood_any v n z w h).mono ?_
    rw [HOK.out]
    rintro e w1 ⟨rfl, hb1⟩
    go_wp2_with (fail)
    refine (sSegs_any v n z _ (h.ext (by repeat (first | exact Ext.refl _ | assumption | refine Ext.alloc ?_ _ | refine Ext.drew ?_ | refine Ext.drewN ?_ _ | refine Ext.setCell ?_ (by first | exact Nat.le_refl _ | (simp; done) | (dsimp only; omega) | (simp only [World.size_alloc, World.size_setCell]; omega)) _ | refine Ext.trans ?_ (by assumption)))) HOK.out).mono ?_
    rintro e w2 ⟨v', gs, rfl, hr, hb2⟩
    go_wp2_with (fail)
    go_ret2
    exact ⟨_, gs, rfl, hr.mono hb1.size, (by repeat (first | exact Ext.refl _ | assumption | refine Ext.alloc ?_ _ | refine Ext.drew ?_ | refine Ext.drewN ?_ _ | refine Ext.setCell ?_ (by first | exact Nat.le_refl _ | (simp; done) | (dsimp only; omega) | (simp only [World.size_alloc, World.size_setCell]; omega)) _ | refine Ext.trans ?_ (by assumption)))⟩
  · have hok : okJs z n = false := by simpa using hok
    have HV := hid (show segV z n = [] by unfold segV; rw [if_neg (by rw [hok]; decide)])
    have HOK := hid hok
    rw [HV.out, hok]
    clear hok
    go_enter Try.func41, Try.ntmps41
    go_wp2_with (fail)
    refine (prGood_any v n z w h).mono ?_
    rw [HOK.out]
    rintro e w1 ⟨rfl, hb1⟩
    go_wp2_with (fail)
    go_ret2
    exact ⟨_, [], rfl, Lists.nil _ _ _, (by repeat (first | exact Ext.refl _ | assumption | refine Ext.alloc ?_ _ | refine Ext.drew ?_ | refine Ext.drewN ?_ _ | refine Ext.setCell ?_ (by first | exact Nat.le_refl _ | (simp; done) | (dsimp only; omega) | (simp only [World.size_alloc, World.size_setCell]; omega)) _ | refine Ext.trans ?_ (by assumption)))⟩

set_option maxHeartbeats 800000 in
theorem iSegmentsOf_any (v : Value) (n : Nat) (z : List Int) (w : World) (h : IntRow .i64 3 w v n z) :
    Calls Try.prog 42 #[v] w fun e w' => ∃ v' gs, e = .returned (.tuple #[v', .bool (okJs z n)]) ∧ Lists w' w.heap.size v' 3 gs (segV z n) ∧ Ext w w' := by
  by_cases hok : okJs z n = true
  · have HV := hid (show segV z n = segJ z n by unfold segV; rw [if_pos hok])
    have HOK := hid hok
    rw [HV.out, hok]
    clear hok
    go_enter Try.func42, Try.ntmps42
    go_wp2_with (fail)
    refine (iAreLineJobs_any v n z w h).mono ?_
    rw [HOK.out]
    rintro e w1 ⟨rfl, hb1⟩
    go_wp2_with (fail)
    refine (iSegs_any v n z _ (h.ext (by repeat (first | exact Ext.refl _ | assumption | refine Ext.alloc ?_ _ | refine Ext.drew ?_ | refine Ext.drewN ?_ _ | refine Ext.setCell ?_ (by first | exact Nat.le_refl _ | (simp; done) | (dsimp only; omega) | (simp only [World.size_alloc, World.size_setCell]; omega)) _ | refine Ext.trans ?_ (by assumption)))) HOK.out).mono ?_
    rintro e w2 ⟨v', gs, rfl, hr, hb2⟩
    go_wp2_with (fail)
    go_ret2
    exact ⟨_, gs, rfl, hr.mono hb1.size, (by repeat (first | exact Ext.refl _ | assumption | refine Ext.alloc ?_ _ | refine Ext.drew ?_ | refine Ext.drewN ?_ _ | refine Ext.setCell ?_ (by first | exact Nat.le_refl _ | (simp; done) | (dsimp only; omega) | (simp only [World.size_alloc, World.size_setCell]; omega)) _ | refine Ext.trans ?_ (by assumption)))⟩
  · have hok : okJs z n = false := by simpa using hok
    have HV := hid (show segV z n = [] by unfold segV; rw [if_neg (by rw [hok]; decide)])
    have HOK := hid hok
    rw [HV.out, hok]
    clear hok
    go_enter Try.func42, Try.ntmps42
    go_wp2_with (fail)
    refine (iAreLineJobs_any v n z w h).mono ?_
    rw [HOK.out]
    rintro e w1 ⟨rfl, hb1⟩
    go_wp2_with (fail)
    go_ret2
    exact ⟨_, [], rfl, Lists.nil _ _ _, (by repeat (first | exact Ext.refl _ | assumption | refine Ext.alloc ?_ _ | refine Ext.drew ?_ | refine Ext.drewN ?_ _ | refine Ext.setCell ?_ (by first | exact Nat.le_refl _ | (simp; done) | (dsimp only; omega) | (simp only [World.size_alloc, World.size_setCell]; omega)) _ | refine Ext.trans ?_ (by assumption)))⟩

set_option maxHeartbeats 1600000 in
theorem sBreaksOf_any (v : Value) (n : Nat) (z : List Int) (w : World) (h : IntRow .i64 3 w v n z) :
    Calls Try.prog 39 #[v] w fun e w' => ∃ v', e = .returned (.tuple #[v', .bool (okJs z n)]) ∧ w'.ownsRow w.heap.size 3 1 v' ((brkV z n).length / 1) ((brkV z n).map (Value.int .i64)) ∧ Ext w w' := by
  by_cases hok : okJs z n = true
  · obtain ⟨i0, hi, hz0, hz1, hz2⟩ := info_parts info_Int
    have HV := hid (show brkV z n = brkJ z n by unfold brkV; rw [if_pos hok])
    have HOK := hid hok
    have hn := okJs_n hok
    rw [HV.out, hok, brkJ_len, Nat.div_one]
    clear hok
    have hh := h
    obtain ⟨hl, hm, hwf, a, c, rfl, hnc, hcm, hcell⟩ := h
    clear hwf hcell
    go_enter Try.func39, Try.ntmps39
    go_wp2_with (fail)
    refine (prGood_any _ n z w hh).mono ?_
    rw [HOK.out]
    rintro e w1 ⟨rfl, hb1⟩
    have hs1 := hb1.size
    go_wp2_with (first | (at_make; refine wpList_make_full _ rfl _ _ 38 rfl w1.heap.size 3 i0 _ 1 Try.underlying38 hi hz0 hz1 .i64 .i64 _ _ n rfl rfl rfl rfl (by rw [hz2]; omega) (by unfold maxLen; omega) (Nat.le_refl _) ?_; intro w2 hown hgrow))
    have hE2 : Ext w w2 := hb1.of_grown hgrow
    rw [made_ints] at hown
    go_loopw [16] (fun i wr => ∃ (k : Nat) (xs : List Value), k ≤ n ∧ i = .int .i64 (k : Int) ∧ wr.ownsRow w1.heap.size 3 1 (.slice (some ⟨w1.heap.size, 0, none⟩) n n) n xs ∧ (∀ j, j < k → xs[j]? = some (.int .i64 (-1))) ∧ Ext w wr)
      (fun i _ => n - (intOf i).toNat)
    case atStart => exact ⟨0, _, Nat.zero_le _, rfl, hown, fun j hj => absurd hj (by omega), hE2⟩
    case round =>
      clear hown hE2
      obtain ⟨k, xs, hk, rfl, hrow, hpre, hE⟩ := hrel
      have HP := hid hpre
      clear hpre
      by_cases hlt : k < n
      · obtain ⟨u0, c0, d0⟩ := row_cell hrow k (by omega)
        have f0 := hrow.frozenAt k
        clear d0
        go_wp2_with (fail)
        go_roundw
        case rel =>
          refine ⟨k + 1, _, by omega, by go_num, (hrow.stored k (.int .i64 (-1))).1, fun j hj => ?_, hE.setCell hs1 _⟩
          rw [List.getElem?_set]
          by_cases e : k = j
          · rw [if_pos e, if_pos (by have := hrow.1; omega)]
          · rw [if_neg e]
            exact HP.out j (by omega)
        case measure => simp [intOf]; omega
      · obtain rfl : n = k := by omega
        have e0 : xs = (brkF (segJ z n) n 0).map (Value.int .i64) := list_full hrow.1 (by simp [brkF]) fun j hj => by rw [HP.out j (by omega)]; simp [brkF, show j < n by omega]
        subst e0
        obtain ⟨wo, rfl⟩ : ∃ wo : World, wo = wr := ⟨_, rfl⟩
        go_wp2_with (fail)
        refine (sSegs_any _ n z _ (hh.ext hE) HOK.out).mono ?_
        rintro e w3 ⟨vs, gs, rfl, hs, hb3⟩
        have hrow3 := row_ext hrow hb3
        have hE3 : Ext w w3 := hE.trans hb3
        have hlt0 := (hrow.lt _ rfl).2
        obtain ⟨a2, c2, rfl, hnc2, hcm2, hG⟩ := hs.shape
        have hgl := hs.len
        obtain ⟨S, hS⟩ : ∃ S, S = segJ z n := ⟨_, rfl⟩
        have HS := hid hS
        have hSi := segJ_inv HOK.out
        rw [← hS] at hs hgl hSi hrow3
        obtain ⟨hS1, hS2⟩ := hSi
        have HS2 := hid hS2
        have HGL := hid hgl
        have hgn : gs.length ≤ 680 := by omega
        clear hrow hS2 hS hgl hE
        go_wp2_with (fail)
        go_loopw [26] (fun i wr => ∃ (k : Nat), k ≤ gs.length ∧ i = .int .i64 (k : Int) ∧ wr.ownsRow w1.heap.size 3 1 (.slice (some ⟨w1.heap.size, 0, none⟩) n n) n ((brkF S n k).map (Value.int .i64)) ∧ Lists wr wo.heap.size (.slice a2 gs.length c2) 3 gs S ∧ Ext w wr)
          (fun i _ => gs.length - (intOf i).toNat)
        case atStart => exact ⟨0, Nat.zero_le _, rfl, hrow3, hs, hE3⟩
        case round =>
          clear hrow3 hs hE3
          obtain ⟨k, hk, rfl, hrow, hs, hE⟩ := hrel
          by_cases hlt : k < gs.length
          · obtain ⟨G, rfl, _, _⟩ := hG.resolve_left (by omega)
            have s0 := hs.at_ hlt rfl
            have s1 := hs.icell (j := 0) hlt (by omega)
            have hmem : S.getD k [] ∈ S := by rw [List.getD_eq_getElem?_getD, List.getElem?_eq_getElem (by have := HGL.out; omega)]; exact List.getElem_mem _
            obtain ⟨q, qa, qb, qe, q1, q2, q3, q4, q5⟩ := HS2.out _ hmem
            rw [qe] at s1
            simp only [List.getD_cons_zero] at s1
            obtain ⟨m, rfl⟩ := Int.eq_ofNat_of_zero_le q1
            have hbi := brkF_inv S n k
            obtain ⟨y, hy⟩ : ∃ y, y = (brkF S n k).getD m 0 := ⟨_, rfl⟩
            have yb := hbi.2 _ (getD_mem (l := brkF S n k) (i := m) (by rw [hbi.1]; omega))
            rw [← hy] at yb
            have sy : wr.cell? ⟨w1.heap.size, m, none⟩ = some (.int .i64 y) := by rw [hrow.cellAt m (by omega), map_getD (by rw [hbi.1]; omega), hy]
            have fy := hrow.frozenAt m
            have hst : brkF S n (k + 1) = (brkF S n k).set m (y + 1) := by rw [brkF, qe]; simp only [List.getD_cons_zero, Int.toNat_natCast]; rw [hy]
            have HST := hid hst
            obtain ⟨b, hb⟩ : ∃ b, b = gs.getD k 0 := ⟨_, rfl⟩
            rw [← hb] at s0 s1
            have HLs := hid hs
            have HROW := hid hrow
            clear hst hb hy qe hmem hbi hG hs
            go_wp2_with (fail)
            go_roundw
            case rel =>
              have r0 := HROW.out.stored m (.int .i64 (y + 1))
              refine ⟨k + 1, by omega, by go_num, ?_, HLs.out.far r0.2 (fun j hj => by simp at hj; omega), hE.setCell hs1 _⟩
              rw [HST.out, ← map_set_int]
              exact r0.1
            case measure => simp [intOf]; omega
          · obtain rfl : k = gs.length := by omega
            have HROW := hid hrow
            clear hG hs hrow
            go_wp2_with (fail)
            go_ret2
            refine ⟨_, rfl, ?_, hE⟩
            unfold brkJ
            rw [← HS.out, ← HGL.out]
            exact row_mono HROW.out hs1
  · have hok : okJs z n = false := by simpa using hok
    have HV := hid (show brkV z n = [] by unfold brkV; rw [if_neg (by rw [hok]; decide)])
    have HOK := hid hok
    rw [HV.out, hok]
    clear hok
    go_enter Try.func39, Try.ntmps39
    go_wp2_with (fail)
    refine (prGood_any v n z w h).mono ?_
    rw [HOK.out]
    rintro e w1 ⟨rfl, hb1⟩
    go_wp2_with (fail)
    go_ret2
    exact ⟨_, rfl, World.ownsRow_nil _ _ _ _, (by repeat (first | exact Ext.refl _ | assumption | refine Ext.alloc ?_ _ | refine Ext.drew ?_ | refine Ext.drewN ?_ _ | refine Ext.setCell ?_ (by first | exact Nat.le_refl _ | (simp; done) | (dsimp only; omega) | (simp only [World.size_alloc, World.size_setCell]; omega)) _ | refine Ext.trans ?_ (by assumption)))⟩

set_option maxHeartbeats 1600000 in
theorem iBreaksOf_any (v : Value) (n : Nat) (z : List Int) (w : World) (h : IntRow .i64 3 w v n z) :
    Calls Try.prog 40 #[v] w fun e w' => ∃ v', e = .returned (.tuple #[v', .bool (okJs z n)]) ∧ w'.ownsRow w.heap.size 3 1 v' ((brkV z n).length / 1) ((brkV z n).map (Value.int .i64)) ∧ Ext w w' := by
  by_cases hok : okJs z n = true
  · obtain ⟨i0, hi, hz0, hz1, hz2⟩ := info_parts info_Int
    have HV := hid (show brkV z n = brkJ z n by unfold brkV; rw [if_pos hok])
    have HOK := hid hok
    have hn := okJs_n hok
    rw [HV.out, hok, brkJ_len, Nat.div_one]
    clear hok
    have hh := h
    obtain ⟨hl, hm, hwf, a, c, rfl, hnc, hcm, hcell⟩ := h
    clear hwf hcell
    go_enter Try.func40, Try.ntmps40
    go_wp2_with (fail)
    refine (iAreLineJobs_any _ n z w hh).mono ?_
    rw [HOK.out]
    rintro e w1 ⟨rfl, hb1⟩
    have hs1 := hb1.size
    go_wp2_with (first | (at_make; refine wpList_make_full _ rfl _ _ 38 rfl w1.heap.size 3 i0 _ 1 Try.underlying38 hi hz0 hz1 .i64 .i64 _ _ n rfl rfl rfl rfl (by rw [hz2]; omega) (by unfold maxLen; omega) (Nat.le_refl _) ?_; intro w2 hown hgrow))
    have hE2 : Ext w w2 := hb1.of_grown hgrow
    rw [made_ints] at hown
    go_loopw [16] (fun i wr => ∃ (k : Nat) (xs : List Value), k ≤ n ∧ i = .int .i64 (k : Int) ∧ wr.ownsRow w1.heap.size 3 1 (.slice (some ⟨w1.heap.size, 0, none⟩) n n) n xs ∧ (∀ j, j < k → xs[j]? = some (.int .i64 (-1))) ∧ Ext w wr)
      (fun i _ => n - (intOf i).toNat)
    case atStart => exact ⟨0, _, Nat.zero_le _, rfl, hown, fun j hj => absurd hj (by omega), hE2⟩
    case round =>
      clear hown hE2
      obtain ⟨k, xs, hk, rfl, hrow, hpre, hE⟩ := hrel
      have HP := hid hpre
      clear hpre
      by_cases hlt : k < n
      · obtain ⟨u0, c0, d0⟩ := row_cell hrow k (by omega)
        have f0 := hrow.frozenAt k
        clear d0
        go_wp2_with (fail)
        go_roundw
        case rel =>
          refine ⟨k + 1, _, by omega, by go_num, (hrow.stored k (.int .i64 (-1))).1, fun j hj => ?_, hE.setCell hs1 _⟩
          rw [List.getElem?_set]
          by_cases e : k = j
          · rw [if_pos e, if_pos (by have := hrow.1; omega)]
          · rw [if_neg e]
            exact HP.out j (by omega)
        case measure => simp [intOf]; omega
      · obtain rfl : n = k := by omega
        have e0 : xs = (brkF (segJ z n) n 0).map (Value.int .i64) := list_full hrow.1 (by simp [brkF]) fun j hj => by rw [HP.out j (by omega)]; simp [brkF, show j < n by omega]
        subst e0
        obtain ⟨wo, rfl⟩ : ∃ wo : World, wo = wr := ⟨_, rfl⟩
        go_wp2_with (fail)
        refine (iSegs_any _ n z _ (hh.ext hE) HOK.out).mono ?_
        rintro e w3 ⟨vs, gs, rfl, hs, hb3⟩
        have hrow3 := row_ext hrow hb3
        have hE3 : Ext w w3 := hE.trans hb3
        have hlt0 := (hrow.lt _ rfl).2
        obtain ⟨a2, c2, rfl, hnc2, hcm2, hG⟩ := hs.shape
        have hgl := hs.len
        obtain ⟨S, hS⟩ : ∃ S, S = segJ z n := ⟨_, rfl⟩
        have HS := hid hS
        have hSi := segJ_inv HOK.out
        rw [← hS] at hs hgl hSi hrow3
        obtain ⟨hS1, hS2⟩ := hSi
        have HS2 := hid hS2
        have HGL := hid hgl
        have hgn : gs.length ≤ 680 := by omega
        clear hrow hS2 hS hgl hE
        go_wp2_with (fail)
        go_loopw [26] (fun i wr => ∃ (k : Nat), k ≤ gs.length ∧ i = .int .i64 (k : Int) ∧ wr.ownsRow w1.heap.size 3 1 (.slice (some ⟨w1.heap.size, 0, none⟩) n n) n ((brkF S n k).map (Value.int .i64)) ∧ Lists wr wo.heap.size (.slice a2 gs.length c2) 3 gs S ∧ Ext w wr)
          (fun i _ => gs.length - (intOf i).toNat)
        case atStart => exact ⟨0, Nat.zero_le _, rfl, hrow3, hs, hE3⟩
        case round =>
          clear hrow3 hs hE3
          obtain ⟨k, hk, rfl, hrow, hs, hE⟩ := hrel
          by_cases hlt : k < gs.length
          · obtain ⟨G, rfl, _, _⟩ := hG.resolve_left (by omega)
            have s0 := hs.at_ hlt rfl
            have s1 := hs.icell (j := 0) hlt (by omega)
            have hmem : S.getD k [] ∈ S := by rw [List.getD_eq_getElem?_getD, List.getElem?_eq_getElem (by have := HGL.out; omega)]; exact List.getElem_mem _
            obtain ⟨q, qa, qb, qe, q1, q2, q3, q4, q5⟩ := HS2.out _ hmem
            rw [qe] at s1
            simp only [List.getD_cons_zero] at s1
            obtain ⟨m, rfl⟩ := Int.eq_ofNat_of_zero_le q1
            have hbi := brkF_inv S n k
            obtain ⟨y, hy⟩ : ∃ y, y = (brkF S n k).getD m 0 := ⟨_, rfl⟩
            have yb := hbi.2 _ (getD_mem (l := brkF S n k) (i := m) (by rw [hbi.1]; omega))
            rw [← hy] at yb
            have sy : wr.cell? ⟨w1.heap.size, m, none⟩ = some (.int .i64 y) := by rw [hrow.cellAt m (by omega), map_getD (by rw [hbi.1]; omega), hy]
            have fy := hrow.frozenAt m
            have hst : brkF S n (k + 1) = (brkF S n k).set m (y + 1) := by rw [brkF, qe]; simp only [List.getD_cons_zero, Int.toNat_natCast]; rw [hy]
            have HST := hid hst
            obtain ⟨b, hb⟩ : ∃ b, b = gs.getD k 0 := ⟨_, rfl⟩
            rw [← hb] at s0 s1
            have HLs := hid hs
            have HROW := hid hrow
            clear hst hb hy qe hmem hbi hG hs
            go_wp2_with (fail)
            go_roundw
            case rel =>
              have r0 := HROW.out.stored m (.int .i64 (y + 1))
              refine ⟨k + 1, by omega, by go_num, ?_, HLs.out.far r0.2 (fun j hj => by simp at hj; omega), hE.setCell hs1 _⟩
              rw [HST.out, ← map_set_int]
              exact r0.1
            case measure => simp [intOf]; omega
          · obtain rfl : k = gs.length := by omega
            have HROW := hid hrow
            clear hG hs hrow
            go_wp2_with (fail)
            go_ret2
            refine ⟨_, rfl, ?_, hE⟩
            unfold brkJ
            rw [← HS.out, ← HGL.out]
            exact row_mono HROW.out hs1
  · have hok : okJs z n = false := by simpa using hok
    have HV := hid (show brkV z n = [] by unfold brkV; rw [if_neg (by rw [hok]; decide)])
    have HOK := hid hok
    rw [HV.out, hok]
    clear hok
    go_enter Try.func40, Try.ntmps40
    go_wp2_with (fail)
    refine (iAreLineJobs_any v n z w h).mono ?_
    rw [HOK.out]
    rintro e w1 ⟨rfl, hb1⟩
    go_wp2_with (fail)
    go_ret2
    exact ⟨_, rfl, World.ownsRow_nil _ _ _ _, (by repeat (first | exact Ext.refl _ | assumption | refine Ext.alloc ?_ _ | refine Ext.drew ?_ | refine Ext.drewN ?_ _ | refine Ext.setCell ?_ (by first | exact Nat.le_refl _ | (simp; done) | (dsimp only; omega) | (simp only [World.size_alloc, World.size_setCell]; omega)) _ | refine Ext.trans ?_ (by assumption)))⟩

set_option maxHeartbeats 2000000 in
theorem walkFnExactSegmentsOf (v0 : Value) (n0 : Nat) (z0 : List Int) (w : World) (r0 : IntRow .i64 3 w v0 n0 z0) :
    Calls Try.prog 12 #[v0] w fun e w' => e = .returned (.bool true) ∧ Ext w w' := by
  have hsz := szLineJobS_any v0 n0 z0 w 1048576 r0 (by omega) (by omega)
  by_cases hn : n0 ≤ 1048576
  · rw [if_pos (by omega)] at hsz
    have hwf := r0.2.2.1
    obtain ⟨L, hL⟩ : ∃ L, L = segV z0 n0 := ⟨_, rfl⟩
    have hLw : L.length ≤ 1000 ∧ ∀ x ∈ L, ∀ y ∈ x, (Lit.int .i64 y).wf = true := by rw [hL]; exact segV_inv z0 n0
    obtain ⟨hLl, hLw⟩ := hLw
    have HLW := hid hLw
    clear hLw
    go_enter Try.func12, Try.ntmps12
    go_wp2_with (fail)
    refine hsz.mono ?_
    rintro e w' ⟨rfl, rfl⟩
    go_wp2_with (fail)
    refine (toLineJobS_any _ n0 z0 _ (r0.ext (by repeat (first | exact Ext.refl _ | assumption | refine Ext.alloc ?_ _ | refine Ext.drew ?_ | refine Ext.drewN ?_ _ | refine Ext.setCell ?_ (by first | exact Nat.le_refl _ | (simp; done) | (dsimp only; omega) | (simp only [World.size_alloc, World.size_setCell]; omega)) _ | refine Ext.trans ?_ (by assumption)))) hn).mono ?_
    rintro e w1 ⟨g1, rfl, hr1, hb1⟩
    go_wp2_with (fail)
    refine (sSegmentsOf_any _ n0 z0 _ (row_ints (row_ext hr1 (by repeat (first | exact Ext.refl _ | assumption | refine Ext.alloc ?_ _ | refine Ext.drew ?_ | refine Ext.drewN ?_ _ | refine Ext.setCell ?_ (by first | exact Nat.le_refl _ | (simp; done) | (dsimp only; omega) | (simp only [World.size_alloc, World.size_setCell]; omega)) _ | refine Ext.trans ?_ (by assumption)))) (by unfold maxLen; omega) hwf)).mono ?_
    rintro e w2 ⟨vw, gw, rfl, hrw, hb2⟩
    rw [← hL] at hrw
    go_wp2_with (fail)
    refine (toLineJobS_any _ n0 z0 _ (r0.ext (by repeat (first | exact Ext.refl _ | assumption | refine Ext.alloc ?_ _ | refine Ext.drew ?_ | refine Ext.drewN ?_ _ | refine Ext.setCell ?_ (by first | exact Nat.le_refl _ | (simp; done) | (dsimp only; omega) | (simp only [World.size_alloc, World.size_setCell]; omega)) _ | refine Ext.trans ?_ (by assumption)))) hn).mono ?_
    rintro e w3 ⟨g3, rfl, hr3, hb3⟩
    go_wp2_with (fail)
    refine (iSegmentsOf_any _ n0 z0 _ (row_ints (row_ext hr3 (by repeat (first | exact Ext.refl _ | assumption | refine Ext.alloc ?_ _ | refine Ext.drew ?_ | refine Ext.drewN ?_ _ | refine Ext.setCell ?_ (by first | exact Nat.le_refl _ | (simp; done) | (dsimp only; omega) | (simp only [World.size_alloc, World.size_setCell]; omega)) _ | refine Ext.trans ?_ (by assumption)))) (by unfold maxLen; omega) hwf)).mono ?_
    rintro e w4 ⟨vg, gg, rfl, hrg, hb4⟩
    rw [← hL] at hrg
    go_wp2_with (fail)
    refine (eqIntSS_same _ _ _ _ _ _ _ L _ (hrg.ext (by repeat (first | exact Ext.refl _ | assumption | refine Ext.alloc ?_ _ | refine Ext.drew ?_ | refine Ext.drewN ?_ _ | refine Ext.setCell ?_ (by first | exact Nat.le_refl _ | (simp; done) | (dsimp only; omega) | (simp only [World.size_alloc, World.size_setCell]; omega)) _ | refine Ext.trans ?_ (by assumption)))) (hrw.ext (by repeat (first | exact Ext.refl _ | assumption | refine Ext.alloc ?_ _ | refine Ext.drew ?_ | refine Ext.drewN ?_ _ | refine Ext.setCell ?_ (by first | exact Nat.le_refl _ | (simp; done) | (dsimp only; omega) | (simp only [World.size_alloc, World.size_setCell]; omega)) _ | refine Ext.trans ?_ (by assumption)))) (by omega) HLW.out (by omega)).mono ?_
    rintro e w5 ⟨rfl, hb5⟩
    go_wp2_with (fail)
    refine (toLineJobS_any _ n0 z0 _ (r0.ext (by repeat (first | exact Ext.refl _ | assumption | refine Ext.alloc ?_ _ | refine Ext.drew ?_ | refine Ext.drewN ?_ _ | refine Ext.setCell ?_ (by first | exact Nat.le_refl _ | (simp; done) | (dsimp only; omega) | (simp only [World.size_alloc, World.size_setCell]; omega)) _ | refine Ext.trans ?_ (by assumption)))) hn).mono ?_
    rintro e w6 ⟨g6, rfl, hr6, hb6⟩
    go_wp2_with (fail)
    refine (eqLineJobS_same _ _ n0 z0 _ (row_ints (row_ext hr3 (by repeat (first | exact Ext.refl _ | assumption | refine Ext.alloc ?_ _ | refine Ext.drew ?_ | refine Ext.drewN ?_ _ | refine Ext.setCell ?_ (by first | exact Nat.le_refl _ | (simp; done) | (dsimp only; omega) | (simp only [World.size_alloc, World.size_setCell]; omega)) _ | refine Ext.trans ?_ (by assumption)))) (by unfold maxLen; omega) hwf) (row_ints (row_ext hr6 (by repeat (first | exact Ext.refl _ | assumption | refine Ext.alloc ?_ _ | refine Ext.drew ?_ | refine Ext.drewN ?_ _ | refine Ext.setCell ?_ (by first | exact Nat.le_refl _ | (simp; done) | (dsimp only; omega) | (simp only [World.size_alloc, World.size_setCell]; omega)) _ | refine Ext.trans ?_ (by assumption)))) (by unfold maxLen; omega) hwf)).mono ?_
    rintro e w7 ⟨rfl, hb7⟩
    have hrx7 := row_ext hr3 ((by repeat (first | exact Ext.refl _ | assumption | refine Ext.alloc ?_ _ | refine Ext.drew ?_ | refine Ext.drewN ?_ _ | refine Ext.setCell ?_ (by first | exact Nat.le_refl _ | (simp; done) | (dsimp only; omega) | (simp only [World.size_alloc, World.size_setCell]; omega)) _ | refine Ext.trans ?_ (by assumption))) : Ext w3 w7)
    have hrg7 := hrg.ext ((by repeat (first | exact Ext.refl _ | assumption | refine Ext.alloc ?_ _ | refine Ext.drew ?_ | refine Ext.drewN ?_ _ | refine Ext.setCell ?_ (by first | exact Nat.le_refl _ | (simp; done) | (dsimp only; omega) | (simp only [World.size_alloc, World.size_setCell]; omega)) _ | refine Ext.trans ?_ (by assumption))) : Ext w4 w7)
    have hEw7 : Ext w2 w7 := (by repeat (first | exact Ext.refl _ | assumption | refine Ext.alloc ?_ _ | refine Ext.drew ?_ | refine Ext.drewN ?_ _ | refine Ext.setCell ?_ (by first | exact Nat.le_refl _ | (simp; done) | (dsimp only; omega) | (simp only [World.size_alloc, World.size_setCell]; omega)) _ | refine Ext.trans ?_ (by assumption)))
    have hE7 : Ext w w7 := (by repeat (first | exact Ext.refl _ | assumption | refine Ext.alloc ?_ _ | refine Ext.drew ?_ | refine Ext.drewN ?_ _ | refine Ext.setCell ?_ (by first | exact Nat.le_refl _ | (simp; done) | (dsimp only; omega) | (simp only [World.size_alloc, World.size_setCell]; omega)) _ | refine Ext.trans ?_ (by assumption)))
    have hz2 := (hE7.size)
    have hz4 : w.heap.size ≤ w2.heap.size := ((by repeat (first | exact Ext.refl _ | assumption | refine Ext.alloc ?_ _ | refine Ext.drew ?_ | refine Ext.drewN ?_ _ | refine Ext.setCell ?_ (by first | exact Nat.le_refl _ | (simp; done) | (dsimp only; omega) | (simp only [World.size_alloc, World.size_setCell]; omega)) _ | refine Ext.trans ?_ (by assumption))) : Ext w w2).size
    have hz5 : w2.heap.size ≤ w3.heap.size := hb3.size
    have hg3 : w2.heap.size ≤ g3 ∧ g3 < w3.heap.size := hr3.lt g3 rfl
    go_wp2_with (fail)
    refine (markLineJobS_any _ n0 _ w2.heap.size _ 1 hrx7 (by omega) (by omega) (by omega)).mono ?_
    rintro e w8 ⟨rfl, hrx, hm8⟩
    have hE8 : Ext w w8 := hE7.of_grownAt hm8 (fun k hk => by simp [Value.ownBlock] at hk; omega)
    have hEw8 : Ext w2 w8 := hEw7.of_grownAt hm8 (fun k hk => by simp [Value.ownBlock] at hk; omega)
    have hrw8 := hrw.ext hEw8
    have HRW := hid (fun (wy : World) (hy : Ext w2 wy) => hrw.ext hy)
    have hrg8 := hrg7.far hm8 (fun k hk => by simp [Value.ownBlock] at hk; omega)
    clear hb1 hb2 hb3 hb4 hb5 hb6 hb7 hE7 hr1 hr3 hr6 hrx hrw hrg hrg7 hrx7
    go_wp2_with (fail)
    refine (eqIntSS_same _ _ _ _ _ _ _ L _ (hrg8) (hrw8) (by omega) HLW.out (by omega)).mono ?_
    rintro e w9 ⟨rfl, hb9⟩
    have hrg9 := hrg8.ext hb9
    have hE9 : Ext w w9 := hE8.trans hb9
    have hEw9 : Ext w2 w9 := hEw8.trans hb9
    have hgl := hrg9.len
    go_wp2_with (fail)
    refine (markIntSS_any _ _ _ _ w3.heap.size _ 1 hrg9 (by omega) (by omega) (by omega) (by omega)).mono ?_
    rintro e w10 ⟨rfl, hrm, hm10⟩
    have hE10 : Ext w w10 := below_ext hE9 hm10 (by omega)
    have hEw10 : Ext w2 w10 := below_ext hEw9 hm10 (by omega)
    have hrw10 := HRW.out _ hEw10
    clear hb9 hE8 hE9 hrg8 hrg9 hrw8
    go_wp2_with (fail)
    refine (heldIntSS_same _ _ _ _ _ _ 1 (hrm.ext (by repeat (first | exact Ext.refl _ | assumption | refine Ext.alloc ?_ _ | refine Ext.drew ?_ | refine Ext.drewN ?_ _ | refine Ext.setCell ?_ (by first | exact Nat.le_refl _ | (simp; done) | (dsimp only; omega) | (simp only [World.size_alloc, World.size_setCell]; omega)) _ | refine Ext.trans ?_ (by assumption)))) (by omega) (by omega) (by omega) (by omega)).mono ?_
    rintro e w11 ⟨rfl, hb11⟩
    go_wp2_with (fail)
    refine (toLineJobS_any _ n0 z0 _ (r0.ext (by repeat (first | exact Ext.refl _ | assumption | refine Ext.alloc ?_ _ | refine Ext.drew ?_ | refine Ext.drewN ?_ _ | refine Ext.setCell ?_ (by first | exact Nat.le_refl _ | (simp; done) | (dsimp only; omega) | (simp only [World.size_alloc, World.size_setCell]; omega)) _ | refine Ext.trans ?_ (by assumption)))) hn).mono ?_
    rintro e w12 ⟨g12, rfl, hr12, hb12⟩
    go_wp2_with (fail)
    refine (iSegmentsOf_any _ n0 z0 _ (row_ints (row_ext hr12 (by repeat (first | exact Ext.refl _ | assumption | refine Ext.alloc ?_ _ | refine Ext.drew ?_ | refine Ext.drewN ?_ _ | refine Ext.setCell ?_ (by first | exact Nat.le_refl _ | (simp; done) | (dsimp only; omega) | (simp only [World.size_alloc, World.size_setCell]; omega)) _ | refine Ext.trans ?_ (by assumption)))) (by unfold maxLen; omega) hwf)).mono ?_
    rintro e w13 ⟨vh, gh, rfl, hrh, hb13⟩
    rw [← hL] at hrh
    go_wp2_with (fail)
    refine (eqIntSS_same _ _ _ _ _ _ _ L _ (hrh) (hrw10.ext (by repeat (first | exact Ext.refl _ | assumption | refine Ext.alloc ?_ _ | refine Ext.drew ?_ | refine Ext.drewN ?_ _ | refine Ext.setCell ?_ (by first | exact Nat.le_refl _ | (simp; done) | (dsimp only; omega) | (simp only [World.size_alloc, World.size_setCell]; omega)) _ | refine Ext.trans ?_ (by assumption)))) (by omega) HLW.out (by omega)).mono ?_
    rintro e w14 ⟨rfl, hb14⟩
    go_wp2_with (fail)
    refine (heldIntSS_same _ _ _ _ _ _ 1 (hrm.ext (by repeat (first | exact Ext.refl _ | assumption | refine Ext.alloc ?_ _ | refine Ext.drew ?_ | refine Ext.drewN ?_ _ | refine Ext.setCell ?_ (by first | exact Nat.le_refl _ | (simp; done) | (dsimp only; omega) | (simp only [World.size_alloc, World.size_setCell]; omega)) _ | refine Ext.trans ?_ (by assumption)))) (by omega) (by omega) (by omega) (by omega)).mono ?_
    rintro e w15 ⟨rfl, hb15⟩
    go_wp2_with (fail)
    go_ret
    exact ⟨rfl, (by repeat (first | exact Ext.refl _ | assumption | refine Ext.alloc ?_ _ | refine Ext.drew ?_ | refine Ext.drewN ?_ _ | refine Ext.setCell ?_ (by first | exact Nat.le_refl _ | (simp; done) | (dsimp only; omega) | (simp only [World.size_alloc, World.size_setCell]; omega)) _ | refine Ext.trans ?_ (by assumption)))⟩
  · rw [if_neg (by omega)] at hsz
    go_enter Try.func12, Try.ntmps12
    go_wp2_with (fail)
    refine hsz.mono ?_
    rintro e w' ⟨rfl, rfl⟩
    go_wp2_with (fail)
    go_ret
    exact ⟨rfl, Ext.refl _⟩

set_option maxHeartbeats 2000000 in
theorem walkFnExactBreaksOf (v0 : Value) (n0 : Nat) (z0 : List Int) (w : World) (r0 : IntRow .i64 3 w v0 n0 z0) :
    Calls Try.prog 11 #[v0] w fun e w' => e = .returned (.bool true) ∧ Ext w w' := by
  have hsz := szLineJobS_any v0 n0 z0 w 1048576 r0 (by omega) (by omega)
  by_cases hn : n0 ≤ 1048576
  · rw [if_pos (by omega)] at hsz
    have hwf := r0.2.2.1
    obtain ⟨L, hL⟩ : ∃ L, L = brkV z0 n0 := ⟨_, rfl⟩
    have hLw : ∀ x ∈ L, (Lit.int .i64 x).wf = true := by rw [hL]; exact brkV_wf z0 n0
    have hLl : L.length / 1 ≤ 16777216 := by rw [hL]; (have := brkV_len z0 n0; omega)
    go_enter Try.func11, Try.ntmps11
    go_wp2_with (fail)
    refine hsz.mono ?_
    rintro e w' ⟨rfl, rfl⟩
    go_wp2_with (fail)
    refine (toLineJobS_any _ n0 z0 _ (r0.ext (by repeat (first | exact Ext.refl _ | assumption | refine Ext.alloc ?_ _ | refine Ext.drew ?_ | refine Ext.drewN ?_ _ | refine Ext.setCell ?_ (by first | exact Nat.le_refl _ | (simp; done) | (dsimp only; omega) | (simp only [World.size_alloc, World.size_setCell]; omega)) _ | refine Ext.trans ?_ (by assumption)))) hn).mono ?_
    rintro e w1 ⟨g1, rfl, hr1, hb1⟩
    go_wp2_with (fail)
    refine (sBreaksOf_any _ n0 z0 _ (row_ints (row_ext hr1 (by repeat (first | exact Ext.refl _ | assumption | refine Ext.alloc ?_ _ | refine Ext.drew ?_ | refine Ext.drewN ?_ _ | refine Ext.setCell ?_ (by first | exact Nat.le_refl _ | (simp; done) | (dsimp only; omega) | (simp only [World.size_alloc, World.size_setCell]; omega)) _ | refine Ext.trans ?_ (by assumption)))) (by unfold maxLen; omega) hwf)).mono ?_
    rintro e w2 ⟨vw, rfl, hrw, hb2⟩
    rw [← hL] at hrw
    go_wp2_with (fail)
    refine (toLineJobS_any _ n0 z0 _ (r0.ext (by repeat (first | exact Ext.refl _ | assumption | refine Ext.alloc ?_ _ | refine Ext.drew ?_ | refine Ext.drewN ?_ _ | refine Ext.setCell ?_ (by first | exact Nat.le_refl _ | (simp; done) | (dsimp only; omega) | (simp only [World.size_alloc, World.size_setCell]; omega)) _ | refine Ext.trans ?_ (by assumption)))) hn).mono ?_
    rintro e w3 ⟨g3, rfl, hr3, hb3⟩
    go_wp2_with (fail)
    refine (iBreaksOf_any _ n0 z0 _ (row_ints (row_ext hr3 (by repeat (first | exact Ext.refl _ | assumption | refine Ext.alloc ?_ _ | refine Ext.drew ?_ | refine Ext.drewN ?_ _ | refine Ext.setCell ?_ (by first | exact Nat.le_refl _ | (simp; done) | (dsimp only; omega) | (simp only [World.size_alloc, World.size_setCell]; omega)) _ | refine Ext.trans ?_ (by assumption)))) (by unfold maxLen; omega) hwf)).mono ?_
    rintro e w4 ⟨vg, rfl, hrg, hb4⟩
    rw [← hL] at hrg
    go_wp2_with (fail)
    refine (eqIntS_same _ _ (L.length / 1) L _ (row_ints (row_ext hrg (by repeat (first | exact Ext.refl _ | assumption | refine Ext.alloc ?_ _ | refine Ext.drew ?_ | refine Ext.drewN ?_ _ | refine Ext.setCell ?_ (by first | exact Nat.le_refl _ | (simp; done) | (dsimp only; omega) | (simp only [World.size_alloc, World.size_setCell]; omega)) _ | refine Ext.trans ?_ (by assumption)))) (by unfold maxLen; omega) hLw) (row_ints (row_ext hrw (by repeat (first | exact Ext.refl _ | assumption | refine Ext.alloc ?_ _ | refine Ext.drew ?_ | refine Ext.drewN ?_ _ | refine Ext.setCell ?_ (by first | exact Nat.le_refl _ | (simp; done) | (dsimp only; omega) | (simp only [World.size_alloc, World.size_setCell]; omega)) _ | refine Ext.trans ?_ (by assumption)))) (by unfold maxLen; omega) hLw)).mono ?_
    rintro e w5 ⟨rfl, hb5⟩
    go_wp2_with (fail)
    refine (toLineJobS_any _ n0 z0 _ (r0.ext (by repeat (first | exact Ext.refl _ | assumption | refine Ext.alloc ?_ _ | refine Ext.drew ?_ | refine Ext.drewN ?_ _ | refine Ext.setCell ?_ (by first | exact Nat.le_refl _ | (simp; done) | (dsimp only; omega) | (simp only [World.size_alloc, World.size_setCell]; omega)) _ | refine Ext.trans ?_ (by assumption)))) hn).mono ?_
    rintro e w6 ⟨g6, rfl, hr6, hb6⟩
    go_wp2_with (fail)
    refine (eqLineJobS_same _ _ n0 z0 _ (row_ints (row_ext hr3 (by repeat (first | exact Ext.refl _ | assumption | refine Ext.alloc ?_ _ | refine Ext.drew ?_ | refine Ext.drewN ?_ _ | refine Ext.setCell ?_ (by first | exact Nat.le_refl _ | (simp; done) | (dsimp only; omega) | (simp only [World.size_alloc, World.size_setCell]; omega)) _ | refine Ext.trans ?_ (by assumption)))) (by unfold maxLen; omega) hwf) (row_ints (row_ext hr6 (by repeat (first | exact Ext.refl _ | assumption | refine Ext.alloc ?_ _ | refine Ext.drew ?_ | refine Ext.drewN ?_ _ | refine Ext.setCell ?_ (by first | exact Nat.le_refl _ | (simp; done) | (dsimp only; omega) | (simp only [World.size_alloc, World.size_setCell]; omega)) _ | refine Ext.trans ?_ (by assumption)))) (by unfold maxLen; omega) hwf)).mono ?_
    rintro e w7 ⟨rfl, hb7⟩
    have hrw7 := row_ext hrw ((by repeat (first | exact Ext.refl _ | assumption | refine Ext.alloc ?_ _ | refine Ext.drew ?_ | refine Ext.drewN ?_ _ | refine Ext.setCell ?_ (by first | exact Nat.le_refl _ | (simp; done) | (dsimp only; omega) | (simp only [World.size_alloc, World.size_setCell]; omega)) _ | refine Ext.trans ?_ (by assumption))) : Ext w2 w7)
    have hrg7 := row_ext hrg ((by repeat (first | exact Ext.refl _ | assumption | refine Ext.alloc ?_ _ | refine Ext.drew ?_ | refine Ext.drewN ?_ _ | refine Ext.setCell ?_ (by first | exact Nat.le_refl _ | (simp; done) | (dsimp only; omega) | (simp only [World.size_alloc, World.size_setCell]; omega)) _ | refine Ext.trans ?_ (by assumption))) : Ext w4 w7)
    have hrx7 := row_ext hr3 ((by repeat (first | exact Ext.refl _ | assumption | refine Ext.alloc ?_ _ | refine Ext.drew ?_ | refine Ext.drewN ?_ _ | refine Ext.setCell ?_ (by first | exact Nat.le_refl _ | (simp; done) | (dsimp only; omega) | (simp only [World.size_alloc, World.size_setCell]; omega)) _ | refine Ext.trans ?_ (by assumption))) : Ext w3 w7)
    have hE7 : Ext w w7 := (by repeat (first | exact Ext.refl _ | assumption | refine Ext.alloc ?_ _ | refine Ext.drew ?_ | refine Ext.drewN ?_ _ | refine Ext.setCell ?_ (by first | exact Nat.le_refl _ | (simp; done) | (dsimp only; omega) | (simp only [World.size_alloc, World.size_setCell]; omega)) _ | refine Ext.trans ?_ (by assumption)))
    have hlw : ∀ k, vw.ownBlock = some k → k < w2.heap.size := fun k hk => (hrw.lt k hk).2
    have hz2 := (hE7.size)
    have hz4 : w.heap.size ≤ w2.heap.size := ((by repeat (first | exact Ext.refl _ | assumption | refine Ext.alloc ?_ _ | refine Ext.drew ?_ | refine Ext.drewN ?_ _ | refine Ext.setCell ?_ (by first | exact Nat.le_refl _ | (simp; done) | (dsimp only; omega) | (simp only [World.size_alloc, World.size_setCell]; omega)) _ | refine Ext.trans ?_ (by assumption))) : Ext w w2).size
    have hz5 : w2.heap.size ≤ w3.heap.size := hb3.size
    have hg3 : w2.heap.size ≤ g3 ∧ g3 < w3.heap.size := hr3.lt g3 rfl
    go_wp2_with (fail)
    refine (markLineJobS_any _ n0 _ w2.heap.size _ 1 hrx7 (by omega) (by omega) (by omega)).mono ?_
    rintro e w8 ⟨rfl, hrx, hm8⟩
    have hE8 : Ext w w8 := hE7.of_grownAt hm8 (fun k hk => by simp [Value.ownBlock] at hk; omega)
    have hrw8 := row_below (B := w2.heap.size) hrw7 hlw hm8 (fun k hk => by simp [Value.ownBlock] at hk; omega)
    have hrg8 := row_above hrg7 hm8 (fun k hk => by simp [Value.ownBlock] at hk; omega)
    clear hb1 hb2 hb3 hb4 hb5 hb6 hb7 hE7 hr1 hr3 hr6 hrx hrw hrg hrw7 hrg7 hrx7
    go_wp2_with (fail)
    refine (eqIntS_same _ _ (L.length / 1) L _ (row_ints (row_ext hrg8 (by repeat (first | exact Ext.refl _ | assumption | refine Ext.alloc ?_ _ | refine Ext.drew ?_ | refine Ext.drewN ?_ _ | refine Ext.setCell ?_ (by first | exact Nat.le_refl _ | (simp; done) | (dsimp only; omega) | (simp only [World.size_alloc, World.size_setCell]; omega)) _ | refine Ext.trans ?_ (by assumption)))) (by unfold maxLen; omega) hLw) (row_ints (row_ext hrw8 (by repeat (first | exact Ext.refl _ | assumption | refine Ext.alloc ?_ _ | refine Ext.drew ?_ | refine Ext.drewN ?_ _ | refine Ext.setCell ?_ (by first | exact Nat.le_refl _ | (simp; done) | (dsimp only; omega) | (simp only [World.size_alloc, World.size_setCell]; omega)) _ | refine Ext.trans ?_ (by assumption)))) (by unfold maxLen; omega) hLw)).mono ?_
    rintro e w9 ⟨rfl, hb9⟩
    have hrg9 := row_ext hrg8 hb9
    have hrw9 := row_ext hrw8 hb9
    have hE9 : Ext w w9 := hE8.trans hb9
    have hlg : ∀ k, vg.ownBlock = some k → w3.heap.size ≤ k := fun k hk => (hrg9.lt k hk).1
    go_wp2_with (fail)
    refine (markIntS_any _ _ _ w3.heap.size _ 1 hrg9 (by omega) (by omega) (by omega)).mono ?_
    rintro e w10 ⟨rfl, hrm, hm10⟩
    have hE10 : Ext w w10 := hE9.of_grownAt hm10 (fun k hk => by have := hlg k hk; omega)
    have hrw10 := row_below (B := w2.heap.size) hrw9 hlw hm10 (fun k hk => by have := hlg k hk; omega)
    clear hb9 hE8 hE9 hrg8 hrw8 hrg9 hrw9
    go_wp2_with (fail)
    refine (heldIntS_same _ (L.length / 1) _ 1 (row_ints (row_ext hrm (by repeat (first | exact Ext.refl _ | assumption | refine Ext.alloc ?_ _ | refine Ext.drew ?_ | refine Ext.drewN ?_ _ | refine Ext.setCell ?_ (by first | exact Nat.le_refl _ | (simp; done) | (dsimp only; omega) | (simp only [World.size_alloc, World.size_setCell]; omega)) _ | refine Ext.trans ?_ (by assumption)))) (by unfold maxLen; omega) (marks_wf (by omega) (by omega))) (by omega) (by omega) (by omega)).mono ?_
    rintro e w11 ⟨rfl, hb11⟩
    go_wp2_with (fail)
    refine (toLineJobS_any _ n0 z0 _ (r0.ext (by repeat (first | exact Ext.refl _ | assumption | refine Ext.alloc ?_ _ | refine Ext.drew ?_ | refine Ext.drewN ?_ _ | refine Ext.setCell ?_ (by first | exact Nat.le_refl _ | (simp; done) | (dsimp only; omega) | (simp only [World.size_alloc, World.size_setCell]; omega)) _ | refine Ext.trans ?_ (by assumption)))) hn).mono ?_
    rintro e w12 ⟨g12, rfl, hr12, hb12⟩
    go_wp2_with (fail)
    refine (iBreaksOf_any _ n0 z0 _ (row_ints (row_ext hr12 (by repeat (first | exact Ext.refl _ | assumption | refine Ext.alloc ?_ _ | refine Ext.drew ?_ | refine Ext.drewN ?_ _ | refine Ext.setCell ?_ (by first | exact Nat.le_refl _ | (simp; done) | (dsimp only; omega) | (simp only [World.size_alloc, World.size_setCell]; omega)) _ | refine Ext.trans ?_ (by assumption)))) (by unfold maxLen; omega) hwf)).mono ?_
    rintro e w13 ⟨vh, rfl, hrh, hb13⟩
    rw [← hL] at hrh
    go_wp2_with (fail)
    refine (eqIntS_same _ _ (L.length / 1) L _ (row_ints (row_ext hrh (by repeat (first | exact Ext.refl _ | assumption | refine Ext.alloc ?_ _ | refine Ext.drew ?_ | refine Ext.drewN ?_ _ | refine Ext.setCell ?_ (by first | exact Nat.le_refl _ | (simp; done) | (dsimp only; omega) | (simp only [World.size_alloc, World.size_setCell]; omega)) _ | refine Ext.trans ?_ (by assumption)))) (by unfold maxLen; omega) hLw) (row_ints (row_ext hrw10 (by repeat (first | exact Ext.refl _ | assumption | refine Ext.alloc ?_ _ | refine Ext.drew ?_ | refine Ext.drewN ?_ _ | refine Ext.setCell ?_ (by first | exact Nat.le_refl _ | (simp; done) | (dsimp only; omega) | (simp only [World.size_alloc, World.size_setCell]; omega)) _ | refine Ext.trans ?_ (by assumption)))) (by unfold maxLen; omega) hLw)).mono ?_
    rintro e w14 ⟨rfl, hb14⟩
    go_wp2_with (fail)
    refine (heldIntS_same _ (L.length / 1) _ 1 (row_ints (row_ext hrm (by repeat (first | exact Ext.refl _ | assumption | refine Ext.alloc ?_ _ | refine Ext.drew ?_ | refine Ext.drewN ?_ _ | refine Ext.setCell ?_ (by first | exact Nat.le_refl _ | (simp; done) | (dsimp only; omega) | (simp only [World.size_alloc, World.size_setCell]; omega)) _ | refine Ext.trans ?_ (by assumption)))) (by unfold maxLen; omega) (marks_wf (by omega) (by omega))) (by omega) (by omega) (by omega)).mono ?_
    rintro e w15 ⟨rfl, hb15⟩
    go_wp2_with (fail)
    go_ret
    exact ⟨rfl, (by repeat (first | exact Ext.refl _ | assumption | refine Ext.alloc ?_ _ | refine Ext.drew ?_ | refine Ext.drewN ?_ _ | refine Ext.setCell ?_ (by first | exact Nat.le_refl _ | (simp; done) | (dsimp only; omega) | (simp only [World.size_alloc, World.size_setCell]; omega)) _ | refine Ext.trans ?_ (by assumption)))⟩
  · rw [if_neg (by omega)] at hsz
    go_enter Try.func11, Try.ntmps11
    go_wp2_with (fail)
    refine hsz.mono ?_
    rintro e w' ⟨rfl, rfl⟩
    go_wp2_with (fail)
    go_ret
    exact ⟨rfl, Ext.refl _⟩

end Go.Proofs.Ytabafhmeefeioaa
