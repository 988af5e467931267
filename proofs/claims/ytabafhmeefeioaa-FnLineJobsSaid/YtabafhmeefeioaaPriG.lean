/- The chapter of priorities: finish times, waits, what is left at a tick: as lists. No condition. -/
import Derived.Test.YtabafhmeefeioaaPriF
namespace Go.Proofs.Ytabafhmeefeioaa
open Go.RowKit
set_option linter.unusedSimpArgs false
set_option linter.unusedVariables false

def finV (z : List Int) (n : Nat) : List Int := if okJs z n = true then finJ z n else []
theorem finV_wf (z : List Int) (n : Nat) : ∀ x ∈ finV z n, (Lit.int .i64 x).wf = true := by
  unfold finV
  by_cases h : okJs z n = true
  · rw [if_pos h]
    intro x hx
    have := (finL_inv z n (endT z n)).2 x hx
    have := endT_le h
    exact small_wf (by omega) (by omega)
  · rw [if_neg h]
    simp
theorem finV_len (z : List Int) (n : Nat) : (finV z n).length ≤ 12 := by
  unfold finV
  by_cases h : okJs z n = true
  · rw [if_pos h, finJ_len]
    exact okJs_n h
  · rw [if_neg h]
    simp

def waitJ (z : List Int) (n : Nat) : List Int := (List.range n).map fun j => (finJ z n).getD j 0 - (jAt z j + jLen z j)
def waitV (z : List Int) (n : Nat) : List Int := if okJs z n = true then waitJ z n else []
theorem fin_bd {z : List Int} {n : Nat} (h : okJs z n = true) (j : Nat) (hj : j < n) : 0 ≤ (finJ z n).getD j 0 ∧ (finJ z n).getD j 0 ≤ 680 := by
  have := (finL_inv z n (endT z n)).2 _ (getD_mem (l := finJ z n) (i := j) (by rw [finJ_len]; exact hj))
  have := endT_le h
  omega
theorem waitV_wf (z : List Int) (n : Nat) : ∀ x ∈ waitV z n, (Lit.int .i64 x).wf = true := by
  unfold waitV
  by_cases h : okJs z n = true
  · rw [if_pos h]
    intro x hx
    simp only [waitJ, List.mem_map, List.mem_range] at hx
    obtain ⟨j, hj, rfl⟩ := hx
    have := fin_bd h j hj
    have := job_bd h j hj
    exact small_wf (by omega) (by omega)
  · rw [if_neg h]
    simp
theorem waitV_len (z : List Int) (n : Nat) : (waitV z n).length ≤ 12 := by
  unfold waitV
  by_cases h : okJs z n = true
  · rw [if_pos h]
    simpa [waitJ] using okJs_n h
  · rw [if_neg h]
    simp

/-- what is left of each job before tick t, of the first k ticks counted -/
def lfL (z : List Int) (n : Nat) (t : Int) : Nat → List Int
  | 0 => lens z n
  | k + 1 => if (k : Int) < t ∧ 0 ≤ tickB z n k then (lfL z n t k).set (tickB z n k).toNat ((lfL z n t k).getD (tickB z n k).toNat 0 - 1) else lfL z n t k
theorem lfL_inv {z : List Int} {n : Nat} (h : okJs z n = true) (t : Int) : ∀ k, (lfL z n t k).length = n ∧ ∀ x ∈ lfL z n t k, -(k : Int) ≤ x ∧ x ≤ 40
  | 0 => by
    refine ⟨by simp [lfL, lens], fun x hx => ?_⟩
    simp only [lfL, lens, List.mem_map, List.mem_range] at hx
    obtain ⟨i, hi, rfl⟩ := hx
    have := job_bd h i hi
    omega
  | k + 1 => by
    obtain ⟨h1, h2⟩ := lfL_inv h t k
    rw [lfL]
    by_cases hc : (k : Int) < t ∧ 0 ≤ tickB z n k
    · rw [if_pos hc]
      have hr := tick_range z n k
      have hg := h2 _ (getD_mem (l := lfL z n t k) (i := (tickB z n k).toNat) (by omega))
      refine ⟨by simpa using h1, fun x hx => ?_⟩
      rcases List.mem_or_eq_of_mem_set hx with hx | rfl
      · have := h2 x hx
        omega
      · omega
    · rw [if_neg hc]
      exact ⟨h1, fun x hx => by have := h2 x hx; omega⟩
def lfC (z : List Int) (n : Nat) (t : Int) : Bool := okJs z n && inR t 0 700
def lfV (z : List Int) (n : Nat) (t : Int) : List Int := if lfC z n t = true then lfL z n t (endT z n) else []
theorem lfV_wf (z : List Int) (n : Nat) (t : Int) : ∀ x ∈ lfV z n t, (Lit.int .i64 x).wf = true := by
  unfold lfV
  by_cases h : lfC z n t = true
  · rw [if_pos h]
    unfold lfC at h
    rw [Bool.and_eq_true] at h
    intro x hx
    have := (lfL_inv h.1 t (endT z n)).2 x hx
    have := endT_le h.1
    exact small_wf (by omega) (by omega)
  · rw [if_neg h]
    simp
theorem lfV_len (z : List Int) (n : Nat) (t : Int) : (lfV z n t).length ≤ 12 := by
  unfold lfV
  by_cases h : lfC z n t = true
  · rw [if_pos h]
    unfold lfC at h
    rw [Bool.and_eq_true] at h
    rw [(lfL_inv h.1 t _).1]
    exact okJs_n h.1
  · rw [if_neg h]
    simp


set_option maxHeartbeats 800000 in
theorem sFinishTimes_any (v : Value) (n : Nat) (z : List Int) (w : World) (h : IntRow .i64 3 w v n z) :
    Calls Try.prog 35 #[v] w fun e w' => ∃ v', e = .returned (.tuple #[v', .bool (okJs z n)]) ∧ w'.ownsRow w.heap.size 3 1 v' ((finV z n).length / 1) ((finV z n).map (Value.int .i64)) ∧ Ext w w' := by
  by_cases hok : okJs z n = true
  · have HV := hid (show finV z n = finJ z n by unfold finV; rw [if_pos hok])
    have HOK := hid hok
    rw [HV.out, hok, finJ_len]
    clear hok
    go_enter Try.func35, Try.ntmps35
    go_wp2_with (fail)
    refine (prGood_any v n z w h).mono ?_
    rw [HOK.out]
    rintro e w1 ⟨rfl, hb1⟩
    go_wp2_with (fail)
    refine (sFin_any v n z _ (h.ext (by repeat (first | exact Ext.refl _ | assumption | refine Ext.alloc ?_ _ | refine Ext.drew ?_ | refine Ext.drewN ?_ _ | refine Ext.setCell ?_ (by first | exact Nat.le_refl _ | (simp; done) | (dsimp only; omega) | (simp only [World.size_alloc, World.size_setCell]; omega)) _ | refine Ext.trans ?_ (by assumption)))) HOK.out).mono ?_
    rintro e w2 ⟨g, rfl, hr, hb2⟩
    go_wp2_with (fail)
    go_ret2
    exact ⟨_, rfl, by rw [Nat.div_one]; exact row_mono hr hb1.size, (by repeat (first | exact Ext.refl _ | assumption | refine Ext.alloc ?_ _ | refine Ext.drew ?_ | refine Ext.drewN ?_ _ | refine Ext.setCell ?_ (by first | exact Nat.le_refl _ | (simp; done) | (dsimp only; omega) | (simp only [World.size_alloc, World.size_setCell]; omega)) _ | refine Ext.trans ?_ (by assumption)))⟩
  · have hok : okJs z n = false := by simpa using hok
    have HV := hid (show finV z n = [] by unfold finV; rw [if_neg (by rw [hok]; decide)])
    have HOK := hid hok
    rw [HV.out, hok]
    clear hok
    go_enter Try.func35, Try.ntmps35
    go_wp2_with (fail)
    refine (prGood_any v n z w h).mono ?_
    rw [HOK.out]
    rintro e w1 ⟨rfl, hb1⟩
    go_wp2_with (fail)
    go_ret2
    exact ⟨_, rfl, World.ownsRow_nil _ _ _ _, (by repeat (first | exact Ext.refl _ | assumption | refine Ext.alloc ?_ _ | refine Ext.drew ?_ | refine Ext.drewN ?_ _ | refine Ext.setCell ?_ (by first | exact Nat.le_refl _ | (simp; done) | (dsimp only; omega) | (simp only [World.size_alloc, World.size_setCell]; omega)) _ | refine Ext.trans ?_ (by assumption)))⟩

set_option maxHeartbeats 1200000 in
theorem sWaitsOf_any (v : Value) (n : Nat) (z : List Int) (w : World) (h : IntRow .i64 3 w v n z) :
    Calls Try.prog 37 #[v] w fun e w' => ∃ v', e = .returned (.tuple #[v', .bool (okJs z n)]) ∧ w'.ownsRow w.heap.size 3 1 v' ((waitV z n).length / 1) ((waitV z n).map (Value.int .i64)) ∧ Ext w w' := by
  by_cases hok : okJs z n = true
  · have HV := hid (show waitV z n = waitJ z n by unfold waitV; rw [if_pos hok])
    have HOK := hid hok
    have hn := okJs_n hok
    rw [HV.out, hok, show (waitJ z n).length / 1 = n by simp [waitJ]]
    clear hok
    have hh := h
    obtain ⟨hl, hm, hwf, a, c, rfl, hnc, hcm, hcell⟩ := h
    clear hwf
    go_enter Try.func37, Try.ntmps37
    go_wp2_with (fail)
    refine (prGood_any _ n z w hh).mono ?_
    rw [HOK.out]
    rintro e w1 ⟨rfl, hb1⟩
    go_wp2_with (fail)
    refine (sFin_any _ n z _ (hh.ext (by repeat (first | exact Ext.refl _ | assumption | refine Ext.alloc ?_ _ | refine Ext.drew ?_ | refine Ext.drewN ?_ _ | refine Ext.setCell ?_ (by first | exact Nat.le_refl _ | (simp; done) | (dsimp only; omega) | (simp only [World.size_alloc, World.size_setCell]; omega)) _ | refine Ext.trans ?_ (by assumption)))) HOK.out).mono ?_
    rintro e w2 ⟨g, rfl, hr, hb2⟩
    clear hh
    have hE2 : Ext w w2 := (by repeat (first | exact Ext.refl _ | assumption | refine Ext.alloc ?_ _ | refine Ext.drew ?_ | refine Ext.drewN ?_ _ | refine Ext.setCell ?_ (by first | exact Nat.le_refl _ | (simp; done) | (dsimp only; omega) | (simp only [World.size_alloc, World.size_setCell]; omega)) _ | refine Ext.trans ?_ (by assumption)))
    have hg := hr.lt g rfl
    have hs1 := hb1.size
    go_wp2_with (fail)
    go_loopw [14] (fun i wr => ∃ (k : Nat) (xs : List Value), k ≤ n ∧ i = .int .i64 (k : Int) ∧ wr.ownsRow w1.heap.size 3 1 (.slice (some ⟨g, 0, none⟩) n n) n xs ∧ (∀ j, j < n → xs[j]? = some (.int .i64 (if j < k then (finJ z n).getD j 0 - (jAt z j + jLen z j) else (finJ z n).getD j 0))) ∧ Ext w wr)
      (fun i _ => n - (intOf i).toNat)
    case atStart => exact ⟨0, _, Nat.zero_le _, rfl, hr, fun j hj => by rw [if_neg (by omega), map_getD (by rw [finJ_len]; exact hj)], hE2⟩
    case round =>
      clear hr hE2
      obtain ⟨k, xs, hk, rfl, hrow, hpre, hE⟩ := hrel
      have HP := hid hpre
      clear hpre
      by_cases hlt : k < n
      · obtain ⟨b, o, rfl, hb, hc⟩ := hcell.resolve_left (by omega)
        obtain ⟨x0, hx0⟩ : ∃ x, x = z.getD (k * 3) 0 := ⟨_, rfl⟩
        have s0 : wr.cell? ⟨b, o + k * 3, none⟩ = some (.int .i64 x0) := by rw [(Ext.cells hE).1 _ _ hb, show o + k * 3 = o + (k * 3) by omega, hc _ (by omega), hx0]
        have H0 := hid hx0
        clear hx0
        obtain ⟨x1, hx1⟩ : ∃ x, x = z.getD (k * 3 + 1) 0 := ⟨_, rfl⟩
        have s1 : wr.cell? ⟨b, o + k * 3 + 1, none⟩ = some (.int .i64 x1) := by rw [(Ext.cells hE).1 _ _ hb, show o + k * 3 + 1 = o + (k * 3 + 1) by omega, hc _ (by omega), hx1]
        have H1 := hid hx1
        clear hx1
        obtain ⟨x2, hx2⟩ : ∃ x, x = z.getD (k * 3 + 2) 0 := ⟨_, rfl⟩
        have s2 : wr.cell? ⟨b, o + k * 3 + 2, none⟩ = some (.int .i64 x2) := by rw [(Ext.cells hE).1 _ _ hb, show o + k * 3 + 2 = o + (k * 3 + 2) by omega, hc _ (by omega), hx2]
        have H2 := hid hx2
        clear hx2
        obtain ⟨y, hy⟩ : ∃ y, y = (finJ z n).getD k 0 := ⟨_, rfl⟩
        have yb := fin_bd HOK.out k hlt
        rw [← hy] at yb
        have jb := job_bd HOK.out k hlt
        rw [show jAt z k = x0 from H0.out.symm, show jLen z k = x1 from H1.out.symm] at jb
        obtain ⟨jb1, jb2, jb3, jb4, _, _⟩ := jb
        have sy : wr.cell? ⟨g, k, none⟩ = some (.int .i64 y) := by rw [hrow.cellAt k (by omega), HP.out k hlt, if_neg (by omega), hy]
        have fy := hrow.frozenAt k
        have HY := hid hy
        have hgs : g < wr.heap.size := (hrow.lt g rfl).2
        clear hy hc hcell
        go_wp2_with (fail)
        have hrow2 := hrow.alloc (.cells #[.int .i64 x0, .int .i64 x1, .int .i64 x2] 53)
        have hE2 := hE.alloc (.cells #[.int .i64 x0, .int .i64 x1, .int .i64 x2] 53)
        have sy2 : (wr.alloc (.cells #[.int .i64 x0, .int .i64 x1, .int .i64 x2] 53)).cell? ⟨g, k, none⟩ = some (.int .i64 y) := by simp [go_sem, *]
        have fy2 := hrow2.frozenAt k
        have p0 : (wr.alloc (.cells #[.int .i64 x0, .int .i64 x1, .int .i64 x2] 53)).cell? ⟨wr.heap.size, 0, none⟩ = some (.int .i64 x0) := by simp [go_sem]
        have p1 : (wr.alloc (.cells #[.int .i64 x0, .int .i64 x1, .int .i64 x2] 53)).cell? ⟨wr.heap.size, 1, none⟩ = some (.int .i64 x1) := by simp [go_sem]
        generalize wr.alloc (.cells #[.int .i64 x0, .int .i64 x1, .int .i64 x2] 53) = wx at *
        clear sy fy s0 s1 s2 hrow hE
        go_still_tail 11, (by kernel_rfl)
        go_wp2_with (fail)
        go_roundw
        case rel =>
          have hrow := hrow2
          refine ⟨k + 1, _, by omega, by go_num, ((hrow2.drew).stored k (.int .i64 (y - (x0 + x1)))).1, fun j hj => ?_, (by repeat (first | exact Ext.refl _ | assumption | refine Ext.alloc ?_ _ | refine Ext.drew ?_ | refine Ext.drewN ?_ _ | refine Ext.setCell ?_ (by first | exact Nat.le_refl _ | (simp; done) | (dsimp only; omega) | (simp only [World.size_alloc, World.size_setCell]; omega)) _ | refine Ext.trans ?_ (by assumption)))⟩
          rw [List.getElem?_set]
          by_cases e : k = j
          · subst e
            rw [if_pos rfl, if_pos (by rw [hrow.1]; omega), if_pos (by omega), show jAt z k = x0 from H0.out.symm, show jLen z k = x1 from H1.out.symm, HY.out]
          · rw [if_neg e, HP.out j hj]
            by_cases e2 : j < k
            · rw [if_pos e2, if_pos (by omega)]
            · rw [if_neg e2, if_neg (by omega)]
        case measure => simp [intOf]; omega
      · obtain rfl : n = k := by omega
        have e1 : xs = (waitJ z n).map (Value.int .i64) := list_full hrow.1 (by simp [waitJ]) fun j hj => by rw [HP.out j (by omega), if_pos (by omega)]; simp [waitJ, show j < n by omega]
        have E1 := hid e1
        clear e1 hcell
        go_wp2_with (fail)
        go_ret2
        exact ⟨_, rfl, by rw [← E1.out]; exact row_mono hrow hs1, hE⟩
  · have hok : okJs z n = false := by simpa using hok
    have HV := hid (show waitV z n = [] by unfold waitV; rw [if_neg (by rw [hok]; decide)])
    have HOK := hid hok
    rw [HV.out, hok]
    clear hok
    go_enter Try.func37, Try.ntmps37
    go_wp2_with (fail)
    refine (prGood_any v n z w h).mono ?_
    rw [HOK.out]
    rintro e w1 ⟨rfl, hb1⟩
    go_wp2_with (fail)
    go_ret2
    exact ⟨_, rfl, World.ownsRow_nil _ _ _ _, (by repeat (first | exact Ext.refl _ | assumption | refine Ext.alloc ?_ _ | refine Ext.drew ?_ | refine Ext.drewN ?_ _ | refine Ext.setCell ?_ (by first | exact Nat.le_refl _ | (simp; done) | (dsimp only; omega) | (simp only [World.size_alloc, World.size_setCell]; omega)) _ | refine Ext.trans ?_ (by assumption)))⟩


set_option maxHeartbeats 800000 in
theorem iFinishTimes_any (v : Value) (n : Nat) (z : List Int) (w : World) (h : IntRow .i64 3 w v n z) :
    Calls Try.prog 36 #[v] w fun e w' => ∃ v', e = .returned (.tuple #[v', .bool (okJs z n)]) ∧ w'.ownsRow w.heap.size 3 1 v' ((finV z n).length / 1) ((finV z n).map (Value.int .i64)) ∧ Ext w w' := by
  by_cases hok : okJs z n = true
  · have HV := hid (show finV z n = finJ z n by unfold finV; rw [if_pos hok])
    have HOK := hid hok
    rw [HV.out, hok, finJ_len]
    clear hok
    go_enter Try.func36, Try.ntmps36
    go_wp2_with (fail)
    refine (iAreLineJobs_any v n z w h).mono ?_
    rw [HOK.out]
    rintro e w1 ⟨rfl, hb1⟩
    go_wp2_with (fail)
    refine (iFin_any v n z _ (h.ext (by repeat (first | exact Ext.refl _ | assumption | refine Ext.alloc ?_ _ | refine Ext.drew ?_ | refine Ext.drewN ?_ _ | refine Ext.setCell ?_ (by first | exact Nat.le_refl _ | (simp; done) | (dsimp only; omega) | (simp only [World.size_alloc, World.size_setCell]; omega)) _ | refine Ext.trans ?_ (by assumption)))) HOK.out).mono ?_
    rintro e w2 ⟨g, rfl, hr, hb2⟩
    go_wp2_with (fail)
    go_ret2
    exact ⟨_, rfl, by rw [Nat.div_one]; exact row_mono hr hb1.size, (by repeat (first | exact Ext.refl _ | assumption | refine Ext.alloc ?_ _ | refine Ext.drew ?_ | refine Ext.drewN ?_ _ | refine Ext.setCell ?_ (by first | exact Nat.le_refl _ | (simp; done) | (dsimp only; omega) | (simp only [World.size_alloc, World.size_setCell]; omega)) _ | refine Ext.trans ?_ (by assumption)))⟩
  · have hok : okJs z n = false := by simpa using hok
    have HV := hid (show finV z n = [] by unfold finV; rw [if_neg (by rw [hok]; decide)])
    have HOK := hid hok
    rw [HV.out, hok]
    clear hok
    go_enter Try.func36, Try.ntmps36
    go_wp2_with (fail)
    refine (iAreLineJobs_any v n z w h).mono ?_
    rw [HOK.out]
    rintro e w1 ⟨rfl, hb1⟩
    go_wp2_with (fail)
    go_ret2
    exact ⟨_, rfl, World.ownsRow_nil _ _ _ _, (by repeat (first | exact Ext.refl _ | assumption | refine Ext.alloc ?_ _ | refine Ext.drew ?_ | refine Ext.drewN ?_ _ | refine Ext.setCell ?_ (by first | exact Nat.le_refl _ | (simp; done) | (dsimp only; omega) | (simp only [World.size_alloc, World.size_setCell]; omega)) _ | refine Ext.trans ?_ (by assumption)))⟩

set_option maxHeartbeats 1200000 in
theorem iWaitsOf_any (v : Value) (n : Nat) (z : List Int) (w : World) (h : IntRow .i64 3 w v n z) :
    Calls Try.prog 38 #[v] w fun e w' => ∃ v', e = .returned (.tuple #[v', .bool (okJs z n)]) ∧ w'.ownsRow w.heap.size 3 1 v' ((waitV z n).length / 1) ((waitV z n).map (Value.int .i64)) ∧ Ext w w' := by
  by_cases hok : okJs z n = true
  · have HV := hid (show waitV z n = waitJ z n by unfold waitV; rw [if_pos hok])
    have HOK := hid hok
    have hn := okJs_n hok
    rw [HV.out, hok, show (waitJ z n).length / 1 = n by simp [waitJ]]
    clear hok
    have hh := h
    obtain ⟨hl, hm, hwf, a, c, rfl, hnc, hcm, hcell⟩ := h
    clear hwf
    go_enter Try.func38, Try.ntmps38
    go_wp2_with (fail)
    refine (iAreLineJobs_any _ n z w hh).mono ?_
    rw [HOK.out]
    rintro e w1 ⟨rfl, hb1⟩
    go_wp2_with (fail)
    refine (iFin_any _ n z _ (hh.ext (by repeat (first | exact Ext.refl _ | assumption | refine Ext.alloc ?_ _ | refine Ext.drew ?_ | refine Ext.drewN ?_ _ | refine Ext.setCell ?_ (by first | exact Nat.le_refl _ | (simp; done) | (dsimp only; omega) | (simp only [World.size_alloc, World.size_setCell]; omega)) _ | refine Ext.trans ?_ (by assumption)))) HOK.out).mono ?_
    rintro e w2 ⟨g, rfl, hr, hb2⟩
    clear hh
    have hE2 : Ext w w2 := (by repeat (first | exact Ext.refl _ | assumption | refine Ext.alloc ?_ _ | refine Ext.drew ?_ | refine Ext.drewN ?_ _ | refine Ext.setCell ?_ (by first | exact Nat.le_refl _ | (simp; done) | (dsimp only; omega) | (simp only [World.size_alloc, World.size_setCell]; omega)) _ | refine Ext.trans ?_ (by assumption)))
    have hg := hr.lt g rfl
    have hs1 := hb1.size
    go_wp2_with (fail)
    go_loopw [14] (fun i wr => ∃ (k : Nat) (xs : List Value), k ≤ n ∧ i = .int .i64 (k : Int) ∧ wr.ownsRow w1.heap.size 3 1 (.slice (some ⟨g, 0, none⟩) n n) n xs ∧ (∀ j, j < n → xs[j]? = some (.int .i64 (if j < k then (finJ z n).getD j 0 - (jAt z j + jLen z j) else (finJ z n).getD j 0))) ∧ Ext w wr)
      (fun i _ => n - (intOf i).toNat)
    case atStart => exact ⟨0, _, Nat.zero_le _, rfl, hr, fun j hj => by rw [if_neg (by omega), map_getD (by rw [finJ_len]; exact hj)], hE2⟩
    case round =>
      clear hr hE2
      obtain ⟨k, xs, hk, rfl, hrow, hpre, hE⟩ := hrel
      have HP := hid hpre
      clear hpre
      by_cases hlt : k < n
      · obtain ⟨b, o, rfl, hb, hc⟩ := hcell.resolve_left (by omega)
        obtain ⟨x0, hx0⟩ : ∃ x, x = z.getD (k * 3) 0 := ⟨_, rfl⟩
        have s0 : wr.cell? ⟨b, o + k * 3, none⟩ = some (.int .i64 x0) := by rw [(Ext.cells hE).1 _ _ hb, show o + k * 3 = o + (k * 3) by omega, hc _ (by omega), hx0]
        have H0 := hid hx0
        clear hx0
        obtain ⟨x1, hx1⟩ : ∃ x, x = z.getD (k * 3 + 1) 0 := ⟨_, rfl⟩
        have s1 : wr.cell? ⟨b, o + k * 3 + 1, none⟩ = some (.int .i64 x1) := by rw [(Ext.cells hE).1 _ _ hb, show o + k * 3 + 1 = o + (k * 3 + 1) by omega, hc _ (by omega), hx1]
        have H1 := hid hx1
        clear hx1
        obtain ⟨x2, hx2⟩ : ∃ x, x = z.getD (k * 3 + 2) 0 := ⟨_, rfl⟩
        have s2 : wr.cell? ⟨b, o + k * 3 + 2, none⟩ = some (.int .i64 x2) := by rw [(Ext.cells hE).1 _ _ hb, show o + k * 3 + 2 = o + (k * 3 + 2) by omega, hc _ (by omega), hx2]
        have H2 := hid hx2
        clear hx2
        obtain ⟨y, hy⟩ : ∃ y, y = (finJ z n).getD k 0 := ⟨_, rfl⟩
        have yb := fin_bd HOK.out k hlt
        rw [← hy] at yb
        have jb := job_bd HOK.out k hlt
        rw [show jAt z k = x0 from H0.out.symm, show jLen z k = x1 from H1.out.symm] at jb
        obtain ⟨jb1, jb2, jb3, jb4, _, _⟩ := jb
        have sy : wr.cell? ⟨g, k, none⟩ = some (.int .i64 y) := by rw [hrow.cellAt k (by omega), HP.out k hlt, if_neg (by omega), hy]
        have fy := hrow.frozenAt k
        have HY := hid hy
        have hgs : g < wr.heap.size := (hrow.lt g rfl).2
        clear hy hc hcell
        go_wp2_with (fail)
        have hrow2 := hrow.alloc (.cells #[.int .i64 x0, .int .i64 x1, .int .i64 x2] 53)
        have hE2 := hE.alloc (.cells #[.int .i64 x0, .int .i64 x1, .int .i64 x2] 53)
        have sy2 : (wr.alloc (.cells #[.int .i64 x0, .int .i64 x1, .int .i64 x2] 53)).cell? ⟨g, k, none⟩ = some (.int .i64 y) := by simp [go_sem, *]
        have fy2 := hrow2.frozenAt k
        have p0 : (wr.alloc (.cells #[.int .i64 x0, .int .i64 x1, .int .i64 x2] 53)).cell? ⟨wr.heap.size, 0, none⟩ = some (.int .i64 x0) := by simp [go_sem]
        have p1 : (wr.alloc (.cells #[.int .i64 x0, .int .i64 x1, .int .i64 x2] 53)).cell? ⟨wr.heap.size, 1, none⟩ = some (.int .i64 x1) := by simp [go_sem]
        generalize wr.alloc (.cells #[.int .i64 x0, .int .i64 x1, .int .i64 x2] 53) = wx at *
        clear sy fy s0 s1 s2 hrow hE
        go_still_tail 11, (by kernel_rfl)
        go_wp2_with (fail)
        go_roundw
        case rel =>
          have hrow := hrow2
          refine ⟨k + 1, _, by omega, by go_num, ((hrow2.drew).stored k (.int .i64 (y - (x0 + x1)))).1, fun j hj => ?_, (by repeat (first | exact Ext.refl _ | assumption | refine Ext.alloc ?_ _ | refine Ext.drew ?_ | refine Ext.drewN ?_ _ | refine Ext.setCell ?_ (by first | exact Nat.le_refl _ | (simp; done) | (dsimp only; omega) | (simp only [World.size_alloc, World.size_setCell]; omega)) _ | refine Ext.trans ?_ (by assumption)))⟩
          rw [List.getElem?_set]
          by_cases e : k = j
          · subst e
            rw [if_pos rfl, if_pos (by rw [hrow.1]; omega), if_pos (by omega), show jAt z k = x0 from H0.out.symm, show jLen z k = x1 from H1.out.symm, HY.out]
          · rw [if_neg e, HP.out j hj]
            by_cases e2 : j < k
            · rw [if_pos e2, if_pos (by omega)]
            · rw [if_neg e2, if_neg (by omega)]
        case measure => simp [intOf]; omega
      · obtain rfl : n = k := by omega
        have e1 : xs = (waitJ z n).map (Value.int .i64) := list_full hrow.1 (by simp [waitJ]) fun j hj => by rw [HP.out j (by omega), if_pos (by omega)]; simp [waitJ, show j < n by omega]
        have E1 := hid e1
        clear e1 hcell
        go_wp2_with (fail)
        go_ret2
        exact ⟨_, rfl, by rw [← E1.out]; exact row_mono hrow hs1, hE⟩
  · have hok : okJs z n = false := by simpa using hok
    have HV := hid (show waitV z n = [] by unfold waitV; rw [if_neg (by rw [hok]; decide)])
    have HOK := hid hok
    rw [HV.out, hok]
    clear hok
    go_enter Try.func38, Try.ntmps38
    go_wp2_with (fail)
    refine (iAreLineJobs_any v n z w h).mono ?_
    rw [HOK.out]
    rintro e w1 ⟨rfl, hb1⟩
    go_wp2_with (fail)
    go_ret2
    exact ⟨_, rfl, World.ownsRow_nil _ _ _ _, (by repeat (first | exact Ext.refl _ | assumption | refine Ext.alloc ?_ _ | refine Ext.drew ?_ | refine Ext.drewN ?_ _ | refine Ext.setCell ?_ (by first | exact Nat.le_refl _ | (simp; done) | (dsimp only; omega) | (simp only [World.size_alloc, World.size_setCell]; omega)) _ | refine Ext.trans ?_ (by assumption)))⟩


set_option maxHeartbeats 2000000 in
theorem walkFnExactFinishTimes (v0 : Value) (n0 : Nat) (z0 : List Int) (w : World) (r0 : IntRow .i64 3 w v0 n0 z0) :
    Calls Try.prog 9 #[v0] w fun e w' => e = .returned (.bool true) ∧ Ext w w' := by
  have hsz := szLineJobS_any v0 n0 z0 w 1048576 r0 (by omega) (by omega)
  by_cases hn : n0 ≤ 1048576
  · rw [if_pos (by omega)] at hsz
    have hwf := r0.2.2.1
    obtain ⟨L, hL⟩ : ∃ L, L = finV z0 n0 := ⟨_, rfl⟩
    have hLw : ∀ x ∈ L, (Lit.int .i64 x).wf = true := by rw [hL]; exact finV_wf _ _
    have hLl : L.length / 1 ≤ 16777216 := by rw [hL]; (have := finV_len z0 n0; omega)
    go_enter Try.func9, Try.ntmps9
    go_wp2_with (fail)
    refine hsz.mono ?_
    rintro e w' ⟨rfl, rfl⟩
    go_wp2_with (fail)
    refine (toLineJobS_any _ n0 z0 _ (r0.ext (by repeat (first | exact Ext.refl _ | assumption | refine Ext.alloc ?_ _ | refine Ext.drew ?_ | refine Ext.drewN ?_ _ | refine Ext.setCell ?_ (by first | exact Nat.le_refl _ | (simp; done) | (dsimp only; omega) | (simp only [World.size_alloc, World.size_setCell]; omega)) _ | refine Ext.trans ?_ (by assumption)))) hn).mono ?_
    rintro e w1 ⟨g1, rfl, hr1, hb1⟩
    go_wp2_with (fail)
    refine (sFinishTimes_any _ n0 z0 _ (row_ints (row_ext hr1 (by repeat (first | exact Ext.refl _ | assumption | refine Ext.alloc ?_ _ | refine Ext.drew ?_ | refine Ext.drewN ?_ _ | refine Ext.setCell ?_ (by first | exact Nat.le_refl _ | (simp; done) | (dsimp only; omega) | (simp only [World.size_alloc, World.size_setCell]; omega)) _ | refine Ext.trans ?_ (by assumption)))) (by unfold maxLen; omega) hwf)).mono ?_
    rintro e w2 ⟨vw, rfl, hrw, hb2⟩
    rw [← hL] at hrw
    go_wp2_with (fail)
    refine (toLineJobS_any _ n0 z0 _ (r0.ext (by repeat (first | exact Ext.refl _ | assumption | refine Ext.alloc ?_ _ | refine Ext.drew ?_ | refine Ext.drewN ?_ _ | refine Ext.setCell ?_ (by first | exact Nat.le_refl _ | (simp; done) | (dsimp only; omega) | (simp only [World.size_alloc, World.size_setCell]; omega)) _ | refine Ext.trans ?_ (by assumption)))) hn).mono ?_
    rintro e w3 ⟨g3, rfl, hr3, hb3⟩
    go_wp2_with (fail)
    refine (iFinishTimes_any _ n0 z0 _ (row_ints (row_ext hr3 (by repeat (first | exact Ext.refl _ | assumption | refine Ext.alloc ?_ _ | refine Ext.drew ?_ | refine Ext.drewN ?_ _ | refine Ext.setCell ?_ (by first | exact Nat.le_refl _ | (simp; done) | (dsimp only; omega) | (simp only [World.size_alloc, World.size_setCell]; omega)) _ | refine Ext.trans ?_ (by assumption)))) (by unfold maxLen; omega) hwf)).mono ?_
    rintro e w4 ⟨vg, rfl, hrg, hb4⟩
    rw [← hL] at hrg
    go_wp2_with (fail)
    refine (eqIntS_same _ _ (L.length / 1) L _ (row_ints (row_ext hrg (by repeat (first | exact Ext.refl _ | assumption | refine Ext.alloc ?_ _ | refine Ext.drew ?_ | refine Ext.drewN ?_ _ | refine Ext.setCell ?_ (by first | exact Nat.le_refl _ | (simp; done) | (dsimp only; omega) | (simp only [World.size_alloc, World.size_setCell]; omega)) _ | refine Ext.trans ?_ (by assumption)))) (by unfold maxLen; omega) hLw) (row_ints (row_ext hrw (by repeat (first | exact Ext.refl _ | assumption | refine Ext.alloc ?_ _ | refine Ext.drew ?_ | refine Ext.drewN ?_ _ | refine Ext.setCell ?_ (by first | exact Nat.le_refl _ | (simp; done) | (dsimp only; omega) | (simp only [World.size_alloc, World.size_setCell]; omega)) _ | refine Ext.trans ?_ (by assumption)))) (by unfold maxLen; omega) hLw)).mono ?_
    rintro e w5 ⟨rfl, hb5⟩
    go_wp2_with (fail)
    refine (toLineJobS_any _ n0 z0 _ (r0.ext (by repeat (first | exact Ext.refl _ | assumption | refine Ext.alloc ?_ _ | refine Ext.drew ?_ | refine Ext.drewN ?_ _ | refine Ext.setCell ?_ (by first | exact Nat.le_refl _ | (simp; done) | (dsimp only; omega) | (simp only [World.size_alloc, World.size_setCell]; omega)) _ | refine Ext.trans ?_ (by assumption)))) hn).mono ?_
    rintro e w6 ⟨g6, rfl, hr6, hb6⟩
    go_wp2_with (fail)
    refine (eqLineJobS_same _ _ n0 z0 _ (row_ints (row_ext hr3 (by repeat (first | exact Ext.refl _ | assumption | refine Ext.alloc ?_ _ | refine Ext.drew ?_ | refine Ext.drewN ?_ _ | refine Ext.setCell ?_ (by first | exact Nat.le_refl _ | (simp; done) | (dsimp only; omega) | (simp only [World.size_alloc, World.size_setCell]; omega)) _ | refine Ext.trans ?_ (by assumption)))) (by unfold maxLen; omega) hwf) (row_ints (row_ext hr6 (by repeat (first | exact Ext.refl _ | assumption | refine Ext.alloc ?_ _ | refine Ext.drew ?_ | refine Ext.drewN ?_ _ | refine Ext.setCell ?_ (by first | exact Nat.le_refl _ | (simp; done) | (dsimp only; omega) | (simp only [World.size_alloc, World.size_setCell]; omega)) _ | refine Ext.trans ?_ (by assumption)))) (by unfold maxLen; omega) hwf)).mono ?_
    rintro e w7 ⟨rfl, hb7⟩
    have hrw7 := row_ext hrw ((by repeat (first | exact Ext.refl _ | assumption | refine Ext.alloc ?_ _ | refine Ext.drew ?_ | refine Ext.drewN ?_ _ | refine Ext.setCell ?_ (by first | exact Nat.le_refl _ | (simp; done) | (dsimp only; omega) | (simp only [World.size_alloc, World.size_setCell]; omega)) _ | refine Ext.trans ?_ (by assumption))) : Ext w2 w7)
    have hrg7 := row_ext hrg ((by repeat (first | exact Ext.refl _ | assumption | refine Ext.alloc ?_ _ | refine Ext.drew ?_ | refine Ext.drewN ?_ _ | refine Ext.setCell ?_ (by first | exact Nat.le_refl _ | (simp; done) | (dsimp only; omega) | (simp only [World.size_alloc, World.size_setCell]; omega)) _ | refine Ext.trans ?_ (by assumption))) : Ext w4 w7)
    have hrx7 := row_ext hr3 ((by repeat (first | exact Ext.refl _ | assumption | refine Ext.alloc ?_ _ | refine Ext.drew ?_ | refine Ext.drewN ?_ _ | refine Ext.setCell ?_ (by first | exact Nat.le_refl _ | (simp; done) | (dsimp only; omega) | (simp only [World.size_alloc, World.size_setCell]; omega)) _ | refine Ext.trans ?_ (by assumption))) : Ext w3 w7)
    have hE7 : Ext w w7 := (by repeat (first | exact Ext.refl _ | assumption | refine Ext.alloc ?_ _ | refine Ext.drew ?_ | refine Ext.drewN ?_ _ | refine Ext.setCell ?_ (by first | exact Nat.le_refl _ | (simp; done) | (dsimp only; omega) | (simp only [World.size_alloc, World.size_setCell]; omega)) _ | refine Ext.trans ?_ (by assumption)))
    have hlw : ∀ k, vw.ownBlock = some k → k < w2.heap.size := fun k hk => (hrw.lt k hk).2
    have hz2 := (hE7.size)
    have hz4 : w.heap.size ≤ w2.heap.size := ((by repeat (first | exact Ext.refl _ | assumption | refine Ext.alloc ?_ _ | refine Ext.drew ?_ | refine Ext.drewN ?_ _ | refine Ext.setCell ?_ (by first | exact Nat.le_refl _ | (simp; done) | (dsimp only; omega) | (simp only [World.size_alloc, World.size_setCell]; omega)) _ | refine Ext.trans ?_ (by assumption))) : Ext w w2).size
    have hz5 : w2.heap.size ≤ w3.heap.size := hb3.size
    have hg3 : w2.heap.size ≤ g3 ∧ g3 < w3.heap.size := hr3.lt g3 rfl
    go_wp2_with (fail)
    refine (markLineJobS_any _ n0 _ w2.heap.size _ 1 hrx7 (by omega) (by omega) (by omega)).mono ?_
    rintro e w8 ⟨rfl, hrx, hm8⟩
    have hE8 : Ext w w8 := hE7.of_grownAt hm8 (fun k hk => by simp [Value.ownBlock] at hk; omega)
    have hrw8 := row_below (B := w2.heap.size) hrw7 hlw hm8 (fun k hk => by simp [Value.ownBlock] at hk; omega)
    have hrg8 := row_above hrg7 hm8 (fun k hk => by simp [Value.ownBlock] at hk; omega)
    clear hb1 hb2 hb3 hb4 hb5 hb6 hb7 hE7 hr1 hr3 hr6 hrx hrw hrg hrw7 hrg7 hrx7
    go_wp2_with (fail)
    refine (eqIntS_same _ _ (L.length / 1) L _ (row_ints (row_ext hrg8 (by repeat (first | exact Ext.refl _ | assumption | refine Ext.alloc ?_ _ | refine Ext.drew ?_ | refine Ext.drewN ?_ _ | refine Ext.setCell ?_ (by first | exact Nat.le_refl _ | (simp; done) | (dsimp only; omega) | (simp only [World.size_alloc, World.size_setCell]; omega)) _ | refine Ext.trans ?_ (by assumption)))) (by unfold maxLen; omega) hLw) (row_ints (row_ext hrw8 (by repeat (first | exact Ext.refl _ | assumption | refine Ext.alloc ?_ _ | refine Ext.drew ?_ | refine Ext.drewN ?_ _ | refine Ext.setCell ?_ (by first | exact Nat.le_refl _ | (simp; done) | (dsimp only; omega) | (simp only [World.size_alloc, World.size_setCell]; omega)) _ | refine Ext.trans ?_ (by assumption)))) (by unfold maxLen; omega) hLw)).mono ?_
    rintro e w9 ⟨rfl, hb9⟩
    have hrg9 := row_ext hrg8 hb9
    have hrw9 := row_ext hrw8 hb9
    have hE9 : Ext w w9 := hE8.trans hb9
    have hlg : ∀ k, vg.ownBlock = some k → w3.heap.size ≤ k := fun k hk => (hrg9.lt k hk).1
    go_wp2_with (fail)
    refine (markIntS_any _ _ _ w3.heap.size _ 1 hrg9 (by omega) (by omega) (by omega)).mono ?_
    rintro e w10 ⟨rfl, hrm, hm10⟩
    have hE10 : Ext w w10 := hE9.of_grownAt hm10 (fun k hk => by have := hlg k hk; omega)
    have hrw10 := row_below (B := w2.heap.size) hrw9 hlw hm10 (fun k hk => by have := hlg k hk; omega)
    clear hb9 hE8 hE9 hrg8 hrw8 hrg9 hrw9
    go_wp2_with (fail)
    refine (heldIntS_same _ (L.length / 1) _ 1 (row_ints (row_ext hrm (by repeat (first | exact Ext.refl _ | assumption | refine Ext.alloc ?_ _ | refine Ext.drew ?_ | refine Ext.drewN ?_ _ | refine Ext.setCell ?_ (by first | exact Nat.le_refl _ | (simp; done) | (dsimp only; omega) | (simp only [World.size_alloc, World.size_setCell]; omega)) _ | refine Ext.trans ?_ (by assumption)))) (by unfold maxLen; omega) (marks_wf (by omega) (by omega))) (by omega) (by omega) (by omega)).mono ?_
    rintro e w11 ⟨rfl, hb11⟩
    go_wp2_with (fail)
    refine (toLineJobS_any _ n0 z0 _ (r0.ext (by repeat (first | exact Ext.refl _ | assumption | refine Ext.alloc ?_ _ | refine Ext.drew ?_ | refine Ext.drewN ?_ _ | refine Ext.setCell ?_ (by first | exact Nat.le_refl _ | (simp; done) | (dsimp only; omega) | (simp only [World.size_alloc, World.size_setCell]; omega)) _ | refine Ext.trans ?_ (by assumption)))) hn).mono ?_
    rintro e w12 ⟨g12, rfl, hr12, hb12⟩
    go_wp2_with (fail)
    refine (iFinishTimes_any _ n0 z0 _ (row_ints (row_ext hr12 (by repeat (first | exact Ext.refl _ | assumption | refine Ext.alloc ?_ _ | refine Ext.drew ?_ | refine Ext.drewN ?_ _ | refine Ext.setCell ?_ (by first | exact Nat.le_refl _ | (simp; done) | (dsimp only; omega) | (simp only [World.size_alloc, World.size_setCell]; omega)) _ | refine Ext.trans ?_ (by assumption)))) (by unfold maxLen; omega) hwf)).mono ?_
    rintro e w13 ⟨vh, rfl, hrh, hb13⟩
    rw [← hL] at hrh
    go_wp2_with (fail)
    refine (eqIntS_same _ _ (L.length / 1) L _ (row_ints (row_ext hrh (by repeat (first | exact Ext.refl _ | assumption | refine Ext.alloc ?_ _ | refine Ext.drew ?_ | refine Ext.drewN ?_ _ | refine Ext.setCell ?_ (by first | exact Nat.le_refl _ | (simp; done) | (dsimp only; omega) | (simp only [World.size_alloc, World.size_setCell]; omega)) _ | refine Ext.trans ?_ (by assumption)))) (by unfold maxLen; omega) hLw) (row_ints (row_ext hrw10 (by repeat (first | exact Ext.refl _ | assumption | refine Ext.alloc ?_ _ | refine Ext.drew ?_ | refine Ext.drewN ?_ _ | refine Ext.setCell ?_ (by first | exact Nat.le_refl _ | (simp; done) | (dsimp only; omega) | (simp only [World.size_alloc, World.size_setCell]; omega)) _ | refine Ext.trans ?_ (by assumption)))) (by unfold maxLen; omega) hLw)).mono ?_
    rintro e w14 ⟨rfl, hb14⟩
    go_wp2_with (fail)
    refine (heldIntS_same _ (L.length / 1) _ 1 (row_ints (row_ext hrm (by repeat (first | exact Ext.refl _ | assumption | refine Ext.alloc ?_ _ | refine Ext.drew ?_ | refine Ext.drewN ?_ _ | refine Ext.setCell ?_ (by first | exact Nat.le_refl _ | (simp; done) | (dsimp only; omega) | (simp only [World.size_alloc, World.size_setCell]; omega)) _ | refine Ext.trans ?_ (by assumption)))) (by unfold maxLen; omega) (marks_wf (by omega) (by omega))) (by omega) (by omega) (by omega)).mono ?_
    rintro e w15 ⟨rfl, hb15⟩
    go_wp2_with (fail)
    go_ret
    exact ⟨rfl, (by repeat (first | exact Ext.refl _ | assumption | refine Ext.alloc ?_ _ | refine Ext.drew ?_ | refine Ext.drewN ?_ _ | refine Ext.setCell ?_ (by first | exact Nat.le_refl _ | (simp; done) | (dsimp only; omega) | (simp only [World.size_alloc, World.size_setCell]; omega)) _ | refine Ext.trans ?_ (by assumption)))⟩
  · rw [if_neg (by omega)] at hsz
    go_enter Try.func9, Try.ntmps9
    go_wp2_with (fail)
    refine hsz.mono ?_
    rintro e w' ⟨rfl, rfl⟩
    go_wp2_with (fail)
    go_ret
    exact ⟨rfl, Ext.refl _⟩


set_option maxHeartbeats 2000000 in
theorem walkFnExactWaitsOf (v0 : Value) (n0 : Nat) (z0 : List Int) (w : World) (r0 : IntRow .i64 3 w v0 n0 z0) :
    Calls Try.prog 10 #[v0] w fun e w' => e = .returned (.bool true) ∧ Ext w w' := by
  have hsz := szLineJobS_any v0 n0 z0 w 1048576 r0 (by omega) (by omega)
  by_cases hn : n0 ≤ 1048576
  · rw [if_pos (by omega)] at hsz
    have hwf := r0.2.2.1
    obtain ⟨L, hL⟩ : ∃ L, L = waitV z0 n0 := ⟨_, rfl⟩
    have hLw : ∀ x ∈ L, (Lit.int .i64 x).wf = true := by rw [hL]; exact waitV_wf _ _
    have hLl : L.length / 1 ≤ 16777216 := by rw [hL]; (have := waitV_len z0 n0; omega)
    go_enter Try.func10, Try.ntmps10
    go_wp2_with (fail)
    refine hsz.mono ?_
    rintro e w' ⟨rfl, rfl⟩
    go_wp2_with (fail)
    refine (toLineJobS_any _ n0 z0 _ (r0.ext (by repeat (first | exact Ext.refl _ | assumption | refine Ext.alloc ?_ _ | refine Ext.drew ?_ | refine Ext.drewN ?_ _ | refine Ext.setCell ?_ (by first | exact Nat.le_refl _ | (simp; done) | (dsimp only; omega) | (simp only [World.size_alloc, World.size_setCell]; omega)) _ | refine Ext.trans ?_ (by assumption)))) hn).mono ?_
    rintro e w1 ⟨g1, rfl, hr1, hb1⟩
    go_wp2_with (fail)
    refine (sWaitsOf_any _ n0 z0 _ (row_ints (row_ext hr1 (by repeat (first | exact Ext.refl _ | assumption | refine Ext.alloc ?_ _ | refine Ext.drew ?_ | refine Ext.drewN ?_ _ | refine Ext.setCell ?_ (by first | exact Nat.le_refl _ | (simp; done) | (dsimp only; omega) | (simp only [World.size_alloc, World.size_setCell]; omega)) _ | refine Ext.trans ?_ (by assumption)))) (by unfold maxLen; omega) hwf)).mono ?_
    rintro e w2 ⟨vw, rfl, hrw, hb2⟩
    rw [← hL] at hrw
    go_wp2_with (fail)
    refine (toLineJobS_any _ n0 z0 _ (r0.ext (by repeat (first | exact Ext.refl _ | assumption | refine Ext.alloc ?_ _ | refine Ext.drew ?_ | refine Ext.drewN ?_ _ | refine Ext.setCell ?_ (by first | exact Nat.le_refl _ | (simp; done) | (dsimp only; omega) | (simp only [World.size_alloc, World.size_setCell]; omega)) _ | refine Ext.trans ?_ (by assumption)))) hn).mono ?_
    rintro e w3 ⟨g3, rfl, hr3, hb3⟩
    go_wp2_with (fail)
    refine (iWaitsOf_any _ n0 z0 _ (row_ints (row_ext hr3 (by repeat (first | exact Ext.refl _ | assumption | refine Ext.alloc ?_ _ | refine Ext.drew ?_ | refine Ext.drewN ?_ _ | refine Ext.setCell ?_ (by first | exact Nat.le_refl _ | (simp; done) | (dsimp only; omega) | (simp only [World.size_alloc, World.size_setCell]; omega)) _ | refine Ext.trans ?_ (by assumption)))) (by unfold maxLen; omega) hwf)).mono ?_
    rintro e w4 ⟨vg, rfl, hrg, hb4⟩
    rw [← hL] at hrg
    go_wp2_with (fail)
    refine (eqIntS_same _ _ (L.length / 1) L _ (row_ints (row_ext hrg (by repeat (first | exact Ext.refl _ | assumption | refine Ext.alloc ?_ _ | refine Ext.drew ?_ | refine Ext.drewN ?_ _ | refine Ext.setCell ?_ (by first | exact Nat.le_refl _ | (simp; done) | (dsimp only; omega) | (simp only [World.size_alloc, World.size_setCell]; omega)) _ | refine Ext.trans ?_ (by assumption)))) (by unfold maxLen; omega) hLw) (row_ints (row_ext hrw (by repeat (first | exact Ext.refl _ | assumption | refine Ext.alloc ?_ _ | refine Ext.drew ?_ | refine Ext.drewN ?_ _ | refine Ext.setCell ?_ (by first | exact Nat.le_refl _ | (simp; done) | (dsimp only; omega) | (simp only [World.size_alloc, World.size_setCell]; omega)) _ | refine Ext.trans ?_ (by assumption)))) (by unfold maxLen; omega) hLw)).mono ?_
    rintro e w5 ⟨rfl, hb5⟩
    go_wp2_with (fail)
    refine (toLineJobS_any _ n0 z0 _ (r0.ext (by repeat (first | exact Ext.refl _ | assumption | refine Ext.alloc ?_ _ | refine Ext.drew ?_ | refine Ext.drewN ?_ _ | refine Ext.setCell ?_ (by first | exact Nat.le_refl _ | (simp; done) | (dsimp only; omega) | (simp only [World.size_alloc, World.size_setCell]; omega)) _ | refine Ext.trans ?_ (by assumption)))) hn).mono ?_
    rintro e w6 ⟨g6, rfl, hr6, hb6⟩
    go_wp2_with (fail)
    refine (eqLineJobS_same _ _ n0 z0 _ (row_ints (row_ext hr3 (by repeat (first | exact Ext.refl _ | assumption | refine Ext.alloc ?_ _ | refine Ext.drew ?_ | refine Ext.drewN ?_ _ | refine Ext.setCell ?_ (by first | exact Nat.le_refl _ | (simp; done) | (dsimp only; omega) | (simp only [World.size_alloc, World.size_setCell]; omega)) _ | refine Ext.trans ?_ (by assumption)))) (by unfold maxLen; omega) hwf) (row_ints (row_ext hr6 (by repeat (first | exact Ext.refl _ | assumption | refine Ext.alloc ?_ _ | refine Ext.drew ?_ | refine Ext.drewN ?_ _ | refine Ext.setCell ?_ (by first | exact Nat.le_refl _ | (simp; done) | (dsimp only; omega) | (simp only [World.size_alloc, World.size_setCell]; omega)) _ | refine Ext.trans ?_ (by assumption)))) (by unfold maxLen; omega) hwf)).mono ?_
    rintro e w7 ⟨rfl, hb7⟩
    have hrw7 := row_ext hrw ((by repeat (first | exact Ext.refl _ | assumption | refine Ext.alloc ?_ _ | refine Ext.drew ?_ | refine Ext.drewN ?_ _ | refine Ext.setCell ?_ (by first | exact Nat.le_refl _ | (simp; done) | (dsimp only; omega) | (simp only [World.size_alloc, World.size_setCell]; omega)) _ | refine Ext.trans ?_ (by assumption))) : Ext w2 w7)
    have hrg7 := row_ext hrg ((by repeat (first | exact Ext.refl _ | assumption | refine Ext.alloc ?_ _ | refine Ext.drew ?_ | refine Ext.drewN ?_ _ | refine Ext.setCell ?_ (by first | exact Nat.le_refl _ | (simp; done) | (dsimp only; omega) | (simp only [World.size_alloc, World.size_setCell]; omega)) _ | refine Ext.trans ?_ (by assumption))) : Ext w4 w7)
    have hrx7 := row_ext hr3 ((by repeat (first | exact Ext.refl _ | assumption | refine Ext.alloc ?_ _ | refine Ext.drew ?_ | refine Ext.drewN ?_ _ | refine Ext.setCell ?_ (by first | exact Nat.le_refl _ | (simp; done) | (dsimp only; omega) | (simp only [World.size_alloc, World.size_setCell]; omega)) _ | refine Ext.trans ?_ (by assumption))) : Ext w3 w7)
    have hE7 : Ext w w7 := (by repeat (first | exact Ext.refl _ | assumption | refine Ext.alloc ?_ _ | refine Ext.drew ?_ | refine Ext.drewN ?_ _ | refine Ext.setCell ?_ (by first | exact Nat.le_refl _ | (simp; done) | (dsimp only; omega) | (simp only [World.size_alloc, World.size_setCell]; omega)) _ | refine Ext.trans ?_ (by assumption)))
    have hlw : ∀ k, vw.ownBlock = some k → k < w2.heap.size := fun k hk => (hrw.lt k hk).2
    have hz2 := (hE7.size)
    have hz4 : w.heap.size ≤ w2.heap.size := ((by repeat (first | exact Ext.refl _ | assumption | refine Ext.alloc ?_ _ | refine Ext.drew ?_ | refine Ext.drewN ?_ _ | refine Ext.setCell ?_ (by first | exact Nat.le_refl _ | (simp; done) | (dsimp only; omega) | (simp only [World.size_alloc, World.size_setCell]; omega)) _ | refine Ext.trans ?_ (by assumption))) : Ext w w2).size
    have hz5 : w2.heap.size ≤ w3.heap.size := hb3.size
    have hg3 : w2.heap.size ≤ g3 ∧ g3 < w3.heap.size := hr3.lt g3 rfl
    go_wp2_with (fail)
    refine (markLineJobS_any _ n0 _ w2.heap.size _ 1 hrx7 (by omega) (by omega) (by omega)).mono ?_
    rintro e w8 ⟨rfl, hrx, hm8⟩
    have hE8 : Ext w w8 := hE7.of_grownAt hm8 (fun k hk => by simp [Value.ownBlock] at hk; omega)
    have hrw8 := row_below (B := w2.heap.size) hrw7 hlw hm8 (fun k hk => by simp [Value.ownBlock] at hk; omega)
    have hrg8 := row_above hrg7 hm8 (fun k hk => by simp [Value.ownBlock] at hk; omega)
    clear hb1 hb2 hb3 hb4 hb5 hb6 hb7 hE7 hr1 hr3 hr6 hrx hrw hrg hrw7 hrg7 hrx7
    go_wp2_with (fail)
    refine (eqIntS_same _ _ (L.length / 1) L _ (row_ints (row_ext hrg8 (by repeat (first | exact Ext.refl _ | assumption | refine Ext.alloc ?_ _ | refine Ext.drew ?_ | refine Ext.drewN ?_ _ | refine Ext.setCell ?_ (by first | exact Nat.le_refl _ | (simp; done) | (dsimp only; omega) | (simp only [World.size_alloc, World.size_setCell]; omega)) _ | refine Ext.trans ?_ (by assumption)))) (by unfold maxLen; omega) hLw) (row_ints (row_ext hrw8 (by repeat (first | exact Ext.refl _ | assumption | refine Ext.alloc ?_ _ | refine Ext.drew ?_ | refine Ext.drewN ?_ _ | refine Ext.setCell ?_ (by first | exact Nat.le_refl _ | (simp; done) | (dsimp only; omega) | (simp only [World.size_alloc, World.size_setCell]; omega)) _ | refine Ext.trans ?_ (by assumption)))) (by unfold maxLen; omega) hLw)).mono ?_
    rintro e w9 ⟨rfl, hb9⟩
    have hrg9 := row_ext hrg8 hb9
    have hrw9 := row_ext hrw8 hb9
    have hE9 : Ext w w9 := hE8.trans hb9
    have hlg : ∀ k, vg.ownBlock = some k → w3.heap.size ≤ k := fun k hk => (hrg9.lt k hk).1
    go_wp2_with (fail)
    refine (markIntS_any _ _ _ w3.heap.size _ 1 hrg9 (by omega) (by omega) (by omega)).mono ?_
    rintro e w10 ⟨rfl, hrm, hm10⟩
    have hE10 : Ext w w10 := hE9.of_grownAt hm10 (fun k hk => by have := hlg k hk; omega)
    have hrw10 := row_below (B := w2.heap.size) hrw9 hlw hm10 (fun k hk => by have := hlg k hk; omega)
    clear hb9 hE8 hE9 hrg8 hrw8 hrg9 hrw9
    go_wp2_with (fail)
    refine (heldIntS_same _ (L.length / 1) _ 1 (row_ints (row_ext hrm (by repeat (first | exact Ext.refl _ | assumption | refine Ext.alloc ?_ _ | refine Ext.drew ?_ | refine Ext.drewN ?_ _ | refine Ext.setCell ?_ (by first | exact Nat.le_refl _ | (simp; done) | (dsimp only; omega) | (simp only [World.size_alloc, World.size_setCell]; omega)) _ | refine Ext.trans ?_ (by assumption)))) (by unfold maxLen; omega) (marks_wf (by omega) (by omega))) (by omega) (by omega) (by omega)).mono ?_
    rintro e w11 ⟨rfl, hb11⟩
    go_wp2_with (fail)
    refine (toLineJobS_any _ n0 z0 _ (r0.ext (by repeat (first | exact Ext.refl _ | assumption | refine Ext.alloc ?_ _ | refine Ext.drew ?_ | refine Ext.drewN ?_ _ | refine Ext.setCell ?_ (by first | exact Nat.le_refl _ | (simp; done) | (dsimp only; omega) | (simp only [World.size_alloc, World.size_setCell]; omega)) _ | refine Ext.trans ?_ (by assumption)))) hn).mono ?_
    rintro e w12 ⟨g12, rfl, hr12, hb12⟩
    go_wp2_with (fail)
    refine (iWaitsOf_any _ n0 z0 _ (row_ints (row_ext hr12 (by repeat (first | exact Ext.refl _ | assumption | refine Ext.alloc ?_ _ | refine Ext.drew ?_ | refine Ext.drewN ?_ _ | refine Ext.setCell ?_ (by first | exact Nat.le_refl _ | (simp; done) | (dsimp only; omega) | (simp only [World.size_alloc, World.size_setCell]; omega)) _ | refine Ext.trans ?_ (by assumption)))) (by unfold maxLen; omega) hwf)).mono ?_
    rintro e w13 ⟨vh, rfl, hrh, hb13⟩
    rw [← hL] at hrh
    go_wp2_with (fail)
    refine (eqIntS_same _ _ (L.length / 1) L _ (row_ints (row_ext hrh (by repeat (first | exact Ext.refl _ | assumption | refine Ext.alloc ?_ _ | refine Ext.drew ?_ | refine Ext.drewN ?_ _ | refine Ext.setCell ?_ (by first | exact Nat.le_refl _ | (simp; done) | (dsimp only; omega) | (simp only [World.size_alloc, World.size_setCell]; omega)) _ | refine Ext.trans ?_ (by assumption)))) (by unfold maxLen; omega) hLw) (row_ints (row_ext hrw10 (by repeat (first | exact Ext.refl _ | assumption | refine Ext.alloc ?_ _ | refine Ext.drew ?_ | refine Ext.drewN ?_ _ | refine Ext.setCell ?_ (by first | exact Nat.le_refl _ | (simp; done) | (dsimp only; omega) | (simp only [World.size_alloc, World.size_setCell]; omega)) _ | refine Ext.trans ?_ (by assumption)))) (by unfold maxLen; omega) hLw)).mono ?_
    rintro e w14 ⟨rfl, hb14⟩
    go_wp2_with (fail)
    refine (heldIntS_same _ (L.length / 1) _ 1 (row_ints (row_ext hrm (by repeat (first | exact Ext.refl _ | assumption | refine Ext.alloc ?_ _ | refine Ext.drew ?_ | refine Ext.drewN ?_ _ | refine Ext.setCell ?_ (by first | exact Nat.le_refl _ | (simp; done) | (dsimp only; omega) | (simp only [World.size_alloc, World.size_setCell]; omega)) _ | refine Ext.trans ?_ (by assumption)))) (by unfold maxLen; omega) (marks_wf (by omega) (by omega))) (by omega) (by omega) (by omega)).mono ?_
    rintro e w15 ⟨rfl, hb15⟩
    go_wp2_with (fail)
    go_ret
    exact ⟨rfl, (by repeat (first | exact Ext.refl _ | assumption | refine Ext.alloc ?_ _ | refine Ext.drew ?_ | refine Ext.drewN ?_ _ | refine Ext.setCell ?_ (by first | exact Nat.le_refl _ | (simp; done) | (dsimp only; omega) | (simp only [World.size_alloc, World.size_setCell]; omega)) _ | refine Ext.trans ?_ (by assumption)))⟩
  · rw [if_neg (by omega)] at hsz
    go_enter Try.func10, Try.ntmps10
    go_wp2_with (fail)
    refine hsz.mono ?_
    rintro e w' ⟨rfl, rfl⟩
    go_wp2_with (fail)
    go_ret
    exact ⟨rfl, Ext.refl _⟩

end Go.Proofs.Ytabafhmeefeioaa