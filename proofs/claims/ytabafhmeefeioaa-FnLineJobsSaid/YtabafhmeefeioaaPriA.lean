/- The chapter of priorities: jobs are valid: the program's and the reference's test. No condition. -/
import Derived.Test.YtabafhmeefeioaaLeaf
import Derived.Test.YtabafhmeefeioaaConvLineJob
namespace Go.Proofs.Ytabafhmeefeioaa
open Go.RowKit
set_option linter.unusedSimpArgs false
set_option linter.unusedVariables false

def jobB (a l p : Int) : Bool := inR a 0 200 && inR l 1 40 && inR p 0 3
def jAt (z : List Int) (i : Nat) : Int := z.getD (i * 3) 0
def jLen (z : List Int) (i : Nat) : Int := z.getD (i * 3 + 1) 0
def jPr (z : List Int) (i : Nat) : Int := z.getD (i * 3 + 2) 0
def jobAt (z : List Int) (i : Nat) : Bool := jobB (jAt z i) (jLen z i) (jPr z i)

set_option maxHeartbeats 400000 in
theorem lit1_any (a l p : Int) (w : World) :
    Calls Try.prog 56 #[.agg #[.int .i64 a, .int .i64 l, .int .i64 p]] w fun e w' => e = .returned (.bool (!jobB a l p)) ∧ Ext w w' := by
  go_enter Try.func56, Try.ntmps56
  go_wp2_with (go_at_call 57; refine (within_any _ _ _ _).mono ?_; rintro e w' ⟨rfl, rfl⟩)
  all_goals (go_ret; refine ⟨ret_bool ?_, (by repeat (first | exact Ext.refl _ | assumption | refine Ext.alloc ?_ _ | refine Ext.drew ?_ | refine Ext.drewN ?_ _ | refine Ext.setCell ?_ (by first | exact Nat.le_refl _ | (simp; done) | (dsimp only; omega) | (simp only [World.size_alloc, World.size_setCell]; omega)) _ | refine Ext.trans ?_ (by assumption)))⟩)
  all_goals simp [jobB, *]

set_option maxHeartbeats 600000 in
theorem index_any (v : Value) (n : Nat) (z : List Int) (w : World) (h : IntRow .i64 3 w v n z) :
    Calls Try.prog 78 #[v, .func (.func 56) #[] #[]] w fun e w' => e = .returned (.int .i64 (idxOf (fun i => !jobAt z i) n)) ∧ Ext w w' := by
  obtain ⟨hl, hm, hwf, a, c, rfl, hnc, hcm, hcell⟩ := h
  unfold maxLen at hm
  clear hwf
  go_enter Try.func78, Try.ntmps78
  go_wp2_with (fail)
  go_loopw [8] (fun i wr => ∃ (k : Nat), k ≤ n ∧ i = .int .i64 (k : Int) ∧ (∀ j, j < k → (!jobAt z j) = false) ∧ Ext w wr)
    (fun i _ => n - (intOf i).toNat)
  case atStart => exact ⟨0, Nat.zero_le _, rfl, fun j hj => absurd hj (by omega), Ext.refl _⟩
  case round =>
    obtain ⟨k, hk, rfl, hall, hE⟩ := hrel
    have HA := hid hall
    clear hall
    by_cases hlt : k < n
    · obtain ⟨b, o, rfl, hb, hc⟩ := hcell.resolve_left (by omega)
      obtain ⟨x0, hx0⟩ : ∃ x, x = z.getD (k * 3) 0 := ⟨_, rfl⟩
      have s0 : wr.cell? ⟨b, o + k * 3, none⟩ = some (.int .i64 x0) := by rw [(Ext.cells hE).1 _ _ hb, show o + k * 3 = o + (k * 3) by omega, hc _ (by omega), hx0]
      have H0 := hid hx0
      clear hx0
      obtain ⟨x1, hx1⟩ : ∃ x, x = z.getD (k * 3 + 1) 0 := ⟨_, rfl⟩
      have s1 : wr.cell? ⟨b, o + k * 3 + 1, none⟩ = some (.int .i64 x1) := by rw [(Ext.cells hE).1 _ _ hb, show o + k * 3 + 1 = o + (k * 3 + 1) by omega, hc _ (by omega), hx1]
      have H1 := hid hx1
      clear hx1
      obtain ⟨x2, hx2⟩ : ∃ x, x = z.getD (k * 3 + 2) 0 := ⟨_, rfl⟩
      have s2 : wr.cell? ⟨b, o + k * 3 + 2, none⟩ = some (.int .i64 x2) := by rw [(Ext.cells hE).1 _ _ hb, show o + k * 3 + 2 = o + (k * 3 + 2) by omega, hc _ (by omega), hx2]
      have H2 := hid hx2
      clear hx2
      clear hc hcell
      have H := hid (show jobAt z k = jobB x0 x1 x2 by rw [H0.out, H1.out, H2.out]; rfl)
      by_cases hj : jobB x0 x1 x2 = true
      · go_wp2_with (fail)
        refine (lit1_any _ _ _ _).mono ?_
        rw [hj]
        rintro e w2 ⟨rfl, hb2⟩
        go_wp2_with (fail)
        go_roundw
        case rel =>
          refine ⟨k + 1, by omega, by go_num, fun j hjk => ?_, (by repeat (first | exact Ext.refl _ | assumption | refine Ext.alloc ?_ _ | refine Ext.drew ?_ | refine Ext.drewN ?_ _ | refine Ext.setCell ?_ (by first | exact Nat.le_refl _ | (simp; done) | (dsimp only; omega) | (simp only [World.size_alloc, World.size_setCell]; omega)) _ | refine Ext.trans ?_ (by assumption)))⟩
          by_cases e : j = k
          · subst e
            rw [H.out, hj]
            rfl
          · exact HA.out j (by omega)
        case measure => simp [intOf]; omega
      · have hj : jobB x0 x1 x2 = false := by simpa using hj
        go_wp2_with (fail)
        refine (lit1_any _ _ _ _).mono ?_
        rw [hj]
        rintro e w2 ⟨rfl, hb2⟩
        go_wp2_with (fail)
        go_ret
        refine ⟨ret_int ?_, (by repeat (first | exact Ext.refl _ | assumption | refine Ext.alloc ?_ _ | refine Ext.drew ?_ | refine Ext.drewN ?_ _ | refine Ext.setCell ?_ (by first | exact Nat.le_refl _ | (simp; done) | (dsimp only; omega) | (simp only [World.size_alloc, World.size_setCell]; omega)) _ | refine Ext.trans ?_ (by assumption)))⟩
        rw [idxOf_some hlt (by rw [H.out, hj]; rfl) HA.out]
    · obtain rfl : k = n := by omega
      clear hcell
      go_wp2_with (fail)
      go_ret
      exact ⟨ret_int (by rw [idxOf_none HA.out]), (by repeat (first | exact Ext.refl _ | assumption | refine Ext.alloc ?_ _ | refine Ext.drew ?_ | refine Ext.drewN ?_ _ | refine Ext.setCell ?_ (by first | exact Nat.le_refl _ | (simp; done) | (dsimp only; omega) | (simp only [World.size_alloc, World.size_setCell]; omega)) _ | refine Ext.trans ?_ (by assumption)))⟩

def okJs (z : List Int) (n : Nat) : Bool := decide (n ≤ 12) && allB (jobAt z) n

set_option maxHeartbeats 400000 in
theorem iAreLineJobs_any (v : Value) (n : Nat) (z : List Int) (w : World) (h : IntRow .i64 3 w v n z) :
    Calls Try.prog 18 #[v] w fun e w' => e = .returned (.bool (okJs z n)) ∧ Ext w w' := by
  have hh := h
  obtain ⟨hl, hm, hwf, a, c, rfl, hnc, hcm, hcell⟩ := h
  unfold maxLen at hm
  clear hwf hcell
  have hcon : Calls Try.prog 55 #[.slice a n c, .func (.func 56) #[] #[]] w fun e w' => e = .returned (.bool (!allB (jobAt z) n)) ∧ Ext w w' := by
    go_enter Try.func55, Try.ntmps55
    go_wp2_with (fail)
    refine (index_any _ n z _ hh).mono ?_
    rintro e w2 ⟨rfl, hb2⟩
    go_wp2_with (fail)
    all_goals (go_ret; refine ⟨ret_bool ?_, hb2⟩)
    all_goals
      have e := idxOf_ge (fun i => !jobAt z i) n
      simp only [Bool.not_not] at e
      first | exact e | (rw [← e]; simp [*])
  by_cases hn : (n : Int) ≤ 12
  · have e1 : okJs z n = allB (jobAt z) n := by unfold okJs; rw [and_t (by simp; omega)]
    have E1 := hid e1
    clear e1
    go_enter Try.func18, Try.ntmps18
    go_wp2_with (fail)
    refine hcon.mono ?_
    rintro e w2 ⟨rfl, hb2⟩
    go_wp2_with (fail)
    go_ret
    exact ⟨ret_bool (by rw [E1.out]), hb2⟩
  · have e1 : okJs z n = false := by unfold okJs; rw [and_f (by simp; omega)]
    have E1 := hid e1
    clear e1 hcon
    go_enter Try.func18, Try.ntmps18
    go_wp2_with (fail)
    go_ret
    exact ⟨ret_bool (by rw [E1.out]), Ext.refl _⟩

set_option maxHeartbeats 800000 in
theorem prGood_any (v : Value) (n : Nat) (z : List Int) (w : World) (h : IntRow .i64 3 w v n z) :
    Calls Try.prog 53 #[v] w fun e w' => e = .returned (.bool (okJs z n)) ∧ Ext w w' := by
  obtain ⟨hl, hm, hwf, a, c, rfl, hnc, hcm, hcell⟩ := h
  unfold maxLen at hm
  clear hwf
  go_enter Try.func53, Try.ntmps53
  go_wp2_with (fail)
  go_loopw [7] (fun i wr => ∃ (k : Nat), k ≤ n ∧ i = .int .i64 (k : Int) ∧ (∀ j, j < k → jobAt z j = true) ∧ Ext w wr)
    (fun i _ => n - (intOf i).toNat)
  case atStart => exact ⟨0, Nat.zero_le _, rfl, fun j hj => absurd hj (by omega), Ext.refl _⟩
  case round =>
    obtain ⟨k, hk, rfl, hall, hE⟩ := hrel
    have HA := hid hall
    clear hall
    by_cases hlt : k < n
    · obtain ⟨b, o, rfl, hb, hc⟩ := hcell.resolve_left (by omega)
      obtain ⟨x0, hx0⟩ : ∃ x, x = z.getD (k * 3) 0 := ⟨_, rfl⟩
      have s0 : wr.cell? ⟨b, o + k * 3, none⟩ = some (.int .i64 x0) := by rw [(Ext.cells hE).1 _ _ hb, show o + k * 3 = o + (k * 3) by omega, hc _ (by omega), hx0]
      have H0 := hid hx0
      clear hx0
      obtain ⟨x1, hx1⟩ : ∃ x, x = z.getD (k * 3 + 1) 0 := ⟨_, rfl⟩
      have s1 : wr.cell? ⟨b, o + k * 3 + 1, none⟩ = some (.int .i64 x1) := by rw [(Ext.cells hE).1 _ _ hb, show o + k * 3 + 1 = o + (k * 3 + 1) by omega, hc _ (by omega), hx1]
      have H1 := hid hx1
      clear hx1
      obtain ⟨x2, hx2⟩ : ∃ x, x = z.getD (k * 3 + 2) 0 := ⟨_, rfl⟩
      have s2 : wr.cell? ⟨b, o + k * 3 + 2, none⟩ = some (.int .i64 x2) := by rw [(Ext.cells hE).1 _ _ hb, show o + k * 3 + 2 = o + (k * 3 + 2) by omega, hc _ (by omega), hx2]
      have H2 := hid hx2
      clear hx2
      clear hc hcell
      have H := hid (show jobAt z k = jobB x0 x1 x2 by rw [H0.out, H1.out, H2.out]; rfl)
      go_wp2_with (go_at_call 60; refine (l1In_any _ _ _ _).mono ?_; rintro e w' ⟨rfl, rfl⟩)
      all_goals first
        | (go_ret
           refine ⟨ret_bool ?_, (by repeat (first | exact Ext.refl _ | assumption | refine Ext.alloc ?_ _ | refine Ext.drew ?_ | refine Ext.drewN ?_ _ | refine Ext.setCell ?_ (by first | exact Nat.le_refl _ | (simp; done) | (dsimp only; omega) | (simp only [World.size_alloc, World.size_setCell]; omega)) _ | refine Ext.trans ?_ (by assumption)))⟩
           unfold okJs
           try simp only [Bool.not_eq_true', Bool.not_eq_false'] at *
           rw [allB_f hlt (by rw [H.out]; simp [jobB, *]), Bool.and_false])
        | (go_roundw
           case rel =>
             refine ⟨k + 1, by omega, by go_num, fun j hjk => ?_, (by repeat (first | exact Ext.refl _ | assumption | refine Ext.alloc ?_ _ | refine Ext.drew ?_ | refine Ext.drewN ?_ _ | refine Ext.setCell ?_ (by first | exact Nat.le_refl _ | (simp; done) | (dsimp only; omega) | (simp only [World.size_alloc, World.size_setCell]; omega)) _ | refine Ext.trans ?_ (by assumption)))⟩
             by_cases e : j = k
             · subst e
               rw [H.out]
               try simp only [Bool.not_eq_true', Bool.not_eq_false'] at *
               simp [jobB, *]
             · exact HA.out j (by omega)
           case measure => simp [intOf]; omega)
    · obtain rfl : k = n := by omega
      clear hcell
      go_wp2_with (fail)
      all_goals (go_ret; refine ⟨ret_bool ?_, hE⟩)
      all_goals (unfold okJs; rw [allB_t HA.out, Bool.and_true, Bool.eq_iff_iff]; simp; try omega)

set_option maxHeartbeats 400000 in
theorem sAreLineJobs_any (v : Value) (n : Nat) (z : List Int) (w : World) (h : IntRow .i64 3 w v n z) :
    Calls Try.prog 16 #[v] w fun e w' => e = .returned (.bool (okJs z n)) ∧ Ext w w' := by
  go_enter Try.func16, Try.ntmps16
  go_wp2_with (fail)
  refine (prGood_any _ n z _ h).mono ?_
  rintro e w1 ⟨rfl, hb1⟩
  go_wp2_with (fail)
  go_ret
  exact ⟨rfl, hb1⟩

set_option maxHeartbeats 1000000 in
theorem walkFnExactAreLineJobs (v0 : Value) (n0 : Nat) (z0 : List Int) (w : World) (r0 : IntRow .i64 3 w v0 n0 z0) :
    Calls Try.prog 3 #[v0] w fun e w' => e = .returned (.bool true) ∧ Ext w w' := by
  have hsz := szLineJobS_any v0 n0 z0 w 1048576 r0 (by omega) (by omega)
  by_cases hn : n0 ≤ 1048576
  · rw [if_pos (by omega)] at hsz
    have hwf := r0.2.2.1
    go_enter Try.func3, Try.ntmps3
    go_wp2_with (fail)
    refine hsz.mono ?_
    rintro e w' ⟨rfl, rfl⟩
    go_wp2_with (fail)
    refine (toLineJobS_any _ n0 z0 _ (r0.ext (by repeat (first | exact Ext.refl _ | assumption | refine Ext.alloc ?_ _ | refine Ext.drew ?_ | refine Ext.drewN ?_ _ | refine Ext.setCell ?_ (by first | exact Nat.le_refl _ | (simp; done) | (dsimp only; omega) | (simp only [World.size_alloc, World.size_setCell]; omega)) _ | refine Ext.trans ?_ (by assumption)))) hn).mono ?_
    rintro e w1 ⟨g1, rfl, hr1, hb1⟩
    have hz1 := Ext.size hb1
    try simp only [World.size_alloc, World.size_setCell] at hz1
    obtain ⟨hc1, hf1⟩ := Ext.cells hb1
    try have hk1_0_0 := fun o => hc1 (w.heap.size) o (by (try simp only [World.size_alloc, World.size_setCell]); omega)
    try have hj1_0_0 := fun o => hf1 (w.heap.size) o (by (try simp only [World.size_alloc, World.size_setCell]); omega)
    try have hy1_0_0 : w.heap.size < w1.heap.size := by omega
    try have hk1_0_1 := fun o => hc1 (w.heap.size + 1) o (by (try simp only [World.size_alloc, World.size_setCell]); omega)
    try have hj1_0_1 := fun o => hf1 (w.heap.size + 1) o (by (try simp only [World.size_alloc, World.size_setCell]); omega)
    try have hy1_0_1 : w.heap.size + 1 < w1.heap.size := by omega
    try have hk1_0_2 := fun o => hc1 (w.heap.size + 1 + 1) o (by (try simp only [World.size_alloc, World.size_setCell]); omega)
    try have hj1_0_2 := fun o => hf1 (w.heap.size + 1 + 1) o (by (try simp only [World.size_alloc, World.size_setCell]); omega)
    try have hy1_0_2 : w.heap.size + 1 + 1 < w1.heap.size := by omega
    clear hc1 hf1
    go_wp2_with (fail)
    refine (sAreLineJobs_any _ n0 z0 _ (row_ints (row_ext hr1 (by repeat (first | exact Ext.refl _ | assumption | refine Ext.alloc ?_ _ | refine Ext.drew ?_ | refine Ext.drewN ?_ _ | refine Ext.setCell ?_ (by first | exact Nat.le_refl _ | (simp; done) | (dsimp only; omega) | (simp only [World.size_alloc, World.size_setCell]; omega)) _ | refine Ext.trans ?_ (by assumption)))) (by unfold maxLen; omega) hwf)).mono ?_
    rintro e w2 ⟨rfl, hb2⟩
    have hz2 := Ext.size hb2
    try simp only [World.size_alloc, World.size_setCell] at hz2
    obtain ⟨hc2, hf2⟩ := Ext.cells hb2
    try have hk2_0_0 := fun o => hc2 (w.heap.size) o (by (try simp only [World.size_alloc, World.size_setCell]); omega)
    try have hj2_0_0 := fun o => hf2 (w.heap.size) o (by (try simp only [World.size_alloc, World.size_setCell]); omega)
    try have hy2_0_0 : w.heap.size < w2.heap.size := by omega
    try have hk2_0_1 := fun o => hc2 (w.heap.size + 1) o (by (try simp only [World.size_alloc, World.size_setCell]); omega)
    try have hj2_0_1 := fun o => hf2 (w.heap.size + 1) o (by (try simp only [World.size_alloc, World.size_setCell]); omega)
    try have hy2_0_1 : w.heap.size + 1 < w2.heap.size := by omega
    try have hk2_0_2 := fun o => hc2 (w.heap.size + 1 + 1) o (by (try simp only [World.size_alloc, World.size_setCell]); omega)
    try have hj2_0_2 := fun o => hf2 (w.heap.size + 1 + 1) o (by (try simp only [World.size_alloc, World.size_setCell]); omega)
    try have hy2_0_2 : w.heap.size + 1 + 1 < w2.heap.size := by omega
    try have hk2_1_0 := fun o => hc2 (w1.heap.size) o (by (try simp only [World.size_alloc, World.size_setCell]); omega)
    try have hj2_1_0 := fun o => hf2 (w1.heap.size) o (by (try simp only [World.size_alloc, World.size_setCell]); omega)
    try have hy2_1_0 : w1.heap.size < w2.heap.size := by omega
    try have hk2_1_1 := fun o => hc2 (w1.heap.size + 1) o (by (try simp only [World.size_alloc, World.size_setCell]); omega)
    try have hj2_1_1 := fun o => hf2 (w1.heap.size + 1) o (by (try simp only [World.size_alloc, World.size_setCell]); omega)
    try have hy2_1_1 : w1.heap.size + 1 < w2.heap.size := by omega
    clear hc2 hf2
    go_wp2_with (fail)
    refine (toLineJobS_any _ n0 z0 _ (r0.ext (by repeat (first | exact Ext.refl _ | assumption | refine Ext.alloc ?_ _ | refine Ext.drew ?_ | refine Ext.drewN ?_ _ | refine Ext.setCell ?_ (by first | exact Nat.le_refl _ | (simp; done) | (dsimp only; omega) | (simp only [World.size_alloc, World.size_setCell]; omega)) _ | refine Ext.trans ?_ (by assumption)))) hn).mono ?_
    rintro e w3 ⟨g3, rfl, hr3, hb3⟩
    have hz3 := Ext.size hb3
    try simp only [World.size_alloc, World.size_setCell] at hz3
    obtain ⟨hc3, hf3⟩ := Ext.cells hb3
    try have hk3_0_0 := fun o => hc3 (w.heap.size) o (by (try simp only [World.size_alloc, World.size_setCell]); omega)
    try have hj3_0_0 := fun o => hf3 (w.heap.size) o (by (try simp only [World.size_alloc, World.size_setCell]); omega)
    try have hy3_0_0 : w.heap.size < w3.heap.size := by omega
    try have hk3_0_1 := fun o => hc3 (w.heap.size + 1) o (by (try simp only [World.size_alloc, World.size_setCell]); omega)
    try have hj3_0_1 := fun o => hf3 (w.heap.size + 1) o (by (try simp only [World.size_alloc, World.size_setCell]); omega)
    try have hy3_0_1 : w.heap.size + 1 < w3.heap.size := by omega
    try have hk3_0_2 := fun o => hc3 (w.heap.size + 1 + 1) o (by (try simp only [World.size_alloc, World.size_setCell]); omega)
    try have hj3_0_2 := fun o => hf3 (w.heap.size + 1 + 1) o (by (try simp only [World.size_alloc, World.size_setCell]); omega)
    try have hy3_0_2 : w.heap.size + 1 + 1 < w3.heap.size := by omega
    try have hk3_1_0 := fun o => hc3 (w1.heap.size) o (by (try simp only [World.size_alloc, World.size_setCell]); omega)
    try have hj3_1_0 := fun o => hf3 (w1.heap.size) o (by (try simp only [World.size_alloc, World.size_setCell]); omega)
    try have hy3_1_0 : w1.heap.size < w3.heap.size := by omega
    try have hk3_1_1 := fun o => hc3 (w1.heap.size + 1) o (by (try simp only [World.size_alloc, World.size_setCell]); omega)
    try have hj3_1_1 := fun o => hf3 (w1.heap.size + 1) o (by (try simp only [World.size_alloc, World.size_setCell]); omega)
    try have hy3_1_1 : w1.heap.size + 1 < w3.heap.size := by omega
    try have hk3_2_0 := fun o => hc3 (w2.heap.size) o (by (try simp only [World.size_alloc, World.size_setCell]); omega)
    try have hj3_2_0 := fun o => hf3 (w2.heap.size) o (by (try simp only [World.size_alloc, World.size_setCell]); omega)
    try have hy3_2_0 : w2.heap.size < w3.heap.size := by omega
    try have hk3_2_1 := fun o => hc3 (w2.heap.size + 1) o (by (try simp only [World.size_alloc, World.size_setCell]); omega)
    try have hj3_2_1 := fun o => hf3 (w2.heap.size + 1) o (by (try simp only [World.size_alloc, World.size_setCell]); omega)
    try have hy3_2_1 : w2.heap.size + 1 < w3.heap.size := by omega
    clear hc3 hf3
    go_wp2_with (fail)
    refine (iAreLineJobs_any _ n0 z0 _ (row_ints (row_ext hr3 (by repeat (first | exact Ext.refl _ | assumption | refine Ext.alloc ?_ _ | refine Ext.drew ?_ | refine Ext.drewN ?_ _ | refine Ext.setCell ?_ (by first | exact Nat.le_refl _ | (simp; done) | (dsimp only; omega) | (simp only [World.size_alloc, World.size_setCell]; omega)) _ | refine Ext.trans ?_ (by assumption)))) (by unfold maxLen; omega) hwf)).mono ?_
    rintro e w4 ⟨rfl, hb4⟩
    have hz4 := Ext.size hb4
    try simp only [World.size_alloc, World.size_setCell] at hz4
    obtain ⟨hc4, hf4⟩ := Ext.cells hb4
    try have hk4_0_0 := fun o => hc4 (w.heap.size) o (by (try simp only [World.size_alloc, World.size_setCell]); omega)
    try have hj4_0_0 := fun o => hf4 (w.heap.size) o (by (try simp only [World.size_alloc, World.size_setCell]); omega)
    try have hy4_0_0 : w.heap.size < w4.heap.size := by omega
    try have hk4_0_1 := fun o => hc4 (w.heap.size + 1) o (by (try simp only [World.size_alloc, World.size_setCell]); omega)
    try have hj4_0_1 := fun o => hf4 (w.heap.size + 1) o (by (try simp only [World.size_alloc, World.size_setCell]); omega)
    try have hy4_0_1 : w.heap.size + 1 < w4.heap.size := by omega
    try have hk4_0_2 := fun o => hc4 (w.heap.size + 1 + 1) o (by (try simp only [World.size_alloc, World.size_setCell]); omega)
    try have hj4_0_2 := fun o => hf4 (w.heap.size + 1 + 1) o (by (try simp only [World.size_alloc, World.size_setCell]); omega)
    try have hy4_0_2 : w.heap.size + 1 + 1 < w4.heap.size := by omega
    try have hk4_1_0 := fun o => hc4 (w1.heap.size) o (by (try simp only [World.size_alloc, World.size_setCell]); omega)
    try have hj4_1_0 := fun o => hf4 (w1.heap.size) o (by (try simp only [World.size_alloc, World.size_setCell]); omega)
    try have hy4_1_0 : w1.heap.size < w4.heap.size := by omega
    try have hk4_1_1 := fun o => hc4 (w1.heap.size + 1) o (by (try simp only [World.size_alloc, World.size_setCell]); omega)
    try have hj4_1_1 := fun o => hf4 (w1.heap.size + 1) o (by (try simp only [World.size_alloc, World.size_setCell]); omega)
    try have hy4_1_1 : w1.heap.size + 1 < w4.heap.size := by omega
    try have hk4_2_0 := fun o => hc4 (w2.heap.size) o (by (try simp only [World.size_alloc, World.size_setCell]); omega)
    try have hj4_2_0 := fun o => hf4 (w2.heap.size) o (by (try simp only [World.size_alloc, World.size_setCell]); omega)
    try have hy4_2_0 : w2.heap.size < w4.heap.size := by omega
    try have hk4_2_1 := fun o => hc4 (w2.heap.size + 1) o (by (try simp only [World.size_alloc, World.size_setCell]); omega)
    try have hj4_2_1 := fun o => hf4 (w2.heap.size + 1) o (by (try simp only [World.size_alloc, World.size_setCell]); omega)
    try have hy4_2_1 : w2.heap.size + 1 < w4.heap.size := by omega
    try have hk4_3_0 := fun o => hc4 (w3.heap.size) o (by (try simp only [World.size_alloc, World.size_setCell]); omega)
    try have hj4_3_0 := fun o => hf4 (w3.heap.size) o (by (try simp only [World.size_alloc, World.size_setCell]); omega)
    try have hy4_3_0 : w3.heap.size < w4.heap.size := by omega
    try have hk4_3_1 := fun o => hc4 (w3.heap.size + 1) o (by (try simp only [World.size_alloc, World.size_setCell]); omega)
    try have hj4_3_1 := fun o => hf4 (w3.heap.size + 1) o (by (try simp only [World.size_alloc, World.size_setCell]); omega)
    try have hy4_3_1 : w3.heap.size + 1 < w4.heap.size := by omega
    clear hc4 hf4
    go_wp2_with (fail)
    refine (toLineJobS_any _ n0 z0 _ (r0.ext (by repeat (first | exact Ext.refl _ | assumption | refine Ext.alloc ?_ _ | refine Ext.drew ?_ | refine Ext.drewN ?_ _ | refine Ext.setCell ?_ (by first | exact Nat.le_refl _ | (simp; done) | (dsimp only; omega) | (simp only [World.size_alloc, World.size_setCell]; omega)) _ | refine Ext.trans ?_ (by assumption)))) hn).mono ?_
    rintro e w5 ⟨g5, rfl, hr5, hb5⟩
    have hz5 := Ext.size hb5
    try simp only [World.size_alloc, World.size_setCell] at hz5
    obtain ⟨hc5, hf5⟩ := Ext.cells hb5
    try have hk5_0_0 := fun o => hc5 (w.heap.size) o (by (try simp only [World.size_alloc, World.size_setCell]); omega)
    try have hj5_0_0 := fun o => hf5 (w.heap.size) o (by (try simp only [World.size_alloc, World.size_setCell]); omega)
    try have hy5_0_0 : w.heap.size < w5.heap.size := by omega
    try have hk5_0_1 := fun o => hc5 (w.heap.size + 1) o (by (try simp only [World.size_alloc, World.size_setCell]); omega)
    try have hj5_0_1 := fun o => hf5 (w.heap.size + 1) o (by (try simp only [World.size_alloc, World.size_setCell]); omega)
    try have hy5_0_1 : w.heap.size + 1 < w5.heap.size := by omega
    try have hk5_0_2 := fun o => hc5 (w.heap.size + 1 + 1) o (by (try simp only [World.size_alloc, World.size_setCell]); omega)
    try have hj5_0_2 := fun o => hf5 (w.heap.size + 1 + 1) o (by (try simp only [World.size_alloc, World.size_setCell]); omega)
    try have hy5_0_2 : w.heap.size + 1 + 1 < w5.heap.size := by omega
    try have hk5_1_0 := fun o => hc5 (w1.heap.size) o (by (try simp only [World.size_alloc, World.size_setCell]); omega)
    try have hj5_1_0 := fun o => hf5 (w1.heap.size) o (by (try simp only [World.size_alloc, World.size_setCell]); omega)
    try have hy5_1_0 : w1.heap.size < w5.heap.size := by omega
    try have hk5_1_1 := fun o => hc5 (w1.heap.size + 1) o (by (try simp only [World.size_alloc, World.size_setCell]); omega)
    try have hj5_1_1 := fun o => hf5 (w1.heap.size + 1) o (by (try simp only [World.size_alloc, World.size_setCell]); omega)
    try have hy5_1_1 : w1.heap.size + 1 < w5.heap.size := by omega
    try have hk5_2_0 := fun o => hc5 (w2.heap.size) o (by (try simp only [World.size_alloc, World.size_setCell]); omega)
    try have hj5_2_0 := fun o => hf5 (w2.heap.size) o (by (try simp only [World.size_alloc, World.size_setCell]); omega)
    try have hy5_2_0 : w2.heap.size < w5.heap.size := by omega
    try have hk5_2_1 := fun o => hc5 (w2.heap.size + 1) o (by (try simp only [World.size_alloc, World.size_setCell]); omega)
    try have hj5_2_1 := fun o => hf5 (w2.heap.size + 1) o (by (try simp only [World.size_alloc, World.size_setCell]); omega)
    try have hy5_2_1 : w2.heap.size + 1 < w5.heap.size := by omega
    try have hk5_3_0 := fun o => hc5 (w3.heap.size) o (by (try simp only [World.size_alloc, World.size_setCell]); omega)
    try have hj5_3_0 := fun o => hf5 (w3.heap.size) o (by (try simp only [World.size_alloc, World.size_setCell]); omega)
    try have hy5_3_0 : w3.heap.size < w5.heap.size := by omega
    try have hk5_3_1 := fun o => hc5 (w3.heap.size + 1) o (by (try simp only [World.size_alloc, World.size_setCell]); omega)
    try have hj5_3_1 := fun o => hf5 (w3.heap.size + 1) o (by (try simp only [World.size_alloc, World.size_setCell]); omega)
    try have hy5_3_1 : w3.heap.size + 1 < w5.heap.size := by omega
    try have hk5_4_0 := fun o => hc5 (w4.heap.size) o (by (try simp only [World.size_alloc, World.size_setCell]); omega)
    try have hj5_4_0 := fun o => hf5 (w4.heap.size) o (by (try simp only [World.size_alloc, World.size_setCell]); omega)
    try have hy5_4_0 : w4.heap.size < w5.heap.size := by omega
    try have hk5_4_1 := fun o => hc5 (w4.heap.size + 1) o (by (try simp only [World.size_alloc, World.size_setCell]); omega)
    try have hj5_4_1 := fun o => hf5 (w4.heap.size + 1) o (by (try simp only [World.size_alloc, World.size_setCell]); omega)
    try have hy5_4_1 : w4.heap.size + 1 < w5.heap.size := by omega
    clear hc5 hf5
    go_wp2_with (fail)
    refine (eqLineJobS_same _ _ n0 z0 _ (row_ints (row_ext hr3 (by repeat (first | exact Ext.refl _ | assumption | refine Ext.alloc ?_ _ | refine Ext.drew ?_ | refine Ext.drewN ?_ _ | refine Ext.setCell ?_ (by first | exact Nat.le_refl _ | (simp; done) | (dsimp only; omega) | (simp only [World.size_alloc, World.size_setCell]; omega)) _ | refine Ext.trans ?_ (by assumption)))) (by unfold maxLen; omega) hwf) (row_ints (row_ext hr5 (by repeat (first | exact Ext.refl _ | assumption | refine Ext.alloc ?_ _ | refine Ext.drew ?_ | refine Ext.drewN ?_ _ | refine Ext.setCell ?_ (by first | exact Nat.le_refl _ | (simp; done) | (dsimp only; omega) | (simp only [World.size_alloc, World.size_setCell]; omega)) _ | refine Ext.trans ?_ (by assumption)))) (by unfold maxLen; omega) hwf)).mono ?_
    rintro e w6 ⟨rfl, hb6⟩
    go_wp2_with (fail)
    go_ret
    exact ⟨rfl, (by repeat (first | exact Ext.refl _ | assumption | refine Ext.alloc ?_ _ | refine Ext.drew ?_ | refine Ext.drewN ?_ _ | refine Ext.setCell ?_ (by first | exact Nat.le_refl _ | (simp; done) | (dsimp only; omega) | (simp only [World.size_alloc, World.size_setCell]; omega)) _ | refine Ext.trans ?_ (by assumption)))⟩
  · rw [if_neg (by omega)] at hsz
    go_enter Try.func3, Try.ntmps3
    go_wp2_with (fail)
    refine hsz.mono ?_
    rintro e w' ⟨rfl, rfl⟩
    go_wp2_with (fail)
    go_ret
    exact ⟨rfl, Ext.refl _⟩
end Go.Proofs.Ytabafhmeefeioaa
