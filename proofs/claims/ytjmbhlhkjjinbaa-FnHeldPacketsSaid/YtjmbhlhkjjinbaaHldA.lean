/- The chapter of held messages: jobs are valid: the program's and the reference's test. No condition. -/
import Derived.Test.YtjmbhlhkjjinbaaLeaf
import Derived.Test.YtjmbhlhkjjinbaaConvHeldJob
namespace Go.Proofs.Ytjmbhlhkjjinbaa
open Go.RowKit
set_option linter.unusedSimpArgs false
set_option linter.unusedVariables false

def hRd (z : List Int) (i : Nat) : Int := z.getD (i * 2) 0
def hCt (z : List Int) (i : Nat) : Int := z.getD (i * 2 + 1) 0
def hjB (x0 x1 : Int) (f : Bool) : Bool := inR x0 0 10000 && inR x1 1 80 && f
def hjAt (z : List Int) (i : Nat) : Bool := hjB (hRd z i) (hCt z i) (decide (i = 0) || decide (hRd z (i - 1) ≤ hRd z i))
def okHs (z : List Int) (n : Nat) : Bool := decide (n ≤ 20) && allB (hjAt z) n

set_option maxRecDepth 100000 in
set_option maxHeartbeats 1000000 in
theorem iAreHeldJobs_any (v : Value) (n : Nat) (z : List Int) (w : World) (h : IntRow .i64 2 w v n z) :
    Calls Try.prog 60 #[v] w fun e w' => e = .returned (.bool (okHs z n)) ∧ Ext w w' := by
  obtain ⟨hl, hm, hwf, a, c, rfl, hnc, hcm, hcell⟩ := h
  unfold maxLen at hm
  clear hwf
  by_cases hn : (n : Int) ≤ 20
  · go_enter Try.func60, Try.ntmps60
    go_wp2_with (fail)
    go_loopw [10] (fun i wr => ∃ (k : Nat), k ≤ n ∧ i = .int .i64 (k : Int) ∧ (∀ j, j < k → hjAt z j = true) ∧ Ext w wr)
      (fun i _ => n - (intOf i).toNat)
    case atStart => exact ⟨0, Nat.zero_le _, rfl, fun j hj => absurd hj (by omega), Ext.refl _⟩
    case round =>
      obtain ⟨k, hk, rfl, hall, hE⟩ := hrel
      have HA := hid hall
      clear hall
      by_cases hlt : k < n
      · obtain ⟨b, o, rfl, hb, hc⟩ := hcell.resolve_left (by omega)
        obtain ⟨x0, hx0⟩ : ∃ x, x = z.getD (k * 2) 0 := ⟨_, rfl⟩
        have s0 : wr.cell? ⟨b, o + k * 2, none⟩ = some (.int .i64 x0) := by rw [(Ext.cells hE).1 _ _ hb, show o + k * 2 = o + (k * 2) by omega, hc _ (by omega), hx0]
        have H0 := hid hx0
        clear hx0
        obtain ⟨x1, hx1⟩ : ∃ x, x = z.getD (k * 2 + 1) 0 := ⟨_, rfl⟩
        have s1 : wr.cell? ⟨b, o + k * 2 + 1, none⟩ = some (.int .i64 x1) := by rw [(Ext.cells hE).1 _ _ hb, show o + k * 2 + 1 = o + (k * 2 + 1) by omega, hc _ (by omega), hx1]
        have H1 := hid hx1
        clear hx1
        have hbr : b < wr.heap.size := Nat.lt_of_lt_of_le hb hE.size
        by_cases hk0 : k = 0
        · have H := hid (show hjAt z k = hjB x0 x1 true by unfold hjAt; rw [show hRd z k = x0 from H0.out.symm, show hCt z k = x1 from H1.out.symm, hk0]; rfl)
          have hkz : (k : Int) ≤ 0 := by omega
          have hkz2 : decide (0 < k) = false := by simp; omega
          clear hc hcell hk0
          rcases Bool.eq_false_or_eq_true (inR x0 0 10000) with hA | hA <;> rcases Bool.eq_false_or_eq_true (inR x1 1 80) with hB | hB
          all_goals (go_wp2_with (fail); go_quiet ((go_at_call 27; exact quiet_same (within_any _ _ _ _))); go_wp2_with (fail))
          all_goals first
            | (go_ret
               refine ⟨ret_bool ?_, (by repeat (first | exact Ext.refl _ | assumption | refine Ext.alloc ?_ _ | refine Ext.drew ?_ | refine Ext.drewN ?_ _ | refine Ext.setCell ?_ (by first | exact Nat.le_refl _ | (simp; done) | (dsimp only; omega) | (simp only [World.size_alloc, World.size_setCell]; omega)) _ | refine Ext.trans ?_ (by assumption)))⟩
               try simp only [Bool.not_eq_true', Bool.not_eq_false'] at *
               unfold okHs
               rw [allB_f hlt (by rw [H.out]; simp [hjB, *]), Bool.and_false])
            | (go_roundw
               case rel =>
                 refine ⟨k + 1, by omega, by go_num, fun j hjk => ?_, (by repeat (first | exact Ext.refl _ | assumption | refine Ext.alloc ?_ _ | refine Ext.drew ?_ | refine Ext.drewN ?_ _ | refine Ext.setCell ?_ (by first | exact Nat.le_refl _ | (simp; done) | (dsimp only; omega) | (simp only [World.size_alloc, World.size_setCell]; omega)) _ | refine Ext.trans ?_ (by assumption)))⟩
                 by_cases e : j = k
                 · subst e
                   rw [H.out]
                   try simp only [Bool.not_eq_true', Bool.not_eq_false'] at *
                   simp [hjB, *]
                 · exact HA.out j (by omega)
               case measure => simp [intOf]; omega)
        · obtain ⟨p0, hp0⟩ : ∃ x, x = hRd z (k - 1) := ⟨_, rfl⟩
          have sp : wr.cell? ⟨b, o + (k - 1) * 2, none⟩ = some (.int .i64 p0) := by rw [(Ext.cells hE).1 _ _ hb, hc _ (by omega), hp0]; rfl
          have H := hid (show hjAt z k = hjB x0 x1 (!decide (x0 < p0)) by unfold hjAt; rw [show hRd z k = x0 from H0.out.symm, show hCt z k = x1 from H1.out.symm, ← hp0, decide_eq_false hk0, Bool.false_or]; congr 1; rw [← decide_not]; congr 1; simp)
          clear hp0 hc hcell
          have hk1 : 1 ≤ k := by omega
          have hk2 : decide (0 < k) = true := by simp; omega
          by_cases hx : x0 < p0
          · have hx2 : decide (x0 < p0) = true := by simpa using hx
            rcases Bool.eq_false_or_eq_true (inR x0 0 10000) with hA | hA <;> rcases Bool.eq_false_or_eq_true (inR x1 1 80) with hB | hB
            all_goals (go_wp2_with (fail); go_quiet ((go_at_call 27; exact quiet_same (within_any _ _ _ _))); go_wp2_with (fail))
            all_goals first
              | (go_ret
                 refine ⟨ret_bool ?_, (by repeat (first | exact Ext.refl _ | assumption | refine Ext.alloc ?_ _ | refine Ext.drew ?_ | refine Ext.drewN ?_ _ | refine Ext.setCell ?_ (by first | exact Nat.le_refl _ | (simp; done) | (dsimp only; omega) | (simp only [World.size_alloc, World.size_setCell]; omega)) _ | refine Ext.trans ?_ (by assumption)))⟩
                 try simp only [Bool.not_eq_true', Bool.not_eq_false'] at *
                 unfold okHs
                 rw [allB_f hlt (by rw [H.out]; simp [hjB, *]), Bool.and_false])
              | (go_roundw
                 case rel =>
                   refine ⟨k + 1, by omega, by go_num, fun j hjk => ?_, (by repeat (first | exact Ext.refl _ | assumption | refine Ext.alloc ?_ _ | refine Ext.drew ?_ | refine Ext.drewN ?_ _ | refine Ext.setCell ?_ (by first | exact Nat.le_refl _ | (simp; done) | (dsimp only; omega) | (simp only [World.size_alloc, World.size_setCell]; omega)) _ | refine Ext.trans ?_ (by assumption)))⟩
                   by_cases e : j = k
                   · subst e
                     rw [H.out]
                     try simp only [Bool.not_eq_true', Bool.not_eq_false'] at *
                     simp [hjB, *]
                   · exact HA.out j (by omega)
                 case measure => simp [intOf]; omega)
          · have hx2 : decide (x0 < p0) = false := by simpa using hx
            rcases Bool.eq_false_or_eq_true (inR x0 0 10000) with hA | hA <;> rcases Bool.eq_false_or_eq_true (inR x1 1 80) with hB | hB
            all_goals (go_wp2_with (fail); go_quiet ((go_at_call 27; exact quiet_same (within_any _ _ _ _))); go_wp2_with (fail))
            all_goals first
              | (go_ret
                 refine ⟨ret_bool ?_, (by repeat (first | exact Ext.refl _ | assumption | refine Ext.alloc ?_ _ | refine Ext.drew ?_ | refine Ext.drewN ?_ _ | refine Ext.setCell ?_ (by first | exact Nat.le_refl _ | (simp; done) | (dsimp only; omega) | (simp only [World.size_alloc, World.size_setCell]; omega)) _ | refine Ext.trans ?_ (by assumption)))⟩
                 try simp only [Bool.not_eq_true', Bool.not_eq_false'] at *
                 unfold okHs
                 rw [allB_f hlt (by rw [H.out]; simp [hjB, *]), Bool.and_false])
              | (go_roundw
                 case rel =>
                   refine ⟨k + 1, by omega, by go_num, fun j hjk => ?_, (by repeat (first | exact Ext.refl _ | assumption | refine Ext.alloc ?_ _ | refine Ext.drew ?_ | refine Ext.drewN ?_ _ | refine Ext.setCell ?_ (by first | exact Nat.le_refl _ | (simp; done) | (dsimp only; omega) | (simp only [World.size_alloc, World.size_setCell]; omega)) _ | refine Ext.trans ?_ (by assumption)))⟩
                   by_cases e : j = k
                   · subst e
                     rw [H.out]
                     try simp only [Bool.not_eq_true', Bool.not_eq_false'] at *
                     simp [hjB, *]
                   · exact HA.out j (by omega)
                 case measure => simp [intOf]; omega)
      · obtain rfl : k = n := by omega
        clear hcell
        go_wp2_with (fail)
        go_ret
        refine ⟨ret_bool ?_, hE⟩
        unfold okHs
        rw [allB_t HA.out, Bool.and_true]
        simp
        omega
  · have e1 : okHs z n = false := by unfold okHs; rw [and_f (by simp; omega)]
    have E1 := hid e1
    clear e1 hcell
    go_enter Try.func60, Try.ntmps60
    go_wp2_with (fail)
    go_ret
    exact ⟨ret_bool (by rw [E1.out]), Ext.refl _⟩

set_option maxHeartbeats 400000 in
theorem fgTime_any (t : Int) (w : World) : Calls Try.prog 30 #[.int .i64 t] w fun e w' => e = .returned (.bool (inR t 0 10000)) ∧ w = w' := by
  go_enter Try.func30, Try.ntmps30
  go_wp2_with (fail)
  refine (l1In_any _ _ _ _).mono ?_
  rintro e w' ⟨rfl, rfl⟩
  go_wp2_with (fail)
  go_ret
  exact ⟨rfl, rfl⟩

set_option maxRecDepth 100000 in
set_option maxHeartbeats 1000000 in
theorem hoGood_any (v : Value) (n : Nat) (z : List Int) (w : World) (h : IntRow .i64 2 w v n z) :
    Calls Try.prog 72 #[v] w fun e w' => e = .returned (.bool (okHs z n)) ∧ Ext w w' := by
  obtain ⟨hl, hm, hwf, a, c, rfl, hnc, hcm, hcell⟩ := h
  unfold maxLen at hm
  clear hwf
  · go_enter Try.func72, Try.ntmps72
    go_wp2_with (fail)
    go_loopw [7] (fun i wr => ∃ (k : Nat), k ≤ n ∧ i = .int .i64 (k : Int) ∧ (∀ j, j < k → hjAt z j = true) ∧ Ext w wr)
      (fun i _ => n - (intOf i).toNat)
    case atStart => exact ⟨0, Nat.zero_le _, rfl, fun j hj => absurd hj (by omega), Ext.refl _⟩
    case round =>
      obtain ⟨k, hk, rfl, hall, hE⟩ := hrel
      have HA := hid hall
      clear hall
      by_cases hlt : k < n
      · obtain ⟨b, o, rfl, hb, hc⟩ := hcell.resolve_left (by omega)
        obtain ⟨x0, hx0⟩ : ∃ x, x = z.getD (k * 2) 0 := ⟨_, rfl⟩
        have s0 : wr.cell? ⟨b, o + k * 2, none⟩ = some (.int .i64 x0) := by rw [(Ext.cells hE).1 _ _ hb, show o + k * 2 = o + (k * 2) by omega, hc _ (by omega), hx0]
        have H0 := hid hx0
        clear hx0
        obtain ⟨x1, hx1⟩ : ∃ x, x = z.getD (k * 2 + 1) 0 := ⟨_, rfl⟩
        have s1 : wr.cell? ⟨b, o + k * 2 + 1, none⟩ = some (.int .i64 x1) := by rw [(Ext.cells hE).1 _ _ hb, show o + k * 2 + 1 = o + (k * 2 + 1) by omega, hc _ (by omega), hx1]
        have H1 := hid hx1
        clear hx1
        have hbr : b < wr.heap.size := Nat.lt_of_lt_of_le hb hE.size
        by_cases hk0 : k = 0
        · have H := hid (show hjAt z k = hjB x0 x1 true by unfold hjAt; rw [show hRd z k = x0 from H0.out.symm, show hCt z k = x1 from H1.out.symm, hk0]; rfl)
          have hkz : (k : Int) ≤ 0 := by omega
          have hkz2 : decide (0 < k) = false := by simp; omega
          clear hc hcell hk0
          rcases Bool.eq_false_or_eq_true (inR x0 0 10000) with hA | hA <;> rcases Bool.eq_false_or_eq_true (inR x1 1 80) with hB | hB
          all_goals (go_wp2_with (fail); go_quiet ((first | (go_at_call 41; exact quiet_same (l1In_any _ _ _ _)) | (go_at_call 30; exact quiet_same (fgTime_any _ _)))); go_wp2_with (fail))
          all_goals first
            | (go_ret
               refine ⟨ret_bool ?_, (by repeat (first | exact Ext.refl _ | assumption | refine Ext.alloc ?_ _ | refine Ext.drew ?_ | refine Ext.drewN ?_ _ | refine Ext.setCell ?_ (by first | exact Nat.le_refl _ | (simp; done) | (dsimp only; omega) | (simp only [World.size_alloc, World.size_setCell]; omega)) _ | refine Ext.trans ?_ (by assumption)))⟩
               try simp only [Bool.not_eq_true', Bool.not_eq_false'] at *
               unfold okHs
               rw [allB_f hlt (by rw [H.out]; simp [hjB, *]), Bool.and_false])
            | (go_roundw
               case rel =>
                 refine ⟨k + 1, by omega, by go_num, fun j hjk => ?_, (by repeat (first | exact Ext.refl _ | assumption | refine Ext.alloc ?_ _ | refine Ext.drew ?_ | refine Ext.drewN ?_ _ | refine Ext.setCell ?_ (by first | exact Nat.le_refl _ | (simp; done) | (dsimp only; omega) | (simp only [World.size_alloc, World.size_setCell]; omega)) _ | refine Ext.trans ?_ (by assumption)))⟩
                 by_cases e : j = k
                 · subst e
                   rw [H.out]
                   try simp only [Bool.not_eq_true', Bool.not_eq_false'] at *
                   simp [hjB, *]
                 · exact HA.out j (by omega)
               case measure => simp [intOf]; omega)
        · obtain ⟨p0, hp0⟩ : ∃ x, x = hRd z (k - 1) := ⟨_, rfl⟩
          have sp : wr.cell? ⟨b, o + (k - 1) * 2, none⟩ = some (.int .i64 p0) := by rw [(Ext.cells hE).1 _ _ hb, hc _ (by omega), hp0]; rfl
          have H := hid (show hjAt z k = hjB x0 x1 (!decide (x0 < p0)) by unfold hjAt; rw [show hRd z k = x0 from H0.out.symm, show hCt z k = x1 from H1.out.symm, ← hp0, decide_eq_false hk0, Bool.false_or]; congr 1; rw [← decide_not]; congr 1; simp)
          clear hp0 hc hcell
          have hk1 : 1 ≤ k := by omega
          have hk2 : decide (0 < k) = true := by simp; omega
          by_cases hx : x0 < p0
          · have hx2 : decide (x0 < p0) = true := by simpa using hx
            rcases Bool.eq_false_or_eq_true (inR x0 0 10000) with hA | hA <;> rcases Bool.eq_false_or_eq_true (inR x1 1 80) with hB | hB
            all_goals (go_wp2_with (fail); go_quiet ((first | (go_at_call 41; exact quiet_same (l1In_any _ _ _ _)) | (go_at_call 30; exact quiet_same (fgTime_any _ _)))); go_wp2_with (fail))
            all_goals first
              | (go_ret
                 refine ⟨ret_bool ?_, (by repeat (first | exact Ext.refl _ | assumption | refine Ext.alloc ?_ _ | refine Ext.drew ?_ | refine Ext.drewN ?_ _ | refine Ext.setCell ?_ (by first | exact Nat.le_refl _ | (simp; done) | (dsimp only; omega) | (simp only [World.size_alloc, World.size_setCell]; omega)) _ | refine Ext.trans ?_ (by assumption)))⟩
                 try simp only [Bool.not_eq_true', Bool.not_eq_false'] at *
                 unfold okHs
                 rw [allB_f hlt (by rw [H.out]; simp [hjB, *]), Bool.and_false])
              | (go_roundw
                 case rel =>
                   refine ⟨k + 1, by omega, by go_num, fun j hjk => ?_, (by repeat (first | exact Ext.refl _ | assumption | refine Ext.alloc ?_ _ | refine Ext.drew ?_ | refine Ext.drewN ?_ _ | refine Ext.setCell ?_ (by first | exact Nat.le_refl _ | (simp; done) | (dsimp only; omega) | (simp only [World.size_alloc, World.size_setCell]; omega)) _ | refine Ext.trans ?_ (by assumption)))⟩
                   by_cases e : j = k
                   · subst e
                     rw [H.out]
                     try simp only [Bool.not_eq_true', Bool.not_eq_false'] at *
                     simp [hjB, *]
                   · exact HA.out j (by omega)
                 case measure => simp [intOf]; omega)
          · have hx2 : decide (x0 < p0) = false := by simpa using hx
            rcases Bool.eq_false_or_eq_true (inR x0 0 10000) with hA | hA <;> rcases Bool.eq_false_or_eq_true (inR x1 1 80) with hB | hB
            all_goals (go_wp2_with (fail); go_quiet ((first | (go_at_call 41; exact quiet_same (l1In_any _ _ _ _)) | (go_at_call 30; exact quiet_same (fgTime_any _ _)))); go_wp2_with (fail))
            all_goals first
              | (go_ret
                 refine ⟨ret_bool ?_, (by repeat (first | exact Ext.refl _ | assumption | refine Ext.alloc ?_ _ | refine Ext.drew ?_ | refine Ext.drewN ?_ _ | refine Ext.setCell ?_ (by first | exact Nat.le_refl _ | (simp; done) | (dsimp only; omega) | (simp only [World.size_alloc, World.size_setCell]; omega)) _ | refine Ext.trans ?_ (by assumption)))⟩
                 try simp only [Bool.not_eq_true', Bool.not_eq_false'] at *
                 unfold okHs
                 rw [allB_f hlt (by rw [H.out]; simp [hjB, *]), Bool.and_false])
              | (go_roundw
                 case rel =>
                   refine ⟨k + 1, by omega, by go_num, fun j hjk => ?_, (by repeat (first | exact Ext.refl _ | assumption | refine Ext.alloc ?_ _ | refine Ext.drew ?_ | refine Ext.drewN ?_ _ | refine Ext.setCell ?_ (by first | exact Nat.le_refl _ | (simp; done) | (dsimp only; omega) | (simp only [World.size_alloc, World.size_setCell]; omega)) _ | refine Ext.trans ?_ (by assumption)))⟩
                   by_cases e : j = k
                   · subst e
                     rw [H.out]
                     try simp only [Bool.not_eq_true', Bool.not_eq_false'] at *
                     simp [hjB, *]
                   · exact HA.out j (by omega)
                 case measure => simp [intOf]; omega)
      · obtain rfl : k = n := by omega
        clear hcell
        go_wp2_with (fail)
        all_goals (go_ret; refine ⟨ret_bool ?_, hE⟩)
        all_goals (unfold okHs; rw [allB_t HA.out, Bool.and_true, Bool.eq_iff_iff]; simp; try omega)

end Go.Proofs.Ytjmbhlhkjjinbaa
