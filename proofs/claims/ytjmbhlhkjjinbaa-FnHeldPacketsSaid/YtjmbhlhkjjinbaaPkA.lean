/- Packets are valid: the program's and the reference's test. No condition. -/
import Derived.Test.YtjmbhlhkjjinbaaLeaf
import Derived.Test.YtjmbhlhkjjinbaaPk
namespace Go.Proofs.Ytjmbhlhkjjinbaa
open Go.RowKit
set_option linter.unusedSimpArgs false
set_option linter.unusedVariables false

/-- all numbers within bounds -/
def rngB (z : List Int) (n : Nat) (lo hi : Int) : Bool := allB (fun j => inR (z.getD j 0) lo hi) n


set_option maxRecDepth 100000 in
set_option maxHeartbeats 800000 in
theorem allWithin_any (v : Value) (n : Nat) (z : List Int) (lo hi : Int) (w : World) (h : IntRow .i64 1 w v n z) :
    Calls Try.prog 75 #[v, .int .i64 lo, .int .i64 hi] w fun e w' => e = .returned (.bool (rngB z n lo hi)) ∧ w = w' := by
  obtain ⟨hl, hm, hwf, a, c, rfl, hnc, hcm, hcell⟩ := h
  unfold maxLen at hm
  obtain ⟨q, hq⟩ : ∃ q, q = rngB z n lo hi := ⟨_, rfl⟩
  rw [← hq]
  have HQ := hid hq
  clear hwf hq
  go_enter Try.func75, Try.ntmps75
  go_wp2_with (fail)
  go_loop [11] (fun i => ∃ (k : Nat), k ≤ n ∧ i = .int .i64 (k : Int) ∧ (∀ j, j < k → inR (z.getD j 0) lo hi = true)) (fun i => n - (intOf i).toNat)
  case atStart => exact ⟨0, Nat.zero_le _, rfl, fun j hj => absurd hj (by omega)⟩
  case round =>
    obtain ⟨k, hk, rfl, hall⟩ := hrel
    have HA := hid hall
    clear hall
    by_cases hlt : k < n
    · obtain ⟨b, o, rfl, hb, hc⟩ := hcell.resolve_left (by omega)
      obtain ⟨x, hx⟩ : ∃ x, x = z.getD k 0 := ⟨_, rfl⟩
      have c0 : w.cell? ⟨b, o + k, none⟩ = some (.int .i64 x) := by rw [hc _ (by omega), hx]
      have HX := hid hx
      clear hx hc hcell
      cases hin : inR x lo hi with
      | false =>
        have HIN := hid hin
        clear hin
        go_wp2_with (go_at_call 27; refine (within_any _ _ _ _).mono ?_; rw [HIN.out]; rintro e w' ⟨rfl, rfl⟩)
        go_ret
        refine ⟨ret_bool ?_, rfl⟩
        rw [HQ.out]
        exact (allB_f hlt (by rw [← HX.out, HIN.out])).symm
      | true =>
        have HIN := hid hin
        clear hin
        go_wp2_with (go_at_call 27; refine (within_any _ _ _ _).mono ?_; rw [HIN.out]; rintro e w' ⟨rfl, rfl⟩)
        go_round
        case rel =>
          refine ⟨k + 1, by omega, by go_num, fun j hj => ?_⟩
          by_cases e : j = k
          · subst e
            rw [← HX.out, HIN.out]
          · exact HA.out j (by omega)
        case measure => simp [intOf]; omega
    · obtain rfl : k = n := by omega
      clear hcell
      go_wp2_with (fail)
      go_ret
      refine ⟨ret_bool ?_, rfl⟩
      rw [HQ.out]
      exact (allB_t HA.out).symm


set_option maxRecDepth 100000 in
set_option maxHeartbeats 800000 in
theorem l1All_any (v : Value) (n : Nat) (z : List Int) (lo hi : Int) (w : World) (h : IntRow .i64 1 w v n z) :
    Calls Try.prog 76 #[v, .int .i64 lo, .int .i64 hi] w fun e w' => e = .returned (.bool (rngB z n lo hi)) ∧ w = w' := by
  obtain ⟨hl, hm, hwf, a, c, rfl, hnc, hcm, hcell⟩ := h
  unfold maxLen at hm
  obtain ⟨q, hq⟩ : ∃ q, q = rngB z n lo hi := ⟨_, rfl⟩
  rw [← hq]
  have HQ := hid hq
  clear hwf hq
  go_enter Try.func76, Try.ntmps76
  go_wp2_with (fail)
  go_loop [11] (fun i => ∃ (k : Nat), k ≤ n ∧ i = .int .i64 (k : Int) ∧ (∀ j, j < k → inR (z.getD j 0) lo hi = true)) (fun i => n - (intOf i).toNat)
  case atStart => exact ⟨0, Nat.zero_le _, rfl, fun j hj => absurd hj (by omega)⟩
  case round =>
    obtain ⟨k, hk, rfl, hall⟩ := hrel
    have HA := hid hall
    clear hall
    by_cases hlt : k < n
    · obtain ⟨b, o, rfl, hb, hc⟩ := hcell.resolve_left (by omega)
      obtain ⟨x, hx⟩ : ∃ x, x = z.getD k 0 := ⟨_, rfl⟩
      have c0 : w.cell? ⟨b, o + k, none⟩ = some (.int .i64 x) := by rw [hc _ (by omega), hx]
      have HX := hid hx
      clear hx hc hcell
      cases hin : inR x lo hi with
      | false =>
        have HIN := hid hin
        clear hin
        go_wp2_with (go_at_call 41; refine (l1In_any _ _ _ _).mono ?_; rw [HIN.out]; rintro e w' ⟨rfl, rfl⟩)
        go_ret
        refine ⟨ret_bool ?_, rfl⟩
        rw [HQ.out]
        exact (allB_f hlt (by rw [← HX.out, HIN.out])).symm
      | true =>
        have HIN := hid hin
        clear hin
        go_wp2_with (go_at_call 41; refine (l1In_any _ _ _ _).mono ?_; rw [HIN.out]; rintro e w' ⟨rfl, rfl⟩)
        go_round
        case rel =>
          refine ⟨k + 1, by omega, by go_num, fun j hj => ?_⟩
          by_cases e : j = k
          · subst e
            rw [← HX.out, HIN.out]
          · exact HA.out j (by omega)
        case measure => simp [intOf]; omega
    · obtain rfl : k = n := by omega
      clear hcell
      go_wp2_with (fail)
      go_ret
      refine ⟨ret_bool ?_, rfl⟩
      rw [HQ.out]
      exact (allB_t HA.out).symm


theorem introw_slc {kd : IntKind} {k : Nat} {w : World} {v : Value} {n : Nat} {zs : List Int} (h : IntRow kd k w v n zs) : ∃ a c, v = .slice a n c := by
  obtain ⟨_, _, _, a, c, rfl, _⟩ := h
  exact ⟨a, c, rfl⟩
def pkB (x0 x1 x2 : Int) (s : List Int) : Bool := inR x0 1 999 && (inR x2 1 9 && (inR x1 0 (x2 - 1) && (inR (s.length : Int) 1 8 && rngB s s.length 1 60)))
def pkAtB (z : List Int) (S : List (List Int)) (k : Nat) : Bool := pkB (z.getD (k * 3) 0) (z.getD (k * 3 + 1) 0) (z.getD (k * 3 + 2) 0) (S.getD k [])
def okPs (z : List Int) (S : List (List Int)) (n : Nat) : Bool := decide (n ≤ 40) && allB (pkAtB z S) n


set_option maxRecDepth 100000 in
set_option maxHeartbeats 1000000 in
theorem iIsPacket_any (x0 x1 x2 : Int) (u : Value) (s : List Int) (w : World) (h : IntRow .i64 1 w u s.length s) (hx : (Lit.int .i64 x2).wf = true) :
    Calls Try.prog 57 #[.agg #[.int .i64 x0, .int .i64 x1, .int .i64 x2, u]] w fun e w' => e = .returned (.bool (pkB x0 x1 x2 s)) ∧ Ext w w' := by
  have hx2 := wf_bd hx
  have h0 := h
  obtain ⟨_, hm, _, a, c, rfl, _, _, _⟩ := h
  unfold maxLen at hm
  have HALL : ∀ (W : World), Ext w W → Calls Try.prog 75 #[.slice a s.length c, .int .i64 1, .int .i64 60] W fun e w' => e = .returned (.bool (rngB s s.length 1 60)) ∧ W = w' := fun W hW => allWithin_any _ _ _ _ _ W (h0.ext hW)
  obtain ⟨m, hm0⟩ : ∃ m, m = s.length := ⟨_, rfl⟩
  obtain ⟨B4, hB4⟩ : ∃ B, B = rngB s s.length 1 60 := ⟨_, rfl⟩
  obtain ⟨R, hR⟩ : ∃ R, R = pkB x0 x1 x2 s := ⟨_, rfl⟩
  rw [← hR]
  unfold pkB at hR
  rw [← hB4] at HALL hR
  rw [← hm0] at HALL hR hm ⊢
  have HR := hid hR
  clear hR hB4 h0 hm0 hx
  rcases Bool.eq_false_or_eq_true (inR x0 1 999) with g1 | g1
  · rcases Bool.eq_false_or_eq_true (inR x2 1 9) with g2 | g2
    · have g2b := inR_iff.1 g2
      rcases Bool.eq_false_or_eq_true (inR x1 0 (x2 - 1)) with g3 | g3
      · rcases Bool.eq_false_or_eq_true (inR (m : Int) 1 8) with g4 | g4
        · have HV : Hid (R = B4) := hid (by rw [HR.out, g1, g2, g3, g4]; rfl)
          go_enter Try.func57, Try.ntmps57
          go_wp2_with (first | (go_at_call 27; refine (within_any _ _ _ _).mono ?_; rintro e w' ⟨rfl, rfl⟩) | (go_at_call 75; refine (HALL _ (by repeat (first | exact Ext.refl _ | assumption | refine Ext.alloc ?_ _ | refine Ext.drew ?_ | refine Ext.drewN ?_ _ | refine Ext.setCell ?_ (by first | exact Nat.le_refl _ | (simp; done) | (dsimp only; omega) | (simp only [World.size_alloc, World.size_setCell]; omega)) _ | refine Ext.trans ?_ (by assumption)))).mono ?_; rintro e w' ⟨rfl, rfl⟩))
          go_ret
          rw [HV.out]
          exact ⟨rfl, (by repeat (first | exact Ext.refl _ | assumption | refine Ext.alloc ?_ _ | refine Ext.drew ?_ | refine Ext.drewN ?_ _ | refine Ext.setCell ?_ (by first | exact Nat.le_refl _ | (simp; done) | (dsimp only; omega) | (simp only [World.size_alloc, World.size_setCell]; omega)) _ | refine Ext.trans ?_ (by assumption)))⟩
        · have HV : Hid (R = false) := hid (by rw [HR.out, g1, g2, g3, g4]; rfl)
          go_enter Try.func57, Try.ntmps57
          go_wp2_with (first | (go_at_call 27; refine (within_any _ _ _ _).mono ?_; rintro e w' ⟨rfl, rfl⟩) | (go_at_call 75; refine (HALL _ (by repeat (first | exact Ext.refl _ | assumption | refine Ext.alloc ?_ _ | refine Ext.drew ?_ | refine Ext.drewN ?_ _ | refine Ext.setCell ?_ (by first | exact Nat.le_refl _ | (simp; done) | (dsimp only; omega) | (simp only [World.size_alloc, World.size_setCell]; omega)) _ | refine Ext.trans ?_ (by assumption)))).mono ?_; rintro e w' ⟨rfl, rfl⟩))
          go_ret
          rw [HV.out]
          exact ⟨rfl, (by repeat (first | exact Ext.refl _ | assumption | refine Ext.alloc ?_ _ | refine Ext.drew ?_ | refine Ext.drewN ?_ _ | refine Ext.setCell ?_ (by first | exact Nat.le_refl _ | (simp; done) | (dsimp only; omega) | (simp only [World.size_alloc, World.size_setCell]; omega)) _ | refine Ext.trans ?_ (by assumption)))⟩
      · have HV : Hid (R = false) := hid (by rw [HR.out, g1, g2, g3]; rfl)
        go_enter Try.func57, Try.ntmps57
        go_wp2_with (first | (go_at_call 27; refine (within_any _ _ _ _).mono ?_; rintro e w' ⟨rfl, rfl⟩) | (go_at_call 75; refine (HALL _ (by repeat (first | exact Ext.refl _ | assumption | refine Ext.alloc ?_ _ | refine Ext.drew ?_ | refine Ext.drewN ?_ _ | refine Ext.setCell ?_ (by first | exact Nat.le_refl _ | (simp; done) | (dsimp only; omega) | (simp only [World.size_alloc, World.size_setCell]; omega)) _ | refine Ext.trans ?_ (by assumption)))).mono ?_; rintro e w' ⟨rfl, rfl⟩))
        go_ret
        rw [HV.out]
        exact ⟨rfl, (by repeat (first | exact Ext.refl _ | assumption | refine Ext.alloc ?_ _ | refine Ext.drew ?_ | refine Ext.drewN ?_ _ | refine Ext.setCell ?_ (by first | exact Nat.le_refl _ | (simp; done) | (dsimp only; omega) | (simp only [World.size_alloc, World.size_setCell]; omega)) _ | refine Ext.trans ?_ (by assumption)))⟩
    · have HV : Hid (R = false) := hid (by rw [HR.out, g1, g2]; rfl)
      go_enter Try.func57, Try.ntmps57
      go_wp2_with (first | (go_at_call 27; refine (within_any _ _ _ _).mono ?_; rintro e w' ⟨rfl, rfl⟩) | (go_at_call 75; refine (HALL _ (by repeat (first | exact Ext.refl _ | assumption | refine Ext.alloc ?_ _ | refine Ext.drew ?_ | refine Ext.drewN ?_ _ | refine Ext.setCell ?_ (by first | exact Nat.le_refl _ | (simp; done) | (dsimp only; omega) | (simp only [World.size_alloc, World.size_setCell]; omega)) _ | refine Ext.trans ?_ (by assumption)))).mono ?_; rintro e w' ⟨rfl, rfl⟩))
      go_ret
      rw [HV.out]
      exact ⟨rfl, (by repeat (first | exact Ext.refl _ | assumption | refine Ext.alloc ?_ _ | refine Ext.drew ?_ | refine Ext.drewN ?_ _ | refine Ext.setCell ?_ (by first | exact Nat.le_refl _ | (simp; done) | (dsimp only; omega) | (simp only [World.size_alloc, World.size_setCell]; omega)) _ | refine Ext.trans ?_ (by assumption)))⟩
  · have HV : Hid (R = false) := hid (by rw [HR.out, g1]; rfl)
    go_enter Try.func57, Try.ntmps57
    go_wp2_with (first | (go_at_call 27; refine (within_any _ _ _ _).mono ?_; rintro e w' ⟨rfl, rfl⟩) | (go_at_call 75; refine (HALL _ (by repeat (first | exact Ext.refl _ | assumption | refine Ext.alloc ?_ _ | refine Ext.drew ?_ | refine Ext.drewN ?_ _ | refine Ext.setCell ?_ (by first | exact Nat.le_refl _ | (simp; done) | (dsimp only; omega) | (simp only [World.size_alloc, World.size_setCell]; omega)) _ | refine Ext.trans ?_ (by assumption)))).mono ?_; rintro e w' ⟨rfl, rfl⟩))
    go_ret
    rw [HV.out]
    exact ⟨rfl, (by repeat (first | exact Ext.refl _ | assumption | refine Ext.alloc ?_ _ | refine Ext.drew ?_ | refine Ext.drewN ?_ _ | refine Ext.setCell ?_ (by first | exact Nat.le_refl _ | (simp; done) | (dsimp only; omega) | (simp only [World.size_alloc, World.size_setCell]; omega)) _ | refine Ext.trans ?_ (by assumption)))⟩


set_option maxRecDepth 100000 in
set_option maxHeartbeats 1000000 in
theorem pkGood_any (x0 x1 x2 : Int) (u : Value) (s : List Int) (w : World) (h : IntRow .i64 1 w u s.length s) (hx : (Lit.int .i64 x2).wf = true) :
    Calls Try.prog 58 #[.agg #[.int .i64 x0, .int .i64 x1, .int .i64 x2, u]] w fun e w' => e = .returned (.bool (pkB x0 x1 x2 s)) ∧ Ext w w' := by
  have hx2 := wf_bd hx
  have h0 := h
  obtain ⟨_, hm, _, a, c, rfl, _, _, _⟩ := h
  unfold maxLen at hm
  have HALL : ∀ (W : World), Ext w W → Calls Try.prog 76 #[.slice a s.length c, .int .i64 1, .int .i64 60] W fun e w' => e = .returned (.bool (rngB s s.length 1 60)) ∧ W = w' := fun W hW => l1All_any _ _ _ _ _ W (h0.ext hW)
  obtain ⟨m, hm0⟩ : ∃ m, m = s.length := ⟨_, rfl⟩
  obtain ⟨B4, hB4⟩ : ∃ B, B = rngB s s.length 1 60 := ⟨_, rfl⟩
  obtain ⟨R, hR⟩ : ∃ R, R = pkB x0 x1 x2 s := ⟨_, rfl⟩
  rw [← hR]
  unfold pkB at hR
  rw [← hB4] at HALL hR
  rw [← hm0] at HALL hR hm ⊢
  have HR := hid hR
  clear hR hB4 h0 hm0 hx
  rcases Bool.eq_false_or_eq_true (inR x0 1 999) with g1 | g1
  · rcases Bool.eq_false_or_eq_true (inR x2 1 9) with g2 | g2
    · have g2b := inR_iff.1 g2
      rcases Bool.eq_false_or_eq_true (inR x1 0 (x2 - 1)) with g3 | g3
      · rcases Bool.eq_false_or_eq_true (inR (m : Int) 1 8) with g4 | g4
        · have HV : Hid (R = B4) := hid (by rw [HR.out, g1, g2, g3, g4]; rfl)
          go_enter Try.func58, Try.ntmps58
          go_wp2_with (first | (go_at_call 41; refine (l1In_any _ _ _ _).mono ?_; rintro e w' ⟨rfl, rfl⟩) | (go_at_call 76; refine (HALL _ (by repeat (first | exact Ext.refl _ | assumption | refine Ext.alloc ?_ _ | refine Ext.drew ?_ | refine Ext.drewN ?_ _ | refine Ext.setCell ?_ (by first | exact Nat.le_refl _ | (simp; done) | (dsimp only; omega) | (simp only [World.size_alloc, World.size_setCell]; omega)) _ | refine Ext.trans ?_ (by assumption)))).mono ?_; rintro e w' ⟨rfl, rfl⟩))
          go_ret
          rw [HV.out]
          exact ⟨rfl, (by repeat (first | exact Ext.refl _ | assumption | refine Ext.alloc ?_ _ | refine Ext.drew ?_ | refine Ext.drewN ?_ _ | refine Ext.setCell ?_ (by first | exact Nat.le_refl _ | (simp; done) | (dsimp only; omega) | (simp only [World.size_alloc, World.size_setCell]; omega)) _ | refine Ext.trans ?_ (by assumption)))⟩
        · have HV : Hid (R = false) := hid (by rw [HR.out, g1, g2, g3, g4]; rfl)
          go_enter Try.func58, Try.ntmps58
          go_wp2_with (first | (go_at_call 41; refine (l1In_any _ _ _ _).mono ?_; rintro e w' ⟨rfl, rfl⟩) | (go_at_call 76; refine (HALL _ (by repeat (first | exact Ext.refl _ | assumption | refine Ext.alloc ?_ _ | refine Ext.drew ?_ | refine Ext.drewN ?_ _ | refine Ext.setCell ?_ (by first | exact Nat.le_refl _ | (simp; done) | (dsimp only; omega) | (simp only [World.size_alloc, World.size_setCell]; omega)) _ | refine Ext.trans ?_ (by assumption)))).mono ?_; rintro e w' ⟨rfl, rfl⟩))
          go_ret
          rw [HV.out]
          exact ⟨rfl, (by repeat (first | exact Ext.refl _ | assumption | refine Ext.alloc ?_ _ | refine Ext.drew ?_ | refine Ext.drewN ?_ _ | refine Ext.setCell ?_ (by first | exact Nat.le_refl _ | (simp; done) | (dsimp only; omega) | (simp only [World.size_alloc, World.size_setCell]; omega)) _ | refine Ext.trans ?_ (by assumption)))⟩
      · have HV : Hid (R = false) := hid (by rw [HR.out, g1, g2, g3]; rfl)
        go_enter Try.func58, Try.ntmps58
        go_wp2_with (first | (go_at_call 41; refine (l1In_any _ _ _ _).mono ?_; rintro e w' ⟨rfl, rfl⟩) | (go_at_call 76; refine (HALL _ (by repeat (first | exact Ext.refl _ | assumption | refine Ext.alloc ?_ _ | refine Ext.drew ?_ | refine Ext.drewN ?_ _ | refine Ext.setCell ?_ (by first | exact Nat.le_refl _ | (simp; done) | (dsimp only; omega) | (simp only [World.size_alloc, World.size_setCell]; omega)) _ | refine Ext.trans ?_ (by assumption)))).mono ?_; rintro e w' ⟨rfl, rfl⟩))
        go_ret
        rw [HV.out]
        exact ⟨rfl, (by repeat (first | exact Ext.refl _ | assumption | refine Ext.alloc ?_ _ | refine Ext.drew ?_ | refine Ext.drewN ?_ _ | refine Ext.setCell ?_ (by first | exact Nat.le_refl _ | (simp; done) | (dsimp only; omega) | (simp only [World.size_alloc, World.size_setCell]; omega)) _ | refine Ext.trans ?_ (by assumption)))⟩
    · have HV : Hid (R = false) := hid (by rw [HR.out, g1, g2]; rfl)
      go_enter Try.func58, Try.ntmps58
      go_wp2_with (first | (go_at_call 41; refine (l1In_any _ _ _ _).mono ?_; rintro e w' ⟨rfl, rfl⟩) | (go_at_call 76; refine (HALL _ (by repeat (first | exact Ext.refl _ | assumption | refine Ext.alloc ?_ _ | refine Ext.drew ?_ | refine Ext.drewN ?_ _ | refine Ext.setCell ?_ (by first | exact Nat.le_refl _ | (simp; done) | (dsimp only; omega) | (simp only [World.size_alloc, World.size_setCell]; omega)) _ | refine Ext.trans ?_ (by assumption)))).mono ?_; rintro e w' ⟨rfl, rfl⟩))
      go_ret
      rw [HV.out]
      exact ⟨rfl, (by repeat (first | exact Ext.refl _ | assumption | refine Ext.alloc ?_ _ | refine Ext.drew ?_ | refine Ext.drewN ?_ _ | refine Ext.setCell ?_ (by first | exact Nat.le_refl _ | (simp; done) | (dsimp only; omega) | (simp only [World.size_alloc, World.size_setCell]; omega)) _ | refine Ext.trans ?_ (by assumption)))⟩
  · have HV : Hid (R = false) := hid (by rw [HR.out, g1]; rfl)
    go_enter Try.func58, Try.ntmps58
    go_wp2_with (first | (go_at_call 41; refine (l1In_any _ _ _ _).mono ?_; rintro e w' ⟨rfl, rfl⟩) | (go_at_call 76; refine (HALL _ (by repeat (first | exact Ext.refl _ | assumption | refine Ext.alloc ?_ _ | refine Ext.drew ?_ | refine Ext.drewN ?_ _ | refine Ext.setCell ?_ (by first | exact Nat.le_refl _ | (simp; done) | (dsimp only; omega) | (simp only [World.size_alloc, World.size_setCell]; omega)) _ | refine Ext.trans ?_ (by assumption)))).mono ?_; rintro e w' ⟨rfl, rfl⟩))
    go_ret
    rw [HV.out]
    exact ⟨rfl, (by repeat (first | exact Ext.refl _ | assumption | refine Ext.alloc ?_ _ | refine Ext.drew ?_ | refine Ext.drewN ?_ _ | refine Ext.setCell ?_ (by first | exact Nat.le_refl _ | (simp; done) | (dsimp only; omega) | (simp only [World.size_alloc, World.size_setCell]; omega)) _ | refine Ext.trans ?_ (by assumption)))⟩


set_option maxRecDepth 100000 in
set_option maxHeartbeats 600000 in
theorem pkLit_any (x0 x1 x2 : Int) (u : Value) (s : List Int) (w : World) (h : IntRow .i64 1 w u s.length s) (hx : (Lit.int .i64 x2).wf = true) :
    Calls Try.prog 56 #[.agg #[.int .i64 x0, .int .i64 x1, .int .i64 x2, u]] w fun e w' => e = .returned (.bool (!pkB x0 x1 x2 s)) ∧ Ext w w' := by
  have h0 := h
  obtain ⟨a, c, rfl⟩ := introw_slc h
  go_enter Try.func56, Try.ntmps56
  go_wp2_with (fail)
  refine (iIsPacket_any x0 x1 x2 _ s _ (h0.ext (by repeat (first | exact Ext.refl _ | assumption | refine Ext.alloc ?_ _ | refine Ext.drew ?_ | refine Ext.drewN ?_ _ | refine Ext.setCell ?_ (by first | exact Nat.le_refl _ | (simp; done) | (dsimp only; omega) | (simp only [World.size_alloc, World.size_setCell]; omega)) _ | refine Ext.trans ?_ (by assumption)))) hx).mono ?_
  rintro e w1 ⟨rfl, hb1⟩
  go_wp2_with (fail)
  go_ret
  exact ⟨rfl, (by repeat (first | exact Ext.refl _ | assumption | refine Ext.alloc ?_ _ | refine Ext.drew ?_ | refine Ext.drewN ?_ _ | refine Ext.setCell ?_ (by first | exact Nat.le_refl _ | (simp; done) | (dsimp only; omega) | (simp only [World.size_alloc, World.size_setCell]; omega)) _ | refine Ext.trans ?_ (by assumption)))⟩
set_option maxRecDepth 100000 in
set_option maxHeartbeats 1000000 in
theorem pkIndex_any (v : Value) (n : Nat) (z : List Int) (S : List (List Int)) (w : World) (h : PkRow w v n z S) :
    Calls Try.prog 74 #[v, .func (.func 56) #[] #[]] w fun e w' => e = .returned (.int .i64 (idxOf (fun i => !pkAtB z S i) n)) ∧ Ext w w' := by
  obtain ⟨hl, hS, hm, hwf, a, c, rfl, hnc, hcm, hcell⟩ := h
  unfold maxLen at hm
  have HWF := hid hwf
  clear hwf
  go_enter Try.func74, Try.ntmps74
  go_wp2_with (fail)
  go_loopw [8] (fun i wr => ∃ (k : Nat), k ≤ n ∧ i = .int .i64 (k : Int) ∧ (∀ j, j < k → (!pkAtB z S j) = false) ∧ Ext w wr)
    (fun i _ => n - (intOf i).toNat)
  case atStart => exact ⟨0, Nat.zero_le _, rfl, fun j hj => absurd hj (by omega), Ext.refl _⟩
  case round =>
    obtain ⟨k, hk, rfl, hall, hE⟩ := hrel
    have HA := hid hall
    clear hall
    by_cases hlt : k < n
    · obtain ⟨b, o, rfl, hb, hc⟩ := hcell.resolve_left (by omega)
      obtain ⟨x0, x1, x2, u, e0, e1, e2, s0, s1, s2, s3, hr⟩ := ((hc k hlt).ext hE hb).parts
      have hx : (Lit.int .i64 x2).wf = true := by rw [← e2]; exact getD_wf HWF.out (by omega)
      have H := hid (show pkAtB z S k = pkB x0 x1 x2 (S.getD k []) by unfold pkAtB; rw [e0, e1, e2])
      obtain ⟨s, hs⟩ : ∃ s, s = S.getD k [] := ⟨_, rfl⟩
      rw [← hs] at H hr
      clear e0 e1 e2 hs hc hcell
      obtain ⟨a3, c3, rfl⟩ := introw_slc hr
      have HX := hid hx
      clear hx
      cases hj : pkB x0 x1 x2 s with
      | true =>
        have HJ := hid hj
        clear hj
        go_wp2_with (fail)
        refine (pkLit_any x0 x1 x2 _ s _ (hr.ext (by repeat (first | exact Ext.refl _ | assumption | refine Ext.alloc ?_ _ | refine Ext.drew ?_ | refine Ext.drewN ?_ _ | refine Ext.setCell ?_ (by first | exact Nat.le_refl _ | (simp; done) | (dsimp only; omega) | (simp only [World.size_alloc, World.size_setCell]; omega)) _ | refine Ext.trans ?_ (by assumption)))) HX.out).mono ?_
        rw [HJ.out]
        rintro e w2 ⟨rfl, hb2⟩
        go_wp2_with (fail)
        go_roundw
        case rel =>
          refine ⟨k + 1, by omega, by go_num, fun j hjk => ?_, (by repeat (first | exact Ext.refl _ | assumption | refine Ext.alloc ?_ _ | refine Ext.drew ?_ | refine Ext.drewN ?_ _ | refine Ext.setCell ?_ (by first | exact Nat.le_refl _ | (simp; done) | (dsimp only; omega) | (simp only [World.size_alloc, World.size_setCell]; omega)) _ | refine Ext.trans ?_ (by assumption)))⟩
          by_cases e : j = k
          · subst e
            rw [H.out, HJ.out]
            rfl
          · exact HA.out j (by omega)
        case measure => simp [intOf]; omega
      | false =>
        have HJ := hid hj
        clear hj
        go_wp2_with (fail)
        refine (pkLit_any x0 x1 x2 _ s _ (hr.ext (by repeat (first | exact Ext.refl _ | assumption | refine Ext.alloc ?_ _ | refine Ext.drew ?_ | refine Ext.drewN ?_ _ | refine Ext.setCell ?_ (by first | exact Nat.le_refl _ | (simp; done) | (dsimp only; omega) | (simp only [World.size_alloc, World.size_setCell]; omega)) _ | refine Ext.trans ?_ (by assumption)))) HX.out).mono ?_
        rw [HJ.out]
        rintro e w2 ⟨rfl, hb2⟩
        go_wp2_with (fail)
        go_ret
        refine ⟨ret_int ?_, (by repeat (first | exact Ext.refl _ | assumption | refine Ext.alloc ?_ _ | refine Ext.drew ?_ | refine Ext.drewN ?_ _ | refine Ext.setCell ?_ (by first | exact Nat.le_refl _ | (simp; done) | (dsimp only; omega) | (simp only [World.size_alloc, World.size_setCell]; omega)) _ | refine Ext.trans ?_ (by assumption)))⟩
        rw [idxOf_some hlt (by rw [H.out, HJ.out]; rfl) HA.out]
    · obtain rfl : k = n := by omega
      clear hcell
      go_wp2_with (fail)
      go_ret
      exact ⟨ret_int (by rw [idxOf_none HA.out]), (by repeat (first | exact Ext.refl _ | assumption | refine Ext.alloc ?_ _ | refine Ext.drew ?_ | refine Ext.drewN ?_ _ | refine Ext.setCell ?_ (by first | exact Nat.le_refl _ | (simp; done) | (dsimp only; omega) | (simp only [World.size_alloc, World.size_setCell]; omega)) _ | refine Ext.trans ?_ (by assumption)))⟩

set_option maxRecDepth 100000 in
set_option maxHeartbeats 400000 in
theorem iArePackets_any (v : Value) (n : Nat) (z : List Int) (S : List (List Int)) (w : World) (h : PkRow w v n z S) :
    Calls Try.prog 26 #[v] w fun e w' => e = .returned (.bool (okPs z S n)) ∧ Ext w w' := by
  have hh := h
  obtain ⟨hl, hS, hm, hwf, a, c, rfl, hnc, hcm, hcell⟩ := h
  unfold maxLen at hm
  clear hwf hcell
  have hcon : Calls Try.prog 55 #[.slice a n c, .func (.func 56) #[] #[]] w fun e w' => e = .returned (.bool (!allB (pkAtB z S) n)) ∧ Ext w w' := by
    go_enter Try.func55, Try.ntmps55
    go_wp2_with (fail)
    refine (pkIndex_any _ n z S _ hh).mono ?_
    rintro e w2 ⟨rfl, hb2⟩
    go_wp2_with (fail)
    all_goals (go_ret; refine ⟨ret_bool ?_, hb2⟩)
    all_goals
      have e := idxOf_ge (fun i => !pkAtB z S i) n
      simp only [Bool.not_not] at e
      first | exact e | (rw [← e]; simp [*])
  by_cases hn : (n : Int) ≤ 40
  · have e1 : okPs z S n = allB (pkAtB z S) n := by unfold okPs; rw [and_t (by simp; omega)]
    have E1 := hid e1
    clear e1
    go_enter Try.func26, Try.ntmps26
    go_wp2_with (fail)
    refine hcon.mono ?_
    rintro e w2 ⟨rfl, hb2⟩
    go_wp2_with (fail)
    go_ret
    exact ⟨ret_bool (by rw [E1.out]), hb2⟩
  · have e1 : okPs z S n = false := by unfold okPs; rw [and_f (by simp; omega)]
    have E1 := hid e1
    clear e1 hcon
    go_enter Try.func26, Try.ntmps26
    go_wp2_with (fail)
    go_ret
    exact ⟨ret_bool (by rw [E1.out]), Ext.refl _⟩

set_option maxRecDepth 100000 in
set_option maxHeartbeats 1000000 in
theorem pkAll_any (v : Value) (n : Nat) (z : List Int) (S : List (List Int)) (w : World) (h : PkRow w v n z S) :
    Calls Try.prog 29 #[v] w fun e w' => e = .returned (.bool (okPs z S n)) ∧ Ext w w' := by
  obtain ⟨hl, hS, hm, hwf, a, c, rfl, hnc, hcm, hcell⟩ := h
  unfold maxLen at hm
  have HWF := hid hwf
  clear hwf
  obtain ⟨R, hR⟩ : ∃ R, R = okPs z S n := ⟨_, rfl⟩
  rw [← hR]
  have HR := hid hR
  clear hR
  go_enter Try.func29, Try.ntmps29
  go_wp2_with (fail)
  go_loopw [7] (fun i wr => ∃ (k : Nat), k ≤ n ∧ i = .int .i64 (k : Int) ∧ (∀ j, j < k → pkAtB z S j = true) ∧ Ext w wr)
    (fun i _ => n - (intOf i).toNat)
  case atStart => exact ⟨0, Nat.zero_le _, rfl, fun j hj => absurd hj (by omega), Ext.refl _⟩
  case round =>
    obtain ⟨k, hk, rfl, hall, hE⟩ := hrel
    have HA := hid hall
    clear hall
    by_cases hlt : k < n
    · obtain ⟨b, o, rfl, hb, hc⟩ := hcell.resolve_left (by omega)
      obtain ⟨x0, x1, x2, u, e0, e1, e2, s0, s1, s2, s3, hr⟩ := ((hc k hlt).ext hE hb).parts
      have hx : (Lit.int .i64 x2).wf = true := by rw [← e2]; exact getD_wf HWF.out (by omega)
      have H := hid (show pkAtB z S k = pkB x0 x1 x2 (S.getD k []) by unfold pkAtB; rw [e0, e1, e2])
      obtain ⟨s, hs⟩ : ∃ s, s = S.getD k [] := ⟨_, rfl⟩
      rw [← hs] at H hr
      obtain ⟨a3, c3, rfl⟩ := introw_slc hr
      obtain ⟨ml, hml⟩ : ∃ m, m = s.length := ⟨_, rfl⟩
      rw [← hml] at hr s3
      have HM := hid hml
      clear e0 e1 e2 hs hc hcell hml
      have HX := hid hx
      clear hx
      cases hj : pkB x0 x1 x2 s with
      | true =>
        have HJ := hid hj
        clear hj
        go_wp2_with (fail)
        refine (pkGood_any x0 x1 x2 (.slice a3 ml c3) s _ (HM.out ▸ hr.ext (by repeat (first | exact Ext.refl _ | assumption | refine Ext.alloc ?_ _ | refine Ext.drew ?_ | refine Ext.drewN ?_ _ | refine Ext.setCell ?_ (by first | exact Nat.le_refl _ | (simp; done) | (dsimp only; omega) | (simp only [World.size_alloc, World.size_setCell]; omega)) _ | refine Ext.trans ?_ (by assumption)))) HX.out).mono ?_
        rw [HJ.out]
        rintro e w2 ⟨rfl, hb2⟩
        go_wp2_with (fail)
        go_roundw
        case rel =>
          refine ⟨k + 1, by omega, by go_num, fun j hjk => ?_, (by repeat (first | exact Ext.refl _ | assumption | refine Ext.alloc ?_ _ | refine Ext.drew ?_ | refine Ext.drewN ?_ _ | refine Ext.setCell ?_ (by first | exact Nat.le_refl _ | (simp; done) | (dsimp only; omega) | (simp only [World.size_alloc, World.size_setCell]; omega)) _ | refine Ext.trans ?_ (by assumption)))⟩
          by_cases e : j = k
          · subst e
            rw [H.out, HJ.out]
          · exact HA.out j (by omega)
        case measure => simp [intOf]; omega
      | false =>
        have HJ := hid hj
        clear hj
        go_wp2_with (fail)
        refine (pkGood_any x0 x1 x2 (.slice a3 ml c3) s _ (HM.out ▸ hr.ext (by repeat (first | exact Ext.refl _ | assumption | refine Ext.alloc ?_ _ | refine Ext.drew ?_ | refine Ext.drewN ?_ _ | refine Ext.setCell ?_ (by first | exact Nat.le_refl _ | (simp; done) | (dsimp only; omega) | (simp only [World.size_alloc, World.size_setCell]; omega)) _ | refine Ext.trans ?_ (by assumption)))) HX.out).mono ?_
        rw [HJ.out]
        rintro e w2 ⟨rfl, hb2⟩
        have HF : Hid (R = false) := hid (by rw [HR.out]; unfold okPs; rw [allB_f hlt (by rw [H.out, HJ.out]), Bool.and_false])
        go_wp2_with (fail)
        go_ret
        rw [HF.out]
        exact ⟨rfl, (by repeat (first | exact Ext.refl _ | assumption | refine Ext.alloc ?_ _ | refine Ext.drew ?_ | refine Ext.drewN ?_ _ | refine Ext.setCell ?_ (by first | exact Nat.le_refl _ | (simp; done) | (dsimp only; omega) | (simp only [World.size_alloc, World.size_setCell]; omega)) _ | refine Ext.trans ?_ (by assumption)))⟩
    · obtain rfl : k = n := by omega
      have HT : Hid (R = decide (k ≤ 40)) := hid (by rw [HR.out]; unfold okPs; rw [allB_t HA.out, Bool.and_true])
      clear hcell
      by_cases h40 : (k : Int) ≤ 40
      · have HT2 : Hid (R = true) := hid (by rw [HT.out]; simp; omega)
        go_wp2_with (fail)
        go_ret
        rw [HT2.out]
        exact ⟨rfl, (by repeat (first | exact Ext.refl _ | assumption | refine Ext.alloc ?_ _ | refine Ext.drew ?_ | refine Ext.drewN ?_ _ | refine Ext.setCell ?_ (by first | exact Nat.le_refl _ | (simp; done) | (dsimp only; omega) | (simp only [World.size_alloc, World.size_setCell]; omega)) _ | refine Ext.trans ?_ (by assumption)))⟩
      · have HT2 : Hid (R = false) := hid (by rw [HT.out]; simp; omega)
        go_wp2_with (fail)
        go_ret
        rw [HT2.out]
        exact ⟨rfl, (by repeat (first | exact Ext.refl _ | assumption | refine Ext.alloc ?_ _ | refine Ext.drew ?_ | refine Ext.drewN ?_ _ | refine Ext.setCell ?_ (by first | exact Nat.le_refl _ | (simp; done) | (dsimp only; omega) | (simp only [World.size_alloc, World.size_setCell]; omega)) _ | refine Ext.trans ?_ (by assumption)))⟩
end Go.Proofs.Ytjmbhlhkjjinbaa