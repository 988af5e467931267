/- The chapter of shifts: the duty hours of an operator. No condition. -/
import Derived.Test.YtedkffdkhnfoiaaDoorShfC
namespace Go.Proofs.YtedkffdkhnfoiaaDoor
open Go.RowKit
set_option linter.unusedSimpArgs false
set_option linter.unusedVariables false

def nightB (h : Int) : Bool := decide (h % 24 < 6) || decide (22 ≤ h % 24)
/-- the night hours among d hours from f on -/
def nightN (f : Int) : Nat → Int
  | 0 => 0
  | d + 1 => if nightB (f + d) = true then nightN f d + 1 else nightN f d
theorem nightN_bd (f : Int) : ∀ d, 0 ≤ nightN f d ∧ nightN f d ≤ d
  | 0 => by simp [nightN]
  | d + 1 => by
    have := nightN_bd f d
    rw [nightN]
    split <;> omega
def dutyH (z : List Int) (p : Int) : Nat → Int
  | 0 => 0
  | k + 1 => if shOp z k = p then dutyH z p k + (shTo z k - shFr z k) else dutyH z p k
def dutyN (z : List Int) (p : Int) : Nat → Int
  | 0 => 0
  | k + 1 => if shOp z k = p then dutyN z p k + nightN (shFr z k) (shTo z k - shFr z k).toNat else dutyN z p k
theorem okSs_n {z : List Int} {n : Nat} (h : okSs z n = true) : n ≤ 60 := by
  unfold okSs at h
  rw [Bool.and_eq_true] at h
  simpa using h.1
theorem okSs_bd {z : List Int} {n : Nat} (h : okSs z n = true) (i : Nat) (hi : i < n) : 1 ≤ shOp z i ∧ shOp z i ≤ 30 ∧ 0 ≤ shFr z i ∧ shFr z i < shTo z i ∧ shTo z i ≤ 168 := by
  unfold okSs at h
  rw [Bool.and_eq_true] at h
  have := allB_get h.2 i hi
  unfold shAt shOne at this
  simp only [Bool.and_eq_true, inR_iff, decide_eq_true_eq] at this
  omega
theorem duty_bd {z : List Int} {n : Nat} (h : okSs z n = true) (p : Int) : ∀ k, k ≤ n → 0 ≤ dutyH z p k ∧ dutyH z p k ≤ 168 * k ∧ 0 ≤ dutyN z p k ∧ dutyN z p k ≤ 168 * k
  | 0, _ => by simp [dutyH, dutyN]
  | k + 1, hk => by
    have h1 := duty_bd h p k (by omega)
    have h2 := okSs_bd h k (by omega)
    have h3 := nightN_bd (shFr z k) (shTo z k - shFr z k).toNat
    rw [dutyH, dutyN]
    by_cases e : shOp z k = p
    · rw [if_pos e, if_pos e]
      omega
    · rw [if_neg e, if_neg e]
      omega
def dC (z : List Int) (n : Nat) (p : Int) : Bool := okSs z n && inR p 1 30
def dHV (z : List Int) (n : Nat) (p : Int) : Int := if dC z n p = true then dutyH z p n else 0
def dNV (z : List Int) (n : Nat) (p : Int) : Int := if dC z n p = true then dutyN z p n else 0

set_option maxHeartbeats 400000 in
theorem shNight_any (h : Int) (w : World) (h0 : 0 ≤ h) : Calls Tryd.prog 36 #[.int .i64 h] w fun e w' => e = .returned (.bool (nightB h)) ∧ w = w' := by
  unfold nightB
  go_enter Tryd.func36, Tryd.ntmps36
  go_wp2
  all_goals (go_ret; refine ⟨ret_bool ?_, rfl⟩)
  all_goals first | rfl | (rw [Bool.eq_iff_iff] <;> simp <;> omega) | (simp <;> omega)


set_option maxRecDepth 100000 in
set_option maxHeartbeats 2000000 in
theorem iDutyHours_any (v : Value) (n : Nat) (z : List Int) (p : Int) (w : World) (h : IntRow .i64 3 w v n z) :
    Calls Tryd.prog 9 #[v, .int .i64 p] w fun e w' => e = .returned (.tuple #[.int .i64 (dHV z n p), .int .i64 (dNV z n p), .bool (dC z n p)]) ∧ Ext w w' := by
  cases hok : okSs z n with
  | false =>
    have HOK := hid hok
    have hc : dC z n p = false := by unfold dC; rw [hok]; rfl
    rw [show dHV z n p = 0 by unfold dHV; rw [hc]; rfl, show dNV z n p = 0 by unfold dNV; rw [hc]; rfl, hc]
    clear hok hc
    go_enter Tryd.func9, Tryd.ntmps9
    go_wp2_with (fail)
    refine (iAreShifts_any v n z w h).mono ?_
    rw [HOK.out]
    rintro e w1 ⟨rfl, hb1⟩
    go_wp2_with (fail)
    go_ret3
    exact ⟨rfl, (by repeat (first | exact Ext.refl _ | assumption | refine Ext.alloc ?_ _ | refine Ext.drew ?_ | refine Ext.drewN ?_ _ | refine Ext.setCell ?_ (by first | exact Nat.le_refl _ | (simp; done) | (dsimp only; omega) | (simp only [World.size_alloc, World.size_setCell]; omega)) _ | refine Ext.trans ?_ (by assumption)))⟩
  | true =>
    have HOK := hid hok
    cases hp : inR p 1 30 with
    | false =>
      have hc : dC z n p = false := by unfold dC; rw [hp, Bool.and_false]
      rw [show dHV z n p = 0 by unfold dHV; rw [hc]; rfl, show dNV z n p = 0 by unfold dNV; rw [hc]; rfl, hc]
      clear hok hc
      go_enter Tryd.func9, Tryd.ntmps9
      go_wp2_with (fail)
      refine (iAreShifts_any v n z w h).mono ?_
      rw [HOK.out]
      rintro e w1 ⟨rfl, hb1⟩
      go_wp2_with (first | (go_at_call 31; refine (isOperator_any _ _).mono ?_; rintro e w' ⟨rfl, rfl⟩))
      go_ret3
      exact ⟨rfl, (by repeat (first | exact Ext.refl _ | assumption | refine Ext.alloc ?_ _ | refine Ext.drew ?_ | refine Ext.drewN ?_ _ | refine Ext.setCell ?_ (by first | exact Nat.le_refl _ | (simp; done) | (dsimp only; omega) | (simp only [World.size_alloc, World.size_setCell]; omega)) _ | refine Ext.trans ?_ (by assumption)))⟩
    | true =>
      have hc : dC z n p = true := by unfold dC; rw [hok, hp]; rfl
      rw [show dHV z n p = dutyH z p n by unfold dHV; rw [hc]; rfl, show dNV z n p = dutyN z p n by unfold dNV; rw [hc]; rfl, hc]
      have hn60 := okSs_n hok
      clear hok hc
      have hh := h
      obtain ⟨hl, hm, hwf, a, c, rfl, hnc, hcm, hcell⟩ := h
      unfold maxLen at hm
      clear hwf
      go_enter Tryd.func9, Tryd.ntmps9
      go_wp2_with (fail)
      refine (iAreShifts_any _ n z w hh).mono ?_
      rw [HOK.out]
      rintro e w1 ⟨rfl, hb1⟩
      clear hh
      go_wp2_with (first | (go_at_call 31; refine (isOperator_any _ _).mono ?_; rintro e w' ⟨rfl, rfl⟩))
      clear hp
      go_loopw [7, 8, 22] (fun a b i wr => ∃ (k : Nat), k ≤ n ∧ i = .int .i64 (k : Int) ∧ a = .int .i64 (dutyH z p k) ∧ b = .int .i64 (dutyN z p k) ∧ Ext w wr)
        (fun _ _ i _ => n - (intOf i).toNat)
      case atStart => exact ⟨0, Nat.zero_le _, rfl, rfl, rfl, hb1⟩
      case round =>
        obtain ⟨k, hk, rfl, rfl, rfl, hE⟩ := hrel
        by_cases hlt : k < n
        · obtain ⟨b, o, rfl, hb, hc⟩ := hcell.resolve_left (by omega)
          obtain ⟨x0, hx0⟩ : ∃ x, x = z.getD (k * 3) 0 := ⟨_, rfl⟩
          have s0 : wr.cell? ⟨b, o + k * 3, none⟩ = some (.int .i64 x0) := by rw [(Ext.cells hE).1 _ _ hb, show o + k * 3 = o + (k * 3) by omega, hc _ (by omega), hx0]
          have H0 := hid hx0
          clear hx0
          obtain ⟨x1, hx1⟩ : ∃ x, x = z.getD (k * 3 + 1) 0 := ⟨_, rfl⟩
          have s1 : wr.cell? ⟨b, o + k * 3 + 1, none⟩ = some (.int .i64 x1) := by rw [(Ext.cells hE).1 _ _ hb, show o + k * 3 + 1 = o + (k * 3 + 1) by omega, hc _ (by omega), hx1]
          have H1 := hid hx1
          clear hx1
          obtain ⟨x2, hx2⟩ : ∃ x, x = z.getD (k * 3 + 2) 0 := ⟨_, rfl⟩
          have s2 : wr.cell? ⟨b, o + k * 3 + 2, none⟩ = some (.int .i64 x2) := by rw [(Ext.cells hE).1 _ _ hb, show o + k * 3 + 2 = o + (k * 3 + 2) by omega, hc _ (by omega), hx2]
          have H2 := hid hx2
          clear hx2
          have sb := okSs_bd HOK.out k hlt
          have db := duty_bd HOK.out p k (by omega)
          have E0 := hid (show shOp z k = x0 from H0.out.symm)
          have E1 := hid (show shFr z k = x1 from H1.out.symm)
          have E2 := hid (show shTo z k = x2 from H2.out.symm)
          rw [E0.out, E1.out, E2.out] at sb
          obtain ⟨sb1, sb2, sb3, sb4, sb5⟩ := sb
          obtain ⟨y0, hy0⟩ : ∃ y, y = dutyH z p k := ⟨_, rfl⟩
          obtain ⟨y1, hy1⟩ : ∃ y, y = dutyN z p k := ⟨_, rfl⟩
          rw [← hy0, ← hy1] at db ⊢
          obtain ⟨db1, db2, db3, db4⟩ := db
          have Y0 := hid hy0
          have Y1 := hid hy1
          clear hy0 hy1 hc hcell
          by_cases hpp : x0 = p
          · have hpb : (x0 == p) = true := by simpa using hpp
            have hpn : (x0 != p) = false := by simpa using hpp
            have HP := hid hpp
            clear hpp
            go_wp2_with (fail)
            have hEx : Ext w (wr.alloc (.cells #[.int .i64 x0, .int .i64 x1, .int .i64 x2] 42)) := hE.alloc _
            have p0 : (wr.alloc (.cells #[.int .i64 x0, .int .i64 x1, .int .i64 x2] 42)).cell? ⟨wr.heap.size, 0, none⟩ = some (.int .i64 x0) := by simp [go_sem]
            have p2 : (wr.alloc (.cells #[.int .i64 x0, .int .i64 x1, .int .i64 x2] 42)).cell? ⟨wr.heap.size, 2, none⟩ = some (.int .i64 x2) := by simp [go_sem]
            obtain ⟨wo, hwo⟩ : ∃ wo, wo = wr.alloc (.cells #[.int .i64 x0, .int .i64 x1, .int .i64 x2] 42) := ⟨_, rfl⟩
            rw [← hwo] at hEx p0 p2 ⊢
            obtain ⟨gx, hgx⟩ : ∃ g, g = wr.heap.size := ⟨_, rfl⟩
            rw [← hgx] at p0 p2 ⊢
            clear s0 s1 s2 hgx hwo hE
            go_loopw [7, 8, 11] (fun a b i wr => ∃ (d : Nat), x1 + d ≤ x2 ∧ i = .int .i64 (x1 + (d : Int)) ∧ a = .int .i64 (y0 + (d : Int)) ∧ b = .int .i64 (y1 + nightN x1 d) ∧ wr = wo)
              (fun _ _ i _ => (x2 - intOf i).toNat)
            case atStart => exact ⟨0, by omega, by simp, by simp, by simp [nightN], rfl⟩
            case round =>
              obtain ⟨d, hd, rfl, rfl, rfl, rfl⟩ := hrel
              by_cases hlt2 : x1 + (d : Int) < x2
              · have nb := nightN_bd x1 d
                obtain ⟨nb1, nb2⟩ := nb
                cases hnb : nightB (x1 + (d : Int)) with
                | true =>
                  have HNB := hid hnb
                  have hn1 : ¬ (6 ≤ (x1 + (d : Int)) % 24 ∧ (x1 + (d : Int)) % 24 < 22) := by intro hc; unfold nightB at hnb; simp at hnb; omega
                  clear hnb
                  go_wp2_with (fail)
                  all_goals first
                    | (exfalso; omega)
                    | (go_roundw
                       case rel =>
                         refine ⟨d + 1, by omega, ?_, ?_, ?_, by first | rfl | trivial⟩
                         · rw [show x1 + ((d + 1 : Nat) : Int) = x1 + (d : Int) + 1 by omega]
                         · rw [show y0 + ((d + 1 : Nat) : Int) = y0 + (d : Int) + 1 by omega]
                         · rw [nightN, if_pos HNB.out, show y1 + (nightN x1 d + 1) = y1 + nightN x1 d + 1 by omega]
                       case measure => simp [intOf]; omega)
                | false =>
                  have HNB := hid hnb
                  have hn1 : 6 ≤ (x1 + (d : Int)) % 24 ∧ (x1 + (d : Int)) % 24 < 22 := by unfold nightB at hnb; simp at hnb; omega
                  obtain ⟨hn2, hn3⟩ := hn1
                  clear hnb
                  go_wp2_with (fail)
                  all_goals first
                    | (exfalso; omega)
                    | (go_roundw
                       case rel =>
                         refine ⟨d + 1, by omega, ?_, ?_, ?_, by first | rfl | trivial⟩
                         · rw [show x1 + ((d + 1 : Nat) : Int) = x1 + (d : Int) + 1 by omega]
                         · rw [show y0 + ((d + 1 : Nat) : Int) = y0 + (d : Int) + 1 by omega]
                         · rw [nightN, if_neg (by rw [HNB.out]; decide)]
                       case measure => simp [intOf]; omega)
              · have hdx : (d : Int) = x2 - x1 := by omega
                have HDX := hid hdx
                clear hdx
                go_wp2_with (fail)
                go_roundw
                case rel =>
                  refine ⟨k + 1, by omega, by go_num, ?_, ?_, (by repeat (first | exact Ext.refl _ | assumption | refine Ext.alloc ?_ _ | refine Ext.drew ?_ | refine Ext.drewN ?_ _ | refine Ext.setCell ?_ (by first | exact Nat.le_refl _ | (simp; done) | (dsimp only; omega) | (simp only [World.size_alloc, World.size_setCell]; omega)) _ | refine Ext.trans ?_ (by assumption)))⟩
                  · rw [dutyH, if_pos (by rw [E0.out, HP.out]), E1.out, E2.out, Y0.out, HDX.out]
                  · rw [dutyN, if_pos (by rw [E0.out, HP.out]), E1.out, E2.out, Y1.out, ← HDX.out, Int.toNat_natCast]
                case measure => simp [intOf]; omega
          · have hpb : (x0 == p) = false := by simpa using hpp
            have hpn : (x0 != p) = true := by simpa using hpp
            have HP := hid hpp
            clear hpp
            go_wp2_with (fail)
            go_roundw
            case rel =>
              refine ⟨k + 1, by omega, by go_num, ?_, ?_, (by repeat (first | exact Ext.refl _ | assumption | refine Ext.alloc ?_ _ | refine Ext.drew ?_ | refine Ext.drewN ?_ _ | refine Ext.setCell ?_ (by first | exact Nat.le_refl _ | (simp; done) | (dsimp only; omega) | (simp only [World.size_alloc, World.size_setCell]; omega)) _ | refine Ext.trans ?_ (by assumption)))⟩
              · rw [dutyH, if_neg (by rw [E0.out]; exact HP.out), Y0.out]
              · rw [dutyN, if_neg (by rw [E0.out]; exact HP.out), Y1.out]
            case measure => simp [intOf]; omega
        · obtain rfl : k = n := by omega
          clear hcell
          go_wp2_with (fail)
          go_ret3
          exact ⟨rfl, hE⟩


set_option maxRecDepth 100000 in
set_option maxHeartbeats 2000000 in
theorem sDutyHours_any (v : Value) (n : Nat) (z : List Int) (p : Int) (w : World) (h : IntRow .i64 3 w v n z) :
    Calls Tryd.prog 10 #[v, .int .i64 p] w fun e w' => e = .returned (.tuple #[.int .i64 (dHV z n p), .int .i64 (dNV z n p), .bool (dC z n p)]) ∧ Ext w w' := by
  cases hok : okSs z n with
  | false =>
    have HOK := hid hok
    have hc : dC z n p = false := by unfold dC; rw [hok]; rfl
    rw [show dHV z n p = 0 by unfold dHV; rw [hc]; rfl, show dNV z n p = 0 by unfold dNV; rw [hc]; rfl, hc]
    clear hok hc
    go_enter Tryd.func10, Tryd.ntmps10
    go_wp2_with (fail)
    refine (shGood_any v n z w h).mono ?_
    rw [HOK.out]
    rintro e w1 ⟨rfl, hb1⟩
    go_wp2_with (fail)
    go_ret3
    exact ⟨rfl, (by repeat (first | exact Ext.refl _ | assumption | refine Ext.alloc ?_ _ | refine Ext.drew ?_ | refine Ext.drewN ?_ _ | refine Ext.setCell ?_ (by first | exact Nat.le_refl _ | (simp; done) | (dsimp only; omega) | (simp only [World.size_alloc, World.size_setCell]; omega)) _ | refine Ext.trans ?_ (by assumption)))⟩
  | true =>
    have HOK := hid hok
    cases hp : inR p 1 30 with
    | false =>
      have hc : dC z n p = false := by unfold dC; rw [hp, Bool.and_false]
      rw [show dHV z n p = 0 by unfold dHV; rw [hc]; rfl, show dNV z n p = 0 by unfold dNV; rw [hc]; rfl, hc]
      clear hok hc
      go_enter Tryd.func10, Tryd.ntmps10
      go_wp2_with (fail)
      refine (shGood_any v n z w h).mono ?_
      rw [HOK.out]
      rintro e w1 ⟨rfl, hb1⟩
      go_wp2_with (first | (go_at_call 33; refine (shOperator_any _ _).mono ?_; rintro e w' ⟨rfl, rfl⟩))
      go_ret3
      exact ⟨rfl, (by repeat (first | exact Ext.refl _ | assumption | refine Ext.alloc ?_ _ | refine Ext.drew ?_ | refine Ext.drewN ?_ _ | refine Ext.setCell ?_ (by first | exact Nat.le_refl _ | (simp; done) | (dsimp only; omega) | (simp only [World.size_alloc, World.size_setCell]; omega)) _ | refine Ext.trans ?_ (by assumption)))⟩
    | true =>
      have hc : dC z n p = true := by unfold dC; rw [hok, hp]; rfl
      rw [show dHV z n p = dutyH z p n by unfold dHV; rw [hc]; rfl, show dNV z n p = dutyN z p n by unfold dNV; rw [hc]; rfl, hc]
      have hn60 := okSs_n hok
      clear hok hc
      have hh := h
      obtain ⟨hl, hm, hwf, a, c, rfl, hnc, hcm, hcell⟩ := h
      unfold maxLen at hm
      clear hwf
      go_enter Tryd.func10, Tryd.ntmps10
      go_wp2_with (fail)
      refine (shGood_any _ n z w hh).mono ?_
      rw [HOK.out]
      rintro e w1 ⟨rfl, hb1⟩
      clear hh
      go_wp2_with (first | (go_at_call 33; refine (shOperator_any _ _).mono ?_; rintro e w' ⟨rfl, rfl⟩))
      clear hp
      go_loopw [7, 8, 22] (fun a b i wr => ∃ (k : Nat), k ≤ n ∧ i = .int .i64 (k : Int) ∧ a = .int .i64 (dutyH z p k) ∧ b = .int .i64 (dutyN z p k) ∧ Ext w wr)
        (fun _ _ i _ => n - (intOf i).toNat)
      case atStart => exact ⟨0, Nat.zero_le _, rfl, rfl, rfl, hb1⟩
      case round =>
        obtain ⟨k, hk, rfl, rfl, rfl, hE⟩ := hrel
        by_cases hlt : k < n
        · obtain ⟨b, o, rfl, hb, hc⟩ := hcell.resolve_left (by omega)
          obtain ⟨x0, hx0⟩ : ∃ x, x = z.getD (k * 3) 0 := ⟨_, rfl⟩
          have s0 : wr.cell? ⟨b, o + k * 3, none⟩ = some (.int .i64 x0) := by rw [(Ext.cells hE).1 _ _ hb, show o + k * 3 = o + (k * 3) by omega, hc _ (by omega), hx0]
          have H0 := hid hx0
          clear hx0
          obtain ⟨x1, hx1⟩ : ∃ x, x = z.getD (k * 3 + 1) 0 := ⟨_, rfl⟩
          have s1 : wr.cell? ⟨b, o + k * 3 + 1, none⟩ = some (.int .i64 x1) := by rw [(Ext.cells hE).1 _ _ hb, show o + k * 3 + 1 = o + (k * 3 + 1) by omega, hc _ (by omega), hx1]
          have H1 := hid hx1
          clear hx1
          obtain ⟨x2, hx2⟩ : ∃ x, x = z.getD (k * 3 + 2) 0 := ⟨_, rfl⟩
          have s2 : wr.cell? ⟨b, o + k * 3 + 2, none⟩ = some (.int .i64 x2) := by rw [(Ext.cells hE).1 _ _ hb, show o + k * 3 + 2 = o + (k * 3 + 2) by omega, hc _ (by omega), hx2]
          have H2 := hid hx2
          clear hx2
          have sb := okSs_bd HOK.out k hlt
          have db := duty_bd HOK.out p k (by omega)
          have E0 := hid (show shOp z k = x0 from H0.out.symm)
          have E1 := hid (show shFr z k = x1 from H1.out.symm)
          have E2 := hid (show shTo z k = x2 from H2.out.symm)
          rw [E0.out, E1.out, E2.out] at sb
          obtain ⟨sb1, sb2, sb3, sb4, sb5⟩ := sb
          obtain ⟨y0, hy0⟩ : ∃ y, y = dutyH z p k := ⟨_, rfl⟩
          obtain ⟨y1, hy1⟩ : ∃ y, y = dutyN z p k := ⟨_, rfl⟩
          rw [← hy0, ← hy1] at db ⊢
          obtain ⟨db1, db2, db3, db4⟩ := db
          have Y0 := hid hy0
          have Y1 := hid hy1
          clear hy0 hy1 hc hcell
          by_cases hpp : x0 = p
          · have hpb : (x0 == p) = true := by simpa using hpp
            have hpn : (x0 != p) = false := by simpa using hpp
            have HP := hid hpp
            clear hpp
            go_wp2_with (fail)
            have hEx : Ext w (wr.alloc (.cells #[.int .i64 x0, .int .i64 x1, .int .i64 x2] 42)) := hE.alloc _
            have p0 : (wr.alloc (.cells #[.int .i64 x0, .int .i64 x1, .int .i64 x2] 42)).cell? ⟨wr.heap.size, 0, none⟩ = some (.int .i64 x0) := by simp [go_sem]
            have p2 : (wr.alloc (.cells #[.int .i64 x0, .int .i64 x1, .int .i64 x2] 42)).cell? ⟨wr.heap.size, 2, none⟩ = some (.int .i64 x2) := by simp [go_sem]
            obtain ⟨wo, hwo⟩ : ∃ wo, wo = wr.alloc (.cells #[.int .i64 x0, .int .i64 x1, .int .i64 x2] 42) := ⟨_, rfl⟩
            rw [← hwo] at hEx p0 p2 ⊢
            obtain ⟨gx, hgx⟩ : ∃ g, g = wr.heap.size := ⟨_, rfl⟩
            rw [← hgx] at p0 p2 ⊢
            clear s0 s1 s2 hgx hwo hE
            go_loopw [7, 8, 11] (fun a b i wr => ∃ (d : Nat), x1 + d ≤ x2 ∧ i = .int .i64 (x1 + (d : Int)) ∧ a = .int .i64 (y0 + (d : Int)) ∧ b = .int .i64 (y1 + nightN x1 d) ∧ wr = wo)
              (fun _ _ i _ => (x2 - intOf i).toNat)
            case atStart => exact ⟨0, by omega, by simp, by simp, by simp [nightN], rfl⟩
            case round =>
              obtain ⟨d, hd, rfl, rfl, rfl, rfl⟩ := hrel
              by_cases hlt2 : x1 + (d : Int) < x2
              · have nb := nightN_bd x1 d
                obtain ⟨nb1, nb2⟩ := nb
                cases hnb : nightB (x1 + (d : Int)) with
                | true =>
                  have HNB := hid hnb
                  have hn1 : ¬ (6 ≤ (x1 + (d : Int)) % 24 ∧ (x1 + (d : Int)) % 24 < 22) := by intro hc; unfold nightB at hnb; simp at hnb; omega
                  skip
                  go_wp2_with (first | (go_at_call 36; refine (shNight_any _ _ (by omega)).mono ?_; rintro e w' ⟨rfl, rfl⟩))
                  all_goals first
                    | (exfalso; omega)
                    | (go_roundw
                       case rel =>
                         refine ⟨d + 1, by omega, ?_, ?_, ?_, by first | rfl | trivial⟩
                         · rw [show x1 + ((d + 1 : Nat) : Int) = x1 + (d : Int) + 1 by omega]
                         · rw [show y0 + ((d + 1 : Nat) : Int) = y0 + (d : Int) + 1 by omega]
                         · rw [nightN, if_pos HNB.out, show y1 + (nightN x1 d + 1) = y1 + nightN x1 d + 1 by omega]
                       case measure => simp [intOf]; omega)
                | false =>
                  have HNB := hid hnb
                  have hn1 : 6 ≤ (x1 + (d : Int)) % 24 ∧ (x1 + (d : Int)) % 24 < 22 := by unfold nightB at hnb; simp at hnb; omega
                  obtain ⟨hn2, hn3⟩ := hn1
                  skip
                  go_wp2_with (first | (go_at_call 36; refine (shNight_any _ _ (by omega)).mono ?_; rintro e w' ⟨rfl, rfl⟩))
                  all_goals first
                    | (exfalso; omega)
                    | (go_roundw
                       case rel =>
                         refine ⟨d + 1, by omega, ?_, ?_, ?_, by first | rfl | trivial⟩
                         · rw [show x1 + ((d + 1 : Nat) : Int) = x1 + (d : Int) + 1 by omega]
                         · rw [show y0 + ((d + 1 : Nat) : Int) = y0 + (d : Int) + 1 by omega]
                         · rw [nightN, if_neg (by rw [HNB.out]; decide)]
                       case measure => simp [intOf]; omega)
              · have hdx : (d : Int) = x2 - x1 := by omega
                have HDX := hid hdx
                clear hdx
                go_wp2_with (first | (go_at_call 36; refine (shNight_any _ _ (by omega)).mono ?_; rintro e w' ⟨rfl, rfl⟩))
                go_roundw
                case rel =>
                  refine ⟨k + 1, by omega, by go_num, ?_, ?_, (by repeat (first | exact Ext.refl _ | assumption | refine Ext.alloc ?_ _ | refine Ext.drew ?_ | refine Ext.drewN ?_ _ | refine Ext.setCell ?_ (by first | exact Nat.le_refl _ | (simp; done) | (dsimp only; omega) | (simp only [World.size_alloc, World.size_setCell]; omega)) _ | refine Ext.trans ?_ (by assumption)))⟩
                  · rw [dutyH, if_pos (by rw [E0.out, HP.out]), E1.out, E2.out, Y0.out, HDX.out]
                  · rw [dutyN, if_pos (by rw [E0.out, HP.out]), E1.out, E2.out, Y1.out, ← HDX.out, Int.toNat_natCast]
                case measure => simp [intOf]; omega
          · have hpb : (x0 == p) = false := by simpa using hpp
            have hpn : (x0 != p) = true := by simpa using hpp
            have HP := hid hpp
            clear hpp
            go_wp2_with (fail)
            refine wp_loop_rounds 1 ?_
            rw [rounds_succ]
            go_wp2_with (first | (go_at_call 36; refine (shNight_any _ _ (by omega)).mono ?_; rintro e w' ⟨rfl, rfl⟩))
            go_roundw
            case rel =>
              refine ⟨k + 1, by omega, by go_num, ?_, ?_, (by repeat (first | exact Ext.refl _ | assumption | refine Ext.alloc ?_ _ | refine Ext.drew ?_ | refine Ext.drewN ?_ _ | refine Ext.setCell ?_ (by first | exact Nat.le_refl _ | (simp; done) | (dsimp only; omega) | (simp only [World.size_alloc, World.size_setCell]; omega)) _ | refine Ext.trans ?_ (by assumption)))⟩
              · rw [dutyH, if_neg (by rw [E0.out]; exact HP.out), Y0.out]
              · rw [dutyN, if_neg (by rw [E0.out]; exact HP.out), Y1.out]
            case measure => simp [intOf]; omega
        · obtain rfl : k = n := by omega
          clear hcell
          go_wp2_with (fail)
          go_ret3
          exact ⟨rfl, hE⟩


end Go.Proofs.YtedkffdkhnfoiaaDoor