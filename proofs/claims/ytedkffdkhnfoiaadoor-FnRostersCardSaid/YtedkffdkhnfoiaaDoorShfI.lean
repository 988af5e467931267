/- The chapter of shifts: the operators on duty in an hour. No condition. -/
import Derived.Test.YtedkffdkhnfoiaaDoorShfE
import Derived.Test.YtedkffdkhnfoiaaDoorRosS
namespace Go.Proofs.YtedkffdkhnfoiaaDoor
open Go.RowKit
set_option linter.unusedSimpArgs false
set_option linter.unusedVariables false

/-! who is on duty, in the order of the shifts -/
def dutyL (z : List Int) (h : Int) : Nat → List Int
  | 0 => []
  | k + 1 => if hasH z h k = true then dutyL z h k ++ [shOp z k] else dutyL z h k
theorem mem_dutyL {z : List Int} {h x : Int} : ∀ {k}, x ∈ dutyL z h k ↔ ∃ i, i < k ∧ shOp z i = x ∧ hasH z h i = true
  | 0 => by simp [dutyL]
  | k + 1 => by
    rw [dutyL]
    by_cases c : hasH z h k = true
    · rw [if_pos c, List.mem_append, mem_dutyL, List.mem_singleton]
      constructor
      · rintro (⟨i, h1, h2⟩ | rfl)
        · exact ⟨i, by omega, h2⟩
        · exact ⟨k, by omega, rfl, c⟩
      · rintro ⟨i, h1, h2, h3⟩
        by_cases e : i = k
        · subst e; exact .inr h2.symm
        · exact .inl ⟨i, by omega, h2, h3⟩
    · rw [if_neg c, mem_dutyL]
      constructor
      · rintro ⟨i, h1, h2⟩; exact ⟨i, by omega, h2⟩
      · rintro ⟨i, h1, h2, h3⟩
        by_cases e : i = k
        · subst e; exact absurd h3 c
        · exact ⟨i, by omega, h2, h3⟩
theorem dutyL_len (z : List Int) (h : Int) : ∀ k, (dutyL z h k).length ≤ k
  | 0 => by simp [dutyL]
  | k + 1 => by have := dutyL_len z h k; rw [dutyL]; split <;> simp <;> omega
theorem dutyL_nodup {z : List Int} {n : Nat} (ok : okSs z n = true) (h : Int) : ∀ k, k ≤ n → (dutyL z h k).Pairwise (· ≠ ·)
  | 0, _ => by simp [dutyL]
  | k + 1, hk => by
    have ih := dutyL_nodup ok h k (by omega)
    rw [dutyL]
    by_cases c : hasH z h k = true
    · rw [if_pos c, List.pairwise_append]
      refine ⟨ih, by simp, fun x hx y hy => ?_⟩
      rw [List.mem_singleton] at hy
      subst hy
      rintro rfl
      obtain ⟨i, h1, h2, h3⟩ := mem_dutyL.1 hx
      have := okSs_con ok h1 (by omega) h2
      unfold hasH at c h3
      rw [inR_iff] at c h3
      omega
    · rw [if_neg c]
      exact ih
theorem duty_sorted {z : List Int} {n : Nat} (ok : okSs z n = true) (h : Int) {B : List Int} (p : B.Perm (dutyL z h n)) (s : B.Pairwise (fun a b => ¬ b < a)) : B = onL z h n := by
  have nd : B.Pairwise (· ≠ ·) := (p.pairwise_iff (fun {a b} hab => Ne.symm hab)).2 (dutyL_nodup ok h n (Nat.le_refl _))
  have st : B.Pairwise (· < ·) := (s.and nd).imp (fun {a b} ⟨h1, h2⟩ => by omega)
  refine sorted_ext st (onL_sorted z h n) fun x => ?_
  rw [p.mem_iff, mem_dutyL, mem_onL]

theorem int_app1 (l : List Int) (x : Int) : (l ++ [x]).map (Value.int .i64) = l.map (Value.int .i64) ++ [Value.int .i64 x] := by simp
def odC (z : List Int) (n : Nat) (h : Int) : Bool := okSs z n && inR h 0 167
def odV (z : List Int) (n : Nat) (h : Int) : List Int := if odC z n h = true then onL z h n else []
theorem odV_inv (z : List Int) (n : Nat) (h : Int) : (∀ x ∈ odV z n h, (Lit.int .i64 x).wf = true) ∧ (odV z n h).length ≤ 60 := by
  unfold odV
  by_cases c : odC z n h = true
  · rw [if_pos c]
    unfold odC at c
    rw [Bool.and_eq_true] at c
    have hn := okSs_n c.1
    have := onL_len_le z h n
    exact ⟨onL_wf c.1 h n (Nat.le_refl _), by omega⟩
  · rw [if_neg c]
    simp

set_option maxRecDepth 100000 in
set_option maxHeartbeats 2000000 in
theorem sOnDutyAt_any (v : Value) (n : Nat) (z : List Int) (h : Int) (w : World) (hr : IntRow .i64 3 w v n z) :
    Calls Tryd.prog 15 #[v, .int .i64 h] w fun e w' => ∃ v', e = .returned (.tuple #[v', .bool (odC z n h)]) ∧ w'.ownsRow w.heap.size 3 1 v' ((odV z n h).length / 1) ((odV z n h).map (Value.int .i64)) ∧ Ext w w' := by
  cases hok : okSs z n with
  | false =>
    have HOK := hid hok
    have hc : odC z n h = false := by unfold odC; rw [hok]; rfl
    rw [show odV z n h = [] by unfold odV; rw [hc]; rfl, hc]
    clear hok hc
    go_enter Tryd.func15, Tryd.ntmps15
    go_wp2_with (fail)
    refine (shGood_any v n z _ (hr.ext (by repeat (first | exact Ext.refl _ | assumption | refine Ext.alloc ?_ _ | refine Ext.drew ?_ | refine Ext.drewN ?_ _ | refine Ext.setCell ?_ (by first | exact Nat.le_refl _ | (simp; done) | (dsimp only; omega) | (simp only [World.size_alloc, World.size_setCell]; omega)) _ | refine Ext.trans ?_ (by assumption))))).mono ?_
    rw [HOK.out]
    rintro e w1 ⟨rfl, hb1⟩
    go_wp2_with (fail)
    go_ret2
    exact ⟨_, rfl, World.ownsRow_nil _ _ _ _, (by repeat (first | exact Ext.refl _ | assumption | refine Ext.alloc ?_ _ | refine Ext.drew ?_ | refine Ext.drewN ?_ _ | refine Ext.setCell ?_ (by first | exact Nat.le_refl _ | (simp; done) | (dsimp only; omega) | (simp only [World.size_alloc, World.size_setCell]; omega)) _ | refine Ext.trans ?_ (by assumption)))⟩
  | true =>
    have HOK := hid hok
    cases hp : inR h 0 167 with
    | false =>
      have HP := hid hp
      have hc : odC z n h = false := by unfold odC; rw [hp, Bool.and_false]
      rw [show odV z n h = [] by unfold odV; rw [hc]; rfl, hc]
      clear hok hc hp
      go_enter Tryd.func15, Tryd.ntmps15
      go_wp2_with (fail)
      refine (shGood_any v n z _ (hr.ext (by repeat (first | exact Ext.refl _ | assumption | refine Ext.alloc ?_ _ | refine Ext.drew ?_ | refine Ext.drewN ?_ _ | refine Ext.setCell ?_ (by first | exact Nat.le_refl _ | (simp; done) | (dsimp only; omega) | (simp only [World.size_alloc, World.size_setCell]; omega)) _ | refine Ext.trans ?_ (by assumption))))).mono ?_
      rw [HOK.out]
      rintro e w1 ⟨rfl, hb1⟩
      go_wp2_with (go_at_call 41; refine (shHour_any _ _).mono ?_; rw [HP.out]; rintro e w' ⟨rfl, rfl⟩)
      go_ret2
      exact ⟨_, rfl, World.ownsRow_nil _ _ _ _, (by repeat (first | exact Ext.refl _ | assumption | refine Ext.alloc ?_ _ | refine Ext.drew ?_ | refine Ext.drewN ?_ _ | refine Ext.setCell ?_ (by first | exact Nat.le_refl _ | (simp; done) | (dsimp only; omega) | (simp only [World.size_alloc, World.size_setCell]; omega)) _ | refine Ext.trans ?_ (by assumption)))⟩
    | true =>
      have HP := hid hp
      have hc : odC z n h = true := by unfold odC; rw [hok, hp]; rfl
      have HV := hid (show odV z n h = onL z h n by unfold odV; rw [if_pos hc])
      rw [HV.out, hc, Nat.div_one]
      have hn60 := okSs_n hok
      have pb := inR_iff.1 hp
      obtain ⟨pb1, pb2⟩ := pb
      clear hok hc hp
      go_enter Tryd.func15, Tryd.ntmps15
      go_wp2_with (fail)
      refine (shGood_any v n z _ (hr.ext (by repeat (first | exact Ext.refl _ | assumption | refine Ext.alloc ?_ _ | refine Ext.drew ?_ | refine Ext.drewN ?_ _ | refine Ext.setCell ?_ (by first | exact Nat.le_refl _ | (simp; done) | (dsimp only; omega) | (simp only [World.size_alloc, World.size_setCell]; omega)) _ | refine Ext.trans ?_ (by assumption))))).mono ?_
      rw [HOK.out]
      rintro e w1 ⟨rfl, hb1⟩
      go_wp2_with (go_at_call 41; refine (shHour_any _ _).mono ?_; rw [HP.out]; rintro e w' ⟨rfl, rfl⟩)
      refine (shOn_any v n z h _ (hr.ext hb1) HOK.out).mono ?_
      rintro e w2 ⟨v2, rfl, hr2, hb2⟩
      go_wp2_with (fail)
      go_ret2
      exact ⟨_, rfl, row_mono hr2 hb1.size, hb1.trans hb2⟩

set_option maxRecDepth 100000 in
set_option maxHeartbeats 2000000 in
theorem iOnDutyAt_any (v : Value) (n : Nat) (z : List Int) (h : Int) (w : World) (hr : IntRow .i64 3 w v n z) :
    Calls Tryd.prog 14 #[v, .int .i64 h] w fun e w' => ∃ v', e = .returned (.tuple #[v', .bool (odC z n h)]) ∧ w'.ownsRow w.heap.size 3 1 v' ((odV z n h).length / 1) ((odV z n h).map (Value.int .i64)) ∧ Ext w w' := by
  cases hok : okSs z n with
  | false =>
    have HOK := hid hok
    have hc : odC z n h = false := by unfold odC; rw [hok]; rfl
    rw [show odV z n h = [] by unfold odV; rw [hc]; rfl, hc]
    clear hok hc
    go_enter Tryd.func14, Tryd.ntmps14
    go_wp2_with (fail)
    refine (iAreShifts_any v n z _ (hr.ext (by repeat (first | exact Ext.refl _ | assumption | refine Ext.alloc ?_ _ | refine Ext.drew ?_ | refine Ext.drewN ?_ _ | refine Ext.setCell ?_ (by first | exact Nat.le_refl _ | (simp; done) | (dsimp only; omega) | (simp only [World.size_alloc, World.size_setCell]; omega)) _ | refine Ext.trans ?_ (by assumption))))).mono ?_
    rw [HOK.out]
    rintro e w1 ⟨rfl, hb1⟩
    go_wp2_with (fail)
    go_ret2
    exact ⟨_, rfl, World.ownsRow_nil _ _ _ _, (by repeat (first | exact Ext.refl _ | assumption | refine Ext.alloc ?_ _ | refine Ext.drew ?_ | refine Ext.drewN ?_ _ | refine Ext.setCell ?_ (by first | exact Nat.le_refl _ | (simp; done) | (dsimp only; omega) | (simp only [World.size_alloc, World.size_setCell]; omega)) _ | refine Ext.trans ?_ (by assumption)))⟩
  | true =>
    have HOK := hid hok
    cases hp : inR h 0 167 with
    | false =>
      have HP := hid hp
      have hc : odC z n h = false := by unfold odC; rw [hp, Bool.and_false]
      rw [show odV z n h = [] by unfold odV; rw [hc]; rfl, hc]
      clear hok hc hp
      go_enter Tryd.func14, Tryd.ntmps14
      go_wp2_with (fail)
      refine (iAreShifts_any v n z _ (hr.ext (by repeat (first | exact Ext.refl _ | assumption | refine Ext.alloc ?_ _ | refine Ext.drew ?_ | refine Ext.drewN ?_ _ | refine Ext.setCell ?_ (by first | exact Nat.le_refl _ | (simp; done) | (dsimp only; omega) | (simp only [World.size_alloc, World.size_setCell]; omega)) _ | refine Ext.trans ?_ (by assumption))))).mono ?_
      rw [HOK.out]
      rintro e w1 ⟨rfl, hb1⟩
      go_wp2_with (go_at_call 39; refine (within_any _ _ _ _).mono ?_; rw [HP.out]; rintro e w' ⟨rfl, rfl⟩)
      go_ret2
      exact ⟨_, rfl, World.ownsRow_nil _ _ _ _, (by repeat (first | exact Ext.refl _ | assumption | refine Ext.alloc ?_ _ | refine Ext.drew ?_ | refine Ext.drewN ?_ _ | refine Ext.setCell ?_ (by first | exact Nat.le_refl _ | (simp; done) | (dsimp only; omega) | (simp only [World.size_alloc, World.size_setCell]; omega)) _ | refine Ext.trans ?_ (by assumption)))⟩
    | true =>
      have HP := hid hp
      have hc : odC z n h = true := by unfold odC; rw [hok, hp]; rfl
      have HV := hid (show odV z n h = onL z h n by unfold odV; rw [if_pos hc])
      rw [HV.out, hc, Nat.div_one]
      have hn60 := okSs_n hok
      have pb := inR_iff.1 hp
      obtain ⟨pb1, pb2⟩ := pb
      clear hok hc hp
      obtain ⟨i0, hi, hz0, hz1, hz2⟩ := info_parts info_Int
      have hh := hr
      obtain ⟨hl, hm, hwf, a, c, rfl, hnc, hcm, hcell⟩ := hr
      unfold maxLen at hm
      clear hwf
      go_enter Tryd.func14, Tryd.ntmps14
      go_wp2_with (fail)
      refine (iAreShifts_any _ n z _ (hh.ext (by repeat (first | exact Ext.refl _ | assumption | refine Ext.alloc ?_ _ | refine Ext.drew ?_ | refine Ext.drewN ?_ _ | refine Ext.setCell ?_ (by first | exact Nat.le_refl _ | (simp; done) | (dsimp only; omega) | (simp only [World.size_alloc, World.size_setCell]; omega)) _ | refine Ext.trans ?_ (by assumption))))).mono ?_
      rw [HOK.out]
      rintro e w1 ⟨rfl, hb1⟩
      have hs01 := hb1.size
      go_wp2_with (go_at_call 39; refine (within_any _ _ _ _).mono ?_; rw [HP.out]; rintro e w' ⟨rfl, rfl⟩)
      go_loopw [6, 19] (fun u i wr => ∃ (k : Nat), k ≤ n ∧ i = .int .i64 (k : Int) ∧ wr.ownsRow w1.heap.size 3 1 u (dutyL z h k).length ((dutyL z h k).map (Value.int .i64)) ∧ Ext w1 wr)
        (fun _ i _ => n - (intOf i).toNat)
      case atStart => exact ⟨0, Nat.zero_le _, rfl, World.ownsRow_nil _ _ _ _, Ext.refl _⟩
      case round =>
        obtain ⟨k, hk, rfl, hrow, hX⟩ := hrel
        by_cases hlt : k < n
        · obtain ⟨b, o, rfl, hb, hc⟩ := hcell.resolve_left (by omega)
          have hXX := hb1.trans hX
          obtain ⟨x0, hx0⟩ : ∃ x, x = z.getD (k * 3) 0 := ⟨_, rfl⟩
          have s0 : wr.cell? ⟨b, o + k * 3, none⟩ = some (.int .i64 x0) := by rw [(Ext.cells hXX).1 _ _ hb, show o + k * 3 = o + (k * 3) by omega, hc _ (by omega), hx0]
          have H0 := hid hx0
          clear hx0
          obtain ⟨x1, hx1⟩ : ∃ x, x = z.getD (k * 3 + 1) 0 := ⟨_, rfl⟩
          have s1 : wr.cell? ⟨b, o + k * 3 + 1, none⟩ = some (.int .i64 x1) := by rw [(Ext.cells hXX).1 _ _ hb, show o + k * 3 + 1 = o + (k * 3 + 1) by omega, hc _ (by omega), hx1]
          have H1 := hid hx1
          clear hx1
          obtain ⟨x2, hx2⟩ : ∃ x, x = z.getD (k * 3 + 2) 0 := ⟨_, rfl⟩
          have s2 : wr.cell? ⟨b, o + k * 3 + 2, none⟩ = some (.int .i64 x2) := by rw [(Ext.cells hXX).1 _ _ hb, show o + k * 3 + 2 = o + (k * 3 + 2) by omega, hc _ (by omega), hx2]
          have H2 := hid hx2
          clear hx2
          have sb := okSs_bd HOK.out k hlt
          have E0 := hid (show shOp z k = x0 from H0.out.symm)
          have E1 := hid (show shFr z k = x1 from H1.out.symm)
          have E2 := hid (show shTo z k = x2 from H2.out.symm)
          rw [E0.out, E1.out, E2.out] at sb
          obtain ⟨sb1, sb2, sb3, sb4, sb5⟩ := sb
          have hdl := dutyL_len z h k
          have hst : dutyL z h (k + 1) = if inR h x1 (x2 - 1) = true then dutyL z h k ++ [x0] else dutyL z h k := by rw [dutyL, E0.out]; unfold hasH; rw [E1.out, E2.out]
          obtain ⟨D, hD⟩ : ∃ D, D = dutyL z h k := ⟨_, rfl⟩
          rw [← hD] at hst hrow hdl
          have HST := hid hst
          have HROW := hid hrow
          have hXs := hX.size
          clear hst hrow hD hc hcell
          by_cases h1 : x1 ≤ h
          · have h1b : decide (x1 ≤ h) = true := decide_eq_true h1
            by_cases h2 : h < x2
            · have h2b : decide (h < x2) = true := decide_eq_true h2
              have HST2 := hid (show dutyL z h (k + 1) = D ++ [x0] by rw [HST.out, if_pos (by rw [inR_iff]; omega)])
              go_wp2_with (first | (at_builtin; refine wpList_append_own _ rfl _ _ 31 rfl w1.heap.size 3 i0 _ _ _ Tryd.underlying31 hi hz0 hz1 hz2 rfl (by decide) _ _ _ rfl ((HROW.out.alloc _).alloc _) _ 1 1 [.int .i64 x0] rfl rfl (cell_new1 _ _ _ _ (by simp)) (fun x hx => by simp at hx; subst hx; rfl) (by unfold maxLen; omega) (by omega) (by simp; omega) ?_; intro v' w3 hr3 hg3 hnil'))
              go_roundw
              case rel =>
                refine ⟨k + 1, by omega, by go_num, ?_, ext_append ((hX.alloc _).alloc _) ((HROW.out.alloc _).alloc _) (Nat.le_refl _) hg3⟩
                rw [HST2.out, List.length_append, List.length_singleton, int_app1]
                exact hr3
              case measure => simp [intOf]; omega
            · have h2b : decide (h < x2) = false := decide_eq_false h2
              have HST2 := hid (show dutyL z h (k + 1) = D by rw [HST.out, if_neg (by rw [inR_iff]; omega)])
              go_wp2_with (fail)
              go_roundw
              case rel => exact ⟨k + 1, by omega, by go_num, by rw [HST2.out]; exact HROW.out.alloc _, hX.alloc _⟩
              case measure => simp [intOf]; omega
          · have h1b : decide (x1 ≤ h) = false := decide_eq_false h1
            have HST2 := hid (show dutyL z h (k + 1) = D by rw [HST.out, if_neg (by rw [inR_iff]; omega)])
            go_wp2_with (fail)
            go_roundw
            case rel => exact ⟨k + 1, by omega, by go_num, by rw [HST2.out]; exact HROW.out.alloc _, hX.alloc _⟩
            case measure => simp [intOf]; omega
        · obtain rfl : k = n := by omega
          have HROW := hid hrow
          have hdl := dutyL_len z h k
          have HDL := hid hdl
          clear hcell hrow hdl
          go_wp2_with (fail)
          refine (sortI_any w1.heap.size _ _ _ _ HROW.out (by have := HDL.out; omega)).mono ?_
          rintro e w2 ⟨rfl, ys, hp, hs, hr2, hg2⟩
          have hl2 := hp.length_eq
          have HY := hid (duty_sorted HOK.out h hp hs)
          have HL2 := hid hl2
          have HR2 := hid hr2
          have hX2 := ext_append hX HROW.out (Nat.le_refl _) hg2
          clear hp hs hl2 hr2
          go_wp2_with (fail)
          go_ret2
          refine ⟨_, rfl, ?_, hb1.trans hX2⟩
          rw [← HY.out, HL2.out]
          exact row_mono HR2.out hs01

end Go.Proofs.YtedkffdkhnfoiaaDoor
