/- The chapter of priorities: WithPriority and LeastPriority, and the walks of their statements. No condition. -/
import Derived.Test.YtabafhmeefeioaaPriI
namespace Go.Proofs.Ytabafhmeefeioaa
open Go.RowKit
set_option linter.unusedSimpArgs false
set_option linter.unusedVariables false

theorem wpV_wf {z : List Int} {n : Nat} {i p : Int} (h : ∀ x ∈ z, (Lit.int .i64 x).wf = true) : ∀ x ∈ wpV z n i p, (Lit.int .i64 x).wf = true := by
  unfold wpV
  by_cases hc : wpC z n i p = true
  · rw [if_pos hc]
    unfold wpC at hc
    rw [Bool.and_eq_true, Bool.and_eq_true, inR_iff, inR_iff] at hc
    exact setP_wf h hc.2.1 hc.2.2
  · rw [if_neg hc]
    simp
theorem wpV_len {z : List Int} {n : Nat} {i p : Int} (hl : z.length = n * 3) : (wpV z n i p).length / 3 ≤ n := by
  unfold wpV
  by_cases hc : wpC z n i p = true
  · rw [if_pos hc, setP_len]
    omega
  · rw [if_neg hc]
    simp


set_option maxHeartbeats 1200000 in
theorem sWithPriority_any (v : Value) (n : Nat) (z : List Int) (i p : Int) (w : World) (h : IntRow .i64 3 w v n z) :
    Calls Try.prog 20 #[v, .int .i64 i, .int .i64 p] w fun e w' => ∃ v', e = .returned (.tuple #[v', .bool (wpC z n i p)]) ∧ w'.ownsRow w.heap.size 53 3 v' ((wpV z n i p).length / 3) ((wpV z n i p).map (Value.int .i64)) ∧ Ext w w' := by
  have hl := h.1
  obtain ⟨a, c, hv, hnc, hcm, _⟩ := h.2.2.2
  subst hv
  unfold maxLen at hcm
  by_cases hok : okJs z n = true
  · have HOK := hid hok
    by_cases hi : inR i 0 ((n : Int) - 1) = true
    · by_cases hp : inR p 0 3 = true
      · have hc : wpC z n i p = true := by unfold wpC; rw [hok, hi, hp]; rfl
        have HV := hid (show wpV z n i p = setP z i.toNat p by unfold wpV; rw [if_pos hc])
        rw [HV.out, hc, setP_len, show z.length / 3 = n by omega]
        obtain ⟨i1, i2⟩ := inR_iff.1 hi
        have hn := okJs_n hok
        obtain ⟨q, rfl⟩ := Int.eq_ofNat_of_zero_le i1
        clear hok hc
        go_enter Try.func20, Try.ntmps20
        go_wp2_with (first | (go_at_call 63; refine (prTick_any _ _).mono ?_; rintro e w1 ⟨rfl, rfl⟩) | (go_at_call 59; refine (prHas_any _ n z _ _ (h.ext (by repeat (first | exact Ext.refl _ | assumption | refine Ext.alloc ?_ _ | refine Ext.drew ?_ | refine Ext.drewN ?_ _ | refine Ext.setCell ?_ (by first | exact Nat.le_refl _ | (simp; done) | (dsimp only; omega) | (simp only [World.size_alloc, World.size_setCell]; omega)) _ | refine Ext.trans ?_ (by assumption))))).mono ?_; rw [HOK.out]; (try rw [hi]); (try simp only [Bool.and_true, Bool.true_and, Bool.and_false, Bool.false_and, Bool.and_self]); rintro e w1 ⟨rfl, hb1⟩) | (go_at_call 53; refine (prGood_any _ n z _ (h.ext (by repeat (first | exact Ext.refl _ | assumption | refine Ext.alloc ?_ _ | refine Ext.drew ?_ | refine Ext.drewN ?_ _ | refine Ext.setCell ?_ (by first | exact Nat.le_refl _ | (simp; done) | (dsimp only; omega) | (simp only [World.size_alloc, World.size_setCell]; omega)) _ | refine Ext.trans ?_ (by assumption))))).mono ?_; rw [HOK.out]; rintro e w1 ⟨rfl, hb1⟩) | (go_at_call 60; refine (l1In_any _ _ _ _).mono ?_; rintro e w' ⟨rfl, rfl⟩))
        refine (sWith_any _ n z q p _ (h.ext (by repeat (first | exact Ext.refl _ | assumption | refine Ext.alloc ?_ _ | refine Ext.drew ?_ | refine Ext.drewN ?_ _ | refine Ext.setCell ?_ (by first | exact Nat.le_refl _ | (simp; done) | (dsimp only; omega) | (simp only [World.size_alloc, World.size_setCell]; omega)) _ | refine Ext.trans ?_ (by assumption)))) (by omega) hn).mono ?_
        rintro e w2 ⟨v', rfl, hr, hb2⟩
        go_wp2_with (fail)
        go_ret2
        exact ⟨_, rfl, row_mono hr hb1.size, (by repeat (first | exact Ext.refl _ | assumption | refine Ext.alloc ?_ _ | refine Ext.drew ?_ | refine Ext.drewN ?_ _ | refine Ext.setCell ?_ (by first | exact Nat.le_refl _ | (simp; done) | (dsimp only; omega) | (simp only [World.size_alloc, World.size_setCell]; omega)) _ | refine Ext.trans ?_ (by assumption)))⟩
      · have hp : inR p 0 3 = false := by simpa using hp
        have hc : wpC z n i p = false := by unfold wpC; rw [hp]; simp
        have HV := hid (show wpV z n i p = [] by unfold wpV; rw [if_neg (by rw [hc]; decide)])
        rw [HV.out, hc]
        clear hok hc
        go_enter Try.func20, Try.ntmps20
        go_wp2_with (first | (go_at_call 63; refine (prTick_any _ _).mono ?_; rintro e w1 ⟨rfl, rfl⟩) | (go_at_call 59; refine (prHas_any _ n z _ _ (h.ext (by repeat (first | exact Ext.refl _ | assumption | refine Ext.alloc ?_ _ | refine Ext.drew ?_ | refine Ext.drewN ?_ _ | refine Ext.setCell ?_ (by first | exact Nat.le_refl _ | (simp; done) | (dsimp only; omega) | (simp only [World.size_alloc, World.size_setCell]; omega)) _ | refine Ext.trans ?_ (by assumption))))).mono ?_; rw [HOK.out]; (try rw [hi]); (try simp only [Bool.and_true, Bool.true_and, Bool.and_false, Bool.false_and, Bool.and_self]); rintro e w1 ⟨rfl, hb1⟩) | (go_at_call 53; refine (prGood_any _ n z _ (h.ext (by repeat (first | exact Ext.refl _ | assumption | refine Ext.alloc ?_ _ | refine Ext.drew ?_ | refine Ext.drewN ?_ _ | refine Ext.setCell ?_ (by first | exact Nat.le_refl _ | (simp; done) | (dsimp only; omega) | (simp only [World.size_alloc, World.size_setCell]; omega)) _ | refine Ext.trans ?_ (by assumption))))).mono ?_; rw [HOK.out]; rintro e w1 ⟨rfl, hb1⟩) | (go_at_call 60; refine (l1In_any _ _ _ _).mono ?_; rintro e w' ⟨rfl, rfl⟩))
        go_ret2
        exact ⟨_, rfl, World.ownsRow_nil _ _ _ _, (by repeat (first | exact Ext.refl _ | assumption | refine Ext.alloc ?_ _ | refine Ext.drew ?_ | refine Ext.drewN ?_ _ | refine Ext.setCell ?_ (by first | exact Nat.le_refl _ | (simp; done) | (dsimp only; omega) | (simp only [World.size_alloc, World.size_setCell]; omega)) _ | refine Ext.trans ?_ (by assumption)))⟩
    · have hi : inR i 0 ((n : Int) - 1) = false := by simpa using hi
      have hc : wpC z n i p = false := by unfold wpC; rw [hi]; simp
      have HV := hid (show wpV z n i p = [] by unfold wpV; rw [if_neg (by rw [hc]; decide)])
      rw [HV.out, hc]
      clear hok hc
      go_enter Try.func20, Try.ntmps20
      go_wp2_with (first | (go_at_call 63; refine (prTick_any _ _).mono ?_; rintro e w1 ⟨rfl, rfl⟩) | (go_at_call 59; refine (prHas_any _ n z _ _ (h.ext (by repeat (first | exact Ext.refl _ | assumption | refine Ext.alloc ?_ _ | refine Ext.drew ?_ | refine Ext.drewN ?_ _ | refine Ext.setCell ?_ (by first | exact Nat.le_refl _ | (simp; done) | (dsimp only; omega) | (simp only [World.size_alloc, World.size_setCell]; omega)) _ | refine Ext.trans ?_ (by assumption))))).mono ?_; rw [HOK.out]; (try rw [hi]); (try simp only [Bool.and_true, Bool.true_and, Bool.and_false, Bool.false_and, Bool.and_self]); rintro e w1 ⟨rfl, hb1⟩) | (go_at_call 53; refine (prGood_any _ n z _ (h.ext (by repeat (first | exact Ext.refl _ | assumption | refine Ext.alloc ?_ _ | refine Ext.drew ?_ | refine Ext.drewN ?_ _ | refine Ext.setCell ?_ (by first | exact Nat.le_refl _ | (simp; done) | (dsimp only; omega) | (simp only [World.size_alloc, World.size_setCell]; omega)) _ | refine Ext.trans ?_ (by assumption))))).mono ?_; rw [HOK.out]; rintro e w1 ⟨rfl, hb1⟩) | (go_at_call 60; refine (l1In_any _ _ _ _).mono ?_; rintro e w' ⟨rfl, rfl⟩))
      go_ret2
      exact ⟨_, rfl, World.ownsRow_nil _ _ _ _, (by repeat (first | exact Ext.refl _ | assumption | refine Ext.alloc ?_ _ | refine Ext.drew ?_ | refine Ext.drewN ?_ _ | refine Ext.setCell ?_ (by first | exact Nat.le_refl _ | (simp; done) | (dsimp only; omega) | (simp only [World.size_alloc, World.size_setCell]; omega)) _ | refine Ext.trans ?_ (by assumption)))⟩
  · have hok : okJs z n = false := by simpa using hok
    have HOK := hid hok
    have hc : wpC z n i p = false := by unfold wpC; rw [hok]; simp
    have HV := hid (show wpV z n i p = [] by unfold wpV; rw [if_neg (by rw [hc]; decide)])
    rw [HV.out, hc]
    clear hok hc
    go_enter Try.func20, Try.ntmps20
    go_wp2_with (first | (go_at_call 63; refine (prTick_any _ _).mono ?_; rintro e w1 ⟨rfl, rfl⟩) | (go_at_call 59; refine (prHas_any _ n z _ _ (h.ext (by repeat (first | exact Ext.refl _ | assumption | refine Ext.alloc ?_ _ | refine Ext.drew ?_ | refine Ext.drewN ?_ _ | refine Ext.setCell ?_ (by first | exact Nat.le_refl _ | (simp; done) | (dsimp only; omega) | (simp only [World.size_alloc, World.size_setCell]; omega)) _ | refine Ext.trans ?_ (by assumption))))).mono ?_; rw [HOK.out]; (try rw [hi]); (try simp only [Bool.and_true, Bool.true_and, Bool.and_false, Bool.false_and, Bool.and_self]); rintro e w1 ⟨rfl, hb1⟩) | (go_at_call 53; refine (prGood_any _ n z _ (h.ext (by repeat (first | exact Ext.refl _ | assumption | refine Ext.alloc ?_ _ | refine Ext.drew ?_ | refine Ext.drewN ?_ _ | refine Ext.setCell ?_ (by first | exact Nat.le_refl _ | (simp; done) | (dsimp only; omega) | (simp only [World.size_alloc, World.size_setCell]; omega)) _ | refine Ext.trans ?_ (by assumption))))).mono ?_; rw [HOK.out]; rintro e w1 ⟨rfl, hb1⟩) | (go_at_call 60; refine (l1In_any _ _ _ _).mono ?_; rintro e w' ⟨rfl, rfl⟩))
    go_ret2
    exact ⟨_, rfl, World.ownsRow_nil _ _ _ _, (by repeat (first | exact Ext.refl _ | assumption | refine Ext.alloc ?_ _ | refine Ext.drew ?_ | refine Ext.drewN ?_ _ | refine Ext.setCell ?_ (by first | exact Nat.le_refl _ | (simp; done) | (dsimp only; omega) | (simp only [World.size_alloc, World.size_setCell]; omega)) _ | refine Ext.trans ?_ (by assumption)))⟩


set_option maxHeartbeats 1200000 in
theorem sLeastPriority_any (v : Value) (n : Nat) (z : List Int) (i b : Int) (w : World) (h : IntRow .i64 3 w v n z) :
    Calls Try.prog 28 #[v, .int .i64 i, .int .i64 b] w fun e w' => e = .returned (.tuple #[.int .i64 (lpV z n i b), .bool (lpB z n i b)]) ∧ Ext w w' := by
  have hl := h.1
  have hwf := h.2.2.1
  obtain ⟨a, c, hv, hnc, hcm, _⟩ := h.2.2.2
  subst hv
  unfold maxLen at hcm
  by_cases hok : okJs z n = true
  · have HOK := hid hok
    by_cases hi : inR i 0 ((n : Int) - 1) = true
    · by_cases hp : inR b 0 700 = true
      · have hc : lpC z n i b = true := by unfold lpC; rw [hok, hi, hp]; rfl
        obtain ⟨i1, i2⟩ := inR_iff.1 hi
        have hn := okJs_n hok
        obtain ⟨q, rfl⟩ := Int.eq_ofNat_of_zero_le i1
        have HV := hid (show lpI z n (q : Int) b = idxOf (doneBy z n q b) 4 by unfold lpI; rw [if_pos hc]; rfl)
        clear hok hc
        go_enter Try.func28, Try.ntmps28
        go_wp2_with (first | (go_at_call 63; refine (prTick_any _ _).mono ?_; rintro e w1 ⟨rfl, rfl⟩) | (go_at_call 59; refine (prHas_any _ n z _ _ (h.ext (by repeat (first | exact Ext.refl _ | assumption | refine Ext.alloc ?_ _ | refine Ext.drew ?_ | refine Ext.drewN ?_ _ | refine Ext.setCell ?_ (by first | exact Nat.le_refl _ | (simp; done) | (dsimp only; omega) | (simp only [World.size_alloc, World.size_setCell]; omega)) _ | refine Ext.trans ?_ (by assumption))))).mono ?_; rw [HOK.out]; (try rw [hi]); (try simp only [Bool.and_true, Bool.true_and, Bool.and_false, Bool.false_and, Bool.and_self]); rintro e w1 ⟨rfl, hb1⟩) | (go_at_call 53; refine (prGood_any _ n z _ (h.ext (by repeat (first | exact Ext.refl _ | assumption | refine Ext.alloc ?_ _ | refine Ext.drew ?_ | refine Ext.drewN ?_ _ | refine Ext.setCell ?_ (by first | exact Nat.le_refl _ | (simp; done) | (dsimp only; omega) | (simp only [World.size_alloc, World.size_setCell]; omega)) _ | refine Ext.trans ?_ (by assumption))))).mono ?_; rw [HOK.out]; rintro e w1 ⟨rfl, hb1⟩) | (go_at_call 60; refine (l1In_any _ _ _ _).mono ?_; rintro e w' ⟨rfl, rfl⟩))
        clear hi hp
        have hE1 : Ext w w1 := (by repeat (first | exact Ext.refl _ | assumption | refine Ext.alloc ?_ _ | refine Ext.drew ?_ | refine Ext.drewN ?_ _ | refine Ext.setCell ?_ (by first | exact Nat.le_refl _ | (simp; done) | (dsimp only; omega) | (simp only [World.size_alloc, World.size_setCell]; omega)) _ | refine Ext.trans ?_ (by assumption)))
        go_loopw [8] (fun i wr => ∃ (k : Nat), k ≤ 4 ∧ i = .int .i64 (k : Int) ∧ (∀ j, j < k → doneBy z n q b j = false) ∧ Ext w wr)
          (fun i _ => 4 - (intOf i).toNat)
        case atStart => exact ⟨0, by omega, rfl, fun j hj => absurd hj (by omega), hE1⟩
        case round =>
          clear hE1
          obtain ⟨k, hk, rfl, hall, hE⟩ := hrel
          have HA := hid hall
          clear hall
          by_cases hlt : k < 4
          · go_wp2_with (fail)
            refine (sWith_any _ n z q (k : Int) _ (h.ext hE) (by omega) hn).mono ?_
            rintro e w2 ⟨v', rfl, hr, hb2⟩
            have hwf2 := setP_wf (i := q) hwf (show (0 : Int) ≤ k by omega) (by omega)
            go_wp2_with (fail)
            refine (sFin_any _ n (setP z q (k : Int)) _ (row_ints hr (by unfold maxLen; omega) hwf2) (setP_ok hl HOK.out (by omega) (by omega) (by omega))).mono ?_
            rintro e w3 ⟨g, rfl, hr3, hb3⟩
            have hg := hr3.lt g rfl
            obtain ⟨x, hx⟩ : ∃ x, x = (finJ (setP z q (k : Int)) n).getD q 0 := ⟨_, rfl⟩
            have sx : w3.cell? ⟨g, q, none⟩ = some (.int .i64 x) := by rw [hr3.cellAt q (by omega), map_getD (by rw [finJ_len]; omega), hx]
            have HX := hid hx
            clear hx hwf2
            by_cases hxb : x ≤ b
            · have hd : doneBy z n q b k = true := by unfold doneBy; rw [← HX.out]; simpa using hxb
              have HD := hid (lp_some (z := z) (n := n) (i := (q : Int)) (b := b) (by rw [HV.out, idxOf_some hlt hd HA.out]))
              clear hd
              go_wp2_with (fail)
              go_ret2
              exact ⟨by rw [HD.out.1, HD.out.2] <;> rfl, (by repeat (first | exact Ext.refl _ | assumption | refine Ext.alloc ?_ _ | refine Ext.drew ?_ | refine Ext.drewN ?_ _ | refine Ext.setCell ?_ (by first | exact Nat.le_refl _ | (simp; done) | (dsimp only; omega) | (simp only [World.size_alloc, World.size_setCell]; omega)) _ | refine Ext.trans ?_ (by assumption)))⟩
            · have hd : doneBy z n q b k = false := by unfold doneBy; rw [← HX.out]; simpa using hxb
              have HD := hid hd
              clear hd
              go_wp2_with (fail)
              go_roundw
              case rel =>
                refine ⟨k + 1, by omega, by go_num, fun j hj => ?_, (by repeat (first | exact Ext.refl _ | assumption | refine Ext.alloc ?_ _ | refine Ext.drew ?_ | refine Ext.drewN ?_ _ | refine Ext.setCell ?_ (by first | exact Nat.le_refl _ | (simp; done) | (dsimp only; omega) | (simp only [World.size_alloc, World.size_setCell]; omega)) _ | refine Ext.trans ?_ (by assumption)))⟩
                by_cases e : j = k
                · subst e
                  exact HD.out
                · exact HA.out j (by omega)
              case measure => simp [intOf]; omega
          · obtain rfl : k = 4 := by omega
            have HD := hid (lp_none (z := z) (n := n) (i := (q : Int)) (b := b) (by rw [HV.out, idxOf_none HA.out]))
            go_wp2_with (fail)
            go_ret2
            exact ⟨by rw [HD.out.1, HD.out.2] <;> rfl, hE⟩
      · have hp : inR b 0 700 = false := by simpa using hp
        have HD := hid (lp_none (z := z) (n := n) (i := i) (b := b) (by unfold lpI lpC; rw [hp]; simp))
        rw [HD.out.1, HD.out.2]
        clear hok
        go_enter Try.func28, Try.ntmps28
        go_wp2_with (first | (go_at_call 63; refine (prTick_any _ _).mono ?_; rintro e w1 ⟨rfl, rfl⟩) | (go_at_call 59; refine (prHas_any _ n z _ _ (h.ext (by repeat (first | exact Ext.refl _ | assumption | refine Ext.alloc ?_ _ | refine Ext.drew ?_ | refine Ext.drewN ?_ _ | refine Ext.setCell ?_ (by first | exact Nat.le_refl _ | (simp; done) | (dsimp only; omega) | (simp only [World.size_alloc, World.size_setCell]; omega)) _ | refine Ext.trans ?_ (by assumption))))).mono ?_; rw [HOK.out]; (try rw [hi]); (try simp only [Bool.and_true, Bool.true_and, Bool.and_false, Bool.false_and, Bool.and_self]); rintro e w1 ⟨rfl, hb1⟩) | (go_at_call 53; refine (prGood_any _ n z _ (h.ext (by repeat (first | exact Ext.refl _ | assumption | refine Ext.alloc ?_ _ | refine Ext.drew ?_ | refine Ext.drewN ?_ _ | refine Ext.setCell ?_ (by first | exact Nat.le_refl _ | (simp; done) | (dsimp only; omega) | (simp only [World.size_alloc, World.size_setCell]; omega)) _ | refine Ext.trans ?_ (by assumption))))).mono ?_; rw [HOK.out]; rintro e w1 ⟨rfl, hb1⟩) | (go_at_call 60; refine (l1In_any _ _ _ _).mono ?_; rintro e w' ⟨rfl, rfl⟩))
        go_ret2
        exact ⟨rfl, (by repeat (first | exact Ext.refl _ | assumption | refine Ext.alloc ?_ _ | refine Ext.drew ?_ | refine Ext.drewN ?_ _ | refine Ext.setCell ?_ (by first | exact Nat.le_refl _ | (simp; done) | (dsimp only; omega) | (simp only [World.size_alloc, World.size_setCell]; omega)) _ | refine Ext.trans ?_ (by assumption)))⟩
    · have hi : inR i 0 ((n : Int) - 1) = false := by simpa using hi
      have HD := hid (lp_none (z := z) (n := n) (i := i) (b := b) (by unfold lpI lpC; rw [hi]; simp))
      rw [HD.out.1, HD.out.2]
      clear hok
      go_enter Try.func28, Try.ntmps28
      go_wp2_with (first | (go_at_call 63; refine (prTick_any _ _).mono ?_; rintro e w1 ⟨rfl, rfl⟩) | (go_at_call 59; refine (prHas_any _ n z _ _ (h.ext (by repeat (first | exact Ext.refl _ | assumption | refine Ext.alloc ?_ _ | refine Ext.drew ?_ | refine Ext.drewN ?_ _ | refine Ext.setCell ?_ (by first | exact Nat.le_refl _ | (simp; done) | (dsimp only; omega) | (simp only [World.size_alloc, World.size_setCell]; omega)) _ | refine Ext.trans ?_ (by assumption))))).mono ?_; rw [HOK.out]; (try rw [hi]); (try simp only [Bool.and_true, Bool.true_and, Bool.and_false, Bool.false_and, Bool.and_self]); rintro e w1 ⟨rfl, hb1⟩) | (go_at_call 53; refine (prGood_any _ n z _ (h.ext (by repeat (first | exact Ext.refl _ | assumption | refine Ext.alloc ?_ _ | refine Ext.drew ?_ | refine Ext.drewN ?_ _ | refine Ext.setCell ?_ (by first | exact Nat.le_refl _ | (simp; done) | (dsimp only; omega) | (simp only [World.size_alloc, World.size_setCell]; omega)) _ | refine Ext.trans ?_ (by assumption))))).mono ?_; rw [HOK.out]; rintro e w1 ⟨rfl, hb1⟩) | (go_at_call 60; refine (l1In_any _ _ _ _).mono ?_; rintro e w' ⟨rfl, rfl⟩))
      go_ret2
      exact ⟨rfl, (by repeat (first | exact Ext.refl _ | assumption | refine Ext.alloc ?_ _ | refine Ext.drew ?_ | refine Ext.drewN ?_ _ | refine Ext.setCell ?_ (by first | exact Nat.le_refl _ | (simp; done) | (dsimp only; omega) | (simp only [World.size_alloc, World.size_setCell]; omega)) _ | refine Ext.trans ?_ (by assumption)))⟩
  · have hok : okJs z n = false := by simpa using hok
    have HOK := hid hok
    have HD := hid (lp_none (z := z) (n := n) (i := i) (b := b) (by unfold lpI lpC; rw [hok]; simp))
    rw [HD.out.1, HD.out.2]
    clear hok
    go_enter Try.func28, Try.ntmps28
    go_wp2_with (first | (go_at_call 63; refine (prTick_any _ _).mono ?_; rintro e w1 ⟨rfl, rfl⟩) | (go_at_call 59; refine (prHas_any _ n z _ _ (h.ext (by repeat (first | exact Ext.refl _ | assumption | refine Ext.alloc ?_ _ | refine Ext.drew ?_ | refine Ext.drewN ?_ _ | refine Ext.setCell ?_ (by first | exact Nat.le_refl _ | (simp; done) | (dsimp only; omega) | (simp only [World.size_alloc, World.size_setCell]; omega)) _ | refine Ext.trans ?_ (by assumption))))).mono ?_; rw [HOK.out]; (try rw [hi]); (try simp only [Bool.and_true, Bool.true_and, Bool.and_false, Bool.false_and, Bool.and_self]); rintro e w1 ⟨rfl, hb1⟩) | (go_at_call 53; refine (prGood_any _ n z _ (h.ext (by repeat (first | exact Ext.refl _ | assumption | refine Ext.alloc ?_ _ | refine Ext.drew ?_ | refine Ext.drewN ?_ _ | refine Ext.setCell ?_ (by first | exact Nat.le_refl _ | (simp; done) | (dsimp only; omega) | (simp only [World.size_alloc, World.size_setCell]; omega)) _ | refine Ext.trans ?_ (by assumption))))).mono ?_; rw [HOK.out]; rintro e w1 ⟨rfl, hb1⟩) | (go_at_call 60; refine (l1In_any _ _ _ _).mono ?_; rintro e w' ⟨rfl, rfl⟩))
    go_ret2
    exact ⟨rfl, (by repeat (first | exact Ext.refl _ | assumption | refine Ext.alloc ?_ _ | refine Ext.drew ?_ | refine Ext.drewN ?_ _ | refine Ext.setCell ?_ (by first | exact Nat.le_refl _ | (simp; done) | (dsimp only; omega) | (simp only [World.size_alloc, World.size_setCell]; omega)) _ | refine Ext.trans ?_ (by assumption)))⟩


set_option maxHeartbeats 1200000 in
theorem iWithPriority_any (v : Value) (n : Nat) (z : List Int) (i p : Int) (w : World) (h : IntRow .i64 3 w v n z) :
    Calls Try.prog 21 #[v, .int .i64 i, .int .i64 p] w fun e w' => ∃ v', e = .returned (.tuple #[v', .bool (wpC z n i p)]) ∧ w'.ownsRow w.heap.size 53 3 v' ((wpV z n i p).length / 3) ((wpV z n i p).map (Value.int .i64)) ∧ Ext w w' := by
  have hl := h.1
  obtain ⟨a, c, hv, hnc, hcm, _⟩ := h.2.2.2
  subst hv
  unfold maxLen at hcm
  by_cases hok : okJs z n = true
  · have HOK := hid hok
    by_cases hi : inR i 0 ((n : Int) - 1) = true
    · by_cases hp : inR p 0 3 = true
      · have hc : wpC z n i p = true := by unfold wpC; rw [hok, hi, hp]; rfl
        have HV := hid (show wpV z n i p = setP z i.toNat p by unfold wpV; rw [if_pos hc])
        rw [HV.out, hc, setP_len, show z.length / 3 = n by omega]
        obtain ⟨i1, i2⟩ := inR_iff.1 hi
        have hn := okJs_n hok
        obtain ⟨q, rfl⟩ := Int.eq_ofNat_of_zero_le i1
        clear hok hc
        go_enter Try.func21, Try.ntmps21
        go_wp2_with (first | (go_at_call 18; refine (iAreLineJobs_any _ n z _ (h.ext (by repeat (first | exact Ext.refl _ | assumption | refine Ext.alloc ?_ _ | refine Ext.drew ?_ | refine Ext.drewN ?_ _ | refine Ext.setCell ?_ (by first | exact Nat.le_refl _ | (simp; done) | (dsimp only; omega) | (simp only [World.size_alloc, World.size_setCell]; omega)) _ | refine Ext.trans ?_ (by assumption))))).mono ?_; rw [HOK.out]; rintro e w1 ⟨rfl, hb1⟩) | (go_at_call 57; refine (within_any _ _ _ _).mono ?_; rintro e w' ⟨rfl, rfl⟩))
        refine (iWith_any _ n z q p _ (h.ext (by repeat (first | exact Ext.refl _ | assumption | refine Ext.alloc ?_ _ | refine Ext.drew ?_ | refine Ext.drewN ?_ _ | refine Ext.setCell ?_ (by first | exact Nat.le_refl _ | (simp; done) | (dsimp only; omega) | (simp only [World.size_alloc, World.size_setCell]; omega)) _ | refine Ext.trans ?_ (by assumption)))) (by omega) hn).mono ?_
        rintro e w2 ⟨v', rfl, hr, hb2⟩
        go_wp2_with (fail)
        go_ret2
        exact ⟨_, rfl, row_mono hr hb1.size, (by repeat (first | exact Ext.refl _ | assumption | refine Ext.alloc ?_ _ | refine Ext.drew ?_ | refine Ext.drewN ?_ _ | refine Ext.setCell ?_ (by first | exact Nat.le_refl _ | (simp; done) | (dsimp only; omega) | (simp only [World.size_alloc, World.size_setCell]; omega)) _ | refine Ext.trans ?_ (by assumption)))⟩
      · have hp : inR p 0 3 = false := by simpa using hp
        have hc : wpC z n i p = false := by unfold wpC; rw [hp]; simp
        have HV := hid (show wpV z n i p = [] by unfold wpV; rw [if_neg (by rw [hc]; decide)])
        rw [HV.out, hc]
        clear hok hc
        go_enter Try.func21, Try.ntmps21
        go_wp2_with (first | (go_at_call 18; refine (iAreLineJobs_any _ n z _ (h.ext (by repeat (first | exact Ext.refl _ | assumption | refine Ext.alloc ?_ _ | refine Ext.drew ?_ | refine Ext.drewN ?_ _ | refine Ext.setCell ?_ (by first | exact Nat.le_refl _ | (simp; done) | (dsimp only; omega) | (simp only [World.size_alloc, World.size_setCell]; omega)) _ | refine Ext.trans ?_ (by assumption))))).mono ?_; rw [HOK.out]; rintro e w1 ⟨rfl, hb1⟩) | (go_at_call 57; refine (within_any _ _ _ _).mono ?_; rintro e w' ⟨rfl, rfl⟩))
        go_ret2
        exact ⟨_, rfl, World.ownsRow_nil _ _ _ _, (by repeat (first | exact Ext.refl _ | assumption | refine Ext.alloc ?_ _ | refine Ext.drew ?_ | refine Ext.drewN ?_ _ | refine Ext.setCell ?_ (by first | exact Nat.le_refl _ | (simp; done) | (dsimp only; omega) | (simp only [World.size_alloc, World.size_setCell]; omega)) _ | refine Ext.trans ?_ (by assumption)))⟩
    · have hi : inR i 0 ((n : Int) - 1) = false := by simpa using hi
      have hc : wpC z n i p = false := by unfold wpC; rw [hi]; simp
      have HV := hid (show wpV z n i p = [] by unfold wpV; rw [if_neg (by rw [hc]; decide)])
      rw [HV.out, hc]
      clear hok hc
      go_enter Try.func21, Try.ntmps21
      go_wp2_with (first | (go_at_call 18; refine (iAreLineJobs_any _ n z _ (h.ext (by repeat (first | exact Ext.refl _ | assumption | refine Ext.alloc ?_ _ | refine Ext.drew ?_ | refine Ext.drewN ?_ _ | refine Ext.setCell ?_ (by first | exact Nat.le_refl _ | (simp; done) | (dsimp only; omega) | (simp only [World.size_alloc, World.size_setCell]; omega)) _ | refine Ext.trans ?_ (by assumption))))).mono ?_; rw [HOK.out]; rintro e w1 ⟨rfl, hb1⟩) | (go_at_call 57; refine (within_any _ _ _ _).mono ?_; rintro e w' ⟨rfl, rfl⟩))
      go_ret2
      exact ⟨_, rfl, World.ownsRow_nil _ _ _ _, (by repeat (first | exact Ext.refl _ | assumption | refine Ext.alloc ?_ _ | refine Ext.drew ?_ | refine Ext.drewN ?_ _ | refine Ext.setCell ?_ (by first | exact Nat.le_refl _ | (simp; done) | (dsimp only; omega) | (simp only [World.size_alloc, World.size_setCell]; omega)) _ | refine Ext.trans ?_ (by assumption)))⟩
  · have hok : okJs z n = false := by simpa using hok
    have HOK := hid hok
    have hc : wpC z n i p = false := by unfold wpC; rw [hok]; simp
    have HV := hid (show wpV z n i p = [] by unfold wpV; rw [if_neg (by rw [hc]; decide)])
    rw [HV.out, hc]
    clear hok hc
    go_enter Try.func21, Try.ntmps21
    go_wp2_with (first | (go_at_call 18; refine (iAreLineJobs_any _ n z _ (h.ext (by repeat (first | exact Ext.refl _ | assumption | refine Ext.alloc ?_ _ | refine Ext.drew ?_ | refine Ext.drewN ?_ _ | refine Ext.setCell ?_ (by first | exact Nat.le_refl _ | (simp; done) | (dsimp only; omega) | (simp only [World.size_alloc, World.size_setCell]; omega)) _ | refine Ext.trans ?_ (by assumption))))).mono ?_; rw [HOK.out]; rintro e w1 ⟨rfl, hb1⟩) | (go_at_call 57; refine (within_any _ _ _ _).mono ?_; rintro e w' ⟨rfl, rfl⟩))
    go_ret2
    exact ⟨_, rfl, World.ownsRow_nil _ _ _ _, (by repeat (first | exact Ext.refl _ | assumption | refine Ext.alloc ?_ _ | refine Ext.drew ?_ | refine Ext.drewN ?_ _ | refine Ext.setCell ?_ (by first | exact Nat.le_refl _ | (simp; done) | (dsimp only; omega) | (simp only [World.size_alloc, World.size_setCell]; omega)) _ | refine Ext.trans ?_ (by assumption)))⟩


set_option maxHeartbeats 1200000 in
theorem iLeastPriority_any (v : Value) (n : Nat) (z : List Int) (i b : Int) (w : World) (h : IntRow .i64 3 w v n z) :
    Calls Try.prog 29 #[v, .int .i64 i, .int .i64 b] w fun e w' => e = .returned (.tuple #[.int .i64 (lpV z n i b), .bool (lpB z n i b)]) ∧ Ext w w' := by
  have hl := h.1
  have hwf := h.2.2.1
  obtain ⟨a, c, hv, hnc, hcm, _⟩ := h.2.2.2
  subst hv
  unfold maxLen at hcm
  by_cases hok : okJs z n = true
  · have HOK := hid hok
    by_cases hi : inR i 0 ((n : Int) - 1) = true
    · by_cases hp : inR b 0 700 = true
      · have hc : lpC z n i b = true := by unfold lpC; rw [hok, hi, hp]; rfl
        obtain ⟨i1, i2⟩ := inR_iff.1 hi
        have hn := okJs_n hok
        obtain ⟨q, rfl⟩ := Int.eq_ofNat_of_zero_le i1
        have HV := hid (show lpI z n (q : Int) b = idxOf (doneBy z n q b) 4 by unfold lpI; rw [if_pos hc]; rfl)
        clear hok hc
        go_enter Try.func29, Try.ntmps29
        go_wp2_with (first | (go_at_call 18; refine (iAreLineJobs_any _ n z _ (h.ext (by repeat (first | exact Ext.refl _ | assumption | refine Ext.alloc ?_ _ | refine Ext.drew ?_ | refine Ext.drewN ?_ _ | refine Ext.setCell ?_ (by first | exact Nat.le_refl _ | (simp; done) | (dsimp only; omega) | (simp only [World.size_alloc, World.size_setCell]; omega)) _ | refine Ext.trans ?_ (by assumption))))).mono ?_; rw [HOK.out]; rintro e w1 ⟨rfl, hb1⟩) | (go_at_call 57; refine (within_any _ _ _ _).mono ?_; rintro e w' ⟨rfl, rfl⟩))
        clear hi hp
        have hE1 : Ext w w1 := (by repeat (first | exact Ext.refl _ | assumption | refine Ext.alloc ?_ _ | refine Ext.drew ?_ | refine Ext.drewN ?_ _ | refine Ext.setCell ?_ (by first | exact Nat.le_refl _ | (simp; done) | (dsimp only; omega) | (simp only [World.size_alloc, World.size_setCell]; omega)) _ | refine Ext.trans ?_ (by assumption)))
        go_loopw [25] (fun i wr => ∃ (k : Nat), k ≤ 4 ∧ i = .int .i64 (k : Int) ∧ (∀ j, j < k → doneBy z n q b j = false) ∧ Ext w wr)
          (fun i _ => 4 - (intOf i).toNat)
        case atStart => exact ⟨0, by omega, rfl, fun j hj => absurd hj (by omega), hE1⟩
        case round =>
          clear hE1
          obtain ⟨k, hk, rfl, hall, hE⟩ := hrel
          have HA := hid hall
          clear hall
          by_cases hlt : k < 4
          · go_wp2_with (fail)
            refine (iWith_any _ n z q (k : Int) _ (h.ext hE) (by omega) hn).mono ?_
            rintro e w2 ⟨v', rfl, hr, hb2⟩
            have hwf2 := setP_wf (i := q) hwf (show (0 : Int) ≤ k by omega) (by omega)
            go_wp2_with (fail)
            refine (iFin_any _ n (setP z q (k : Int)) _ (row_ints hr (by unfold maxLen; omega) hwf2) (setP_ok hl HOK.out (by omega) (by omega) (by omega))).mono ?_
            rintro e w3 ⟨g, rfl, hr3, hb3⟩
            have hg := hr3.lt g rfl
            obtain ⟨x, hx⟩ : ∃ x, x = (finJ (setP z q (k : Int)) n).getD q 0 := ⟨_, rfl⟩
            have sx : w3.cell? ⟨g, q, none⟩ = some (.int .i64 x) := by rw [hr3.cellAt q (by omega), map_getD (by rw [finJ_len]; omega), hx]
            have HX := hid hx
            clear hx hwf2
            by_cases hxb : x ≤ b
            · have hd : doneBy z n q b k = true := by unfold doneBy; rw [← HX.out]; simpa using hxb
              have HD := hid (lp_some (z := z) (n := n) (i := (q : Int)) (b := b) (by rw [HV.out, idxOf_some hlt hd HA.out]))
              clear hd
              go_wp2_with (fail)
              go_ret2
              exact ⟨by rw [HD.out.1, HD.out.2] <;> rfl, (by repeat (first | exact Ext.refl _ | assumption | refine Ext.alloc ?_ _ | refine Ext.drew ?_ | refine Ext.drewN ?_ _ | refine Ext.setCell ?_ (by first | exact Nat.le_refl _ | (simp; done) | (dsimp only; omega) | (simp only [World.size_alloc, World.size_setCell]; omega)) _ | refine Ext.trans ?_ (by assumption)))⟩
            · have hd : doneBy z n q b k = false := by unfold doneBy; rw [← HX.out]; simpa using hxb
              have HD := hid hd
              clear hd
              go_wp2_with (fail)
              go_roundw
              case rel =>
                refine ⟨k + 1, by omega, by go_num, fun j hj => ?_, (by repeat (first | exact Ext.refl _ | assumption | refine Ext.alloc ?_ _ | refine Ext.drew ?_ | refine Ext.drewN ?_ _ | refine Ext.setCell ?_ (by first | exact Nat.le_refl _ | (simp; done) | (dsimp only; omega) | (simp only [World.size_alloc, World.size_setCell]; omega)) _ | refine Ext.trans ?_ (by assumption)))⟩
                by_cases e : j = k
                · subst e
                  exact HD.out
                · exact HA.out j (by omega)
              case measure => simp [intOf]; omega
          · obtain rfl : k = 4 := by omega
            have HD := hid (lp_none (z := z) (n := n) (i := (q : Int)) (b := b) (by rw [HV.out, idxOf_none HA.out]))
            go_wp2_with (fail)
            go_ret2
            exact ⟨by rw [HD.out.1, HD.out.2] <;> rfl, hE⟩
      · have hp : inR b 0 700 = false := by simpa using hp
        have HD := hid (lp_none (z := z) (n := n) (i := i) (b := b) (by unfold lpI lpC; rw [hp]; simp))
        rw [HD.out.1, HD.out.2]
        clear hok
        go_enter Try.func29, Try.ntmps29
        go_wp2_with (first | (go_at_call 18; refine (iAreLineJobs_any _ n z _ (h.ext (by repeat (first | exact Ext.refl _ | assumption | refine Ext.alloc ?_ _ | refine Ext.drew ?_ | refine Ext.drewN ?_ _ | refine Ext.setCell ?_ (by first | exact Nat.le_refl _ | (simp; done) | (dsimp only; omega) | (simp only [World.size_alloc, World.size_setCell]; omega)) _ | refine Ext.trans ?_ (by assumption))))).mono ?_; rw [HOK.out]; rintro e w1 ⟨rfl, hb1⟩) | (go_at_call 57; refine (within_any _ _ _ _).mono ?_; rintro e w' ⟨rfl, rfl⟩))
        go_ret2
        exact ⟨rfl, (by repeat (first | exact Ext.refl _ | assumption | refine Ext.alloc ?_ _ | refine Ext.drew ?_ | refine Ext.drewN ?_ _ | refine Ext.setCell ?_ (by first | exact Nat.le_refl _ | (simp; done) | (dsimp only; omega) | (simp only [World.size_alloc, World.size_setCell]; omega)) _ | refine Ext.trans ?_ (by assumption)))⟩
    · have hi : inR i 0 ((n : Int) - 1) = false := by simpa using hi
      have HD := hid (lp_none (z := z) (n := n) (i := i) (b := b) (by unfold lpI lpC; rw [hi]; simp))
      rw [HD.out.1, HD.out.2]
      clear hok
      go_enter Try.func29, Try.ntmps29
      go_wp2_with (first | (go_at_call 18; refine (iAreLineJobs_any _ n z _ (h.ext (by repeat (first | exact Ext.refl _ | assumption | refine Ext.alloc ?_ _ | refine Ext.drew ?_ | refine Ext.drewN ?_ _ | refine Ext.setCell ?_ (by first | exact Nat.le_refl _ | (simp; done) | (dsimp only; omega) | (simp only [World.size_alloc, World.size_setCell]; omega)) _ | refine Ext.trans ?_ (by assumption))))).mono ?_; rw [HOK.out]; rintro e w1 ⟨rfl, hb1⟩) | (go_at_call 57; refine (within_any _ _ _ _).mono ?_; rintro e w' ⟨rfl, rfl⟩))
      go_ret2
      exact ⟨rfl, (by repeat (first | exact Ext.refl _ | assumption | refine Ext.alloc ?_ _ | refine Ext.drew ?_ | refine Ext.drewN ?_ _ | refine Ext.setCell ?_ (by first | exact Nat.le_refl _ | (simp; done) | (dsimp only; omega) | (simp only [World.size_alloc, World.size_setCell]; omega)) _ | refine Ext.trans ?_ (by assumption)))⟩
  · have hok : okJs z n = false := by simpa using hok
    have HOK := hid hok
    have HD := hid (lp_none (z := z) (n := n) (i := i) (b := b) (by unfold lpI lpC; rw [hok]; simp))
    rw [HD.out.1, HD.out.2]
    clear hok
    go_enter Try.func29, Try.ntmps29
    go_wp2_with (first | (go_at_call 18; refine (iAreLineJobs_any _ n z _ (h.ext (by repeat (first | exact Ext.refl _ | assumption | refine Ext.alloc ?_ _ | refine Ext.drew ?_ | refine Ext.drewN ?_ _ | refine Ext.setCell ?_ (by first | exact Nat.le_refl _ | (simp; done) | (dsimp only; omega) | (simp only [World.size_alloc, World.size_setCell]; omega)) _ | refine Ext.trans ?_ (by assumption))))).mono ?_; rw [HOK.out]; rintro e w1 ⟨rfl, hb1⟩) | (go_at_call 57; refine (within_any _ _ _ _).mono ?_; rintro e w' ⟨rfl, rfl⟩))
    go_ret2
    exact ⟨rfl, (by repeat (first | exact Ext.refl _ | assumption | refine Ext.alloc ?_ _ | refine Ext.drew ?_ | refine Ext.drewN ?_ _ | refine Ext.setCell ?_ (by first | exact Nat.le_refl _ | (simp; done) | (dsimp only; omega) | (simp only [World.size_alloc, World.size_setCell]; omega)) _ | refine Ext.trans ?_ (by assumption)))⟩


set_option maxHeartbeats 2000000 in
theorem walkFnExactWithPriority (v0 : Value) (n0 : Nat) (z0 : List Int) (a1 : Int) (a2 : Int) (w : World) (r0 : IntRow .i64 3 w v0 n0 z0) (_ : (Lit.int .i64 a1).wf = true) (_ : (Lit.int .i64 a2).wf = true) :
    Calls Try.prog 4 #[v0, .int .i64 a1, .int .i64 a2] w fun e w' => e = .returned (.bool true) ∧ Ext w w' := by
  have hsz := szLineJobS_any v0 n0 z0 w 1048576 r0 (by omega) (by omega)
  by_cases hn : n0 ≤ 1048576
  · rw [if_pos (by omega)] at hsz
    have hwf := r0.2.2.1
    obtain ⟨L, hL⟩ : ∃ L, L = wpV z0 n0 a1 a2 := ⟨_, rfl⟩
    have hLw : ∀ x ∈ L, (Lit.int .i64 x).wf = true := by rw [hL]; exact wpV_wf hwf
    have hLl : L.length / 3 ≤ 16777216 := by rw [hL]; (have := wpV_len (z := z0) (n := n0) (i := a1) (p := a2) r0.1; omega)
    go_enter Try.func4, Try.ntmps4
    go_wp2_with (fail)
    refine hsz.mono ?_
    rintro e w' ⟨rfl, rfl⟩
    go_wp2_with (fail)
    refine (toLineJobS_any _ n0 z0 _ (r0.ext (by repeat (first | exact Ext.refl _ | assumption | refine Ext.alloc ?_ _ | refine Ext.drew ?_ | refine Ext.drewN ?_ _ | refine Ext.setCell ?_ (by first | exact Nat.le_refl _ | (simp; done) | (dsimp only; omega) | (simp only [World.size_alloc, World.size_setCell]; omega)) _ | refine Ext.trans ?_ (by assumption)))) hn).mono ?_
    rintro e w1 ⟨g1, rfl, hr1, hb1⟩
    go_wp2_with (fail)
    refine (sWithPriority_any _ n0 z0 a1 a2 _ (row_ints (row_ext hr1 (by repeat (first | exact Ext.refl _ | assumption | refine Ext.alloc ?_ _ | refine Ext.drew ?_ | refine Ext.drewN ?_ _ | refine Ext.setCell ?_ (by first | exact Nat.le_refl _ | (simp; done) | (dsimp only; omega) | (simp only [World.size_alloc, World.size_setCell]; omega)) _ | refine Ext.trans ?_ (by assumption)))) (by unfold maxLen; omega) hwf)).mono ?_
    rintro e w2 ⟨vw, rfl, hrw, hb2⟩
    rw [← hL] at hrw
    go_wp2_with (fail)
    refine (toLineJobS_any _ n0 z0 _ (r0.ext (by repeat (first | exact Ext.refl _ | assumption | refine Ext.alloc ?_ _ | refine Ext.drew ?_ | refine Ext.drewN ?_ _ | refine Ext.setCell ?_ (by first | exact Nat.le_refl _ | (simp; done) | (dsimp only; omega) | (simp only [World.size_alloc, World.size_setCell]; omega)) _ | refine Ext.trans ?_ (by assumption)))) hn).mono ?_
    rintro e w3 ⟨g3, rfl, hr3, hb3⟩
    go_wp2_with (fail)
    refine (iWithPriority_any _ n0 z0 a1 a2 _ (row_ints (row_ext hr3 (by repeat (first | exact Ext.refl _ | assumption | refine Ext.alloc ?_ _ | refine Ext.drew ?_ | refine Ext.drewN ?_ _ | refine Ext.setCell ?_ (by first | exact Nat.le_refl _ | (simp; done) | (dsimp only; omega) | (simp only [World.size_alloc, World.size_setCell]; omega)) _ | refine Ext.trans ?_ (by assumption)))) (by unfold maxLen; omega) hwf)).mono ?_
    rintro e w4 ⟨vg, rfl, hrg, hb4⟩
    rw [← hL] at hrg
    go_wp2_with (fail)
    refine (eqLineJobS_same _ _ (L.length / 3) L _ (row_ints (row_ext hrg (by repeat (first | exact Ext.refl _ | assumption | refine Ext.alloc ?_ _ | refine Ext.drew ?_ | refine Ext.drewN ?_ _ | refine Ext.setCell ?_ (by first | exact Nat.le_refl _ | (simp; done) | (dsimp only; omega) | (simp only [World.size_alloc, World.size_setCell]; omega)) _ | refine Ext.trans ?_ (by assumption)))) (by unfold maxLen; omega) hLw) (row_ints (row_ext hrw (by repeat (first | exact Ext.refl _ | assumption | refine Ext.alloc ?_ _ | refine Ext.drew ?_ | refine Ext.drewN ?_ _ | refine Ext.setCell ?_ (by first | exact Nat.le_refl _ | (simp; done) | (dsimp only; omega) | (simp only [World.size_alloc, World.size_setCell]; omega)) _ | refine Ext.trans ?_ (by assumption)))) (by unfold maxLen; omega) hLw)).mono ?_
    rintro e w5 ⟨rfl, hb5⟩
    go_wp2_with (fail)
    refine (toLineJobS_any _ n0 z0 _ (r0.ext (by repeat (first | exact Ext.refl _ | assumption | refine Ext.alloc ?_ _ | refine Ext.drew ?_ | refine Ext.drewN ?_ _ | refine Ext.setCell ?_ (by first | exact Nat.le_refl _ | (simp; done) | (dsimp only; omega) | (simp only [World.size_alloc, World.size_setCell]; omega)) _ | refine Ext.trans ?_ (by assumption)))) hn).mono ?_
    rintro e w6 ⟨g6, rfl, hr6, hb6⟩
    go_wp2_with (fail)
    refine (eqLineJobS_same _ _ n0 z0 _ (row_ints (row_ext hr3 (by repeat (first | exact Ext.refl _ | assumption | refine Ext.alloc ?_ _ | refine Ext.drew ?_ | refine Ext.drewN ?_ _ | refine Ext.setCell ?_ (by first | exact Nat.le_refl _ | (simp; done) | (dsimp only; omega) | (simp only [World.size_alloc, World.size_setCell]; omega)) _ | refine Ext.trans ?_ (by assumption)))) (by unfold maxLen; omega) hwf) (row_ints (row_ext hr6 (by repeat (first | exact Ext.refl _ | assumption | refine Ext.alloc ?_ _ | refine Ext.drew ?_ | refine Ext.drewN ?_ _ | refine Ext.setCell ?_ (by first | exact Nat.le_refl _ | (simp; done) | (dsimp only; omega) | (simp only [World.size_alloc, World.size_setCell]; omega)) _ | refine Ext.trans ?_ (by assumption)))) (by unfold maxLen; omega) hwf)).mono ?_
    rintro e w7 ⟨rfl, hb7⟩
    have hrw7 := row_ext hrw ((by repeat (first | exact Ext.refl _ | assumption | refine Ext.alloc ?_ _ | refine Ext.drew ?_ | refine Ext.drewN ?_ _ | refine Ext.setCell ?_ (by first | exact Nat.le_refl _ | (simp; done) | (dsimp only; omega) | (simp only [World.size_alloc, World.size_setCell]; omega)) _ | refine Ext.trans ?_ (by assumption))) : Ext w2 w7)
    have hrg7 := row_ext hrg ((by repeat (first | exact Ext.refl _ | assumption | refine Ext.alloc ?_ _ | refine Ext.drew ?_ | refine Ext.drewN ?_ _ | refine Ext.setCell ?_ (by first | exact Nat.le_refl _ | (simp; done) | (dsimp only; omega) | (simp only [World.size_alloc, World.size_setCell]; omega)) _ | refine Ext.trans ?_ (by assumption))) : Ext w4 w7)
    have hrx7 := row_ext hr3 ((by repeat (first | exact Ext.refl _ | assumption | refine Ext.alloc ?_ _ | refine Ext.drew ?_ | refine Ext.drewN ?_ _ | refine Ext.setCell ?_ (by first | exact Nat.le_refl _ | (simp; done) | (dsimp only; omega) | (simp only [World.size_alloc, World.size_setCell]; omega)) _ | refine Ext.trans ?_ (by assumption))) : Ext w3 w7)
    have hE7 : Ext w w7 := (by repeat (first | exact Ext.refl _ | assumption | refine Ext.alloc ?_ _ | refine Ext.drew ?_ | refine Ext.drewN ?_ _ | refine Ext.setCell ?_ (by first | exact Nat.le_refl _ | (simp; done) | (dsimp only; omega) | (simp only [World.size_alloc, World.size_setCell]; omega)) _ | refine Ext.trans ?_ (by assumption)))
    have hlw : ∀ k, vw.ownBlock = some k → k < w2.heap.size := fun k hk => (hrw.lt k hk).2
    have hz2 := (hE7.size)
    have hz4 : w.heap.size ≤ w2.heap.size := ((by repeat (first | exact Ext.refl _ | assumption | refine Ext.alloc ?_ _ | refine Ext.drew ?_ | refine Ext.drewN ?_ _ | refine Ext.setCell ?_ (by first | exact Nat.le_refl _ | (simp; done) | (dsimp only; omega) | (simp only [World.size_alloc, World.size_setCell]; omega)) _ | refine Ext.trans ?_ (by assumption))) : Ext w w2).size
    have hz5 : w2.heap.size ≤ w3.heap.size := hb3.size
    have hg3 : w2.heap.size ≤ g3 ∧ g3 < w3.heap.size := hr3.lt g3 rfl
    go_wp2_with (fail)
    refine (markLineJobS_any _ n0 _ w2.heap.size _ 1 hrx7 (by omega) (by omega) (by omega)).mono ?_
    rintro e w8 ⟨rfl, hrx, hm8⟩
    have hE8 : Ext w w8 := hE7.of_grownAt hm8 (fun k hk => by simp [Value.ownBlock] at hk; omega)
    have hrw8 := row_below (B := w2.heap.size) hrw7 hlw hm8 (fun k hk => by simp [Value.ownBlock] at hk; omega)
    have hrg8 := row_above hrg7 hm8 (fun k hk => by simp [Value.ownBlock] at hk; omega)
    clear hb1 hb2 hb3 hb4 hb5 hb6 hb7 hE7 hr1 hr3 hr6 hrx hrw hrg hrw7 hrg7 hrx7
    go_wp2_with (fail)
    refine (eqLineJobS_same _ _ (L.length / 3) L _ (row_ints (row_ext hrg8 (by repeat (first | exact Ext.refl _ | assumption | refine Ext.alloc ?_ _ | refine Ext.drew ?_ | refine Ext.drewN ?_ _ | refine Ext.setCell ?_ (by first | exact Nat.le_refl _ | (simp; done) | (dsimp only; omega) | (simp only [World.size_alloc, World.size_setCell]; omega)) _ | refine Ext.trans ?_ (by assumption)))) (by unfold maxLen; omega) hLw) (row_ints (row_ext hrw8 (by repeat (first | exact Ext.refl _ | assumption | refine Ext.alloc ?_ _ | refine Ext.drew ?_ | refine Ext.drewN ?_ _ | refine Ext.setCell ?_ (by first | exact Nat.le_refl _ | (simp; done) | (dsimp only; omega) | (simp only [World.size_alloc, World.size_setCell]; omega)) _ | refine Ext.trans ?_ (by assumption)))) (by unfold maxLen; omega) hLw)).mono ?_
    rintro e w9 ⟨rfl, hb9⟩
    have hrg9 := row_ext hrg8 hb9
    have hrw9 := row_ext hrw8 hb9
    have hE9 : Ext w w9 := hE8.trans hb9
    have hlg : ∀ k, vg.ownBlock = some k → w3.heap.size ≤ k := fun k hk => (hrg9.lt k hk).1
    go_wp2_with (fail)
    refine (markLineJobS_any _ _ _ w3.heap.size _ 1 hrg9 (by omega) (by omega) (by omega)).mono ?_
    rintro e w10 ⟨rfl, hrm, hm10⟩
    have hE10 : Ext w w10 := hE9.of_grownAt hm10 (fun k hk => by have := hlg k hk; omega)
    have hrw10 := row_below (B := w2.heap.size) hrw9 hlw hm10 (fun k hk => by have := hlg k hk; omega)
    clear hb9 hE8 hE9 hrg8 hrw8 hrg9 hrw9
    go_wp2_with (fail)
    refine (heldLineJobS_same _ (L.length / 3) _ 1 (row_ints (row_ext hrm (by repeat (first | exact Ext.refl _ | assumption | refine Ext.alloc ?_ _ | refine Ext.drew ?_ | refine Ext.drewN ?_ _ | refine Ext.setCell ?_ (by first | exact Nat.le_refl _ | (simp; done) | (dsimp only; omega) | (simp only [World.size_alloc, World.size_setCell]; omega)) _ | refine Ext.trans ?_ (by assumption)))) (by unfold maxLen; omega) (marks_wf (by omega) (by omega))) (by omega) (by omega) (by omega)).mono ?_
    rintro e w11 ⟨rfl, hb11⟩
    go_wp2_with (fail)
    refine (toLineJobS_any _ n0 z0 _ (r0.ext (by repeat (first | exact Ext.refl _ | assumption | refine Ext.alloc ?_ _ | refine Ext.drew ?_ | refine Ext.drewN ?_ _ | refine Ext.setCell ?_ (by first | exact Nat.le_refl _ | (simp; done) | (dsimp only; omega) | (simp only [World.size_alloc, World.size_setCell]; omega)) _ | refine Ext.trans ?_ (by assumption)))) hn).mono ?_
    rintro e w12 ⟨g12, rfl, hr12, hb12⟩
    go_wp2_with (fail)
    refine (iWithPriority_any _ n0 z0 a1 a2 _ (row_ints (row_ext hr12 (by repeat (first | exact Ext.refl _ | assumption | refine Ext.alloc ?_ _ | refine Ext.drew ?_ | refine Ext.drewN ?_ _ | refine Ext.setCell ?_ (by first | exact Nat.le_refl _ | (simp; done) | (dsimp only; omega) | (simp only [World.size_alloc, World.size_setCell]; omega)) _ | refine Ext.trans ?_ (by assumption)))) (by unfold maxLen; omega) hwf)).mono ?_
    rintro e w13 ⟨vh, rfl, hrh, hb13⟩
    rw [← hL] at hrh
    go_wp2_with (fail)
    refine (eqLineJobS_same _ _ (L.length / 3) L _ (row_ints (row_ext hrh (by repeat (first | exact Ext.refl _ | assumption | refine Ext.alloc ?_ _ | refine Ext.drew ?_ | refine Ext.drewN ?_ _ | refine Ext.setCell ?_ (by first | exact Nat.le_refl _ | (simp; done) | (dsimp only; omega) | (simp only [World.size_alloc, World.size_setCell]; omega)) _ | refine Ext.trans ?_ (by assumption)))) (by unfold maxLen; omega) hLw) (row_ints (row_ext hrw10 (by repeat (first | exact Ext.refl _ | assumption | refine Ext.alloc ?_ _ | refine Ext.drew ?_ | refine Ext.drewN ?_ _ | refine Ext.setCell ?_ (by first | exact Nat.le_refl _ | (simp; done) | (dsimp only; omega) | (simp only [World.size_alloc, World.size_setCell]; omega)) _ | refine Ext.trans ?_ (by assumption)))) (by unfold maxLen; omega) hLw)).mono ?_
    rintro e w14 ⟨rfl, hb14⟩
    go_wp2_with (fail)
    refine (heldLineJobS_same _ (L.length / 3) _ 1 (row_ints (row_ext hrm (by repeat (first | exact Ext.refl _ | assumption | refine Ext.alloc ?_ _ | refine Ext.drew ?_ | refine Ext.drewN ?_ _ | refine Ext.setCell ?_ (by first | exact Nat.le_refl _ | (simp; done) | (dsimp only; omega) | (simp only [World.size_alloc, World.size_setCell]; omega)) _ | refine Ext.trans ?_ (by assumption)))) (by unfold maxLen; omega) (marks_wf (by omega) (by omega))) (by omega) (by omega) (by omega)).mono ?_
    rintro e w15 ⟨rfl, hb15⟩
    go_wp2_with (fail)
    go_ret
    exact ⟨rfl, (by repeat (first | exact Ext.refl _ | assumption | refine Ext.alloc ?_ _ | refine Ext.drew ?_ | refine Ext.drewN ?_ _ | refine Ext.setCell ?_ (by first | exact Nat.le_refl _ | (simp; done) | (dsimp only; omega) | (simp only [World.size_alloc, World.size_setCell]; omega)) _ | refine Ext.trans ?_ (by assumption)))⟩
  · rw [if_neg (by omega)] at hsz
    go_enter Try.func4, Try.ntmps4
    go_wp2_with (fail)
    refine hsz.mono ?_
    rintro e w' ⟨rfl, rfl⟩
    go_wp2_with (fail)
    go_ret
    exact ⟨rfl, Ext.refl _⟩


set_option maxHeartbeats 2000000 in
theorem walkFnExactLeastPriority (v0 : Value) (n0 : Nat) (z0 : List Int) (a1 : Int) (a2 : Int) (w : World) (r0 : IntRow .i64 3 w v0 n0 z0) (_ : (Lit.int .i64 a1).wf = true) (_ : (Lit.int .i64 a2).wf = true) :
    Calls Try.prog 7 #[v0, .int .i64 a1, .int .i64 a2] w fun e w' => e = .returned (.bool true) ∧ Ext w w' := by
  have hsz := szLineJobS_any v0 n0 z0 w 1048576 r0 (by omega) (by omega)
  by_cases hn : n0 ≤ 1048576
  · rw [if_pos (by omega)] at hsz
    have hwf := r0.2.2.1
    go_enter Try.func7, Try.ntmps7
    go_wp2_with (fail)
    refine hsz.mono ?_
    rintro e w' ⟨rfl, rfl⟩
    go_wp2_with (fail)
    refine (toLineJobS_any _ n0 z0 _ (r0.ext (by repeat (first | exact Ext.refl _ | assumption | refine Ext.alloc ?_ _ | refine Ext.drew ?_ | refine Ext.drewN ?_ _ | refine Ext.setCell ?_ (by first | exact Nat.le_refl _ | (simp; done) | (dsimp only; omega) | (simp only [World.size_alloc, World.size_setCell]; omega)) _ | refine Ext.trans ?_ (by assumption)))) hn).mono ?_
    rintro e w1 ⟨g1, rfl, hr1, hb1⟩
    go_wp2_with (fail)
    refine (sLeastPriority_any _ n0 z0 a1 a2 _ (row_ints (row_ext hr1 (by repeat (first | exact Ext.refl _ | assumption | refine Ext.alloc ?_ _ | refine Ext.drew ?_ | refine Ext.drewN ?_ _ | refine Ext.setCell ?_ (by first | exact Nat.le_refl _ | (simp; done) | (dsimp only; omega) | (simp only [World.size_alloc, World.size_setCell]; omega)) _ | refine Ext.trans ?_ (by assumption)))) (by unfold maxLen; omega) hwf)).mono ?_
    rintro e w2 ⟨rfl, hb2⟩
    go_wp2_with (fail)
    refine (toLineJobS_any _ n0 z0 _ (r0.ext (by repeat (first | exact Ext.refl _ | assumption | refine Ext.alloc ?_ _ | refine Ext.drew ?_ | refine Ext.drewN ?_ _ | refine Ext.setCell ?_ (by first | exact Nat.le_refl _ | (simp; done) | (dsimp only; omega) | (simp only [World.size_alloc, World.size_setCell]; omega)) _ | refine Ext.trans ?_ (by assumption)))) hn).mono ?_
    rintro e w3 ⟨g3, rfl, hr3, hb3⟩
    go_wp2_with (fail)
    refine (iLeastPriority_any _ n0 z0 a1 a2 _ (row_ints (row_ext hr3 (by repeat (first | exact Ext.refl _ | assumption | refine Ext.alloc ?_ _ | refine Ext.drew ?_ | refine Ext.drewN ?_ _ | refine Ext.setCell ?_ (by first | exact Nat.le_refl _ | (simp; done) | (dsimp only; omega) | (simp only [World.size_alloc, World.size_setCell]; omega)) _ | refine Ext.trans ?_ (by assumption)))) (by unfold maxLen; omega) hwf)).mono ?_
    rintro e w4 ⟨rfl, hb4⟩
    go_wp2_with (fail)
    refine (toLineJobS_any _ n0 z0 _ (r0.ext (by repeat (first | exact Ext.refl _ | assumption | refine Ext.alloc ?_ _ | refine Ext.drew ?_ | refine Ext.drewN ?_ _ | refine Ext.setCell ?_ (by first | exact Nat.le_refl _ | (simp; done) | (dsimp only; omega) | (simp only [World.size_alloc, World.size_setCell]; omega)) _ | refine Ext.trans ?_ (by assumption)))) hn).mono ?_
    rintro e w5 ⟨g5, rfl, hr5, hb5⟩
    go_wp2_with (fail)
    refine (eqLineJobS_same _ _ n0 z0 _ (row_ints (row_ext hr3 (by repeat (first | exact Ext.refl _ | assumption | refine Ext.alloc ?_ _ | refine Ext.drew ?_ | refine Ext.drewN ?_ _ | refine Ext.setCell ?_ (by first | exact Nat.le_refl _ | (simp; done) | (dsimp only; omega) | (simp only [World.size_alloc, World.size_setCell]; omega)) _ | refine Ext.trans ?_ (by assumption)))) (by unfold maxLen; omega) hwf) (row_ints (row_ext hr5 (by repeat (first | exact Ext.refl _ | assumption | refine Ext.alloc ?_ _ | refine Ext.drew ?_ | refine Ext.drewN ?_ _ | refine Ext.setCell ?_ (by first | exact Nat.le_refl _ | (simp; done) | (dsimp only; omega) | (simp only [World.size_alloc, World.size_setCell]; omega)) _ | refine Ext.trans ?_ (by assumption)))) (by unfold maxLen; omega) hwf)).mono ?_
    rintro e w6 ⟨rfl, hb6⟩
    go_wp2_with (fail)
    go_ret
    exact ⟨rfl, (by repeat (first | exact Ext.refl _ | assumption | refine Ext.alloc ?_ _ | refine Ext.drew ?_ | refine Ext.drewN ?_ _ | refine Ext.setCell ?_ (by first | exact Nat.le_refl _ | (simp; done) | (dsimp only; omega) | (simp only [World.size_alloc, World.size_setCell]; omega)) _ | refine Ext.trans ?_ (by assumption)))⟩
  · rw [if_neg (by omega)] at hsz
    go_enter Try.func7, Try.ntmps7
    go_wp2_with (fail)
    refine hsz.mono ?_
    rintro e w' ⟨rfl, rfl⟩
    go_wp2_with (fail)
    go_ret
    exact ⟨rfl, Ext.refl _⟩

end Go.Proofs.Ytabafhmeefeioaa