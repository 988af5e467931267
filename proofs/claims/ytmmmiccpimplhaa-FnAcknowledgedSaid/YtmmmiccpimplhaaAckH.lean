/- The chapter of acknowledgements: BestWindow. No condition. -/
import Derived.Test.YtmmmiccpimplhaaAckG
namespace Go.Proofs.Ytmmmiccpimplhaa
open Go.RowKit
set_option linter.unusedSimpArgs false
set_option linter.unusedVariables false


/-! behind the script's end every round that is not yet full adds a known part: after the script and nine more rounds all is known -/
theorem bitsL_len_mono {a b : Nat} : ∀ {n}, (∀ j, j < n → a.testBit j = true → b.testBit j = true) → (bitsL a n).length ≤ (bitsL b n).length
  | 0, _ => by simp [bitsL]
  | n + 1, h => by
    have ih := bitsL_len_mono (n := n) fun j hj => h j (by omega)
    rw [bitsL, bitsL]
    by_cases c : a.testBit n = true
    · rw [if_pos c, if_pos (h n (by omega) c)]; simp; omega
    · rw [if_neg c]; split
      · simp; omega
      · exact ih
theorem bitsL_len_lt {a b p : Nat} (hp2 : b.testBit p = true) (hp3 : a.testBit p = false) : ∀ {n}, p < n → (∀ j, j < n → a.testBit j = true → b.testBit j = true) → (bitsL a n).length < (bitsL b n).length
  | 0, h0, _ => absurd h0 (by omega)
  | n + 1, h0, h => by
    rw [bitsL, bitsL]
    by_cases e : p = n
    · subst e
      rw [if_neg (by rw [hp3]; decide), if_pos hp2]
      have := bitsL_len_mono (n := p) fun j hj => h j (by omega)
      simp; omega
    · have ih := bitsL_len_lt hp2 hp3 (n := n) (by omega) fun j hj => h j (by omega)
      by_cases c : a.testBit n = true
      · rw [if_pos c, if_pos (h n (by omega) c)]; simp; omega
      · rw [if_neg c]; split
        · simp; omega
        · exact ih
theorem rdS_mono (A K l w : Nat) (p j : Nat) (h : (rdS A K l w p).N.testBit j = true) : ∀ d, (rdS A K l w (p + d)).N.testBit j = true
  | 0 => h
  | d + 1 => by
    have ih := rdS_mono A K l w p j h d
    rw [show p + (d + 1) = (p + d) + 1 by omega, rdS]
    split
    · split
      · exact ih
      · split
        · exact ih
        · simp [testBit_or_two, ih]
    · exact ih
/-- nothing lost: the first part not known arrives -/
theorem rdS_first {A K w p n : Nat} (hw : 1 ≤ w) (hp : p < n) (hK : K.testBit p = false) (hb : ∀ j, j < p → K.testBit j = true) : (rdS A K 0 w n).N.testBit p = true := by
  have h0 : ∀ j, j ≤ p → rdS A K 0 w j = ⟨0, A, 0⟩ := by
    intro j
    induction j with
    | zero => intro _; rfl
    | succ j ih =>
      intro hj
      rw [rdS, ih (by omega)]
      simp only
      rw [if_pos (by omega), if_pos (hb j (by omega))]
  have h1 : (rdS A K 0 w (p + 1)).N.testBit p = true := by
    rw [rdS, h0 p (Nat.le_refl _)]
    simp only
    rw [if_pos (by omega), if_neg (by rw [hK]; decide), if_neg (by simp)]
    simp [testBit_or_two]
  have := rdS_mono A K 0 w (p + 1) p h1 (n - (p + 1))
  rw [show p + 1 + (n - (p + 1)) = n by omega] at this
  exact this
theorem akS_sub (n w : Nat) (l : Nat → Nat) : ∀ k j, (akS n w l k).K.testBit j = true → (akS n w l k).A.testBit j = true
  | 0, j, h => by simp [akS] at h
  | k + 1, j, h => by
    have ih := akS_sub n w l k j
    rw [akS] at h ⊢
    simp only at h ⊢
    by_cases c : (akS n w l k).K = 2 ^ n - 1
    · rw [if_pos c] at h ⊢; exact ih h
    · rw [if_neg c] at h ⊢
      simp only at h ⊢
      split at h
      · exact rdS_keep _ _ _ _ _ _ (ih h)
      · exact h
theorem first_free {K : Nat} : ∀ n, (∀ j, j < n → K.testBit j = true) ∨ ∃ p, p < n ∧ K.testBit p = false ∧ ∀ j, j < p → K.testBit j = true
  | 0 => .inl fun j hj => absurd hj (by omega)
  | n + 1 => by
    rcases first_free (K := K) n with h | ⟨p, h1, h2, h3⟩
    · cases c : K.testBit n with
      | true =>
        refine .inl fun j hj => ?_
        by_cases e : j = n
        · subst e; exact c
        · exact h j (by omega)
      | false => exact .inr ⟨n, by omega, c, h⟩
    · exact .inr ⟨p, by omega, h2, h3⟩
theorem full_of_all {a n : Nat} (ha : a < 2 ^ n) (h : ∀ j, j < n → a.testBit j = true) : a = 2 ^ n - 1 := by
  apply Nat.eq_of_testBit_eq
  intro j
  rw [Nat.testBit_two_pow_sub_one]
  by_cases hj : j < n
  · rw [h j hj, decide_eq_true hj]
  · rw [decide_eq_false hj, ← Bool.not_eq_true]
    intro c; exact hj (bits_lt ha c)
theorem akS_grows {n w m : Nat} {l : Nat → Nat} (hw : 1 ≤ w) (hl : ∀ r, m ≤ r → l r = 0) : ∀ d, (akS n w l (m + d)).K = 2 ^ n - 1 ∨ d ≤ (bitsL (akS n w l (m + d)).K n).length
  | 0 => .inr (Nat.zero_le _)
  | d + 1 => by
    rcases akS_grows hw hl d with h | h
    · left
      have := akS_stay h 1
      rw [show m + (d + 1) = m + d + 1 by omega, this]
      exact h
    · obtain ⟨b1, b2, b3, _, _, b6⟩ := akS_bd n w l (m + d)
      by_cases c : (akS n w l (m + d)).K = 2 ^ n - 1
      · left
        have := akS_stay c 1
        rw [show m + (d + 1) = m + d + 1 by omega, this]
        exact c
      · right
        have hr : (akS n w l (m + d)).r = m + d := b6.resolve_right c
        have hz : l (akS n w l (m + d)).r = 0 := hl _ (by omega)
        have hs := akS_sub n w l (m + d)
        rw [show m + (d + 1) = m + d + 1 by omega, akS]
        simp only
        rw [if_neg c, hz]
        simp only [Nat.zero_testBit, Bool.false_eq_true, if_false]
        rcases first_free (K := (akS n w l (m + d)).K) n with hf | ⟨p, hp1, hp2, hp3⟩
        · exact absurd (full_of_all b3 hf) c
        · have := bitsL_len_lt (a := (akS n w l (m + d)).K) (b := (rdS (akS n w l (m + d)).A (akS n w l (m + d)).K 0 w n).N) (rdS_first hw hp1 hp2 hp3) hp2 hp1 (fun j _ hj => rdS_keep _ _ _ _ _ _ (hs j hj))
          omega
/-- so a run of more rounds ends as the run of 39 does, a script of at most 30 rounds given -/
theorem akS_long {n w m : Nat} {l : Nat → Nat} (hw : 1 ≤ w) (hn : n ≤ 9) (hm : m ≤ 30) (hl : ∀ r, m ≤ r → l r = 0) (d : Nat) : akS n w l (39 + d) = akS n w l 39 := by
  apply akS_stay
  obtain ⟨_, _, b3, _, _, _⟩ := akS_bd n w l 39
  rcases akS_grows hw hl (39 - m) with h | h
  · rw [show m + (39 - m) = 39 by omega] at h; exact h
  · rw [show m + (39 - m) = 39 by omega] at h
    have := bitsL_len_le (akS n w l 39).K n
    exact (bitsL_full b3).1 (by omega)


theorem lfZ_far {z : List Int} {n : Nat} : ∀ r, n ≤ r → lfZ z n r = 0 := fun r hr => by unfold lfZ; rw [if_neg (by omega)]
def bwS (N : Nat) (z : List Int) (n : Nat) : Nat → Nat × Ak
  | 0 => (1, akS N 1 (lfZ z n) 39)
  | j + 1 =>
    let p := bwS N z n j
    let x := akS N (j + 2) (lfZ z n) 39
    if x.r < p.2.r ∨ (x.r = p.2.r ∧ x.s < p.2.s) then (j + 2, x) else p
def bwB (N : Int) (z : List Int) (n : Nat) : Int := if goodB N 1 z n = true then ((bwS N.toNat z n 8).1 : Int) else 0
def bwR (N : Int) (z : List Int) (n : Nat) : Int := if goodB N 1 z n = true then ((bwS N.toNat z n 8).2.r : Int) else 0
theorem bwS_zero (N : Nat) (z : List Int) (n : Nat) : bwS N z n 0 = (1, akS N 1 (lfZ z n) 39) := by rw [bwS]
theorem bwS_succ (N : Nat) (z : List Int) (n j : Nat) : bwS N z n (j + 1) = if (akS N (j + 2) (lfZ z n) 39).r < (bwS N z n j).2.r ∨ ((akS N (j + 2) (lfZ z n) 39).r = (bwS N z n j).2.r ∧ (akS N (j + 2) (lfZ z n) 39).s < (bwS N z n j).2.s) then (j + 2, akS N (j + 2) (lfZ z n) 39) else bwS N z n j := by rw [bwS]
theorem askB_zero (N : Int) (z : List Int) (n : Nat) : askB N 1 z n 0 = goodB N 1 z n := by unfold askB; simp [inR]
theorem goodB_nat {N : Int} {z : List Int} {n : Nat} (h : goodB N 1 z n = true) : ∃ a : Nat, N = a ∧ 1 ≤ a ∧ a ≤ 9 ∧ scB z n = true := by
  unfold goodB at h
  rw [Bool.and_eq_true, Bool.and_eq_true, inR_iff] at h
  obtain ⟨⟨h1, h2⟩, h3⟩ := h
  exact ⟨N.toNat, by omega, by omega, by omega, h3⟩

set_option maxRecDepth 100000 in
set_option maxHeartbeats 800000 in
theorem akAll_any (N W : Nat) (v : Value) (n : Nat) (z : List Int) (w : World) (h : IntRow .i64 1 w v n z) (hs : scB z n = true) (hN : 1 ≤ N) (hN2 : N ≤ 9) (hW : 1 ≤ W) (hW2 : W ≤ 9) :
    Calls Try.prog 43 #[.int .i64 (N : Int), .int .i64 (W : Int), v] w fun e w' => ∃ g, e = .returned (.pointer (some ⟨g, 0, none⟩)) ∧ w.heap.size ≤ g ∧ StA w' g N (akS N W (lfZ z n) 39) ∧ Ext w w' := by
  have hh := h
  obtain ⟨hl, hm, hwf, a, c, rfl, hnc, hcm, hcell⟩ := h
  clear hwf hcell
  go_enter Try.func43, Try.ntmps43
  go_wp2_with (fail)
  refine (akRun_any N W 39 _ n z _ hh hs hN hN2 hW hW2 (by omega)).mono ?_
  rintro e w1 ⟨g, rfl, hg, hS, hx⟩
  go_wp2_with (fail)
  go_ret
  exact ⟨g, rfl, hg, hS, hx⟩

theorem StA_ext {w w' : World} {g N : Nat} {x : Ak} (h : StA w g N x) (e : Ext w w') : StA w' g N x := by
  obtain ⟨va, vk, h1, h2, h3⟩ := h
  exact ⟨va, vk, row_ext h1 e, row_ext h2 e, row_ext h3 e⟩

theorem bwS_fst (N : Nat) (z : List Int) (n : Nat) : ∀ j, (bwS N z n j).1 ≤ j + 1 ∧ (bwS N z n j).2.r ≤ 39 ∧ (bwS N z n j).2.s ≤ N * 39
  | 0 => by
    have := akS_bd N 1 (lfZ z n) 39
    exact ⟨by simp [bwS], this.1, this.2.2.2.1⟩
  | j + 1 => by
    have ih := bwS_fst N z n j
    have := akS_bd N (j + 2) (lfZ z n) 39
    rw [bwS]
    try simp only
    split
    · exact ⟨Nat.le_refl _, this.1, this.2.2.2.1⟩
    · exact ⟨by omega, ih.2⟩

set_option maxRecDepth 100000 in
set_option maxHeartbeats 4000000 in
theorem sBestWindow_any (N : Int) (v : Value) (n : Nat) (z : List Int) (w : World) (h : IntRow .i64 1 w v n z) :
    Calls Try.prog 14 #[.int .i64 N, v] w fun e w' => e = .returned (.tuple #[.int .i64 (bwB N z n), .int .i64 (bwR N z n), .bool (goodB N 1 z n)]) ∧ Ext w w' := by
  unfold bwB bwR
  have hh := h
  obtain ⟨hl, hm, hwf, a, c, rfl, hnc, hcm, hcell⟩ := h
  clear hwf hcell
  cases hask : goodB N 1 z n with
  | false =>
    have HA := hid hask
    clear hask
    rw [if_neg (by simp), if_neg (by simp)]
    go_enter Try.func14, Try.ntmps14
    go_wp2_with (go_at_call 42; refine (akGood_any _ _ _ n z _ hh).mono ?_; rw [HA.out]; rintro e w' ⟨rfl, rfl⟩)
    go_ret3
    exact ⟨rfl, Ext.refl _⟩
  | true =>
    obtain ⟨N, rfl, h1, h2, h6⟩ := goodB_nat hask
    rw [if_pos rfl, if_pos rfl, Int.toNat_natCast]
    obtain ⟨bq, hbq⟩ : ∃ x : Nat, x = (bwS N z n 8).1 := ⟨_, rfl⟩
    obtain ⟨rq, hrq⟩ : ∃ x : Nat, x = (bwS N z n 8).2.r := ⟨_, rfl⟩
    rw [← hbq, ← hrq]
    have HBQ := hid hbq
    have HRQ := hid hrq
    have HA := hid hask
    clear hask hbq hrq
    go_enter Try.func14, Try.ntmps14
    go_wp2_with (go_at_call 42; refine (akGood_any _ _ _ n z _ hh).mono ?_; rw [HA.out]; rintro e w' ⟨rfl, rfl⟩)
    have hc1 := akAll_any N 1 _ n z w hh h6 h1 h2 (Nat.le_refl _) (by omega)
    rw [show ((1 : Nat) : Int) = 1 from rfl] at hc1
    with_reducible refine hc1.mono ?_
    clear hc1
    rintro e w1 ⟨g1, rfl, hg1, hS1, hx1⟩
    obtain ⟨X0, hX0⟩ : ∃ X, X = akS N 1 (lfZ z n) 39 := ⟨_, rfl⟩
    rw [← hX0] at hS1
    have hz0 : bwS N z n 0 = (1, X0) := by rw [bwS_zero, hX0]
    have HZ0 := hid hz0
    clear hX0 hz0
    go_wp2_with (fail)
    go_loopw [7, 8, 9, 10] (fun q7 q8 q9 q10 wr => ∃ (j g : Nat), j ≤ 8 ∧ q7 = .int .i64 ((bwS N z n j).1 : Int) ∧ q8 = .pointer (some ⟨g, 0, none⟩) ∧ q9 = .int .i64 ((j : Int) + 2) ∧ StA wr g N (bwS N z n j).2 ∧ Ext w wr)
      (fun _ _ q9 _ _ => 10 - (intOf q9).toNat)
    case atStart => exact ⟨0, g1, Nat.zero_le _, by rw [HZ0.out]; rfl, rfl, rfl, by rw [HZ0.out]; exact hS1, hx1⟩
    case round =>
      clear hS1 hx1 hg1 HZ0
      obtain ⟨j, g, hj, rfl, rfl, rfl, hS, hX⟩ := hrel
      have hst : bwS N z n (j + 1) = if (akS N (j + 2) (lfZ z n) 39).r < (bwS N z n j).2.r ∨ ((akS N (j + 2) (lfZ z n) 39).r = (bwS N z n j).2.r ∧ (akS N (j + 2) (lfZ z n) 39).s < (bwS N z n j).2.s) then (j + 2, akS N (j + 2) (lfZ z n) 39) else bwS N z n j := bwS_succ N z n j
      have hbd := bwS_fst N z n j
      obtain ⟨by1, hb1⟩ : ∃ q, q = (bwS N z n j).1 := ⟨_, rfl⟩
      obtain ⟨Y, hY⟩ : ∃ Y, Y = (bwS N z n j).2 := ⟨_, rfl⟩
      have hpair : bwS N z n j = (by1, Y) := by rw [hb1, hY]
      rw [hpair] at hst hbd hS
      rw [← hb1]
      have HY := hid hpair.symm
      have HST := hid hst
      clear hY hb1 hst hpair
      obtain ⟨yr, yA, yK, ys, yd⟩ := Y
      simp only at hbd
      have b4 : N * 39 ≤ 9 * 39 := Nat.mul_le_mul h2 (Nat.le_refl _)
      obtain ⟨va, vk, hR, hAr, hKr⟩ := hS
      have HR := hid hR
      have HAR := hid hAr
      have HKR := hid hKr
      by_cases hlt : j < 8
      · clear hR hAr hKr
        have hWj := akS_bd N (j + 2) (lfZ z n) 39
        go_wp2_with (fail)
        rw [show ((j : Int) + 2) = ((j + 2 : Nat) : Int) by omega]
        refine (akAll_any N (j + 2) _ n z _ (hh.ext hX) h6 h1 h2 (by omega) (by omega)).mono ?_
        rintro e w2 ⟨g2, rfl, hg2, hS2, hx2⟩
        obtain ⟨X, hXe⟩ : ∃ X, X = akS N (j + 2) (lfZ z n) 39 := ⟨_, rfl⟩
        rw [← hXe] at hS2 hWj
        have HSX := hid (show bwS N z n (j + 1) = if X.r < yr ∨ (X.r = yr ∧ X.s < ys) then (j + 2, X) else (by1, ⟨yr, yA, yK, ys, yd⟩) by rw [HST.out, ← hXe])
        clear hXe
        obtain ⟨xr, xA, xK, xs, xd⟩ := X
        simp only at hWj
        obtain ⟨b5, _, _, b6, _, _⟩ := hWj
        have HS2 := hid hS2
        obtain ⟨va2, vk2, hR2, _, _⟩ := hS2
        have d2 : w2.cell? ⟨g2, 2, none⟩ = some (.int .i64 (xr : Int)) := hR2.cellAt 2 (by omega)
        have d3 : w2.cell? ⟨g2, 3, none⟩ = some (.int .i64 (xs : Int)) := hR2.cellAt 3 (by omega)
        have hRy := row_ext HR.out hx2
        have e2 : w2.cell? ⟨g, 2, none⟩ = some (.int .i64 (yr : Int)) := hRy.cellAt 2 (by omega)
        have e3 : w2.cell? ⟨g, 3, none⟩ = some (.int .i64 (ys : Int)) := hRy.cellAt 3 (by omega)
        have HSY := hid (show StA w2 g N ⟨yr, yA, yK, ys, yd⟩ from ⟨va, vk, hRy, row_ext HAR.out hx2, row_ext HKR.out hx2⟩)
        have hE2 : Ext w w2 := hX.trans hx2
        clear hRy hR2 hX hx2
        obtain ⟨_, hbr, hbs⟩ := hbd
        have hxs : xs ≤ 400 := by omega
        have hys : ys ≤ 400 := by omega
        clear b4 b6 hbs
        rw [show ((j + 2 : Nat) : Int) = (j : Int) + 2 by omega]
        by_cases c1 : xr < yr
        · have t1 : decide (xr < yr) = true := decide_eq_true c1
          have t2 : decide ((xr : Int) < (yr : Int)) = true := decide_eq_true (by omega)
          have HV := hid (show bwS N z n (j + 1) = (j + 2, ⟨xr, xA, xK, xs, xd⟩) by rw [HSX.out, if_pos (.inl c1)])
          go_wp2_with (fail)
          go_quiet (fail)
          go_wp2_with (fail)
          go_roundw
          case rel => exact ⟨j + 1, g2, by omega, by rw [HV.out]; exact congrArg (Value.int .i64) (by push_cast; rfl), rfl, by congr 1 <;> omega, by rw [HV.out]; exact StA_ext HS2.out ((Ext.refl _).drewN _), hE2.drewN _⟩
          case measure => simp [intOf]; omega
        · have t1 : decide (xr < yr) = false := decide_eq_false c1
          have t2 : decide ((xr : Int) < (yr : Int)) = false := decide_eq_false (by omega)
          by_cases c2 : xr = yr
          · have t3 : ((xr : Int) == (yr : Int)) = true := by simp [c2]
            by_cases c3 : xs < ys
            · have t4 : decide (xs < ys) = true := decide_eq_true c3
              have t5 : decide ((xs : Int) < (ys : Int)) = true := decide_eq_true (by omega)
              have HV := hid (show bwS N z n (j + 1) = (j + 2, ⟨xr, xA, xK, xs, xd⟩) by rw [HSX.out, if_pos (.inr ⟨c2, c3⟩)])
              clear c2
              go_wp2_with (fail)
              go_quiet (fail)
              go_wp2_with (fail)
              go_roundw
              case rel => exact ⟨j + 1, g2, by omega, by rw [HV.out]; exact congrArg (Value.int .i64) (by push_cast; rfl), rfl, by congr 1 <;> omega, by rw [HV.out]; exact StA_ext HS2.out ((Ext.refl _).drewN _), hE2.drewN _⟩
              case measure => simp [intOf]; omega
            · have t4 : decide (xs < ys) = false := decide_eq_false c3
              have t5 : decide ((xs : Int) < (ys : Int)) = false := decide_eq_false (by omega)
              have HV := hid (show bwS N z n (j + 1) = (by1, ⟨yr, yA, yK, ys, yd⟩) by rw [HSX.out, if_neg (show ¬ (xr < yr ∨ xr = yr ∧ xs < ys) by omega)])
              clear c2
              go_wp2_with (fail)
              go_quiet (fail)
              go_wp2_with (fail)
              go_roundw
              case rel => exact ⟨j + 1, g, by omega, by rw [HV.out], rfl, by congr 1 <;> omega, by rw [HV.out]; exact StA_ext HSY.out ((Ext.refl _).drewN _), hE2.drewN _⟩
              case measure => simp [intOf]; omega
          · have t3 : ((xr : Int) == (yr : Int)) = false := by simp; omega
            have HV := hid (show bwS N z n (j + 1) = (by1, ⟨yr, yA, yK, ys, yd⟩) by rw [HSX.out, if_neg (show ¬ (xr < yr ∨ xr = yr ∧ xs < ys) by omega)])
            go_wp2_with (fail)
            go_quiet (fail)
            go_wp2_with (fail)
            go_roundw
            case rel => exact ⟨j + 1, g, by omega, by rw [HV.out], rfl, by congr 1 <;> omega, by rw [HV.out]; exact StA_ext HSY.out ((Ext.refl _).drewN _), hE2.drewN _⟩
            case measure => simp [intOf]; omega
      · obtain rfl : j = 8 := by omega
        have c2 : wr.cell? ⟨g, 2, none⟩ = some (.int .i64 (yr : Int)) := hR.cellAt 2 (by omega)
        have hgs : g < wr.heap.size := (hR.lt _ rfl).2
        have E1 : by1 = bq := by rw [HBQ.out, ← HY.out]
        have E2 : yr = rq := by rw [HRQ.out, ← HY.out]
        subst E1 E2
        clear hR hAr hKr
        go_wp2_with (fail)
        go_quiet (fail)
        go_wp2_with (fail)
        go_ret3
        exact ⟨rfl, hX.drewN _⟩

theorem long_all {N W : Nat} {z : List Int} {n : Nat} (hs : scB z n = true) (hN2 : N ≤ 9) (hW : 1 ≤ W) : akS N W (lfZ z n) 1000 = akS N W (lfZ z n) 39 :=
  akS_long hW hN2 (scB_iff hs).1 (lfZ_far) 961

def BoxA (w : World) (g : Nat) (x : Ak) : Prop := w.cell? ⟨g, 0, none⟩ = some (.int .u64 (x.A : Int)) ∧ w.cell? ⟨g, 1, none⟩ = some (.int .u64 (x.K : Int)) ∧ w.cell? ⟨g, 2, none⟩ = some (.int .i64 (x.r : Int)) ∧ w.cell? ⟨g, 3, none⟩ = some (.int .i64 (x.s : Int)) ∧ w.cell? ⟨g, 4, none⟩ = some (.int .i64 (x.d : Int)) ∧ (∀ j, w.frozen? ⟨g, j, none⟩ = false) ∧ g < w.heap.size
theorem BoxA.ext {w w' : World} {g : Nat} {x : Ak} (h : BoxA w g x) (e : Ext w w') : BoxA w' g x := by
  obtain ⟨h0, h1, h2, h3, h4, h5, h6⟩ := h
  have c := fun o => (Ext.cells e).1 g o h6
  have f := fun o => (Ext.cells e).2 g o h6
  exact ⟨by rw [c, h0], by rw [c, h1], by rw [c, h2], by rw [c, h3], by rw [c, h4], fun j => by rw [f, h5], Nat.lt_of_lt_of_le h6 e.size⟩
theorem BoxA.new (w : World) (x : Ak) (t : TypeId) : BoxA (w.alloc (.cells (akC x).toArray t)) w.heap.size x :=
  ⟨by simp [akC, go_sem], by simp [akC, go_sem], by simp [akC, go_sem], by simp [akC, go_sem], by simp [akC, go_sem], fun j => by simp [go_sem], by simp⟩

set_option maxRecDepth 100000 in
set_option maxHeartbeats 4000000 in
theorem iBestWindow_any (N : Int) (v : Value) (n : Nat) (z : List Int) (w : World) (h : IntRow .i64 1 w v n z) :
    Calls Try.prog 15 #[.int .i64 N, v] w fun e w' => e = .returned (.tuple #[.int .i64 (bwB N z n), .int .i64 (bwR N z n), .bool (goodB N 1 z n)]) ∧ Ext w w' := by
  unfold bwB bwR
  have hh := h
  obtain ⟨hl, hm, hwf, a, c, rfl, hnc, hcm, hcell⟩ := h
  clear hwf hcell
  cases hask : goodB N 1 z n with
  | false =>
    have HA := hid (show askB N 1 z n 0 = false by rw [askB_zero, hask])
    clear hask
    rw [if_neg (by simp), if_neg (by simp)]
    go_enter Try.func15, Try.ntmps15
    go_wp2_with (go_at_call 40; refine (roundsAsked_any _ _ _ n z _ _ hh).mono ?_; rw [HA.out]; rintro e w' ⟨rfl, rfl⟩)
    go_ret3
    exact ⟨rfl, Ext.refl _⟩
  | true =>
    obtain ⟨N, rfl, h1, h2, h6⟩ := goodB_nat hask
    rw [if_pos rfl, if_pos rfl, Int.toNat_natCast]
    obtain ⟨bq, hbq⟩ : ∃ x : Nat, x = (bwS N z n 8).1 := ⟨_, rfl⟩
    obtain ⟨rq, hrq⟩ : ∃ x : Nat, x = (bwS N z n 8).2.r := ⟨_, rfl⟩
    rw [← hbq, ← hrq]
    have HBQ := hid hbq
    have HRQ := hid hrq
    have HA := hid (show askB N 1 z n 0 = true by rw [askB_zero, hask])
    clear hask hbq hrq
    go_enter Try.func15, Try.ntmps15
    go_wp2_with (go_at_call 40; refine (roundsAsked_any _ _ _ n z _ _ hh).mono ?_; rw [HA.out]; rintro e w' ⟨rfl, rfl⟩)
    have hc1 := runRounds_any N 1 1000 _ n z w hh h6 h1 h2 (Nat.le_refl _) (by omega) (by omega)
    rw [long_all h6 h2 (Nat.le_refl _), show ((1 : Nat) : Int) = 1 from rfl, show ((1000 : Nat) : Int) = 1000 from rfl] at hc1
    obtain ⟨X0, hX0⟩ : ∃ X, X = akS N 1 (lfZ z n) 39 := ⟨_, rfl⟩
    rw [← hX0] at hc1
    have HX0 := hid (show bwS N z n 0 = (1, X0) by rw [hX0, bwS_zero])
    clear hX0
    obtain ⟨ur, uA, uK, us, ud⟩ := X0
    rw [show (akC ⟨ur, uA, uK, us, ud⟩).toArray = #[.int .u64 (uA : Int), .int .u64 (uK : Int), .int .i64 (ur : Int), .int .i64 (us : Int), .int .i64 (ud : Int)] from rfl] at hc1
    with_reducible refine hc1.mono ?_
    clear hc1
    rintro e w1 ⟨rfl, hx1⟩
    go_wp2_with (fail)
    have hB0 : BoxA (w1.alloc (.cells #[.int .u64 (uA : Int), .int .u64 (uK : Int), .int .i64 (ur : Int), .int .i64 (us : Int), .int .i64 (ud : Int)] 54)) w1.heap.size ⟨ur, uA, uK, us, ud⟩ := BoxA.new w1 ⟨ur, uA, uK, us, ud⟩ _
    have hEb : Ext w1 (w1.alloc (.cells #[.int .u64 (uA : Int), .int .u64 (uK : Int), .int .i64 (ur : Int), .int .i64 (us : Int), .int .i64 (ud : Int)] 54)) := (Ext.refl _).alloc _
    generalize w1.alloc (.cells #[.int .u64 (uA : Int), .int .u64 (uK : Int), .int .i64 (ur : Int), .int .i64 (us : Int), .int .i64 (ud : Int)] 54) = wb at *
    obtain ⟨g, hg⟩ : ∃ g, g = w1.heap.size := ⟨_, rfl⟩
    rw [← hg] at hB0 ⊢
    have hgw : w1.heap.size ≤ g := by omega
    clear hg
    have hh1 := hid (hh.ext hx1)
    go_loopw [7, 9] (fun q7 q9 wr => ∃ (j : Nat), j ≤ 8 ∧ q7 = .int .i64 ((bwS N z n j).1 : Int) ∧ q9 = .int .i64 ((j : Int) + 2) ∧ BoxA wr g (bwS N z n j).2 ∧ Ext w1 wr)
      (fun _ q9 _ => 10 - (intOf q9).toNat)
    case atStart => exact ⟨0, Nat.zero_le _, by rw [HX0.out]; rfl, rfl, by rw [HX0.out]; exact hB0, hEb⟩
    case round =>
      clear hB0 hEb HX0
      obtain ⟨j, hj, rfl, rfl, hS, hX⟩ := hrel
      have hst := bwS_succ N z n j
      have hbd := bwS_fst N z n j
      obtain ⟨by1, hb1⟩ : ∃ q, q = (bwS N z n j).1 := ⟨_, rfl⟩
      obtain ⟨Y, hY⟩ : ∃ Y, Y = (bwS N z n j).2 := ⟨_, rfl⟩
      have hpair : bwS N z n j = (by1, Y) := by rw [hb1, hY]
      rw [hpair] at hst hbd hS
      rw [← hb1]
      have HY := hid hpair.symm
      have HST := hid hst
      clear hY hb1 hst hpair
      obtain ⟨yr, yA, yK, ys, yd⟩ := Y
      simp only at hbd
      have b4 : N * 39 ≤ 9 * 39 := Nat.mul_le_mul h2 (Nat.le_refl _)
      by_cases hlt : j < 8
      · have hWj := akS_bd N (j + 2) (lfZ z n) 39
        have hcc := fun (W : World) (hW : IntRow .i64 1 W (.slice a n c) n z) => runRounds_any N (j + 2) 1000 _ n z W hW h6 h1 h2 (by omega) (by omega) (by omega)
        rw [long_all h6 h2 (by omega)] at hcc
        obtain ⟨X, hXe⟩ : ∃ X, X = akS N (j + 2) (lfZ z n) 39 := ⟨_, rfl⟩
        rw [← hXe] at hcc hWj
        have HSX := hid (show bwS N z n (j + 1) = if X.r < yr ∨ (X.r = yr ∧ X.s < ys) then (j + 2, X) else (by1, ⟨yr, yA, yK, ys, yd⟩) by rw [HST.out, ← hXe])
        clear hXe
        obtain ⟨xr, xA, xK, xs, xd⟩ := X
        rw [show (akC ⟨xr, xA, xK, xs, xd⟩).toArray = #[.int .u64 (xA : Int), .int .u64 (xK : Int), .int .i64 (xr : Int), .int .i64 (xs : Int), .int .i64 (xd : Int)] from rfl] at hcc
        simp only at hWj
        obtain ⟨b5, _, _, b6, _, _⟩ := hWj
        obtain ⟨_, hbr, hbs⟩ := hbd
        have hxs : xs ≤ 400 := by omega
        have hys : ys ≤ 400 := by omega
        clear b4 b6 hbs
        go_wp2_with (fail)
        rw [show ((j : Int) + 2) = ((j + 2 : Nat) : Int) by omega]
        refine (hcc _ (hh1.out.ext hX)).mono ?_
        clear hcc
        rintro e w2 ⟨rfl, hx2⟩
        rw [show ((j + 2 : Nat) : Int) = (j : Int) + 2 by omega]
        have hE2 : Ext w1 w2 := hX.trans hx2
        have hBY := hS.ext hx2
        obtain ⟨k0, k1, k2, k3, k4, kf, kg⟩ := hBY
        have HBY := hid (hS.ext hx2)
        clear hS hX hx2
        by_cases c1 : xr < yr
        · have t1 : decide (xr < yr) = true := decide_eq_true c1
          have t2 : decide ((xr : Int) < (yr : Int)) = true := decide_eq_true (by omega)
          have HV := hid (show bwS N z n (j + 1) = (j + 2, ⟨xr, xA, xK, xs, xd⟩) by rw [HSX.out, if_pos (.inl c1)])
          go_wp2_with (fail)
          have AXw : ∀ W : World, W = w2.alloc (.cells #[.int .u64 (xA : Int), .int .u64 (xK : Int), .int .i64 (xr : Int), .int .i64 (xs : Int), .int .i64 (xd : Int)] 54) → (W.cell? ⟨w2.heap.size, 0, none⟩ = some (.int .u64 (xA : Int)) ∧ W.cell? ⟨w2.heap.size, 1, none⟩ = some (.int .u64 (xK : Int)) ∧ W.cell? ⟨w2.heap.size, 2, none⟩ = some (.int .i64 (xr : Int)) ∧ W.cell? ⟨w2.heap.size, 3, none⟩ = some (.int .i64 (xs : Int)) ∧ W.cell? ⟨w2.heap.size, 4, none⟩ = some (.int .i64 (xd : Int))) ∧ BoxA W g ⟨yr, yA, yK, ys, yd⟩ ∧ Ext w1 W := by
            rintro W rfl
            exact ⟨⟨by simp [go_sem], by simp [go_sem], by simp [go_sem], by simp [go_sem], by simp [go_sem]⟩, HBY.out.ext (by repeat (first | exact Ext.refl _ | assumption | refine Ext.alloc ?_ _ | refine Ext.drew ?_ | refine Ext.drewN ?_ _ | refine Ext.setCell ?_ (by first | exact Nat.le_refl _ | (simp; done) | (dsimp only; omega) | (simp only [World.size_alloc, World.size_setCell]; omega)) _ | refine Ext.trans ?_ (by assumption))), (by repeat (first | exact Ext.refl _ | assumption | refine Ext.alloc ?_ _ | refine Ext.drew ?_ | refine Ext.drewN ?_ _ | refine Ext.setCell ?_ (by first | exact Nat.le_refl _ | (simp; done) | (dsimp only; omega) | (simp only [World.size_alloc, World.size_setCell]; omega)) _ | refine Ext.trans ?_ (by assumption)))⟩
          obtain ⟨wx, hwx⟩ : ∃ W, W = w2.alloc (.cells #[.int .u64 (xA : Int), .int .u64 (xK : Int), .int .i64 (xr : Int), .int .i64 (xs : Int), .int .i64 (xd : Int)] 54) := ⟨_, rfl⟩
          obtain ⟨⟨p0, p1, p2, p3, p4⟩, hBx, hEx⟩ := AXw wx hwx
          rw [← hwx]
          obtain ⟨gx, hgx⟩ : ∃ q, q = w2.heap.size := ⟨_, rfl⟩
          rw [← hgx] at p0 p1 p2 p3 p4 ⊢
          clear AXw hwx hgx k0 k1 k2 k3 k4 kf kg HBY hE2
          refine wp_region_still_tail 3 (by kernel_rfl) (by kernel_rfl) ?_
          simp only [List.take_succ_cons, List.take_zero, List.drop_succ_cons, List.drop_zero]
          repeat still_step
          try refine wpStill_nil ?_
          change wpList _ _ _ _ _ wx.drew
          have hEy : Ext w1 wx.drew := hEx.drew
          have hBy := hBx.ext ((Ext.refl wx).drew)
          clear hEx hBx p0 p1 p2 p3 p4
          generalize wx.drew = wy at *
          obtain ⟨k0, k1, k2, k3, k4, kf, kg⟩ := hBy
          have kf0 := kf 0
          have kf1 := kf 1
          have kf2 := kf 2
          have kf3 := kf 3
          have kf4 := kf 4
          go_wp2_with (fail)
          go_roundw
          case rel =>
            refine ⟨j + 1, by omega, by rw [HV.out]; exact congrArg (Value.int .i64) (by push_cast; rfl), by congr 1 <;> omega, ?_, ?_⟩
            · rw [HV.out]
              exact ⟨by simp [go_sem, *], by simp [go_sem, *], by simp [go_sem, *], by simp [go_sem, *], by simp [go_sem, *], fun q => by simp [go_sem, kf], by simpa using kg⟩
            · exact ((((hEy.setCell hgw _).setCell hgw _).setCell hgw _).setCell hgw _).setCell hgw _
          case measure => simp [intOf]; omega
        · have t1 : decide (xr < yr) = false := decide_eq_false c1
          have t2 : decide ((xr : Int) < (yr : Int)) = false := decide_eq_false (by omega)
          by_cases c2 : xr = yr
          · have t3 : ((xr : Int) == (yr : Int)) = true := by simp [c2]
            by_cases c3 : xs < ys
            · have t4 : decide (xs < ys) = true := decide_eq_true c3
              have t5 : decide ((xs : Int) < (ys : Int)) = true := decide_eq_true (by omega)
              have HV := hid (show bwS N z n (j + 1) = (j + 2, ⟨xr, xA, xK, xs, xd⟩) by rw [HSX.out, if_pos (.inr ⟨c2, c3⟩)])
              clear c2
              go_wp2_with (fail)
              have AXw : ∀ W : World, W = w2.alloc (.cells #[.int .u64 (xA : Int), .int .u64 (xK : Int), .int .i64 (xr : Int), .int .i64 (xs : Int), .int .i64 (xd : Int)] 54) → (W.cell? ⟨w2.heap.size, 0, none⟩ = some (.int .u64 (xA : Int)) ∧ W.cell? ⟨w2.heap.size, 1, none⟩ = some (.int .u64 (xK : Int)) ∧ W.cell? ⟨w2.heap.size, 2, none⟩ = some (.int .i64 (xr : Int)) ∧ W.cell? ⟨w2.heap.size, 3, none⟩ = some (.int .i64 (xs : Int)) ∧ W.cell? ⟨w2.heap.size, 4, none⟩ = some (.int .i64 (xd : Int))) ∧ BoxA W g ⟨yr, yA, yK, ys, yd⟩ ∧ Ext w1 W := by
                rintro W rfl
                exact ⟨⟨by simp [go_sem], by simp [go_sem], by simp [go_sem], by simp [go_sem], by simp [go_sem]⟩, HBY.out.ext (by repeat (first | exact Ext.refl _ | assumption | refine Ext.alloc ?_ _ | refine Ext.drew ?_ | refine Ext.drewN ?_ _ | refine Ext.setCell ?_ (by first | exact Nat.le_refl _ | (simp; done) | (dsimp only; omega) | (simp only [World.size_alloc, World.size_setCell]; omega)) _ | refine Ext.trans ?_ (by assumption))), (by repeat (first | exact Ext.refl _ | assumption | refine Ext.alloc ?_ _ | refine Ext.drew ?_ | refine Ext.drewN ?_ _ | refine Ext.setCell ?_ (by first | exact Nat.le_refl _ | (simp; done) | (dsimp only; omega) | (simp only [World.size_alloc, World.size_setCell]; omega)) _ | refine Ext.trans ?_ (by assumption)))⟩
              obtain ⟨wx, hwx⟩ : ∃ W, W = w2.alloc (.cells #[.int .u64 (xA : Int), .int .u64 (xK : Int), .int .i64 (xr : Int), .int .i64 (xs : Int), .int .i64 (xd : Int)] 54) := ⟨_, rfl⟩
              obtain ⟨⟨p0, p1, p2, p3, p4⟩, hBx, hEx⟩ := AXw wx hwx
              rw [← hwx]
              obtain ⟨gx, hgx⟩ : ∃ q, q = w2.heap.size := ⟨_, rfl⟩
              rw [← hgx] at p0 p1 p2 p3 p4 ⊢
              clear AXw hwx hgx k0 k1 k2 k3 k4 kf kg HBY hE2
              refine wp_region_still_tail 3 (by kernel_rfl) (by kernel_rfl) ?_
              simp only [List.take_succ_cons, List.take_zero, List.drop_succ_cons, List.drop_zero]
              repeat still_step
              try refine wpStill_nil ?_
              change wpList _ _ _ _ _ wx.drew
              have hEy : Ext w1 wx.drew := hEx.drew
              have hBy := hBx.ext ((Ext.refl wx).drew)
              clear hEx hBx p0 p1 p2 p3 p4
              generalize wx.drew = wy at *
              obtain ⟨k0, k1, k2, k3, k4, kf, kg⟩ := hBy
              have kf0 := kf 0
              have kf1 := kf 1
              have kf2 := kf 2
              have kf3 := kf 3
              have kf4 := kf 4
              go_wp2_with (fail)
              go_roundw
              case rel =>
                refine ⟨j + 1, by omega, by rw [HV.out]; exact congrArg (Value.int .i64) (by push_cast; rfl), by congr 1 <;> omega, ?_, ?_⟩
                · rw [HV.out]
                  exact ⟨by simp [go_sem, *], by simp [go_sem, *], by simp [go_sem, *], by simp [go_sem, *], by simp [go_sem, *], fun q => by simp [go_sem, kf], by simpa using kg⟩
                · exact ((((hEy.setCell hgw _).setCell hgw _).setCell hgw _).setCell hgw _).setCell hgw _
              case measure => simp [intOf]; omega
            · have t4 : decide (xs < ys) = false := decide_eq_false c3
              have t5 : decide ((xs : Int) < (ys : Int)) = false := decide_eq_false (by omega)
              have HV := hid (show bwS N z n (j + 1) = (by1, ⟨yr, yA, yK, ys, yd⟩) by rw [HSX.out, if_neg (show ¬ (xr < yr ∨ xr = yr ∧ xs < ys) by omega)])
              clear c2
              go_wp2_with (fail)
              go_roundw
              case rel => exact ⟨j + 1, by omega, by rw [HV.out], by congr 1 <;> omega, by rw [HV.out]; exact HBY.out.ext (by repeat (first | exact Ext.refl _ | assumption | refine Ext.alloc ?_ _ | refine Ext.drew ?_ | refine Ext.drewN ?_ _ | refine Ext.setCell ?_ (by first | exact Nat.le_refl _ | (simp; done) | (dsimp only; omega) | (simp only [World.size_alloc, World.size_setCell]; omega)) _ | refine Ext.trans ?_ (by assumption))), (by repeat (first | exact Ext.refl _ | assumption | refine Ext.alloc ?_ _ | refine Ext.drew ?_ | refine Ext.drewN ?_ _ | refine Ext.setCell ?_ (by first | exact Nat.le_refl _ | (simp; done) | (dsimp only; omega) | (simp only [World.size_alloc, World.size_setCell]; omega)) _ | refine Ext.trans ?_ (by assumption)))⟩
              case measure => simp [intOf]; omega
          · have t3 : ((xr : Int) == (yr : Int)) = false := by simp; omega
            have HV := hid (show bwS N z n (j + 1) = (by1, ⟨yr, yA, yK, ys, yd⟩) by rw [HSX.out, if_neg (show ¬ (xr < yr ∨ xr = yr ∧ xs < ys) by omega)])
            go_wp2_with (fail)
            go_roundw
            case rel => exact ⟨j + 1, by omega, by rw [HV.out], by congr 1 <;> omega, by rw [HV.out]; exact HBY.out.ext (by repeat (first | exact Ext.refl _ | assumption | refine Ext.alloc ?_ _ | refine Ext.drew ?_ | refine Ext.drewN ?_ _ | refine Ext.setCell ?_ (by first | exact Nat.le_refl _ | (simp; done) | (dsimp only; omega) | (simp only [World.size_alloc, World.size_setCell]; omega)) _ | refine Ext.trans ?_ (by assumption))), (by repeat (first | exact Ext.refl _ | assumption | refine Ext.alloc ?_ _ | refine Ext.drew ?_ | refine Ext.drewN ?_ _ | refine Ext.setCell ?_ (by first | exact Nat.le_refl _ | (simp; done) | (dsimp only; omega) | (simp only [World.size_alloc, World.size_setCell]; omega)) _ | refine Ext.trans ?_ (by assumption)))⟩
            case measure => simp [intOf]; omega
      · obtain rfl : j = 8 := by omega
        obtain ⟨k0, k1, k2, k3, k4, kf, kg⟩ := hS
        have E1 : by1 = bq := by rw [HBQ.out, ← HY.out]
        have E2 : yr = rq := by rw [HRQ.out, ← HY.out]
        subst E1 E2
        go_wp2_with (fail)
        go_quiet (fail)
        go_wp2_with (fail)
        go_ret3
        exact ⟨rfl, (hx1.trans hX).drewN _⟩



set_option maxHeartbeats 2000000 in
theorem walkFnExactBestWindow (a0 : Int) (v0 : Value) (n0 : Nat) (z0 : List Int) (w : World) (_ : (Lit.int .i64 a0).wf = true) (r0 : IntRow .i64 1 w v0 n0 z0) :
    Calls Try.prog 4 #[.int .i64 a0, v0] w fun e w' => e = .returned (.bool true) ∧ Ext w w' := by
  obtain ⟨hl, hm, hwf, ad, cd, rfl, hnc, hcm, hcell⟩ := id r0
  unfold maxLen at hm
  clear hcell
  by_cases hn : n0 ≤ 1048576
  · have hnd : decide ((1048576 : Int) < n0) = false := decide_eq_false (by omega)
    have hwf := r0.2.2.1
    go_enter Try.func4, Try.ntmps4
    go_wp2_with (fail)
    refine (toIntS_any _ n0 z0 _ (r0.ext (by repeat (first | exact Ext.refl _ | assumption | refine Ext.alloc ?_ _ | refine Ext.drew ?_ | refine Ext.drewN ?_ _ | refine Ext.setCell ?_ (by first | exact Nat.le_refl _ | (simp; done) | (dsimp only; omega) | (simp only [World.size_alloc, World.size_setCell]; omega)) _ | refine Ext.trans ?_ (by assumption)))) hn).mono ?_
    rintro e w1 ⟨g1, rfl, hr1, hb1⟩
    go_wp2_with (fail)
    refine (sBestWindow_any a0 _ n0 z0 _ (row_ints (row_ext hr1 (by repeat (first | exact Ext.refl _ | assumption | refine Ext.alloc ?_ _ | refine Ext.drew ?_ | refine Ext.drewN ?_ _ | refine Ext.setCell ?_ (by first | exact Nat.le_refl _ | (simp; done) | (dsimp only; omega) | (simp only [World.size_alloc, World.size_setCell]; omega)) _ | refine Ext.trans ?_ (by assumption)))) (by unfold maxLen; omega) hwf)).mono ?_
    rintro e w2 ⟨rfl, hb2⟩
    go_wp2_with (fail)
    refine (toIntS_any _ n0 z0 _ (r0.ext (by repeat (first | exact Ext.refl _ | assumption | refine Ext.alloc ?_ _ | refine Ext.drew ?_ | refine Ext.drewN ?_ _ | refine Ext.setCell ?_ (by first | exact Nat.le_refl _ | (simp; done) | (dsimp only; omega) | (simp only [World.size_alloc, World.size_setCell]; omega)) _ | refine Ext.trans ?_ (by assumption)))) hn).mono ?_
    rintro e w3 ⟨g3, rfl, hr3, hb3⟩
    go_wp2_with (fail)
    refine (iBestWindow_any a0 _ n0 z0 _ (row_ints (row_ext hr3 (by repeat (first | exact Ext.refl _ | assumption | refine Ext.alloc ?_ _ | refine Ext.drew ?_ | refine Ext.drewN ?_ _ | refine Ext.setCell ?_ (by first | exact Nat.le_refl _ | (simp; done) | (dsimp only; omega) | (simp only [World.size_alloc, World.size_setCell]; omega)) _ | refine Ext.trans ?_ (by assumption)))) (by unfold maxLen; omega) hwf)).mono ?_
    rintro e w4 ⟨rfl, hb4⟩
    go_wp2_with (fail)
    refine (toIntS_any _ n0 z0 _ (r0.ext (by repeat (first | exact Ext.refl _ | assumption | refine Ext.alloc ?_ _ | refine Ext.drew ?_ | refine Ext.drewN ?_ _ | refine Ext.setCell ?_ (by first | exact Nat.le_refl _ | (simp; done) | (dsimp only; omega) | (simp only [World.size_alloc, World.size_setCell]; omega)) _ | refine Ext.trans ?_ (by assumption)))) hn).mono ?_
    rintro e w5 ⟨g5, rfl, hr5, hb5⟩
    go_wp2_with (fail)
    refine (eqIntS_same _ _ n0 z0 _ (row_ints (row_ext hr3 (by repeat (first | exact Ext.refl _ | assumption | refine Ext.alloc ?_ _ | refine Ext.drew ?_ | refine Ext.drewN ?_ _ | refine Ext.setCell ?_ (by first | exact Nat.le_refl _ | (simp; done) | (dsimp only; omega) | (simp only [World.size_alloc, World.size_setCell]; omega)) _ | refine Ext.trans ?_ (by assumption)))) (by unfold maxLen; omega) hwf) (row_ints (row_ext hr5 (by repeat (first | exact Ext.refl _ | assumption | refine Ext.alloc ?_ _ | refine Ext.drew ?_ | refine Ext.drewN ?_ _ | refine Ext.setCell ?_ (by first | exact Nat.le_refl _ | (simp; done) | (dsimp only; omega) | (simp only [World.size_alloc, World.size_setCell]; omega)) _ | refine Ext.trans ?_ (by assumption)))) (by unfold maxLen; omega) hwf)).mono ?_
    rintro e w6 ⟨rfl, hb6⟩
    go_wp2_with (fail)
    go_ret
    exact ⟨rfl, (by repeat (first | exact Ext.refl _ | assumption | refine Ext.alloc ?_ _ | refine Ext.drew ?_ | refine Ext.drewN ?_ _ | refine Ext.setCell ?_ (by first | exact Nat.le_refl _ | (simp; done) | (dsimp only; omega) | (simp only [World.size_alloc, World.size_setCell]; omega)) _ | refine Ext.trans ?_ (by assumption)))⟩
  · have hnd : decide ((1048576 : Int) < n0) = true := decide_eq_true (by omega)
    go_enter Try.func4, Try.ntmps4
    go_wp2_with (fail)
    go_ret
    exact ⟨rfl, Ext.refl _⟩


end Go.Proofs.Ytmmmiccpimplhaa
