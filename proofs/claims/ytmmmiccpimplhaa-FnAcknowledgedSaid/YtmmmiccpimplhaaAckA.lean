/- The chapter of acknowledgements: rounds over bits; whether a script is asked well. No condition. -/
import Derived.Test.YtmmmiccpimplhaaLeaf
import Derived.Test.YtmmmiccpimplhaaPut
namespace Go.Proofs.Ytmmmiccpimplhaa
open Go.RowKit
set_option linter.unusedSimpArgs false
set_option linter.unusedVariables false


/-! a round over bits: A arrived, K known, l lost; how many were sent, what has arrived, how many twice -/
structure Rd where
  s : Nat
  N : Nat
  d : Nat
def rdS (A K l w : Nat) : Nat → Rd
  | 0 => ⟨0, A, 0⟩
  | p + 1 =>
    let x := rdS A K l w p
    if x.s < w then
      if K.testBit p = true then x
      else if l.testBit p = true then ⟨x.s + 1, x.N, x.d⟩
      else ⟨x.s + 1, x.N ||| 2 ^ p, if A.testBit p = true then x.d + 1 else x.d⟩
    else x
theorem testBit_or_two (N p j : Nat) : (N ||| 2 ^ p).testBit j = (N.testBit j || decide (p = j)) := by
  rw [Nat.testBit_or, Nat.testBit_two_pow]
theorem rdS_bits (A K l w : Nat) : ∀ p j, (rdS A K l w p).N.testBit j = true → A.testBit j = true ∨ j < p
  | 0, j, h => .inl h
  | p + 1, j, h => by
    have ih := rdS_bits A K l w p j
    rw [rdS] at h
    by_cases c1 : (rdS A K l w p).s < w
    · rw [if_pos c1] at h
      by_cases c2 : K.testBit p = true
      · rw [if_pos c2] at h
        exact (ih h).imp id (fun h => by omega)
      · rw [if_neg c2] at h
        by_cases c3 : l.testBit p = true
        · rw [if_pos c3] at h
          exact (ih h).imp id (fun h => by omega)
        · rw [if_neg c3] at h
          simp only [testBit_or_two, Bool.or_eq_true, decide_eq_true_eq] at h
          rcases h with h | h
          · exact (ih h).imp id (fun h => by omega)
          · right; omega
    · rw [if_neg c1] at h
      exact (ih h).imp id (fun h => by omega)
theorem rdS_keep (A K l w : Nat) : ∀ p j, A.testBit j = true → (rdS A K l w p).N.testBit j = true
  | 0, j, h => h
  | p + 1, j, h => by
    have ih := rdS_keep A K l w p j h
    rw [rdS]
    split
    · split
      · exact ih
      · split
        · exact ih
        · simp [testBit_or_two, ih]
    · exact ih
/-- a part not yet come to has arrived if it had before the round -/
theorem rdS_fresh (A K l w p : Nat) : (rdS A K l w p).N.testBit p = A.testBit p := by
  rw [Bool.eq_iff_iff]
  constructor
  · intro h
    rcases rdS_bits A K l w p p h with h | h
    · exact h
    · omega
  · exact rdS_keep A K l w p p
theorem rdS_bd (A K l w : Nat) : ∀ p, (rdS A K l w p).s ≤ p ∧ (rdS A K l w p).d ≤ (rdS A K l w p).s ∧ (rdS A K l w p).s ≤ w
  | 0 => by simp [rdS]
  | p + 1 => by
    have ih := rdS_bd A K l w p
    rw [rdS]
    split
    · split
      · omega
      · split
        · simp only; omega
        · simp only; split <;> omega
    · omega
theorem lt_two_pow_of_bits {a n : Nat} (h : ∀ j, a.testBit j = true → j < n) : a < 2 ^ n :=
  Nat.lt_pow_two_of_testBit a fun i hi => by
    rw [← Bool.not_eq_true]; intro c; have := h i c; omega
theorem bits_lt {a n j : Nat} (h : a < 2 ^ n) (hj : a.testBit j = true) : j < n := by
  rcases Nat.lt_or_ge j n with c | c
  · exact c
  · rw [Nat.testBit_lt_two_pow (Nat.lt_of_lt_of_le h (Nat.pow_le_pow_right (by omega) c))] at hj
    cases hj
theorem rdS_lt {A n : Nat} (hA : A < 2 ^ n) (K l w : Nat) {p : Nat} (hp : p ≤ n) : (rdS A K l w p).N < 2 ^ n :=
  lt_two_pow_of_bits fun j hj => by
    rcases rdS_bits A K l w p j hj with h | h
    · exact bits_lt hA h
    · omega
/-! rounds -/
structure Ak where
  r : Nat
  A : Nat
  K : Nat
  s : Nat
  d : Nat
/-- l r: what is lost in round r -/
def akS (n w : Nat) (l : Nat → Nat) : Nat → Ak
  | 0 => ⟨0, 0, 0, 0, 0⟩
  | k + 1 =>
    let x := akS n w l k
    if x.K = 2 ^ n - 1 then x
    else
      let y := rdS x.A x.K (l x.r) w n
      ⟨x.r + 1, y.N, if (l x.r).testBit 9 = true then x.K else y.N, x.s + y.s, x.d + y.d⟩
theorem akS_stay {n w : Nat} {l : Nat → Nat} {k : Nat} (h : (akS n w l k).K = 2 ^ n - 1) : ∀ d, akS n w l (k + d) = akS n w l k
  | 0 => rfl
  | d + 1 => by
    rw [show k + (d + 1) = (k + d) + 1 by omega, akS]
    simp only
    rw [akS_stay h d, if_pos h]
theorem akS_bd (n w : Nat) (l : Nat → Nat) : ∀ k, (akS n w l k).r ≤ k ∧ (akS n w l k).A < 2 ^ n ∧ (akS n w l k).K < 2 ^ n ∧ (akS n w l k).s ≤ n * k ∧ (akS n w l k).d ≤ n * k ∧ ((akS n w l k).r = k ∨ (akS n w l k).K = 2 ^ n - 1)
  | 0 => by
    have := Nat.two_pow_pos n
    simp [akS]; omega
  | k + 1 => by
    obtain ⟨h1, h2, h3, h4, h5, h6⟩ := akS_bd n w l k
    rw [akS]
    simp only
    have e : n * (k + 1) = n * k + n := by rw [Nat.mul_succ]
    by_cases c : (akS n w l k).K = 2 ^ n - 1
    · rw [if_pos c]; refine ⟨by omega, h2, h3, by omega, by omega, .inr c⟩
    · rw [if_neg c]
      have hb := rdS_bd (akS n w l k).A (akS n w l k).K (l (akS n w l k).r) w n
      have hl := rdS_lt h2 (akS n w l k).K (l (akS n w l k).r) w (Nat.le_refl n)
      refine ⟨by simp only; omega, hl, ?_, by simp only; omega, by simp only; omega, .inl ?_⟩
      · simp only; split
        · exact h3
        · exact hl
      · simp only; rcases h6 with h6 | h6
        · omega
        · exact absurd h6 c
/-! the bits of a number as a list -/
def bitsL (a : Nat) : Nat → List Int
  | 0 => []
  | p + 1 => if a.testBit p = true then bitsL a p ++ [(p : Int)] else bitsL a p
theorem mem_bitsL {a : Nat} {x : Int} : ∀ {n}, x ∈ bitsL a n ↔ ∃ j, j < n ∧ x = (j : Int) ∧ a.testBit j = true
  | 0 => by simp [bitsL]
  | n + 1 => by
    rw [bitsL]
    by_cases c : a.testBit n = true
    · rw [if_pos c, List.mem_append, mem_bitsL, List.mem_singleton]
      constructor
      · rintro (⟨j, h1, h2⟩ | rfl)
        · exact ⟨j, by omega, h2⟩
        · exact ⟨n, by omega, rfl, c⟩
      · rintro ⟨j, h1, h2, h3⟩
        by_cases e : j = n
        · subst e; exact .inr h2
        · exact .inl ⟨j, by omega, h2, h3⟩
    · rw [if_neg c, mem_bitsL]
      constructor
      · rintro ⟨j, h1, h2⟩; exact ⟨j, by omega, h2⟩
      · rintro ⟨j, h1, h2, h3⟩
        by_cases e : j = n
        · subst e; exact absurd h3 c
        · exact ⟨j, by omega, h2, h3⟩
theorem bitsL_sorted (a : Nat) : ∀ n, (bitsL a n).Pairwise (· < ·)
  | 0 => by simp [bitsL]
  | n + 1 => by
    rw [bitsL]; split
    · rw [List.pairwise_append]
      refine ⟨bitsL_sorted a n, by simp, fun x hx y hy => ?_⟩
      obtain ⟨j, h1, rfl, _⟩ := mem_bitsL.1 hx
      simp only [List.mem_singleton] at hy
      omega
    · exact bitsL_sorted a n
theorem bitsL_len_le (a : Nat) : ∀ n, (bitsL a n).length ≤ n
  | 0 => by simp [bitsL]
  | n + 1 => by have := bitsL_len_le a n; rw [bitsL]; split <;> simp <;> omega
theorem bitsL_put {a n p : Nat} (hp : p < n) : putL (bitsL a n) (p : Int) = bitsL (a ||| 2 ^ p) n :=
  sorted_ext (putL_sorted (bitsL_sorted a n)) (bitsL_sorted _ n) fun x => by
    rw [mem_putL, mem_bitsL, mem_bitsL]
    constructor
    · rintro (rfl | ⟨j, h1, h2, h3⟩)
      · exact ⟨p, hp, rfl, by simp [testBit_or_two]⟩
      · exact ⟨j, h1, h2, by simp [testBit_or_two, h3]⟩
    · rintro ⟨j, h1, h2, h3⟩
      simp only [testBit_or_two, Bool.or_eq_true, decide_eq_true_eq] at h3
      rcases h3 with h3 | h3
      · exact .inr ⟨j, h1, h2, h3⟩
      · subst h3; exact .inl h2
theorem bitsL_has {a n p : Nat} (hp : p < n) : decide ((p : Int) ∈ bitsL a n) = a.testBit p := by
  rw [Bool.eq_iff_iff, decide_eq_true_eq, mem_bitsL]
  constructor
  · rintro ⟨j, h1, h2, h3⟩
    obtain rfl : p = j := by omega
    exact h3
  · exact fun h => ⟨p, hp, rfl, h⟩
theorem bitsL_full {a : Nat} : ∀ {n}, a < 2 ^ n → ((bitsL a n).length = n ↔ a = 2 ^ n - 1)
  | n, ha => by
    have key : ∀ n, (bitsL a n).length = n ↔ ∀ j, j < n → a.testBit j = true := by
      intro n
      induction n with
      | zero => simp [bitsL]
      | succ n ih =>
        have hl := bitsL_len_le a n
        rw [bitsL]
        by_cases c : a.testBit n = true
        · rw [if_pos c, List.length_append, List.length_singleton]
          constructor
          · intro h j hj
            by_cases e : j = n
            · subst e; exact c
            · exact ih.1 (by omega) j (by omega)
          · intro h
            rw [ih.2 fun j hj => h j (by omega)]
        · rw [if_neg c]
          constructor
          · intro h; omega
          · intro h; exact absurd (h n (by omega)) c
    rw [key]
    constructor
    · intro h
      apply Nat.eq_of_testBit_eq
      intro j
      rw [Nat.testBit_two_pow_sub_one]
      by_cases hj : j < n
      · rw [h j hj, decide_eq_true hj]
      · rw [decide_eq_false hj, ← Bool.not_eq_true]
        intro c; exact hj (bits_lt ha c)
    · rintro rfl j hj
      rw [Nat.testBit_two_pow_sub_one, decide_eq_true hj]
theorem bitsL_range (a : Nat) (n : Nat) : ∀ x ∈ bitsL a n, 0 ≤ x ∧ x < n := fun x hx => by
  obtain ⟨j, h1, rfl, _⟩ := mem_bitsL.1 hx
  omega
/-- the program's way: from the least bit on, as long as anything is left above -/
theorem bitsL_more {a n : Nat} (h : a < 2 ^ n) : ∀ d, bitsL a (n + d) = bitsL a n
  | 0 => rfl
  | d + 1 => by
    rw [show n + (d + 1) = (n + d) + 1 by omega, bitsL, if_neg, bitsL_more h d]
    intro c; have := bits_lt h c; omega


/-- all numbers within bounds -/
def rngB (z : List Int) (n : Nat) (lo hi : Int) : Bool := allB (fun j => inR (z.getD j 0) lo hi) n


set_option maxRecDepth 100000 in
set_option maxHeartbeats 800000 in
theorem allWithin_any (v : Value) (n : Nat) (z : List Int) (lo hi : Int) (w : World) (h : IntRow .i64 1 w v n z) :
    Calls Try.prog 49 #[v, .int .i64 lo, .int .i64 hi] w fun e w' => e = .returned (.bool (rngB z n lo hi)) ∧ w = w' := by
  obtain ⟨hl, hm, hwf, a, c, rfl, hnc, hcm, hcell⟩ := h
  unfold maxLen at hm
  obtain ⟨q, hq⟩ : ∃ q, q = rngB z n lo hi := ⟨_, rfl⟩
  rw [← hq]
  have HQ := hid hq
  clear hwf hq
  go_enter Try.func49, Try.ntmps49
  go_wp2_with (fail)
  go_loop [11] (fun i => ∃ (k : Nat), k ≤ n ∧ i = .int .i64 (k : Int) ∧ (∀ j, j < k → inR (z.getD j 0) lo hi = true)) (fun i => n - (intOf i).toNat)
  case atStart => exact ⟨0, Nat.zero_le _, rfl, fun j hj => absurd hj (by omega)⟩
  case round =>
    obtain ⟨k, hk, rfl, hall⟩ := hrel
    have HA := hid hall
    clear hall
    by_cases hlt : k < n
    · obtain ⟨b, o, rfl, hb, hc⟩ := hcell.resolve_left (by omega)
      obtain ⟨x, hx⟩ : ∃ x, x = z.getD k 0 := ⟨_, rfl⟩
      have c0 : w.cell? ⟨b, o + k, none⟩ = some (.int .i64 x) := by rw [hc _ (by omega), hx]
      have HX := hid hx
      clear hx hc hcell
      cases hin : inR x lo hi with
      | false =>
        have HIN := hid hin
        clear hin
        go_wp2_with (go_at_call 54; refine (within_any _ _ _ _).mono ?_; rw [HIN.out]; rintro e w' ⟨rfl, rfl⟩)
        go_ret
        refine ⟨ret_bool ?_, rfl⟩
        rw [HQ.out]
        exact (allB_f hlt (by rw [← HX.out, HIN.out])).symm
      | true =>
        have HIN := hid hin
        clear hin
        go_wp2_with (go_at_call 54; refine (within_any _ _ _ _).mono ?_; rw [HIN.out]; rintro e w' ⟨rfl, rfl⟩)
        go_round
        case rel =>
          refine ⟨k + 1, by omega, by go_num, fun j hj => ?_⟩
          by_cases e : j = k
          · subst e
            rw [← HX.out, HIN.out]
          · exact HA.out j (by omega)
        case measure => simp [intOf]; omega
    · obtain rfl : k = n := by omega
      clear hcell
      go_wp2_with (fail)
      go_ret
      refine ⟨ret_bool ?_, rfl⟩
      rw [HQ.out]
      exact (allB_t HA.out).symm


set_option maxRecDepth 100000 in
set_option maxHeartbeats 800000 in
theorem l1All_any (v : Value) (n : Nat) (z : List Int) (lo hi : Int) (w : World) (h : IntRow .i64 1 w v n z) :
    Calls Try.prog 59 #[v, .int .i64 lo, .int .i64 hi] w fun e w' => e = .returned (.bool (rngB z n lo hi)) ∧ w = w' := by
  obtain ⟨hl, hm, hwf, a, c, rfl, hnc, hcm, hcell⟩ := h
  unfold maxLen at hm
  obtain ⟨q, hq⟩ : ∃ q, q = rngB z n lo hi := ⟨_, rfl⟩
  rw [← hq]
  have HQ := hid hq
  clear hwf hq
  go_enter Try.func59, Try.ntmps59
  go_wp2_with (fail)
  go_loop [11] (fun i => ∃ (k : Nat), k ≤ n ∧ i = .int .i64 (k : Int) ∧ (∀ j, j < k → inR (z.getD j 0) lo hi = true)) (fun i => n - (intOf i).toNat)
  case atStart => exact ⟨0, Nat.zero_le _, rfl, fun j hj => absurd hj (by omega)⟩
  case round =>
    obtain ⟨k, hk, rfl, hall⟩ := hrel
    have HA := hid hall
    clear hall
    by_cases hlt : k < n
    · obtain ⟨b, o, rfl, hb, hc⟩ := hcell.resolve_left (by omega)
      obtain ⟨x, hx⟩ : ∃ x, x = z.getD k 0 := ⟨_, rfl⟩
      have c0 : w.cell? ⟨b, o + k, none⟩ = some (.int .i64 x) := by rw [hc _ (by omega), hx]
      have HX := hid hx
      clear hx hc hcell
      cases hin : inR x lo hi with
      | false =>
        have HIN := hid hin
        clear hin
        go_wp2_with (go_at_call 52; refine (l1In_any _ _ _ _).mono ?_; rw [HIN.out]; rintro e w' ⟨rfl, rfl⟩)
        go_ret
        refine ⟨ret_bool ?_, rfl⟩
        rw [HQ.out]
        exact (allB_f hlt (by rw [← HX.out, HIN.out])).symm
      | true =>
        have HIN := hid hin
        clear hin
        go_wp2_with (go_at_call 52; refine (l1In_any _ _ _ _).mono ?_; rw [HIN.out]; rintro e w' ⟨rfl, rfl⟩)
        go_round
        case rel =>
          refine ⟨k + 1, by omega, by go_num, fun j hj => ?_⟩
          by_cases e : j = k
          · subst e
            rw [← HX.out, HIN.out]
          · exact HA.out j (by omega)
        case measure => simp [intOf]; omega
    · obtain rfl : k = n := by omega
      clear hcell
      go_wp2_with (fail)
      go_ret
      refine ⟨ret_bool ?_, rfl⟩
      rw [HQ.out]
      exact (allB_t HA.out).symm


def scB (z : List Int) (n : Nat) : Bool := decide (n ≤ 30) && rngB z n 0 1023
theorem scB_iff {z : List Int} {n : Nat} (h : scB z n = true) : n ≤ 30 ∧ ∀ j, j < n → 0 ≤ z.getD j 0 ∧ z.getD j 0 ≤ 1023 := by
  unfold scB rngB at h
  rw [Bool.and_eq_true, decide_eq_true_eq] at h
  exact ⟨h.1, fun j hj => inR_iff.1 (allB_get h.2 j hj)⟩
def goodB (N W : Int) (z : List Int) (n : Nat) : Bool := inR N 1 9 && inR W 1 9 && scB z n
def askB (N W : Int) (z : List Int) (n : Nat) (k : Int) : Bool := goodB N W z n && inR k 0 60


set_option maxRecDepth 100000 in
set_option maxHeartbeats 800000 in
theorem isAckScript_any (v : Value) (n : Nat) (z : List Int) (w : World) (h : IntRow .i64 1 w v n z) :
    Calls Try.prog 31 #[v] w fun e w' => e = .returned (.bool (scB z n)) ∧ w = w' := by
  have hh := h
  obtain ⟨hl, hm, hwf, a, c, rfl, hnc, hcm, hcell⟩ := h
  unfold maxLen at hm
  clear hwf hcell
  by_cases h30 : n ≤ 30
  · have e : scB z n = rngB z n 0 1023 := by unfold scB; rw [decide_eq_true h30]; rfl
    rw [e]
    clear e
    have t1 : decide ((n : Int) ≤ 30) = true := decide_eq_true (by omega)
    go_enter Try.func31, Try.ntmps31
    go_wp2_with (go_at_call 49; refine (allWithin_any _ n z _ _ _ hh).mono ?_; rintro e w' ⟨rfl, rfl⟩)
    go_ret
    exact ⟨rfl, rfl⟩
  · have e : scB z n = false := by unfold scB; rw [decide_eq_false h30]; rfl
    rw [e]
    clear e
    have t1 : decide ((n : Int) ≤ 30) = false := decide_eq_false (by omega)
    go_enter Try.func31, Try.ntmps31
    go_wp2_with (fail)
    go_ret
    exact ⟨rfl, rfl⟩


set_option maxRecDepth 100000 in
set_option maxHeartbeats 800000 in
theorem akScript_any (v : Value) (n : Nat) (z : List Int) (w : World) (h : IntRow .i64 1 w v n z) :
    Calls Try.prog 50 #[v] w fun e w' => e = .returned (.bool (scB z n)) ∧ w = w' := by
  have hh := h
  obtain ⟨hl, hm, hwf, a, c, rfl, hnc, hcm, hcell⟩ := h
  unfold maxLen at hm
  clear hwf hcell
  by_cases h30 : n ≤ 30
  · have e : scB z n = rngB z n 0 1023 := by unfold scB; rw [decide_eq_true h30]; rfl
    rw [e]
    clear e
    have t1 : decide ((n : Int) ≤ 30) = true := decide_eq_true (by omega)
    go_enter Try.func50, Try.ntmps50
    go_wp2_with (go_at_call 59; refine (l1All_any _ n z _ _ _ hh).mono ?_; rintro e w' ⟨rfl, rfl⟩)
    go_ret
    exact ⟨rfl, rfl⟩
  · have e : scB z n = false := by unfold scB; rw [decide_eq_false h30]; rfl
    rw [e]
    clear e
    have t1 : decide ((n : Int) ≤ 30) = false := decide_eq_false (by omega)
    go_enter Try.func50, Try.ntmps50
    go_wp2_with (fail)
    go_ret
    exact ⟨rfl, rfl⟩


set_option maxRecDepth 100000 in
set_option maxHeartbeats 800000 in
theorem akGood_any (N W : Int) (v : Value) (n : Nat) (z : List Int) (w : World) (h : IntRow .i64 1 w v n z) :
    Calls Try.prog 42 #[.int .i64 N, .int .i64 W, v] w fun e w' => e = .returned (.bool (goodB N W z n)) ∧ w = w' := by
  have hh := h
  obtain ⟨hl, hm, hwf, a, c, rfl, hnc, hcm, hcell⟩ := h
  clear hwf hcell
  cases hH0 : inR N 1 9 with
  | false =>
    have H0 := hid hH0
    rw [show goodB N W z n = false by unfold goodB; simp [H0.out]]
    clear hH0
    go_enter Try.func42, Try.ntmps42
    go_wp2_with (first | (go_at_call 52; refine (l1In_any _ _ _ _).mono ?_; (first | rw [H0.out]); rintro e w' ⟨rfl, rfl⟩) | (go_at_call 50; refine (akScript_any _ n z _ hh).mono ?_; (first | rw [H0.out]); rintro e w' ⟨rfl, rfl⟩))
    go_ret
    exact ⟨rfl, rfl⟩
  | true =>
    have H0 := hid hH0
    cases hH1 : inR W 1 9 with
    | false =>
      have H1 := hid hH1
      rw [show goodB N W z n = false by unfold goodB; simp [H0.out, H1.out]]
      clear hH0 hH1
      go_enter Try.func42, Try.ntmps42
      go_wp2_with (first | (go_at_call 52; refine (l1In_any _ _ _ _).mono ?_; (first | rw [H0.out] | rw [H1.out]); rintro e w' ⟨rfl, rfl⟩) | (go_at_call 50; refine (akScript_any _ n z _ hh).mono ?_; (first | rw [H0.out] | rw [H1.out]); rintro e w' ⟨rfl, rfl⟩))
      go_ret
      exact ⟨rfl, rfl⟩
    | true =>
      have H1 := hid hH1
      cases hH2 : scB z n with
      | false =>
        have H2 := hid hH2
        rw [show goodB N W z n = false by unfold goodB; simp [H0.out, H1.out, H2.out]]
        clear hH0 hH1 hH2
        go_enter Try.func42, Try.ntmps42
        go_wp2_with (first | (go_at_call 52; refine (l1In_any _ _ _ _).mono ?_; (first | rw [H0.out] | rw [H1.out] | rw [H2.out]); rintro e w' ⟨rfl, rfl⟩) | (go_at_call 50; refine (akScript_any _ n z _ hh).mono ?_; (first | rw [H0.out] | rw [H1.out] | rw [H2.out]); rintro e w' ⟨rfl, rfl⟩))
        go_ret
        exact ⟨rfl, rfl⟩
      | true =>
        have H2 := hid hH2
        rw [show goodB N W z n = true by unfold goodB; simp [H0.out, H1.out, H2.out]]
        clear hH0 hH1 hH2
        go_enter Try.func42, Try.ntmps42
        go_wp2_with (first | (go_at_call 52; refine (l1In_any _ _ _ _).mono ?_; (first | rw [H0.out] | rw [H1.out] | rw [H2.out]); rintro e w' ⟨rfl, rfl⟩) | (go_at_call 50; refine (akScript_any _ n z _ hh).mono ?_; (first | rw [H0.out] | rw [H1.out] | rw [H2.out]); rintro e w' ⟨rfl, rfl⟩))
        go_ret
        exact ⟨rfl, rfl⟩


set_option maxRecDepth 100000 in
set_option maxHeartbeats 800000 in
theorem akAsked_any (N W : Int) (v : Value) (n : Nat) (z : List Int) (k : Int) (w : World) (h : IntRow .i64 1 w v n z) :
    Calls Try.prog 38 #[.int .i64 N, .int .i64 W, v, .int .i64 k] w fun e w' => e = .returned (.bool (askB N W z n k)) ∧ w = w' := by
  have hh := h
  obtain ⟨hl, hm, hwf, a, c, rfl, hnc, hcm, hcell⟩ := h
  clear hwf hcell
  cases hH0 : goodB N W z n with
  | false =>
    have H0 := hid hH0
    rw [show askB N W z n k = false by unfold askB; simp [H0.out]]
    clear hH0
    go_enter Try.func38, Try.ntmps38
    go_wp2_with (first | (go_at_call 52; refine (l1In_any _ _ _ _).mono ?_; (first | rw [H0.out]); rintro e w' ⟨rfl, rfl⟩) | (go_at_call 42; refine (akGood_any _ _ _ n z _ hh).mono ?_; (first | rw [H0.out]); rintro e w' ⟨rfl, rfl⟩))
    go_ret
    exact ⟨rfl, rfl⟩
  | true =>
    have H0 := hid hH0
    cases hH1 : inR k 0 60 with
    | false =>
      have H1 := hid hH1
      rw [show askB N W z n k = false by unfold askB; simp [H0.out, H1.out]]
      clear hH0 hH1
      go_enter Try.func38, Try.ntmps38
      go_wp2_with (first | (go_at_call 52; refine (l1In_any _ _ _ _).mono ?_; (first | rw [H0.out] | rw [H1.out]); rintro e w' ⟨rfl, rfl⟩) | (go_at_call 42; refine (akGood_any _ _ _ n z _ hh).mono ?_; (first | rw [H0.out] | rw [H1.out]); rintro e w' ⟨rfl, rfl⟩))
      go_ret
      exact ⟨rfl, rfl⟩
    | true =>
      have H1 := hid hH1
      rw [show askB N W z n k = true by unfold askB; simp [H0.out, H1.out]]
      clear hH0 hH1
      go_enter Try.func38, Try.ntmps38
      go_wp2_with (first | (go_at_call 52; refine (l1In_any _ _ _ _).mono ?_; (first | rw [H0.out] | rw [H1.out]); rintro e w' ⟨rfl, rfl⟩) | (go_at_call 42; refine (akGood_any _ _ _ n z _ hh).mono ?_; (first | rw [H0.out] | rw [H1.out]); rintro e w' ⟨rfl, rfl⟩))
      go_ret
      exact ⟨rfl, rfl⟩


set_option maxRecDepth 100000 in
set_option maxHeartbeats 800000 in
theorem roundsAsked_any (N W : Int) (v : Value) (n : Nat) (z : List Int) (k : Int) (w : World) (h : IntRow .i64 1 w v n z) :
    Calls Try.prog 40 #[.int .i64 N, .int .i64 W, v, .int .i64 k] w fun e w' => e = .returned (.bool (askB N W z n k)) ∧ w = w' := by
  have hh := h
  obtain ⟨hl, hm, hwf, a, c, rfl, hnc, hcm, hcell⟩ := h
  clear hwf hcell
  cases hH0 : inR N 1 9 with
  | false =>
    have H0 := hid hH0
    rw [show askB N W z n k = false by unfold askB goodB; simp [H0.out]]
    clear hH0
    go_enter Try.func40, Try.ntmps40
    go_wp2_with (first | (go_at_call 54; refine (within_any _ _ _ _).mono ?_; (first | rw [H0.out]); rintro e w' ⟨rfl, rfl⟩) | (go_at_call 31; refine (isAckScript_any _ n z _ hh).mono ?_; (first | rw [H0.out]); rintro e w' ⟨rfl, rfl⟩))
    go_ret
    exact ⟨rfl, rfl⟩
  | true =>
    have H0 := hid hH0
    cases hH1 : inR W 1 9 with
    | false =>
      have H1 := hid hH1
      rw [show askB N W z n k = false by unfold askB goodB; simp [H0.out, H1.out]]
      clear hH0 hH1
      go_enter Try.func40, Try.ntmps40
      go_wp2_with (first | (go_at_call 54; refine (within_any _ _ _ _).mono ?_; (first | rw [H0.out] | rw [H1.out]); rintro e w' ⟨rfl, rfl⟩) | (go_at_call 31; refine (isAckScript_any _ n z _ hh).mono ?_; (first | rw [H0.out] | rw [H1.out]); rintro e w' ⟨rfl, rfl⟩))
      go_ret
      exact ⟨rfl, rfl⟩
    | true =>
      have H1 := hid hH1
      cases hH2 : scB z n with
      | false =>
        have H2 := hid hH2
        rw [show askB N W z n k = false by unfold askB goodB; simp [H0.out, H1.out, H2.out]]
        clear hH0 hH1 hH2
        go_enter Try.func40, Try.ntmps40
        go_wp2_with (first | (go_at_call 54; refine (within_any _ _ _ _).mono ?_; (first | rw [H0.out] | rw [H1.out] | rw [H2.out]); rintro e w' ⟨rfl, rfl⟩) | (go_at_call 31; refine (isAckScript_any _ n z _ hh).mono ?_; (first | rw [H0.out] | rw [H1.out] | rw [H2.out]); rintro e w' ⟨rfl, rfl⟩))
        go_ret
        exact ⟨rfl, rfl⟩
      | true =>
        have H2 := hid hH2
        cases hH3 : inR k 0 60 with
        | false =>
          have H3 := hid hH3
          rw [show askB N W z n k = false by unfold askB goodB; simp [H0.out, H1.out, H2.out, H3.out]]
          clear hH0 hH1 hH2 hH3
          go_enter Try.func40, Try.ntmps40
          go_wp2_with (first | (go_at_call 54; refine (within_any _ _ _ _).mono ?_; (first | rw [H0.out] | rw [H1.out] | rw [H2.out] | rw [H3.out]); rintro e w' ⟨rfl, rfl⟩) | (go_at_call 31; refine (isAckScript_any _ n z _ hh).mono ?_; (first | rw [H0.out] | rw [H1.out] | rw [H2.out] | rw [H3.out]); rintro e w' ⟨rfl, rfl⟩))
          go_ret
          exact ⟨rfl, rfl⟩
        | true =>
          have H3 := hid hH3
          rw [show askB N W z n k = true by unfold askB goodB; simp [H0.out, H1.out, H2.out, H3.out]]
          clear hH0 hH1 hH2 hH3
          go_enter Try.func40, Try.ntmps40
          go_wp2_with (first | (go_at_call 54; refine (within_any _ _ _ _).mono ?_; (first | rw [H0.out] | rw [H1.out] | rw [H2.out] | rw [H3.out]); rintro e w' ⟨rfl, rfl⟩) | (go_at_call 31; refine (isAckScript_any _ n z _ hh).mono ?_; (first | rw [H0.out] | rw [H1.out] | rw [H2.out] | rw [H3.out]); rintro e w' ⟨rfl, rfl⟩))
          go_ret
          exact ⟨rfl, rfl⟩


end Go.Proofs.Ytmmmiccpimplhaa
