/- The chapter of acknowledgements: the counts of all rounds. No condition. -/
import Derived.Test.YtmmmiccpimplhaaAckH
import Derived.Test.YtmmmiccpimplhaaAckG
namespace Go.Proofs.Ytmmmiccpimplhaa
open Go.RowKit
set_option linter.unusedSimpArgs false
set_option linter.unusedVariables false

set_option maxRecDepth 100000
/-! what is sent: at least what arrives, with what arrives again; at most the window a round -/
theorem bitsL_or {N n p : Nat} (hp : p < n) : (bitsL (N ||| 2 ^ p) n).length = if N.testBit p = true then (bitsL N n).length else (bitsL N n).length + 1 := by
  rw [← bitsL_put hp, putL_length (bitsL_sorted N n)]
  have h := bitsL_has (a := N) hp
  by_cases c : N.testBit p = true
  · rw [if_pos c, if_pos (by rw [c] at h; exact of_decide_eq_true h)]
  · have c' : N.testBit p = false := by simpa using c
    rw [if_neg c, if_neg (by rw [c'] at h; exact of_decide_eq_false h)]
theorem rdS_count (A K l w n : Nat) : ∀ p, p ≤ n → (bitsL (rdS A K l w p).N n).length + (rdS A K l w p).d ≤ (bitsL A n).length + (rdS A K l w p).s
  | 0, _ => by simp [rdS]
  | p + 1, hp => by
    have ih := rdS_count A K l w n p (by omega)
    have hf := rdS_fresh A K l w p
    rw [rdS]
    split
    · split
      · exact ih
      · split
        · simp only; omega
        · simp only
          rw [bitsL_or (by omega), hf]
          by_cases c : A.testBit p = true
          · rw [if_pos c, if_pos c]; omega
          · rw [if_neg c, if_neg c]; omega
    · exact ih
theorem akS_count (n w : Nat) (l : Nat → Nat) : ∀ k, (bitsL (akS n w l k).A n).length + (akS n w l k).d ≤ (akS n w l k).s ∧ (akS n w l k).s ≤ (akS n w l k).r * w
  | 0 => by
    rw [akS]
    have : bitsL 0 n = [] := bitsL_zero n
    simp [this]
  | k + 1 => by
    obtain ⟨h1, h2⟩ := akS_count n w l k
    rw [akS]
    simp only
    by_cases c : (akS n w l k).K = 2 ^ n - 1
    · rw [if_pos c]; exact ⟨h1, h2⟩
    · rw [if_neg c]
      simp only
      have h3 := rdS_count (akS n w l k).A (akS n w l k).K (l (akS n w l k).r) w n n (Nat.le_refl n)
      have h4 := rdS_bd (akS n w l k).A (akS n w l k).K (l (akS n w l k).r) w n
      rw [Nat.add_mul, Nat.one_mul]
      omega
/-- at the end all is known -/
theorem akS_end {n w m : Nat} {l : Nat → Nat} (hw : 1 ≤ w) (hn : n ≤ 9) (hm : m ≤ 30) (hl : ∀ r, m ≤ r → l r = 0) {k : Nat} (hk : m + n ≤ k) : (akS n w l k).K = 2 ^ n - 1 := by
  obtain ⟨_, _, b3, _, _, _⟩ := akS_bd n w l k
  rcases akS_grows hw hl (k - m) with h | h
  · rw [show m + (k - m) = k by omega] at h; exact h
  · rw [show m + (k - m) = k by omega] at h
    have := bitsL_len_le (akS n w l k).K n
    exact (bitsL_full b3).1 (by omega)
theorem akS_all {n w : Nat} {l : Nat → Nat} {k : Nat} (h : (akS n w l k).K = 2 ^ n - 1) : (akS n w l k).A = 2 ^ n - 1 := by
  obtain ⟨_, b2, _⟩ := akS_bd n w l k
  refine full_of_all b2 fun j hj => akS_sub n w l k j ?_
  rw [h, Nat.testBit_two_pow_sub_one, decide_eq_true hj]
/-- the number of rounds is the first at which all is known -/
theorem akS_first (n w : Nat) (l : Nat → Nat) : ∀ k j, j ≤ k → ((akS n w l j).K = 2 ^ n - 1 ↔ (akS n w l k).K = 2 ^ n - 1 ∧ (akS n w l k).r ≤ j)
  | k, j, hj => by
    obtain ⟨b1, _, _, _, _, b6⟩ := akS_bd n w l j
    constructor
    · intro h
      have := akS_stay h (k - j)
      rw [show j + (k - j) = k by omega] at this
      rw [this]
      exact ⟨h, b1⟩
    · rintro ⟨h1, h2⟩
      rcases Nat.lt_or_ge j k with hlt | hge
      · -- if not full at j, round j goes on, so the count at k is greater than j
        rcases b6 with b6 | b6
        · by_cases c : (akS n w l j).K = 2 ^ n - 1
          · exact c
          · exfalso
            have key : ∀ d, (akS n w l (j + 1 + d)).r ≥ j + 1 := by
              intro d
              induction d with
              | zero =>
                rw [Nat.add_zero, akS]
                simp only
                rw [if_neg c]
                simp only
                omega
              | succ d ih =>
                rw [show j + 1 + (d + 1) = (j + 1 + d) + 1 by omega, akS]
                simp only
                split
                · exact ih
                · simp only; omega
            have := key (k - (j + 1))
            rw [show j + 1 + (k - (j + 1)) = k by omega] at this
            omega
        · exact b6
      · have : j = k := by omega
        subst this
        exact h1
/-- what has arrived stays; a round adds at most the window -/
theorem akS_later (n w : Nat) (l : Nat → Nat) (k : Nat) : (∀ j, (akS n w l k).A.testBit j = true → (akS n w l (k + 1)).A.testBit j = true) ∧ (bitsL (akS n w l (k + 1)).A n).length ≤ (bitsL (akS n w l k).A n).length + w := by
  rw [akS]
  simp only
  by_cases c : (akS n w l k).K = 2 ^ n - 1
  · rw [if_pos c]; exact ⟨fun _ h => h, by omega⟩
  · rw [if_neg c]
    simp only
    refine ⟨fun j hj => rdS_keep _ _ _ _ _ _ hj, ?_⟩
    have h3 := rdS_count (akS n w l k).A (akS n w l k).K (l (akS n w l k).r) w n n (Nat.le_refl n)
    have h4 := rdS_bd (akS n w l k).A (akS n w l k).K (l (akS n w l k).r) w n
    omega
/-- nothing lost: every part is sent once -/
def cleanB (n w : Nat) : Bool := decide ((akS n w (fun _ => 0) 39).s = n) && decide ((akS n w (fun _ => 0) 39).d = 0) && decide ((akS n w (fun _ => 0) 39).r = (n + w - 1) / w)
theorem clean_all : ((List.range 10).all fun n => (List.range 10).all fun w => decide (n = 0) || (decide (w = 0) || cleanB n w)) = true := by rfl
theorem clean_get {n w : Nat} (h1 : 1 ≤ n) (h2 : n ≤ 9) (h3 : 1 ≤ w) (h4 : w ≤ 9) : (akS n w (fun _ => 0) 39).s = n ∧ (akS n w (fun _ => 0) 39).d = 0 ∧ (akS n w (fun _ => 0) 39).r = (n + w - 1) / w := by
  have h := List.all_eq_true.1 clean_all n (by simp; omega)
  have h' := List.all_eq_true.1 h w (by simp; omega)
  rw [decide_eq_false (by omega), decide_eq_false (by omega), Bool.false_or, Bool.false_or] at h'
  unfold cleanB at h'
  rw [Bool.and_eq_true, Bool.and_eq_true] at h'
  exact ⟨of_decide_eq_true h'.1.1, of_decide_eq_true h'.1.2, of_decide_eq_true h'.2⟩

/-- all rounds -/
def zz (N W : Int) (z : List Int) (n : Nat) : Ak := akS N.toNat W.toNat (lfZ z n) 39
def rnV (N W : Int) (z : List Int) (n : Nat) : Int := if goodB N W z n = true then ((zz N W z n).r : Int) else 0
def psV (N W : Int) (z : List Int) (n : Nat) : Int := if goodB N W z n = true then ((zz N W z n).s : Int) else 0
def daV (N W : Int) (z : List Int) (n : Nat) : Int := if goodB N W z n = true then ((zz N W z n).d : Int) else 0
theorem goodB_nat2 {N W : Int} {z : List Int} {n : Nat} (h : goodB N W z n = true) : ∃ a b : Nat, N = a ∧ W = b ∧ 1 ≤ a ∧ a ≤ 9 ∧ 1 ≤ b ∧ b ≤ 9 ∧ scB z n = true := by
  unfold goodB at h
  rw [Bool.and_eq_true, Bool.and_eq_true, inR_iff, inR_iff] at h
  exact ⟨N.toNat, W.toNat, by omega, by omega, by omega, by omega, by omega, by omega, h.2⟩
theorem askB_z (N W : Int) (z : List Int) (n : Nat) : askB N W z n 0 = goodB N W z n := by unfold askB; simp [inR]


set_option maxRecDepth 100000 in
set_option maxHeartbeats 2000000 in
theorem sRoundsNeeded_any (N W : Int) (v : Value) (n : Nat) (z : List Int) (w : World) (h : IntRow .i64 1 w v n z) :
    Calls Try.prog 34 #[.int .i64 N, .int .i64 W, v] w fun e w' => e = .returned (.tuple #[.int .i64 (rnV N W z n), .bool (goodB N W z n)]) ∧ Ext w w' := by
  have hh := h
  obtain ⟨hl, hm, hwf, a, c, rfl, hnc, hcm, hcell⟩ := h
  clear hwf hcell
  obtain ⟨R, hR⟩ : ∃ R, R = rnV N W z n := ⟨_, rfl⟩
  rw [← hR]
  cases hask : goodB N W z n with
  | false =>
    have HR := hid (show R = 0 by rw [hR]; unfold rnV; rw [hask]; rfl)
    have HA := hid hask
    clear hask hR
    go_enter Try.func34, Try.ntmps34
    go_wp2_with (go_at_call 42; refine (akGood_any _ _ _ n z _ hh).mono ?_; rw [HA.out]; rintro e w' ⟨rfl, rfl⟩)
    go_ret2
    rw [HR.out]
    exact ⟨rfl, Ext.refl _⟩
  | true =>
    obtain ⟨N, W, rfl, rfl, h1, h2, h3, h4, h6⟩ := goodB_nat2 hask
    obtain ⟨X, hX⟩ : ∃ X, X = akS N W (lfZ z n) 39 := ⟨_, rfl⟩
    have HR := hid (show R = (X.r : Int) by rw [hR]; unfold rnV zz; rw [if_pos hask, Int.toNat_natCast, Int.toNat_natCast, hX])
    have HA := hid hask
    clear hask hR
    have hc1 := akAll_any N W _ n z w hh h6 h1 h2 h3 h4
    rw [← hX] at hc1
    clear hX
    obtain ⟨r, A, K, s, d⟩ := X
    go_enter Try.func34, Try.ntmps34
    go_wp2_with (go_at_call 42; refine (akGood_any _ _ _ n z _ hh).mono ?_; rw [HA.out]; rintro e w' ⟨rfl, rfl⟩)
    with_reducible refine hc1.mono ?_
    clear hc1
    rintro e w1 ⟨g, rfl, hg, ⟨va, vk, hrow, hra, hrk⟩, hx⟩
    have c2 : w1.cell? ⟨g, 2, none⟩ = some _ := hrow.cellAt 2 (by omega)
    simp only [spC, List.getElem?_cons_succ, List.getElem?_cons_zero] at c2
    go_wp2_with (fail)
    go_ret2
    rw [HR.out]
    exact ⟨rfl, hx⟩


set_option maxRecDepth 100000 in
set_option maxHeartbeats 2000000 in
theorem iRoundsNeeded_any (N W : Int) (v : Value) (n : Nat) (z : List Int) (w : World) (h : IntRow .i64 1 w v n z) :
    Calls Try.prog 33 #[.int .i64 N, .int .i64 W, v] w fun e w' => e = .returned (.tuple #[.int .i64 (rnV N W z n), .bool (goodB N W z n)]) ∧ Ext w w' := by
  have hh := h
  obtain ⟨hl, hm, hwf, a, c, rfl, hnc, hcm, hcell⟩ := h
  clear hwf hcell
  obtain ⟨R, hR⟩ : ∃ R, R = rnV N W z n := ⟨_, rfl⟩
  rw [← hR]
  cases hask : goodB N W z n with
  | false =>
    have HR := hid (show R = 0 by rw [hR]; unfold rnV; rw [hask]; rfl)
    have HA := hid (show askB N W z n 0 = false by rw [askB_z, hask])
    clear hask hR
    go_enter Try.func33, Try.ntmps33
    go_wp2_with (go_at_call 40; refine (roundsAsked_any _ _ _ n z _ _ hh).mono ?_; rw [HA.out]; rintro e w' ⟨rfl, rfl⟩)
    go_ret2
    rw [HR.out]
    exact ⟨rfl, Ext.refl _⟩
  | true =>
    obtain ⟨N, W, rfl, rfl, h1, h2, h3, h4, h6⟩ := goodB_nat2 hask
    obtain ⟨X, hX⟩ : ∃ X, X = akS N W (lfZ z n) 39 := ⟨_, rfl⟩
    have HR := hid (show R = (X.r : Int) by rw [hR]; unfold rnV zz; rw [if_pos hask, Int.toNat_natCast, Int.toNat_natCast, hX])
    have HA := hid (show askB N W z n 0 = true by rw [askB_z, hask])
    clear hask hR
    have hc1 := runRounds_any N W 1000 _ n z w hh h6 h1 h2 h3 h4 (by omega)
    rw [long_all h6 h2 h3, show ((1000 : Nat) : Int) = 1000 from rfl, ← hX] at hc1
    clear hX
    obtain ⟨r, A, K, s, d⟩ := X
    simp only [akC] at hc1
    go_enter Try.func33, Try.ntmps33
    go_wp2_with (go_at_call 40; refine (roundsAsked_any _ _ _ n z _ _ hh).mono ?_; rw [HA.out]; rintro e w' ⟨rfl, rfl⟩)
    with_reducible refine hc1.mono ?_
    clear hc1
    rintro e w1 ⟨rfl, hx⟩
    have hfd : ∀ w : World, (Instr.field 54 (.agg #[.int .u64 (A : Int), .int .u64 (K : Int), .int .i64 (r : Int), .int .i64 (s : Int), .int .i64 (d : Int)]) 2).run Try.prog w = .ok (.int .i64 (r : Int)) w := fun _ => by kernel_rfl
    go_wp2_with (fail)
    go_ret2
    rw [HR.out]
    exact ⟨rfl, (by repeat (first | exact Ext.refl _ | assumption | refine Ext.alloc ?_ _ | refine Ext.drew ?_ | refine Ext.drewN ?_ _ | refine Ext.setCell ?_ (by first | exact Nat.le_refl _ | (simp; done) | (dsimp only; omega) | (simp only [World.size_alloc, World.size_setCell]; omega)) _ | refine Ext.trans ?_ (by assumption)))⟩


set_option maxRecDepth 100000 in
set_option maxHeartbeats 2000000 in
theorem sPacketsSent_any (N W : Int) (v : Value) (n : Nat) (z : List Int) (w : World) (h : IntRow .i64 1 w v n z) :
    Calls Try.prog 27 #[.int .i64 N, .int .i64 W, v] w fun e w' => e = .returned (.tuple #[.int .i64 (psV N W z n), .bool (goodB N W z n)]) ∧ Ext w w' := by
  have hh := h
  obtain ⟨hl, hm, hwf, a, c, rfl, hnc, hcm, hcell⟩ := h
  clear hwf hcell
  obtain ⟨R, hR⟩ : ∃ R, R = psV N W z n := ⟨_, rfl⟩
  rw [← hR]
  cases hask : goodB N W z n with
  | false =>
    have HR := hid (show R = 0 by rw [hR]; unfold psV; rw [hask]; rfl)
    have HA := hid hask
    clear hask hR
    go_enter Try.func27, Try.ntmps27
    go_wp2_with (go_at_call 42; refine (akGood_any _ _ _ n z _ hh).mono ?_; rw [HA.out]; rintro e w' ⟨rfl, rfl⟩)
    go_ret2
    rw [HR.out]
    exact ⟨rfl, Ext.refl _⟩
  | true =>
    obtain ⟨N, W, rfl, rfl, h1, h2, h3, h4, h6⟩ := goodB_nat2 hask
    obtain ⟨X, hX⟩ : ∃ X, X = akS N W (lfZ z n) 39 := ⟨_, rfl⟩
    have HR := hid (show R = (X.s : Int) by rw [hR]; unfold psV zz; rw [if_pos hask, Int.toNat_natCast, Int.toNat_natCast, hX])
    have HA := hid hask
    clear hask hR
    have hc1 := akAll_any N W _ n z w hh h6 h1 h2 h3 h4
    rw [← hX] at hc1
    clear hX
    obtain ⟨r, A, K, s, d⟩ := X
    go_enter Try.func27, Try.ntmps27
    go_wp2_with (go_at_call 42; refine (akGood_any _ _ _ n z _ hh).mono ?_; rw [HA.out]; rintro e w' ⟨rfl, rfl⟩)
    with_reducible refine hc1.mono ?_
    clear hc1
    rintro e w1 ⟨g, rfl, hg, ⟨va, vk, hrow, hra, hrk⟩, hx⟩
    have c2 : w1.cell? ⟨g, 3, none⟩ = some _ := hrow.cellAt 3 (by omega)
    simp only [spC, List.getElem?_cons_succ, List.getElem?_cons_zero] at c2
    go_wp2_with (fail)
    go_ret2
    rw [HR.out]
    exact ⟨rfl, hx⟩


set_option maxRecDepth 100000 in
set_option maxHeartbeats 2000000 in
theorem iPacketsSent_any (N W : Int) (v : Value) (n : Nat) (z : List Int) (w : World) (h : IntRow .i64 1 w v n z) :
    Calls Try.prog 26 #[.int .i64 N, .int .i64 W, v] w fun e w' => e = .returned (.tuple #[.int .i64 (psV N W z n), .bool (goodB N W z n)]) ∧ Ext w w' := by
  have hh := h
  obtain ⟨hl, hm, hwf, a, c, rfl, hnc, hcm, hcell⟩ := h
  clear hwf hcell
  obtain ⟨R, hR⟩ : ∃ R, R = psV N W z n := ⟨_, rfl⟩
  rw [← hR]
  cases hask : goodB N W z n with
  | false =>
    have HR := hid (show R = 0 by rw [hR]; unfold psV; rw [hask]; rfl)
    have HA := hid (show askB N W z n 0 = false by rw [askB_z, hask])
    clear hask hR
    go_enter Try.func26, Try.ntmps26
    go_wp2_with (go_at_call 40; refine (roundsAsked_any _ _ _ n z _ _ hh).mono ?_; rw [HA.out]; rintro e w' ⟨rfl, rfl⟩)
    go_ret2
    rw [HR.out]
    exact ⟨rfl, Ext.refl _⟩
  | true =>
    obtain ⟨N, W, rfl, rfl, h1, h2, h3, h4, h6⟩ := goodB_nat2 hask
    obtain ⟨X, hX⟩ : ∃ X, X = akS N W (lfZ z n) 39 := ⟨_, rfl⟩
    have HR := hid (show R = (X.s : Int) by rw [hR]; unfold psV zz; rw [if_pos hask, Int.toNat_natCast, Int.toNat_natCast, hX])
    have HA := hid (show askB N W z n 0 = true by rw [askB_z, hask])
    clear hask hR
    have hc1 := runRounds_any N W 1000 _ n z w hh h6 h1 h2 h3 h4 (by omega)
    rw [long_all h6 h2 h3, show ((1000 : Nat) : Int) = 1000 from rfl, ← hX] at hc1
    clear hX
    obtain ⟨r, A, K, s, d⟩ := X
    simp only [akC] at hc1
    go_enter Try.func26, Try.ntmps26
    go_wp2_with (go_at_call 40; refine (roundsAsked_any _ _ _ n z _ _ hh).mono ?_; rw [HA.out]; rintro e w' ⟨rfl, rfl⟩)
    with_reducible refine hc1.mono ?_
    clear hc1
    rintro e w1 ⟨rfl, hx⟩
    have hfd : ∀ w : World, (Instr.field 54 (.agg #[.int .u64 (A : Int), .int .u64 (K : Int), .int .i64 (r : Int), .int .i64 (s : Int), .int .i64 (d : Int)]) 3).run Try.prog w = .ok (.int .i64 (s : Int)) w := fun _ => by kernel_rfl
    go_wp2_with (fail)
    go_ret2
    rw [HR.out]
    exact ⟨rfl, (by repeat (first | exact Ext.refl _ | assumption | refine Ext.alloc ?_ _ | refine Ext.drew ?_ | refine Ext.drewN ?_ _ | refine Ext.setCell ?_ (by first | exact Nat.le_refl _ | (simp; done) | (dsimp only; omega) | (simp only [World.size_alloc, World.size_setCell]; omega)) _ | refine Ext.trans ?_ (by assumption)))⟩


set_option maxRecDepth 100000 in
set_option maxHeartbeats 2000000 in
theorem sDoubleArrivals_any (N W : Int) (v : Value) (n : Nat) (z : List Int) (w : World) (h : IntRow .i64 1 w v n z) :
    Calls Try.prog 29 #[.int .i64 N, .int .i64 W, v] w fun e w' => e = .returned (.tuple #[.int .i64 (daV N W z n), .bool (goodB N W z n)]) ∧ Ext w w' := by
  have hh := h
  obtain ⟨hl, hm, hwf, a, c, rfl, hnc, hcm, hcell⟩ := h
  clear hwf hcell
  obtain ⟨R, hR⟩ : ∃ R, R = daV N W z n := ⟨_, rfl⟩
  rw [← hR]
  cases hask : goodB N W z n with
  | false =>
    have HR := hid (show R = 0 by rw [hR]; unfold daV; rw [hask]; rfl)
    have HA := hid hask
    clear hask hR
    go_enter Try.func29, Try.ntmps29
    go_wp2_with (go_at_call 42; refine (akGood_any _ _ _ n z _ hh).mono ?_; rw [HA.out]; rintro e w' ⟨rfl, rfl⟩)
    go_ret2
    rw [HR.out]
    exact ⟨rfl, Ext.refl _⟩
  | true =>
    obtain ⟨N, W, rfl, rfl, h1, h2, h3, h4, h6⟩ := goodB_nat2 hask
    obtain ⟨X, hX⟩ : ∃ X, X = akS N W (lfZ z n) 39 := ⟨_, rfl⟩
    have HR := hid (show R = (X.d : Int) by rw [hR]; unfold daV zz; rw [if_pos hask, Int.toNat_natCast, Int.toNat_natCast, hX])
    have HA := hid hask
    clear hask hR
    have hc1 := akAll_any N W _ n z w hh h6 h1 h2 h3 h4
    rw [← hX] at hc1
    clear hX
    obtain ⟨r, A, K, s, d⟩ := X
    go_enter Try.func29, Try.ntmps29
    go_wp2_with (go_at_call 42; refine (akGood_any _ _ _ n z _ hh).mono ?_; rw [HA.out]; rintro e w' ⟨rfl, rfl⟩)
    with_reducible refine hc1.mono ?_
    clear hc1
    rintro e w1 ⟨g, rfl, hg, ⟨va, vk, hrow, hra, hrk⟩, hx⟩
    have c2 : w1.cell? ⟨g, 4, none⟩ = some _ := hrow.cellAt 4 (by omega)
    simp only [spC, List.getElem?_cons_succ, List.getElem?_cons_zero] at c2
    go_wp2_with (fail)
    go_ret2
    rw [HR.out]
    exact ⟨rfl, hx⟩


set_option maxRecDepth 100000 in
set_option maxHeartbeats 2000000 in
theorem iDoubleArrivals_any (N W : Int) (v : Value) (n : Nat) (z : List Int) (w : World) (h : IntRow .i64 1 w v n z) :
    Calls Try.prog 28 #[.int .i64 N, .int .i64 W, v] w fun e w' => e = .returned (.tuple #[.int .i64 (daV N W z n), .bool (goodB N W z n)]) ∧ Ext w w' := by
  have hh := h
  obtain ⟨hl, hm, hwf, a, c, rfl, hnc, hcm, hcell⟩ := h
  clear hwf hcell
  obtain ⟨R, hR⟩ : ∃ R, R = daV N W z n := ⟨_, rfl⟩
  rw [← hR]
  cases hask : goodB N W z n with
  | false =>
    have HR := hid (show R = 0 by rw [hR]; unfold daV; rw [hask]; rfl)
    have HA := hid (show askB N W z n 0 = false by rw [askB_z, hask])
    clear hask hR
    go_enter Try.func28, Try.ntmps28
    go_wp2_with (go_at_call 40; refine (roundsAsked_any _ _ _ n z _ _ hh).mono ?_; rw [HA.out]; rintro e w' ⟨rfl, rfl⟩)
    go_ret2
    rw [HR.out]
    exact ⟨rfl, Ext.refl _⟩
  | true =>
    obtain ⟨N, W, rfl, rfl, h1, h2, h3, h4, h6⟩ := goodB_nat2 hask
    obtain ⟨X, hX⟩ : ∃ X, X = akS N W (lfZ z n) 39 := ⟨_, rfl⟩
    have HR := hid (show R = (X.d : Int) by rw [hR]; unfold daV zz; rw [if_pos hask, Int.toNat_natCast, Int.toNat_natCast, hX])
    have HA := hid (show askB N W z n 0 = true by rw [askB_z, hask])
    clear hask hR
    have hc1 := runRounds_any N W 1000 _ n z w hh h6 h1 h2 h3 h4 (by omega)
    rw [long_all h6 h2 h3, show ((1000 : Nat) : Int) = 1000 from rfl, ← hX] at hc1
    clear hX
    obtain ⟨r, A, K, s, d⟩ := X
    simp only [akC] at hc1
    go_enter Try.func28, Try.ntmps28
    go_wp2_with (go_at_call 40; refine (roundsAsked_any _ _ _ n z _ _ hh).mono ?_; rw [HA.out]; rintro e w' ⟨rfl, rfl⟩)
    with_reducible refine hc1.mono ?_
    clear hc1
    rintro e w1 ⟨rfl, hx⟩
    have hfd : ∀ w : World, (Instr.field 54 (.agg #[.int .u64 (A : Int), .int .u64 (K : Int), .int .i64 (r : Int), .int .i64 (s : Int), .int .i64 (d : Int)]) 4).run Try.prog w = .ok (.int .i64 (d : Int)) w := fun _ => by kernel_rfl
    go_wp2_with (fail)
    go_ret2
    rw [HR.out]
    exact ⟨rfl, (by repeat (first | exact Ext.refl _ | assumption | refine Ext.alloc ?_ _ | refine Ext.drew ?_ | refine Ext.drewN ?_ _ | refine Ext.setCell ?_ (by first | exact Nat.le_refl _ | (simp; done) | (dsimp only; omega) | (simp only [World.size_alloc, World.size_setCell]; omega)) _ | refine Ext.trans ?_ (by assumption)))⟩

end Go.Proofs.Ytmmmiccpimplhaa