/- The chapter of acknowledgements: the program's answers. No condition. -/
import Derived.Test.YtmmmiccpimplhaaAckB
namespace Go.Proofs.Ytmmmiccpimplhaa
open Go.RowKit
set_option linter.unusedSimpArgs false
set_option linter.unusedVariables false

theorem int_map_append (l : List Int) (x : Int) : (l ++ [x]).map (Value.int .i64) = l.map (Value.int .i64) ++ [Value.int .i64 x] := by simp
theorem shr_pos {a i : Nat} : (0 < ((a : Int) / 2 ^ i)) ↔ 0 < a / 2 ^ i := by rw [div_pow_cast]; omega
set_option maxRecDepth 100000 in
set_option maxHeartbeats 800000 in
theorem setBits_any (a n : Nat) (w : World) (ha : a < 2 ^ n) (hn : n ≤ 9) :
    Calls Try.prog 45 #[.int .u64 (a : Int)] w fun e w' => ∃ v, e = .returned v ∧ w'.ownsRow w.heap.size 3 1 v (bitsL a n).length ((bitsL a n).map (Value.int .i64)) ∧ Ext w w' := by
  obtain ⟨i0, hi, hz0, hz1, hz2⟩ := info_parts info_Int
  have hpn := pow_small hn
  have ba : a < 512 := by omega
  have HA := hid ha
  clear ha hpn
  go_enter Try.func45, Try.ntmps45
  go_wp2_with (fail)
  go_loopw [3, 4] (fun out i wr => ∃ (k : Nat), k ≤ n ∧ i = .int .i64 (k : Int) ∧ wr.ownsRow w.heap.size 3 1 out (bitsL a k).length ((bitsL a k).map (Value.int .i64)) ∧ Ext w wr)
    (fun _ i _ => n - (intOf i).toNat)
  case atStart => exact ⟨0, Nat.zero_le _, rfl, World.ownsRow_nil _ _ _ _, Ext.refl _⟩
  case round =>
    obtain ⟨k, hk, rfl, hrow, hE⟩ := hrel
    have hbl := bitsL_len_le a k
    have hst : bitsL a (k + 1) = if a.testBit k = true then bitsL a k ++ [(k : Int)] else bitsL a k := rfl
    have hend : a / 2 ^ k = 0 → bitsL a n = bitsL a k := by
      intro h
      have hlt : a < 2 ^ k := by
        rcases Nat.lt_or_ge a (2 ^ k) with c | c
        · exact c
        · have := Nat.div_pos c (Nat.two_pow_pos k); omega
      have := bitsL_more hlt (n - k)
      rw [show k + (n - k) = n by omega] at this
      exact this
    obtain ⟨B, hB⟩ : ∃ B, B = bitsL a k := ⟨_, rfl⟩
    rw [← hB] at hst hrow hbl hend
    by_cases h0 : a / 2 ^ k = 0
    · have t1 : decide ((0 : Int) < (a : Int) / 2 ^ k) = false := decide_eq_false (by rw [shr_pos]; omega)
      have HE := hid (hend h0)
      clear hst hend hB h0
      go_wp2_with (fail)
      go_ret
      exact ⟨_, rfl, by rw [HE.out]; exact hrow, hE⟩
    · have t1 : decide ((0 : Int) < (a : Int) / 2 ^ k) = true := decide_eq_true (shr_pos.2 (Nat.pos_of_ne_zero h0))
      have hkn : k < n := by
        rcases Nat.lt_or_ge k n with c | c
        · exact c
        · exfalso
          obtain rfl : k = n := by omega
          exact h0 (Nat.div_eq_of_lt HA.out)
      have k1 := shr_u64 (K := a) (p := k) (by omega)
      have hsz := hE.size
      clear hend hB h0
      cases hb : a.testBit k with
      | true =>
        rw [hb, if_pos rfl] at hst k1
        have HST := hid hst
        clear hst hb
        go_wp2_with (first | (at_builtin; refine wpList_append_own _ rfl _ _ 22 rfl w.heap.size 3 i0 _ _ _ Try.underlying22 hi hz0 hz1 hz2 rfl (by decide) _ _ _ rfl (hrow.alloc _) _ 1 1 [.int .i64 (k : Int)] rfl rfl (cell_new1 _ _ _ _ (by simp)) (fun x hx => by simp at hx; subst hx; rfl) (by unfold maxLen; omega) (by omega) (by simp; omega) ?_; intro v' w3 hown' hgrow' hnil'))
        go_roundw
        case rel =>
          refine ⟨k + 1, by omega, by go_num, ?_, ext_append ((by repeat (first | exact Ext.refl _ | assumption | refine Ext.alloc ?_ _ | refine Ext.drew ?_ | refine Ext.drewN ?_ _ | refine Ext.setCell ?_ (by first | exact Nat.le_refl _ | (simp; done) | (dsimp only; omega) | (simp only [World.size_alloc, World.size_setCell]; omega)) _ | refine Ext.trans ?_ (by assumption))) : Ext w _) (hrow.alloc _) (Nat.le_refl _) hgrow'⟩
          rw [HST.out, int_map_append, List.length_append]
          exact hown'
        case measure => simp [intOf]; omega
      | false =>
        rw [hb, if_neg (by decide)] at hst k1
        have HST := hid hst
        clear hst hb
        go_wp2_with (fail)
        go_roundw
        case rel =>
          refine ⟨k + 1, by omega, by go_num, ?_, hE⟩
          rw [HST.out]
          exact hrow
        case measure => simp [intOf]; omega

theorem row_base {w : World} {B b : Nat} {e : TypeId} {size : Nat} {v : Value} {n : Nat} {xs : List Value} (h : w.ownsRow B e size v n xs) (hb : b ≤ B) : w.ownsRow b e size v n xs := by
  obtain ⟨h1, h2⟩ := h
  refine ⟨h1, ?_⟩
  rcases h2 with h2 | ⟨g, cap, cur, h2, h3, h4⟩
  · exact .inl h2
  · exact .inr ⟨g, cap, cur, h2, by omega, h4⟩
theorem askB_nat {N W k : Int} {z : List Int} {n : Nat} (h : askB N W z n k = true) : ∃ a b c : Nat, N = a ∧ W = b ∧ k = c ∧ 1 ≤ a ∧ a ≤ 9 ∧ 1 ≤ b ∧ b ≤ 9 ∧ c ≤ 60 ∧ scB z n = true := by
  unfold askB goodB at h
  rw [Bool.and_eq_true, Bool.and_eq_true, Bool.and_eq_true, inR_iff, inR_iff, inR_iff] at h
  obtain ⟨⟨⟨h1, h2⟩, h3⟩, h4⟩ := h
  exact ⟨N.toNat, W.toNat, k.toNat, by omega, by omega, by omega, by omega, by omega, by omega, by omega, by omega, h3⟩
def arrL (N W : Int) (z : List Int) (n : Nat) (k : Int) : List Int := if askB N W z n k = true then bitsL (akS N.toNat W.toNat (lfZ z n) k.toNat).A N.toNat else []
def knL (N W : Int) (z : List Int) (n : Nat) (k : Int) : List Int := if askB N W z n k = true then bitsL (akS N.toNat W.toNat (lfZ z n) k.toNat).K N.toNat else []
def stV (N W : Int) (z : List Int) (n : Nat) (k : Int) : Int := if askB N W z n k = true then (if (akS N.toNat W.toNat (lfZ z n) k.toNat).K = 2 ^ N.toNat - 1 then 2 else if (akS N.toNat W.toNat (lfZ z n) k.toNat).A = 2 ^ N.toNat - 1 then 1 else 0) else 0


set_option maxRecDepth 100000 in
set_option maxHeartbeats 800000 in
theorem iArrivedAfter_any (N W : Int) (v : Value) (n : Nat) (z : List Int) (k : Int) (w : World) (h : IntRow .i64 1 w v n z) :
    Calls Try.prog 19 #[.int .i64 N, .int .i64 W, v, .int .i64 k] w fun e w' => ∃ v', e = .returned (.tuple #[v', .bool (askB N W z n k)]) ∧ w'.ownsRow w.heap.size 3 1 v' (arrL N W z n k).length ((arrL N W z n k).map (Value.int .i64)) ∧ Ext w w' := by
  have hh := h
  obtain ⟨hl, hm, hwf, a, c, rfl, hnc, hcm, hcell⟩ := h
  clear hwf hcell
  cases hask : askB N W z n k with
  | false =>
    rw [show arrL N W z n k = [] by unfold arrL; rw [hask]; rfl]
    have HA := hid hask
    clear hask
    go_enter Try.func19, Try.ntmps19
    go_wp2_with (go_at_call 40; refine (roundsAsked_any _ _ _ n z _ _ hh).mono ?_; rw [HA.out]; rintro e w' ⟨rfl, rfl⟩)
    go_ret2
    exact ⟨_, rfl, World.ownsRow_nil _ _ _ _, Ext.refl _⟩
  | true =>
    obtain ⟨N, W, k, rfl, rfl, rfl, h1, h2, h3, h4, h5, h6⟩ := askB_nat hask
    rw [show arrL N W z n k = bitsL (akS N W (lfZ z n) k).A N by unfold arrL; rw [hask, if_pos rfl, Int.toNat_natCast, Int.toNat_natCast, Int.toNat_natCast]]
    have HA := hid hask
    have HB := hid (akS_bd N W (lfZ z n) k)
    clear hask
    obtain ⟨X, hX⟩ : ∃ X, X = akS N W (lfZ z n) k := ⟨_, rfl⟩
    rw [← hX] at HB ⊢
    have HX := hid hX
    clear hX
    obtain ⟨r, A, K, s, d⟩ := X
    go_enter Try.func19, Try.ntmps19
    go_wp2_with (go_at_call 40; refine (roundsAsked_any _ _ _ n z _ _ hh).mono ?_; rw [HA.out]; rintro e w' ⟨rfl, rfl⟩)
    refine (runRounds_any N W k _ n z _ hh h6 h1 h2 h3 h4 (by omega)).mono ?_
    rw [← HX.out, show (akC ⟨r, A, K, s, d⟩).toArray = #[.int .u64 (A : Int), .int .u64 (K : Int), .int .i64 (r : Int), .int .i64 (s : Int), .int .i64 (d : Int)] from rfl]
    rintro e w1 ⟨rfl, hb1⟩
    have hfd : ∀ w : World, (Instr.field 54 (.agg #[.int .u64 (A : Int), .int .u64 (K : Int), .int .i64 (r : Int), .int .i64 (s : Int), .int .i64 (d : Int)]) 0).run Try.prog w = .ok (.int .u64 (A : Int)) w := fun _ => by kernel_rfl
    go_wp2_with (fail)
    refine (setBits_any _ N _ ?_ h2).mono ?_
    · exact HB.out.2.1
    rintro e w2 ⟨v2, rfl, hr2, hb2⟩
    go_wp2_with (fail)
    go_ret2
    exact ⟨_, rfl, row_base hr2 (Ext.size hb1), hb1.trans hb2⟩


set_option maxRecDepth 100000 in
set_option maxHeartbeats 800000 in
theorem iKnownAfter_any (N W : Int) (v : Value) (n : Nat) (z : List Int) (k : Int) (w : World) (h : IntRow .i64 1 w v n z) :
    Calls Try.prog 23 #[.int .i64 N, .int .i64 W, v, .int .i64 k] w fun e w' => ∃ v', e = .returned (.tuple #[v', .bool (askB N W z n k)]) ∧ w'.ownsRow w.heap.size 3 1 v' (knL N W z n k).length ((knL N W z n k).map (Value.int .i64)) ∧ Ext w w' := by
  have hh := h
  obtain ⟨hl, hm, hwf, a, c, rfl, hnc, hcm, hcell⟩ := h
  clear hwf hcell
  cases hask : askB N W z n k with
  | false =>
    rw [show knL N W z n k = [] by unfold knL; rw [hask]; rfl]
    have HA := hid hask
    clear hask
    go_enter Try.func23, Try.ntmps23
    go_wp2_with (go_at_call 40; refine (roundsAsked_any _ _ _ n z _ _ hh).mono ?_; rw [HA.out]; rintro e w' ⟨rfl, rfl⟩)
    go_ret2
    exact ⟨_, rfl, World.ownsRow_nil _ _ _ _, Ext.refl _⟩
  | true =>
    obtain ⟨N, W, k, rfl, rfl, rfl, h1, h2, h3, h4, h5, h6⟩ := askB_nat hask
    rw [show knL N W z n k = bitsL (akS N W (lfZ z n) k).K N by unfold knL; rw [hask, if_pos rfl, Int.toNat_natCast, Int.toNat_natCast, Int.toNat_natCast]]
    have HA := hid hask
    have HB := hid (akS_bd N W (lfZ z n) k)
    clear hask
    obtain ⟨X, hX⟩ : ∃ X, X = akS N W (lfZ z n) k := ⟨_, rfl⟩
    rw [← hX] at HB ⊢
    have HX := hid hX
    clear hX
    obtain ⟨r, A, K, s, d⟩ := X
    go_enter Try.func23, Try.ntmps23
    go_wp2_with (go_at_call 40; refine (roundsAsked_any _ _ _ n z _ _ hh).mono ?_; rw [HA.out]; rintro e w' ⟨rfl, rfl⟩)
    refine (runRounds_any N W k _ n z _ hh h6 h1 h2 h3 h4 (by omega)).mono ?_
    rw [← HX.out, show (akC ⟨r, A, K, s, d⟩).toArray = #[.int .u64 (A : Int), .int .u64 (K : Int), .int .i64 (r : Int), .int .i64 (s : Int), .int .i64 (d : Int)] from rfl]
    rintro e w1 ⟨rfl, hb1⟩
    have hfd : ∀ w : World, (Instr.field 54 (.agg #[.int .u64 (A : Int), .int .u64 (K : Int), .int .i64 (r : Int), .int .i64 (s : Int), .int .i64 (d : Int)]) 1).run Try.prog w = .ok (.int .u64 (K : Int)) w := fun _ => by kernel_rfl
    go_wp2_with (fail)
    refine (setBits_any _ N _ ?_ h2).mono ?_
    · exact HB.out.2.2.1
    rintro e w2 ⟨v2, rfl, hr2, hb2⟩
    go_wp2_with (fail)
    go_ret2
    exact ⟨_, rfl, row_base hr2 (Ext.size hb1), hb1.trans hb2⟩


set_option maxRecDepth 100000 in
set_option maxHeartbeats 800000 in
theorem iStandsAfter_any (N W : Int) (v : Value) (n : Nat) (z : List Int) (k : Int) (w : World) (h : IntRow .i64 1 w v n z) :
    Calls Try.prog 12 #[.int .i64 N, .int .i64 W, v, .int .i64 k] w fun e w' => e = .returned (.tuple #[.int .i64 (stV N W z n k), .bool (askB N W z n k)]) ∧ Ext w w' := by
  have hh := h
  obtain ⟨hl, hm, hwf, a, c, rfl, hnc, hcm, hcell⟩ := h
  clear hwf hcell
  cases hask : askB N W z n k with
  | false =>
    rw [show stV N W z n k = 0 by unfold stV; rw [hask]; rfl]
    have HA := hid hask
    clear hask
    go_enter Try.func12, Try.ntmps12
    go_wp2_with (go_at_call 40; refine (roundsAsked_any _ _ _ n z _ _ hh).mono ?_; rw [HA.out]; rintro e w' ⟨rfl, rfl⟩)
    go_ret2
    exact ⟨rfl, Ext.refl _⟩
  | true =>
    obtain ⟨N, W, k, rfl, rfl, rfl, h1, h2, h3, h4, h5, h6⟩ := askB_nat hask
    rw [show stV N W z n k = (if (akS N W (lfZ z n) k).K = 2 ^ N - 1 then 2 else if (akS N W (lfZ z n) k).A = 2 ^ N - 1 then 1 else 0) by unfold stV; rw [hask, if_pos rfl, Int.toNat_natCast, Int.toNat_natCast, Int.toNat_natCast]]
    have HA := hid hask
    have HB := akS_bd N W (lfZ z n) k
    clear hask
    obtain ⟨X, hX⟩ : ∃ X, X = akS N W (lfZ z n) k := ⟨_, rfl⟩
    rw [← hX] at HB ⊢
    have HX := hid hX
    clear hX
    obtain ⟨r, A, K, s, d⟩ := X
    obtain ⟨hb1, hb2, hb3, hb4, hb5, hb6⟩ := HB
    simp only at hb1 hb2 hb3 hb4 hb5 hb6 ⊢
    clear hb6
    have hpN := pow_small h2
    have hp1 := Nat.two_pow_pos N
    have b4 : N * k ≤ 9 * 1000 := Nat.mul_le_mul h2 (by omega)
    have hpc : (2 : Int) ^ N = ((2 ^ N : Nat) : Int) := by push_cast; rfl
    obtain ⟨F, hF⟩ : ∃ F : Nat, F = 2 ^ N - 1 := ⟨_, rfl⟩
    obtain ⟨M, hM⟩ : ∃ M : Int, M = (2 : Int) ^ N := ⟨_, rfl⟩
    have hw1 : IntKind.u64.wrap (2 ^ N) = M := by rw [hM]; exact wrap_pow h2
    have hw2 : IntKind.u64.wrap (M - 1) = (F : Int) := by rw [IntKind.wrap_u64]; omega
    rw [← hF]
    have bA : A < 18446744073709551616 := by omega
    clear hpN hp1 b4 hb2 hb3 hb4 hb5 hF hM hpc
    by_cases e1 : K = F
    · rw [if_pos e1]
      have t1 : ((K : Int) == (F : Int)) = true := by simp; omega
      have t1b : (K == F) = true := by simp; omega
      go_enter Try.func12, Try.ntmps12
      go_wp2_with (go_at_call 40; refine (roundsAsked_any _ _ _ n z _ _ hh).mono ?_; rw [HA.out]; rintro e w' ⟨rfl, rfl⟩)
      refine (runRounds_any N W k _ n z _ hh h6 h1 h2 h3 h4 (by omega)).mono ?_
      rw [← HX.out, show (akC ⟨r, A, K, s, d⟩).toArray = #[.int .u64 (A : Int), .int .u64 (K : Int), .int .i64 (r : Int), .int .i64 (s : Int), .int .i64 (d : Int)] from rfl]
      rintro e w1 ⟨rfl, hx1⟩
      go_wp2_with (fail)
      go_ret2
      exact ⟨rfl, (by repeat (first | exact Ext.refl _ | assumption | refine Ext.alloc ?_ _ | refine Ext.drew ?_ | refine Ext.drewN ?_ _ | refine Ext.setCell ?_ (by first | exact Nat.le_refl _ | (simp; done) | (dsimp only; omega) | (simp only [World.size_alloc, World.size_setCell]; omega)) _ | refine Ext.trans ?_ (by assumption)))⟩
    · rw [if_neg e1]
      have t1 : ((K : Int) == (F : Int)) = false := by simp; omega
      have t1b : (K == F) = false := by simp; omega
      by_cases e2 : A = F
      · rw [if_pos e2]
        have t2 : ((A : Int) == (F : Int)) = true := by simp; omega
        have t2b : (A == F) = true := by simp; omega
        go_enter Try.func12, Try.ntmps12
        go_wp2_with (go_at_call 40; refine (roundsAsked_any _ _ _ n z _ _ hh).mono ?_; rw [HA.out]; rintro e w' ⟨rfl, rfl⟩)
        refine (runRounds_any N W k _ n z _ hh h6 h1 h2 h3 h4 (by omega)).mono ?_
        rw [← HX.out, show (akC ⟨r, A, K, s, d⟩).toArray = #[.int .u64 (A : Int), .int .u64 (K : Int), .int .i64 (r : Int), .int .i64 (s : Int), .int .i64 (d : Int)] from rfl]
        rintro e w1 ⟨rfl, hx1⟩
        go_wp2_with (fail)
        go_ret2
        exact ⟨rfl, (by repeat (first | exact Ext.refl _ | assumption | refine Ext.alloc ?_ _ | refine Ext.drew ?_ | refine Ext.drewN ?_ _ | refine Ext.setCell ?_ (by first | exact Nat.le_refl _ | (simp; done) | (dsimp only; omega) | (simp only [World.size_alloc, World.size_setCell]; omega)) _ | refine Ext.trans ?_ (by assumption)))⟩
      · rw [if_neg e2]
        have t2 : ((A : Int) == (F : Int)) = false := by simp; omega
        have t2b : (A == F) = false := by simp; omega
        go_enter Try.func12, Try.ntmps12
        go_wp2_with (go_at_call 40; refine (roundsAsked_any _ _ _ n z _ _ hh).mono ?_; rw [HA.out]; rintro e w' ⟨rfl, rfl⟩)
        refine (runRounds_any N W k _ n z _ hh h6 h1 h2 h3 h4 (by omega)).mono ?_
        rw [← HX.out, show (akC ⟨r, A, K, s, d⟩).toArray = #[.int .u64 (A : Int), .int .u64 (K : Int), .int .i64 (r : Int), .int .i64 (s : Int), .int .i64 (d : Int)] from rfl]
        rintro e w1 ⟨rfl, hx1⟩
        go_wp2_with (fail)
        go_ret2
        exact ⟨rfl, (by repeat (first | exact Ext.refl _ | assumption | refine Ext.alloc ?_ _ | refine Ext.drew ?_ | refine Ext.drewN ?_ _ | refine Ext.setCell ?_ (by first | exact Nat.le_refl _ | (simp; done) | (dsimp only; omega) | (simp only [World.size_alloc, World.size_setCell]; omega)) _ | refine Ext.trans ?_ (by assumption)))⟩

end Go.Proofs.Ytmmmiccpimplhaa
