/- The chapter of held messages: how many jobs are held, the most held, the sum of the waits. No condition. -/
import Derived.Test.YtlmfohjfbolhpaaHldG
namespace Go.Proofs.Ytlmfohjfbolhpaa
open Go.RowKit
set_option linter.unusedSimpArgs false
set_option linter.unusedVariables false

theorem hsL_bd {nL : Nat} {zF : List Int} {nF : Nat} {zJ : List Int} {m : Nat} (link : Int) (h : okFg nL zF nF = true) (hJ : okHs zJ m = true) : ∀ j, j < m → 0 ≤ (hsL zF nF link zJ m).getD j 0 ∧ (hsL zF nF link zJ m).getD j 0 ≤ 30000 := fun j hj => by
  have h1 := okHs_iff hJ
  rw [hsL_getD _ _ _ _ hj]
  have := hsAt_bd link h h1.2 j hj
  omega
theorem getD_of_mem {l : List Int} {x : Int} (h : x ∈ l) : ∃ j, j < l.length ∧ l.getD j 0 = x := by
  obtain ⟨j, hj, rfl⟩ := List.getElem_of_mem h
  exact ⟨j, hj, by simp [List.getD_eq_getElem?_getD, hj]⟩
theorem hsL_wf {nL : Nat} {zF : List Int} {nF : Nat} {zJ : List Int} {m : Nat} (link : Int) (h : okFg nL zF nF = true) (hJ : okHs zJ m = true) : ∀ x ∈ hsL zF nF link zJ m, (Lit.int .i64 x).wf = true := fun x hx => by
  obtain ⟨j, hj, rfl⟩ := getD_of_mem hx
  have := hsL_bd link h hJ j (by rwa [hsL_length] at hj)
  exact small_wf (by omega) (by omega)


set_option maxRecDepth 100000 in
set_option maxHeartbeats 1600000 in
theorem heldAt_any (x s : Value) (m : Nat) (y S : List Int) (t : Int) (w : World) (hJ : IntRow .i64 2 w x m y) (hS : IntRow .i64 1 w s m S) (hm20 : m ≤ 20) (hSb : ∀ j, j < m → 0 ≤ S.getD j 0 ∧ S.getD j 0 ≤ 30000) :
    Calls Try.prog 104 #[x, s, .int .i64 t] w fun e w' => e = .returned (.int .i64 (heldN y S t m : Nat)) ∧ Ext w w' := by
  obtain ⟨hl, hm, hwf, a, c, rfl, hnc, hcm, hcell⟩ := hJ
  obtain ⟨hl2, _, _, a2, c2, rfl, _, _, hcell2⟩ := hS
  have HSB := hid hSb
  clear hwf hSb
  obtain ⟨V, hV⟩ : ∃ V, V = heldN y S t m := ⟨_, rfl⟩
  rw [← hV]
  have HV := hid hV
  clear hV
  go_enter Try.func104, Try.ntmps104
  go_wp2_with (fail)
  go_loopw [7, 12] (fun q i wr => ∃ (k : Nat), k ≤ m ∧ i = .int .i64 (k : Int) ∧ q = .int .i64 (heldN y S t k : Nat) ∧ Ext w wr)
    (fun _ i _ => m - (intOf i).toNat)
  case atStart => exact ⟨0, Nat.zero_le _, rfl, rfl, Ext.refl _⟩
  case round =>
    obtain ⟨k, hk, rfl, rfl, hE⟩ := hrel
    have hN := heldN_le y S t k
    by_cases hlt : k < m
    · obtain ⟨b, o, rfl, hb, hc⟩ := hcell.resolve_left (by omega)
      obtain ⟨b2, o2, rfl, hb2, hc2⟩ := hcell2.resolve_left (by omega)
      obtain ⟨z, hz⟩ : ∃ z, z = y := ⟨_, rfl⟩
      rw [← hz] at hc
      obtain ⟨x0, hx0⟩ : ∃ x, x = z.getD (k * 2) 0 := ⟨_, rfl⟩
      have s0 : wr.cell? ⟨b, o + k * 2, none⟩ = some (.int .i64 x0) := by rw [(Ext.cells hE).1 _ _ hb, show o + k * 2 = o + (k * 2) by omega, hc _ (by omega), hx0]
      have H0 := hid hx0
      clear hx0
      obtain ⟨x1, hx1⟩ : ∃ x, x = z.getD (k * 2 + 1) 0 := ⟨_, rfl⟩
      have s1 : wr.cell? ⟨b, o + k * 2 + 1, none⟩ = some (.int .i64 x1) := by rw [(Ext.cells hE).1 _ _ hb, show o + k * 2 + 1 = o + (k * 2 + 1) by omega, hc _ (by omega), hx1]
      have H1 := hid hx1
      clear hx1
      obtain ⟨v, hv⟩ : ∃ v, v = S.getD k 0 := ⟨_, rfl⟩
      have hvb := HSB.out k hlt
      rw [← hv] at hvb
      obtain ⟨hv0, hv1⟩ := hvb
      have hbr2 : b2 < wr.heap.size := Nat.lt_of_lt_of_le hb2 hE.size
      have sv : wr.cell? ⟨b2, o2 + k, none⟩ = some (.int .i64 v) := by rw [(Ext.cells hE).1 _ _ hb2, hc2 _ (by omega), hv]
      have hst : Hid (heldN y S t (k + 1) = if x0 ≤ t ∧ t < v then heldN y S t k + 1 else heldN y S t k) := hid (by rw [H0.out, hv, hz]; rfl)
      obtain ⟨A, hA⟩ : ∃ A, A = heldN y S t k := ⟨_, rfl⟩
      rw [← hA] at hst hN ⊢
      have HA := hid hA
      clear hc hc2 hcell hcell2 hz hv hA

      by_cases h1 : x0 ≤ t
      · have d1 : decide (x0 ≤ t) = true := decide_eq_true h1
        by_cases h2 : t < v
        · have d2 : decide (t < v) = true := decide_eq_true h2
          have HST := hid (show heldN y S t (k + 1) = A + 1 by rw [hst.out, if_pos ⟨h1, h2⟩])
          go_wp2_with (fail)
          go_roundw
          case rel => exact ⟨k + 1, by omega, by go_num, by rw [HST.out]; rfl, (by repeat (first | exact Ext.refl _ | assumption | refine Ext.alloc ?_ _ | refine Ext.drew ?_ | refine Ext.drewN ?_ _ | refine Ext.setCell ?_ (by first | exact Nat.le_refl _ | (simp; done) | (dsimp only; omega) | (simp only [World.size_alloc, World.size_setCell]; omega)) _ | refine Ext.trans ?_ (by assumption)))⟩
          case measure => simp [intOf]; omega
        · have d2 : decide (t < v) = false := decide_eq_false h2
          have HST := hid (show heldN y S t (k + 1) = A by rw [hst.out, if_neg (fun hc => h2 hc.2)])
          go_wp2_with (fail)
          go_roundw
          case rel => exact ⟨k + 1, by omega, by go_num, by rw [HST.out], (by repeat (first | exact Ext.refl _ | assumption | refine Ext.alloc ?_ _ | refine Ext.drew ?_ | refine Ext.drewN ?_ _ | refine Ext.setCell ?_ (by first | exact Nat.le_refl _ | (simp; done) | (dsimp only; omega) | (simp only [World.size_alloc, World.size_setCell]; omega)) _ | refine Ext.trans ?_ (by assumption)))⟩
          case measure => simp [intOf]; omega
      · have d1 : decide (x0 ≤ t) = false := decide_eq_false h1
        have HST := hid (show heldN y S t (k + 1) = A by rw [hst.out, if_neg (fun hc => h1 hc.1)])
        go_wp2_with (fail)
        go_roundw
        case rel => exact ⟨k + 1, by omega, by go_num, by rw [HST.out], (by repeat (first | exact Ext.refl _ | assumption | refine Ext.alloc ?_ _ | refine Ext.drew ?_ | refine Ext.drewN ?_ _ | refine Ext.setCell ?_ (by first | exact Nat.le_refl _ | (simp; done) | (dsimp only; omega) | (simp only [World.size_alloc, World.size_setCell]; omega)) _ | refine Ext.trans ?_ (by assumption)))⟩
        case measure => simp [intOf]; omega

    · obtain rfl : k = m := by omega
      clear hcell hcell2
      go_wp2_with (fail)
      go_ret
      exact ⟨ret_int (by rw [HV.out]), (by repeat (first | exact Ext.refl _ | assumption | refine Ext.alloc ?_ _ | refine Ext.drew ?_ | refine Ext.drewN ?_ _ | refine Ext.setCell ?_ (by first | exact Nat.le_refl _ | (simp; done) | (dsimp only; omega) | (simp only [World.size_alloc, World.size_setCell]; omega)) _ | refine Ext.trans ?_ (by assumption)))⟩


set_option maxRecDepth 100000 in
set_option maxHeartbeats 1600000 in
theorem hoHeld_any (x s : Value) (m : Nat) (y S : List Int) (t : Int) (w : World) (hJ : IntRow .i64 2 w x m y) (hS : IntRow .i64 1 w s m S) (hm20 : m ≤ 20) (hSb : ∀ j, j < m → 0 ≤ S.getD j 0 ∧ S.getD j 0 ≤ 30000) :
    Calls Try.prog 103 #[x, s, .int .i64 t] w fun e w' => e = .returned (.int .i64 (heldN y S t m : Nat)) ∧ Ext w w' := by
  obtain ⟨hl, hm, hwf, a, c, rfl, hnc, hcm, hcell⟩ := hJ
  obtain ⟨hl2, _, _, a2, c2, rfl, _, _, hcell2⟩ := hS
  have HSB := hid hSb
  clear hwf hSb
  obtain ⟨V, hV⟩ : ∃ V, V = heldN y S t m := ⟨_, rfl⟩
  rw [← hV]
  have HV := hid hV
  clear hV
  go_enter Try.func103, Try.ntmps103
  go_wp2_with (fail)
  go_loopw [7, 12] (fun q i wr => ∃ (k : Nat), k ≤ m ∧ i = .int .i64 (k : Int) ∧ q = .int .i64 (heldN y S t k : Nat) ∧ Ext w wr)
    (fun _ i _ => m - (intOf i).toNat)
  case atStart => exact ⟨0, Nat.zero_le _, rfl, rfl, Ext.refl _⟩
  case round =>
    obtain ⟨k, hk, rfl, rfl, hE⟩ := hrel
    have hN := heldN_le y S t k
    by_cases hlt : k < m
    · obtain ⟨b, o, rfl, hb, hc⟩ := hcell.resolve_left (by omega)
      obtain ⟨b2, o2, rfl, hb2, hc2⟩ := hcell2.resolve_left (by omega)
      obtain ⟨z, hz⟩ : ∃ z, z = y := ⟨_, rfl⟩
      rw [← hz] at hc
      obtain ⟨x0, hx0⟩ : ∃ x, x = z.getD (k * 2) 0 := ⟨_, rfl⟩
      have s0 : wr.cell? ⟨b, o + k * 2, none⟩ = some (.int .i64 x0) := by rw [(Ext.cells hE).1 _ _ hb, show o + k * 2 = o + (k * 2) by omega, hc _ (by omega), hx0]
      have H0 := hid hx0
      clear hx0
      obtain ⟨x1, hx1⟩ : ∃ x, x = z.getD (k * 2 + 1) 0 := ⟨_, rfl⟩
      have s1 : wr.cell? ⟨b, o + k * 2 + 1, none⟩ = some (.int .i64 x1) := by rw [(Ext.cells hE).1 _ _ hb, show o + k * 2 + 1 = o + (k * 2 + 1) by omega, hc _ (by omega), hx1]
      have H1 := hid hx1
      clear hx1
      obtain ⟨v, hv⟩ : ∃ v, v = S.getD k 0 := ⟨_, rfl⟩
      have hvb := HSB.out k hlt
      rw [← hv] at hvb
      obtain ⟨hv0, hv1⟩ := hvb
      have hbr2 : b2 < wr.heap.size := Nat.lt_of_lt_of_le hb2 hE.size
      have sv : wr.cell? ⟨b2, o2 + k, none⟩ = some (.int .i64 v) := by rw [(Ext.cells hE).1 _ _ hb2, hc2 _ (by omega), hv]
      have hst : Hid (heldN y S t (k + 1) = if x0 ≤ t ∧ t < v then heldN y S t k + 1 else heldN y S t k) := hid (by rw [H0.out, hv, hz]; rfl)
      obtain ⟨A, hA⟩ : ∃ A, A = heldN y S t k := ⟨_, rfl⟩
      rw [← hA] at hst hN ⊢
      have HA := hid hA
      clear hc hc2 hcell hcell2 hz hv hA

      have hsw : IntKind.i64.wrap (v - 1) = v - 1 := IntWalk.i64_in _ (by omega)
      cases hin : inR t x0 (v - 1) with
      | true =>
        have HST := hid (show heldN y S t (k + 1) = A + 1 by rw [hst.out, if_pos (by have := inR_iff.1 hin; omega)])
        go_wp2_with (fail)
        go_quiet ((go_at_call 67; exact quiet_same (l1In_any _ _ _ _)))
        go_wp2_with (fail)
        all_goals first
          | (rename_i hbad; exact absurd (hbad.symm.trans hin) (by decide))
          | (go_roundw
             case rel => exact ⟨k + 1, by omega, by go_num, by rw [HST.out]; rfl, (by repeat (first | exact Ext.refl _ | assumption | refine Ext.alloc ?_ _ | refine Ext.drew ?_ | refine Ext.drewN ?_ _ | refine Ext.setCell ?_ (by first | exact Nat.le_refl _ | (simp; done) | (dsimp only; omega) | (simp only [World.size_alloc, World.size_setCell]; omega)) _ | refine Ext.trans ?_ (by assumption)))⟩
             case measure => simp [intOf]; omega)
      | false =>
        have HST := hid (show heldN y S t (k + 1) = A by rw [hst.out, if_neg (by have := inR_not.1 hin; omega)])
        go_wp2_with (fail)
        go_quiet ((go_at_call 67; exact quiet_same (l1In_any _ _ _ _)))
        go_wp2_with (fail)
        all_goals first
          | (rename_i hbad; exact absurd (hbad.symm.trans hin) (by decide))
          | (go_roundw
             case rel => exact ⟨k + 1, by omega, by go_num, by rw [HST.out], (by repeat (first | exact Ext.refl _ | assumption | refine Ext.alloc ?_ _ | refine Ext.drew ?_ | refine Ext.drewN ?_ _ | refine Ext.setCell ?_ (by first | exact Nat.le_refl _ | (simp; done) | (dsimp only; omega) | (simp only [World.size_alloc, World.size_setCell]; omega)) _ | refine Ext.trans ?_ (by assumption)))⟩
             case measure => simp [intOf]; omega)

    · obtain rfl : k = m := by omega
      clear hcell hcell2
      go_wp2_with (fail)
      go_ret
      exact ⟨ret_int (by rw [HV.out]), (by repeat (first | exact Ext.refl _ | assumption | refine Ext.alloc ?_ _ | refine Ext.drew ?_ | refine Ext.drewN ?_ _ | refine Ext.setCell ?_ (by first | exact Nat.le_refl _ | (simp; done) | (dsimp only; omega) | (simp only [World.size_alloc, World.size_setCell]; omega)) _ | refine Ext.trans ?_ (by assumption)))⟩


def hoC (nT : Nat) (zT : List Int) (nL : Nat) (zL zF : List Int) (nF : Nat) (link : Int) (y : List Int) (m : Nat) : Bool := askH nT zT nL zL zF nF link && okHs y m
def haC (nT : Nat) (zT : List Int) (nL : Nat) (zL zF : List Int) (nF : Nat) (link : Int) (y : List Int) (m : Nat) (t : Int) : Bool := hoC nT zT nL zL zF nF link y m && inR t 0 10000
def haV (nT : Nat) (zT : List Int) (nL : Nat) (zL zF : List Int) (nF : Nat) (link : Int) (y : List Int) (m : Nat) (t : Int) : Int := if haC nT zT nL zL zF nF link y m t = true then (heldN y (hsL zF nF link y m) t m : Int) else 0
def wsV (nT : Nat) (zT : List Int) (nL : Nat) (zL zF : List Int) (nF : Nat) (link : Int) (y : List Int) (m : Nat) : Int := if hoC nT zT nL zL zF nF link y m = true then waitS y (hsL zF nF link y m) m else 0
def mhV (nT : Nat) (zT : List Int) (nL : Nat) (zL zF : List Int) (nF : Nat) (link : Int) (y : List Int) (m : Nat) : Int × Int := if hoC nT zT nL zL zF nF link y m = true then mostH y (hsL zF nF link y m) m m else (0, 0)


set_option maxRecDepth 100000 in
set_option maxHeartbeats 3200000 in
theorem iHeldAt_any (v : Value) (nT : Nat) (zT : List Int) (nL : Nat) (zL : List Int) (u : Value) (nF : Nat) (zF : List Int) (link : Int) (x : Value) (m : Nat) (y : List Int) (t : Int) (w : World) (hN : NetRow w v nT zT nL zL) (hF : IntRow .i64 3 w u nF zF) (hJ : IntRow .i64 2 w x m y) :
    Calls Try.prog 47 #[v, u, .int .i64 link, x, .int .i64 t] w fun e w' => e = .returned (.tuple #[.int .i64 (haV nT zT nL zL zF nF link y m t), .bool (haC nT zT nL zL zF nF link y m t)]) ∧ Ext w w' := by
  unfold haV haC hoC
  have hN0 := hN
  have hF0 := hF
  have hJ0 := hJ
  obtain ⟨vT, vL, rfl, hT, hL⟩ := hN
  obtain ⟨_, hmT, _, aT, cT, rfl, _, _, _⟩ := hT
  obtain ⟨_, hmL, _, aL, cL, rfl, _, _, _⟩ := hL
  obtain ⟨_, _, _, aF, cF, rfl, _, _, _⟩ := hF
  have hnL : nL ≤ 9223372036854775807 := by unfold maxLen at hmL; omega
  clear hmT hmL
  have C0 := fun (W : World) (hW : Ext w W) => holdAsked_any _ nT zT nL zL _ nF zF link x m y W (hN0.ext hW) (hF0.ext hW) (hJ0.ext hW)
  cases hA : (askH nT zT nL zL zF nF link && okHs y m) with
  | false =>
    rw [hA] at C0
    have HA := hid hA
    clear hA
    rw [show (false && inR t 0 10000) = false from rfl, if_neg (by simp)]
    go_enter Try.func47, Try.ntmps47
    go_wp2_with (fail)
    refine (C0 _ (by repeat (first | exact Ext.refl _ | assumption | refine Ext.alloc ?_ _ | refine Ext.drew ?_ | refine Ext.drewN ?_ _ | refine Ext.setCell ?_ (by first | exact Nat.le_refl _ | (simp; done) | (dsimp only; omega) | (simp only [World.size_alloc, World.size_setCell]; omega)) _ | refine Ext.trans ?_ (by assumption)))).mono ?_
    rintro e w1 ⟨rfl, hb1⟩
    have hz1 := Ext.size hb1
    try simp only [World.size_alloc, World.size_setCell] at hz1
    obtain ⟨hc1, hf1⟩ := Ext.cells hb1
    try have hk1_0_0 := fun o => hc1 (w.heap.size) o (by (try simp only [World.size_alloc, World.size_setCell]); omega)
    try have hj1_0_0 := fun o => hf1 (w.heap.size) o (by (try simp only [World.size_alloc, World.size_setCell]); omega)
    try have hy1_0_0 : w.heap.size < w1.heap.size := by omega
    try have hk1_0_1 := fun o => hc1 (w.heap.size + 1) o (by (try simp only [World.size_alloc, World.size_setCell]); omega)
    try have hj1_0_1 := fun o => hf1 (w.heap.size + 1) o (by (try simp only [World.size_alloc, World.size_setCell]); omega)
    try have hy1_0_1 : w.heap.size + 1 < w1.heap.size := by omega
    try have hk1_0_2 := fun o => hc1 (w.heap.size + 1 + 1) o (by (try simp only [World.size_alloc, World.size_setCell]); omega)
    try have hj1_0_2 := fun o => hf1 (w.heap.size + 1 + 1) o (by (try simp only [World.size_alloc, World.size_setCell]); omega)
    try have hy1_0_2 : w.heap.size + 1 + 1 < w1.heap.size := by omega
    clear hc1 hf1
    go_wp2_with (fail)
    go_ret2
    exact ⟨rfl, (by repeat (first | exact Ext.refl _ | assumption | refine Ext.alloc ?_ _ | refine Ext.drew ?_ | refine Ext.drewN ?_ _ | refine Ext.setCell ?_ (by first | exact Nat.le_refl _ | (simp; done) | (dsimp only; omega) | (simp only [World.size_alloc, World.size_setCell]; omega)) _ | refine Ext.trans ?_ (by assumption)))⟩
  | true =>
    rw [hA] at C0
    have hB := hA
    rw [Bool.and_eq_true] at hB
    obtain ⟨hB1, hB2⟩ := hB
    obtain ⟨ho1, ho2, ho3, ho4⟩ := askH_iff hB1
    obtain ⟨hm20, hjs⟩ := okHs_iff hB2
    have HOK := hid ho2
    have HJ := hid hB2
    have HNET := hid ho1
    have HJS := hid hjs
    have HA := hid hA
    clear hA hB1 hB2 ho1 ho2 hjs
    rw [Bool.true_and]
    cases hp : inR t 0 10000 with
    | false =>
      have HP := hid hp
      clear hp
      rw [if_neg (by simp)]
      go_enter Try.func47, Try.ntmps47
      go_wp2_with (fail)
      refine (C0 _ (by repeat (first | exact Ext.refl _ | assumption | refine Ext.alloc ?_ _ | refine Ext.drew ?_ | refine Ext.drewN ?_ _ | refine Ext.setCell ?_ (by first | exact Nat.le_refl _ | (simp; done) | (dsimp only; omega) | (simp only [World.size_alloc, World.size_setCell]; omega)) _ | refine Ext.trans ?_ (by assumption)))).mono ?_
      rintro e w1 ⟨rfl, hb1⟩
      have hz1 := Ext.size hb1
      try simp only [World.size_alloc, World.size_setCell] at hz1
      obtain ⟨hc1, hf1⟩ := Ext.cells hb1
      try have hk1_0_0 := fun o => hc1 (w.heap.size) o (by (try simp only [World.size_alloc, World.size_setCell]); omega)
      try have hj1_0_0 := fun o => hf1 (w.heap.size) o (by (try simp only [World.size_alloc, World.size_setCell]); omega)
      try have hy1_0_0 : w.heap.size < w1.heap.size := by omega
      try have hk1_0_1 := fun o => hc1 (w.heap.size + 1) o (by (try simp only [World.size_alloc, World.size_setCell]); omega)
      try have hj1_0_1 := fun o => hf1 (w.heap.size + 1) o (by (try simp only [World.size_alloc, World.size_setCell]); omega)
      try have hy1_0_1 : w.heap.size + 1 < w1.heap.size := by omega
      try have hk1_0_2 := fun o => hc1 (w.heap.size + 1 + 1) o (by (try simp only [World.size_alloc, World.size_setCell]); omega)
      try have hj1_0_2 := fun o => hf1 (w.heap.size + 1 + 1) o (by (try simp only [World.size_alloc, World.size_setCell]); omega)
      try have hy1_0_2 : w.heap.size + 1 + 1 < w1.heap.size := by omega
      clear hc1 hf1
      go_wp2_with (go_at_call 74; refine (within_any _ _ _ _).mono ?_; rw [HP.out]; rintro e w' ⟨rfl, rfl⟩)
      go_ret2
      exact ⟨rfl, (by repeat (first | exact Ext.refl _ | assumption | refine Ext.alloc ?_ _ | refine Ext.drew ?_ | refine Ext.drewN ?_ _ | refine Ext.setCell ?_ (by first | exact Nat.le_refl _ | (simp; done) | (dsimp only; omega) | (simp only [World.size_alloc, World.size_setCell]; omega)) _ | refine Ext.trans ?_ (by assumption)))⟩
    | true =>
      have HP := hid hp
      clear hp
      rw [if_pos rfl]
      have HSB := hid (hsL_bd link HOK.out HJ.out)
      have HSW := hid (hsL_wf link HOK.out HJ.out)
      go_enter Try.func47, Try.ntmps47
      go_wp2_with (fail)
      refine (C0 _ (by repeat (first | exact Ext.refl _ | assumption | refine Ext.alloc ?_ _ | refine Ext.drew ?_ | refine Ext.drewN ?_ _ | refine Ext.setCell ?_ (by first | exact Nat.le_refl _ | (simp; done) | (dsimp only; omega) | (simp only [World.size_alloc, World.size_setCell]; omega)) _ | refine Ext.trans ?_ (by assumption)))).mono ?_
      rintro e w1 ⟨rfl, hb1⟩
      have hz1 := Ext.size hb1
      try simp only [World.size_alloc, World.size_setCell] at hz1
      obtain ⟨hc1, hf1⟩ := Ext.cells hb1
      try have hk1_0_0 := fun o => hc1 (w.heap.size) o (by (try simp only [World.size_alloc, World.size_setCell]); omega)
      try have hj1_0_0 := fun o => hf1 (w.heap.size) o (by (try simp only [World.size_alloc, World.size_setCell]); omega)
      try have hy1_0_0 : w.heap.size < w1.heap.size := by omega
      try have hk1_0_1 := fun o => hc1 (w.heap.size + 1) o (by (try simp only [World.size_alloc, World.size_setCell]); omega)
      try have hj1_0_1 := fun o => hf1 (w.heap.size + 1) o (by (try simp only [World.size_alloc, World.size_setCell]); omega)
      try have hy1_0_1 : w.heap.size + 1 < w1.heap.size := by omega
      try have hk1_0_2 := fun o => hc1 (w.heap.size + 1 + 1) o (by (try simp only [World.size_alloc, World.size_setCell]); omega)
      try have hj1_0_2 := fun o => hf1 (w.heap.size + 1 + 1) o (by (try simp only [World.size_alloc, World.size_setCell]); omega)
      try have hy1_0_2 : w.heap.size + 1 + 1 < w1.heap.size := by omega
      clear hc1 hf1
      go_wp2_with (go_at_call 74; refine (within_any _ _ _ _).mono ?_; rw [HP.out]; rintro e w' ⟨rfl, rfl⟩)
      refine (holdStarts_any _ nF zF link x m y _ nL (hF0.ext (by repeat (first | exact Ext.refl _ | assumption | refine Ext.alloc ?_ _ | refine Ext.drew ?_ | refine Ext.drewN ?_ _ | refine Ext.setCell ?_ (by first | exact Nat.le_refl _ | (simp; done) | (dsimp only; omega) | (simp only [World.size_alloc, World.size_setCell]; omega)) _ | refine Ext.trans ?_ (by assumption)))) (hJ0.ext (by repeat (first | exact Ext.refl _ | assumption | refine Ext.alloc ?_ _ | refine Ext.drew ?_ | refine Ext.drewN ?_ _ | refine Ext.setCell ?_ (by first | exact Nat.le_refl _ | (simp; done) | (dsimp only; omega) | (simp only [World.size_alloc, World.size_setCell]; omega)) _ | refine Ext.trans ?_ (by assumption)))) HOK HJ).mono ?_
      rintro e w2 ⟨v2, rfl, hr2, hb2⟩
      go_wp2_with (fail)
      refine (heldAt_any x v2 m y _ t _ (hJ0.ext (by repeat (first | exact Ext.refl _ | assumption | refine Ext.alloc ?_ _ | refine Ext.drew ?_ | refine Ext.drewN ?_ _ | refine Ext.setCell ?_ (by first | exact Nat.le_refl _ | (simp; done) | (dsimp only; omega) | (simp only [World.size_alloc, World.size_setCell]; omega)) _ | refine Ext.trans ?_ (by assumption)))) (row_ints (row_ext hr2 (by repeat (first | exact Ext.refl _ | assumption | refine Ext.alloc ?_ _ | refine Ext.drew ?_ | refine Ext.drewN ?_ _ | refine Ext.setCell ?_ (by first | exact Nat.le_refl _ | (simp; done) | (dsimp only; omega) | (simp only [World.size_alloc, World.size_setCell]; omega)) _ | refine Ext.trans ?_ (by assumption)))) (by unfold maxLen; omega) HSW.out) hm20 HSB.out).mono ?_
      rintro e w3 ⟨rfl, hb3⟩
      go_wp2_with (fail)
      go_ret2
      exact ⟨rfl, (by repeat (first | exact Ext.refl _ | assumption | refine Ext.alloc ?_ _ | refine Ext.drew ?_ | refine Ext.drewN ?_ _ | refine Ext.setCell ?_ (by first | exact Nat.le_refl _ | (simp; done) | (dsimp only; omega) | (simp only [World.size_alloc, World.size_setCell]; omega)) _ | refine Ext.trans ?_ (by assumption)))⟩


set_option maxRecDepth 100000 in
set_option maxHeartbeats 3200000 in
theorem iWaitingSum_any (v : Value) (nT : Nat) (zT : List Int) (nL : Nat) (zL : List Int) (u : Value) (nF : Nat) (zF : List Int) (link : Int) (x : Value) (m : Nat) (y : List Int) (w : World) (hN : NetRow w v nT zT nL zL) (hF : IntRow .i64 3 w u nF zF) (hJ : IntRow .i64 2 w x m y) :
    Calls Try.prog 45 #[v, u, .int .i64 link, x] w fun e w' => e = .returned (.tuple #[.int .i64 (wsV nT zT nL zL zF nF link y m), .bool (hoC nT zT nL zL zF nF link y m)]) ∧ Ext w w' := by
  unfold wsV hoC
  have hN0 := hN
  have hF0 := hF
  have hJ0 := hJ
  obtain ⟨vT, vL, rfl, hT, hL⟩ := hN
  obtain ⟨_, hmT, _, aT, cT, rfl, _, _, _⟩ := hT
  obtain ⟨_, hmL, _, aL, cL, rfl, _, _, _⟩ := hL
  obtain ⟨_, _, _, aF, cF, rfl, _, _, _⟩ := hF
  have hnL : nL ≤ 9223372036854775807 := by unfold maxLen at hmL; omega
  clear hmT hmL
  have C0 := fun (W : World) (hW : Ext w W) => holdAsked_any _ nT zT nL zL _ nF zF link x m y W (hN0.ext hW) (hF0.ext hW) (hJ0.ext hW)
  cases hA : (askH nT zT nL zL zF nF link && okHs y m) with
  | false =>
    rw [hA] at C0
    have HA := hid hA
    clear hA
    rw [if_neg (by simp)]
    go_enter Try.func45, Try.ntmps45
    go_wp2_with (fail)
    refine (C0 _ (by repeat (first | exact Ext.refl _ | assumption | refine Ext.alloc ?_ _ | refine Ext.drew ?_ | refine Ext.drewN ?_ _ | refine Ext.setCell ?_ (by first | exact Nat.le_refl _ | (simp; done) | (dsimp only; omega) | (simp only [World.size_alloc, World.size_setCell]; omega)) _ | refine Ext.trans ?_ (by assumption)))).mono ?_
    rintro e w1 ⟨rfl, hb1⟩
    have hz1 := Ext.size hb1
    try simp only [World.size_alloc, World.size_setCell] at hz1
    obtain ⟨hc1, hf1⟩ := Ext.cells hb1
    try have hk1_0_0 := fun o => hc1 (w.heap.size) o (by (try simp only [World.size_alloc, World.size_setCell]); omega)
    try have hj1_0_0 := fun o => hf1 (w.heap.size) o (by (try simp only [World.size_alloc, World.size_setCell]); omega)
    try have hy1_0_0 : w.heap.size < w1.heap.size := by omega
    try have hk1_0_1 := fun o => hc1 (w.heap.size + 1) o (by (try simp only [World.size_alloc, World.size_setCell]); omega)
    try have hj1_0_1 := fun o => hf1 (w.heap.size + 1) o (by (try simp only [World.size_alloc, World.size_setCell]); omega)
    try have hy1_0_1 : w.heap.size + 1 < w1.heap.size := by omega
    try have hk1_0_2 := fun o => hc1 (w.heap.size + 1 + 1) o (by (try simp only [World.size_alloc, World.size_setCell]); omega)
    try have hj1_0_2 := fun o => hf1 (w.heap.size + 1 + 1) o (by (try simp only [World.size_alloc, World.size_setCell]); omega)
    try have hy1_0_2 : w.heap.size + 1 + 1 < w1.heap.size := by omega
    clear hc1 hf1
    go_wp2_with (fail)
    go_ret2
    exact ⟨rfl, (by repeat (first | exact Ext.refl _ | assumption | refine Ext.alloc ?_ _ | refine Ext.drew ?_ | refine Ext.drewN ?_ _ | refine Ext.setCell ?_ (by first | exact Nat.le_refl _ | (simp; done) | (dsimp only; omega) | (simp only [World.size_alloc, World.size_setCell]; omega)) _ | refine Ext.trans ?_ (by assumption)))⟩
  | true =>
    rw [hA] at C0
    have hB := hA
    rw [Bool.and_eq_true] at hB
    obtain ⟨hB1, hB2⟩ := hB
    obtain ⟨ho1, ho2, ho3, ho4⟩ := askH_iff hB1
    obtain ⟨hm20, hjs⟩ := okHs_iff hB2
    have HOK := hid ho2
    have HJ := hid hB2
    have HNET := hid ho1
    have HJS := hid hjs
    have HA := hid hA
    clear hA hB1 hB2 ho1 ho2 hjs
    rw [if_pos rfl]
    obtain ⟨S, hS⟩ : ∃ S, S = hsL zF nF link y m := ⟨_, rfl⟩
    rw [← hS]
    have hSb := hsL_bd link HOK.out HJ.out
    have hSw := hsL_wf link HOK.out HJ.out
    rw [← hS] at hSb hSw
    have HSB := hid hSb
    have HSW := hid hSw
    have HS := hid hS
    clear hS hSb hSw
    obtain ⟨V, hV⟩ : ∃ V, V = waitS y S m := ⟨_, rfl⟩
    rw [← hV]
    have HV := hid hV
    have HWB := hid (waitS_bd (zJ := y) (S := S) (n := m) (fun j hj => by have := HJS.out j hj; omega) HSB.out)
    clear hV
    go_enter Try.func45, Try.ntmps45
    go_wp2_with (fail)
    refine (C0 _ (by repeat (first | exact Ext.refl _ | assumption | refine Ext.alloc ?_ _ | refine Ext.drew ?_ | refine Ext.drewN ?_ _ | refine Ext.setCell ?_ (by first | exact Nat.le_refl _ | (simp; done) | (dsimp only; omega) | (simp only [World.size_alloc, World.size_setCell]; omega)) _ | refine Ext.trans ?_ (by assumption)))).mono ?_
    rintro e w1 ⟨rfl, hb1⟩
    have hz1 := Ext.size hb1
    try simp only [World.size_alloc, World.size_setCell] at hz1
    obtain ⟨hc1, hf1⟩ := Ext.cells hb1
    try have hk1_0_0 := fun o => hc1 (w.heap.size) o (by (try simp only [World.size_alloc, World.size_setCell]); omega)
    try have hj1_0_0 := fun o => hf1 (w.heap.size) o (by (try simp only [World.size_alloc, World.size_setCell]); omega)
    try have hy1_0_0 : w.heap.size < w1.heap.size := by omega
    try have hk1_0_1 := fun o => hc1 (w.heap.size + 1) o (by (try simp only [World.size_alloc, World.size_setCell]); omega)
    try have hj1_0_1 := fun o => hf1 (w.heap.size + 1) o (by (try simp only [World.size_alloc, World.size_setCell]); omega)
    try have hy1_0_1 : w.heap.size + 1 < w1.heap.size := by omega
    try have hk1_0_2 := fun o => hc1 (w.heap.size + 1 + 1) o (by (try simp only [World.size_alloc, World.size_setCell]); omega)
    try have hj1_0_2 := fun o => hf1 (w.heap.size + 1 + 1) o (by (try simp only [World.size_alloc, World.size_setCell]); omega)
    try have hy1_0_2 : w.heap.size + 1 + 1 < w1.heap.size := by omega
    clear hc1 hf1
    go_wp2_with (fail)
    refine (holdStarts_any _ nF zF link x m y _ nL (hF0.ext (by repeat (first | exact Ext.refl _ | assumption | refine Ext.alloc ?_ _ | refine Ext.drew ?_ | refine Ext.drewN ?_ _ | refine Ext.setCell ?_ (by first | exact Nat.le_refl _ | (simp; done) | (dsimp only; omega) | (simp only [World.size_alloc, World.size_setCell]; omega)) _ | refine Ext.trans ?_ (by assumption)))) (hJ0.ext (by repeat (first | exact Ext.refl _ | assumption | refine Ext.alloc ?_ _ | refine Ext.drew ?_ | refine Ext.drewN ?_ _ | refine Ext.setCell ?_ (by first | exact Nat.le_refl _ | (simp; done) | (dsimp only; omega) | (simp only [World.size_alloc, World.size_setCell]; omega)) _ | refine Ext.trans ?_ (by assumption)))) HOK HJ).mono ?_
    rw [← HS.out]
    rintro e w2 ⟨v2, rfl, hr2, hb2⟩
    have hE2 : Ext w w2 := (by repeat (first | exact Ext.refl _ | assumption | refine Ext.alloc ?_ _ | refine Ext.drew ?_ | refine Ext.drewN ?_ _ | refine Ext.setCell ?_ (by first | exact Nat.le_refl _ | (simp; done) | (dsimp only; omega) | (simp only [World.size_alloc, World.size_setCell]; omega)) _ | refine Ext.trans ?_ (by assumption)))
    have hS2 := row_ints hr2 (by unfold maxLen; omega) HSW.out
    have hJ2 := hJ0.ext hE2
    clear hb1 hb2 hr2 hz1
    obtain ⟨hl, hm, hwf, a, c, rfl, hnc, hcm, hcell⟩ := hJ2
    obtain ⟨hl2, _, _, a2, c2, rfl, _, _, hcell2⟩ := hS2
    clear hwf
    go_wp2_with (fail)
    go_loopw [10, 24] (fun q i wr => ∃ (k : Nat), k ≤ m ∧ i = .int .i64 (k : Int) ∧ q = .int .i64 (waitS y S k) ∧ Ext w2 wr)
      (fun _ i _ => m - (intOf i).toNat)
    case atStart => exact ⟨0, Nat.zero_le _, rfl, rfl, Ext.refl _⟩
    case round =>
      obtain ⟨k, hk, rfl, rfl, hE⟩ := hrel
      by_cases hlt : k < m
      · obtain ⟨b, o, rfl, hb, hc⟩ := hcell.resolve_left (by omega)
        obtain ⟨b2, o2, rfl, hb2, hc2⟩ := hcell2.resolve_left (by omega)
        obtain ⟨z, hz⟩ : ∃ z, z = y := ⟨_, rfl⟩
        rw [← hz] at hc
        obtain ⟨x0, hx0⟩ : ∃ x, x = z.getD (k * 2) 0 := ⟨_, rfl⟩
        have s0 : wr.cell? ⟨b, o + k * 2, none⟩ = some (.int .i64 x0) := by rw [(Ext.cells hE).1 _ _ hb, show o + k * 2 = o + (k * 2) by omega, hc _ (by omega), hx0]
        have H0 := hid hx0
        clear hx0
        obtain ⟨x1, hx1⟩ : ∃ x, x = z.getD (k * 2 + 1) 0 := ⟨_, rfl⟩
        have s1 : wr.cell? ⟨b, o + k * 2 + 1, none⟩ = some (.int .i64 x1) := by rw [(Ext.cells hE).1 _ _ hb, show o + k * 2 + 1 = o + (k * 2 + 1) by omega, hc _ (by omega), hx1]
        have H1 := hid hx1
        clear hx1
        obtain ⟨p, hp⟩ : ∃ p, p = S.getD k 0 := ⟨_, rfl⟩
        have hpb := HSB.out k hlt
        rw [← hp] at hpb
        obtain ⟨hp0, hp1⟩ := hpb
        have hj := HJS.out k hlt
        rw [show hRd y k = x0 by rw [H0.out, hz]; rfl] at hj
        obtain ⟨j1, j2, _, _⟩ := hj
        have sv : wr.cell? ⟨b2, o2 + k, none⟩ = some (.int .i64 p) := by rw [(Ext.cells hE).1 _ _ hb2, hc2 _ (by omega), hp]
        have hst : Hid (waitS y S (k + 1) = waitS y S k + (p - x0)) := hid (by rw [H0.out, hp, hz]; rfl)
        have hwb := HWB.out k hk
        obtain ⟨A, hA⟩ : ∃ A, A = waitS y S k := ⟨_, rfl⟩
        rw [← hA] at hst hwb ⊢
        have HA2 := hid hA
        clear hc hc2 hcell hcell2 hz hp hA
        go_wp2_with (fail)
        go_roundw
        case rel => exact ⟨k + 1, by omega, by go_num, by rw [hst.out], hE⟩
        case measure => simp [intOf]; omega
      · obtain rfl : k = m := by omega
        clear hcell hcell2
        go_wp2_with (fail)
        go_ret2
        rw [HV.out]
        exact ⟨rfl, hE2.trans hE⟩


set_option maxRecDepth 100000 in
set_option maxHeartbeats 3200000 in
theorem iMostHeld_any (v : Value) (nT : Nat) (zT : List Int) (nL : Nat) (zL : List Int) (u : Value) (nF : Nat) (zF : List Int) (link : Int) (x : Value) (m : Nat) (y : List Int) (w : World) (hN : NetRow w v nT zT nL zL) (hF : IntRow .i64 3 w u nF zF) (hJ : IntRow .i64 2 w x m y) :
    Calls Try.prog 49 #[v, u, .int .i64 link, x] w fun e w' => e = .returned (.tuple #[.int .i64 (mhV nT zT nL zL zF nF link y m).1, .int .i64 (mhV nT zT nL zL zF nF link y m).2, .bool (hoC nT zT nL zL zF nF link y m)]) ∧ Ext w w' := by
  unfold mhV hoC
  have hN0 := hN
  have hF0 := hF
  have hJ0 := hJ
  obtain ⟨vT, vL, rfl, hT, hL⟩ := hN
  obtain ⟨_, hmT, _, aT, cT, rfl, _, _, _⟩ := hT
  obtain ⟨_, hmL, _, aL, cL, rfl, _, _, _⟩ := hL
  obtain ⟨_, _, _, aF, cF, rfl, _, _, _⟩ := hF
  have hnL : nL ≤ 9223372036854775807 := by unfold maxLen at hmL; omega
  clear hmT hmL
  have C0 := fun (W : World) (hW : Ext w W) => holdAsked_any _ nT zT nL zL _ nF zF link x m y W (hN0.ext hW) (hF0.ext hW) (hJ0.ext hW)
  cases hA : (askH nT zT nL zL zF nF link && okHs y m) with
  | false =>
    rw [hA] at C0
    have HA := hid hA
    clear hA
    rw [if_neg (by simp)]
    go_enter Try.func49, Try.ntmps49
    go_wp2_with (fail)
    refine (C0 _ (by repeat (first | exact Ext.refl _ | assumption | refine Ext.alloc ?_ _ | refine Ext.drew ?_ | refine Ext.drewN ?_ _ | refine Ext.setCell ?_ (by first | exact Nat.le_refl _ | (simp; done) | (dsimp only; omega) | (simp only [World.size_alloc, World.size_setCell]; omega)) _ | refine Ext.trans ?_ (by assumption)))).mono ?_
    rintro e w1 ⟨rfl, hb1⟩
    have hz1 := Ext.size hb1
    try simp only [World.size_alloc, World.size_setCell] at hz1
    obtain ⟨hc1, hf1⟩ := Ext.cells hb1
    try have hk1_0_0 := fun o => hc1 (w.heap.size) o (by (try simp only [World.size_alloc, World.size_setCell]); omega)
    try have hj1_0_0 := fun o => hf1 (w.heap.size) o (by (try simp only [World.size_alloc, World.size_setCell]); omega)
    try have hy1_0_0 : w.heap.size < w1.heap.size := by omega
    try have hk1_0_1 := fun o => hc1 (w.heap.size + 1) o (by (try simp only [World.size_alloc, World.size_setCell]); omega)
    try have hj1_0_1 := fun o => hf1 (w.heap.size + 1) o (by (try simp only [World.size_alloc, World.size_setCell]); omega)
    try have hy1_0_1 : w.heap.size + 1 < w1.heap.size := by omega
    try have hk1_0_2 := fun o => hc1 (w.heap.size + 1 + 1) o (by (try simp only [World.size_alloc, World.size_setCell]); omega)
    try have hj1_0_2 := fun o => hf1 (w.heap.size + 1 + 1) o (by (try simp only [World.size_alloc, World.size_setCell]); omega)
    try have hy1_0_2 : w.heap.size + 1 + 1 < w1.heap.size := by omega
    clear hc1 hf1
    go_wp2_with (fail)
    go_ret3
    exact ⟨rfl, (by repeat (first | exact Ext.refl _ | assumption | refine Ext.alloc ?_ _ | refine Ext.drew ?_ | refine Ext.drewN ?_ _ | refine Ext.setCell ?_ (by first | exact Nat.le_refl _ | (simp; done) | (dsimp only; omega) | (simp only [World.size_alloc, World.size_setCell]; omega)) _ | refine Ext.trans ?_ (by assumption)))⟩
  | true =>
    rw [hA] at C0
    have hB := hA
    rw [Bool.and_eq_true] at hB
    obtain ⟨hB1, hB2⟩ := hB
    obtain ⟨ho1, ho2, ho3, ho4⟩ := askH_iff hB1
    obtain ⟨hm20, hjs⟩ := okHs_iff hB2
    have HOK := hid ho2
    have HJ := hid hB2
    have HNET := hid ho1
    have HJS := hid hjs
    have HA := hid hA
    clear hA hB1 hB2 ho1 ho2 hjs
    rw [if_pos rfl]
    obtain ⟨S, hS⟩ : ∃ S, S = hsL zF nF link y m := ⟨_, rfl⟩
    rw [← hS]
    have hSb := hsL_bd link HOK.out HJ.out
    have hSw := hsL_wf link HOK.out HJ.out
    rw [← hS] at hSb hSw
    have HSB := hid hSb
    have HSW := hid hSw
    have HS := hid hS
    clear hS hSb hSw
    obtain ⟨V, hV⟩ : ∃ V, V = mostH y S m m := ⟨_, rfl⟩
    rw [← hV]
    have HV := hid hV
    clear hV
    obtain ⟨V1, V2⟩ := V
    go_enter Try.func49, Try.ntmps49
    go_wp2_with (fail)
    refine (C0 _ (by repeat (first | exact Ext.refl _ | assumption | refine Ext.alloc ?_ _ | refine Ext.drew ?_ | refine Ext.drewN ?_ _ | refine Ext.setCell ?_ (by first | exact Nat.le_refl _ | (simp; done) | (dsimp only; omega) | (simp only [World.size_alloc, World.size_setCell]; omega)) _ | refine Ext.trans ?_ (by assumption)))).mono ?_
    rintro e w1 ⟨rfl, hb1⟩
    have hz1 := Ext.size hb1
    try simp only [World.size_alloc, World.size_setCell] at hz1
    obtain ⟨hc1, hf1⟩ := Ext.cells hb1
    try have hk1_0_0 := fun o => hc1 (w.heap.size) o (by (try simp only [World.size_alloc, World.size_setCell]); omega)
    try have hj1_0_0 := fun o => hf1 (w.heap.size) o (by (try simp only [World.size_alloc, World.size_setCell]); omega)
    try have hy1_0_0 : w.heap.size < w1.heap.size := by omega
    try have hk1_0_1 := fun o => hc1 (w.heap.size + 1) o (by (try simp only [World.size_alloc, World.size_setCell]); omega)
    try have hj1_0_1 := fun o => hf1 (w.heap.size + 1) o (by (try simp only [World.size_alloc, World.size_setCell]); omega)
    try have hy1_0_1 : w.heap.size + 1 < w1.heap.size := by omega
    try have hk1_0_2 := fun o => hc1 (w.heap.size + 1 + 1) o (by (try simp only [World.size_alloc, World.size_setCell]); omega)
    try have hj1_0_2 := fun o => hf1 (w.heap.size + 1 + 1) o (by (try simp only [World.size_alloc, World.size_setCell]); omega)
    try have hy1_0_2 : w.heap.size + 1 + 1 < w1.heap.size := by omega
    clear hc1 hf1
    go_wp2_with (fail)
    refine (holdStarts_any _ nF zF link x m y _ nL (hF0.ext (by repeat (first | exact Ext.refl _ | assumption | refine Ext.alloc ?_ _ | refine Ext.drew ?_ | refine Ext.drewN ?_ _ | refine Ext.setCell ?_ (by first | exact Nat.le_refl _ | (simp; done) | (dsimp only; omega) | (simp only [World.size_alloc, World.size_setCell]; omega)) _ | refine Ext.trans ?_ (by assumption)))) (hJ0.ext (by repeat (first | exact Ext.refl _ | assumption | refine Ext.alloc ?_ _ | refine Ext.drew ?_ | refine Ext.drewN ?_ _ | refine Ext.setCell ?_ (by first | exact Nat.le_refl _ | (simp; done) | (dsimp only; omega) | (simp only [World.size_alloc, World.size_setCell]; omega)) _ | refine Ext.trans ?_ (by assumption)))) HOK HJ).mono ?_
    rw [← HS.out]
    rintro e w2 ⟨v2, rfl, hr2, hb2⟩
    have hE2 : Ext w w2 := (by repeat (first | exact Ext.refl _ | assumption | refine Ext.alloc ?_ _ | refine Ext.drew ?_ | refine Ext.drewN ?_ _ | refine Ext.setCell ?_ (by first | exact Nat.le_refl _ | (simp; done) | (dsimp only; omega) | (simp only [World.size_alloc, World.size_setCell]; omega)) _ | refine Ext.trans ?_ (by assumption)))
    have hS2 := hid (row_ints hr2 (by unfold maxLen; omega) HSW.out)
    have hJ2 := hJ0.ext hE2
    have hJ3 := hid hJ2
    clear hb1 hb2 hr2 hz1
    obtain ⟨hl, hm, hwf, a, c, rfl, hnc, hcm, hcell⟩ := hJ2
    clear hwf
    go_wp2_with (fail)
    go_loopw [12, 13, 29] (fun q1 q2 i wr => ∃ (k : Nat), k ≤ m ∧ i = .int .i64 (k : Int) ∧ q1 = .int .i64 (mostH y S m k).1 ∧ q2 = .int .i64 (mostH y S m k).2 ∧ Ext w2 wr)
      (fun _ _ i _ => m - (intOf i).toNat)
    case atStart => exact ⟨0, Nat.zero_le _, rfl, rfl, rfl, Ext.refl _⟩
    case round =>
      obtain ⟨k, hk, rfl, rfl, rfl, hE⟩ := hrel
      by_cases hlt : k < m
      · obtain ⟨b, o, rfl, hb, hc⟩ := hcell.resolve_left (by omega)
        obtain ⟨z, hz⟩ : ∃ z, z = y := ⟨_, rfl⟩
        rw [← hz] at hc
        obtain ⟨x0, hx0⟩ : ∃ x, x = z.getD (k * 2) 0 := ⟨_, rfl⟩
        have s0 : wr.cell? ⟨b, o + k * 2, none⟩ = some (.int .i64 x0) := by rw [(Ext.cells hE).1 _ _ hb, show o + k * 2 = o + (k * 2) by omega, hc _ (by omega), hx0]
        have H0 := hid hx0
        clear hx0
        obtain ⟨x1, hx1⟩ : ∃ x, x = z.getD (k * 2 + 1) 0 := ⟨_, rfl⟩
        have s1 : wr.cell? ⟨b, o + k * 2 + 1, none⟩ = some (.int .i64 x1) := by rw [(Ext.cells hE).1 _ _ hb, show o + k * 2 + 1 = o + (k * 2 + 1) by omega, hc _ (by omega), hx1]
        have H1 := hid hx1
        clear hx1
        have hst : Hid (mostH y S m (k + 1) = if (mostH y S m k).2 < heldN y S x0 m then (x0, (heldN y S x0 m : Int)) else mostH y S m k) := hid (by rw [H0.out, hz]; rfl)
        have hbd := mostH_bd y S m k
        have hnb := heldN_le y S x0 m
        obtain ⟨A, hA⟩ : ∃ A, A = mostH y S m k := ⟨_, rfl⟩
        rw [← hA] at hst hbd ⊢
        have HA2 := hid hA
        clear hc hcell hz hA
        obtain ⟨A1, A2⟩ := A
        simp only at hbd hst ⊢
        obtain ⟨Q, hQ⟩ : ∃ Q, Q = heldN y S x0 m := ⟨_, rfl⟩
        rw [← hQ] at hst hnb
        have HQ := hid hQ
        clear hQ
        go_wp2_with (fail)
        refine (heldAt_any _ v2 m y S x0 _ (hJ3.out.ext (by repeat (first | exact Ext.refl _ | assumption | refine Ext.alloc ?_ _ | refine Ext.drew ?_ | refine Ext.drewN ?_ _ | refine Ext.setCell ?_ (by first | exact Nat.le_refl _ | (simp; done) | (dsimp only; omega) | (simp only [World.size_alloc, World.size_setCell]; omega)) _ | refine Ext.trans ?_ (by assumption)))) (hS2.out.ext (by repeat (first | exact Ext.refl _ | assumption | refine Ext.alloc ?_ _ | refine Ext.drew ?_ | refine Ext.drewN ?_ _ | refine Ext.setCell ?_ (by first | exact Nat.le_refl _ | (simp; done) | (dsimp only; omega) | (simp only [World.size_alloc, World.size_setCell]; omega)) _ | refine Ext.trans ?_ (by assumption)))) hm20 HSB.out).mono ?_
        rw [← HQ.out]
        rintro e w3 ⟨rfl, hb3⟩
        have p0 : w3.cell? ⟨wr.heap.size, 0, none⟩ = some (.int .i64 x0) := by rw [(Ext.cells hb3).1 _ _ (by simp)]; simp [go_sem]
        have hE3 : Ext w2 w3 := (by repeat (first | exact Ext.refl _ | assumption | refine Ext.alloc ?_ _ | refine Ext.drew ?_ | refine Ext.drewN ?_ _ | refine Ext.setCell ?_ (by first | exact Nat.le_refl _ | (simp; done) | (dsimp only; omega) | (simp only [World.size_alloc, World.size_setCell]; omega)) _ | refine Ext.trans ?_ (by assumption)))
        clear hb3 hE s0 s1
        by_cases hq : A2 < (Q : Int)
        · have dq : decide (A2 < (Q : Int)) = true := decide_eq_true hq
          have HST := hid (show mostH y S m (k + 1) = (x0, (Q : Int)) by rw [hst.out, if_pos hq])
          go_wp2_with (fail)
          go_roundw
          case rel => exact ⟨k + 1, by omega, by go_num, by rw [HST.out], by rw [HST.out], hE3⟩
          case measure => simp [intOf]; omega
        · have dq : decide (A2 < (Q : Int)) = false := decide_eq_false hq
          have HST := hid (show mostH y S m (k + 1) = (A1, A2) by rw [hst.out, if_neg hq])
          go_wp2_with (fail)
          go_roundw
          case rel => exact ⟨k + 1, by omega, by go_num, by rw [HST.out], by rw [HST.out], hE3⟩
          case measure => simp [intOf]; omega
      · obtain rfl : k = m := by omega
        have hvv : mostH y S k k = (V1, V2) := HV.out.symm
        rw [hvv]
        clear hcell hvv
        go_wp2_with (fail)
        go_ret3
        exact ⟨rfl, hE2.trans hE⟩


set_option maxRecDepth 100000 in
set_option maxHeartbeats 3200000 in
theorem sHeldAt_any (v : Value) (nT : Nat) (zT : List Int) (nL : Nat) (zL : List Int) (u : Value) (nF : Nat) (zF : List Int) (link : Int) (x : Value) (m : Nat) (y : List Int) (t : Int) (w : World) (hN : NetRow w v nT zT nL zL) (hF : IntRow .i64 3 w u nF zF) (hJ : IntRow .i64 2 w x m y) :
    Calls Try.prog 46 #[v, u, .int .i64 link, x, .int .i64 t] w fun e w' => e = .returned (.tuple #[.int .i64 (haV nT zT nL zL zF nF link y m t), .bool (haC nT zT nL zL zF nF link y m t)]) ∧ Ext w w' := by
  unfold haV haC hoC
  have hN0 := hN
  have hF0 := hF
  have hJ0 := hJ
  obtain ⟨vT, vL, rfl, hT, hL⟩ := hN
  obtain ⟨_, hmT, _, aT, cT, rfl, _, _, _⟩ := hT
  obtain ⟨_, hmL, _, aL, cL, rfl, _, _, _⟩ := hL
  obtain ⟨_, _, _, aF, cF, rfl, _, _, _⟩ := hF
  have hnL : nL ≤ 9223372036854775807 := by unfold maxLen at hmL; omega
  clear hmT hmL
  have C0 := fun (W : World) (hW : Ext w W) => hoAsked_any _ nT zT nL zL _ nF zF link x m y W (hN0.ext hW) (hF0.ext hW) (hJ0.ext hW)
  cases hA : (askH nT zT nL zL zF nF link && okHs y m) with
  | false =>
    rw [hA] at C0
    have HA := hid hA
    clear hA
    rw [show (false && inR t 0 10000) = false from rfl, if_neg (by simp)]
    go_enter Try.func46, Try.ntmps46
    go_wp2_with (fail)
    refine (C0 _ (by repeat (first | exact Ext.refl _ | assumption | refine Ext.alloc ?_ _ | refine Ext.drew ?_ | refine Ext.drewN ?_ _ | refine Ext.setCell ?_ (by first | exact Nat.le_refl _ | (simp; done) | (dsimp only; omega) | (simp only [World.size_alloc, World.size_setCell]; omega)) _ | refine Ext.trans ?_ (by assumption)))).mono ?_
    rintro e w1 ⟨rfl, hb1⟩
    have hz1 := Ext.size hb1
    try simp only [World.size_alloc, World.size_setCell] at hz1
    obtain ⟨hc1, hf1⟩ := Ext.cells hb1
    try have hk1_0_0 := fun o => hc1 (w.heap.size) o (by (try simp only [World.size_alloc, World.size_setCell]); omega)
    try have hj1_0_0 := fun o => hf1 (w.heap.size) o (by (try simp only [World.size_alloc, World.size_setCell]); omega)
    try have hy1_0_0 : w.heap.size < w1.heap.size := by omega
    try have hk1_0_1 := fun o => hc1 (w.heap.size + 1) o (by (try simp only [World.size_alloc, World.size_setCell]); omega)
    try have hj1_0_1 := fun o => hf1 (w.heap.size + 1) o (by (try simp only [World.size_alloc, World.size_setCell]); omega)
    try have hy1_0_1 : w.heap.size + 1 < w1.heap.size := by omega
    try have hk1_0_2 := fun o => hc1 (w.heap.size + 1 + 1) o (by (try simp only [World.size_alloc, World.size_setCell]); omega)
    try have hj1_0_2 := fun o => hf1 (w.heap.size + 1 + 1) o (by (try simp only [World.size_alloc, World.size_setCell]); omega)
    try have hy1_0_2 : w.heap.size + 1 + 1 < w1.heap.size := by omega
    clear hc1 hf1
    go_wp2_with (fail)
    go_ret2
    exact ⟨rfl, (by repeat (first | exact Ext.refl _ | assumption | refine Ext.alloc ?_ _ | refine Ext.drew ?_ | refine Ext.drewN ?_ _ | refine Ext.setCell ?_ (by first | exact Nat.le_refl _ | (simp; done) | (dsimp only; omega) | (simp only [World.size_alloc, World.size_setCell]; omega)) _ | refine Ext.trans ?_ (by assumption)))⟩
  | true =>
    rw [hA] at C0
    have hB := hA
    rw [Bool.and_eq_true] at hB
    obtain ⟨hB1, hB2⟩ := hB
    obtain ⟨ho1, ho2, ho3, ho4⟩ := askH_iff hB1
    obtain ⟨hm20, hjs⟩ := okHs_iff hB2
    have HOK := hid ho2
    have HJ := hid hB2
    have HNET := hid ho1
    have HJS := hid hjs
    have HA := hid hA
    clear hA hB1 hB2 ho1 ho2 hjs
    rw [Bool.true_and]
    cases hp : inR t 0 10000 with
    | false =>
      have HP := hid hp
      clear hp
      rw [if_neg (by simp)]
      go_enter Try.func46, Try.ntmps46
      go_wp2_with (fail)
      refine (C0 _ (by repeat (first | exact Ext.refl _ | assumption | refine Ext.alloc ?_ _ | refine Ext.drew ?_ | refine Ext.drewN ?_ _ | refine Ext.setCell ?_ (by first | exact Nat.le_refl _ | (simp; done) | (dsimp only; omega) | (simp only [World.size_alloc, World.size_setCell]; omega)) _ | refine Ext.trans ?_ (by assumption)))).mono ?_
      rintro e w1 ⟨rfl, hb1⟩
      have hz1 := Ext.size hb1
      try simp only [World.size_alloc, World.size_setCell] at hz1
      obtain ⟨hc1, hf1⟩ := Ext.cells hb1
      try have hk1_0_0 := fun o => hc1 (w.heap.size) o (by (try simp only [World.size_alloc, World.size_setCell]); omega)
      try have hj1_0_0 := fun o => hf1 (w.heap.size) o (by (try simp only [World.size_alloc, World.size_setCell]); omega)
      try have hy1_0_0 : w.heap.size < w1.heap.size := by omega
      try have hk1_0_1 := fun o => hc1 (w.heap.size + 1) o (by (try simp only [World.size_alloc, World.size_setCell]); omega)
      try have hj1_0_1 := fun o => hf1 (w.heap.size + 1) o (by (try simp only [World.size_alloc, World.size_setCell]); omega)
      try have hy1_0_1 : w.heap.size + 1 < w1.heap.size := by omega
      try have hk1_0_2 := fun o => hc1 (w.heap.size + 1 + 1) o (by (try simp only [World.size_alloc, World.size_setCell]); omega)
      try have hj1_0_2 := fun o => hf1 (w.heap.size + 1 + 1) o (by (try simp only [World.size_alloc, World.size_setCell]); omega)
      try have hy1_0_2 : w.heap.size + 1 + 1 < w1.heap.size := by omega
      clear hc1 hf1
      go_wp2_with (go_at_call 94; refine (fgTime_any _ _).mono ?_; rw [HP.out]; rintro e w' ⟨rfl, rfl⟩)
      go_ret2
      exact ⟨rfl, (by repeat (first | exact Ext.refl _ | assumption | refine Ext.alloc ?_ _ | refine Ext.drew ?_ | refine Ext.drewN ?_ _ | refine Ext.setCell ?_ (by first | exact Nat.le_refl _ | (simp; done) | (dsimp only; omega) | (simp only [World.size_alloc, World.size_setCell]; omega)) _ | refine Ext.trans ?_ (by assumption)))⟩
    | true =>
      have HP := hid hp
      clear hp
      rw [if_pos rfl]
      have HSB := hid (hsL_bd link HOK.out HJ.out)
      have HSW := hid (hsL_wf link HOK.out HJ.out)
      go_enter Try.func46, Try.ntmps46
      go_wp2_with (fail)
      refine (C0 _ (by repeat (first | exact Ext.refl _ | assumption | refine Ext.alloc ?_ _ | refine Ext.drew ?_ | refine Ext.drewN ?_ _ | refine Ext.setCell ?_ (by first | exact Nat.le_refl _ | (simp; done) | (dsimp only; omega) | (simp only [World.size_alloc, World.size_setCell]; omega)) _ | refine Ext.trans ?_ (by assumption)))).mono ?_
      rintro e w1 ⟨rfl, hb1⟩
      have hz1 := Ext.size hb1
      try simp only [World.size_alloc, World.size_setCell] at hz1
      obtain ⟨hc1, hf1⟩ := Ext.cells hb1
      try have hk1_0_0 := fun o => hc1 (w.heap.size) o (by (try simp only [World.size_alloc, World.size_setCell]); omega)
      try have hj1_0_0 := fun o => hf1 (w.heap.size) o (by (try simp only [World.size_alloc, World.size_setCell]); omega)
      try have hy1_0_0 : w.heap.size < w1.heap.size := by omega
      try have hk1_0_1 := fun o => hc1 (w.heap.size + 1) o (by (try simp only [World.size_alloc, World.size_setCell]); omega)
      try have hj1_0_1 := fun o => hf1 (w.heap.size + 1) o (by (try simp only [World.size_alloc, World.size_setCell]); omega)
      try have hy1_0_1 : w.heap.size + 1 < w1.heap.size := by omega
      try have hk1_0_2 := fun o => hc1 (w.heap.size + 1 + 1) o (by (try simp only [World.size_alloc, World.size_setCell]); omega)
      try have hj1_0_2 := fun o => hf1 (w.heap.size + 1 + 1) o (by (try simp only [World.size_alloc, World.size_setCell]); omega)
      try have hy1_0_2 : w.heap.size + 1 + 1 < w1.heap.size := by omega
      clear hc1 hf1
      go_wp2_with (go_at_call 94; refine (fgTime_any _ _).mono ?_; rw [HP.out]; rintro e w' ⟨rfl, rfl⟩)
      refine (hoStarts_any _ nF zF link x m y _ nL (hF0.ext (by repeat (first | exact Ext.refl _ | assumption | refine Ext.alloc ?_ _ | refine Ext.drew ?_ | refine Ext.drewN ?_ _ | refine Ext.setCell ?_ (by first | exact Nat.le_refl _ | (simp; done) | (dsimp only; omega) | (simp only [World.size_alloc, World.size_setCell]; omega)) _ | refine Ext.trans ?_ (by assumption)))) (hJ0.ext (by repeat (first | exact Ext.refl _ | assumption | refine Ext.alloc ?_ _ | refine Ext.drew ?_ | refine Ext.drewN ?_ _ | refine Ext.setCell ?_ (by first | exact Nat.le_refl _ | (simp; done) | (dsimp only; omega) | (simp only [World.size_alloc, World.size_setCell]; omega)) _ | refine Ext.trans ?_ (by assumption)))) HOK HJ).mono ?_
      rintro e w2 ⟨v2, rfl, hr2, hb2⟩
      go_wp2_with (fail)
      refine (hoHeld_any x v2 m y _ t _ (hJ0.ext (by repeat (first | exact Ext.refl _ | assumption | refine Ext.alloc ?_ _ | refine Ext.drew ?_ | refine Ext.drewN ?_ _ | refine Ext.setCell ?_ (by first | exact Nat.le_refl _ | (simp; done) | (dsimp only; omega) | (simp only [World.size_alloc, World.size_setCell]; omega)) _ | refine Ext.trans ?_ (by assumption)))) (row_ints (row_ext hr2 (by repeat (first | exact Ext.refl _ | assumption | refine Ext.alloc ?_ _ | refine Ext.drew ?_ | refine Ext.drewN ?_ _ | refine Ext.setCell ?_ (by first | exact Nat.le_refl _ | (simp; done) | (dsimp only; omega) | (simp only [World.size_alloc, World.size_setCell]; omega)) _ | refine Ext.trans ?_ (by assumption)))) (by unfold maxLen; omega) HSW.out) hm20 HSB.out).mono ?_
      rintro e w3 ⟨rfl, hb3⟩
      go_wp2_with (fail)
      go_ret2
      exact ⟨rfl, (by repeat (first | exact Ext.refl _ | assumption | refine Ext.alloc ?_ _ | refine Ext.drew ?_ | refine Ext.drewN ?_ _ | refine Ext.setCell ?_ (by first | exact Nat.le_refl _ | (simp; done) | (dsimp only; omega) | (simp only [World.size_alloc, World.size_setCell]; omega)) _ | refine Ext.trans ?_ (by assumption)))⟩


set_option maxRecDepth 100000 in
set_option maxHeartbeats 3200000 in
theorem sWaitingSum_any (v : Value) (nT : Nat) (zT : List Int) (nL : Nat) (zL : List Int) (u : Value) (nF : Nat) (zF : List Int) (link : Int) (x : Value) (m : Nat) (y : List Int) (w : World) (hN : NetRow w v nT zT nL zL) (hF : IntRow .i64 3 w u nF zF) (hJ : IntRow .i64 2 w x m y) :
    Calls Try.prog 44 #[v, u, .int .i64 link, x] w fun e w' => e = .returned (.tuple #[.int .i64 (wsV nT zT nL zL zF nF link y m), .bool (hoC nT zT nL zL zF nF link y m)]) ∧ Ext w w' := by
  unfold wsV hoC
  have hN0 := hN
  have hF0 := hF
  have hJ0 := hJ
  obtain ⟨vT, vL, rfl, hT, hL⟩ := hN
  obtain ⟨_, hmT, _, aT, cT, rfl, _, _, _⟩ := hT
  obtain ⟨_, hmL, _, aL, cL, rfl, _, _, _⟩ := hL
  obtain ⟨_, _, _, aF, cF, rfl, _, _, _⟩ := hF
  have hnL : nL ≤ 9223372036854775807 := by unfold maxLen at hmL; omega
  clear hmT hmL
  have C0 := fun (W : World) (hW : Ext w W) => hoAsked_any _ nT zT nL zL _ nF zF link x m y W (hN0.ext hW) (hF0.ext hW) (hJ0.ext hW)
  cases hA : (askH nT zT nL zL zF nF link && okHs y m) with
  | false =>
    rw [hA] at C0
    have HA := hid hA
    clear hA
    rw [if_neg (by simp)]
    go_enter Try.func44, Try.ntmps44
    go_wp2_with (fail)
    refine (C0 _ (by repeat (first | exact Ext.refl _ | assumption | refine Ext.alloc ?_ _ | refine Ext.drew ?_ | refine Ext.drewN ?_ _ | refine Ext.setCell ?_ (by first | exact Nat.le_refl _ | (simp; done) | (dsimp only; omega) | (simp only [World.size_alloc, World.size_setCell]; omega)) _ | refine Ext.trans ?_ (by assumption)))).mono ?_
    rintro e w1 ⟨rfl, hb1⟩
    have hz1 := Ext.size hb1
    try simp only [World.size_alloc, World.size_setCell] at hz1
    obtain ⟨hc1, hf1⟩ := Ext.cells hb1
    try have hk1_0_0 := fun o => hc1 (w.heap.size) o (by (try simp only [World.size_alloc, World.size_setCell]); omega)
    try have hj1_0_0 := fun o => hf1 (w.heap.size) o (by (try simp only [World.size_alloc, World.size_setCell]); omega)
    try have hy1_0_0 : w.heap.size < w1.heap.size := by omega
    try have hk1_0_1 := fun o => hc1 (w.heap.size + 1) o (by (try simp only [World.size_alloc, World.size_setCell]); omega)
    try have hj1_0_1 := fun o => hf1 (w.heap.size + 1) o (by (try simp only [World.size_alloc, World.size_setCell]); omega)
    try have hy1_0_1 : w.heap.size + 1 < w1.heap.size := by omega
    try have hk1_0_2 := fun o => hc1 (w.heap.size + 1 + 1) o (by (try simp only [World.size_alloc, World.size_setCell]); omega)
    try have hj1_0_2 := fun o => hf1 (w.heap.size + 1 + 1) o (by (try simp only [World.size_alloc, World.size_setCell]); omega)
    try have hy1_0_2 : w.heap.size + 1 + 1 < w1.heap.size := by omega
    clear hc1 hf1
    go_wp2_with (fail)
    go_ret2
    exact ⟨rfl, (by repeat (first | exact Ext.refl _ | assumption | refine Ext.alloc ?_ _ | refine Ext.drew ?_ | refine Ext.drewN ?_ _ | refine Ext.setCell ?_ (by first | exact Nat.le_refl _ | (simp; done) | (dsimp only; omega) | (simp only [World.size_alloc, World.size_setCell]; omega)) _ | refine Ext.trans ?_ (by assumption)))⟩
  | true =>
    rw [hA] at C0
    have hB := hA
    rw [Bool.and_eq_true] at hB
    obtain ⟨hB1, hB2⟩ := hB
    obtain ⟨ho1, ho2, ho3, ho4⟩ := askH_iff hB1
    obtain ⟨hm20, hjs⟩ := okHs_iff hB2
    have HOK := hid ho2
    have HJ := hid hB2
    have HNET := hid ho1
    have HJS := hid hjs
    have HA := hid hA
    clear hA hB1 hB2 ho1 ho2 hjs
    rw [if_pos rfl]
    obtain ⟨S, hS⟩ : ∃ S, S = hsL zF nF link y m := ⟨_, rfl⟩
    rw [← hS]
    have hSb := hsL_bd link HOK.out HJ.out
    have hSw := hsL_wf link HOK.out HJ.out
    rw [← hS] at hSb hSw
    have HSB := hid hSb
    have HSW := hid hSw
    have HS := hid hS
    clear hS hSb hSw
    obtain ⟨V, hV⟩ : ∃ V, V = waitS y S m := ⟨_, rfl⟩
    rw [← hV]
    have HV := hid hV
    have HWB := hid (waitS_bd (zJ := y) (S := S) (n := m) (fun j hj => by have := HJS.out j hj; omega) HSB.out)
    clear hV
    go_enter Try.func44, Try.ntmps44
    go_wp2_with (fail)
    refine (C0 _ (by repeat (first | exact Ext.refl _ | assumption | refine Ext.alloc ?_ _ | refine Ext.drew ?_ | refine Ext.drewN ?_ _ | refine Ext.setCell ?_ (by first | exact Nat.le_refl _ | (simp; done) | (dsimp only; omega) | (simp only [World.size_alloc, World.size_setCell]; omega)) _ | refine Ext.trans ?_ (by assumption)))).mono ?_
    rintro e w1 ⟨rfl, hb1⟩
    have hz1 := Ext.size hb1
    try simp only [World.size_alloc, World.size_setCell] at hz1
    obtain ⟨hc1, hf1⟩ := Ext.cells hb1
    try have hk1_0_0 := fun o => hc1 (w.heap.size) o (by (try simp only [World.size_alloc, World.size_setCell]); omega)
    try have hj1_0_0 := fun o => hf1 (w.heap.size) o (by (try simp only [World.size_alloc, World.size_setCell]); omega)
    try have hy1_0_0 : w.heap.size < w1.heap.size := by omega
    try have hk1_0_1 := fun o => hc1 (w.heap.size + 1) o (by (try simp only [World.size_alloc, World.size_setCell]); omega)
    try have hj1_0_1 := fun o => hf1 (w.heap.size + 1) o (by (try simp only [World.size_alloc, World.size_setCell]); omega)
    try have hy1_0_1 : w.heap.size + 1 < w1.heap.size := by omega
    try have hk1_0_2 := fun o => hc1 (w.heap.size + 1 + 1) o (by (try simp only [World.size_alloc, World.size_setCell]); omega)
    try have hj1_0_2 := fun o => hf1 (w.heap.size + 1 + 1) o (by (try simp only [World.size_alloc, World.size_setCell]); omega)
    try have hy1_0_2 : w.heap.size + 1 + 1 < w1.heap.size := by omega
    clear hc1 hf1
    go_wp2_with (fail)
    refine (hoStarts_any _ nF zF link x m y _ nL (hF0.ext (by repeat (first | exact Ext.refl _ | assumption | refine Ext.alloc ?_ _ | refine Ext.drew ?_ | refine Ext.drewN ?_ _ | refine Ext.setCell ?_ (by first | exact Nat.le_refl _ | (simp; done) | (dsimp only; omega) | (simp only [World.size_alloc, World.size_setCell]; omega)) _ | refine Ext.trans ?_ (by assumption)))) (hJ0.ext (by repeat (first | exact Ext.refl _ | assumption | refine Ext.alloc ?_ _ | refine Ext.drew ?_ | refine Ext.drewN ?_ _ | refine Ext.setCell ?_ (by first | exact Nat.le_refl _ | (simp; done) | (dsimp only; omega) | (simp only [World.size_alloc, World.size_setCell]; omega)) _ | refine Ext.trans ?_ (by assumption)))) HOK HJ).mono ?_
    rw [← HS.out]
    rintro e w2 ⟨v2, rfl, hr2, hb2⟩
    have hE2 : Ext w w2 := (by repeat (first | exact Ext.refl _ | assumption | refine Ext.alloc ?_ _ | refine Ext.drew ?_ | refine Ext.drewN ?_ _ | refine Ext.setCell ?_ (by first | exact Nat.le_refl _ | (simp; done) | (dsimp only; omega) | (simp only [World.size_alloc, World.size_setCell]; omega)) _ | refine Ext.trans ?_ (by assumption)))
    have hS2 := row_ints hr2 (by unfold maxLen; omega) HSW.out
    have hJ2 := hJ0.ext hE2
    clear hb1 hb2 hr2 hz1
    obtain ⟨hl, hm, hwf, a, c, rfl, hnc, hcm, hcell⟩ := hJ2
    obtain ⟨hl2, _, _, a2, c2, rfl, _, _, hcell2⟩ := hS2
    clear hwf
    go_wp2_with (fail)
    go_loopw [10, 24] (fun q i wr => ∃ (k : Nat), k ≤ m ∧ i = .int .i64 (k : Int) ∧ q = .int .i64 (waitS y S k) ∧ Ext w2 wr)
      (fun _ i _ => m - (intOf i).toNat)
    case atStart => exact ⟨0, Nat.zero_le _, rfl, rfl, Ext.refl _⟩
    case round =>
      obtain ⟨k, hk, rfl, rfl, hE⟩ := hrel
      by_cases hlt : k < m
      · obtain ⟨b, o, rfl, hb, hc⟩ := hcell.resolve_left (by omega)
        obtain ⟨b2, o2, rfl, hb2, hc2⟩ := hcell2.resolve_left (by omega)
        obtain ⟨z, hz⟩ : ∃ z, z = y := ⟨_, rfl⟩
        rw [← hz] at hc
        obtain ⟨x0, hx0⟩ : ∃ x, x = z.getD (k * 2) 0 := ⟨_, rfl⟩
        have s0 : wr.cell? ⟨b, o + k * 2, none⟩ = some (.int .i64 x0) := by rw [(Ext.cells hE).1 _ _ hb, show o + k * 2 = o + (k * 2) by omega, hc _ (by omega), hx0]
        have H0 := hid hx0
        clear hx0
        obtain ⟨x1, hx1⟩ : ∃ x, x = z.getD (k * 2 + 1) 0 := ⟨_, rfl⟩
        have s1 : wr.cell? ⟨b, o + k * 2 + 1, none⟩ = some (.int .i64 x1) := by rw [(Ext.cells hE).1 _ _ hb, show o + k * 2 + 1 = o + (k * 2 + 1) by omega, hc _ (by omega), hx1]
        have H1 := hid hx1
        clear hx1
        obtain ⟨p, hp⟩ : ∃ p, p = S.getD k 0 := ⟨_, rfl⟩
        have hpb := HSB.out k hlt
        rw [← hp] at hpb
        obtain ⟨hp0, hp1⟩ := hpb
        have hj := HJS.out k hlt
        rw [show hRd y k = x0 by rw [H0.out, hz]; rfl] at hj
        obtain ⟨j1, j2, _, _⟩ := hj
        have sv : wr.cell? ⟨b2, o2 + k, none⟩ = some (.int .i64 p) := by rw [(Ext.cells hE).1 _ _ hb2, hc2 _ (by omega), hp]
        have hst : Hid (waitS y S (k + 1) = waitS y S k + (p - x0)) := hid (by rw [H0.out, hp, hz]; rfl)
        have hwb := HWB.out k hk
        obtain ⟨A, hA⟩ : ∃ A, A = waitS y S k := ⟨_, rfl⟩
        rw [← hA] at hst hwb ⊢
        have HA2 := hid hA
        clear hc hc2 hcell hcell2 hz hp hA
        go_wp2_with (fail)
        go_roundw
        case rel => exact ⟨k + 1, by omega, by go_num, by rw [hst.out], hE⟩
        case measure => simp [intOf]; omega
      · obtain rfl : k = m := by omega
        clear hcell hcell2
        go_wp2_with (fail)
        go_ret2
        rw [HV.out]
        exact ⟨rfl, hE2.trans hE⟩


set_option maxRecDepth 100000 in
set_option maxHeartbeats 3200000 in
theorem sMostHeld_any (v : Value) (nT : Nat) (zT : List Int) (nL : Nat) (zL : List Int) (u : Value) (nF : Nat) (zF : List Int) (link : Int) (x : Value) (m : Nat) (y : List Int) (w : World) (hN : NetRow w v nT zT nL zL) (hF : IntRow .i64 3 w u nF zF) (hJ : IntRow .i64 2 w x m y) :
    Calls Try.prog 48 #[v, u, .int .i64 link, x] w fun e w' => e = .returned (.tuple #[.int .i64 (mhV nT zT nL zL zF nF link y m).1, .int .i64 (mhV nT zT nL zL zF nF link y m).2, .bool (hoC nT zT nL zL zF nF link y m)]) ∧ Ext w w' := by
  unfold mhV hoC
  have hN0 := hN
  have hF0 := hF
  have hJ0 := hJ
  obtain ⟨vT, vL, rfl, hT, hL⟩ := hN
  obtain ⟨_, hmT, _, aT, cT, rfl, _, _, _⟩ := hT
  obtain ⟨_, hmL, _, aL, cL, rfl, _, _, _⟩ := hL
  obtain ⟨_, _, _, aF, cF, rfl, _, _, _⟩ := hF
  have hnL : nL ≤ 9223372036854775807 := by unfold maxLen at hmL; omega
  clear hmT hmL
  have C0 := fun (W : World) (hW : Ext w W) => hoAsked_any _ nT zT nL zL _ nF zF link x m y W (hN0.ext hW) (hF0.ext hW) (hJ0.ext hW)
  cases hA : (askH nT zT nL zL zF nF link && okHs y m) with
  | false =>
    rw [hA] at C0
    have HA := hid hA
    clear hA
    rw [if_neg (by simp)]
    go_enter Try.func48, Try.ntmps48
    go_wp2_with (fail)
    refine (C0 _ (by repeat (first | exact Ext.refl _ | assumption | refine Ext.alloc ?_ _ | refine Ext.drew ?_ | refine Ext.drewN ?_ _ | refine Ext.setCell ?_ (by first | exact Nat.le_refl _ | (simp; done) | (dsimp only; omega) | (simp only [World.size_alloc, World.size_setCell]; omega)) _ | refine Ext.trans ?_ (by assumption)))).mono ?_
    rintro e w1 ⟨rfl, hb1⟩
    have hz1 := Ext.size hb1
    try simp only [World.size_alloc, World.size_setCell] at hz1
    obtain ⟨hc1, hf1⟩ := Ext.cells hb1
    try have hk1_0_0 := fun o => hc1 (w.heap.size) o (by (try simp only [World.size_alloc, World.size_setCell]); omega)
    try have hj1_0_0 := fun o => hf1 (w.heap.size) o (by (try simp only [World.size_alloc, World.size_setCell]); omega)
    try have hy1_0_0 : w.heap.size < w1.heap.size := by omega
    try have hk1_0_1 := fun o => hc1 (w.heap.size + 1) o (by (try simp only [World.size_alloc, World.size_setCell]); omega)
    try have hj1_0_1 := fun o => hf1 (w.heap.size + 1) o (by (try simp only [World.size_alloc, World.size_setCell]); omega)
    try have hy1_0_1 : w.heap.size + 1 < w1.heap.size := by omega
    try have hk1_0_2 := fun o => hc1 (w.heap.size + 1 + 1) o (by (try simp only [World.size_alloc, World.size_setCell]); omega)
    try have hj1_0_2 := fun o => hf1 (w.heap.size + 1 + 1) o (by (try simp only [World.size_alloc, World.size_setCell]); omega)
    try have hy1_0_2 : w.heap.size + 1 + 1 < w1.heap.size := by omega
    clear hc1 hf1
    go_wp2_with (fail)
    go_ret3
    exact ⟨rfl, (by repeat (first | exact Ext.refl _ | assumption | refine Ext.alloc ?_ _ | refine Ext.drew ?_ | refine Ext.drewN ?_ _ | refine Ext.setCell ?_ (by first | exact Nat.le_refl _ | (simp; done) | (dsimp only; omega) | (simp only [World.size_alloc, World.size_setCell]; omega)) _ | refine Ext.trans ?_ (by assumption)))⟩
  | true =>
    rw [hA] at C0
    have hB := hA
    rw [Bool.and_eq_true] at hB
    obtain ⟨hB1, hB2⟩ := hB
    obtain ⟨ho1, ho2, ho3, ho4⟩ := askH_iff hB1
    obtain ⟨hm20, hjs⟩ := okHs_iff hB2
    have HOK := hid ho2
    have HJ := hid hB2
    have HNET := hid ho1
    have HJS := hid hjs
    have HA := hid hA
    clear hA hB1 hB2 ho1 ho2 hjs
    rw [if_pos rfl]
    obtain ⟨S, hS⟩ : ∃ S, S = hsL zF nF link y m := ⟨_, rfl⟩
    rw [← hS]
    have hSb := hsL_bd link HOK.out HJ.out
    have hSw := hsL_wf link HOK.out HJ.out
    rw [← hS] at hSb hSw
    have HSB := hid hSb
    have HSW := hid hSw
    have HS := hid hS
    clear hS hSb hSw
    obtain ⟨V, hV⟩ : ∃ V, V = mostH y S m m := ⟨_, rfl⟩
    rw [← hV]
    have HV := hid hV
    clear hV
    obtain ⟨V1, V2⟩ := V
    go_enter Try.func48, Try.ntmps48
    go_wp2_with (fail)
    refine (C0 _ (by repeat (first | exact Ext.refl _ | assumption | refine Ext.alloc ?_ _ | refine Ext.drew ?_ | refine Ext.drewN ?_ _ | refine Ext.setCell ?_ (by first | exact Nat.le_refl _ | (simp; done) | (dsimp only; omega) | (simp only [World.size_alloc, World.size_setCell]; omega)) _ | refine Ext.trans ?_ (by assumption)))).mono ?_
    rintro e w1 ⟨rfl, hb1⟩
    have hz1 := Ext.size hb1
    try simp only [World.size_alloc, World.size_setCell] at hz1
    obtain ⟨hc1, hf1⟩ := Ext.cells hb1
    try have hk1_0_0 := fun o => hc1 (w.heap.size) o (by (try simp only [World.size_alloc, World.size_setCell]); omega)
    try have hj1_0_0 := fun o => hf1 (w.heap.size) o (by (try simp only [World.size_alloc, World.size_setCell]); omega)
    try have hy1_0_0 : w.heap.size < w1.heap.size := by omega
    try have hk1_0_1 := fun o => hc1 (w.heap.size + 1) o (by (try simp only [World.size_alloc, World.size_setCell]); omega)
    try have hj1_0_1 := fun o => hf1 (w.heap.size + 1) o (by (try simp only [World.size_alloc, World.size_setCell]); omega)
    try have hy1_0_1 : w.heap.size + 1 < w1.heap.size := by omega
    try have hk1_0_2 := fun o => hc1 (w.heap.size + 1 + 1) o (by (try simp only [World.size_alloc, World.size_setCell]); omega)
    try have hj1_0_2 := fun o => hf1 (w.heap.size + 1 + 1) o (by (try simp only [World.size_alloc, World.size_setCell]); omega)
    try have hy1_0_2 : w.heap.size + 1 + 1 < w1.heap.size := by omega
    clear hc1 hf1
    go_wp2_with (fail)
    refine (hoStarts_any _ nF zF link x m y _ nL (hF0.ext (by repeat (first | exact Ext.refl _ | assumption | refine Ext.alloc ?_ _ | refine Ext.drew ?_ | refine Ext.drewN ?_ _ | refine Ext.setCell ?_ (by first | exact Nat.le_refl _ | (simp; done) | (dsimp only; omega) | (simp only [World.size_alloc, World.size_setCell]; omega)) _ | refine Ext.trans ?_ (by assumption)))) (hJ0.ext (by repeat (first | exact Ext.refl _ | assumption | refine Ext.alloc ?_ _ | refine Ext.drew ?_ | refine Ext.drewN ?_ _ | refine Ext.setCell ?_ (by first | exact Nat.le_refl _ | (simp; done) | (dsimp only; omega) | (simp only [World.size_alloc, World.size_setCell]; omega)) _ | refine Ext.trans ?_ (by assumption)))) HOK HJ).mono ?_
    rw [← HS.out]
    rintro e w2 ⟨v2, rfl, hr2, hb2⟩
    have hE2 : Ext w w2 := (by repeat (first | exact Ext.refl _ | assumption | refine Ext.alloc ?_ _ | refine Ext.drew ?_ | refine Ext.drewN ?_ _ | refine Ext.setCell ?_ (by first | exact Nat.le_refl _ | (simp; done) | (dsimp only; omega) | (simp only [World.size_alloc, World.size_setCell]; omega)) _ | refine Ext.trans ?_ (by assumption)))
    have hS2 := hid (row_ints hr2 (by unfold maxLen; omega) HSW.out)
    have hJ2 := hJ0.ext hE2
    have hJ3 := hid hJ2
    clear hb1 hb2 hr2 hz1
    obtain ⟨hl, hm, hwf, a, c, rfl, hnc, hcm, hcell⟩ := hJ2
    clear hwf
    go_wp2_with (fail)
    go_loopw [12, 13, 29] (fun q1 q2 i wr => ∃ (k : Nat), k ≤ m ∧ i = .int .i64 (k : Int) ∧ q1 = .int .i64 (mostH y S m k).1 ∧ q2 = .int .i64 (mostH y S m k).2 ∧ Ext w2 wr)
      (fun _ _ i _ => m - (intOf i).toNat)
    case atStart => exact ⟨0, Nat.zero_le _, rfl, rfl, rfl, Ext.refl _⟩
    case round =>
      obtain ⟨k, hk, rfl, rfl, rfl, hE⟩ := hrel
      by_cases hlt : k < m
      · obtain ⟨b, o, rfl, hb, hc⟩ := hcell.resolve_left (by omega)
        obtain ⟨z, hz⟩ : ∃ z, z = y := ⟨_, rfl⟩
        rw [← hz] at hc
        obtain ⟨x0, hx0⟩ : ∃ x, x = z.getD (k * 2) 0 := ⟨_, rfl⟩
        have s0 : wr.cell? ⟨b, o + k * 2, none⟩ = some (.int .i64 x0) := by rw [(Ext.cells hE).1 _ _ hb, show o + k * 2 = o + (k * 2) by omega, hc _ (by omega), hx0]
        have H0 := hid hx0
        clear hx0
        obtain ⟨x1, hx1⟩ : ∃ x, x = z.getD (k * 2 + 1) 0 := ⟨_, rfl⟩
        have s1 : wr.cell? ⟨b, o + k * 2 + 1, none⟩ = some (.int .i64 x1) := by rw [(Ext.cells hE).1 _ _ hb, show o + k * 2 + 1 = o + (k * 2 + 1) by omega, hc _ (by omega), hx1]
        have H1 := hid hx1
        clear hx1
        have hst : Hid (mostH y S m (k + 1) = if (mostH y S m k).2 < heldN y S x0 m then (x0, (heldN y S x0 m : Int)) else mostH y S m k) := hid (by rw [H0.out, hz]; rfl)
        have hbd := mostH_bd y S m k
        have hnb := heldN_le y S x0 m
        obtain ⟨A, hA⟩ : ∃ A, A = mostH y S m k := ⟨_, rfl⟩
        rw [← hA] at hst hbd ⊢
        have HA2 := hid hA
        clear hc hcell hz hA
        obtain ⟨A1, A2⟩ := A
        simp only at hbd hst ⊢
        obtain ⟨Q, hQ⟩ : ∃ Q, Q = heldN y S x0 m := ⟨_, rfl⟩
        rw [← hQ] at hst hnb
        have HQ := hid hQ
        clear hQ
        go_wp2_with (fail)
        refine (hoHeld_any _ v2 m y S x0 _ (hJ3.out.ext (by repeat (first | exact Ext.refl _ | assumption | refine Ext.alloc ?_ _ | refine Ext.drew ?_ | refine Ext.drewN ?_ _ | refine Ext.setCell ?_ (by first | exact Nat.le_refl _ | (simp; done) | (dsimp only; omega) | (simp only [World.size_alloc, World.size_setCell]; omega)) _ | refine Ext.trans ?_ (by assumption)))) (hS2.out.ext (by repeat (first | exact Ext.refl _ | assumption | refine Ext.alloc ?_ _ | refine Ext.drew ?_ | refine Ext.drewN ?_ _ | refine Ext.setCell ?_ (by first | exact Nat.le_refl _ | (simp; done) | (dsimp only; omega) | (simp only [World.size_alloc, World.size_setCell]; omega)) _ | refine Ext.trans ?_ (by assumption)))) hm20 HSB.out).mono ?_
        rw [← HQ.out]
        rintro e w3 ⟨rfl, hb3⟩
        have p0 : w3.cell? ⟨wr.heap.size, 0, none⟩ = some (.int .i64 x0) := by rw [(Ext.cells hb3).1 _ _ (by simp)]; simp [go_sem]
        have hE3 : Ext w2 w3 := (by repeat (first | exact Ext.refl _ | assumption | refine Ext.alloc ?_ _ | refine Ext.drew ?_ | refine Ext.drewN ?_ _ | refine Ext.setCell ?_ (by first | exact Nat.le_refl _ | (simp; done) | (dsimp only; omega) | (simp only [World.size_alloc, World.size_setCell]; omega)) _ | refine Ext.trans ?_ (by assumption)))
        clear hb3 hE s0 s1
        by_cases hq : A2 < (Q : Int)
        · have dq : decide (A2 < (Q : Int)) = true := decide_eq_true hq
          have HST := hid (show mostH y S m (k + 1) = (x0, (Q : Int)) by rw [hst.out, if_pos hq])
          go_wp2_with (fail)
          go_roundw
          case rel => exact ⟨k + 1, by omega, by go_num, by rw [HST.out], by rw [HST.out], hE3⟩
          case measure => simp [intOf]; omega
        · have dq : decide (A2 < (Q : Int)) = false := decide_eq_false hq
          have HST := hid (show mostH y S m (k + 1) = (A1, A2) by rw [hst.out, if_neg hq])
          go_wp2_with (fail)
          go_roundw
          case rel => exact ⟨k + 1, by omega, by go_num, by rw [HST.out], by rw [HST.out], hE3⟩
          case measure => simp [intOf]; omega
      · obtain rfl : k = m := by omega
        have hvv : mostH y S k k = (V1, V2) := HV.out.symm
        rw [hvv]
        clear hcell hvv
        go_wp2_with (fail)
        go_ret3
        exact ⟨rfl, hE2.trans hE⟩


set_option maxRecDepth 100000 in
set_option maxHeartbeats 4000000 in
theorem walkFnExactHeldAt (v0 : Value) (nT0 : Nat) (zT0 : List Int) (nL0 : Nat) (zL0 : List Int) (v1 : Value) (n1 : Nat) (z1 : List Int) (a2 : Int) (v3 : Value) (n3 : Nat) (z3 : List Int) (a4 : Int) (w : World) (r0 : NetRow w v0 nT0 zT0 nL0 zL0) (r1 : IntRow .i64 3 w v1 n1 z1) (_ : (Lit.int .i64 a2).wf = true) (r3 : IntRow .i64 2 w v3 n3 z3) (_ : (Lit.int .i64 a4).wf = true) :
    Calls Try.prog 8 #[v0, v1, .int .i64 a2, v3, .int .i64 a4] w fun e w' => e = .returned (.bool true) ∧ Ext w w' := by
  have HWT0 := hid r0.wf.1
  have HWL0 := hid r0.wf.2
  obtain ⟨vT0, vL0, rfl, _, _⟩ := id r0
  have HW1 := hid r1.2.2.1
  have HW3 := hid r3.2.2.1
  have hsz0 := fun (W : World) (hW : Ext w W) => szNet_any _ nT0 zT0 nL0 zL0 W 1048576 (r0.ext hW) (by omega) (by omega)
  by_cases hn0 : nT0 + nL0 ≤ (1048576 : Int)
  · rw [if_pos hn0] at hsz0
    obtain ⟨q0, hq0⟩ : ∃ q : Int, q = 1048576 - nT0 - nL0 := ⟨_, rfl⟩
    rw [← hq0] at hsz0
    have hqa0 : 0 ≤ q0 := by omega
    have hqb0 : q0 ≤ 1048576 := by omega
    have hsz1 := fun (W : World) (hW : Ext w W) => szFogS_any v1 n1 z1 W q0 (r1.ext hW) (by omega) (by omega)
    by_cases hn1 : (n1 : Int) ≤ q0
    · rw [if_pos hn1] at hsz1
      obtain ⟨q1, hq1⟩ : ∃ q : Int, q = q0 - n1 := ⟨_, rfl⟩
      rw [← hq1] at hsz1
      have hqa1 : 0 ≤ q1 := by omega
      have hqb1 : q1 ≤ 1048576 := by omega
      have hsz3 := fun (W : World) (hW : Ext w W) => szHeldJobS_any v3 n3 z3 W q1 (r3.ext hW) (by omega) (by omega)
      by_cases hn3 : (n3 : Int) ≤ q1
      · rw [if_pos hn3] at hsz3
        obtain ⟨q3, hq3⟩ : ∃ q : Int, q = q1 - n3 := ⟨_, rfl⟩
        rw [← hq3] at hsz3
        have hqa3 : 0 ≤ q3 := by omega
        have hqb3 : q3 ≤ 1048576 := by omega
        have hnT0 : nT0 ≤ 1048576 := by omega
        have hnL0 : nL0 ≤ 1048576 := by omega
        have hm1 : n1 ≤ 1048576 := by omega
        have hm3 : n3 ≤ 1048576 := by omega
        have HQ0 := hid hq0
        clear hq0
        have HQ1 := hid hq1
        clear hq1
        have HQ3 := hid hq3
        clear hq3
        go_enter Try.func8, Try.ntmps8
        go_wp2_with (fail)
        have e00 : Ext w (w.alloc (.cells #[vT0, vL0] 25)) := (Ext.refl w).alloc _
        have bp0 : (w.alloc (.cells #[vT0, vL0] 25)).cell? ⟨w.heap.size, 0, none⟩ = some vT0 := by simp [go_sem]
        have bp1 : (w.alloc (.cells #[vT0, vL0] 25)).cell? ⟨w.heap.size, 1, none⟩ = some vL0 := by simp [go_sem]
        have bgs : w.heap.size < (w.alloc (.cells #[vT0, vL0] 25)).heap.size := by simp
        generalize (w.alloc (.cells #[vT0, vL0] 25)) = w0 at *
        obtain ⟨bg, hbg⟩ : ∃ g, g = w.heap.size := ⟨_, rfl⟩
        rw [← hbg] at bp0 bp1 bgs ⊢
        have HBX := hid (fun (W : World) (hW : Ext w0 W) => show W.cell? ⟨bg, 0, none⟩ = some vT0 ∧ W.cell? ⟨bg, 1, none⟩ = some vL0 from ⟨by rw [(Ext.cells hW).1 _ _ bgs]; exact bp0, by rw [(Ext.cells hW).1 _ _ bgs]; exact bp1⟩)
        clear hbg
        go_wp2_with (fail)
        refine (hsz0 _ (by repeat (first | exact Ext.refl _ | assumption | refine Ext.alloc ?_ _ | refine Ext.drew ?_ | refine Ext.drewN ?_ _ | refine Ext.setCell ?_ (by first | exact Nat.le_refl _ | (simp; done) | (dsimp only; omega) | (simp only [World.size_alloc, World.size_setCell]; omega)) _ | refine Ext.trans ?_ (by assumption)))).mono ?_
        rintro e wz ⟨rfl, hbz⟩
        clear bp0 bp1
        obtain ⟨bxa, bxb⟩ := HBX.out wz (by repeat (first | exact Ext.refl _ | assumption | refine Ext.alloc ?_ _ | refine Ext.drew ?_ | refine Ext.drewN ?_ _ | refine Ext.setCell ?_ (by first | exact Nat.le_refl _ | (simp; done) | (dsimp only; omega) | (simp only [World.size_alloc, World.size_setCell]; omega)) _ | refine Ext.trans ?_ (by assumption)))
        clear hsz0
        go_wp2_with (fail)
        refine (hsz1 _ (by repeat (first | exact Ext.refl _ | assumption | refine Ext.alloc ?_ _ | refine Ext.drew ?_ | refine Ext.drewN ?_ _ | refine Ext.setCell ?_ (by first | exact Nat.le_refl _ | (simp; done) | (dsimp only; omega) | (simp only [World.size_alloc, World.size_setCell]; omega)) _ | refine Ext.trans ?_ (by assumption)))).mono ?_
        rintro e w' ⟨rfl, rfl⟩
        clear hsz1
        go_wp2_with (fail)
        refine (hsz3 _ (by repeat (first | exact Ext.refl _ | assumption | refine Ext.alloc ?_ _ | refine Ext.drew ?_ | refine Ext.drewN ?_ _ | refine Ext.setCell ?_ (by first | exact Nat.le_refl _ | (simp; done) | (dsimp only; omega) | (simp only [World.size_alloc, World.size_setCell]; omega)) _ | refine Ext.trans ?_ (by assumption)))).mono ?_
        rintro e w' ⟨rfl, rfl⟩
        clear hsz3
        go_wp2_with (fail)
        refine (toNet_any _ nT0 nL0 zT0 zL0 _ (r0.ext (by repeat (first | exact Ext.refl _ | assumption | refine Ext.alloc ?_ _ | refine Ext.drew ?_ | refine Ext.drewN ?_ _ | refine Ext.setCell ?_ (by first | exact Nat.le_refl _ | (simp; done) | (dsimp only; omega) | (simp only [World.size_alloc, World.size_setCell]; omega)) _ | refine Ext.trans ?_ (by assumption)))) hnT0 hnL0).mono ?_
        rintro e w1 ⟨x1, rfl, hr1, hb1⟩
        obtain ⟨bxa1, bxb1⟩ := HBX.out w1 (by repeat (first | exact Ext.refl _ | assumption | refine Ext.alloc ?_ _ | refine Ext.drew ?_ | refine Ext.drewN ?_ _ | refine Ext.setCell ?_ (by first | exact Nat.le_refl _ | (simp; done) | (dsimp only; omega) | (simp only [World.size_alloc, World.size_setCell]; omega)) _ | refine Ext.trans ?_ (by assumption)))
        clear bxa bxb
        go_wp2_with (fail)
        refine (toFogS_any _ n1 z1 _ (r1.ext (by repeat (first | exact Ext.refl _ | assumption | refine Ext.alloc ?_ _ | refine Ext.drew ?_ | refine Ext.drewN ?_ _ | refine Ext.setCell ?_ (by first | exact Nat.le_refl _ | (simp; done) | (dsimp only; omega) | (simp only [World.size_alloc, World.size_setCell]; omega)) _ | refine Ext.trans ?_ (by assumption)))) hm1).mono ?_
        rintro e w2 ⟨g2, rfl, hr2, hb2⟩
        obtain ⟨bxa2, bxb2⟩ := HBX.out w2 (by repeat (first | exact Ext.refl _ | assumption | refine Ext.alloc ?_ _ | refine Ext.drew ?_ | refine Ext.drewN ?_ _ | refine Ext.setCell ?_ (by first | exact Nat.le_refl _ | (simp; done) | (dsimp only; omega) | (simp only [World.size_alloc, World.size_setCell]; omega)) _ | refine Ext.trans ?_ (by assumption)))
        clear bxa1 bxb1
        go_wp2_with (fail)
        refine (toHeldJobS_any _ n3 z3 _ (r3.ext (by repeat (first | exact Ext.refl _ | assumption | refine Ext.alloc ?_ _ | refine Ext.drew ?_ | refine Ext.drewN ?_ _ | refine Ext.setCell ?_ (by first | exact Nat.le_refl _ | (simp; done) | (dsimp only; omega) | (simp only [World.size_alloc, World.size_setCell]; omega)) _ | refine Ext.trans ?_ (by assumption)))) hm3).mono ?_
        rintro e w3 ⟨g3, rfl, hr3, hb3⟩
        obtain ⟨bxa3, bxb3⟩ := HBX.out w3 (by repeat (first | exact Ext.refl _ | assumption | refine Ext.alloc ?_ _ | refine Ext.drew ?_ | refine Ext.drewN ?_ _ | refine Ext.setCell ?_ (by first | exact Nat.le_refl _ | (simp; done) | (dsimp only; omega) | (simp only [World.size_alloc, World.size_setCell]; omega)) _ | refine Ext.trans ?_ (by assumption)))
        clear bxa2 bxb2
        go_wp2_with (fail)
        refine (sHeldAt_any _ nT0 zT0 nL0 zL0 _ n1 z1 a2 _ n3 z3 a4 _ ((OwnNet.ext hr1 (by repeat (first | exact Ext.refl _ | assumption | refine Ext.alloc ?_ _ | refine Ext.drew ?_ | refine Ext.drewN ?_ _ | refine Ext.setCell ?_ (by first | exact Nat.le_refl _ | (simp; done) | (dsimp only; omega) | (simp only [World.size_alloc, World.size_setCell]; omega)) _ | refine Ext.trans ?_ (by assumption)))).net (by unfold maxLen; omega) (by unfold maxLen; omega) HWT0.out HWL0.out) (row_ints (row_ext hr2 (by repeat (first | exact Ext.refl _ | assumption | refine Ext.alloc ?_ _ | refine Ext.drew ?_ | refine Ext.drewN ?_ _ | refine Ext.setCell ?_ (by first | exact Nat.le_refl _ | (simp; done) | (dsimp only; omega) | (simp only [World.size_alloc, World.size_setCell]; omega)) _ | refine Ext.trans ?_ (by assumption)))) (by unfold maxLen; omega) HW1.out) (row_ints (row_ext hr3 (by repeat (first | exact Ext.refl _ | assumption | refine Ext.alloc ?_ _ | refine Ext.drew ?_ | refine Ext.drewN ?_ _ | refine Ext.setCell ?_ (by first | exact Nat.le_refl _ | (simp; done) | (dsimp only; omega) | (simp only [World.size_alloc, World.size_setCell]; omega)) _ | refine Ext.trans ?_ (by assumption)))) (by unfold maxLen; omega) HW3.out)).mono ?_
        rintro e w4 ⟨rfl, hb4⟩
        obtain ⟨bxa4, bxb4⟩ := HBX.out w4 (by repeat (first | exact Ext.refl _ | assumption | refine Ext.alloc ?_ _ | refine Ext.drew ?_ | refine Ext.drewN ?_ _ | refine Ext.setCell ?_ (by first | exact Nat.le_refl _ | (simp; done) | (dsimp only; omega) | (simp only [World.size_alloc, World.size_setCell]; omega)) _ | refine Ext.trans ?_ (by assumption)))
        clear bxa3 bxb3
        go_wp2_with (fail)
        refine (toNet_any _ nT0 nL0 zT0 zL0 _ (r0.ext (by repeat (first | exact Ext.refl _ | assumption | refine Ext.alloc ?_ _ | refine Ext.drew ?_ | refine Ext.drewN ?_ _ | refine Ext.setCell ?_ (by first | exact Nat.le_refl _ | (simp; done) | (dsimp only; omega) | (simp only [World.size_alloc, World.size_setCell]; omega)) _ | refine Ext.trans ?_ (by assumption)))) hnT0 hnL0).mono ?_
        rintro e w5 ⟨x5, rfl, hr5, hb5⟩
        obtain ⟨bxa5, bxb5⟩ := HBX.out w5 (by repeat (first | exact Ext.refl _ | assumption | refine Ext.alloc ?_ _ | refine Ext.drew ?_ | refine Ext.drewN ?_ _ | refine Ext.setCell ?_ (by first | exact Nat.le_refl _ | (simp; done) | (dsimp only; omega) | (simp only [World.size_alloc, World.size_setCell]; omega)) _ | refine Ext.trans ?_ (by assumption)))
        clear bxa4 bxb4
        obtain ⟨gT, gL, hxe, hglt, hgT, hgL⟩ := id hr5
        subst hxe
        go_wp2_with (fail)
        have e5y : Ext w5 (w5.alloc (.cells #[.slice (some ⟨gT, 0, none⟩) nT0 nT0, .slice (some ⟨gL, 0, none⟩) nL0 nL0] 35)) := (Ext.refl _).alloc _
        have bq0 : (w5.alloc (.cells #[.slice (some ⟨gT, 0, none⟩) nT0 nT0, .slice (some ⟨gL, 0, none⟩) nL0 nL0] 35)).cell? ⟨w5.heap.size, 0, none⟩ = some (.slice (some ⟨gT, 0, none⟩) nT0 nT0) := by simp [go_sem]
        have bq1 : (w5.alloc (.cells #[.slice (some ⟨gT, 0, none⟩) nT0 nT0, .slice (some ⟨gL, 0, none⟩) nL0 nL0] 35)).cell? ⟨w5.heap.size, 1, none⟩ = some (.slice (some ⟨gL, 0, none⟩) nL0 nL0) := by simp [go_sem]
        have byn : w5.heap.size < (w5.alloc (.cells #[.slice (some ⟨gT, 0, none⟩) nT0 nT0, .slice (some ⟨gL, 0, none⟩) nL0 nL0] 35)).heap.size := by simp
        obtain ⟨wy, hwy⟩ : ∃ x, x = (w5.alloc (.cells #[.slice (some ⟨gT, 0, none⟩) nT0 nT0, .slice (some ⟨gL, 0, none⟩) nL0 nL0] 35)) := ⟨_, rfl⟩
        rw [← hwy] at e5y bq0 bq1 byn ⊢
        obtain ⟨by5, hby⟩ : ∃ g, g = w5.heap.size := ⟨_, rfl⟩
        rw [← hby] at bq0 bq1 byn ⊢
        have HBY := hid (fun (W : World) (hW : Ext wy W) => show W.cell? ⟨by5, 0, none⟩ = some (.slice (some ⟨gT, 0, none⟩) nT0 nT0) ∧ W.cell? ⟨by5, 1, none⟩ = some (.slice (some ⟨gL, 0, none⟩) nL0 nL0) from ⟨by rw [(Ext.cells hW).1 _ _ byn]; exact bq0, by rw [(Ext.cells hW).1 _ _ byn]; exact bq1⟩)
        have HBYE := hid hby
        clear hwy hby bq0 bq1
        obtain ⟨bya, byb⟩ := HBY.out wy (Ext.refl _)
        obtain ⟨bxa, bxb⟩ := HBX.out wy (by repeat (first | exact Ext.refl _ | assumption | refine Ext.alloc ?_ _ | refine Ext.drew ?_ | refine Ext.drewN ?_ _ | refine Ext.setCell ?_ (by first | exact Nat.le_refl _ | (simp; done) | (dsimp only; omega) | (simp only [World.size_alloc, World.size_setCell]; omega)) _ | refine Ext.trans ?_ (by assumption)))
        clear bxa5 bxb5
        go_wp2_with (fail)
        refine (toFogS_any _ n1 z1 _ (r1.ext (by repeat (first | exact Ext.refl _ | assumption | refine Ext.alloc ?_ _ | refine Ext.drew ?_ | refine Ext.drewN ?_ _ | refine Ext.setCell ?_ (by first | exact Nat.le_refl _ | (simp; done) | (dsimp only; omega) | (simp only [World.size_alloc, World.size_setCell]; omega)) _ | refine Ext.trans ?_ (by assumption)))) hm1).mono ?_
        rintro e w6 ⟨g6, rfl, hr6, hb6⟩
        obtain ⟨bxa6, bxb6⟩ := HBX.out w6 (by repeat (first | exact Ext.refl _ | assumption | refine Ext.alloc ?_ _ | refine Ext.drew ?_ | refine Ext.drewN ?_ _ | refine Ext.setCell ?_ (by first | exact Nat.le_refl _ | (simp; done) | (dsimp only; omega) | (simp only [World.size_alloc, World.size_setCell]; omega)) _ | refine Ext.trans ?_ (by assumption)))
        obtain ⟨bya6, byb6⟩ := HBY.out w6 (by repeat (first | exact Ext.refl _ | assumption | refine Ext.alloc ?_ _ | refine Ext.drew ?_ | refine Ext.drewN ?_ _ | refine Ext.setCell ?_ (by first | exact Nat.le_refl _ | (simp; done) | (dsimp only; omega) | (simp only [World.size_alloc, World.size_setCell]; omega)) _ | refine Ext.trans ?_ (by assumption)))
        clear bxa bxb bya byb
        go_wp2_with (fail)
        refine (toHeldJobS_any _ n3 z3 _ (r3.ext (by repeat (first | exact Ext.refl _ | assumption | refine Ext.alloc ?_ _ | refine Ext.drew ?_ | refine Ext.drewN ?_ _ | refine Ext.setCell ?_ (by first | exact Nat.le_refl _ | (simp; done) | (dsimp only; omega) | (simp only [World.size_alloc, World.size_setCell]; omega)) _ | refine Ext.trans ?_ (by assumption)))) hm3).mono ?_
        rintro e w7 ⟨g7, rfl, hr7, hb7⟩
        obtain ⟨bxa7, bxb7⟩ := HBX.out w7 (by repeat (first | exact Ext.refl _ | assumption | refine Ext.alloc ?_ _ | refine Ext.drew ?_ | refine Ext.drewN ?_ _ | refine Ext.setCell ?_ (by first | exact Nat.le_refl _ | (simp; done) | (dsimp only; omega) | (simp only [World.size_alloc, World.size_setCell]; omega)) _ | refine Ext.trans ?_ (by assumption)))
        obtain ⟨bya7, byb7⟩ := HBY.out w7 (by repeat (first | exact Ext.refl _ | assumption | refine Ext.alloc ?_ _ | refine Ext.drew ?_ | refine Ext.drewN ?_ _ | refine Ext.setCell ?_ (by first | exact Nat.le_refl _ | (simp; done) | (dsimp only; omega) | (simp only [World.size_alloc, World.size_setCell]; omega)) _ | refine Ext.trans ?_ (by assumption)))
        clear bxa6 bxb6 bya6 byb6
        go_wp2_with (fail)
        refine (iHeldAt_any _ nT0 zT0 nL0 zL0 _ n1 z1 a2 _ n3 z3 a4 _ ((OwnNet.ext hr5 (by repeat (first | exact Ext.refl _ | assumption | refine Ext.alloc ?_ _ | refine Ext.drew ?_ | refine Ext.drewN ?_ _ | refine Ext.setCell ?_ (by first | exact Nat.le_refl _ | (simp; done) | (dsimp only; omega) | (simp only [World.size_alloc, World.size_setCell]; omega)) _ | refine Ext.trans ?_ (by assumption)))).net (by unfold maxLen; omega) (by unfold maxLen; omega) HWT0.out HWL0.out) (row_ints (row_ext hr6 (by repeat (first | exact Ext.refl _ | assumption | refine Ext.alloc ?_ _ | refine Ext.drew ?_ | refine Ext.drewN ?_ _ | refine Ext.setCell ?_ (by first | exact Nat.le_refl _ | (simp; done) | (dsimp only; omega) | (simp only [World.size_alloc, World.size_setCell]; omega)) _ | refine Ext.trans ?_ (by assumption)))) (by unfold maxLen; omega) HW1.out) (row_ints (row_ext hr7 (by repeat (first | exact Ext.refl _ | assumption | refine Ext.alloc ?_ _ | refine Ext.drew ?_ | refine Ext.drewN ?_ _ | refine Ext.setCell ?_ (by first | exact Nat.le_refl _ | (simp; done) | (dsimp only; omega) | (simp only [World.size_alloc, World.size_setCell]; omega)) _ | refine Ext.trans ?_ (by assumption)))) (by unfold maxLen; omega) HW3.out)).mono ?_
        rintro e w8 ⟨rfl, hb8⟩
        obtain ⟨bxa8, bxb8⟩ := HBX.out w8 (by repeat (first | exact Ext.refl _ | assumption | refine Ext.alloc ?_ _ | refine Ext.drew ?_ | refine Ext.drewN ?_ _ | refine Ext.setCell ?_ (by first | exact Nat.le_refl _ | (simp; done) | (dsimp only; omega) | (simp only [World.size_alloc, World.size_setCell]; omega)) _ | refine Ext.trans ?_ (by assumption)))
        obtain ⟨bya8, byb8⟩ := HBY.out w8 (by repeat (first | exact Ext.refl _ | assumption | refine Ext.alloc ?_ _ | refine Ext.drew ?_ | refine Ext.drewN ?_ _ | refine Ext.setCell ?_ (by first | exact Nat.le_refl _ | (simp; done) | (dsimp only; omega) | (simp only [World.size_alloc, World.size_setCell]; omega)) _ | refine Ext.trans ?_ (by assumption)))
        clear bxa7 bxb7 bya7 byb7
        go_wp2_with (fail)
        have SK0 := And.intro (HBX.out w8.drew (by repeat (first | exact Ext.refl _ | assumption | refine Ext.alloc ?_ _ | refine Ext.drew ?_ | refine Ext.drewN ?_ _ | refine Ext.setCell ?_ (by first | exact Nat.le_refl _ | (simp; done) | (dsimp only; omega) | (simp only [World.size_alloc, World.size_setCell]; omega)) _ | refine Ext.trans ?_ (by assumption)))) (HBY.out w8.drew (by repeat (first | exact Ext.refl _ | assumption | refine Ext.alloc ?_ _ | refine Ext.drew ?_ | refine Ext.drewN ?_ _ | refine Ext.setCell ?_ (by first | exact Nat.le_refl _ | (simp; done) | (dsimp only; omega) | (simp only [World.size_alloc, World.size_setCell]; omega)) _ | refine Ext.trans ?_ (by assumption))))
        refine wp_region_noPanic ?_
        refine wp_region_held_drew (S := (fun W => (W.cell? ⟨bg, 0, none⟩ = some vT0 ∧ W.cell? ⟨bg, 1, none⟩ = some vL0) ∧ (W.cell? ⟨by5, 0, none⟩ = some (.slice (some ⟨gT, 0, none⟩) nT0 nT0) ∧ W.cell? ⟨by5, 1, none⟩ = some (.slice (some ⟨gL, 0, none⟩) nL0 nL0)))) (by kernel_rfl) ?_ (fun hHeld => ?_)
        · first | exact SK0 | (dsimp only; exact SK0)
        refine wpAnyH_take (i := 0) (oi := { dst := some 69, op := _, type := _, pos := _, after := _, guard := _ }) (v := ?_) rfl (by kernel_rfl) (by kernel_rfl) (by kernel_rfl) (fun _ _ _ h => h) (Or.inl ⟨by rfl, ?_⟩) (by assumption) ?_
        rotate_left
        · (intro w hSw; (try dsimp only at hSw); go_simp) <;> (first | done | with_reducible rfl | rfl)
        try simp only [Act.put, List.setIfInBounds_toArray, List.set_cons_zero, List.set_cons_succ]
        refine wpAnyH_take (i := 1) (oi := { dst := some 70, op := _, type := _, pos := _, after := _, guard := _ }) (v := ?_) rfl (by kernel_rfl) (by kernel_rfl) (by kernel_rfl) (fun _ _ _ h => h) (Or.inl ⟨by rfl, ?_⟩) (by assumption) ?_
        rotate_left
        · (intro w hSw; (try dsimp only at hSw); go_simp) <;> (first | done | with_reducible rfl | rfl)
        try simp only [Act.put, List.setIfInBounds_toArray, List.set_cons_zero, List.set_cons_succ]
        refine wpAnyH_ready (rs := [2]) (by kernel_rfl) (by simp) ?_
        refine AllReadyH.cons (o := { dst := some 71, op := _, type := _, pos := _, after := _, guard := _ }) rfl (fun K hK => ?_) AllReadyH.nil
        go_simp
        go_at_call 17
        refine (toNet_any _ nT0 nL0 zT0 zL0 _ (r0.ext (by repeat (first | exact Ext.refl _ | assumption | refine Ext.alloc ?_ _ | refine Ext.drew ?_ | refine Ext.drewN ?_ _ | refine Ext.setCell ?_ (by first | exact Nat.le_refl _ | (simp; done) | (dsimp only; omega) | (simp only [World.size_alloc, World.size_setCell]; omega)) _ | refine Ext.trans ?_ (by assumption)))) hnT0 hnL0).mono ?_
        rintro e w9 ⟨x9, rfl, hr9, hb9⟩
        have SK := And.intro (HBX.out w9 (by repeat (first | exact Ext.refl _ | assumption | refine Ext.alloc ?_ _ | refine Ext.drew ?_ | refine Ext.drewN ?_ _ | refine Ext.setCell ?_ (by first | exact Nat.le_refl _ | (simp; done) | (dsimp only; omega) | (simp only [World.size_alloc, World.size_setCell]; omega)) _ | refine Ext.trans ?_ (by assumption)))) (HBY.out w9 (by repeat (first | exact Ext.refl _ | assumption | refine Ext.alloc ?_ _ | refine Ext.drew ?_ | refine Ext.drewN ?_ _ | refine Ext.setCell ?_ (by first | exact Nat.le_refl _ | (simp; done) | (dsimp only; omega) | (simp only [World.size_alloc, World.size_setCell]; omega)) _ | refine Ext.trans ?_ (by assumption))))
        refine hK.out _ _ ?_ (fun hHeld => ?_)
        · first | exact SK | (dsimp only; exact SK)
        clear hK K
        try simp only [Act.put, List.setIfInBounds_toArray, List.set_cons_zero, List.set_cons_succ]
        refine wpAnyH_ready (rs := [3]) (by kernel_rfl) (by simp) ?_
        refine AllReadyH.cons (o := { dst := some 72, op := _, type := _, pos := _, after := _, guard := _ }) rfl (fun K hK => ?_) AllReadyH.nil
        go_simp
        go_at_call 21
        refine (eqNet_same _ _ nT0 zT0 nL0 zL0 _ ((OwnNet.ext hr5 (by repeat (first | exact Ext.refl _ | assumption | refine Ext.alloc ?_ _ | refine Ext.drew ?_ | refine Ext.drewN ?_ _ | refine Ext.setCell ?_ (by first | exact Nat.le_refl _ | (simp; done) | (dsimp only; omega) | (simp only [World.size_alloc, World.size_setCell]; omega)) _ | refine Ext.trans ?_ (by assumption)))).net (by unfold maxLen; omega) (by unfold maxLen; omega) HWT0.out HWL0.out) ((OwnNet.ext hr9 (by repeat (first | exact Ext.refl _ | assumption | refine Ext.alloc ?_ _ | refine Ext.drew ?_ | refine Ext.drewN ?_ _ | refine Ext.setCell ?_ (by first | exact Nat.le_refl _ | (simp; done) | (dsimp only; omega) | (simp only [World.size_alloc, World.size_setCell]; omega)) _ | refine Ext.trans ?_ (by assumption)))).net (by unfold maxLen; omega) (by unfold maxLen; omega) HWT0.out HWL0.out)).mono ?_
        rintro e w10 ⟨rfl, hb10⟩
        have SK2 := And.intro (HBX.out w10 (by repeat (first | exact Ext.refl _ | assumption | refine Ext.alloc ?_ _ | refine Ext.drew ?_ | refine Ext.drewN ?_ _ | refine Ext.setCell ?_ (by first | exact Nat.le_refl _ | (simp; done) | (dsimp only; omega) | (simp only [World.size_alloc, World.size_setCell]; omega)) _ | refine Ext.trans ?_ (by assumption)))) (HBY.out w10 (by repeat (first | exact Ext.refl _ | assumption | refine Ext.alloc ?_ _ | refine Ext.drew ?_ | refine Ext.drewN ?_ _ | refine Ext.setCell ?_ (by first | exact Nat.le_refl _ | (simp; done) | (dsimp only; omega) | (simp only [World.size_alloc, World.size_setCell]; omega)) _ | refine Ext.trans ?_ (by assumption))))
        refine hK.out _ _ ?_ (fun hHeld => ?_)
        · first | exact SK2 | (dsimp only; exact SK2)
        clear hK K
        try simp only [Act.put, List.setIfInBounds_toArray, List.set_cons_zero, List.set_cons_succ]
        refine wpAnyH_take (i := 4) (oi := { dst := some 73, op := _, type := _, pos := _, after := _, guard := _ }) (v := ?_) rfl (by kernel_rfl) (by kernel_rfl) (by kernel_rfl) (fun _ _ _ h => h) (Or.inl ⟨by rfl, ?_⟩) (by assumption) ?_
        rotate_left
        · (intro w hSw; (try dsimp only at hSw); go_simp) <;> (first | done | with_reducible rfl | rfl)
        try simp only [Act.put, List.setIfInBounds_toArray, List.set_cons_zero, List.set_cons_succ]
        refine wpAnyH_done (by kernel_rfl) ?_ _
        refine NoPanic.normal ?_
        clear SK0 SK SK2
        obtain ⟨bxa10, bxb10⟩ := HBX.out w10 (by repeat (first | exact Ext.refl _ | assumption | refine Ext.alloc ?_ _ | refine Ext.drew ?_ | refine Ext.drewN ?_ _ | refine Ext.setCell ?_ (by first | exact Nat.le_refl _ | (simp; done) | (dsimp only; omega) | (simp only [World.size_alloc, World.size_setCell]; omega)) _ | refine Ext.trans ?_ (by assumption)))
        obtain ⟨bya10, byb10⟩ := HBY.out w10 (by repeat (first | exact Ext.refl _ | assumption | refine Ext.alloc ?_ _ | refine Ext.drew ?_ | refine Ext.drewN ?_ _ | refine Ext.setCell ?_ (by first | exact Nat.le_refl _ | (simp; done) | (dsimp only; omega) | (simp only [World.size_alloc, World.size_setCell]; omega)) _ | refine Ext.trans ?_ (by assumption)))
        clear bxa8 bxb8 bya8 byb8
        go_wp2_with (fail)
        refine (toFogS_any _ n1 z1 _ (r1.ext (by repeat (first | exact Ext.refl _ | assumption | refine Ext.alloc ?_ _ | refine Ext.drew ?_ | refine Ext.drewN ?_ _ | refine Ext.setCell ?_ (by first | exact Nat.le_refl _ | (simp; done) | (dsimp only; omega) | (simp only [World.size_alloc, World.size_setCell]; omega)) _ | refine Ext.trans ?_ (by assumption)))) hm1).mono ?_
        rintro e w11 ⟨g11, rfl, hr11, hb11⟩
        obtain ⟨bxa11, bxb11⟩ := HBX.out w11 (by repeat (first | exact Ext.refl _ | assumption | refine Ext.alloc ?_ _ | refine Ext.drew ?_ | refine Ext.drewN ?_ _ | refine Ext.setCell ?_ (by first | exact Nat.le_refl _ | (simp; done) | (dsimp only; omega) | (simp only [World.size_alloc, World.size_setCell]; omega)) _ | refine Ext.trans ?_ (by assumption)))
        obtain ⟨bya11, byb11⟩ := HBY.out w11 (by repeat (first | exact Ext.refl _ | assumption | refine Ext.alloc ?_ _ | refine Ext.drew ?_ | refine Ext.drewN ?_ _ | refine Ext.setCell ?_ (by first | exact Nat.le_refl _ | (simp; done) | (dsimp only; omega) | (simp only [World.size_alloc, World.size_setCell]; omega)) _ | refine Ext.trans ?_ (by assumption)))
        clear bxa10 bxb10 bya10 byb10
        go_wp2_with (fail)
        refine (eqFogS_same _ _ n1 z1 _ (row_ints (row_ext hr6 (by repeat (first | exact Ext.refl _ | assumption | refine Ext.alloc ?_ _ | refine Ext.drew ?_ | refine Ext.drewN ?_ _ | refine Ext.setCell ?_ (by first | exact Nat.le_refl _ | (simp; done) | (dsimp only; omega) | (simp only [World.size_alloc, World.size_setCell]; omega)) _ | refine Ext.trans ?_ (by assumption)))) (by unfold maxLen; omega) HW1.out) (row_ints (row_ext hr11 (by repeat (first | exact Ext.refl _ | assumption | refine Ext.alloc ?_ _ | refine Ext.drew ?_ | refine Ext.drewN ?_ _ | refine Ext.setCell ?_ (by first | exact Nat.le_refl _ | (simp; done) | (dsimp only; omega) | (simp only [World.size_alloc, World.size_setCell]; omega)) _ | refine Ext.trans ?_ (by assumption)))) (by unfold maxLen; omega) HW1.out)).mono ?_
        rintro e w12 ⟨rfl, hb12⟩
        obtain ⟨bxa12, bxb12⟩ := HBX.out w12 (by repeat (first | exact Ext.refl _ | assumption | refine Ext.alloc ?_ _ | refine Ext.drew ?_ | refine Ext.drewN ?_ _ | refine Ext.setCell ?_ (by first | exact Nat.le_refl _ | (simp; done) | (dsimp only; omega) | (simp only [World.size_alloc, World.size_setCell]; omega)) _ | refine Ext.trans ?_ (by assumption)))
        obtain ⟨bya12, byb12⟩ := HBY.out w12 (by repeat (first | exact Ext.refl _ | assumption | refine Ext.alloc ?_ _ | refine Ext.drew ?_ | refine Ext.drewN ?_ _ | refine Ext.setCell ?_ (by first | exact Nat.le_refl _ | (simp; done) | (dsimp only; omega) | (simp only [World.size_alloc, World.size_setCell]; omega)) _ | refine Ext.trans ?_ (by assumption)))
        clear bxa11 bxb11 bya11 byb11
        go_wp2_with (fail)
        refine (toHeldJobS_any _ n3 z3 _ (r3.ext (by repeat (first | exact Ext.refl _ | assumption | refine Ext.alloc ?_ _ | refine Ext.drew ?_ | refine Ext.drewN ?_ _ | refine Ext.setCell ?_ (by first | exact Nat.le_refl _ | (simp; done) | (dsimp only; omega) | (simp only [World.size_alloc, World.size_setCell]; omega)) _ | refine Ext.trans ?_ (by assumption)))) hm3).mono ?_
        rintro e w13 ⟨g13, rfl, hr13, hb13⟩
        obtain ⟨bxa13, bxb13⟩ := HBX.out w13 (by repeat (first | exact Ext.refl _ | assumption | refine Ext.alloc ?_ _ | refine Ext.drew ?_ | refine Ext.drewN ?_ _ | refine Ext.setCell ?_ (by first | exact Nat.le_refl _ | (simp; done) | (dsimp only; omega) | (simp only [World.size_alloc, World.size_setCell]; omega)) _ | refine Ext.trans ?_ (by assumption)))
        obtain ⟨bya13, byb13⟩ := HBY.out w13 (by repeat (first | exact Ext.refl _ | assumption | refine Ext.alloc ?_ _ | refine Ext.drew ?_ | refine Ext.drewN ?_ _ | refine Ext.setCell ?_ (by first | exact Nat.le_refl _ | (simp; done) | (dsimp only; omega) | (simp only [World.size_alloc, World.size_setCell]; omega)) _ | refine Ext.trans ?_ (by assumption)))
        clear bxa12 bxb12 bya12 byb12
        go_wp2_with (fail)
        refine (eqHeldJobS_same _ _ n3 z3 _ (row_ints (row_ext hr7 (by repeat (first | exact Ext.refl _ | assumption | refine Ext.alloc ?_ _ | refine Ext.drew ?_ | refine Ext.drewN ?_ _ | refine Ext.setCell ?_ (by first | exact Nat.le_refl _ | (simp; done) | (dsimp only; omega) | (simp only [World.size_alloc, World.size_setCell]; omega)) _ | refine Ext.trans ?_ (by assumption)))) (by unfold maxLen; omega) HW3.out) (row_ints (row_ext hr13 (by repeat (first | exact Ext.refl _ | assumption | refine Ext.alloc ?_ _ | refine Ext.drew ?_ | refine Ext.drewN ?_ _ | refine Ext.setCell ?_ (by first | exact Nat.le_refl _ | (simp; done) | (dsimp only; omega) | (simp only [World.size_alloc, World.size_setCell]; omega)) _ | refine Ext.trans ?_ (by assumption)))) (by unfold maxLen; omega) HW3.out)).mono ?_
        rintro e w14 ⟨rfl, hb14⟩
        obtain ⟨bxa14, bxb14⟩ := HBX.out w14 (by repeat (first | exact Ext.refl _ | assumption | refine Ext.alloc ?_ _ | refine Ext.drew ?_ | refine Ext.drewN ?_ _ | refine Ext.setCell ?_ (by first | exact Nat.le_refl _ | (simp; done) | (dsimp only; omega) | (simp only [World.size_alloc, World.size_setCell]; omega)) _ | refine Ext.trans ?_ (by assumption)))
        obtain ⟨bya14, byb14⟩ := HBY.out w14 (by repeat (first | exact Ext.refl _ | assumption | refine Ext.alloc ?_ _ | refine Ext.drew ?_ | refine Ext.drewN ?_ _ | refine Ext.setCell ?_ (by first | exact Nat.le_refl _ | (simp; done) | (dsimp only; omega) | (simp only [World.size_alloc, World.size_setCell]; omega)) _ | refine Ext.trans ?_ (by assumption)))
        clear bxa13 bxb13 bya13 byb13
        go_wp2_with (fail)
        go_ret
        exact ⟨rfl, (by repeat (first | exact Ext.refl _ | assumption | refine Ext.alloc ?_ _ | refine Ext.drew ?_ | refine Ext.drewN ?_ _ | refine Ext.setCell ?_ (by first | exact Nat.le_refl _ | (simp; done) | (dsimp only; omega) | (simp only [World.size_alloc, World.size_setCell]; omega)) _ | refine Ext.trans ?_ (by assumption)))⟩
      · rw [if_neg hn3] at hsz3
        have HQ0 := hid hq0
        clear hq0
        have HQ1 := hid hq1
        clear hq1
        go_enter Try.func8, Try.ntmps8
        go_wp2_with (fail)
        have e00 : Ext w (w.alloc (.cells #[vT0, vL0] 25)) := (Ext.refl w).alloc _
        have bp0 : (w.alloc (.cells #[vT0, vL0] 25)).cell? ⟨w.heap.size, 0, none⟩ = some vT0 := by simp [go_sem]
        have bp1 : (w.alloc (.cells #[vT0, vL0] 25)).cell? ⟨w.heap.size, 1, none⟩ = some vL0 := by simp [go_sem]
        have bgs : w.heap.size < (w.alloc (.cells #[vT0, vL0] 25)).heap.size := by simp
        generalize (w.alloc (.cells #[vT0, vL0] 25)) = w0 at *
        obtain ⟨bg, hbg⟩ : ∃ g, g = w.heap.size := ⟨_, rfl⟩
        rw [← hbg] at bp0 bp1 bgs ⊢
        have HBX := hid (fun (W : World) (hW : Ext w0 W) => show W.cell? ⟨bg, 0, none⟩ = some vT0 ∧ W.cell? ⟨bg, 1, none⟩ = some vL0 from ⟨by rw [(Ext.cells hW).1 _ _ bgs]; exact bp0, by rw [(Ext.cells hW).1 _ _ bgs]; exact bp1⟩)
        clear hbg
        go_wp2_with (fail)
        refine (hsz0 _ (by repeat (first | exact Ext.refl _ | assumption | refine Ext.alloc ?_ _ | refine Ext.drew ?_ | refine Ext.drewN ?_ _ | refine Ext.setCell ?_ (by first | exact Nat.le_refl _ | (simp; done) | (dsimp only; omega) | (simp only [World.size_alloc, World.size_setCell]; omega)) _ | refine Ext.trans ?_ (by assumption)))).mono ?_
        rintro e wz ⟨rfl, hbz⟩
        clear bp0 bp1
        obtain ⟨bxa, bxb⟩ := HBX.out wz (by repeat (first | exact Ext.refl _ | assumption | refine Ext.alloc ?_ _ | refine Ext.drew ?_ | refine Ext.drewN ?_ _ | refine Ext.setCell ?_ (by first | exact Nat.le_refl _ | (simp; done) | (dsimp only; omega) | (simp only [World.size_alloc, World.size_setCell]; omega)) _ | refine Ext.trans ?_ (by assumption)))
        clear hsz0
        go_wp2_with (fail)
        refine (hsz1 _ (by repeat (first | exact Ext.refl _ | assumption | refine Ext.alloc ?_ _ | refine Ext.drew ?_ | refine Ext.drewN ?_ _ | refine Ext.setCell ?_ (by first | exact Nat.le_refl _ | (simp; done) | (dsimp only; omega) | (simp only [World.size_alloc, World.size_setCell]; omega)) _ | refine Ext.trans ?_ (by assumption)))).mono ?_
        rintro e w' ⟨rfl, rfl⟩
        clear hsz1
        go_wp2_with (fail)
        refine (hsz3 _ (by repeat (first | exact Ext.refl _ | assumption | refine Ext.alloc ?_ _ | refine Ext.drew ?_ | refine Ext.drewN ?_ _ | refine Ext.setCell ?_ (by first | exact Nat.le_refl _ | (simp; done) | (dsimp only; omega) | (simp only [World.size_alloc, World.size_setCell]; omega)) _ | refine Ext.trans ?_ (by assumption)))).mono ?_
        rintro e w' ⟨rfl, rfl⟩
        clear hsz3
        go_wp2_with (fail)
        go_ret
        exact ⟨rfl, (by repeat (first | exact Ext.refl _ | assumption | refine Ext.alloc ?_ _ | refine Ext.drew ?_ | refine Ext.drewN ?_ _ | refine Ext.setCell ?_ (by first | exact Nat.le_refl _ | (simp; done) | (dsimp only; omega) | (simp only [World.size_alloc, World.size_setCell]; omega)) _ | refine Ext.trans ?_ (by assumption)))⟩
    · rw [if_neg hn1] at hsz1
      have HQ0 := hid hq0
      clear hq0
      go_enter Try.func8, Try.ntmps8
      go_wp2_with (fail)
      have e00 : Ext w (w.alloc (.cells #[vT0, vL0] 25)) := (Ext.refl w).alloc _
      have bp0 : (w.alloc (.cells #[vT0, vL0] 25)).cell? ⟨w.heap.size, 0, none⟩ = some vT0 := by simp [go_sem]
      have bp1 : (w.alloc (.cells #[vT0, vL0] 25)).cell? ⟨w.heap.size, 1, none⟩ = some vL0 := by simp [go_sem]
      have bgs : w.heap.size < (w.alloc (.cells #[vT0, vL0] 25)).heap.size := by simp
      generalize (w.alloc (.cells #[vT0, vL0] 25)) = w0 at *
      obtain ⟨bg, hbg⟩ : ∃ g, g = w.heap.size := ⟨_, rfl⟩
      rw [← hbg] at bp0 bp1 bgs ⊢
      have HBX := hid (fun (W : World) (hW : Ext w0 W) => show W.cell? ⟨bg, 0, none⟩ = some vT0 ∧ W.cell? ⟨bg, 1, none⟩ = some vL0 from ⟨by rw [(Ext.cells hW).1 _ _ bgs]; exact bp0, by rw [(Ext.cells hW).1 _ _ bgs]; exact bp1⟩)
      clear hbg
      go_wp2_with (fail)
      refine (hsz0 _ (by repeat (first | exact Ext.refl _ | assumption | refine Ext.alloc ?_ _ | refine Ext.drew ?_ | refine Ext.drewN ?_ _ | refine Ext.setCell ?_ (by first | exact Nat.le_refl _ | (simp; done) | (dsimp only; omega) | (simp only [World.size_alloc, World.size_setCell]; omega)) _ | refine Ext.trans ?_ (by assumption)))).mono ?_
      rintro e wz ⟨rfl, hbz⟩
      clear bp0 bp1
      obtain ⟨bxa, bxb⟩ := HBX.out wz (by repeat (first | exact Ext.refl _ | assumption | refine Ext.alloc ?_ _ | refine Ext.drew ?_ | refine Ext.drewN ?_ _ | refine Ext.setCell ?_ (by first | exact Nat.le_refl _ | (simp; done) | (dsimp only; omega) | (simp only [World.size_alloc, World.size_setCell]; omega)) _ | refine Ext.trans ?_ (by assumption)))
      clear hsz0
      go_wp2_with (fail)
      refine (hsz1 _ (by repeat (first | exact Ext.refl _ | assumption | refine Ext.alloc ?_ _ | refine Ext.drew ?_ | refine Ext.drewN ?_ _ | refine Ext.setCell ?_ (by first | exact Nat.le_refl _ | (simp; done) | (dsimp only; omega) | (simp only [World.size_alloc, World.size_setCell]; omega)) _ | refine Ext.trans ?_ (by assumption)))).mono ?_
      rintro e w' ⟨rfl, rfl⟩
      clear hsz1
      go_wp2_with (fail)
      go_ret
      exact ⟨rfl, (by repeat (first | exact Ext.refl _ | assumption | refine Ext.alloc ?_ _ | refine Ext.drew ?_ | refine Ext.drewN ?_ _ | refine Ext.setCell ?_ (by first | exact Nat.le_refl _ | (simp; done) | (dsimp only; omega) | (simp only [World.size_alloc, World.size_setCell]; omega)) _ | refine Ext.trans ?_ (by assumption)))⟩
  · rw [if_neg hn0] at hsz0
    go_enter Try.func8, Try.ntmps8
    go_wp2_with (fail)
    have e00 : Ext w (w.alloc (.cells #[vT0, vL0] 25)) := (Ext.refl w).alloc _
    have bp0 : (w.alloc (.cells #[vT0, vL0] 25)).cell? ⟨w.heap.size, 0, none⟩ = some vT0 := by simp [go_sem]
    have bp1 : (w.alloc (.cells #[vT0, vL0] 25)).cell? ⟨w.heap.size, 1, none⟩ = some vL0 := by simp [go_sem]
    have bgs : w.heap.size < (w.alloc (.cells #[vT0, vL0] 25)).heap.size := by simp
    generalize (w.alloc (.cells #[vT0, vL0] 25)) = w0 at *
    obtain ⟨bg, hbg⟩ : ∃ g, g = w.heap.size := ⟨_, rfl⟩
    rw [← hbg] at bp0 bp1 bgs ⊢
    have HBX := hid (fun (W : World) (hW : Ext w0 W) => show W.cell? ⟨bg, 0, none⟩ = some vT0 ∧ W.cell? ⟨bg, 1, none⟩ = some vL0 from ⟨by rw [(Ext.cells hW).1 _ _ bgs]; exact bp0, by rw [(Ext.cells hW).1 _ _ bgs]; exact bp1⟩)
    clear hbg
    go_wp2_with (fail)
    refine (hsz0 _ (by repeat (first | exact Ext.refl _ | assumption | refine Ext.alloc ?_ _ | refine Ext.drew ?_ | refine Ext.drewN ?_ _ | refine Ext.setCell ?_ (by first | exact Nat.le_refl _ | (simp; done) | (dsimp only; omega) | (simp only [World.size_alloc, World.size_setCell]; omega)) _ | refine Ext.trans ?_ (by assumption)))).mono ?_
    rintro e wz ⟨rfl, hbz⟩
    clear bp0 bp1
    obtain ⟨bxa, bxb⟩ := HBX.out wz (by repeat (first | exact Ext.refl _ | assumption | refine Ext.alloc ?_ _ | refine Ext.drew ?_ | refine Ext.drewN ?_ _ | refine Ext.setCell ?_ (by first | exact Nat.le_refl _ | (simp; done) | (dsimp only; omega) | (simp only [World.size_alloc, World.size_setCell]; omega)) _ | refine Ext.trans ?_ (by assumption)))
    clear hsz0
    go_wp2_with (fail)
    go_ret
    exact ⟨rfl, (by repeat (first | exact Ext.refl _ | assumption | refine Ext.alloc ?_ _ | refine Ext.drew ?_ | refine Ext.drewN ?_ _ | refine Ext.setCell ?_ (by first | exact Nat.le_refl _ | (simp; done) | (dsimp only; omega) | (simp only [World.size_alloc, World.size_setCell]; omega)) _ | refine Ext.trans ?_ (by assumption)))⟩


set_option maxRecDepth 100000 in
set_option maxHeartbeats 4000000 in
theorem walkFnExactWaitingSum (v0 : Value) (nT0 : Nat) (zT0 : List Int) (nL0 : Nat) (zL0 : List Int) (v1 : Value) (n1 : Nat) (z1 : List Int) (a2 : Int) (v3 : Value) (n3 : Nat) (z3 : List Int) (w : World) (r0 : NetRow w v0 nT0 zT0 nL0 zL0) (r1 : IntRow .i64 3 w v1 n1 z1) (_ : (Lit.int .i64 a2).wf = true) (r3 : IntRow .i64 2 w v3 n3 z3) :
    Calls Try.prog 7 #[v0, v1, .int .i64 a2, v3] w fun e w' => e = .returned (.bool true) ∧ Ext w w' := by
  have HWT0 := hid r0.wf.1
  have HWL0 := hid r0.wf.2
  obtain ⟨vT0, vL0, rfl, _, _⟩ := id r0
  have HW1 := hid r1.2.2.1
  have HW3 := hid r3.2.2.1
  have hsz0 := fun (W : World) (hW : Ext w W) => szNet_any _ nT0 zT0 nL0 zL0 W 1048576 (r0.ext hW) (by omega) (by omega)
  by_cases hn0 : nT0 + nL0 ≤ (1048576 : Int)
  · rw [if_pos hn0] at hsz0
    obtain ⟨q0, hq0⟩ : ∃ q : Int, q = 1048576 - nT0 - nL0 := ⟨_, rfl⟩
    rw [← hq0] at hsz0
    have hqa0 : 0 ≤ q0 := by omega
    have hqb0 : q0 ≤ 1048576 := by omega
    have hsz1 := fun (W : World) (hW : Ext w W) => szFogS_any v1 n1 z1 W q0 (r1.ext hW) (by omega) (by omega)
    by_cases hn1 : (n1 : Int) ≤ q0
    · rw [if_pos hn1] at hsz1
      obtain ⟨q1, hq1⟩ : ∃ q : Int, q = q0 - n1 := ⟨_, rfl⟩
      rw [← hq1] at hsz1
      have hqa1 : 0 ≤ q1 := by omega
      have hqb1 : q1 ≤ 1048576 := by omega
      have hsz3 := fun (W : World) (hW : Ext w W) => szHeldJobS_any v3 n3 z3 W q1 (r3.ext hW) (by omega) (by omega)
      by_cases hn3 : (n3 : Int) ≤ q1
      · rw [if_pos hn3] at hsz3
        obtain ⟨q3, hq3⟩ : ∃ q : Int, q = q1 - n3 := ⟨_, rfl⟩
        rw [← hq3] at hsz3
        have hqa3 : 0 ≤ q3 := by omega
        have hqb3 : q3 ≤ 1048576 := by omega
        have hnT0 : nT0 ≤ 1048576 := by omega
        have hnL0 : nL0 ≤ 1048576 := by omega
        have hm1 : n1 ≤ 1048576 := by omega
        have hm3 : n3 ≤ 1048576 := by omega
        have HQ0 := hid hq0
        clear hq0
        have HQ1 := hid hq1
        clear hq1
        have HQ3 := hid hq3
        clear hq3
        go_enter Try.func7, Try.ntmps7
        go_wp2_with (fail)
        have e00 : Ext w (w.alloc (.cells #[vT0, vL0] 25)) := (Ext.refl w).alloc _
        have bp0 : (w.alloc (.cells #[vT0, vL0] 25)).cell? ⟨w.heap.size, 0, none⟩ = some vT0 := by simp [go_sem]
        have bp1 : (w.alloc (.cells #[vT0, vL0] 25)).cell? ⟨w.heap.size, 1, none⟩ = some vL0 := by simp [go_sem]
        have bgs : w.heap.size < (w.alloc (.cells #[vT0, vL0] 25)).heap.size := by simp
        generalize (w.alloc (.cells #[vT0, vL0] 25)) = w0 at *
        obtain ⟨bg, hbg⟩ : ∃ g, g = w.heap.size := ⟨_, rfl⟩
        rw [← hbg] at bp0 bp1 bgs ⊢
        have HBX := hid (fun (W : World) (hW : Ext w0 W) => show W.cell? ⟨bg, 0, none⟩ = some vT0 ∧ W.cell? ⟨bg, 1, none⟩ = some vL0 from ⟨by rw [(Ext.cells hW).1 _ _ bgs]; exact bp0, by rw [(Ext.cells hW).1 _ _ bgs]; exact bp1⟩)
        clear hbg
        go_wp2_with (fail)
        refine (hsz0 _ (by repeat (first | exact Ext.refl _ | assumption | refine Ext.alloc ?_ _ | refine Ext.drew ?_ | refine Ext.drewN ?_ _ | refine Ext.setCell ?_ (by first | exact Nat.le_refl _ | (simp; done) | (dsimp only; omega) | (simp only [World.size_alloc, World.size_setCell]; omega)) _ | refine Ext.trans ?_ (by assumption)))).mono ?_
        rintro e wz ⟨rfl, hbz⟩
        clear bp0 bp1
        obtain ⟨bxa, bxb⟩ := HBX.out wz (by repeat (first | exact Ext.refl _ | assumption | refine Ext.alloc ?_ _ | refine Ext.drew ?_ | refine Ext.drewN ?_ _ | refine Ext.setCell ?_ (by first | exact Nat.le_refl _ | (simp; done) | (dsimp only; omega) | (simp only [World.size_alloc, World.size_setCell]; omega)) _ | refine Ext.trans ?_ (by assumption)))
        clear hsz0
        go_wp2_with (fail)
        refine (hsz1 _ (by repeat (first | exact Ext.refl _ | assumption | refine Ext.alloc ?_ _ | refine Ext.drew ?_ | refine Ext.drewN ?_ _ | refine Ext.setCell ?_ (by first | exact Nat.le_refl _ | (simp; done) | (dsimp only; omega) | (simp only [World.size_alloc, World.size_setCell]; omega)) _ | refine Ext.trans ?_ (by assumption)))).mono ?_
        rintro e w' ⟨rfl, rfl⟩
        clear hsz1
        go_wp2_with (fail)
        refine (hsz3 _ (by repeat (first | exact Ext.refl _ | assumption | refine Ext.alloc ?_ _ | refine Ext.drew ?_ | refine Ext.drewN ?_ _ | refine Ext.setCell ?_ (by first | exact Nat.le_refl _ | (simp; done) | (dsimp only; omega) | (simp only [World.size_alloc, World.size_setCell]; omega)) _ | refine Ext.trans ?_ (by assumption)))).mono ?_
        rintro e w' ⟨rfl, rfl⟩
        clear hsz3
        go_wp2_with (fail)
        refine (toNet_any _ nT0 nL0 zT0 zL0 _ (r0.ext (by repeat (first | exact Ext.refl _ | assumption | refine Ext.alloc ?_ _ | refine Ext.drew ?_ | refine Ext.drewN ?_ _ | refine Ext.setCell ?_ (by first | exact Nat.le_refl _ | (simp; done) | (dsimp only; omega) | (simp only [World.size_alloc, World.size_setCell]; omega)) _ | refine Ext.trans ?_ (by assumption)))) hnT0 hnL0).mono ?_
        rintro e w1 ⟨x1, rfl, hr1, hb1⟩
        obtain ⟨bxa1, bxb1⟩ := HBX.out w1 (by repeat (first | exact Ext.refl _ | assumption | refine Ext.alloc ?_ _ | refine Ext.drew ?_ | refine Ext.drewN ?_ _ | refine Ext.setCell ?_ (by first | exact Nat.le_refl _ | (simp; done) | (dsimp only; omega) | (simp only [World.size_alloc, World.size_setCell]; omega)) _ | refine Ext.trans ?_ (by assumption)))
        clear bxa bxb
        go_wp2_with (fail)
        refine (toFogS_any _ n1 z1 _ (r1.ext (by repeat (first | exact Ext.refl _ | assumption | refine Ext.alloc ?_ _ | refine Ext.drew ?_ | refine Ext.drewN ?_ _ | refine Ext.setCell ?_ (by first | exact Nat.le_refl _ | (simp; done) | (dsimp only; omega) | (simp only [World.size_alloc, World.size_setCell]; omega)) _ | refine Ext.trans ?_ (by assumption)))) hm1).mono ?_
        rintro e w2 ⟨g2, rfl, hr2, hb2⟩
        obtain ⟨bxa2, bxb2⟩ := HBX.out w2 (by repeat (first | exact Ext.refl _ | assumption | refine Ext.alloc ?_ _ | refine Ext.drew ?_ | refine Ext.drewN ?_ _ | refine Ext.setCell ?_ (by first | exact Nat.le_refl _ | (simp; done) | (dsimp only; omega) | (simp only [World.size_alloc, World.size_setCell]; omega)) _ | refine Ext.trans ?_ (by assumption)))
        clear bxa1 bxb1
        go_wp2_with (fail)
        refine (toHeldJobS_any _ n3 z3 _ (r3.ext (by repeat (first | exact Ext.refl _ | assumption | refine Ext.alloc ?_ _ | refine Ext.drew ?_ | refine Ext.drewN ?_ _ | refine Ext.setCell ?_ (by first | exact Nat.le_refl _ | (simp; done) | (dsimp only; omega) | (simp only [World.size_alloc, World.size_setCell]; omega)) _ | refine Ext.trans ?_ (by assumption)))) hm3).mono ?_
        rintro e w3 ⟨g3, rfl, hr3, hb3⟩
        obtain ⟨bxa3, bxb3⟩ := HBX.out w3 (by repeat (first | exact Ext.refl _ | assumption | refine Ext.alloc ?_ _ | refine Ext.drew ?_ | refine Ext.drewN ?_ _ | refine Ext.setCell ?_ (by first | exact Nat.le_refl _ | (simp; done) | (dsimp only; omega) | (simp only [World.size_alloc, World.size_setCell]; omega)) _ | refine Ext.trans ?_ (by assumption)))
        clear bxa2 bxb2
        go_wp2_with (fail)
        refine (sWaitingSum_any _ nT0 zT0 nL0 zL0 _ n1 z1 a2 _ n3 z3 _ ((OwnNet.ext hr1 (by repeat (first | exact Ext.refl _ | assumption | refine Ext.alloc ?_ _ | refine Ext.drew ?_ | refine Ext.drewN ?_ _ | refine Ext.setCell ?_ (by first | exact Nat.le_refl _ | (simp; done) | (dsimp only; omega) | (simp only [World.size_alloc, World.size_setCell]; omega)) _ | refine Ext.trans ?_ (by assumption)))).net (by unfold maxLen; omega) (by unfold maxLen; omega) HWT0.out HWL0.out) (row_ints (row_ext hr2 (by repeat (first | exact Ext.refl _ | assumption | refine Ext.alloc ?_ _ | refine Ext.drew ?_ | refine Ext.drewN ?_ _ | refine Ext.setCell ?_ (by first | exact Nat.le_refl _ | (simp; done) | (dsimp only; omega) | (simp only [World.size_alloc, World.size_setCell]; omega)) _ | refine Ext.trans ?_ (by assumption)))) (by unfold maxLen; omega) HW1.out) (row_ints (row_ext hr3 (by repeat (first | exact Ext.refl _ | assumption | refine Ext.alloc ?_ _ | refine Ext.drew ?_ | refine Ext.drewN ?_ _ | refine Ext.setCell ?_ (by first | exact Nat.le_refl _ | (simp; done) | (dsimp only; omega) | (simp only [World.size_alloc, World.size_setCell]; omega)) _ | refine Ext.trans ?_ (by assumption)))) (by unfold maxLen; omega) HW3.out)).mono ?_
        rintro e w4 ⟨rfl, hb4⟩
        obtain ⟨bxa4, bxb4⟩ := HBX.out w4 (by repeat (first | exact Ext.refl _ | assumption | refine Ext.alloc ?_ _ | refine Ext.drew ?_ | refine Ext.drewN ?_ _ | refine Ext.setCell ?_ (by first | exact Nat.le_refl _ | (simp; done) | (dsimp only; omega) | (simp only [World.size_alloc, World.size_setCell]; omega)) _ | refine Ext.trans ?_ (by assumption)))
        clear bxa3 bxb3
        go_wp2_with (fail)
        refine (toNet_any _ nT0 nL0 zT0 zL0 _ (r0.ext (by repeat (first | exact Ext.refl _ | assumption | refine Ext.alloc ?_ _ | refine Ext.drew ?_ | refine Ext.drewN ?_ _ | refine Ext.setCell ?_ (by first | exact Nat.le_refl _ | (simp; done) | (dsimp only; omega) | (simp only [World.size_alloc, World.size_setCell]; omega)) _ | refine Ext.trans ?_ (by assumption)))) hnT0 hnL0).mono ?_
        rintro e w5 ⟨x5, rfl, hr5, hb5⟩
        obtain ⟨bxa5, bxb5⟩ := HBX.out w5 (by repeat (first | exact Ext.refl _ | assumption | refine Ext.alloc ?_ _ | refine Ext.drew ?_ | refine Ext.drewN ?_ _ | refine Ext.setCell ?_ (by first | exact Nat.le_refl _ | (simp; done) | (dsimp only; omega) | (simp only [World.size_alloc, World.size_setCell]; omega)) _ | refine Ext.trans ?_ (by assumption)))
        clear bxa4 bxb4
        obtain ⟨gT, gL, hxe, hglt, hgT, hgL⟩ := id hr5
        subst hxe
        go_wp2_with (fail)
        have e5y : Ext w5 (w5.alloc (.cells #[.slice (some ⟨gT, 0, none⟩) nT0 nT0, .slice (some ⟨gL, 0, none⟩) nL0 nL0] 35)) := (Ext.refl _).alloc _
        have bq0 : (w5.alloc (.cells #[.slice (some ⟨gT, 0, none⟩) nT0 nT0, .slice (some ⟨gL, 0, none⟩) nL0 nL0] 35)).cell? ⟨w5.heap.size, 0, none⟩ = some (.slice (some ⟨gT, 0, none⟩) nT0 nT0) := by simp [go_sem]
        have bq1 : (w5.alloc (.cells #[.slice (some ⟨gT, 0, none⟩) nT0 nT0, .slice (some ⟨gL, 0, none⟩) nL0 nL0] 35)).cell? ⟨w5.heap.size, 1, none⟩ = some (.slice (some ⟨gL, 0, none⟩) nL0 nL0) := by simp [go_sem]
        have byn : w5.heap.size < (w5.alloc (.cells #[.slice (some ⟨gT, 0, none⟩) nT0 nT0, .slice (some ⟨gL, 0, none⟩) nL0 nL0] 35)).heap.size := by simp
        obtain ⟨wy, hwy⟩ : ∃ x, x = (w5.alloc (.cells #[.slice (some ⟨gT, 0, none⟩) nT0 nT0, .slice (some ⟨gL, 0, none⟩) nL0 nL0] 35)) := ⟨_, rfl⟩
        rw [← hwy] at e5y bq0 bq1 byn ⊢
        obtain ⟨by5, hby⟩ : ∃ g, g = w5.heap.size := ⟨_, rfl⟩
        rw [← hby] at bq0 bq1 byn ⊢
        have HBY := hid (fun (W : World) (hW : Ext wy W) => show W.cell? ⟨by5, 0, none⟩ = some (.slice (some ⟨gT, 0, none⟩) nT0 nT0) ∧ W.cell? ⟨by5, 1, none⟩ = some (.slice (some ⟨gL, 0, none⟩) nL0 nL0) from ⟨by rw [(Ext.cells hW).1 _ _ byn]; exact bq0, by rw [(Ext.cells hW).1 _ _ byn]; exact bq1⟩)
        have HBYE := hid hby
        clear hwy hby bq0 bq1
        obtain ⟨bya, byb⟩ := HBY.out wy (Ext.refl _)
        obtain ⟨bxa, bxb⟩ := HBX.out wy (by repeat (first | exact Ext.refl _ | assumption | refine Ext.alloc ?_ _ | refine Ext.drew ?_ | refine Ext.drewN ?_ _ | refine Ext.setCell ?_ (by first | exact Nat.le_refl _ | (simp; done) | (dsimp only; omega) | (simp only [World.size_alloc, World.size_setCell]; omega)) _ | refine Ext.trans ?_ (by assumption)))
        clear bxa5 bxb5
        go_wp2_with (fail)
        refine (toFogS_any _ n1 z1 _ (r1.ext (by repeat (first | exact Ext.refl _ | assumption | refine Ext.alloc ?_ _ | refine Ext.drew ?_ | refine Ext.drewN ?_ _ | refine Ext.setCell ?_ (by first | exact Nat.le_refl _ | (simp; done) | (dsimp only; omega) | (simp only [World.size_alloc, World.size_setCell]; omega)) _ | refine Ext.trans ?_ (by assumption)))) hm1).mono ?_
        rintro e w6 ⟨g6, rfl, hr6, hb6⟩
        obtain ⟨bxa6, bxb6⟩ := HBX.out w6 (by repeat (first | exact Ext.refl _ | assumption | refine Ext.alloc ?_ _ | refine Ext.drew ?_ | refine Ext.drewN ?_ _ | refine Ext.setCell ?_ (by first | exact Nat.le_refl _ | (simp; done) | (dsimp only; omega) | (simp only [World.size_alloc, World.size_setCell]; omega)) _ | refine Ext.trans ?_ (by assumption)))
        obtain ⟨bya6, byb6⟩ := HBY.out w6 (by repeat (first | exact Ext.refl _ | assumption | refine Ext.alloc ?_ _ | refine Ext.drew ?_ | refine Ext.drewN ?_ _ | refine Ext.setCell ?_ (by first | exact Nat.le_refl _ | (simp; done) | (dsimp only; omega) | (simp only [World.size_alloc, World.size_setCell]; omega)) _ | refine Ext.trans ?_ (by assumption)))
        clear bxa bxb bya byb
        go_wp2_with (fail)
        refine (toHeldJobS_any _ n3 z3 _ (r3.ext (by repeat (first | exact Ext.refl _ | assumption | refine Ext.alloc ?_ _ | refine Ext.drew ?_ | refine Ext.drewN ?_ _ | refine Ext.setCell ?_ (by first | exact Nat.le_refl _ | (simp; done) | (dsimp only; omega) | (simp only [World.size_alloc, World.size_setCell]; omega)) _ | refine Ext.trans ?_ (by assumption)))) hm3).mono ?_
        rintro e w7 ⟨g7, rfl, hr7, hb7⟩
        obtain ⟨bxa7, bxb7⟩ := HBX.out w7 (by repeat (first | exact Ext.refl _ | assumption | refine Ext.alloc ?_ _ | refine Ext.drew ?_ | refine Ext.drewN ?_ _ | refine Ext.setCell ?_ (by first | exact Nat.le_refl _ | (simp; done) | (dsimp only; omega) | (simp only [World.size_alloc, World.size_setCell]; omega)) _ | refine Ext.trans ?_ (by assumption)))
        obtain ⟨bya7, byb7⟩ := HBY.out w7 (by repeat (first | exact Ext.refl _ | assumption | refine Ext.alloc ?_ _ | refine Ext.drew ?_ | refine Ext.drewN ?_ _ | refine Ext.setCell ?_ (by first | exact Nat.le_refl _ | (simp; done) | (dsimp only; omega) | (simp only [World.size_alloc, World.size_setCell]; omega)) _ | refine Ext.trans ?_ (by assumption)))
        clear bxa6 bxb6 bya6 byb6
        go_wp2_with (fail)
        refine (iWaitingSum_any _ nT0 zT0 nL0 zL0 _ n1 z1 a2 _ n3 z3 _ ((OwnNet.ext hr5 (by repeat (first | exact Ext.refl _ | assumption | refine Ext.alloc ?_ _ | refine Ext.drew ?_ | refine Ext.drewN ?_ _ | refine Ext.setCell ?_ (by first | exact Nat.le_refl _ | (simp; done) | (dsimp only; omega) | (simp only [World.size_alloc, World.size_setCell]; omega)) _ | refine Ext.trans ?_ (by assumption)))).net (by unfold maxLen; omega) (by unfold maxLen; omega) HWT0.out HWL0.out) (row_ints (row_ext hr6 (by repeat (first | exact Ext.refl _ | assumption | refine Ext.alloc ?_ _ | refine Ext.drew ?_ | refine Ext.drewN ?_ _ | refine Ext.setCell ?_ (by first | exact Nat.le_refl _ | (simp; done) | (dsimp only; omega) | (simp only [World.size_alloc, World.size_setCell]; omega)) _ | refine Ext.trans ?_ (by assumption)))) (by unfold maxLen; omega) HW1.out) (row_ints (row_ext hr7 (by repeat (first | exact Ext.refl _ | assumption | refine Ext.alloc ?_ _ | refine Ext.drew ?_ | refine Ext.drewN ?_ _ | refine Ext.setCell ?_ (by first | exact Nat.le_refl _ | (simp; done) | (dsimp only; omega) | (simp only [World.size_alloc, World.size_setCell]; omega)) _ | refine Ext.trans ?_ (by assumption)))) (by unfold maxLen; omega) HW3.out)).mono ?_
        rintro e w8 ⟨rfl, hb8⟩
        obtain ⟨bxa8, bxb8⟩ := HBX.out w8 (by repeat (first | exact Ext.refl _ | assumption | refine Ext.alloc ?_ _ | refine Ext.drew ?_ | refine Ext.drewN ?_ _ | refine Ext.setCell ?_ (by first | exact Nat.le_refl _ | (simp; done) | (dsimp only; omega) | (simp only [World.size_alloc, World.size_setCell]; omega)) _ | refine Ext.trans ?_ (by assumption)))
        obtain ⟨bya8, byb8⟩ := HBY.out w8 (by repeat (first | exact Ext.refl _ | assumption | refine Ext.alloc ?_ _ | refine Ext.drew ?_ | refine Ext.drewN ?_ _ | refine Ext.setCell ?_ (by first | exact Nat.le_refl _ | (simp; done) | (dsimp only; omega) | (simp only [World.size_alloc, World.size_setCell]; omega)) _ | refine Ext.trans ?_ (by assumption)))
        clear bxa7 bxb7 bya7 byb7
        go_wp2_with (fail)
        have SK0 := And.intro (HBX.out w8.drew (by repeat (first | exact Ext.refl _ | assumption | refine Ext.alloc ?_ _ | refine Ext.drew ?_ | refine Ext.drewN ?_ _ | refine Ext.setCell ?_ (by first | exact Nat.le_refl _ | (simp; done) | (dsimp only; omega) | (simp only [World.size_alloc, World.size_setCell]; omega)) _ | refine Ext.trans ?_ (by assumption)))) (HBY.out w8.drew (by repeat (first | exact Ext.refl _ | assumption | refine Ext.alloc ?_ _ | refine Ext.drew ?_ | refine Ext.drewN ?_ _ | refine Ext.setCell ?_ (by first | exact Nat.le_refl _ | (simp; done) | (dsimp only; omega) | (simp only [World.size_alloc, World.size_setCell]; omega)) _ | refine Ext.trans ?_ (by assumption))))
        refine wp_region_noPanic ?_
        refine wp_region_held_drew (S := (fun W => (W.cell? ⟨bg, 0, none⟩ = some vT0 ∧ W.cell? ⟨bg, 1, none⟩ = some vL0) ∧ (W.cell? ⟨by5, 0, none⟩ = some (.slice (some ⟨gT, 0, none⟩) nT0 nT0) ∧ W.cell? ⟨by5, 1, none⟩ = some (.slice (some ⟨gL, 0, none⟩) nL0 nL0)))) (by kernel_rfl) ?_ (fun hHeld => ?_)
        · first | exact SK0 | (dsimp only; exact SK0)
        refine wpAnyH_take (i := 0) (oi := { dst := some 65, op := _, type := _, pos := _, after := _, guard := _ }) (v := ?_) rfl (by kernel_rfl) (by kernel_rfl) (by kernel_rfl) (fun _ _ _ h => h) (Or.inl ⟨by rfl, ?_⟩) (by assumption) ?_
        rotate_left
        · (intro w hSw; (try dsimp only at hSw); go_simp) <;> (first | done | with_reducible rfl | rfl)
        try simp only [Act.put, List.setIfInBounds_toArray, List.set_cons_zero, List.set_cons_succ]
        refine wpAnyH_take (i := 1) (oi := { dst := some 66, op := _, type := _, pos := _, after := _, guard := _ }) (v := ?_) rfl (by kernel_rfl) (by kernel_rfl) (by kernel_rfl) (fun _ _ _ h => h) (Or.inl ⟨by rfl, ?_⟩) (by assumption) ?_
        rotate_left
        · (intro w hSw; (try dsimp only at hSw); go_simp) <;> (first | done | with_reducible rfl | rfl)
        try simp only [Act.put, List.setIfInBounds_toArray, List.set_cons_zero, List.set_cons_succ]
        refine wpAnyH_ready (rs := [2]) (by kernel_rfl) (by simp) ?_
        refine AllReadyH.cons (o := { dst := some 67, op := _, type := _, pos := _, after := _, guard := _ }) rfl (fun K hK => ?_) AllReadyH.nil
        go_simp
        go_at_call 17
        refine (toNet_any _ nT0 nL0 zT0 zL0 _ (r0.ext (by repeat (first | exact Ext.refl _ | assumption | refine Ext.alloc ?_ _ | refine Ext.drew ?_ | refine Ext.drewN ?_ _ | refine Ext.setCell ?_ (by first | exact Nat.le_refl _ | (simp; done) | (dsimp only; omega) | (simp only [World.size_alloc, World.size_setCell]; omega)) _ | refine Ext.trans ?_ (by assumption)))) hnT0 hnL0).mono ?_
        rintro e w9 ⟨x9, rfl, hr9, hb9⟩
        have SK := And.intro (HBX.out w9 (by repeat (first | exact Ext.refl _ | assumption | refine Ext.alloc ?_ _ | refine Ext.drew ?_ | refine Ext.drewN ?_ _ | refine Ext.setCell ?_ (by first | exact Nat.le_refl _ | (simp; done) | (dsimp only; omega) | (simp only [World.size_alloc, World.size_setCell]; omega)) _ | refine Ext.trans ?_ (by assumption)))) (HBY.out w9 (by repeat (first | exact Ext.refl _ | assumption | refine Ext.alloc ?_ _ | refine Ext.drew ?_ | refine Ext.drewN ?_ _ | refine Ext.setCell ?_ (by first | exact Nat.le_refl _ | (simp; done) | (dsimp only; omega) | (simp only [World.size_alloc, World.size_setCell]; omega)) _ | refine Ext.trans ?_ (by assumption))))
        refine hK.out _ _ ?_ (fun hHeld => ?_)
        · first | exact SK | (dsimp only; exact SK)
        clear hK K
        try simp only [Act.put, List.setIfInBounds_toArray, List.set_cons_zero, List.set_cons_succ]
        refine wpAnyH_ready (rs := [3]) (by kernel_rfl) (by simp) ?_
        refine AllReadyH.cons (o := { dst := some 68, op := _, type := _, pos := _, after := _, guard := _ }) rfl (fun K hK => ?_) AllReadyH.nil
        go_simp
        go_at_call 21
        refine (eqNet_same _ _ nT0 zT0 nL0 zL0 _ ((OwnNet.ext hr5 (by repeat (first | exact Ext.refl _ | assumption | refine Ext.alloc ?_ _ | refine Ext.drew ?_ | refine Ext.drewN ?_ _ | refine Ext.setCell ?_ (by first | exact Nat.le_refl _ | (simp; done) | (dsimp only; omega) | (simp only [World.size_alloc, World.size_setCell]; omega)) _ | refine Ext.trans ?_ (by assumption)))).net (by unfold maxLen; omega) (by unfold maxLen; omega) HWT0.out HWL0.out) ((OwnNet.ext hr9 (by repeat (first | exact Ext.refl _ | assumption | refine Ext.alloc ?_ _ | refine Ext.drew ?_ | refine Ext.drewN ?_ _ | refine Ext.setCell ?_ (by first | exact Nat.le_refl _ | (simp; done) | (dsimp only; omega) | (simp only [World.size_alloc, World.size_setCell]; omega)) _ | refine Ext.trans ?_ (by assumption)))).net (by unfold maxLen; omega) (by unfold maxLen; omega) HWT0.out HWL0.out)).mono ?_
        rintro e w10 ⟨rfl, hb10⟩
        have SK2 := And.intro (HBX.out w10 (by repeat (first | exact Ext.refl _ | assumption | refine Ext.alloc ?_ _ | refine Ext.drew ?_ | refine Ext.drewN ?_ _ | refine Ext.setCell ?_ (by first | exact Nat.le_refl _ | (simp; done) | (dsimp only; omega) | (simp only [World.size_alloc, World.size_setCell]; omega)) _ | refine Ext.trans ?_ (by assumption)))) (HBY.out w10 (by repeat (first | exact Ext.refl _ | assumption | refine Ext.alloc ?_ _ | refine Ext.drew ?_ | refine Ext.drewN ?_ _ | refine Ext.setCell ?_ (by first | exact Nat.le_refl _ | (simp; done) | (dsimp only; omega) | (simp only [World.size_alloc, World.size_setCell]; omega)) _ | refine Ext.trans ?_ (by assumption))))
        refine hK.out _ _ ?_ (fun hHeld => ?_)
        · first | exact SK2 | (dsimp only; exact SK2)
        clear hK K
        try simp only [Act.put, List.setIfInBounds_toArray, List.set_cons_zero, List.set_cons_succ]
        refine wpAnyH_take (i := 4) (oi := { dst := some 69, op := _, type := _, pos := _, after := _, guard := _ }) (v := ?_) rfl (by kernel_rfl) (by kernel_rfl) (by kernel_rfl) (fun _ _ _ h => h) (Or.inl ⟨by rfl, ?_⟩) (by assumption) ?_
        rotate_left
        · (intro w hSw; (try dsimp only at hSw); go_simp) <;> (first | done | with_reducible rfl | rfl)
        try simp only [Act.put, List.setIfInBounds_toArray, List.set_cons_zero, List.set_cons_succ]
        refine wpAnyH_done (by kernel_rfl) ?_ _
        refine NoPanic.normal ?_
        clear SK0 SK SK2
        obtain ⟨bxa10, bxb10⟩ := HBX.out w10 (by repeat (first | exact Ext.refl _ | assumption | refine Ext.alloc ?_ _ | refine Ext.drew ?_ | refine Ext.drewN ?_ _ | refine Ext.setCell ?_ (by first | exact Nat.le_refl _ | (simp; done) | (dsimp only; omega) | (simp only [World.size_alloc, World.size_setCell]; omega)) _ | refine Ext.trans ?_ (by assumption)))
        obtain ⟨bya10, byb10⟩ := HBY.out w10 (by repeat (first | exact Ext.refl _ | assumption | refine Ext.alloc ?_ _ | refine Ext.drew ?_ | refine Ext.drewN ?_ _ | refine Ext.setCell ?_ (by first | exact Nat.le_refl _ | (simp; done) | (dsimp only; omega) | (simp only [World.size_alloc, World.size_setCell]; omega)) _ | refine Ext.trans ?_ (by assumption)))
        clear bxa8 bxb8 bya8 byb8
        go_wp2_with (fail)
        refine (toFogS_any _ n1 z1 _ (r1.ext (by repeat (first | exact Ext.refl _ | assumption | refine Ext.alloc ?_ _ | refine Ext.drew ?_ | refine Ext.drewN ?_ _ | refine Ext.setCell ?_ (by first | exact Nat.le_refl _ | (simp; done) | (dsimp only; omega) | (simp only [World.size_alloc, World.size_setCell]; omega)) _ | refine Ext.trans ?_ (by assumption)))) hm1).mono ?_
        rintro e w11 ⟨g11, rfl, hr11, hb11⟩
        obtain ⟨bxa11, bxb11⟩ := HBX.out w11 (by repeat (first | exact Ext.refl _ | assumption | refine Ext.alloc ?_ _ | refine Ext.drew ?_ | refine Ext.drewN ?_ _ | refine Ext.setCell ?_ (by first | exact Nat.le_refl _ | (simp; done) | (dsimp only; omega) | (simp only [World.size_alloc, World.size_setCell]; omega)) _ | refine Ext.trans ?_ (by assumption)))
        obtain ⟨bya11, byb11⟩ := HBY.out w11 (by repeat (first | exact Ext.refl _ | assumption | refine Ext.alloc ?_ _ | refine Ext.drew ?_ | refine Ext.drewN ?_ _ | refine Ext.setCell ?_ (by first | exact Nat.le_refl _ | (simp; done) | (dsimp only; omega) | (simp only [World.size_alloc, World.size_setCell]; omega)) _ | refine Ext.trans ?_ (by assumption)))
        clear bxa10 bxb10 bya10 byb10
        go_wp2_with (fail)
        refine (eqFogS_same _ _ n1 z1 _ (row_ints (row_ext hr6 (by repeat (first | exact Ext.refl _ | assumption | refine Ext.alloc ?_ _ | refine Ext.drew ?_ | refine Ext.drewN ?_ _ | refine Ext.setCell ?_ (by first | exact Nat.le_refl _ | (simp; done) | (dsimp only; omega) | (simp only [World.size_alloc, World.size_setCell]; omega)) _ | refine Ext.trans ?_ (by assumption)))) (by unfold maxLen; omega) HW1.out) (row_ints (row_ext hr11 (by repeat (first | exact Ext.refl _ | assumption | refine Ext.alloc ?_ _ | refine Ext.drew ?_ | refine Ext.drewN ?_ _ | refine Ext.setCell ?_ (by first | exact Nat.le_refl _ | (simp; done) | (dsimp only; omega) | (simp only [World.size_alloc, World.size_setCell]; omega)) _ | refine Ext.trans ?_ (by assumption)))) (by unfold maxLen; omega) HW1.out)).mono ?_
        rintro e w12 ⟨rfl, hb12⟩
        obtain ⟨bxa12, bxb12⟩ := HBX.out w12 (by repeat (first | exact Ext.refl _ | assumption | refine Ext.alloc ?_ _ | refine Ext.drew ?_ | refine Ext.drewN ?_ _ | refine Ext.setCell ?_ (by first | exact Nat.le_refl _ | (simp; done) | (dsimp only; omega) | (simp only [World.size_alloc, World.size_setCell]; omega)) _ | refine Ext.trans ?_ (by assumption)))
        obtain ⟨bya12, byb12⟩ := HBY.out w12 (by repeat (first | exact Ext.refl _ | assumption | refine Ext.alloc ?_ _ | refine Ext.drew ?_ | refine Ext.drewN ?_ _ | refine Ext.setCell ?_ (by first | exact Nat.le_refl _ | (simp; done) | (dsimp only; omega) | (simp only [World.size_alloc, World.size_setCell]; omega)) _ | refine Ext.trans ?_ (by assumption)))
        clear bxa11 bxb11 bya11 byb11
        go_wp2_with (fail)
        refine (toHeldJobS_any _ n3 z3 _ (r3.ext (by repeat (first | exact Ext.refl _ | assumption | refine Ext.alloc ?_ _ | refine Ext.drew ?_ | refine Ext.drewN ?_ _ | refine Ext.setCell ?_ (by first | exact Nat.le_refl _ | (simp; done) | (dsimp only; omega) | (simp only [World.size_alloc, World.size_setCell]; omega)) _ | refine Ext.trans ?_ (by assumption)))) hm3).mono ?_
        rintro e w13 ⟨g13, rfl, hr13, hb13⟩
        obtain ⟨bxa13, bxb13⟩ := HBX.out w13 (by repeat (first | exact Ext.refl _ | assumption | refine Ext.alloc ?_ _ | refine Ext.drew ?_ | refine Ext.drewN ?_ _ | refine Ext.setCell ?_ (by first | exact Nat.le_refl _ | (simp; done) | (dsimp only; omega) | (simp only [World.size_alloc, World.size_setCell]; omega)) _ | refine Ext.trans ?_ (by assumption)))
        obtain ⟨bya13, byb13⟩ := HBY.out w13 (by repeat (first | exact Ext.refl _ | assumption | refine Ext.alloc ?_ _ | refine Ext.drew ?_ | refine Ext.drewN ?_ _ | refine Ext.setCell ?_ (by first | exact Nat.le_refl _ | (simp; done) | (dsimp only; omega) | (simp only [World.size_alloc, World.size_setCell]; omega)) _ | refine Ext.trans ?_ (by assumption)))
        clear bxa12 bxb12 bya12 byb12
        go_wp2_with (fail)
        refine (eqHeldJobS_same _ _ n3 z3 _ (row_ints (row_ext hr7 (by repeat (first | exact Ext.refl _ | assumption | refine Ext.alloc ?_ _ | refine Ext.drew ?_ | refine Ext.drewN ?_ _ | refine Ext.setCell ?_ (by first | exact Nat.le_refl _ | (simp; done) | (dsimp only; omega) | (simp only [World.size_alloc, World.size_setCell]; omega)) _ | refine Ext.trans ?_ (by assumption)))) (by unfold maxLen; omega) HW3.out) (row_ints (row_ext hr13 (by repeat (first | exact Ext.refl _ | assumption | refine Ext.alloc ?_ _ | refine Ext.drew ?_ | refine Ext.drewN ?_ _ | refine Ext.setCell ?_ (by first | exact Nat.le_refl _ | (simp; done) | (dsimp only; omega) | (simp only [World.size_alloc, World.size_setCell]; omega)) _ | refine Ext.trans ?_ (by assumption)))) (by unfold maxLen; omega) HW3.out)).mono ?_
        rintro e w14 ⟨rfl, hb14⟩
        obtain ⟨bxa14, bxb14⟩ := HBX.out w14 (by repeat (first | exact Ext.refl _ | assumption | refine Ext.alloc ?_ _ | refine Ext.drew ?_ | refine Ext.drewN ?_ _ | refine Ext.setCell ?_ (by first | exact Nat.le_refl _ | (simp; done) | (dsimp only; omega) | (simp only [World.size_alloc, World.size_setCell]; omega)) _ | refine Ext.trans ?_ (by assumption)))
        obtain ⟨bya14, byb14⟩ := HBY.out w14 (by repeat (first | exact Ext.refl _ | assumption | refine Ext.alloc ?_ _ | refine Ext.drew ?_ | refine Ext.drewN ?_ _ | refine Ext.setCell ?_ (by first | exact Nat.le_refl _ | (simp; done) | (dsimp only; omega) | (simp only [World.size_alloc, World.size_setCell]; omega)) _ | refine Ext.trans ?_ (by assumption)))
        clear bxa13 bxb13 bya13 byb13
        go_wp2_with (fail)
        go_ret
        exact ⟨rfl, (by repeat (first | exact Ext.refl _ | assumption | refine Ext.alloc ?_ _ | refine Ext.drew ?_ | refine Ext.drewN ?_ _ | refine Ext.setCell ?_ (by first | exact Nat.le_refl _ | (simp; done) | (dsimp only; omega) | (simp only [World.size_alloc, World.size_setCell]; omega)) _ | refine Ext.trans ?_ (by assumption)))⟩
      · rw [if_neg hn3] at hsz3
        have HQ0 := hid hq0
        clear hq0
        have HQ1 := hid hq1
        clear hq1
        go_enter Try.func7, Try.ntmps7
        go_wp2_with (fail)
        have e00 : Ext w (w.alloc (.cells #[vT0, vL0] 25)) := (Ext.refl w).alloc _
        have bp0 : (w.alloc (.cells #[vT0, vL0] 25)).cell? ⟨w.heap.size, 0, none⟩ = some vT0 := by simp [go_sem]
        have bp1 : (w.alloc (.cells #[vT0, vL0] 25)).cell? ⟨w.heap.size, 1, none⟩ = some vL0 := by simp [go_sem]
        have bgs : w.heap.size < (w.alloc (.cells #[vT0, vL0] 25)).heap.size := by simp
        generalize (w.alloc (.cells #[vT0, vL0] 25)) = w0 at *
        obtain ⟨bg, hbg⟩ : ∃ g, g = w.heap.size := ⟨_, rfl⟩
        rw [← hbg] at bp0 bp1 bgs ⊢
        have HBX := hid (fun (W : World) (hW : Ext w0 W) => show W.cell? ⟨bg, 0, none⟩ = some vT0 ∧ W.cell? ⟨bg, 1, none⟩ = some vL0 from ⟨by rw [(Ext.cells hW).1 _ _ bgs]; exact bp0, by rw [(Ext.cells hW).1 _ _ bgs]; exact bp1⟩)
        clear hbg
        go_wp2_with (fail)
        refine (hsz0 _ (by repeat (first | exact Ext.refl _ | assumption | refine Ext.alloc ?_ _ | refine Ext.drew ?_ | refine Ext.drewN ?_ _ | refine Ext.setCell ?_ (by first | exact Nat.le_refl _ | (simp; done) | (dsimp only; omega) | (simp only [World.size_alloc, World.size_setCell]; omega)) _ | refine Ext.trans ?_ (by assumption)))).mono ?_
        rintro e wz ⟨rfl, hbz⟩
        clear bp0 bp1
        obtain ⟨bxa, bxb⟩ := HBX.out wz (by repeat (first | exact Ext.refl _ | assumption | refine Ext.alloc ?_ _ | refine Ext.drew ?_ | refine Ext.drewN ?_ _ | refine Ext.setCell ?_ (by first | exact Nat.le_refl _ | (simp; done) | (dsimp only; omega) | (simp only [World.size_alloc, World.size_setCell]; omega)) _ | refine Ext.trans ?_ (by assumption)))
        clear hsz0
        go_wp2_with (fail)
        refine (hsz1 _ (by repeat (first | exact Ext.refl _ | assumption | refine Ext.alloc ?_ _ | refine Ext.drew ?_ | refine Ext.drewN ?_ _ | refine Ext.setCell ?_ (by first | exact Nat.le_refl _ | (simp; done) | (dsimp only; omega) | (simp only [World.size_alloc, World.size_setCell]; omega)) _ | refine Ext.trans ?_ (by assumption)))).mono ?_
        rintro e w' ⟨rfl, rfl⟩
        clear hsz1
        go_wp2_with (fail)
        refine (hsz3 _ (by repeat (first | exact Ext.refl _ | assumption | refine Ext.alloc ?_ _ | refine Ext.drew ?_ | refine Ext.drewN ?_ _ | refine Ext.setCell ?_ (by first | exact Nat.le_refl _ | (simp; done) | (dsimp only; omega) | (simp only [World.size_alloc, World.size_setCell]; omega)) _ | refine Ext.trans ?_ (by assumption)))).mono ?_
        rintro e w' ⟨rfl, rfl⟩
        clear hsz3
        go_wp2_with (fail)
        go_ret
        exact ⟨rfl, (by repeat (first | exact Ext.refl _ | assumption | refine Ext.alloc ?_ _ | refine Ext.drew ?_ | refine Ext.drewN ?_ _ | refine Ext.setCell ?_ (by first | exact Nat.le_refl _ | (simp; done) | (dsimp only; omega) | (simp only [World.size_alloc, World.size_setCell]; omega)) _ | refine Ext.trans ?_ (by assumption)))⟩
    · rw [if_neg hn1] at hsz1
      have HQ0 := hid hq0
      clear hq0
      go_enter Try.func7, Try.ntmps7
      go_wp2_with (fail)
      have e00 : Ext w (w.alloc (.cells #[vT0, vL0] 25)) := (Ext.refl w).alloc _
      have bp0 : (w.alloc (.cells #[vT0, vL0] 25)).cell? ⟨w.heap.size, 0, none⟩ = some vT0 := by simp [go_sem]
      have bp1 : (w.alloc (.cells #[vT0, vL0] 25)).cell? ⟨w.heap.size, 1, none⟩ = some vL0 := by simp [go_sem]
      have bgs : w.heap.size < (w.alloc (.cells #[vT0, vL0] 25)).heap.size := by simp
      generalize (w.alloc (.cells #[vT0, vL0] 25)) = w0 at *
      obtain ⟨bg, hbg⟩ : ∃ g, g = w.heap.size := ⟨_, rfl⟩
      rw [← hbg] at bp0 bp1 bgs ⊢
      have HBX := hid (fun (W : World) (hW : Ext w0 W) => show W.cell? ⟨bg, 0, none⟩ = some vT0 ∧ W.cell? ⟨bg, 1, none⟩ = some vL0 from ⟨by rw [(Ext.cells hW).1 _ _ bgs]; exact bp0, by rw [(Ext.cells hW).1 _ _ bgs]; exact bp1⟩)
      clear hbg
      go_wp2_with (fail)
      refine (hsz0 _ (by repeat (first | exact Ext.refl _ | assumption | refine Ext.alloc ?_ _ | refine Ext.drew ?_ | refine Ext.drewN ?_ _ | refine Ext.setCell ?_ (by first | exact Nat.le_refl _ | (simp; done) | (dsimp only; omega) | (simp only [World.size_alloc, World.size_setCell]; omega)) _ | refine Ext.trans ?_ (by assumption)))).mono ?_
      rintro e wz ⟨rfl, hbz⟩
      clear bp0 bp1
      obtain ⟨bxa, bxb⟩ := HBX.out wz (by repeat (first | exact Ext.refl _ | assumption | refine Ext.alloc ?_ _ | refine Ext.drew ?_ | refine Ext.drewN ?_ _ | refine Ext.setCell ?_ (by first | exact Nat.le_refl _ | (simp; done) | (dsimp only; omega) | (simp only [World.size_alloc, World.size_setCell]; omega)) _ | refine Ext.trans ?_ (by assumption)))
      clear hsz0
      go_wp2_with (fail)
      refine (hsz1 _ (by repeat (first | exact Ext.refl _ | assumption | refine Ext.alloc ?_ _ | refine Ext.drew ?_ | refine Ext.drewN ?_ _ | refine Ext.setCell ?_ (by first | exact Nat.le_refl _ | (simp; done) | (dsimp only; omega) | (simp only [World.size_alloc, World.size_setCell]; omega)) _ | refine Ext.trans ?_ (by assumption)))).mono ?_
      rintro e w' ⟨rfl, rfl⟩
      clear hsz1
      go_wp2_with (fail)
      go_ret
      exact ⟨rfl, (by repeat (first | exact Ext.refl _ | assumption | refine Ext.alloc ?_ _ | refine Ext.drew ?_ | refine Ext.drewN ?_ _ | refine Ext.setCell ?_ (by first | exact Nat.le_refl _ | (simp; done) | (dsimp only; omega) | (simp only [World.size_alloc, World.size_setCell]; omega)) _ | refine Ext.trans ?_ (by assumption)))⟩
  · rw [if_neg hn0] at hsz0
    go_enter Try.func7, Try.ntmps7
    go_wp2_with (fail)
    have e00 : Ext w (w.alloc (.cells #[vT0, vL0] 25)) := (Ext.refl w).alloc _
    have bp0 : (w.alloc (.cells #[vT0, vL0] 25)).cell? ⟨w.heap.size, 0, none⟩ = some vT0 := by simp [go_sem]
    have bp1 : (w.alloc (.cells #[vT0, vL0] 25)).cell? ⟨w.heap.size, 1, none⟩ = some vL0 := by simp [go_sem]
    have bgs : w.heap.size < (w.alloc (.cells #[vT0, vL0] 25)).heap.size := by simp
    generalize (w.alloc (.cells #[vT0, vL0] 25)) = w0 at *
    obtain ⟨bg, hbg⟩ : ∃ g, g = w.heap.size := ⟨_, rfl⟩
    rw [← hbg] at bp0 bp1 bgs ⊢
    have HBX := hid (fun (W : World) (hW : Ext w0 W) => show W.cell? ⟨bg, 0, none⟩ = some vT0 ∧ W.cell? ⟨bg, 1, none⟩ = some vL0 from ⟨by rw [(Ext.cells hW).1 _ _ bgs]; exact bp0, by rw [(Ext.cells hW).1 _ _ bgs]; exact bp1⟩)
    clear hbg
    go_wp2_with (fail)
    refine (hsz0 _ (by repeat (first | exact Ext.refl _ | assumption | refine Ext.alloc ?_ _ | refine Ext.drew ?_ | refine Ext.drewN ?_ _ | refine Ext.setCell ?_ (by first | exact Nat.le_refl _ | (simp; done) | (dsimp only; omega) | (simp only [World.size_alloc, World.size_setCell]; omega)) _ | refine Ext.trans ?_ (by assumption)))).mono ?_
    rintro e wz ⟨rfl, hbz⟩
    clear bp0 bp1
    obtain ⟨bxa, bxb⟩ := HBX.out wz (by repeat (first | exact Ext.refl _ | assumption | refine Ext.alloc ?_ _ | refine Ext.drew ?_ | refine Ext.drewN ?_ _ | refine Ext.setCell ?_ (by first | exact Nat.le_refl _ | (simp; done) | (dsimp only; omega) | (simp only [World.size_alloc, World.size_setCell]; omega)) _ | refine Ext.trans ?_ (by assumption)))
    clear hsz0
    go_wp2_with (fail)
    go_ret
    exact ⟨rfl, (by repeat (first | exact Ext.refl _ | assumption | refine Ext.alloc ?_ _ | refine Ext.drew ?_ | refine Ext.drewN ?_ _ | refine Ext.setCell ?_ (by first | exact Nat.le_refl _ | (simp; done) | (dsimp only; omega) | (simp only [World.size_alloc, World.size_setCell]; omega)) _ | refine Ext.trans ?_ (by assumption)))⟩


set_option maxRecDepth 100000 in
set_option maxHeartbeats 4000000 in
theorem walkFnExactMostHeld (v0 : Value) (nT0 : Nat) (zT0 : List Int) (nL0 : Nat) (zL0 : List Int) (v1 : Value) (n1 : Nat) (z1 : List Int) (a2 : Int) (v3 : Value) (n3 : Nat) (z3 : List Int) (w : World) (r0 : NetRow w v0 nT0 zT0 nL0 zL0) (r1 : IntRow .i64 3 w v1 n1 z1) (_ : (Lit.int .i64 a2).wf = true) (r3 : IntRow .i64 2 w v3 n3 z3) :
    Calls Try.prog 9 #[v0, v1, .int .i64 a2, v3] w fun e w' => e = .returned (.bool true) ∧ Ext w w' := by
  have HWT0 := hid r0.wf.1
  have HWL0 := hid r0.wf.2
  obtain ⟨vT0, vL0, rfl, _, _⟩ := id r0
  have HW1 := hid r1.2.2.1
  have HW3 := hid r3.2.2.1
  have hsz0 := fun (W : World) (hW : Ext w W) => szNet_any _ nT0 zT0 nL0 zL0 W 1048576 (r0.ext hW) (by omega) (by omega)
  by_cases hn0 : nT0 + nL0 ≤ (1048576 : Int)
  · rw [if_pos hn0] at hsz0
    obtain ⟨q0, hq0⟩ : ∃ q : Int, q = 1048576 - nT0 - nL0 := ⟨_, rfl⟩
    rw [← hq0] at hsz0
    have hqa0 : 0 ≤ q0 := by omega
    have hqb0 : q0 ≤ 1048576 := by omega
    have hsz1 := fun (W : World) (hW : Ext w W) => szFogS_any v1 n1 z1 W q0 (r1.ext hW) (by omega) (by omega)
    by_cases hn1 : (n1 : Int) ≤ q0
    · rw [if_pos hn1] at hsz1
      obtain ⟨q1, hq1⟩ : ∃ q : Int, q = q0 - n1 := ⟨_, rfl⟩
      rw [← hq1] at hsz1
      have hqa1 : 0 ≤ q1 := by omega
      have hqb1 : q1 ≤ 1048576 := by omega
      have hsz3 := fun (W : World) (hW : Ext w W) => szHeldJobS_any v3 n3 z3 W q1 (r3.ext hW) (by omega) (by omega)
      by_cases hn3 : (n3 : Int) ≤ q1
      · rw [if_pos hn3] at hsz3
        obtain ⟨q3, hq3⟩ : ∃ q : Int, q = q1 - n3 := ⟨_, rfl⟩
        rw [← hq3] at hsz3
        have hqa3 : 0 ≤ q3 := by omega
        have hqb3 : q3 ≤ 1048576 := by omega
        have hnT0 : nT0 ≤ 1048576 := by omega
        have hnL0 : nL0 ≤ 1048576 := by omega
        have hm1 : n1 ≤ 1048576 := by omega
        have hm3 : n3 ≤ 1048576 := by omega
        have HQ0 := hid hq0
        clear hq0
        have HQ1 := hid hq1
        clear hq1
        have HQ3 := hid hq3
        clear hq3
        go_enter Try.func9, Try.ntmps9
        go_wp2_with (fail)
        have e00 : Ext w (w.alloc (.cells #[vT0, vL0] 25)) := (Ext.refl w).alloc _
        have bp0 : (w.alloc (.cells #[vT0, vL0] 25)).cell? ⟨w.heap.size, 0, none⟩ = some vT0 := by simp [go_sem]
        have bp1 : (w.alloc (.cells #[vT0, vL0] 25)).cell? ⟨w.heap.size, 1, none⟩ = some vL0 := by simp [go_sem]
        have bgs : w.heap.size < (w.alloc (.cells #[vT0, vL0] 25)).heap.size := by simp
        generalize (w.alloc (.cells #[vT0, vL0] 25)) = w0 at *
        obtain ⟨bg, hbg⟩ : ∃ g, g = w.heap.size := ⟨_, rfl⟩
        rw [← hbg] at bp0 bp1 bgs ⊢
        have HBX := hid (fun (W : World) (hW : Ext w0 W) => show W.cell? ⟨bg, 0, none⟩ = some vT0 ∧ W.cell? ⟨bg, 1, none⟩ = some vL0 from ⟨by rw [(Ext.cells hW).1 _ _ bgs]; exact bp0, by rw [(Ext.cells hW).1 _ _ bgs]; exact bp1⟩)
        clear hbg
        go_wp2_with (fail)
        refine (hsz0 _ (by repeat (first | exact Ext.refl _ | assumption | refine Ext.alloc ?_ _ | refine Ext.drew ?_ | refine Ext.drewN ?_ _ | refine Ext.setCell ?_ (by first | exact Nat.le_refl _ | (simp; done) | (dsimp only; omega) | (simp only [World.size_alloc, World.size_setCell]; omega)) _ | refine Ext.trans ?_ (by assumption)))).mono ?_
        rintro e wz ⟨rfl, hbz⟩
        clear bp0 bp1
        obtain ⟨bxa, bxb⟩ := HBX.out wz (by repeat (first | exact Ext.refl _ | assumption | refine Ext.alloc ?_ _ | refine Ext.drew ?_ | refine Ext.drewN ?_ _ | refine Ext.setCell ?_ (by first | exact Nat.le_refl _ | (simp; done) | (dsimp only; omega) | (simp only [World.size_alloc, World.size_setCell]; omega)) _ | refine Ext.trans ?_ (by assumption)))
        clear hsz0
        go_wp2_with (fail)
        refine (hsz1 _ (by repeat (first | exact Ext.refl _ | assumption | refine Ext.alloc ?_ _ | refine Ext.drew ?_ | refine Ext.drewN ?_ _ | refine Ext.setCell ?_ (by first | exact Nat.le_refl _ | (simp; done) | (dsimp only; omega) | (simp only [World.size_alloc, World.size_setCell]; omega)) _ | refine Ext.trans ?_ (by assumption)))).mono ?_
        rintro e w' ⟨rfl, rfl⟩
        clear hsz1
        go_wp2_with (fail)
        refine (hsz3 _ (by repeat (first | exact Ext.refl _ | assumption | refine Ext.alloc ?_ _ | refine Ext.drew ?_ | refine Ext.drewN ?_ _ | refine Ext.setCell ?_ (by first | exact Nat.le_refl _ | (simp; done) | (dsimp only; omega) | (simp only [World.size_alloc, World.size_setCell]; omega)) _ | refine Ext.trans ?_ (by assumption)))).mono ?_
        rintro e w' ⟨rfl, rfl⟩
        clear hsz3
        go_wp2_with (fail)
        refine (toNet_any _ nT0 nL0 zT0 zL0 _ (r0.ext (by repeat (first | exact Ext.refl _ | assumption | refine Ext.alloc ?_ _ | refine Ext.drew ?_ | refine Ext.drewN ?_ _ | refine Ext.setCell ?_ (by first | exact Nat.le_refl _ | (simp; done) | (dsimp only; omega) | (simp only [World.size_alloc, World.size_setCell]; omega)) _ | refine Ext.trans ?_ (by assumption)))) hnT0 hnL0).mono ?_
        rintro e w1 ⟨x1, rfl, hr1, hb1⟩
        obtain ⟨bxa1, bxb1⟩ := HBX.out w1 (by repeat (first | exact Ext.refl _ | assumption | refine Ext.alloc ?_ _ | refine Ext.drew ?_ | refine Ext.drewN ?_ _ | refine Ext.setCell ?_ (by first | exact Nat.le_refl _ | (simp; done) | (dsimp only; omega) | (simp only [World.size_alloc, World.size_setCell]; omega)) _ | refine Ext.trans ?_ (by assumption)))
        clear bxa bxb
        go_wp2_with (fail)
        refine (toFogS_any _ n1 z1 _ (r1.ext (by repeat (first | exact Ext.refl _ | assumption | refine Ext.alloc ?_ _ | refine Ext.drew ?_ | refine Ext.drewN ?_ _ | refine Ext.setCell ?_ (by first | exact Nat.le_refl _ | (simp; done) | (dsimp only; omega) | (simp only [World.size_alloc, World.size_setCell]; omega)) _ | refine Ext.trans ?_ (by assumption)))) hm1).mono ?_
        rintro e w2 ⟨g2, rfl, hr2, hb2⟩
        obtain ⟨bxa2, bxb2⟩ := HBX.out w2 (by repeat (first | exact Ext.refl _ | assumption | refine Ext.alloc ?_ _ | refine Ext.drew ?_ | refine Ext.drewN ?_ _ | refine Ext.setCell ?_ (by first | exact Nat.le_refl _ | (simp; done) | (dsimp only; omega) | (simp only [World.size_alloc, World.size_setCell]; omega)) _ | refine Ext.trans ?_ (by assumption)))
        clear bxa1 bxb1
        go_wp2_with (fail)
        refine (toHeldJobS_any _ n3 z3 _ (r3.ext (by repeat (first | exact Ext.refl _ | assumption | refine Ext.alloc ?_ _ | refine Ext.drew ?_ | refine Ext.drewN ?_ _ | refine Ext.setCell ?_ (by first | exact Nat.le_refl _ | (simp; done) | (dsimp only; omega) | (simp only [World.size_alloc, World.size_setCell]; omega)) _ | refine Ext.trans ?_ (by assumption)))) hm3).mono ?_
        rintro e w3 ⟨g3, rfl, hr3, hb3⟩
        obtain ⟨bxa3, bxb3⟩ := HBX.out w3 (by repeat (first | exact Ext.refl _ | assumption | refine Ext.alloc ?_ _ | refine Ext.drew ?_ | refine Ext.drewN ?_ _ | refine Ext.setCell ?_ (by first | exact Nat.le_refl _ | (simp; done) | (dsimp only; omega) | (simp only [World.size_alloc, World.size_setCell]; omega)) _ | refine Ext.trans ?_ (by assumption)))
        clear bxa2 bxb2
        go_wp2_with (fail)
        refine (sMostHeld_any _ nT0 zT0 nL0 zL0 _ n1 z1 a2 _ n3 z3 _ ((OwnNet.ext hr1 (by repeat (first | exact Ext.refl _ | assumption | refine Ext.alloc ?_ _ | refine Ext.drew ?_ | refine Ext.drewN ?_ _ | refine Ext.setCell ?_ (by first | exact Nat.le_refl _ | (simp; done) | (dsimp only; omega) | (simp only [World.size_alloc, World.size_setCell]; omega)) _ | refine Ext.trans ?_ (by assumption)))).net (by unfold maxLen; omega) (by unfold maxLen; omega) HWT0.out HWL0.out) (row_ints (row_ext hr2 (by repeat (first | exact Ext.refl _ | assumption | refine Ext.alloc ?_ _ | refine Ext.drew ?_ | refine Ext.drewN ?_ _ | refine Ext.setCell ?_ (by first | exact Nat.le_refl _ | (simp; done) | (dsimp only; omega) | (simp only [World.size_alloc, World.size_setCell]; omega)) _ | refine Ext.trans ?_ (by assumption)))) (by unfold maxLen; omega) HW1.out) (row_ints (row_ext hr3 (by repeat (first | exact Ext.refl _ | assumption | refine Ext.alloc ?_ _ | refine Ext.drew ?_ | refine Ext.drewN ?_ _ | refine Ext.setCell ?_ (by first | exact Nat.le_refl _ | (simp; done) | (dsimp only; omega) | (simp only [World.size_alloc, World.size_setCell]; omega)) _ | refine Ext.trans ?_ (by assumption)))) (by unfold maxLen; omega) HW3.out)).mono ?_
        rintro e w4 ⟨rfl, hb4⟩
        obtain ⟨bxa4, bxb4⟩ := HBX.out w4 (by repeat (first | exact Ext.refl _ | assumption | refine Ext.alloc ?_ _ | refine Ext.drew ?_ | refine Ext.drewN ?_ _ | refine Ext.setCell ?_ (by first | exact Nat.le_refl _ | (simp; done) | (dsimp only; omega) | (simp only [World.size_alloc, World.size_setCell]; omega)) _ | refine Ext.trans ?_ (by assumption)))
        clear bxa3 bxb3
        go_wp2_with (fail)
        refine (toNet_any _ nT0 nL0 zT0 zL0 _ (r0.ext (by repeat (first | exact Ext.refl _ | assumption | refine Ext.alloc ?_ _ | refine Ext.drew ?_ | refine Ext.drewN ?_ _ | refine Ext.setCell ?_ (by first | exact Nat.le_refl _ | (simp; done) | (dsimp only; omega) | (simp only [World.size_alloc, World.size_setCell]; omega)) _ | refine Ext.trans ?_ (by assumption)))) hnT0 hnL0).mono ?_
        rintro e w5 ⟨x5, rfl, hr5, hb5⟩
        obtain ⟨bxa5, bxb5⟩ := HBX.out w5 (by repeat (first | exact Ext.refl _ | assumption | refine Ext.alloc ?_ _ | refine Ext.drew ?_ | refine Ext.drewN ?_ _ | refine Ext.setCell ?_ (by first | exact Nat.le_refl _ | (simp; done) | (dsimp only; omega) | (simp only [World.size_alloc, World.size_setCell]; omega)) _ | refine Ext.trans ?_ (by assumption)))
        clear bxa4 bxb4
        obtain ⟨gT, gL, hxe, hglt, hgT, hgL⟩ := id hr5
        subst hxe
        go_wp2_with (fail)
        have e5y : Ext w5 (w5.alloc (.cells #[.slice (some ⟨gT, 0, none⟩) nT0 nT0, .slice (some ⟨gL, 0, none⟩) nL0 nL0] 35)) := (Ext.refl _).alloc _
        have bq0 : (w5.alloc (.cells #[.slice (some ⟨gT, 0, none⟩) nT0 nT0, .slice (some ⟨gL, 0, none⟩) nL0 nL0] 35)).cell? ⟨w5.heap.size, 0, none⟩ = some (.slice (some ⟨gT, 0, none⟩) nT0 nT0) := by simp [go_sem]
        have bq1 : (w5.alloc (.cells #[.slice (some ⟨gT, 0, none⟩) nT0 nT0, .slice (some ⟨gL, 0, none⟩) nL0 nL0] 35)).cell? ⟨w5.heap.size, 1, none⟩ = some (.slice (some ⟨gL, 0, none⟩) nL0 nL0) := by simp [go_sem]
        have byn : w5.heap.size < (w5.alloc (.cells #[.slice (some ⟨gT, 0, none⟩) nT0 nT0, .slice (some ⟨gL, 0, none⟩) nL0 nL0] 35)).heap.size := by simp
        obtain ⟨wy, hwy⟩ : ∃ x, x = (w5.alloc (.cells #[.slice (some ⟨gT, 0, none⟩) nT0 nT0, .slice (some ⟨gL, 0, none⟩) nL0 nL0] 35)) := ⟨_, rfl⟩
        rw [← hwy] at e5y bq0 bq1 byn ⊢
        obtain ⟨by5, hby⟩ : ∃ g, g = w5.heap.size := ⟨_, rfl⟩
        rw [← hby] at bq0 bq1 byn ⊢
        have HBY := hid (fun (W : World) (hW : Ext wy W) => show W.cell? ⟨by5, 0, none⟩ = some (.slice (some ⟨gT, 0, none⟩) nT0 nT0) ∧ W.cell? ⟨by5, 1, none⟩ = some (.slice (some ⟨gL, 0, none⟩) nL0 nL0) from ⟨by rw [(Ext.cells hW).1 _ _ byn]; exact bq0, by rw [(Ext.cells hW).1 _ _ byn]; exact bq1⟩)
        have HBYE := hid hby
        clear hwy hby bq0 bq1
        obtain ⟨bya, byb⟩ := HBY.out wy (Ext.refl _)
        obtain ⟨bxa, bxb⟩ := HBX.out wy (by repeat (first | exact Ext.refl _ | assumption | refine Ext.alloc ?_ _ | refine Ext.drew ?_ | refine Ext.drewN ?_ _ | refine Ext.setCell ?_ (by first | exact Nat.le_refl _ | (simp; done) | (dsimp only; omega) | (simp only [World.size_alloc, World.size_setCell]; omega)) _ | refine Ext.trans ?_ (by assumption)))
        clear bxa5 bxb5
        go_wp2_with (fail)
        refine (toFogS_any _ n1 z1 _ (r1.ext (by repeat (first | exact Ext.refl _ | assumption | refine Ext.alloc ?_ _ | refine Ext.drew ?_ | refine Ext.drewN ?_ _ | refine Ext.setCell ?_ (by first | exact Nat.le_refl _ | (simp; done) | (dsimp only; omega) | (simp only [World.size_alloc, World.size_setCell]; omega)) _ | refine Ext.trans ?_ (by assumption)))) hm1).mono ?_
        rintro e w6 ⟨g6, rfl, hr6, hb6⟩
        obtain ⟨bxa6, bxb6⟩ := HBX.out w6 (by repeat (first | exact Ext.refl _ | assumption | refine Ext.alloc ?_ _ | refine Ext.drew ?_ | refine Ext.drewN ?_ _ | refine Ext.setCell ?_ (by first | exact Nat.le_refl _ | (simp; done) | (dsimp only; omega) | (simp only [World.size_alloc, World.size_setCell]; omega)) _ | refine Ext.trans ?_ (by assumption)))
        obtain ⟨bya6, byb6⟩ := HBY.out w6 (by repeat (first | exact Ext.refl _ | assumption | refine Ext.alloc ?_ _ | refine Ext.drew ?_ | refine Ext.drewN ?_ _ | refine Ext.setCell ?_ (by first | exact Nat.le_refl _ | (simp; done) | (dsimp only; omega) | (simp only [World.size_alloc, World.size_setCell]; omega)) _ | refine Ext.trans ?_ (by assumption)))
        clear bxa bxb bya byb
        go_wp2_with (fail)
        refine (toHeldJobS_any _ n3 z3 _ (r3.ext (by repeat (first | exact Ext.refl _ | assumption | refine Ext.alloc ?_ _ | refine Ext.drew ?_ | refine Ext.drewN ?_ _ | refine Ext.setCell ?_ (by first | exact Nat.le_refl _ | (simp; done) | (dsimp only; omega) | (simp only [World.size_alloc, World.size_setCell]; omega)) _ | refine Ext.trans ?_ (by assumption)))) hm3).mono ?_
        rintro e w7 ⟨g7, rfl, hr7, hb7⟩
        obtain ⟨bxa7, bxb7⟩ := HBX.out w7 (by repeat (first | exact Ext.refl _ | assumption | refine Ext.alloc ?_ _ | refine Ext.drew ?_ | refine Ext.drewN ?_ _ | refine Ext.setCell ?_ (by first | exact Nat.le_refl _ | (simp; done) | (dsimp only; omega) | (simp only [World.size_alloc, World.size_setCell]; omega)) _ | refine Ext.trans ?_ (by assumption)))
        obtain ⟨bya7, byb7⟩ := HBY.out w7 (by repeat (first | exact Ext.refl _ | assumption | refine Ext.alloc ?_ _ | refine Ext.drew ?_ | refine Ext.drewN ?_ _ | refine Ext.setCell ?_ (by first | exact Nat.le_refl _ | (simp; done) | (dsimp only; omega) | (simp only [World.size_alloc, World.size_setCell]; omega)) _ | refine Ext.trans ?_ (by assumption)))
        clear bxa6 bxb6 bya6 byb6
        go_wp2_with (fail)
        refine (iMostHeld_any _ nT0 zT0 nL0 zL0 _ n1 z1 a2 _ n3 z3 _ ((OwnNet.ext hr5 (by repeat (first | exact Ext.refl _ | assumption | refine Ext.alloc ?_ _ | refine Ext.drew ?_ | refine Ext.drewN ?_ _ | refine Ext.setCell ?_ (by first | exact Nat.le_refl _ | (simp; done) | (dsimp only; omega) | (simp only [World.size_alloc, World.size_setCell]; omega)) _ | refine Ext.trans ?_ (by assumption)))).net (by unfold maxLen; omega) (by unfold maxLen; omega) HWT0.out HWL0.out) (row_ints (row_ext hr6 (by repeat (first | exact Ext.refl _ | assumption | refine Ext.alloc ?_ _ | refine Ext.drew ?_ | refine Ext.drewN ?_ _ | refine Ext.setCell ?_ (by first | exact Nat.le_refl _ | (simp; done) | (dsimp only; omega) | (simp only [World.size_alloc, World.size_setCell]; omega)) _ | refine Ext.trans ?_ (by assumption)))) (by unfold maxLen; omega) HW1.out) (row_ints (row_ext hr7 (by repeat (first | exact Ext.refl _ | assumption | refine Ext.alloc ?_ _ | refine Ext.drew ?_ | refine Ext.drewN ?_ _ | refine Ext.setCell ?_ (by first | exact Nat.le_refl _ | (simp; done) | (dsimp only; omega) | (simp only [World.size_alloc, World.size_setCell]; omega)) _ | refine Ext.trans ?_ (by assumption)))) (by unfold maxLen; omega) HW3.out)).mono ?_
        rintro e w8 ⟨rfl, hb8⟩
        obtain ⟨bxa8, bxb8⟩ := HBX.out w8 (by repeat (first | exact Ext.refl _ | assumption | refine Ext.alloc ?_ _ | refine Ext.drew ?_ | refine Ext.drewN ?_ _ | refine Ext.setCell ?_ (by first | exact Nat.le_refl _ | (simp; done) | (dsimp only; omega) | (simp only [World.size_alloc, World.size_setCell]; omega)) _ | refine Ext.trans ?_ (by assumption)))
        obtain ⟨bya8, byb8⟩ := HBY.out w8 (by repeat (first | exact Ext.refl _ | assumption | refine Ext.alloc ?_ _ | refine Ext.drew ?_ | refine Ext.drewN ?_ _ | refine Ext.setCell ?_ (by first | exact Nat.le_refl _ | (simp; done) | (dsimp only; omega) | (simp only [World.size_alloc, World.size_setCell]; omega)) _ | refine Ext.trans ?_ (by assumption)))
        clear bxa7 bxb7 bya7 byb7
        go_wp2_with (fail)
        have SK0 := And.intro (HBX.out w8.drew (by repeat (first | exact Ext.refl _ | assumption | refine Ext.alloc ?_ _ | refine Ext.drew ?_ | refine Ext.drewN ?_ _ | refine Ext.setCell ?_ (by first | exact Nat.le_refl _ | (simp; done) | (dsimp only; omega) | (simp only [World.size_alloc, World.size_setCell]; omega)) _ | refine Ext.trans ?_ (by assumption)))) (HBY.out w8.drew (by repeat (first | exact Ext.refl _ | assumption | refine Ext.alloc ?_ _ | refine Ext.drew ?_ | refine Ext.drewN ?_ _ | refine Ext.setCell ?_ (by first | exact Nat.le_refl _ | (simp; done) | (dsimp only; omega) | (simp only [World.size_alloc, World.size_setCell]; omega)) _ | refine Ext.trans ?_ (by assumption))))
        refine wp_region_noPanic ?_
        refine wp_region_held_drew (S := (fun W => (W.cell? ⟨bg, 0, none⟩ = some vT0 ∧ W.cell? ⟨bg, 1, none⟩ = some vL0) ∧ (W.cell? ⟨by5, 0, none⟩ = some (.slice (some ⟨gT, 0, none⟩) nT0 nT0) ∧ W.cell? ⟨by5, 1, none⟩ = some (.slice (some ⟨gL, 0, none⟩) nL0 nL0)))) (by kernel_rfl) ?_ (fun hHeld => ?_)
        · first | exact SK0 | (dsimp only; exact SK0)
        refine wpAnyH_take (i := 0) (oi := { dst := some 74, op := _, type := _, pos := _, after := _, guard := _ }) (v := ?_) rfl (by kernel_rfl) (by kernel_rfl) (by kernel_rfl) (fun _ _ _ h => h) (Or.inl ⟨by rfl, ?_⟩) (by assumption) ?_
        rotate_left
        · (intro w hSw; (try dsimp only at hSw); go_simp) <;> (first | done | with_reducible rfl | rfl)
        try simp only [Act.put, List.setIfInBounds_toArray, List.set_cons_zero, List.set_cons_succ]
        refine wpAnyH_take (i := 1) (oi := { dst := some 75, op := _, type := _, pos := _, after := _, guard := _ }) (v := ?_) rfl (by kernel_rfl) (by kernel_rfl) (by kernel_rfl) (fun _ _ _ h => h) (Or.inl ⟨by rfl, ?_⟩) (by assumption) ?_
        rotate_left
        · (intro w hSw; (try dsimp only at hSw); go_simp) <;> (first | done | with_reducible rfl | rfl)
        try simp only [Act.put, List.setIfInBounds_toArray, List.set_cons_zero, List.set_cons_succ]
        refine wpAnyH_ready (rs := [2]) (by kernel_rfl) (by simp) ?_
        refine AllReadyH.cons (o := { dst := some 76, op := _, type := _, pos := _, after := _, guard := _ }) rfl (fun K hK => ?_) AllReadyH.nil
        go_simp
        go_at_call 17
        refine (toNet_any _ nT0 nL0 zT0 zL0 _ (r0.ext (by repeat (first | exact Ext.refl _ | assumption | refine Ext.alloc ?_ _ | refine Ext.drew ?_ | refine Ext.drewN ?_ _ | refine Ext.setCell ?_ (by first | exact Nat.le_refl _ | (simp; done) | (dsimp only; omega) | (simp only [World.size_alloc, World.size_setCell]; omega)) _ | refine Ext.trans ?_ (by assumption)))) hnT0 hnL0).mono ?_
        rintro e w9 ⟨x9, rfl, hr9, hb9⟩
        have SK := And.intro (HBX.out w9 (by repeat (first | exact Ext.refl _ | assumption | refine Ext.alloc ?_ _ | refine Ext.drew ?_ | refine Ext.drewN ?_ _ | refine Ext.setCell ?_ (by first | exact Nat.le_refl _ | (simp; done) | (dsimp only; omega) | (simp only [World.size_alloc, World.size_setCell]; omega)) _ | refine Ext.trans ?_ (by assumption)))) (HBY.out w9 (by repeat (first | exact Ext.refl _ | assumption | refine Ext.alloc ?_ _ | refine Ext.drew ?_ | refine Ext.drewN ?_ _ | refine Ext.setCell ?_ (by first | exact Nat.le_refl _ | (simp; done) | (dsimp only; omega) | (simp only [World.size_alloc, World.size_setCell]; omega)) _ | refine Ext.trans ?_ (by assumption))))
        refine hK.out _ _ ?_ (fun hHeld => ?_)
        · first | exact SK | (dsimp only; exact SK)
        clear hK K
        try simp only [Act.put, List.setIfInBounds_toArray, List.set_cons_zero, List.set_cons_succ]
        refine wpAnyH_ready (rs := [3]) (by kernel_rfl) (by simp) ?_
        refine AllReadyH.cons (o := { dst := some 77, op := _, type := _, pos := _, after := _, guard := _ }) rfl (fun K hK => ?_) AllReadyH.nil
        go_simp
        go_at_call 21
        refine (eqNet_same _ _ nT0 zT0 nL0 zL0 _ ((OwnNet.ext hr5 (by repeat (first | exact Ext.refl _ | assumption | refine Ext.alloc ?_ _ | refine Ext.drew ?_ | refine Ext.drewN ?_ _ | refine Ext.setCell ?_ (by first | exact Nat.le_refl _ | (simp; done) | (dsimp only; omega) | (simp only [World.size_alloc, World.size_setCell]; omega)) _ | refine Ext.trans ?_ (by assumption)))).net (by unfold maxLen; omega) (by unfold maxLen; omega) HWT0.out HWL0.out) ((OwnNet.ext hr9 (by repeat (first | exact Ext.refl _ | assumption | refine Ext.alloc ?_ _ | refine Ext.drew ?_ | refine Ext.drewN ?_ _ | refine Ext.setCell ?_ (by first | exact Nat.le_refl _ | (simp; done) | (dsimp only; omega) | (simp only [World.size_alloc, World.size_setCell]; omega)) _ | refine Ext.trans ?_ (by assumption)))).net (by unfold maxLen; omega) (by unfold maxLen; omega) HWT0.out HWL0.out)).mono ?_
        rintro e w10 ⟨rfl, hb10⟩
        have SK2 := And.intro (HBX.out w10 (by repeat (first | exact Ext.refl _ | assumption | refine Ext.alloc ?_ _ | refine Ext.drew ?_ | refine Ext.drewN ?_ _ | refine Ext.setCell ?_ (by first | exact Nat.le_refl _ | (simp; done) | (dsimp only; omega) | (simp only [World.size_alloc, World.size_setCell]; omega)) _ | refine Ext.trans ?_ (by assumption)))) (HBY.out w10 (by repeat (first | exact Ext.refl _ | assumption | refine Ext.alloc ?_ _ | refine Ext.drew ?_ | refine Ext.drewN ?_ _ | refine Ext.setCell ?_ (by first | exact Nat.le_refl _ | (simp; done) | (dsimp only; omega) | (simp only [World.size_alloc, World.size_setCell]; omega)) _ | refine Ext.trans ?_ (by assumption))))
        refine hK.out _ _ ?_ (fun hHeld => ?_)
        · first | exact SK2 | (dsimp only; exact SK2)
        clear hK K
        try simp only [Act.put, List.setIfInBounds_toArray, List.set_cons_zero, List.set_cons_succ]
        refine wpAnyH_take (i := 4) (oi := { dst := some 78, op := _, type := _, pos := _, after := _, guard := _ }) (v := ?_) rfl (by kernel_rfl) (by kernel_rfl) (by kernel_rfl) (fun _ _ _ h => h) (Or.inl ⟨by rfl, ?_⟩) (by assumption) ?_
        rotate_left
        · (intro w hSw; (try dsimp only at hSw); go_simp) <;> (first | done | with_reducible rfl | rfl)
        try simp only [Act.put, List.setIfInBounds_toArray, List.set_cons_zero, List.set_cons_succ]
        refine wpAnyH_done (by kernel_rfl) ?_ _
        refine NoPanic.normal ?_
        clear SK0 SK SK2
        obtain ⟨bxa10, bxb10⟩ := HBX.out w10 (by repeat (first | exact Ext.refl _ | assumption | refine Ext.alloc ?_ _ | refine Ext.drew ?_ | refine Ext.drewN ?_ _ | refine Ext.setCell ?_ (by first | exact Nat.le_refl _ | (simp; done) | (dsimp only; omega) | (simp only [World.size_alloc, World.size_setCell]; omega)) _ | refine Ext.trans ?_ (by assumption)))
        obtain ⟨bya10, byb10⟩ := HBY.out w10 (by repeat (first | exact Ext.refl _ | assumption | refine Ext.alloc ?_ _ | refine Ext.drew ?_ | refine Ext.drewN ?_ _ | refine Ext.setCell ?_ (by first | exact Nat.le_refl _ | (simp; done) | (dsimp only; omega) | (simp only [World.size_alloc, World.size_setCell]; omega)) _ | refine Ext.trans ?_ (by assumption)))
        clear bxa8 bxb8 bya8 byb8
        go_wp2_with (fail)
        refine (toFogS_any _ n1 z1 _ (r1.ext (by repeat (first | exact Ext.refl _ | assumption | refine Ext.alloc ?_ _ | refine Ext.drew ?_ | refine Ext.drewN ?_ _ | refine Ext.setCell ?_ (by first | exact Nat.le_refl _ | (simp; done) | (dsimp only; omega) | (simp only [World.size_alloc, World.size_setCell]; omega)) _ | refine Ext.trans ?_ (by assumption)))) hm1).mono ?_
        rintro e w11 ⟨g11, rfl, hr11, hb11⟩
        obtain ⟨bxa11, bxb11⟩ := HBX.out w11 (by repeat (first | exact Ext.refl _ | assumption | refine Ext.alloc ?_ _ | refine Ext.drew ?_ | refine Ext.drewN ?_ _ | refine Ext.setCell ?_ (by first | exact Nat.le_refl _ | (simp; done) | (dsimp only; omega) | (simp only [World.size_alloc, World.size_setCell]; omega)) _ | refine Ext.trans ?_ (by assumption)))
        obtain ⟨bya11, byb11⟩ := HBY.out w11 (by repeat (first | exact Ext.refl _ | assumption | refine Ext.alloc ?_ _ | refine Ext.drew ?_ | refine Ext.drewN ?_ _ | refine Ext.setCell ?_ (by first | exact Nat.le_refl _ | (simp; done) | (dsimp only; omega) | (simp only [World.size_alloc, World.size_setCell]; omega)) _ | refine Ext.trans ?_ (by assumption)))
        clear bxa10 bxb10 bya10 byb10
        go_wp2_with (fail)
        refine (eqFogS_same _ _ n1 z1 _ (row_ints (row_ext hr6 (by repeat (first | exact Ext.refl _ | assumption | refine Ext.alloc ?_ _ | refine Ext.drew ?_ | refine Ext.drewN ?_ _ | refine Ext.setCell ?_ (by first | exact Nat.le_refl _ | (simp; done) | (dsimp only; omega) | (simp only [World.size_alloc, World.size_setCell]; omega)) _ | refine Ext.trans ?_ (by assumption)))) (by unfold maxLen; omega) HW1.out) (row_ints (row_ext hr11 (by repeat (first | exact Ext.refl _ | assumption | refine Ext.alloc ?_ _ | refine Ext.drew ?_ | refine Ext.drewN ?_ _ | refine Ext.setCell ?_ (by first | exact Nat.le_refl _ | (simp; done) | (dsimp only; omega) | (simp only [World.size_alloc, World.size_setCell]; omega)) _ | refine Ext.trans ?_ (by assumption)))) (by unfold maxLen; omega) HW1.out)).mono ?_
        rintro e w12 ⟨rfl, hb12⟩
        obtain ⟨bxa12, bxb12⟩ := HBX.out w12 (by repeat (first | exact Ext.refl _ | assumption | refine Ext.alloc ?_ _ | refine Ext.drew ?_ | refine Ext.drewN ?_ _ | refine Ext.setCell ?_ (by first | exact Nat.le_refl _ | (simp; done) | (dsimp only; omega) | (simp only [World.size_alloc, World.size_setCell]; omega)) _ | refine Ext.trans ?_ (by assumption)))
        obtain ⟨bya12, byb12⟩ := HBY.out w12 (by repeat (first | exact Ext.refl _ | assumption | refine Ext.alloc ?_ _ | refine Ext.drew ?_ | refine Ext.drewN ?_ _ | refine Ext.setCell ?_ (by first | exact Nat.le_refl _ | (simp; done) | (dsimp only; omega) | (simp only [World.size_alloc, World.size_setCell]; omega)) _ | refine Ext.trans ?_ (by assumption)))
        clear bxa11 bxb11 bya11 byb11
        go_wp2_with (fail)
        refine (toHeldJobS_any _ n3 z3 _ (r3.ext (by repeat (first | exact Ext.refl _ | assumption | refine Ext.alloc ?_ _ | refine Ext.drew ?_ | refine Ext.drewN ?_ _ | refine Ext.setCell ?_ (by first | exact Nat.le_refl _ | (simp; done) | (dsimp only; omega) | (simp only [World.size_alloc, World.size_setCell]; omega)) _ | refine Ext.trans ?_ (by assumption)))) hm3).mono ?_
        rintro e w13 ⟨g13, rfl, hr13, hb13⟩
        obtain ⟨bxa13, bxb13⟩ := HBX.out w13 (by repeat (first | exact Ext.refl _ | assumption | refine Ext.alloc ?_ _ | refine Ext.drew ?_ | refine Ext.drewN ?_ _ | refine Ext.setCell ?_ (by first | exact Nat.le_refl _ | (simp; done) | (dsimp only; omega) | (simp only [World.size_alloc, World.size_setCell]; omega)) _ | refine Ext.trans ?_ (by assumption)))
        obtain ⟨bya13, byb13⟩ := HBY.out w13 (by repeat (first | exact Ext.refl _ | assumption | refine Ext.alloc ?_ _ | refine Ext.drew ?_ | refine Ext.drewN ?_ _ | refine Ext.setCell ?_ (by first | exact Nat.le_refl _ | (simp; done) | (dsimp only; omega) | (simp only [World.size_alloc, World.size_setCell]; omega)) _ | refine Ext.trans ?_ (by assumption)))
        clear bxa12 bxb12 bya12 byb12
        go_wp2_with (fail)
        refine (eqHeldJobS_same _ _ n3 z3 _ (row_ints (row_ext hr7 (by repeat (first | exact Ext.refl _ | assumption | refine Ext.alloc ?_ _ | refine Ext.drew ?_ | refine Ext.drewN ?_ _ | refine Ext.setCell ?_ (by first | exact Nat.le_refl _ | (simp; done) | (dsimp only; omega) | (simp only [World.size_alloc, World.size_setCell]; omega)) _ | refine Ext.trans ?_ (by assumption)))) (by unfold maxLen; omega) HW3.out) (row_ints (row_ext hr13 (by repeat (first | exact Ext.refl _ | assumption | refine Ext.alloc ?_ _ | refine Ext.drew ?_ | refine Ext.drewN ?_ _ | refine Ext.setCell ?_ (by first | exact Nat.le_refl _ | (simp; done) | (dsimp only; omega) | (simp only [World.size_alloc, World.size_setCell]; omega)) _ | refine Ext.trans ?_ (by assumption)))) (by unfold maxLen; omega) HW3.out)).mono ?_
        rintro e w14 ⟨rfl, hb14⟩
        obtain ⟨bxa14, bxb14⟩ := HBX.out w14 (by repeat (first | exact Ext.refl _ | assumption | refine Ext.alloc ?_ _ | refine Ext.drew ?_ | refine Ext.drewN ?_ _ | refine Ext.setCell ?_ (by first | exact Nat.le_refl _ | (simp; done) | (dsimp only; omega) | (simp only [World.size_alloc, World.size_setCell]; omega)) _ | refine Ext.trans ?_ (by assumption)))
        obtain ⟨bya14, byb14⟩ := HBY.out w14 (by repeat (first | exact Ext.refl _ | assumption | refine Ext.alloc ?_ _ | refine Ext.drew ?_ | refine Ext.drewN ?_ _ | refine Ext.setCell ?_ (by first | exact Nat.le_refl _ | (simp; done) | (dsimp only; omega) | (simp only [World.size_alloc, World.size_setCell]; omega)) _ | refine Ext.trans ?_ (by assumption)))
        clear bxa13 bxb13 bya13 byb13
        go_wp2_with (fail)
        go_ret
        exact ⟨rfl, (by repeat (first | exact Ext.refl _ | assumption | refine Ext.alloc ?_ _ | refine Ext.drew ?_ | refine Ext.drewN ?_ _ | refine Ext.setCell ?_ (by first | exact Nat.le_refl _ | (simp; done) | (dsimp only; omega) | (simp only [World.size_alloc, World.size_setCell]; omega)) _ | refine Ext.trans ?_ (by assumption)))⟩
      · rw [if_neg hn3] at hsz3
        have HQ0 := hid hq0
        clear hq0
        have HQ1 := hid hq1
        clear hq1
        go_enter Try.func9, Try.ntmps9
        go_wp2_with (fail)
        have e00 : Ext w (w.alloc (.cells #[vT0, vL0] 25)) := (Ext.refl w).alloc _
        have bp0 : (w.alloc (.cells #[vT0, vL0] 25)).cell? ⟨w.heap.size, 0, none⟩ = some vT0 := by simp [go_sem]
        have bp1 : (w.alloc (.cells #[vT0, vL0] 25)).cell? ⟨w.heap.size, 1, none⟩ = some vL0 := by simp [go_sem]
        have bgs : w.heap.size < (w.alloc (.cells #[vT0, vL0] 25)).heap.size := by simp
        generalize (w.alloc (.cells #[vT0, vL0] 25)) = w0 at *
        obtain ⟨bg, hbg⟩ : ∃ g, g = w.heap.size := ⟨_, rfl⟩
        rw [← hbg] at bp0 bp1 bgs ⊢
        have HBX := hid (fun (W : World) (hW : Ext w0 W) => show W.cell? ⟨bg, 0, none⟩ = some vT0 ∧ W.cell? ⟨bg, 1, none⟩ = some vL0 from ⟨by rw [(Ext.cells hW).1 _ _ bgs]; exact bp0, by rw [(Ext.cells hW).1 _ _ bgs]; exact bp1⟩)
        clear hbg
        go_wp2_with (fail)
        refine (hsz0 _ (by repeat (first | exact Ext.refl _ | assumption | refine Ext.alloc ?_ _ | refine Ext.drew ?_ | refine Ext.drewN ?_ _ | refine Ext.setCell ?_ (by first | exact Nat.le_refl _ | (simp; done) | (dsimp only; omega) | (simp only [World.size_alloc, World.size_setCell]; omega)) _ | refine Ext.trans ?_ (by assumption)))).mono ?_
        rintro e wz ⟨rfl, hbz⟩
        clear bp0 bp1
        obtain ⟨bxa, bxb⟩ := HBX.out wz (by repeat (first | exact Ext.refl _ | assumption | refine Ext.alloc ?_ _ | refine Ext.drew ?_ | refine Ext.drewN ?_ _ | refine Ext.setCell ?_ (by first | exact Nat.le_refl _ | (simp; done) | (dsimp only; omega) | (simp only [World.size_alloc, World.size_setCell]; omega)) _ | refine Ext.trans ?_ (by assumption)))
        clear hsz0
        go_wp2_with (fail)
        refine (hsz1 _ (by repeat (first | exact Ext.refl _ | assumption | refine Ext.alloc ?_ _ | refine Ext.drew ?_ | refine Ext.drewN ?_ _ | refine Ext.setCell ?_ (by first | exact Nat.le_refl _ | (simp; done) | (dsimp only; omega) | (simp only [World.size_alloc, World.size_setCell]; omega)) _ | refine Ext.trans ?_ (by assumption)))).mono ?_
        rintro e w' ⟨rfl, rfl⟩
        clear hsz1
        go_wp2_with (fail)
        refine (hsz3 _ (by repeat (first | exact Ext.refl _ | assumption | refine Ext.alloc ?_ _ | refine Ext.drew ?_ | refine Ext.drewN ?_ _ | refine Ext.setCell ?_ (by first | exact Nat.le_refl _ | (simp; done) | (dsimp only; omega) | (simp only [World.size_alloc, World.size_setCell]; omega)) _ | refine Ext.trans ?_ (by assumption)))).mono ?_
        rintro e w' ⟨rfl, rfl⟩
        clear hsz3
        go_wp2_with (fail)
        go_ret
        exact ⟨rfl, (by repeat (first | exact Ext.refl _ | assumption | refine Ext.alloc ?_ _ | refine Ext.drew ?_ | refine Ext.drewN ?_ _ | refine Ext.setCell ?_ (by first | exact Nat.le_refl _ | (simp; done) | (dsimp only; omega) | (simp only [World.size_alloc, World.size_setCell]; omega)) _ | refine Ext.trans ?_ (by assumption)))⟩
    · rw [if_neg hn1] at hsz1
      have HQ0 := hid hq0
      clear hq0
      go_enter Try.func9, Try.ntmps9
      go_wp2_with (fail)
      have e00 : Ext w (w.alloc (.cells #[vT0, vL0] 25)) := (Ext.refl w).alloc _
      have bp0 : (w.alloc (.cells #[vT0, vL0] 25)).cell? ⟨w.heap.size, 0, none⟩ = some vT0 := by simp [go_sem]
      have bp1 : (w.alloc (.cells #[vT0, vL0] 25)).cell? ⟨w.heap.size, 1, none⟩ = some vL0 := by simp [go_sem]
      have bgs : w.heap.size < (w.alloc (.cells #[vT0, vL0] 25)).heap.size := by simp
      generalize (w.alloc (.cells #[vT0, vL0] 25)) = w0 at *
      obtain ⟨bg, hbg⟩ : ∃ g, g = w.heap.size := ⟨_, rfl⟩
      rw [← hbg] at bp0 bp1 bgs ⊢
      have HBX := hid (fun (W : World) (hW : Ext w0 W) => show W.cell? ⟨bg, 0, none⟩ = some vT0 ∧ W.cell? ⟨bg, 1, none⟩ = some vL0 from ⟨by rw [(Ext.cells hW).1 _ _ bgs]; exact bp0, by rw [(Ext.cells hW).1 _ _ bgs]; exact bp1⟩)
      clear hbg
      go_wp2_with (fail)
      refine (hsz0 _ (by repeat (first | exact Ext.refl _ | assumption | refine Ext.alloc ?_ _ | refine Ext.drew ?_ | refine Ext.drewN ?_ _ | refine Ext.setCell ?_ (by first | exact Nat.le_refl _ | (simp; done) | (dsimp only; omega) | (simp only [World.size_alloc, World.size_setCell]; omega)) _ | refine Ext.trans ?_ (by assumption)))).mono ?_
      rintro e wz ⟨rfl, hbz⟩
      clear bp0 bp1
      obtain ⟨bxa, bxb⟩ := HBX.out wz (by repeat (first | exact Ext.refl _ | assumption | refine Ext.alloc ?_ _ | refine Ext.drew ?_ | refine Ext.drewN ?_ _ | refine Ext.setCell ?_ (by first | exact Nat.le_refl _ | (simp; done) | (dsimp only; omega) | (simp only [World.size_alloc, World.size_setCell]; omega)) _ | refine Ext.trans ?_ (by assumption)))
      clear hsz0
      go_wp2_with (fail)
      refine (hsz1 _ (by repeat (first | exact Ext.refl _ | assumption | refine Ext.alloc ?_ _ | refine Ext.drew ?_ | refine Ext.drewN ?_ _ | refine Ext.setCell ?_ (by first | exact Nat.le_refl _ | (simp; done) | (dsimp only; omega) | (simp only [World.size_alloc, World.size_setCell]; omega)) _ | refine Ext.trans ?_ (by assumption)))).mono ?_
      rintro e w' ⟨rfl, rfl⟩
      clear hsz1
      go_wp2_with (fail)
      go_ret
      exact ⟨rfl, (by repeat (first | exact Ext.refl _ | assumption | refine Ext.alloc ?_ _ | refine Ext.drew ?_ | refine Ext.drewN ?_ _ | refine Ext.setCell ?_ (by first | exact Nat.le_refl _ | (simp; done) | (dsimp only; omega) | (simp only [World.size_alloc, World.size_setCell]; omega)) _ | refine Ext.trans ?_ (by assumption)))⟩
  · rw [if_neg hn0] at hsz0
    go_enter Try.func9, Try.ntmps9
    go_wp2_with (fail)
    have e00 : Ext w (w.alloc (.cells #[vT0, vL0] 25)) := (Ext.refl w).alloc _
    have bp0 : (w.alloc (.cells #[vT0, vL0] 25)).cell? ⟨w.heap.size, 0, none⟩ = some vT0 := by simp [go_sem]
    have bp1 : (w.alloc (.cells #[vT0, vL0] 25)).cell? ⟨w.heap.size, 1, none⟩ = some vL0 := by simp [go_sem]
    have bgs : w.heap.size < (w.alloc (.cells #[vT0, vL0] 25)).heap.size := by simp
    generalize (w.alloc (.cells #[vT0, vL0] 25)) = w0 at *
    obtain ⟨bg, hbg⟩ : ∃ g, g = w.heap.size := ⟨_, rfl⟩
    rw [← hbg] at bp0 bp1 bgs ⊢
    have HBX := hid (fun (W : World) (hW : Ext w0 W) => show W.cell? ⟨bg, 0, none⟩ = some vT0 ∧ W.cell? ⟨bg, 1, none⟩ = some vL0 from ⟨by rw [(Ext.cells hW).1 _ _ bgs]; exact bp0, by rw [(Ext.cells hW).1 _ _ bgs]; exact bp1⟩)
    clear hbg
    go_wp2_with (fail)
    refine (hsz0 _ (by repeat (first | exact Ext.refl _ | assumption | refine Ext.alloc ?_ _ | refine Ext.drew ?_ | refine Ext.drewN ?_ _ | refine Ext.setCell ?_ (by first | exact Nat.le_refl _ | (simp; done) | (dsimp only; omega) | (simp only [World.size_alloc, World.size_setCell]; omega)) _ | refine Ext.trans ?_ (by assumption)))).mono ?_
    rintro e wz ⟨rfl, hbz⟩
    clear bp0 bp1
    obtain ⟨bxa, bxb⟩ := HBX.out wz (by repeat (first | exact Ext.refl _ | assumption | refine Ext.alloc ?_ _ | refine Ext.drew ?_ | refine Ext.drewN ?_ _ | refine Ext.setCell ?_ (by first | exact Nat.le_refl _ | (simp; done) | (dsimp only; omega) | (simp only [World.size_alloc, World.size_setCell]; omega)) _ | refine Ext.trans ?_ (by assumption)))
    clear hsz0
    go_wp2_with (fail)
    go_ret
    exact ⟨rfl, (by repeat (first | exact Ext.refl _ | assumption | refine Ext.alloc ?_ _ | refine Ext.drew ?_ | refine Ext.drewN ?_ _ | refine Ext.setCell ?_ (by first | exact Nat.le_refl _ | (simp; done) | (dsimp only; omega) | (simp only [World.size_alloc, World.size_setCell]; omega)) _ | refine Ext.trans ?_ (by assumption)))⟩

end Go.Proofs.Ytlmfohjfbolhpaa