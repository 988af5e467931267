/- The arrivals of packets: the program and the reference. No condition. -/
import Derived.Test.YtjmbhlhkjjinbaaPkA
import Derived.Test.YtjmbhlhkjjinbaaHldI
import Derived.Test.YtjmbhlhkjjinbaaApp2h
namespace Go.Proofs.Ytjmbhlhkjjinbaa
open Go.RowKit
set_option linter.unusedSimpArgs false
set_option linter.unusedVariables false

/-- the jobs of packets: all ready at t, as many signals as they have -/
def pkY (t : Int) (S : List (List Int)) : Nat → List Int
  | 0 => []
  | k + 1 => pkY t S k ++ [t, ((S.getD k []).length : Int)]
theorem pkY_len (t : Int) (S : List (List Int)) : ∀ k, (pkY t S k).length = k * 2
  | 0 => rfl
  | k + 1 => by rw [pkY, List.length_append, pkY_len t S k]; simp; omega
theorem pkY_get (t : Int) (S : List (List Int)) : ∀ n j, j < n → (pkY t S n).getD (j * 2) 0 = t ∧ (pkY t S n).getD (j * 2 + 1) 0 = ((S.getD j []).length : Int)
  | 0, j, h => absurd h (by omega)
  | n + 1, j, h => by
    have hl := pkY_len t S n
    rw [pkY]
    by_cases e : j = n
    · subst e
      rw [List.getD_eq_getElem?_getD, List.getElem?_append_right (by omega), List.getD_eq_getElem?_getD (i := j * 2 + 1), List.getElem?_append_right (by omega), hl, show j * 2 - j * 2 = 0 by omega, show j * 2 + 1 - j * 2 = 1 by omega]
      exact ⟨rfl, rfl⟩
    · have ih := pkY_get t S n j (by omega)
      rw [List.getD_eq_getElem?_getD, List.getElem?_append_left (by omega), List.getD_eq_getElem?_getD (i := j * 2 + 1), List.getElem?_append_left (by omega), ← List.getD_eq_getElem?_getD, ← List.getD_eq_getElem?_getD]
      exact ih
def hpB (z : List Int) (S : List (List Int)) (n : Nat) (t : Int) : Bool := okPs z S n && (decide (n ≤ 20) && inR t 0 10000)
theorem pkB_iff {x0 x1 x2 : Int} {s : List Int} (h : pkB x0 x1 x2 s = true) : 1 ≤ (s.length : Int) ∧ (s.length : Int) ≤ 8 := by
  unfold pkB at h
  simp only [Bool.and_eq_true, inR_iff] at h
  exact h.2.2.2.1
theorem hpB_iff {z : List Int} {S : List (List Int)} {n : Nat} {t : Int} (h : hpB z S n t = true) : n ≤ 20 ∧ 0 ≤ t ∧ t ≤ 10000 ∧ ∀ k, k < n → 1 ≤ ((S.getD k []).length : Int) ∧ ((S.getD k []).length : Int) ≤ 8 := by
  unfold hpB okPs at h
  simp only [Bool.and_eq_true, inR_iff, decide_eq_true_eq] at h
  exact ⟨h.2.1, h.2.2.1, h.2.2.2, fun k hk => pkB_iff (allB_get h.1.2 k hk)⟩
theorem hpB_ok {z : List Int} {S : List (List Int)} {n : Nat} {t : Int} (h : hpB z S n t = true) : okHs (pkY t S n) n = true := by
  obtain ⟨h1, h2, h3, h4⟩ := hpB_iff h
  unfold okHs
  rw [Bool.and_eq_true]
  refine ⟨by simp; omega, allB_t fun j hj => ?_⟩
  obtain ⟨e1, e2⟩ := pkY_get t S n j hj
  unfold hjAt hjB
  rw [show hRd (pkY t S n) j = t from e1, show hCt (pkY t S n) j = _ from e2, inR_iff.2 ⟨h2, h3⟩, inR_iff.2 ⟨(h4 j hj).1, by have := (h4 j hj).2; omega⟩]
  by_cases e : j = 0
  · subst e; rfl
  · rw [show hRd (pkY t S n) (j - 1) = t from (pkY_get t S n (j - 1) (by omega)).1]
    simp
theorem pkY_wf {z : List Int} {S : List (List Int)} {n : Nat} {t : Int} (h : hpB z S n t = true) : ∀ x ∈ pkY t S n, (Lit.int .i64 x).wf = true := by
  obtain ⟨h1, h2, h3, h4⟩ := hpB_iff h
  intro x hx
  obtain ⟨j, hj, rfl⟩ := getD_of_mem hx
  rw [pkY_len] at hj
  obtain ⟨e1, e2⟩ := pkY_get t S n (j / 2) (by omega)
  have h5 := h4 (j / 2) (by omega)
  rcases Nat.mod_two_eq_zero_or_one j with e | e
  · rw [show j = j / 2 * 2 by omega, e1]; exact small_wf (by omega) (by omega)
  · rw [show j = j / 2 * 2 + 1 by omega, e2]; exact small_wf (by omega) (by omega)
def hpC (nT : Nat) (zT : List Int) (nL : Nat) (zL zF : List Int) (nF : Nat) (link : Int) (z : List Int) (S : List (List Int)) (n : Nat) (t : Int) : Bool := hpB z S n t && hoC nT zT nL zL zF nF link (pkY t S n) n
def hpV (nT : Nat) (zT : List Int) (nL : Nat) (zL zF : List Int) (nF : Nat) (link : Int) (z : List Int) (S : List (List Int)) (n : Nat) (t : Int) : List Int := if hpC nT zT nL zL zF nF link z S n t = true then haL zF nF link (pkY t S n) (f3c zL link.toNat) n else []
theorem hpC_f {nT nL nF n : Nat} {zT zL zF z : List Int} {link t : Int} {S : List (List Int)} (h : hpC nT zT nL zL zF nF link z S n t = false) : hpV nT zT nL zL zF nF link z S n t = [] := by
  unfold hpV; rw [h]; rfl
theorem hpC_t {nT nL nF n : Nat} {zT zL zF z : List Int} {link t : Int} {S : List (List Int)} (h : hpB z S n t = true) : hpC nT zT nL zL zF nF link z S n t = hoC nT zT nL zL zF nF link (pkY t S n) n ∧ hpV nT zT nL zL zF nF link z S n t = arV nT zT nL zL zF nF link (pkY t S n) n := by
  unfold hpV hpC arV
  rw [h, Bool.true_and]
  exact ⟨rfl, rfl⟩
theorem hpV_inv (nT : Nat) (zT : List Int) (nL : Nat) (zL zF : List Int) (nF : Nat) (link : Int) (z : List Int) (S : List (List Int)) (n : Nat) (t : Int) : (∀ x ∈ hpV nT zT nL zL zF nF link z S n t, (Lit.int .i64 x).wf = true) ∧ (hpV nT zT nL zL zF nF link z S n t).length ≤ 20 := by
  by_cases c : hpB z S n t = true
  · rw [(hpC_t c).2]
    exact arV_inv _ _ _ _ _ _ _ _ _
  · rw [hpC_f (by unfold hpC; rw [Bool.eq_false_iff.2 c]; rfl)]
    simp
theorem info_HJ : (Try.prog.info? 40).map (fun i => (i.zero, i.size, i.bytes)) = some (some (.agg #[.int .i64 0, .int .i64 0]), 2, 16) := by kernel_rfl


set_option maxRecDepth 100000 in
set_option maxHeartbeats 3200000 in
theorem iHoldPackets_any (v : Value) (nT : Nat) (zT : List Int) (nL : Nat) (zL : List Int) (u : Value) (nF : Nat) (zF : List Int) (link : Int) (x : Value) (m : Nat) (zP : List Int) (S : List (List Int)) (t : Int) (w : World) (hN : NetRow w v nT zT nL zL) (hF : IntRow .i64 3 w u nF zF) (hP : PkRow w x m zP S) :
    Calls Try.prog 6 #[v, u, .int .i64 link, x, .int .i64 t] w fun e w' => ∃ v', e = .returned (.tuple #[v', .bool (hpC nT zT nL zL zF nF link zP S m t)]) ∧ w'.ownsRow w.heap.size 3 1 v' ((hpV nT zT nL zL zF nF link zP S m t).length / 1) ((hpV nT zT nL zL zF nF link zP S m t).map (Value.int .i64)) ∧ Ext w w' := by
  obtain ⟨i0, hi, hz0, hz1, hz2⟩ := info_parts info_HJ
  have hN0 := hid hN
  have hF0 := hid hF
  have hP0 := hid hP
  obtain ⟨vT, vL, rfl, hT, hL⟩ := hN
  obtain ⟨aT, cT, rfl⟩ := introw_slc hT
  obtain ⟨aL, cL, rfl⟩ := introw_slc hL
  obtain ⟨aF, cF, rfl⟩ := introw_slc hF
  obtain ⟨_, _, hmm, _, aP, cP, rfl, hnc, hcm, hcell⟩ := hP
  unfold maxLen at hmm
  clear hT hL hF
  obtain ⟨CC, hCC⟩ : ∃ q, q = hpC nT zT nL zL zF nF link zP S m t := ⟨_, rfl⟩
  obtain ⟨LL, hLL⟩ : ∃ q, q = hpV nT zT nL zL zF nF link zP S m t := ⟨_, rfl⟩
  rw [← hCC, ← hLL]
  obtain ⟨O, hO⟩ : ∃ q, q = okPs zP S m := ⟨_, rfl⟩
  obtain ⟨A, hA⟩ : ∃ q, q = askH nT zT nL zL zF nF link := ⟨_, rfl⟩
  have HO := hid hO
  have HA := hid hA
  have HC := hid hCC
  have HL := hid hLL
  have hbs : hpB zP S m t = (O && (decide (m ≤ 20) && inR t 0 10000)) := by unfold hpB; rw [hO]
  have HB := hid hbs
  clear hO hA hCC hLL hbs hnc

  have C0 := fun (W : World) (hW : Ext w W) => iArePackets_any _ m zP S W (hP0.out.ext hW)
  rw [← HO.out] at C0
  have no : hpB zP S m t = false → Hid (CC = false ∧ LL = []) := fun h => hid (by
    have h1 : hpC nT zT nL zL zF nF link zP S m t = false := by unfold hpC; rw [h]; rfl
    exact ⟨HC.out.trans h1, HL.out.trans (hpC_f h1)⟩)
  have HNO := hid no
  clear no
  by_cases hall : hpB zP S m t = true
  · have hall2 := hall
    rw [HB.out, Bool.and_eq_true, Bool.and_eq_true, decide_eq_true_eq] at hall2
    obtain ⟨rfl, h20, hin⟩ := hall2
    have HIN := hid hin
    have h20b : (m : Int) ≤ 20 := by omega
    have HALL := hid hall
    have HSB := hid (hpB_iff hall).2.2.2
    have htb := inR_iff.1 hin
    have hCL := hpC_t (nT := nT) (nL := nL) (nF := nF) (zT := zT) (zL := zL) (zF := zF) (link := link) hall
    have HX1 : Hid (CC = hoC nT zT nL zL zF nF link (pkY t S m) m) := hid (HC.out.trans hCL.1)
    have HX2 : Hid (LL = arV nT zT nL zL zF nF link (pkY t S m) m) := hid (HL.out.trans hCL.2)
    clear hin hall hCL HNO
    go_enter Try.func6, Try.ntmps6
    go_wp2_with (fail)
    refine (C0 _ (by repeat (first | (with_reducible exact Ext.refl _) | (with_reducible assumption) | (with_reducible refine Ext.alloc ?_ _) | (with_reducible refine Ext.drew ?_) | (with_reducible refine Ext.drewN ?_ _) | ((with_reducible refine Ext.setCell ?_ ?_ _); rotate_left; (first | exact Nat.le_refl _ | (simp; done) | (dsimp only; omega) | (simp only [World.size_alloc, World.size_setCell]; omega))) | (with_reducible refine Ext.trans ?_ (by assumption))))).mono ?_
    rintro e w1 ⟨rfl, hb1⟩
    clear C0
    have E1 : Ext w w1 := (by repeat (first | (with_reducible exact Ext.refl _) | (with_reducible assumption) | (with_reducible refine Ext.alloc ?_ _) | (with_reducible refine Ext.drew ?_) | (with_reducible refine Ext.drewN ?_ _) | ((with_reducible refine Ext.setCell ?_ ?_ _); rotate_left; (first | exact Nat.le_refl _ | (simp; done) | (dsimp only; omega) | (simp only [World.size_alloc, World.size_setCell]; omega))) | (with_reducible refine Ext.trans ?_ (by assumption))))
    have NB0 := hid (show w1.cell? ⟨w.heap.size, 0, none⟩ = some (.slice aT nT cT) by rw [(Ext.cells hb1).1 _ _ (by simp)]; simp [go_sem])
    have NB1 := hid (show w1.cell? ⟨w.heap.size, 1, none⟩ = some (.slice aL nL cL) by rw [(Ext.cells hb1).1 _ _ (by simp)]; simp [go_sem])
    have hbg : w.heap.size < w1.heap.size := by have := hb1.size; simp only [World.size_alloc] at this; omega
    clear hb1
    obtain ⟨bg, hbe⟩ : ∃ g, g = w.heap.size := ⟨_, rfl⟩
    rw [← hbe] at NB0 NB1 hbg ⊢
    clear hbe
    go_wp2_with (go_at_call 27; refine (within_any _ _ _ _).mono ?_; rw [HIN.out]; rintro e w2 ⟨rfl, rfl⟩)
    go_loopw [12, 30] (fun s i wr => ∃ k : Nat, k ≤ m ∧ i = .int .i64 (k : Int) ∧ wr.ownsRow w1.heap.size 40 2 s k ((pkY t S k).map (Value.int .i64)) ∧ Ext w1 wr)
      (fun _ i _ => m - (intOf i).toNat)
    case atStart => exact ⟨0, Nat.zero_le _, rfl, World.ownsRow_nil _ _ _ _, Ext.refl _⟩
    case round =>
      obtain ⟨k, hk, rfl, hrow, hE⟩ := hrel
      obtain ⟨a1, c1, rfl, _, _, _⟩ := row_shape hrow
      have HROW := hid hrow
      clear hrow
      have E2 := E1.trans hE
      by_cases hlt : k < m
      · obtain ⟨b, o, rfl, hb, hc⟩ := hcell.resolve_left (by omega)
        obtain ⟨x0, x1, x2, u, e0, e1, e2, s0, s1, s2, s3, hr⟩ := ((hc k hlt).ext E2 hb).parts
        obtain ⟨ml, hml⟩ : ∃ m, m = (S.getD k []).length := ⟨_, rfl⟩
        have hsb := HSB.out k hlt
        rw [← hml] at hr hsb
        obtain ⟨a3, c3, rfl⟩ := introw_slc hr
        have HML := hid hml
        have wt : (Lit.int .i64 t).wf = true := small_wf (by omega) (by omega)
        have wl : (Lit.int .i64 (ml : Int)).wf = true := small_wf (by omega) (by omega)
        have HWT := hid wt
        have HWL := hid wl
        have hsz := hE.size
        clear e0 e1 e2 hml hc hcell hr wt wl
        go_wp2_with (at_builtin; go_loud (refine wpList_src2 rfl (.tmp 34) (.tmp 40) 36 rfl w1.heap.size 40 i0 _ Try.underlying36 hi hz0 hz1 hz2 rfl _ k ((pkY t S k).map (Value.int .i64)) rfl (row_ext HROW.out (by repeat (first | (with_reducible exact Ext.refl _) | (with_reducible assumption) | (with_reducible refine Ext.alloc ?_ _) | (with_reducible refine Ext.drew ?_) | (with_reducible refine Ext.drewN ?_ _) | ((with_reducible refine Ext.setCell ?_ ?_ _); rotate_left; (first | exact Nat.le_refl _ | (simp; done) | (dsimp only; omega) | (simp only [World.size_alloc, World.size_setCell]; omega))) | (with_reducible refine Ext.trans ?_ (by assumption))))) _ 1 [t, (ml : Int)] rfl (lit2_atB _ _ t (ml : Int) _ (by simp) HWT.out HWL.out) (by omega) (by simp only [World.size_alloc]; omega) ?_; intro v1 wz hr1 hgz; obtain ⟨a2, c2, rfl, _, _, _⟩ := row_shape hr1; have hEz : Ext w1 wz := ext_append (by repeat (first | (with_reducible exact Ext.refl _) | (with_reducible assumption) | (with_reducible refine Ext.alloc ?_ _) | (with_reducible refine Ext.drew ?_) | (with_reducible refine Ext.drewN ?_ _) | ((with_reducible refine Ext.setCell ?_ ?_ _); rotate_left; (first | exact Nat.le_refl _ | (simp; done) | (dsimp only; omega) | (simp only [World.size_alloc, World.size_setCell]; omega))) | (with_reducible refine Ext.trans ?_ (by assumption)))) (row_ext HROW.out (by repeat (first | (with_reducible exact Ext.refl _) | (with_reducible assumption) | (with_reducible refine Ext.alloc ?_ _) | (with_reducible refine Ext.drew ?_) | (with_reducible refine Ext.drewN ?_ _) | ((with_reducible refine Ext.setCell ?_ ?_ _); rotate_left; (first | exact Nat.le_refl _ | (simp; done) | (dsimp only; omega) | (simp only [World.size_alloc, World.size_setCell]; omega))) | (with_reducible refine Ext.trans ?_ (by assumption))))) (Nat.le_refl _) hgz; have HR1 := hid hr1; clear hr1 hgz))
        go_roundw
        case rel =>
          refine ⟨k + 1, by omega, by go_num, ?_, hEz⟩
          rw [pkY, ← HML.out, List.map_append]
          exact HR1.out
        case measure => simp [intOf]; omega
      obtain rfl : m = k := by omega
      have n0 := NB0.out
      have n1 := NB1.out
      rw [← (Ext.cells hE).1 _ _ hbg] at n0 n1
      clear hcell
      go_wp2_with (fail)
      refine (iHoldArrivals_any _ nT zT nL zL _ nF zF link _ m (pkY t S m) _ (hN0.out.ext E2) (hF0.out.ext E2) (row_ints HROW.out (by unfold maxLen; omega) (pkY_wf HALL.out))).mono ?_
      rintro e w3 ⟨v', rfl, hr, hx⟩
      go_wp2_with (fail)
      go_ret2
      rw [HX1.out, HX2.out]
      exact ⟨v', rfl, row_mono hr E2.size, E2.trans hx⟩
  · have HF := HNO.out (by simpa using hall)
    have HFC : Hid (CC = false) := hid HF.out.1
    have HFL : Hid (LL = []) := hid HF.out.2
    rw [HB.out] at hall
    clear HNO HF
    cases O with
    | false =>
      go_enter Try.func6, Try.ntmps6
      go_wp2_with (fail)
      refine (C0 _ (by repeat (first | (with_reducible exact Ext.refl _) | (with_reducible assumption) | (with_reducible refine Ext.alloc ?_ _) | (with_reducible refine Ext.drew ?_) | (with_reducible refine Ext.drewN ?_ _) | ((with_reducible refine Ext.setCell ?_ ?_ _); rotate_left; (first | exact Nat.le_refl _ | (simp; done) | (dsimp only; omega) | (simp only [World.size_alloc, World.size_setCell]; omega))) | (with_reducible refine Ext.trans ?_ (by assumption))))).mono ?_
      rintro e w1 ⟨rfl, hb1⟩
      go_wp2_with (fail)
      go_ret2
      rw [HFC.out, HFL.out]
      exact ⟨_, rfl, World.ownsRow_nil _ _ _ _, (by repeat (first | (with_reducible exact Ext.refl _) | (with_reducible assumption) | (with_reducible refine Ext.alloc ?_ _) | (with_reducible refine Ext.drew ?_) | (with_reducible refine Ext.drewN ?_ _) | ((with_reducible refine Ext.setCell ?_ ?_ _); rotate_left; (first | exact Nat.le_refl _ | (simp; done) | (dsimp only; omega) | (simp only [World.size_alloc, World.size_setCell]; omega))) | (with_reducible refine Ext.trans ?_ (by assumption))))⟩
    | true =>
      by_cases h20 : m ≤ 20
      · have h20b : (m : Int) ≤ 20 := by omega
        have hin : inR t 0 10000 = false := by
          rw [Bool.true_and, decide_eq_true h20, Bool.true_and] at hall
          simpa using hall
        have HIN := hid hin
        clear hin hall
        go_enter Try.func6, Try.ntmps6
        go_wp2_with (fail)
        refine (C0 _ (by repeat (first | (with_reducible exact Ext.refl _) | (with_reducible assumption) | (with_reducible refine Ext.alloc ?_ _) | (with_reducible refine Ext.drew ?_) | (with_reducible refine Ext.drewN ?_ _) | ((with_reducible refine Ext.setCell ?_ ?_ _); rotate_left; (first | exact Nat.le_refl _ | (simp; done) | (dsimp only; omega) | (simp only [World.size_alloc, World.size_setCell]; omega))) | (with_reducible refine Ext.trans ?_ (by assumption))))).mono ?_
        rintro e w1 ⟨rfl, hb1⟩
        go_wp2_with (go_at_call 27; refine (within_any _ _ _ _).mono ?_; rw [HIN.out]; rintro e w2 ⟨rfl, rfl⟩)
        go_ret2
        rw [HFC.out, HFL.out]
        exact ⟨_, rfl, World.ownsRow_nil _ _ _ _, (by repeat (first | (with_reducible exact Ext.refl _) | (with_reducible assumption) | (with_reducible refine Ext.alloc ?_ _) | (with_reducible refine Ext.drew ?_) | (with_reducible refine Ext.drewN ?_ _) | ((with_reducible refine Ext.setCell ?_ ?_ _); rotate_left; (first | exact Nat.le_refl _ | (simp; done) | (dsimp only; omega) | (simp only [World.size_alloc, World.size_setCell]; omega))) | (with_reducible refine Ext.trans ?_ (by assumption))))⟩
      · have h20b : ¬ (m : Int) ≤ 20 := by omega
        clear hall
        go_enter Try.func6, Try.ntmps6
        go_wp2_with (fail)
        refine (C0 _ (by repeat (first | (with_reducible exact Ext.refl _) | (with_reducible assumption) | (with_reducible refine Ext.alloc ?_ _) | (with_reducible refine Ext.drew ?_) | (with_reducible refine Ext.drewN ?_ _) | ((with_reducible refine Ext.setCell ?_ ?_ _); rotate_left; (first | exact Nat.le_refl _ | (simp; done) | (dsimp only; omega) | (simp only [World.size_alloc, World.size_setCell]; omega))) | (with_reducible refine Ext.trans ?_ (by assumption))))).mono ?_
        rintro e w1 ⟨rfl, hb1⟩
        go_wp2_with (fail)
        go_ret2
        rw [HFC.out, HFL.out]
        exact ⟨_, rfl, World.ownsRow_nil _ _ _ _, (by repeat (first | (with_reducible exact Ext.refl _) | (with_reducible assumption) | (with_reducible refine Ext.alloc ?_ _) | (with_reducible refine Ext.drew ?_) | (with_reducible refine Ext.drewN ?_ _) | ((with_reducible refine Ext.setCell ?_ ?_ _); rotate_left; (first | exact Nat.le_refl _ | (simp; done) | (dsimp only; omega) | (simp only [World.size_alloc, World.size_setCell]; omega))) | (with_reducible refine Ext.trans ?_ (by assumption))))⟩

set_option maxRecDepth 100000 in
set_option maxHeartbeats 3200000 in
theorem sHoldPackets_any (v : Value) (nT : Nat) (zT : List Int) (nL : Nat) (zL : List Int) (u : Value) (nF : Nat) (zF : List Int) (link : Int) (x : Value) (m : Nat) (zP : List Int) (S : List (List Int)) (t : Int) (w : World) (hN : NetRow w v nT zT nL zL) (hF : IntRow .i64 3 w u nF zF) (hP : PkRow w x m zP S) :
    Calls Try.prog 7 #[v, u, .int .i64 link, x, .int .i64 t] w fun e w' => ∃ v', e = .returned (.tuple #[v', .bool (hpC nT zT nL zL zF nF link zP S m t)]) ∧ w'.ownsRow w.heap.size 3 1 v' ((hpV nT zT nL zL zF nF link zP S m t).length / 1) ((hpV nT zT nL zL zF nF link zP S m t).map (Value.int .i64)) ∧ Ext w w' := by
  obtain ⟨i0, hi, hz0, hz1, hz2⟩ := info_parts info_HJ
  have hN0 := hid hN
  have hF0 := hid hF
  have hP0 := hid hP
  obtain ⟨vT, vL, rfl, hT, hL⟩ := hN
  obtain ⟨aT, cT, rfl⟩ := introw_slc hT
  obtain ⟨aL, cL, rfl⟩ := introw_slc hL
  obtain ⟨aF, cF, rfl⟩ := introw_slc hF
  obtain ⟨_, _, hmm, _, aP, cP, rfl, hnc, hcm, hcell⟩ := hP
  unfold maxLen at hmm
  clear hT hL hF
  obtain ⟨CC, hCC⟩ : ∃ q, q = hpC nT zT nL zL zF nF link zP S m t := ⟨_, rfl⟩
  obtain ⟨LL, hLL⟩ : ∃ q, q = hpV nT zT nL zL zF nF link zP S m t := ⟨_, rfl⟩
  rw [← hCC, ← hLL]
  obtain ⟨O, hO⟩ : ∃ q, q = okPs zP S m := ⟨_, rfl⟩
  obtain ⟨A, hA⟩ : ∃ q, q = askH nT zT nL zL zF nF link := ⟨_, rfl⟩
  have HO := hid hO
  have HA := hid hA
  have HC := hid hCC
  have HL := hid hLL
  have hbs : hpB zP S m t = (O && (decide (m ≤ 20) && inR t 0 10000)) := by unfold hpB; rw [hO]
  have HB := hid hbs
  clear hO hA hCC hLL hbs hnc

  have C1 := fun (W : World) (hW : Ext w W) => fgHas_any _ nT zT nL zL _ nF zF link W (hN0.out.ext hW) (hF0.out.ext hW)
  rw [show (okNet nT zT nL zL && (okFg nL zF nF && inR link 0 ((nL : Int) - 1))) = A from HA.out.symm] at C1
  have C0 := fun (W : World) (hW : Ext w W) => pkAll_any _ m zP S W (hP0.out.ext hW)
  rw [← HO.out] at C0
  have no : (hpB zP S m t && A) = false → Hid (CC = false ∧ LL = []) := fun h => hid (by
    have h1 : hpC nT zT nL zL zF nF link zP S m t = false := by
      unfold hpC hoC
      rw [← HA.out]
      cases hb : hpB zP S m t with
      | false => rfl
      | true => rw [hb, Bool.true_and] at h; rw [h]; rfl
    exact ⟨HC.out.trans h1, HL.out.trans (hpC_f h1)⟩)
  have HNO := hid no
  clear no
  by_cases hall : (hpB zP S m t && A) = true
  · rw [Bool.and_eq_true] at hall
    obtain ⟨hall, rfl⟩ := hall
    have hall2 := hall
    rw [HB.out, Bool.and_eq_true, Bool.and_eq_true, decide_eq_true_eq] at hall2
    obtain ⟨rfl, h20, hin⟩ := hall2
    have HIN := hid hin
    have h20b : (m : Int) ≤ 20 := by omega
    have HALL := hid hall
    have HSB := hid (hpB_iff hall).2.2.2
    have htb := inR_iff.1 hin
    have hCL := hpC_t (nT := nT) (nL := nL) (nF := nF) (zT := zT) (zL := zL) (zF := zF) (link := link) hall
    have HQ : Hid (true = hoC nT zT nL zL zF nF link (pkY t S m) m) := hid (by unfold hoC; rw [hpB_ok hall, ← HA.out]; rfl)
    have HX1 : Hid (CC = true) := hid (by rw [HC.out, hCL.1]; exact HQ.out.symm)
    have HX2 : Hid (LL = haL zF nF link (pkY t S m) (f3c zL link.toNat) m) := hid (by rw [HL.out, hCL.2]; unfold arV; rw [if_pos HQ.out.symm])
    have HX3 : Hid (LL.length / 1 = m) := hid (by rw [HX2.out, haL_length]; omega)
    clear hin hall hCL HNO
    go_enter Try.func7, Try.ntmps7
    go_wp2_with (fail)
    refine (C1 _ (by repeat (first | (with_reducible exact Ext.refl _) | (with_reducible assumption) | (with_reducible refine Ext.alloc ?_ _) | (with_reducible refine Ext.drew ?_) | (with_reducible refine Ext.drewN ?_ _) | ((with_reducible refine Ext.setCell ?_ ?_ _); rotate_left; (first | exact Nat.le_refl _ | (simp; done) | (dsimp only; omega) | (simp only [World.size_alloc, World.size_setCell]; omega))) | (with_reducible refine Ext.trans ?_ (by assumption))))).mono ?_
    rintro e wn ⟨rfl, hbn⟩
    have En : Ext w wn := (by repeat (first | (with_reducible exact Ext.refl _) | (with_reducible assumption) | (with_reducible refine Ext.alloc ?_ _) | (with_reducible refine Ext.drew ?_) | (with_reducible refine Ext.drewN ?_ _) | ((with_reducible refine Ext.setCell ?_ ?_ _); rotate_left; (first | exact Nat.le_refl _ | (simp; done) | (dsimp only; omega) | (simp only [World.size_alloc, World.size_setCell]; omega))) | (with_reducible refine Ext.trans ?_ (by assumption))))
    have NB0 := hid (show wn.cell? ⟨w.heap.size, 0, none⟩ = some (.slice aT nT cT) by rw [(Ext.cells hbn).1 _ _ (by simp)]; simp [go_sem])
    have NB1 := hid (show wn.cell? ⟨w.heap.size, 1, none⟩ = some (.slice aL nL cL) by rw [(Ext.cells hbn).1 _ _ (by simp)]; simp [go_sem])
    have hbg0 : w.heap.size < wn.heap.size := by have := hbn.size; simp only [World.size_alloc] at this; omega
    clear hbn
    obtain ⟨bg, hbe⟩ : ∃ g, g = w.heap.size := ⟨_, rfl⟩
    rw [← hbe] at NB0 NB1 hbg0 ⊢
    clear hbe
    go_wp2_with (fail)
    refine (C0 _ (by repeat (first | (with_reducible exact Ext.refl _) | (with_reducible assumption) | (with_reducible refine Ext.alloc ?_ _) | (with_reducible refine Ext.drew ?_) | (with_reducible refine Ext.drewN ?_ _) | ((with_reducible refine Ext.setCell ?_ ?_ _); rotate_left; (first | exact Nat.le_refl _ | (simp; done) | (dsimp only; omega) | (simp only [World.size_alloc, World.size_setCell]; omega))) | (with_reducible refine Ext.trans ?_ (by assumption))))).mono ?_
    rintro e w1 ⟨rfl, hb1⟩
    have E1 : Ext w w1 := (by repeat (first | (with_reducible exact Ext.refl _) | (with_reducible assumption) | (with_reducible refine Ext.alloc ?_ _) | (with_reducible refine Ext.drew ?_) | (with_reducible refine Ext.drewN ?_ _) | ((with_reducible refine Ext.setCell ?_ ?_ _); rotate_left; (first | exact Nat.le_refl _ | (simp; done) | (dsimp only; omega) | (simp only [World.size_alloc, World.size_setCell]; omega))) | (with_reducible refine Ext.trans ?_ (by assumption))))
    replace NB0 := hid (show w1.cell? ⟨bg, 0, none⟩ = some (.slice aT nT cT) by rw [(Ext.cells hb1).1 _ _ hbg0]; exact NB0.out)
    replace NB1 := hid (show w1.cell? ⟨bg, 1, none⟩ = some (.slice aL nL cL) by rw [(Ext.cells hb1).1 _ _ hbg0]; exact NB1.out)
    have hbg : bg < w1.heap.size := Nat.lt_of_lt_of_le hbg0 hb1.size
    clear hb1 hbg0 En C0 C1
    go_wp2_with (go_at_call 30; refine (fgTime_any _ _).mono ?_; rw [HIN.out]; rintro e w2 ⟨rfl, rfl⟩)
    go_loopw [12, 37] (fun s i wr => ∃ k : Nat, k ≤ m ∧ i = .int .i64 (k : Int) ∧ wr.ownsRow w1.heap.size 40 2 s k ((pkY t S k).map (Value.int .i64)) ∧ Ext w1 wr)
      (fun _ i _ => m - (intOf i).toNat)
    case atStart => exact ⟨0, Nat.zero_le _, rfl, World.ownsRow_nil _ _ _ _, Ext.refl _⟩
    case round =>
      obtain ⟨k, hk, rfl, hrow, hE⟩ := hrel
      obtain ⟨a1, c1, rfl, _, _, _⟩ := row_shape hrow
      have HROW := hid hrow
      clear hrow
      have E2 := E1.trans hE
      by_cases hlt : k < m
      · obtain ⟨b, o, rfl, hb, hc⟩ := hcell.resolve_left (by omega)
        obtain ⟨x0, x1, x2, u, e0, e1, e2, s0, s1, s2, s3, hr⟩ := ((hc k hlt).ext E2 hb).parts
        obtain ⟨ml, hml⟩ : ∃ m, m = (S.getD k []).length := ⟨_, rfl⟩
        have hsb := HSB.out k hlt
        rw [← hml] at hr hsb
        obtain ⟨a3, c3, rfl⟩ := introw_slc hr
        have HML := hid hml
        have wt : (Lit.int .i64 t).wf = true := small_wf (by omega) (by omega)
        have wl : (Lit.int .i64 (ml : Int)).wf = true := small_wf (by omega) (by omega)
        have HWT := hid wt
        have HWL := hid wl
        have hsz := hE.size
        clear e0 e1 e2 hml hc hcell hr wt wl
        go_wp2_with (at_builtin; go_loud (refine wpList_src2 rfl (.tmp 41) (.tmp 47) 36 rfl w1.heap.size 40 i0 _ Try.underlying36 hi hz0 hz1 hz2 rfl _ k ((pkY t S k).map (Value.int .i64)) rfl (row_ext HROW.out (by repeat (first | (with_reducible exact Ext.refl _) | (with_reducible assumption) | (with_reducible refine Ext.alloc ?_ _) | (with_reducible refine Ext.drew ?_) | (with_reducible refine Ext.drewN ?_ _) | ((with_reducible refine Ext.setCell ?_ ?_ _); rotate_left; (first | exact Nat.le_refl _ | (simp; done) | (dsimp only; omega) | (simp only [World.size_alloc, World.size_setCell]; omega))) | (with_reducible refine Ext.trans ?_ (by assumption))))) _ 1 [t, (ml : Int)] rfl (lit2_atB _ _ t (ml : Int) _ (by simp) HWT.out HWL.out) (by omega) (by simp only [World.size_alloc]; omega) ?_; intro v1 wz hr1 hgz; obtain ⟨a2, c2, rfl, _, _, _⟩ := row_shape hr1; have hEz : Ext w1 wz := ext_append (by repeat (first | (with_reducible exact Ext.refl _) | (with_reducible assumption) | (with_reducible refine Ext.alloc ?_ _) | (with_reducible refine Ext.drew ?_) | (with_reducible refine Ext.drewN ?_ _) | ((with_reducible refine Ext.setCell ?_ ?_ _); rotate_left; (first | exact Nat.le_refl _ | (simp; done) | (dsimp only; omega) | (simp only [World.size_alloc, World.size_setCell]; omega))) | (with_reducible refine Ext.trans ?_ (by assumption)))) (row_ext HROW.out (by repeat (first | (with_reducible exact Ext.refl _) | (with_reducible assumption) | (with_reducible refine Ext.alloc ?_ _) | (with_reducible refine Ext.drew ?_) | (with_reducible refine Ext.drewN ?_ _) | ((with_reducible refine Ext.setCell ?_ ?_ _); rotate_left; (first | exact Nat.le_refl _ | (simp; done) | (dsimp only; omega) | (simp only [World.size_alloc, World.size_setCell]; omega))) | (with_reducible refine Ext.trans ?_ (by assumption))))) (Nat.le_refl _) hgz; have HR1 := hid hr1; clear hr1 hgz))
        go_roundw
        case rel =>
          refine ⟨k + 1, by omega, by go_num, ?_, hEz⟩
          rw [pkY, ← HML.out, List.map_append]
          exact HR1.out
        case measure => simp [intOf]; omega
      obtain rfl : m = k := by omega
      have n0 := NB0.out
      have n1 := NB1.out
      rw [← (Ext.cells hE).1 _ _ hbg] at n0 n1
      clear hcell
      go_wp2_with (fail)
      refine (hoArrivals_any _ nT zT nL zL _ nF zF link _ m (pkY t S m) _ (hN0.out.ext E2) (hF0.out.ext E2) (row_ints HROW.out (by unfold maxLen; omega) (pkY_wf HALL.out)) HQ).mono ?_
      rintro e w3 ⟨v', rfl, hr, hx⟩
      go_wp2_with (fail)
      go_ret2
      rw [HX3.out, HX1.out, HX2.out]
      exact ⟨v', rfl, row_mono hr E2.size, E2.trans hx⟩
  · have HF := HNO.out (by simpa using hall)
    have HFC : Hid (CC = false) := hid HF.out.1
    have HFL : Hid (LL = []) := hid HF.out.2
    rw [HB.out] at hall
    clear HNO HF
    cases A with
    | false =>
      go_enter Try.func7, Try.ntmps7
      go_wp2_with (fail)
      refine (C1 _ (by repeat (first | (with_reducible exact Ext.refl _) | (with_reducible assumption) | (with_reducible refine Ext.alloc ?_ _) | (with_reducible refine Ext.drew ?_) | (with_reducible refine Ext.drewN ?_ _) | ((with_reducible refine Ext.setCell ?_ ?_ _); rotate_left; (first | exact Nat.le_refl _ | (simp; done) | (dsimp only; omega) | (simp only [World.size_alloc, World.size_setCell]; omega))) | (with_reducible refine Ext.trans ?_ (by assumption))))).mono ?_
      rintro e w1 ⟨rfl, hb1⟩
      go_wp2_with (fail)
      go_ret2
      rw [HFC.out, HFL.out]
      exact ⟨_, rfl, World.ownsRow_nil _ _ _ _, (by repeat (first | (with_reducible exact Ext.refl _) | (with_reducible assumption) | (with_reducible refine Ext.alloc ?_ _) | (with_reducible refine Ext.drew ?_) | (with_reducible refine Ext.drewN ?_ _) | ((with_reducible refine Ext.setCell ?_ ?_ _); rotate_left; (first | exact Nat.le_refl _ | (simp; done) | (dsimp only; omega) | (simp only [World.size_alloc, World.size_setCell]; omega))) | (with_reducible refine Ext.trans ?_ (by assumption))))⟩
    | true =>
      rw [Bool.and_true] at hall
      cases O with
      | false =>
        go_enter Try.func7, Try.ntmps7
        go_wp2_with (fail)
        refine (C1 _ (by repeat (first | (with_reducible exact Ext.refl _) | (with_reducible assumption) | (with_reducible refine Ext.alloc ?_ _) | (with_reducible refine Ext.drew ?_) | (with_reducible refine Ext.drewN ?_ _) | ((with_reducible refine Ext.setCell ?_ ?_ _); rotate_left; (first | exact Nat.le_refl _ | (simp; done) | (dsimp only; omega) | (simp only [World.size_alloc, World.size_setCell]; omega))) | (with_reducible refine Ext.trans ?_ (by assumption))))).mono ?_
        rintro e w1 ⟨rfl, hb1⟩
        go_wp2_with (fail)
        refine (C0 _ (by repeat (first | (with_reducible exact Ext.refl _) | (with_reducible assumption) | (with_reducible refine Ext.alloc ?_ _) | (with_reducible refine Ext.drew ?_) | (with_reducible refine Ext.drewN ?_ _) | ((with_reducible refine Ext.setCell ?_ ?_ _); rotate_left; (first | exact Nat.le_refl _ | (simp; done) | (dsimp only; omega) | (simp only [World.size_alloc, World.size_setCell]; omega))) | (with_reducible refine Ext.trans ?_ (by assumption))))).mono ?_
        rintro e w2 ⟨rfl, hb2⟩
        go_wp2_with (fail)
        go_ret2
        rw [HFC.out, HFL.out]
        exact ⟨_, rfl, World.ownsRow_nil _ _ _ _, (by repeat (first | (with_reducible exact Ext.refl _) | (with_reducible assumption) | (with_reducible refine Ext.alloc ?_ _) | (with_reducible refine Ext.drew ?_) | (with_reducible refine Ext.drewN ?_ _) | ((with_reducible refine Ext.setCell ?_ ?_ _); rotate_left; (first | exact Nat.le_refl _ | (simp; done) | (dsimp only; omega) | (simp only [World.size_alloc, World.size_setCell]; omega))) | (with_reducible refine Ext.trans ?_ (by assumption))))⟩
      | true =>
        by_cases h20 : m ≤ 20
        · have h20b : (m : Int) ≤ 20 := by omega
          have hin : inR t 0 10000 = false := by
            rw [Bool.true_and, decide_eq_true h20, Bool.true_and] at hall
            simpa using hall
          have HIN := hid hin
          clear hin hall
          go_enter Try.func7, Try.ntmps7
          go_wp2_with (fail)
          refine (C1 _ (by repeat (first | (with_reducible exact Ext.refl _) | (with_reducible assumption) | (with_reducible refine Ext.alloc ?_ _) | (with_reducible refine Ext.drew ?_) | (with_reducible refine Ext.drewN ?_ _) | ((with_reducible refine Ext.setCell ?_ ?_ _); rotate_left; (first | exact Nat.le_refl _ | (simp; done) | (dsimp only; omega) | (simp only [World.size_alloc, World.size_setCell]; omega))) | (with_reducible refine Ext.trans ?_ (by assumption))))).mono ?_
          rintro e w1 ⟨rfl, hb1⟩
          go_wp2_with (fail)
          refine (C0 _ (by repeat (first | (with_reducible exact Ext.refl _) | (with_reducible assumption) | (with_reducible refine Ext.alloc ?_ _) | (with_reducible refine Ext.drew ?_) | (with_reducible refine Ext.drewN ?_ _) | ((with_reducible refine Ext.setCell ?_ ?_ _); rotate_left; (first | exact Nat.le_refl _ | (simp; done) | (dsimp only; omega) | (simp only [World.size_alloc, World.size_setCell]; omega))) | (with_reducible refine Ext.trans ?_ (by assumption))))).mono ?_
          rintro e w2 ⟨rfl, hb2⟩
          go_wp2_with (go_at_call 30; refine (fgTime_any _ _).mono ?_; rw [HIN.out]; rintro e w3 ⟨rfl, rfl⟩)
          go_ret2
          rw [HFC.out, HFL.out]
          exact ⟨_, rfl, World.ownsRow_nil _ _ _ _, (by repeat (first | (with_reducible exact Ext.refl _) | (with_reducible assumption) | (with_reducible refine Ext.alloc ?_ _) | (with_reducible refine Ext.drew ?_) | (with_reducible refine Ext.drewN ?_ _) | ((with_reducible refine Ext.setCell ?_ ?_ _); rotate_left; (first | exact Nat.le_refl _ | (simp; done) | (dsimp only; omega) | (simp only [World.size_alloc, World.size_setCell]; omega))) | (with_reducible refine Ext.trans ?_ (by assumption))))⟩
        · have h20b : ¬ (m : Int) ≤ 20 := by omega
          clear hall
          go_enter Try.func7, Try.ntmps7
          go_wp2_with (fail)
          refine (C1 _ (by repeat (first | (with_reducible exact Ext.refl _) | (with_reducible assumption) | (with_reducible refine Ext.alloc ?_ _) | (with_reducible refine Ext.drew ?_) | (with_reducible refine Ext.drewN ?_ _) | ((with_reducible refine Ext.setCell ?_ ?_ _); rotate_left; (first | exact Nat.le_refl _ | (simp; done) | (dsimp only; omega) | (simp only [World.size_alloc, World.size_setCell]; omega))) | (with_reducible refine Ext.trans ?_ (by assumption))))).mono ?_
          rintro e w1 ⟨rfl, hb1⟩
          go_wp2_with (fail)
          refine (C0 _ (by repeat (first | (with_reducible exact Ext.refl _) | (with_reducible assumption) | (with_reducible refine Ext.alloc ?_ _) | (with_reducible refine Ext.drew ?_) | (with_reducible refine Ext.drewN ?_ _) | ((with_reducible refine Ext.setCell ?_ ?_ _); rotate_left; (first | exact Nat.le_refl _ | (simp; done) | (dsimp only; omega) | (simp only [World.size_alloc, World.size_setCell]; omega))) | (with_reducible refine Ext.trans ?_ (by assumption))))).mono ?_
          rintro e w2 ⟨rfl, hb2⟩
          go_wp2_with (fail)
          go_ret2
          rw [HFC.out, HFL.out]
          exact ⟨_, rfl, World.ownsRow_nil _ _ _ _, (by repeat (first | (with_reducible exact Ext.refl _) | (with_reducible assumption) | (with_reducible refine Ext.alloc ?_ _) | (with_reducible refine Ext.drew ?_) | (with_reducible refine Ext.drewN ?_ _) | ((with_reducible refine Ext.setCell ?_ ?_ _); rotate_left; (first | exact Nat.le_refl _ | (simp; done) | (dsimp only; omega) | (simp only [World.size_alloc, World.size_setCell]; omega))) | (with_reducible refine Ext.trans ?_ (by assumption))))⟩
end Go.Proofs.Ytjmbhlhkjjinbaa