/- The chapter of held messages: fogs and links by themselves. No condition. -/
import Derived.Test.YtjmbhlhkjjinbaaHldA
import Derived.Test.YtjmbhlhkjjinbaaNet
import Derived.Test.YtjmbhlhkjjinbaaConvFog
import Derived.Test.YtjmbhlhkjjinbaaConvInt
import Derived.Test.YtjmbhlhkjjinbaaCmp
import Derived.Deep.RegionHeld3
namespace Go.Proofs.Ytjmbhlhkjjinbaa
open Go.RowKit
set_option linter.unusedSimpArgs false
set_option linter.unusedVariables false


/-! nets, fogs, held jobs -/
def f3a (z : List Int) (i : Nat) : Int := z.getD (i * 3) 0
def f3b (z : List Int) (i : Nat) : Int := z.getD (i * 3 + 1) 0
def f3c (z : List Int) (i : Nat) : Int := z.getD (i * 3 + 2) 0
def twB (x y h : Int) : Bool := inR x 0 999 && (inR y 0 999 && inR h 0 500)
def lkB (nT a b d : Int) : Bool := decide (0 ≤ a) && (decide (a < b) && (decide (b < nT) && inR d 1 60))
def twAt (z : List Int) (i : Nat) : Bool := twB (f3a z i) (f3b z i) (f3c z i)
def lkAt (nT : Nat) (z : List Int) (i : Nat) : Bool := lkB nT (f3a z i) (f3b z i) (f3c z i) && (decide (i = 0) || befL (f3a z (i - 1)) (f3b z (i - 1)) (f3a z i) (f3b z i))
/-- a net is valid -/
def okNet (nT : Nat) (zT : List Int) (nL : Nat) (zL : List Int) : Bool := inR nT 1 16 && (decide (nL ≤ 40) && (allB (twAt zT) nT && allB (lkAt nT zL) nL))
def fgB (nL l f t : Int) : Bool := inR l 0 (nL - 1) && (decide (0 ≤ f) && (decide (f < t) && decide (t ≤ 10000)))
def fpB (l1 t1 l2 f2 : Int) : Bool := decide (l1 < l2) || (l1 == l2 && decide (t1 < f2))
def fgAt (nL : Nat) (z : List Int) (i : Nat) : Bool := fgB nL (f3a z i) (f3b z i) (f3c z i) && (decide (i = 0) || fpB (f3a z (i - 1)) (f3c z (i - 1)) (f3a z i) (f3b z i))
/-- fogs are valid for a net with nL links -/
def okFg (nL : Nat) (z : List Int) (n : Nat) : Bool := decide (n ≤ 60) && allB (fgAt nL z) n
theorem fgB_iff {nL l f t : Int} : fgB nL l f t = true ↔ (0 ≤ l ∧ l ≤ nL - 1) ∧ 0 ≤ f ∧ f < t ∧ t ≤ 10000 := by
  unfold fgB; rw [Bool.and_eq_true, Bool.and_eq_true, Bool.and_eq_true, inR_iff]; simp
theorem okFg_iff {nL : Nat} {z : List Int} {n : Nat} (h : okFg nL z n = true) : n ≤ 60 ∧ ∀ j, j < n → (0 ≤ f3a z j ∧ f3a z j ≤ (nL : Int) - 1) ∧ 0 ≤ f3b z j ∧ f3b z j < f3c z j ∧ f3c z j ≤ 10000 := by
  unfold okFg at h
  rw [Bool.and_eq_true, decide_eq_true_eq] at h
  refine ⟨h.1, fun j hj => ?_⟩
  have := allB_get h.2 j hj
  unfold fgAt at this
  rw [Bool.and_eq_true] at this
  exact fgB_iff.1 this.1
theorem okNet_iff {nT nL : Nat} {zT zL : List Int} (h : okNet nT zT nL zL = true) : (1 ≤ nT ∧ nT ≤ 16) ∧ nL ≤ 40 ∧ ∀ j, j < nL → 0 ≤ f3a zL j ∧ f3a zL j < f3b zL j ∧ f3b zL j < nT ∧ 1 ≤ f3c zL j ∧ f3c zL j ≤ 60 := by
  unfold okNet at h
  rw [Bool.and_eq_true, Bool.and_eq_true, Bool.and_eq_true, inR_iff, decide_eq_true_eq] at h
  refine ⟨by omega, h.2.1, fun j hj => ?_⟩
  have := allB_get h.2.2.2 j hj
  unfold lkAt lkB at this
  rw [Bool.and_eq_true, Bool.and_eq_true, Bool.and_eq_true, Bool.and_eq_true, inR_iff] at this
  simp only [decide_eq_true_eq] at this
  omega
/-- the first second from t on, behind the first k fogs, from which a link is clear for s seconds -/
def stF (z : List Int) (link s : Int) : Nat → Int → Int
  | 0, t => t
  | k + 1, t => if f3a z k = link ∧ stF z link s k t < f3c z k ∧ f3b z k < stF z link s k t + s then f3c z k else stF z link s k t
theorem stF_bd {nL : Nat} {z : List Int} {n : Nat} (h : okFg nL z n = true) (link s t : Int) : ∀ k, k ≤ n → t ≤ stF z link s k t ∧ (stF z link s k t = t ∨ stF z link s k t ≤ 10000)
  | 0, _ => by simp [stF]
  | k + 1, hk => by
    have ih := stF_bd h link s t k (by omega)
    have hj := (okFg_iff h).2 k (by omega)
    rw [stF]
    split <;> omega
def mxI (a b : Int) : Int := if a > b then a else b
theorem mxI_bd (a b : Int) : a ≤ mxI a b ∧ b ≤ mxI a b ∧ (mxI a b = a ∨ mxI a b = b) := by unfold mxI; split <;> omega
/-- the start of a job that is asked for behind second e -/
def hsOf (zF : List Int) (nF : Nat) (link : Int) (zJ : List Int) (k : Nat) (e : Int) : Int := stF zF link (hCt zJ k * 10) nF (mxI (hRd zJ k) e)
/-- the end of the first k jobs -/
def hsEnd (zF : List Int) (nF : Nat) (link : Int) (zJ : List Int) : Nat → Int
  | 0 => 0
  | k + 1 => hsOf zF nF link zJ k (hsEnd zF nF link zJ k) + hCt zJ k * 10
def hsAt (zF : List Int) (nF : Nat) (link : Int) (zJ : List Int) (k : Nat) : Int := hsOf zF nF link zJ k (hsEnd zF nF link zJ k)
theorem hsEnd_bd {nL : Nat} {zF : List Int} {nF : Nat} {zJ : List Int} {nJ : Nat} (link : Int) (h : okFg nL zF nF = true) (hJ : ∀ j, j < nJ → 0 ≤ hRd zJ j ∧ hRd zJ j ≤ 10000 ∧ 1 ≤ hCt zJ j ∧ hCt zJ j ≤ 80) :
    ∀ k, k ≤ nJ → 0 ≤ hsEnd zF nF link zJ k ∧ hsEnd zF nF link zJ k ≤ 10000 + 800 * k
  | 0, _ => by simp [hsEnd]
  | k + 1, hk => by
    have ih := hsEnd_bd link h hJ k (by omega)
    have hj := hJ k (by omega)
    have := mxI_bd (hRd zJ k) (hsEnd zF nF link zJ k)
    have := stF_bd h link (hCt zJ k * 10) (mxI (hRd zJ k) (hsEnd zF nF link zJ k)) nF (Nat.le_refl _)
    rw [hsEnd]
    unfold hsOf
    omega
theorem hsAt_bd {nL : Nat} {zF : List Int} {nF : Nat} {zJ : List Int} {nJ : Nat} (link : Int) (h : okFg nL zF nF = true) (hJ : ∀ j, j < nJ → 0 ≤ hRd zJ j ∧ hRd zJ j ≤ 10000 ∧ 1 ≤ hCt zJ j ∧ hCt zJ j ≤ 80) (k : Nat) (hk : k < nJ) :
    0 ≤ hsAt zF nF link zJ k ∧ hsAt zF nF link zJ k ≤ 10000 + 800 * k ∧ hRd zJ k ≤ hsAt zF nF link zJ k ∧ hsEnd zF nF link zJ (k + 1) = hsAt zF nF link zJ k + hCt zJ k * 10 := by
  have ih := hsEnd_bd link h hJ k (by omega)
  have hj := hJ k (by omega)
  have := mxI_bd (hRd zJ k) (hsEnd zF nF link zJ k)
  have := stF_bd h link (hCt zJ k * 10) (mxI (hRd zJ k) (hsEnd zF nF link zJ k)) nF (Nat.le_refl _)
  refine ⟨?_, ?_, ?_, rfl⟩ <;> unfold hsAt hsOf <;> omega
/-- the starts of the first k jobs -/
def hsL (zF : List Int) (nF : Nat) (link : Int) (zJ : List Int) (k : Nat) : List Int := (List.range k).map (hsAt zF nF link zJ)
theorem hsL_length (zF : List Int) (nF : Nat) (link : Int) (zJ : List Int) (k : Nat) : (hsL zF nF link zJ k).length = k := by simp [hsL]
theorem hsL_getD (zF : List Int) (nF : Nat) (link : Int) (zJ : List Int) {k i : Nat} (h : i < k) : (hsL zF nF link zJ k).getD i 0 = hsAt zF nF link zJ i := by
  simp [hsL, List.getD_eq_getElem?_getD, h]
theorem hsL_succ (zF : List Int) (nF : Nat) (link : Int) (zJ : List Int) (k : Nat) : hsL zF nF link zJ (k + 1) = hsL zF nF link zJ k ++ [hsAt zF nF link zJ k] := by simp [hsL, List.range_succ]
/-- the arrivals of the first k jobs, d a link's delay -/
def haAt (zF : List Int) (nF : Nat) (link : Int) (zJ : List Int) (d : Int) (k : Nat) : Int := hsAt zF nF link zJ k + (hCt zJ k * 10 + d)
def haL (zF : List Int) (nF : Nat) (link : Int) (zJ : List Int) (d : Int) (k : Nat) : List Int := (List.range k).map (haAt zF nF link zJ d)
/-- how many of the first k jobs are held in second t -/
def heldN (zJ S : List Int) (t : Int) : Nat → Nat
  | 0 => 0
  | k + 1 => if hRd zJ k ≤ t ∧ t < S.getD k 0 then heldN zJ S t k + 1 else heldN zJ S t k
theorem heldN_le (zJ S : List Int) (t : Int) : ∀ k, heldN zJ S t k ≤ k
  | 0 => Nat.le_refl _
  | k + 1 => by
    have := heldN_le zJ S t k
    rw [heldN]
    split <;> omega
/-- the first second in which most jobs are held, and their number, of the first k jobs -/
def mostH (zJ S : List Int) (n : Nat) : Nat → Int × Int
  | 0 => (0, 0)
  | k + 1 => if (mostH zJ S n k).2 < heldN zJ S (hRd zJ k) n then (hRd zJ k, heldN zJ S (hRd zJ k) n) else mostH zJ S n k
theorem mostH_bd (zJ S : List Int) (n : Nat) : ∀ k, 0 ≤ (mostH zJ S n k).2 ∧ (mostH zJ S n k).2 ≤ n
  | 0 => by simp [mostH]
  | k + 1 => by
    have ih := mostH_bd zJ S n k
    have := heldN_le zJ S (hRd zJ k) n
    rw [mostH]
    split
    · simp; omega
    · exact ih
def waitS (zJ S : List Int) : Nat → Int
  | 0 => 0
  | k + 1 => waitS zJ S k + (S.getD k 0 - hRd zJ k)
theorem waitS_bd {zJ S : List Int} {n : Nat} (h1 : ∀ j, j < n → 0 ≤ hRd zJ j ∧ hRd zJ j ≤ 10000) (h2 : ∀ j, j < n → 0 ≤ S.getD j 0 ∧ S.getD j 0 ≤ 30000) : ∀ k, k ≤ n → -10000 * (k : Int) ≤ waitS zJ S k ∧ waitS zJ S k ≤ 30000 * (k : Int)
  | 0, _ => by simp [waitS]
  | k + 1, hk => by
    have ih := waitS_bd h1 h2 k (by omega)
    have := h1 k (by omega)
    have := h2 k (by omega)
    rw [waitS]
    omega


theorem wf_i64' {z : Int} (h : (Lit.int .i64 z).wf = true) : -9223372036854775808 ≤ z ∧ z ≤ 9223372036854775807 := wf_bd h

set_option maxRecDepth 100000 in
set_option maxHeartbeats 800000 in
theorem isFog_any (aT aL : Option Addr) (nT cT nL cL : Nat) (l f t : Int) (w : World) (hn : nL ≤ maxLen) :
    Calls Try.prog 63 #[.agg #[.slice aT nT cT, .slice aL nL cL], .agg #[.int .i64 l, .int .i64 f, .int .i64 t]] w fun e w' => e = .returned (.bool (fgB nL l f t)) ∧ Ext w w' := by
  unfold maxLen at hn
  cases hA : inR l 0 ((nL : Int) - 1) with
  | false =>
    have E := hid (show fgB nL l f t = false by unfold fgB; rw [hA]; rfl)
    have HA := hid hA
    clear hA
    go_enter Try.func63, Try.ntmps63
    go_wp2_with (go_at_call 27; refine (within_any _ _ _ _).mono ?_; rw [HA.out]; rintro e w' ⟨rfl, rfl⟩)
    go_ret
    exact ⟨ret_bool E.out.symm, (by repeat (first | exact Ext.refl _ | assumption | refine Ext.alloc ?_ _ | refine Ext.drew ?_ | refine Ext.drewN ?_ _ | refine Ext.setCell ?_ (by first | exact Nat.le_refl _ | (simp; done) | (dsimp only; omega) | (simp only [World.size_alloc, World.size_setCell]; omega)) _ | refine Ext.trans ?_ (by assumption)))⟩
  | true =>
    have E := hid (show fgB nL l f t = (decide (0 ≤ f) && (decide (f < t) && decide (t ≤ 10000))) by unfold fgB; rw [hA]; rfl)
    have HA := hid hA
    clear hA
    rw [E.out]
    go_enter Try.func63, Try.ntmps63
    go_wp2_with (go_at_call 27; refine (within_any _ _ _ _).mono ?_; rw [HA.out]; rintro e w' ⟨rfl, rfl⟩)
    all_goals (go_ret; refine ⟨ret_bool ?_, (by repeat (first | exact Ext.refl _ | assumption | refine Ext.alloc ?_ _ | refine Ext.drew ?_ | refine Ext.drewN ?_ _ | refine Ext.setCell ?_ (by first | exact Nat.le_refl _ | (simp; done) | (dsimp only; omega) | (simp only [World.size_alloc, World.size_setCell]; omega)) _ | refine Ext.trans ?_ (by assumption)))⟩)
    all_goals (simp [*] <;> try omega)

set_option maxRecDepth 100000 in
set_option maxHeartbeats 800000 in
theorem fgFog_any (aT aL : Option Addr) (nT cT nL cL : Nat) (l f t : Int) (w : World) (hn : nL ≤ maxLen) :
    Calls Try.prog 67 #[.agg #[.slice aT nT cT, .slice aL nL cL], .agg #[.int .i64 l, .int .i64 f, .int .i64 t]] w fun e w' => e = .returned (.bool (fgB nL l f t)) ∧ Ext w w' := by
  unfold maxLen at hn
  cases hA : inR l 0 ((nL : Int) - 1) with
  | false =>
    have E := hid (show fgB nL l f t = false by unfold fgB; rw [hA]; rfl)
    have HA := hid hA
    clear hA
    go_enter Try.func67, Try.ntmps67
    go_wp2_with (go_at_call 41; refine (l1In_any _ _ _ _).mono ?_; rw [HA.out]; rintro e w' ⟨rfl, rfl⟩)
    go_ret
    exact ⟨ret_bool E.out.symm, (by repeat (first | exact Ext.refl _ | assumption | refine Ext.alloc ?_ _ | refine Ext.drew ?_ | refine Ext.drewN ?_ _ | refine Ext.setCell ?_ (by first | exact Nat.le_refl _ | (simp; done) | (dsimp only; omega) | (simp only [World.size_alloc, World.size_setCell]; omega)) _ | refine Ext.trans ?_ (by assumption)))⟩
  | true =>
    have HA := hid hA
    cases hB : inR f 0 9999 with
    | false =>
      have E := hid (show fgB nL l f t = false by rw [← Bool.not_eq_true, fgB_iff]; have := inR_not.1 hB; omega)
      have HB := hid hB
      clear hA hB
      go_enter Try.func67, Try.ntmps67
      go_wp2_with (go_at_call 41; refine (l1In_any _ _ _ _).mono ?_; (first | rw [HA.out] | rw [HB.out]); rintro e w' ⟨rfl, rfl⟩)
      go_ret
      exact ⟨ret_bool E.out.symm, (by repeat (first | exact Ext.refl _ | assumption | refine Ext.alloc ?_ _ | refine Ext.drew ?_ | refine Ext.drewN ?_ _ | refine Ext.setCell ?_ (by first | exact Nat.le_refl _ | (simp; done) | (dsimp only; omega) | (simp only [World.size_alloc, World.size_setCell]; omega)) _ | refine Ext.trans ?_ (by assumption)))⟩
    | true =>
      have HB := hid hB
      obtain ⟨b1, b2⟩ := inR_iff.1 hB
      have E := hid (show fgB nL l f t = inR t (f + 1) 10000 by rw [Bool.eq_iff_iff, fgB_iff, inR_iff]; have := inR_iff.1 hA; omega)
      rw [E.out]
      clear hA hB
      go_enter Try.func67, Try.ntmps67
      go_wp2_with (go_at_call 41; refine (l1In_any _ _ _ _).mono ?_; (first | rw [HA.out] | rw [HB.out] | skip); rintro e w' ⟨rfl, rfl⟩)
      go_ret
      exact ⟨rfl, (by repeat (first | exact Ext.refl _ | assumption | refine Ext.alloc ?_ _ | refine Ext.drew ?_ | refine Ext.drewN ?_ _ | refine Ext.setCell ?_ (by first | exact Nat.le_refl _ | (simp; done) | (dsimp only; omega) | (simp only [World.size_alloc, World.size_setCell]; omega)) _ | refine Ext.trans ?_ (by assumption)))⟩

set_option maxRecDepth 100000 in
set_option maxHeartbeats 800000 in
theorem neBefore_any (a1 b1 d1 a2 b2 d2 : Int) (w : World) :
    Calls Try.prog 66 #[.agg #[.int .i64 a1, .int .i64 b1, .int .i64 d1], .agg #[.int .i64 a2, .int .i64 b2, .int .i64 d2]] w fun e w' => e = .returned (.bool (befL a1 b1 a2 b2)) ∧ Ext w w' := by
  unfold befL
  by_cases h1 : a1 < a2
  · have h1b : decide (a1 < a2) = true := by simpa using h1
    go_enter Try.func66, Try.ntmps66
    go_wp2_with (fail)
    go_ret
    exact ⟨ret_bool (by first | rfl | simp [h1]), (by repeat (first | exact Ext.refl _ | assumption | refine Ext.alloc ?_ _ | refine Ext.drew ?_ | refine Ext.drewN ?_ _ | refine Ext.setCell ?_ (by first | exact Nat.le_refl _ | (simp; done) | (dsimp only; omega) | (simp only [World.size_alloc, World.size_setCell]; omega)) _ | refine Ext.trans ?_ (by assumption)))⟩
  · have h1b : decide (a1 < a2) = false := by simpa using h1
    by_cases h2 : a1 = a2
    · have h2b : (a1 == a2) = true := by simpa using h2
      have H2 := hid h2
      clear h2
      go_enter Try.func66, Try.ntmps66
      go_wp2_with (fail)
      all_goals (go_ret; refine ⟨ret_bool ?_, (by repeat (first | exact Ext.refl _ | assumption | refine Ext.alloc ?_ _ | refine Ext.drew ?_ | refine Ext.drewN ?_ _ | refine Ext.setCell ?_ (by first | exact Nat.le_refl _ | (simp; done) | (dsimp only; omega) | (simp only [World.size_alloc, World.size_setCell]; omega)) _ | refine Ext.trans ?_ (by assumption)))⟩)
      all_goals first | rfl | (rw [h1b, h2b]; simp [*])
    · have h2b : (a1 == a2) = false := by simpa using h2
      go_enter Try.func66, Try.ntmps66
      go_wp2_with (fail)
      go_ret
      exact ⟨ret_bool (by first | rfl | (rw [h1b, h2b]; rfl)), (by repeat (first | exact Ext.refl _ | assumption | refine Ext.alloc ?_ _ | refine Ext.drew ?_ | refine Ext.drewN ?_ _ | refine Ext.setCell ?_ (by first | exact Nat.le_refl _ | (simp; done) | (dsimp only; omega) | (simp only [World.size_alloc, World.size_setCell]; omega)) _ | refine Ext.trans ?_ (by assumption)))⟩

end Go.Proofs.Ytjmbhlhkjjinbaa