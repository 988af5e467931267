/- The chapter of held messages: the greatest count of a single job that arrives in time. No condition. -/
import Derived.Test.YtjmbhlhkjjinbaaHldI
namespace Go.Proofs.Ytjmbhlhkjjinbaa
open Go.RowKit
set_option linter.unusedSimpArgs false
set_option linter.unusedVariables false

theorem ask_swap3 (a b c d : Bool) : ((a && (b && c)) && d) = ((a && c) && (b && d)) := by cases a <;> cases b <;> cases c <;> rfl
def lcP (zF : List Int) (nF : Nat) (link D t e : Int) (c : Nat) : Bool := decide (stF zF link ((c : Int) * 10) nF t + ((c : Int) * 10 + D) ≤ e)
/-- the greatest of 1..k of which P says yes; 0 if there is none -/
def lcF (P : Nat → Bool) : Nat → Nat
  | 0 => 0
  | k + 1 => if P (k + 1) = true then k + 1 else lcF P k
theorem lcF_le (P : Nat → Bool) : ∀ k, lcF P k ≤ k
  | 0 => Nat.le_refl _
  | k + 1 => by
    have := lcF_le P k
    rw [lcF]
    split <;> omega
def lcC (nT : Nat) (zT : List Int) (nL : Nat) (zL zF : List Int) (nF : Nat) (link t e : Int) : Bool := askH nT zT nL zL zF nF link && (inR t 0 10000 && inR e 0 10000)
def lcN (zL zF : List Int) (nF : Nat) (link t e : Int) : Nat := lcF (lcP zF nF link (f3c zL link.toNat) t e) 80
def lcV (nT : Nat) (zT : List Int) (nL : Nat) (zL zF : List Int) (nF : Nat) (link t e : Int) : Int := if lcC nT zT nL zL zF nF link t e = true then (lcN zL zF nF link t e : Int) else 0
def lcO (nT : Nat) (zT : List Int) (nL : Nat) (zL zF : List Int) (nF : Nat) (link t e : Int) : Bool := lcC nT zT nL zL zF nF link t e && decide (0 < lcN zL zF nF link t e)
theorem lcC_iff {nT nL nF : Nat} {zT zL zF : List Int} {link t e : Int} (h : lcC nT zT nL zL zF nF link t e = true) : okNet nT zT nL zL = true ∧ okFg nL zF nF = true ∧ (0 ≤ link ∧ link < nL) ∧ (0 ≤ t ∧ t ≤ 10000) ∧ 0 ≤ e ∧ e ≤ 10000 := by
  unfold lcC at h
  rw [Bool.and_eq_true, Bool.and_eq_true, inR_iff, inR_iff] at h
  have := askH_iff h.1
  exact ⟨this.1, this.2.1, ⟨this.2.2.1, this.2.2.2⟩, h.2.1, h.2.2⟩
theorem job_okHs {t c : Int} (h0 : 0 ≤ t) (h1 : t ≤ 10000) (h2 : 1 ≤ c) (h3 : c ≤ 80) : okHs [t, c] 1 = true := by
  unfold okHs
  rw [Bool.and_eq_true]
  refine ⟨rfl, allB_t fun j hj => ?_⟩
  obtain rfl : j = 0 := by omega
  unfold hjAt hjB
  rw [show hRd [t, c] 0 = t from rfl, show hCt [t, c] 0 = c from rfl, inR_iff.2 ⟨h0, h1⟩, inR_iff.2 ⟨h2, h3⟩]
  rfl
theorem job_hsL {zF : List Int} {nF : Nat} {link t c : Int} (h0 : 0 ≤ t) : hsL zF nF link [t, c] 1 = [stF zF link (c * 10) nF t] := by
  have : mxI t 0 = t := by unfold mxI; split <;> omega
  show [hsAt zF nF link [t, c] 0] = _
  unfold hsAt hsOf
  rw [show hRd [t, c] 0 = t from rfl, show hCt [t, c] 0 = c from rfl, show hsEnd zF nF link [t, c] 0 = 0 from rfl, this]
theorem lit_job (w : World) (a b : Int) (t : TypeId) (ha : (Lit.int .i64 a).wf = true) (hb : (Lit.int .i64 b).wf = true) : IntRow .i64 2 (w.alloc (.cells #[.int .i64 a, .int .i64 b] t)) (.slice (some ⟨w.heap.size, 0, none⟩) 1 1) 1 [a, b] := by
  refine ⟨rfl, by unfold maxLen; omega, fun z hz => ?_, some ⟨w.heap.size, 0, none⟩, 1, rfl, Nat.le_refl _, by unfold maxLen; omega, .inr ⟨w.heap.size, 0, rfl, by simp, fun j hj => ?_⟩⟩
  · simp only [List.mem_cons, List.not_mem_nil, or_false] at hz
    rcases hz with rfl | rfl
    · exact ha
    · exact hb
  · match j, hj with
    | 0, _ => simp [go_sem]
    | 1, _ => simp [go_sem]
    | j + 2, hj => omega


set_option maxRecDepth 100000 in
set_option maxHeartbeats 4000000 in
theorem iLastCount_any (v : Value) (nT : Nat) (zT : List Int) (nL : Nat) (zL : List Int) (u : Value) (nF : Nat) (zF : List Int) (link t e : Int) (w : World) (hN : NetRow w v nT zT nL zL) (hF : IntRow .i64 3 w u nF zF) :
    Calls Try.prog 17 #[v, u, .int .i64 link, .int .i64 t, .int .i64 e] w fun e' w' => e' = .returned (.tuple #[.int .i64 (lcV nT zT nL zL zF nF link t e), .bool (lcO nT zT nL zL zF nF link t e)]) ∧ Ext w w' := by
  have hN0 := hN
  have hF0 := hF
  obtain ⟨vT, vL, rfl, hT, hL⟩ := hN
  obtain ⟨_, hmT, _, aT, cT, rfl, _, _, _⟩ := hT
  have hLI := hL
  obtain ⟨_, hmL, _, aL, cL, rfl, _, _, _⟩ := hL
  obtain ⟨_, _, _, aF, cF, rfl, _, _, _⟩ := hF
  have hnL : nL ≤ 9223372036854775807 := by unfold maxLen at hmL; omega
  clear hmT hmL
  cases h0 : (okNet nT zT nL zL && inR link 0 ((nL : Int) - 1)) with
  | false =>
    have H0 := hid h0
    have HC := hid (show lcC nT zT nL zL zF nF link t e = false by unfold lcC askH; rw [ask_swap3]; simp [H0.out])
    clear h0
    rw [show lcV nT zT nL zL zF nF link t e = 0 by unfold lcV; rw [HC.out]; rfl, show lcO nT zT nL zL zF nF link t e = false by unfold lcO; rw [HC.out]; rfl]
    go_enter Try.func17, Try.ntmps17
    have D0 := fun (W : World) (hW : Ext w W) => isLink_any _ nT zT nL zL link W (hN0.ext hW)
    rw [H0.out] at D0
    go_wp2_with (fail)
    refine (D0 _ (by repeat (first | exact Ext.refl _ | assumption | refine Ext.alloc ?_ _ | refine Ext.drew ?_ | refine Ext.drewN ?_ _ | refine Ext.setCell ?_ (by first | exact Nat.le_refl _ | (simp; done) | (dsimp only; omega) | (simp only [World.size_alloc, World.size_setCell]; omega)) _ | refine Ext.trans ?_ (by assumption)))).mono ?_
    rintro e w1 ⟨rfl, hb1⟩
    have hz1 := Ext.size hb1
    try simp only [World.size_alloc, World.size_setCell] at hz1
    obtain ⟨hc1, hf1⟩ := Ext.cells hb1
    try have hk1_0_0 := fun o => hc1 (w.heap.size) o (by (try simp only [World.size_alloc, World.size_setCell]); omega)
    try have hj1_0_0 := fun o => hf1 (w.heap.size) o (by (try simp only [World.size_alloc, World.size_setCell]); omega)
    try have hy1_0_0 : w.heap.size < w1.heap.size := by omega
    try have hk1_0_1 := fun o => hc1 (w.heap.size + 1) o (by (try simp only [World.size_alloc, World.size_setCell]); omega)
    try have hj1_0_1 := fun o => hf1 (w.heap.size + 1) o (by (try simp only [World.size_alloc, World.size_setCell]); omega)
    try have hy1_0_1 : w.heap.size + 1 < w1.heap.size := by omega
    try have hk1_0_2 := fun o => hc1 (w.heap.size + 1 + 1) o (by (try simp only [World.size_alloc, World.size_setCell]); omega)
    try have hj1_0_2 := fun o => hf1 (w.heap.size + 1 + 1) o (by (try simp only [World.size_alloc, World.size_setCell]); omega)
    try have hy1_0_2 : w.heap.size + 1 + 1 < w1.heap.size := by omega
    clear hc1 hf1
    clear D0
    go_wp2_with (fail)
    go_ret2
    exact ⟨rfl, (by repeat (first | exact Ext.refl _ | assumption | refine Ext.alloc ?_ _ | refine Ext.drew ?_ | refine Ext.drewN ?_ _ | refine Ext.setCell ?_ (by first | exact Nat.le_refl _ | (simp; done) | (dsimp only; omega) | (simp only [World.size_alloc, World.size_setCell]; omega)) _ | refine Ext.trans ?_ (by assumption)))⟩
  | true =>
    have H0 := hid h0
    clear h0
    cases h1 : okFg nL zF nF with
    | false =>
      have H1 := hid h1
      have HC := hid (show lcC nT zT nL zL zF nF link t e = false by unfold lcC askH; rw [ask_swap3]; simp [H0.out, H1.out])
      clear h1
      rw [show lcV nT zT nL zL zF nF link t e = 0 by unfold lcV; rw [HC.out]; rfl, show lcO nT zT nL zL zF nF link t e = false by unfold lcO; rw [HC.out]; rfl]
      go_enter Try.func17, Try.ntmps17
      have D0 := fun (W : World) (hW : Ext w W) => isLink_any _ nT zT nL zL link W (hN0.ext hW)
      rw [H0.out] at D0
      go_wp2_with (fail)
      refine (D0 _ (by repeat (first | exact Ext.refl _ | assumption | refine Ext.alloc ?_ _ | refine Ext.drew ?_ | refine Ext.drewN ?_ _ | refine Ext.setCell ?_ (by first | exact Nat.le_refl _ | (simp; done) | (dsimp only; omega) | (simp only [World.size_alloc, World.size_setCell]; omega)) _ | refine Ext.trans ?_ (by assumption)))).mono ?_
      rintro e w1 ⟨rfl, hb1⟩
      have hz1 := Ext.size hb1
      try simp only [World.size_alloc, World.size_setCell] at hz1
      obtain ⟨hc1, hf1⟩ := Ext.cells hb1
      try have hk1_0_0 := fun o => hc1 (w.heap.size) o (by (try simp only [World.size_alloc, World.size_setCell]); omega)
      try have hj1_0_0 := fun o => hf1 (w.heap.size) o (by (try simp only [World.size_alloc, World.size_setCell]); omega)
      try have hy1_0_0 : w.heap.size < w1.heap.size := by omega
      try have hk1_0_1 := fun o => hc1 (w.heap.size + 1) o (by (try simp only [World.size_alloc, World.size_setCell]); omega)
      try have hj1_0_1 := fun o => hf1 (w.heap.size + 1) o (by (try simp only [World.size_alloc, World.size_setCell]); omega)
      try have hy1_0_1 : w.heap.size + 1 < w1.heap.size := by omega
      try have hk1_0_2 := fun o => hc1 (w.heap.size + 1 + 1) o (by (try simp only [World.size_alloc, World.size_setCell]); omega)
      try have hj1_0_2 := fun o => hf1 (w.heap.size + 1 + 1) o (by (try simp only [World.size_alloc, World.size_setCell]); omega)
      try have hy1_0_2 : w.heap.size + 1 + 1 < w1.heap.size := by omega
      clear hc1 hf1
      clear D0
      have D1 := fun (W : World) (hW : Ext w W) => areFogs_any _ nT zT nL zL _ nF zF W (hN0.ext hW) (hF0.ext hW)
      rw [H1.out] at D1
      go_wp2_with (fail)
      refine (D1 _ (by repeat (first | exact Ext.refl _ | assumption | refine Ext.alloc ?_ _ | refine Ext.drew ?_ | refine Ext.drewN ?_ _ | refine Ext.setCell ?_ (by first | exact Nat.le_refl _ | (simp; done) | (dsimp only; omega) | (simp only [World.size_alloc, World.size_setCell]; omega)) _ | refine Ext.trans ?_ (by assumption)))).mono ?_
      rintro e w2 ⟨rfl, hb2⟩
      have hz2 := Ext.size hb2
      try simp only [World.size_alloc, World.size_setCell] at hz2
      obtain ⟨hc2, hf2⟩ := Ext.cells hb2
      try have hk2_0_0 := fun o => hc2 (w.heap.size) o (by (try simp only [World.size_alloc, World.size_setCell]); omega)
      try have hj2_0_0 := fun o => hf2 (w.heap.size) o (by (try simp only [World.size_alloc, World.size_setCell]); omega)
      try have hy2_0_0 : w.heap.size < w2.heap.size := by omega
      try have hk2_0_1 := fun o => hc2 (w.heap.size + 1) o (by (try simp only [World.size_alloc, World.size_setCell]); omega)
      try have hj2_0_1 := fun o => hf2 (w.heap.size + 1) o (by (try simp only [World.size_alloc, World.size_setCell]); omega)
      try have hy2_0_1 : w.heap.size + 1 < w2.heap.size := by omega
      try have hk2_0_2 := fun o => hc2 (w.heap.size + 1 + 1) o (by (try simp only [World.size_alloc, World.size_setCell]); omega)
      try have hj2_0_2 := fun o => hf2 (w.heap.size + 1 + 1) o (by (try simp only [World.size_alloc, World.size_setCell]); omega)
      try have hy2_0_2 : w.heap.size + 1 + 1 < w2.heap.size := by omega
      try have hk2_1_0 := fun o => hc2 (w1.heap.size) o (by (try simp only [World.size_alloc, World.size_setCell]); omega)
      try have hj2_1_0 := fun o => hf2 (w1.heap.size) o (by (try simp only [World.size_alloc, World.size_setCell]); omega)
      try have hy2_1_0 : w1.heap.size < w2.heap.size := by omega
      try have hk2_1_1 := fun o => hc2 (w1.heap.size + 1) o (by (try simp only [World.size_alloc, World.size_setCell]); omega)
      try have hj2_1_1 := fun o => hf2 (w1.heap.size + 1) o (by (try simp only [World.size_alloc, World.size_setCell]); omega)
      try have hy2_1_1 : w1.heap.size + 1 < w2.heap.size := by omega
      clear hc2 hf2
      clear D1
      go_wp2_with (fail)
      go_ret2
      exact ⟨rfl, (by repeat (first | exact Ext.refl _ | assumption | refine Ext.alloc ?_ _ | refine Ext.drew ?_ | refine Ext.drewN ?_ _ | refine Ext.setCell ?_ (by first | exact Nat.le_refl _ | (simp; done) | (dsimp only; omega) | (simp only [World.size_alloc, World.size_setCell]; omega)) _ | refine Ext.trans ?_ (by assumption)))⟩
    | true =>
      have H1 := hid h1
      clear h1
      cases h2 : inR t 0 10000 with
      | false =>
        have H2 := hid h2
        have HC := hid (show lcC nT zT nL zL zF nF link t e = false by unfold lcC askH; rw [ask_swap3]; simp [H0.out, H1.out, H2.out])
        clear h2
        rw [show lcV nT zT nL zL zF nF link t e = 0 by unfold lcV; rw [HC.out]; rfl, show lcO nT zT nL zL zF nF link t e = false by unfold lcO; rw [HC.out]; rfl]
        go_enter Try.func17, Try.ntmps17
        have D0 := fun (W : World) (hW : Ext w W) => isLink_any _ nT zT nL zL link W (hN0.ext hW)
        rw [H0.out] at D0
        go_wp2_with (fail)
        refine (D0 _ (by repeat (first | exact Ext.refl _ | assumption | refine Ext.alloc ?_ _ | refine Ext.drew ?_ | refine Ext.drewN ?_ _ | refine Ext.setCell ?_ (by first | exact Nat.le_refl _ | (simp; done) | (dsimp only; omega) | (simp only [World.size_alloc, World.size_setCell]; omega)) _ | refine Ext.trans ?_ (by assumption)))).mono ?_
        rintro e w1 ⟨rfl, hb1⟩
        have hz1 := Ext.size hb1
        try simp only [World.size_alloc, World.size_setCell] at hz1
        obtain ⟨hc1, hf1⟩ := Ext.cells hb1
        try have hk1_0_0 := fun o => hc1 (w.heap.size) o (by (try simp only [World.size_alloc, World.size_setCell]); omega)
        try have hj1_0_0 := fun o => hf1 (w.heap.size) o (by (try simp only [World.size_alloc, World.size_setCell]); omega)
        try have hy1_0_0 : w.heap.size < w1.heap.size := by omega
        try have hk1_0_1 := fun o => hc1 (w.heap.size + 1) o (by (try simp only [World.size_alloc, World.size_setCell]); omega)
        try have hj1_0_1 := fun o => hf1 (w.heap.size + 1) o (by (try simp only [World.size_alloc, World.size_setCell]); omega)
        try have hy1_0_1 : w.heap.size + 1 < w1.heap.size := by omega
        try have hk1_0_2 := fun o => hc1 (w.heap.size + 1 + 1) o (by (try simp only [World.size_alloc, World.size_setCell]); omega)
        try have hj1_0_2 := fun o => hf1 (w.heap.size + 1 + 1) o (by (try simp only [World.size_alloc, World.size_setCell]); omega)
        try have hy1_0_2 : w.heap.size + 1 + 1 < w1.heap.size := by omega
        clear hc1 hf1
        clear D0
        have D1 := fun (W : World) (hW : Ext w W) => areFogs_any _ nT zT nL zL _ nF zF W (hN0.ext hW) (hF0.ext hW)
        rw [H1.out] at D1
        go_wp2_with (fail)
        refine (D1 _ (by repeat (first | exact Ext.refl _ | assumption | refine Ext.alloc ?_ _ | refine Ext.drew ?_ | refine Ext.drewN ?_ _ | refine Ext.setCell ?_ (by first | exact Nat.le_refl _ | (simp; done) | (dsimp only; omega) | (simp only [World.size_alloc, World.size_setCell]; omega)) _ | refine Ext.trans ?_ (by assumption)))).mono ?_
        rintro e w2 ⟨rfl, hb2⟩
        have hz2 := Ext.size hb2
        try simp only [World.size_alloc, World.size_setCell] at hz2
        obtain ⟨hc2, hf2⟩ := Ext.cells hb2
        try have hk2_0_0 := fun o => hc2 (w.heap.size) o (by (try simp only [World.size_alloc, World.size_setCell]); omega)
        try have hj2_0_0 := fun o => hf2 (w.heap.size) o (by (try simp only [World.size_alloc, World.size_setCell]); omega)
        try have hy2_0_0 : w.heap.size < w2.heap.size := by omega
        try have hk2_0_1 := fun o => hc2 (w.heap.size + 1) o (by (try simp only [World.size_alloc, World.size_setCell]); omega)
        try have hj2_0_1 := fun o => hf2 (w.heap.size + 1) o (by (try simp only [World.size_alloc, World.size_setCell]); omega)
        try have hy2_0_1 : w.heap.size + 1 < w2.heap.size := by omega
        try have hk2_0_2 := fun o => hc2 (w.heap.size + 1 + 1) o (by (try simp only [World.size_alloc, World.size_setCell]); omega)
        try have hj2_0_2 := fun o => hf2 (w.heap.size + 1 + 1) o (by (try simp only [World.size_alloc, World.size_setCell]); omega)
        try have hy2_0_2 : w.heap.size + 1 + 1 < w2.heap.size := by omega
        try have hk2_1_0 := fun o => hc2 (w1.heap.size) o (by (try simp only [World.size_alloc, World.size_setCell]); omega)
        try have hj2_1_0 := fun o => hf2 (w1.heap.size) o (by (try simp only [World.size_alloc, World.size_setCell]); omega)
        try have hy2_1_0 : w1.heap.size < w2.heap.size := by omega
        try have hk2_1_1 := fun o => hc2 (w1.heap.size + 1) o (by (try simp only [World.size_alloc, World.size_setCell]); omega)
        try have hj2_1_1 := fun o => hf2 (w1.heap.size + 1) o (by (try simp only [World.size_alloc, World.size_setCell]); omega)
        try have hy2_1_1 : w1.heap.size + 1 < w2.heap.size := by omega
        clear hc2 hf2
        clear D1
        go_wp2_with (fail)
        refine (within_any t 0 10000 _).mono ?_
        rw [H2.out]
        rintro e' w' ⟨rfl, rfl⟩
        go_wp2_with (fail)
        go_ret2
        exact ⟨rfl, (by repeat (first | exact Ext.refl _ | assumption | refine Ext.alloc ?_ _ | refine Ext.drew ?_ | refine Ext.drewN ?_ _ | refine Ext.setCell ?_ (by first | exact Nat.le_refl _ | (simp; done) | (dsimp only; omega) | (simp only [World.size_alloc, World.size_setCell]; omega)) _ | refine Ext.trans ?_ (by assumption)))⟩
      | true =>
        have H2 := hid h2
        clear h2
        cases h3 : inR e 0 10000 with
        | false =>
          have H3 := hid h3
          have HC := hid (show lcC nT zT nL zL zF nF link t e = false by unfold lcC askH; rw [ask_swap3]; simp [H0.out, H1.out, H2.out, H3.out])
          clear h3
          rw [show lcV nT zT nL zL zF nF link t e = 0 by unfold lcV; rw [HC.out]; rfl, show lcO nT zT nL zL zF nF link t e = false by unfold lcO; rw [HC.out]; rfl]
          go_enter Try.func17, Try.ntmps17
          have D0 := fun (W : World) (hW : Ext w W) => isLink_any _ nT zT nL zL link W (hN0.ext hW)
          rw [H0.out] at D0
          go_wp2_with (fail)
          refine (D0 _ (by repeat (first | exact Ext.refl _ | assumption | refine Ext.alloc ?_ _ | refine Ext.drew ?_ | refine Ext.drewN ?_ _ | refine Ext.setCell ?_ (by first | exact Nat.le_refl _ | (simp; done) | (dsimp only; omega) | (simp only [World.size_alloc, World.size_setCell]; omega)) _ | refine Ext.trans ?_ (by assumption)))).mono ?_
          rintro e w1 ⟨rfl, hb1⟩
          have hz1 := Ext.size hb1
          try simp only [World.size_alloc, World.size_setCell] at hz1
          obtain ⟨hc1, hf1⟩ := Ext.cells hb1
          try have hk1_0_0 := fun o => hc1 (w.heap.size) o (by (try simp only [World.size_alloc, World.size_setCell]); omega)
          try have hj1_0_0 := fun o => hf1 (w.heap.size) o (by (try simp only [World.size_alloc, World.size_setCell]); omega)
          try have hy1_0_0 : w.heap.size < w1.heap.size := by omega
          try have hk1_0_1 := fun o => hc1 (w.heap.size + 1) o (by (try simp only [World.size_alloc, World.size_setCell]); omega)
          try have hj1_0_1 := fun o => hf1 (w.heap.size + 1) o (by (try simp only [World.size_alloc, World.size_setCell]); omega)
          try have hy1_0_1 : w.heap.size + 1 < w1.heap.size := by omega
          try have hk1_0_2 := fun o => hc1 (w.heap.size + 1 + 1) o (by (try simp only [World.size_alloc, World.size_setCell]); omega)
          try have hj1_0_2 := fun o => hf1 (w.heap.size + 1 + 1) o (by (try simp only [World.size_alloc, World.size_setCell]); omega)
          try have hy1_0_2 : w.heap.size + 1 + 1 < w1.heap.size := by omega
          clear hc1 hf1
          clear D0
          have D1 := fun (W : World) (hW : Ext w W) => areFogs_any _ nT zT nL zL _ nF zF W (hN0.ext hW) (hF0.ext hW)
          rw [H1.out] at D1
          go_wp2_with (fail)
          refine (D1 _ (by repeat (first | exact Ext.refl _ | assumption | refine Ext.alloc ?_ _ | refine Ext.drew ?_ | refine Ext.drewN ?_ _ | refine Ext.setCell ?_ (by first | exact Nat.le_refl _ | (simp; done) | (dsimp only; omega) | (simp only [World.size_alloc, World.size_setCell]; omega)) _ | refine Ext.trans ?_ (by assumption)))).mono ?_
          rintro e w2 ⟨rfl, hb2⟩
          have hz2 := Ext.size hb2
          try simp only [World.size_alloc, World.size_setCell] at hz2
          obtain ⟨hc2, hf2⟩ := Ext.cells hb2
          try have hk2_0_0 := fun o => hc2 (w.heap.size) o (by (try simp only [World.size_alloc, World.size_setCell]); omega)
          try have hj2_0_0 := fun o => hf2 (w.heap.size) o (by (try simp only [World.size_alloc, World.size_setCell]); omega)
          try have hy2_0_0 : w.heap.size < w2.heap.size := by omega
          try have hk2_0_1 := fun o => hc2 (w.heap.size + 1) o (by (try simp only [World.size_alloc, World.size_setCell]); omega)
          try have hj2_0_1 := fun o => hf2 (w.heap.size + 1) o (by (try simp only [World.size_alloc, World.size_setCell]); omega)
          try have hy2_0_1 : w.heap.size + 1 < w2.heap.size := by omega
          try have hk2_0_2 := fun o => hc2 (w.heap.size + 1 + 1) o (by (try simp only [World.size_alloc, World.size_setCell]); omega)
          try have hj2_0_2 := fun o => hf2 (w.heap.size + 1 + 1) o (by (try simp only [World.size_alloc, World.size_setCell]); omega)
          try have hy2_0_2 : w.heap.size + 1 + 1 < w2.heap.size := by omega
          try have hk2_1_0 := fun o => hc2 (w1.heap.size) o (by (try simp only [World.size_alloc, World.size_setCell]); omega)
          try have hj2_1_0 := fun o => hf2 (w1.heap.size) o (by (try simp only [World.size_alloc, World.size_setCell]); omega)
          try have hy2_1_0 : w1.heap.size < w2.heap.size := by omega
          try have hk2_1_1 := fun o => hc2 (w1.heap.size + 1) o (by (try simp only [World.size_alloc, World.size_setCell]); omega)
          try have hj2_1_1 := fun o => hf2 (w1.heap.size + 1) o (by (try simp only [World.size_alloc, World.size_setCell]); omega)
          try have hy2_1_1 : w1.heap.size + 1 < w2.heap.size := by omega
          clear hc2 hf2
          clear D1
          go_wp2_with (fail)
          refine (within_any t 0 10000 _).mono ?_
          rw [H2.out]
          rintro e' w' ⟨rfl, rfl⟩
          go_wp2_with (fail)
          refine (within_any e 0 10000 _).mono ?_
          rw [H3.out]
          rintro e' w' ⟨rfl, rfl⟩
          go_wp2_with (fail)
          go_ret2
          exact ⟨rfl, (by repeat (first | exact Ext.refl _ | assumption | refine Ext.alloc ?_ _ | refine Ext.drew ?_ | refine Ext.drewN ?_ _ | refine Ext.setCell ?_ (by first | exact Nat.le_refl _ | (simp; done) | (dsimp only; omega) | (simp only [World.size_alloc, World.size_setCell]; omega)) _ | refine Ext.trans ?_ (by assumption)))⟩
        | true =>
          have H3 := hid h3
          clear h3
          have HC := hid (show lcC nT zT nL zL zF nF link t e = true by unfold lcC askH; rw [ask_swap3]; simp [H0.out, H1.out, H2.out, H3.out])
          rw [show lcV nT zT nL zL zF nF link t e = (lcN zL zF nF link t e : Int) by unfold lcV; rw [HC.out]; rfl, show lcO nT zT nL zL zF nF link t e = decide (0 < lcN zL zF nF link t e) by unfold lcO; rw [HC.out]; rfl]
          obtain ⟨hNET, hOK, ⟨hl0, hl1⟩, ⟨ht0, ht1⟩, he0, he1⟩ := lcC_iff HC.out
          obtain ⟨D, hD⟩ : ∃ D, D = f3c zL link.toNat := ⟨_, rfl⟩
          have hdb := (okNet_iff hNET).2.2 link.toNat (by omega)
          rw [← hD] at hdb
          obtain ⟨_, _, _, hd1, hd2⟩ := hdb
          have HD := hid hD
          have HOK := hid hOK
          obtain ⟨Pp, hP⟩ : ∃ P, P = lcP zF nF link D t e := ⟨_, rfl⟩
          have HLN := hid (show lcN zL zF nF link t e = lcF Pp 80 by unfold lcN; rw [← hD, ← hP])
          have HPP := hid (fun c => show Pp c = decide (stF zF link ((c : Int) * 10) nF t + ((c : Int) * 10 + D) ≤ e) by rw [hP]; rfl)
          rw [HLN.out]
          have HLE := lcF_le Pp 80
          obtain ⟨NN, hNN⟩ : ∃ n, n = lcF Pp 80 := ⟨_, rfl⟩
          rw [← hNN] at HLE ⊢
          have HNN := hid hNN
          clear hNET hOK hD hP hNN
          go_enter Try.func17, Try.ntmps17
          have D0 := fun (W : World) (hW : Ext w W) => isLink_any _ nT zT nL zL link W (hN0.ext hW)
          rw [H0.out] at D0
          go_wp2_with (fail)
          refine (D0 _ (by repeat (first | exact Ext.refl _ | assumption | refine Ext.alloc ?_ _ | refine Ext.drew ?_ | refine Ext.drewN ?_ _ | refine Ext.setCell ?_ (by first | exact Nat.le_refl _ | (simp; done) | (dsimp only; omega) | (simp only [World.size_alloc, World.size_setCell]; omega)) _ | refine Ext.trans ?_ (by assumption)))).mono ?_
          rintro e w1 ⟨rfl, hb1⟩
          have hz1 := Ext.size hb1
          try simp only [World.size_alloc, World.size_setCell] at hz1
          obtain ⟨hc1, hf1⟩ := Ext.cells hb1
          try have hk1_0_0 := fun o => hc1 (w.heap.size) o (by (try simp only [World.size_alloc, World.size_setCell]); omega)
          try have hj1_0_0 := fun o => hf1 (w.heap.size) o (by (try simp only [World.size_alloc, World.size_setCell]); omega)
          try have hy1_0_0 : w.heap.size < w1.heap.size := by omega
          try have hk1_0_1 := fun o => hc1 (w.heap.size + 1) o (by (try simp only [World.size_alloc, World.size_setCell]); omega)
          try have hj1_0_1 := fun o => hf1 (w.heap.size + 1) o (by (try simp only [World.size_alloc, World.size_setCell]); omega)
          try have hy1_0_1 : w.heap.size + 1 < w1.heap.size := by omega
          try have hk1_0_2 := fun o => hc1 (w.heap.size + 1 + 1) o (by (try simp only [World.size_alloc, World.size_setCell]); omega)
          try have hj1_0_2 := fun o => hf1 (w.heap.size + 1 + 1) o (by (try simp only [World.size_alloc, World.size_setCell]); omega)
          try have hy1_0_2 : w.heap.size + 1 + 1 < w1.heap.size := by omega
          clear hc1 hf1
          clear D0
          have D1 := fun (W : World) (hW : Ext w W) => areFogs_any _ nT zT nL zL _ nF zF W (hN0.ext hW) (hF0.ext hW)
          rw [H1.out] at D1
          go_wp2_with (fail)
          refine (D1 _ (by repeat (first | exact Ext.refl _ | assumption | refine Ext.alloc ?_ _ | refine Ext.drew ?_ | refine Ext.drewN ?_ _ | refine Ext.setCell ?_ (by first | exact Nat.le_refl _ | (simp; done) | (dsimp only; omega) | (simp only [World.size_alloc, World.size_setCell]; omega)) _ | refine Ext.trans ?_ (by assumption)))).mono ?_
          rintro e w2 ⟨rfl, hb2⟩
          have hz2 := Ext.size hb2
          try simp only [World.size_alloc, World.size_setCell] at hz2
          obtain ⟨hc2, hf2⟩ := Ext.cells hb2
          try have hk2_0_0 := fun o => hc2 (w.heap.size) o (by (try simp only [World.size_alloc, World.size_setCell]); omega)
          try have hj2_0_0 := fun o => hf2 (w.heap.size) o (by (try simp only [World.size_alloc, World.size_setCell]); omega)
          try have hy2_0_0 : w.heap.size < w2.heap.size := by omega
          try have hk2_0_1 := fun o => hc2 (w.heap.size + 1) o (by (try simp only [World.size_alloc, World.size_setCell]); omega)
          try have hj2_0_1 := fun o => hf2 (w.heap.size + 1) o (by (try simp only [World.size_alloc, World.size_setCell]); omega)
          try have hy2_0_1 : w.heap.size + 1 < w2.heap.size := by omega
          try have hk2_0_2 := fun o => hc2 (w.heap.size + 1 + 1) o (by (try simp only [World.size_alloc, World.size_setCell]); omega)
          try have hj2_0_2 := fun o => hf2 (w.heap.size + 1 + 1) o (by (try simp only [World.size_alloc, World.size_setCell]); omega)
          try have hy2_0_2 : w.heap.size + 1 + 1 < w2.heap.size := by omega
          try have hk2_1_0 := fun o => hc2 (w1.heap.size) o (by (try simp only [World.size_alloc, World.size_setCell]); omega)
          try have hj2_1_0 := fun o => hf2 (w1.heap.size) o (by (try simp only [World.size_alloc, World.size_setCell]); omega)
          try have hy2_1_0 : w1.heap.size < w2.heap.size := by omega
          try have hk2_1_1 := fun o => hc2 (w1.heap.size + 1) o (by (try simp only [World.size_alloc, World.size_setCell]); omega)
          try have hj2_1_1 := fun o => hf2 (w1.heap.size + 1) o (by (try simp only [World.size_alloc, World.size_setCell]); omega)
          try have hy2_1_1 : w1.heap.size + 1 < w2.heap.size := by omega
          clear hc2 hf2
          clear D1
          go_wp2_with (fail)
          refine (within_any t 0 10000 _).mono ?_
          rw [H2.out]
          rintro e' w' ⟨rfl, rfl⟩
          go_wp2_with (fail)
          refine (within_any e 0 10000 _).mono ?_
          rw [H3.out]
          rintro e' w' ⟨rfl, rfl⟩
          have hbg : w.heap.size < w2.heap.size := by omega
          have E0 : Ext (w.alloc (.cells #[.slice aT nT cT, .slice aL nL cL] 27)) w2 := (by repeat (first | exact Ext.refl _ | assumption | refine Ext.alloc ?_ _ | refine Ext.drew ?_ | refine Ext.drewN ?_ _ | refine Ext.setCell ?_ (by first | exact Nat.le_refl _ | (simp; done) | (dsimp only; omega) | (simp only [World.size_alloc, World.size_setCell]; omega)) _ | refine Ext.trans ?_ (by assumption)))
          have NB0 := hid (show w2.cell? ⟨w.heap.size, 0, none⟩ = some (.slice aT nT cT) by rw [(Ext.cells E0).1 _ _ (by simp)]; simp [go_sem])
          have NB := hid (show w2.cell? ⟨w.heap.size, 1, none⟩ = some (.slice aL nL cL) by rw [(Ext.cells E0).1 _ _ (by simp)]; simp [go_sem])
          have EW : Ext w w2 := (by repeat (first | exact Ext.refl _ | assumption | refine Ext.alloc ?_ _ | refine Ext.drew ?_ | refine Ext.drewN ?_ _ | refine Ext.setCell ?_ (by first | exact Nat.le_refl _ | (simp; done) | (dsimp only; omega) | (simp only [World.size_alloc, World.size_setCell]; omega)) _ | refine Ext.trans ?_ (by assumption)))
          have hFb := hF0.ext EW
          have hLb := hLI.ext EW
          have hNb := hN0.ext EW
          go_wp2_with (fail)
          obtain ⟨bg, hbe⟩ : ∃ g, g = w.heap.size := ⟨_, rfl⟩
          obtain ⟨wb, hwb⟩ : ∃ W, W = w2 := ⟨_, rfl⟩
          rw [← hbe, ← hwb] at NB NB0 hbg
          rw [← hwb] at hFb hLb hNb EW
          rw [← hbe, ← hwb]
          clear E0 hb1 hb2 hz1 hz2 hbe hwb
          obtain ⟨hlL, _, _, aL', cL', he', _, _, hcellL⟩ := hLb
          cases he'
          obtain ⟨bL, oL, rfl, hbL, hcL⟩ := hcellL.resolve_left (by omega)
          have hdl : wb.cell? ⟨bL, oL + link.toNat * 3 + 2, none⟩ = some (.int .i64 D) := by
            rw [show oL + link.toNat * 3 + 2 = oL + (link.toNat * 3 + 2) by omega, hcL _ (by omega), HD.out]
            rfl
          have HDL := hid hdl
          clear hcL hcellL hdl
          have SKP := hid (fun (W : World) (hW : Ext wb W) => show W.cell? ⟨bg, 1, none⟩ = some (.slice (some ⟨bL, oL, none⟩) nL cL) ∧ W.cell? ⟨bL, oL + link.toNat * 3 + 2, none⟩ = some (.int .i64 D) from ⟨by rw [(Ext.cells hW).1 _ _ hbg]; exact NB.out, by rw [(Ext.cells hW).1 _ _ hbL]; exact HDL.out⟩)
          go_loopw [12] (fun q wr => ∃ (c : Nat), c ≤ 80 ∧ q = .int .i64 (c : Int) ∧ NN = lcF Pp c ∧ Ext wb wr)
            (fun q _ => (intOf q).toNat)
          case atStart => exact ⟨80, Nat.le_refl _, rfl, HNN.out, Ext.refl _⟩
          case round =>
            obtain ⟨c, hc80, rfl, hNc, hE⟩ := hrel
            have HNC := hid hNc
            clear hNc
            by_cases hc0 : 0 < c
            · have HJ1 := hid (job_okHs (t := t) (c := (c : Int)) (by omega) (by omega) (by omega) (by omega))
              obtain ⟨A, hA⟩ : ∃ A, A = stF zF link ((c : Int) * 10) nF t := ⟨_, rfl⟩
              have hab := stF_bd HOK.out link ((c : Int) * 10) t nF (Nat.le_refl _)
              have HSL := hid (show hsL zF nF link [t, (c : Int)] 1 = [A] by rw [job_hsL (by omega), hA])
              have HPC := hid (show Pp c = decide (A + ((c : Int) * 10 + D) ≤ e) by rw [HPP.out, hA])
              rw [← hA] at hab
              obtain ⟨ha0, ha1⟩ := hab
              have hA0 : 0 ≤ A := by omega
              have hA1 : A ≤ 10000 := by omega
              clear hA ha0 ha1
              have d0 : decide (0 < c) = true := decide_eq_true hc0
              have hs1 : IntKind.i64.wrap ((c : Int) * 10) = (c : Int) * 10 := IntWalk.i64_in _ (by omega)
              have hs2 : IntKind.i64.wrap (A + (c : Int) * 10) = A + (c : Int) * 10 := IntWalk.i64_in _ (by omega)
              have hs3 : IntKind.i64.wrap (A + (c : Int) * 10 + D) = A + (c : Int) * 10 + D := IntWalk.i64_in _ (by omega)
              go_wp2_with (fail)
              have SK0 := SKP.out wr.drew (by repeat (first | exact Ext.refl _ | assumption | refine Ext.alloc ?_ _ | refine Ext.drew ?_ | refine Ext.drewN ?_ _ | refine Ext.setCell ?_ (by first | exact Nat.le_refl _ | (simp; done) | (dsimp only; omega) | (simp only [World.size_alloc, World.size_setCell]; omega)) _ | refine Ext.trans ?_ (by assumption)))
              refine wp_region_noPanic ?_
              refine wp_region_held_drew (S := (fun W => W.cell? ⟨bg, 1, none⟩ = some (.slice (some ⟨bL, oL, none⟩) nL cL) ∧ W.cell? ⟨bL, oL + link.toNat * 3 + 2, none⟩ = some (.int .i64 D))) (by kernel_rfl) ?_ (fun hHeld => ?_)
              · first | exact SK0 | (dsimp only; exact SK0)
              refine wpAnyH_take (i := 0) (oi := { dst := some 37, op := _, type := _, pos := _, after := _, guard := _ }) (v := ?_) rfl (by kernel_rfl) (by kernel_rfl) (by kernel_rfl) (fun _ _ _ h => h) (Or.inl ⟨by rfl, ?_⟩) (by assumption) ?_
              rotate_left
              · (intro w hSw; (try dsimp only at hSw); go_simp) <;> (first | done | with_reducible rfl | rfl)
              try simp only [Act.put, List.setIfInBounds_toArray, List.set_cons_zero, List.set_cons_succ]
              refine wpAnyH_take (i := 1) (oi := { dst := some 38, op := _, type := _, pos := _, after := _, guard := _ }) (v := ?_) rfl (by kernel_rfl) (by kernel_rfl) (by kernel_rfl) (fun _ _ _ h => h) (Or.inl ⟨by rfl, ?_⟩) (by assumption) ?_
              rotate_left
              · (intro w hSw; (try dsimp only at hSw); go_simp) <;> (first | done | with_reducible rfl | rfl)
              try simp only [Act.put, List.setIfInBounds_toArray, List.set_cons_zero, List.set_cons_succ]
              refine wpAnyH_take (i := 2) (oi := { dst := some 39, op := _, type := _, pos := _, after := _, guard := _ }) (v := ?_) rfl (by kernel_rfl) (by kernel_rfl) (by kernel_rfl) (fun _ _ _ h => h) (Or.inl ⟨by rfl, ?_⟩) (by assumption) ?_
              rotate_left
              · (intro w hSw; (try dsimp only at hSw); go_simp) <;> (first | done | with_reducible rfl | rfl)
              try simp only [Act.put, List.setIfInBounds_toArray, List.set_cons_zero, List.set_cons_succ]
              refine wpAnyH_take (i := 3) (oi := { dst := some 40, op := _, type := _, pos := _, after := _, guard := _ }) (v := ?_) rfl (by kernel_rfl) (by kernel_rfl) (by kernel_rfl) (fun _ _ _ h => h) (Or.inl ⟨by rfl, ?_⟩) (by assumption) ?_
              rotate_left
              · (intro w hSw; (try dsimp only at hSw); go_simp) <;> (first | done | with_reducible rfl | rfl)
              try simp only [Act.put, List.setIfInBounds_toArray, List.set_cons_zero, List.set_cons_succ]
              refine wpAnyH_take (i := 4) (oi := { dst := some 41, op := _, type := _, pos := _, after := _, guard := _ }) (v := ?_) rfl (by kernel_rfl) (by kernel_rfl) (by kernel_rfl) (fun _ _ _ h => h) (Or.inl ⟨by rfl, ?_⟩) (by assumption) ?_
              rotate_left
              · (intro w hSw; (try dsimp only at hSw); go_simp) <;> (first | done | with_reducible rfl | rfl)
              try simp only [Act.put, List.setIfInBounds_toArray, List.set_cons_zero, List.set_cons_succ]
              refine wpAnyH_take (i := 9) (oi := { dst := some 46, op := _, type := _, pos := _, after := _, guard := _ }) (v := ?_) rfl (by kernel_rfl) (by kernel_rfl) (by kernel_rfl) (fun _ _ _ h => h) (Or.inl ⟨by rfl, ?_⟩) (by assumption) ?_
              rotate_left
              · (intro w hSw; (try dsimp only at hSw); go_simp) <;> (first | done | with_reducible rfl | rfl)
              try simp only [Act.put, List.setIfInBounds_toArray, List.set_cons_zero, List.set_cons_succ]
              refine wpAnyH_take (i := 10) (oi := { dst := some 47, op := _, type := _, pos := _, after := _, guard := _ }) (v := ?_) rfl (by kernel_rfl) (by kernel_rfl) (by kernel_rfl) (fun _ _ _ h => h) (Or.inl ⟨by rfl, ?_⟩) (by assumption) ?_
              rotate_left
              · (intro w hSw; (try dsimp only at hSw); go_simp) <;> (first | done | with_reducible rfl | rfl)
              try simp only [Act.put, List.setIfInBounds_toArray, List.set_cons_zero, List.set_cons_succ]
              refine wpAnyH_take (i := 12) (oi := { dst := some 49, op := _, type := _, pos := _, after := _, guard := _ }) (v := ?_) rfl (by kernel_rfl) (by kernel_rfl) (by kernel_rfl) (fun _ _ _ h => h) (Or.inl ⟨by rfl, ?_⟩) (by assumption) ?_
              rotate_left
              · (intro w hSw; (try dsimp only at hSw); go_simp) <;> (first | done | with_reducible rfl | rfl)
              try simp only [Act.put, List.setIfInBounds_toArray, List.set_cons_zero, List.set_cons_succ]
              refine wpAnyH_take (i := 13) (oi := { dst := some 50, op := _, type := _, pos := _, after := _, guard := _ }) (v := ?_) rfl (by kernel_rfl) (by kernel_rfl) (by kernel_rfl) (fun _ _ _ h => h) (Or.inl ⟨by rfl, ?_⟩) (by assumption) ?_
              rotate_left
              · (intro w hSw; (try dsimp only at hSw); go_simp) <;> (first | done | with_reducible rfl | rfl)
              try simp only [Act.put, List.setIfInBounds_toArray, List.set_cons_zero, List.set_cons_succ]
              refine wpAnyH_take (i := 14) (oi := { dst := some 51, op := _, type := _, pos := _, after := _, guard := _ }) (v := ?_) rfl (by kernel_rfl) (by kernel_rfl) (by kernel_rfl) (fun _ _ _ h => h) (Or.inl ⟨by rfl, ?_⟩) (by assumption) ?_
              rotate_left
              · (intro w hSw; (try dsimp only at hSw); go_simp) <;> (first | done | with_reducible rfl | rfl)
              try simp only [Act.put, List.setIfInBounds_toArray, List.set_cons_zero, List.set_cons_succ]
              refine wpAnyH_take (i := 15) (oi := { dst := some 52, op := _, type := _, pos := _, after := _, guard := _ }) (v := ?_) rfl (by kernel_rfl) (by kernel_rfl) (by kernel_rfl) (fun _ _ _ h => h) (Or.inl ⟨by rfl, ?_⟩) (by assumption) ?_
              rotate_left
              · (intro w hSw; (try dsimp only at hSw); go_simp) <;> (first | done | with_reducible rfl | rfl)
              try simp only [Act.put, List.setIfInBounds_toArray, List.set_cons_zero, List.set_cons_succ]
              refine wpAnyH_take (i := 16) (oi := { dst := some 53, op := _, type := _, pos := _, after := _, guard := _ }) (v := ?_) rfl (by kernel_rfl) (by kernel_rfl) (by kernel_rfl) (fun _ _ _ h => h) (Or.inl ⟨by rfl, ?_⟩) (by assumption) ?_
              rotate_left
              · (intro w hSw; (try dsimp only at hSw); go_simp) <;> (first | done | with_reducible rfl | rfl)
              try simp only [Act.put, List.setIfInBounds_toArray, List.set_cons_zero, List.set_cons_succ]
              refine wpAnyH_take (i := 17) (oi := { dst := some 54, op := _, type := _, pos := _, after := _, guard := _ }) (v := ?_) rfl (by kernel_rfl) (by kernel_rfl) (by kernel_rfl) (fun _ _ _ h => h) (Or.inl ⟨by rfl, ?_⟩) (by assumption) ?_
              rotate_left
              · (intro w hSw; (try dsimp only at hSw); go_simp) <;> (first | done | with_reducible rfl | rfl)
              try simp only [Act.put, List.setIfInBounds_toArray, List.set_cons_zero, List.set_cons_succ]
              refine wpAnyH_take (i := 19) (oi := { dst := some 56, op := _, type := _, pos := _, after := _, guard := _ }) (v := ?_) rfl (by kernel_rfl) (by kernel_rfl) (by kernel_rfl) (fun _ _ _ h => h) (Or.inl ⟨by rfl, ?_⟩) (by assumption) ?_
              rotate_left
              · (intro w hSw; (try dsimp only at hSw); go_simp) <;> (first | done | with_reducible rfl | rfl)
              try simp only [Act.put, List.setIfInBounds_toArray, List.set_cons_zero, List.set_cons_succ]
              refine wpAnyH_ready (rs := [5]) (by kernel_rfl) (by simp) ?_
              refine AllReadyH.cons (o := { dst := some 42, op := _, type := _, pos := _, after := _, guard := _ }) rfl (fun K hK => ?_) AllReadyH.nil
              go_simp
              skip
              refine hK.out _ _ ?_ (fun hHeld => ?_)
              · first | exact SKP.out _ (by repeat (first | exact Ext.refl _ | assumption | refine Ext.alloc ?_ _ | refine Ext.drew ?_ | refine Ext.drewN ?_ _ | refine Ext.setCell ?_ (by first | exact Nat.le_refl _ | (simp; done) | (dsimp only; omega) | (simp only [World.size_alloc, World.size_setCell]; omega)) _ | refine Ext.trans ?_ (by assumption))) | (dsimp only; exact SKP.out _ (by repeat (first | exact Ext.refl _ | assumption | refine Ext.alloc ?_ _ | refine Ext.drew ?_ | refine Ext.drewN ?_ _ | refine Ext.setCell ?_ (by first | exact Nat.le_refl _ | (simp; done) | (dsimp only; omega) | (simp only [World.size_alloc, World.size_setCell]; omega)) _ | refine Ext.trans ?_ (by assumption))))
              clear hK K
              try simp only [Act.put, List.setIfInBounds_toArray, List.set_cons_zero, List.set_cons_succ]
              refine wpAnyH_ready (rs := [6]) (by kernel_rfl) (by simp) ?_
              refine AllReadyH.cons (o := { dst := some 43, op := _, type := _, pos := _, after := _, guard := _ }) rfl (fun K hK => ?_) AllReadyH.nil
              go_simp
              go_at_call 33
              refine (holdStarts_any _ nF zF link _ 1 [t, (c : Int)] _ nL (hFb.ext (by repeat (first | exact Ext.refl _ | assumption | refine Ext.alloc ?_ _ | refine Ext.drew ?_ | refine Ext.drewN ?_ _ | refine Ext.setCell ?_ (by first | exact Nat.le_refl _ | (simp; done) | (dsimp only; omega) | (simp only [World.size_alloc, World.size_setCell]; omega)) _ | refine Ext.trans ?_ (by assumption)))) (lit_job wr.drew t (c : Int) _ (small_wf (by omega) (by omega)) (small_wf (by omega) (by omega))) HOK HJ1).mono ?_
              rintro e' w5 ⟨v5, rfl, hr5, hb5⟩
              obtain ⟨aS, cS, rfl, hnS, hcS, hgS⟩ := row_shape hr5
              obtain ⟨gS, rfl, hgS1, hgS2⟩ := hgS.resolve_left (by omega)
              have c5 := hr5.cellAt 0 (by omega)
              rw [HSL.out] at c5
              replace c5 : w5.cell? ⟨gS, 0, none⟩ = some (.int .i64 A) := c5
              have hE5 : Ext wb w5 := (by repeat (first | exact Ext.refl _ | assumption | refine Ext.alloc ?_ _ | refine Ext.drew ?_ | refine Ext.drewN ?_ _ | refine Ext.setCell ?_ (by first | exact Nat.le_refl _ | (simp; done) | (dsimp only; omega) | (simp only [World.size_alloc, World.size_setCell]; omega)) _ | refine Ext.trans ?_ (by assumption)))
              have SK := SKP.out w5 hE5
              refine hK.out _ _ ?_ (fun hHeld => ?_)
              · first | exact SK | (dsimp only; exact SK)
              clear hK K
              try simp only [Act.put, List.setIfInBounds_toArray, List.set_cons_zero, List.set_cons_succ]
              refine wpAnyH_take (i := 7) (oi := { dst := some 44, op := _, type := _, pos := _, after := _, guard := _ }) (v := ?_) rfl (by kernel_rfl) (by kernel_rfl) (by kernel_rfl) (fun _ _ _ h => h) (Or.inl ⟨by rfl, ?_⟩) (by assumption) ?_
              rotate_left
              · (intro w hSw; (try dsimp only at hSw); go_simp) <;> (first | done | with_reducible rfl | rfl)
              try simp only [Act.put, List.setIfInBounds_toArray, List.set_cons_zero, List.set_cons_succ]
              refine wpAnyH_ready (rs := [8]) (by kernel_rfl) (by simp) ?_
              refine AllReadyH.cons (o := { dst := some 45, op := _, type := _, pos := _, after := _, guard := _ }) rfl (fun K hK => ?_) AllReadyH.nil
              go_simp
              skip
              refine hK.out _ _ ?_ (fun hHeld => ?_)
              · first | exact SK | (dsimp only; exact SK)
              clear hK K
              try simp only [Act.put, List.setIfInBounds_toArray, List.set_cons_zero, List.set_cons_succ]
              refine wpAnyH_take (i := 11) (oi := { dst := some 48, op := _, type := _, pos := _, after := _, guard := _ }) (v := ?_) rfl (by kernel_rfl) (by kernel_rfl) (by kernel_rfl) (fun _ _ _ h => h) (Or.inl ⟨by rfl, ?_⟩) (by assumption) ?_
              rotate_left
              · (intro w hSw; (try dsimp only at hSw); go_simp) <;> (first | done | with_reducible rfl | rfl)
              try simp only [Act.put, List.setIfInBounds_toArray, List.set_cons_zero, List.set_cons_succ]
              refine wpAnyH_take (i := 18) (oi := { dst := some 55, op := _, type := _, pos := _, after := _, guard := _ }) (v := ?_) rfl (by kernel_rfl) (by kernel_rfl) (by kernel_rfl) (fun _ _ _ h => h) (Or.inl ⟨by rfl, ?_⟩) (by assumption) ?_
              rotate_left
              · (intro w hSw; (try dsimp only at hSw); go_simp) <;> (first | done | with_reducible rfl | rfl)
              try simp only [Act.put, List.setIfInBounds_toArray, List.set_cons_zero, List.set_cons_succ]
              refine wpAnyH_take (i := 20) (oi := { dst := some 57, op := _, type := _, pos := _, after := _, guard := _ }) (v := ?_) rfl (by kernel_rfl) (by kernel_rfl) (by kernel_rfl) (fun _ _ _ h => h) (Or.inl ⟨by rfl, ?_⟩) (by assumption) ?_
              rotate_left
              · (intro w hSw; (try dsimp only at hSw); go_simp) <;> (first | done | with_reducible rfl | rfl)
              try simp only [Act.put, List.setIfInBounds_toArray, List.set_cons_zero, List.set_cons_succ]
              refine wpAnyH_done (by kernel_rfl) ?_ _
              refine NoPanic.normal ?_
              clear hs1 hs2 hs3
              by_cases hq : A + (c : Int) * 10 + D ≤ e
              · have dq : decide (A + (c : Int) * 10 + D ≤ e) = true := decide_eq_true hq
                have HV := hid (show NN = c by
                  rw [HNC.out]
                  obtain ⟨c', rfl⟩ : ∃ c', c = c' + 1 := ⟨c - 1, by omega⟩
                  rw [lcF, HPC.out, if_pos (by simp; omega)])
                go_wp2_with (fail)
                go_ret2
                rw [HV.out, d0]
                exact ⟨rfl, EW.trans hE5⟩
              · have dq : decide (A + (c : Int) * 10 + D ≤ e) = false := decide_eq_false hq
                have HV := hid (show NN = lcF Pp (c - 1) by
                  rw [HNC.out]
                  obtain ⟨c', rfl⟩ : ∃ c', c = c' + 1 := ⟨c - 1, by omega⟩
                  rw [lcF, HPC.out, if_neg (by simp; omega)]
                  rfl)
                go_wp2_with (fail)
                go_roundw
                case rel => exact ⟨c - 1, by omega, by congr 1; omega, HV.out, hE5⟩
                case measure => simp [intOf]; omega
            · obtain rfl : c = 0 := by omega
              have HV := hid (show NN = 0 from HNC.out)
              go_wp2_with (fail)
              go_ret2
              rw [HV.out]
              exact ⟨rfl, EW.trans hE⟩


set_option maxRecDepth 100000 in
set_option maxHeartbeats 4000000 in
theorem sLastCount_any (v : Value) (nT : Nat) (zT : List Int) (nL : Nat) (zL : List Int) (u : Value) (nF : Nat) (zF : List Int) (link t e : Int) (w : World) (hN : NetRow w v nT zT nL zL) (hF : IntRow .i64 3 w u nF zF) :
    Calls Try.prog 18 #[v, u, .int .i64 link, .int .i64 t, .int .i64 e] w fun e' w' => e' = .returned (.tuple #[.int .i64 (lcV nT zT nL zL zF nF link t e), .bool (lcO nT zT nL zL zF nF link t e)]) ∧ Ext w w' := by
  have hN0 := hN
  have hF0 := hF
  obtain ⟨vT, vL, rfl, hT, hL⟩ := hN
  obtain ⟨_, hmT, _, aT, cT, rfl, _, _, _⟩ := hT
  have hLI := hL
  obtain ⟨_, hmL, _, aL, cL, rfl, _, _, _⟩ := hL
  obtain ⟨_, _, _, aF, cF, rfl, _, _, _⟩ := hF
  have hnL : nL ≤ 9223372036854775807 := by unfold maxLen at hmL; omega
  clear hmT hmL
  cases h0 : (okNet nT zT nL zL && (okFg nL zF nF && inR link 0 ((nL : Int) - 1))) with
  | false =>
    have H0 := hid h0
    have HC := hid (show lcC nT zT nL zL zF nF link t e = false by unfold lcC askH; simp [H0.out])
    clear h0
    rw [show lcV nT zT nL zL zF nF link t e = 0 by unfold lcV; rw [HC.out]; rfl, show lcO nT zT nL zL zF nF link t e = false by unfold lcO; rw [HC.out]; rfl]
    go_enter Try.func18, Try.ntmps18
    have D0 := fun (W : World) (hW : Ext w W) => fgHas_any _ nT zT nL zL _ nF zF link W (hN0.ext hW) (hF0.ext hW)
    rw [H0.out] at D0
    go_wp2_with (fail)
    refine (D0 _ (by repeat (first | exact Ext.refl _ | assumption | refine Ext.alloc ?_ _ | refine Ext.drew ?_ | refine Ext.drewN ?_ _ | refine Ext.setCell ?_ (by first | exact Nat.le_refl _ | (simp; done) | (dsimp only; omega) | (simp only [World.size_alloc, World.size_setCell]; omega)) _ | refine Ext.trans ?_ (by assumption)))).mono ?_
    rintro e w1 ⟨rfl, hb1⟩
    have hz1 := Ext.size hb1
    try simp only [World.size_alloc, World.size_setCell] at hz1
    obtain ⟨hc1, hf1⟩ := Ext.cells hb1
    try have hk1_0_0 := fun o => hc1 (w.heap.size) o (by (try simp only [World.size_alloc, World.size_setCell]); omega)
    try have hj1_0_0 := fun o => hf1 (w.heap.size) o (by (try simp only [World.size_alloc, World.size_setCell]); omega)
    try have hy1_0_0 : w.heap.size < w1.heap.size := by omega
    try have hk1_0_1 := fun o => hc1 (w.heap.size + 1) o (by (try simp only [World.size_alloc, World.size_setCell]); omega)
    try have hj1_0_1 := fun o => hf1 (w.heap.size + 1) o (by (try simp only [World.size_alloc, World.size_setCell]); omega)
    try have hy1_0_1 : w.heap.size + 1 < w1.heap.size := by omega
    try have hk1_0_2 := fun o => hc1 (w.heap.size + 1 + 1) o (by (try simp only [World.size_alloc, World.size_setCell]); omega)
    try have hj1_0_2 := fun o => hf1 (w.heap.size + 1 + 1) o (by (try simp only [World.size_alloc, World.size_setCell]); omega)
    try have hy1_0_2 : w.heap.size + 1 + 1 < w1.heap.size := by omega
    clear hc1 hf1
    clear D0
    go_wp2_with (fail)
    go_ret2
    exact ⟨rfl, (by repeat (first | exact Ext.refl _ | assumption | refine Ext.alloc ?_ _ | refine Ext.drew ?_ | refine Ext.drewN ?_ _ | refine Ext.setCell ?_ (by first | exact Nat.le_refl _ | (simp; done) | (dsimp only; omega) | (simp only [World.size_alloc, World.size_setCell]; omega)) _ | refine Ext.trans ?_ (by assumption)))⟩
  | true =>
    have H0 := hid h0
    clear h0
    cases h1 : inR t 0 10000 with
    | false =>
      have H1 := hid h1
      have HC := hid (show lcC nT zT nL zL zF nF link t e = false by unfold lcC askH; simp [H0.out, H1.out])
      clear h1
      rw [show lcV nT zT nL zL zF nF link t e = 0 by unfold lcV; rw [HC.out]; rfl, show lcO nT zT nL zL zF nF link t e = false by unfold lcO; rw [HC.out]; rfl]
      go_enter Try.func18, Try.ntmps18
      have D0 := fun (W : World) (hW : Ext w W) => fgHas_any _ nT zT nL zL _ nF zF link W (hN0.ext hW) (hF0.ext hW)
      rw [H0.out] at D0
      go_wp2_with (fail)
      refine (D0 _ (by repeat (first | exact Ext.refl _ | assumption | refine Ext.alloc ?_ _ | refine Ext.drew ?_ | refine Ext.drewN ?_ _ | refine Ext.setCell ?_ (by first | exact Nat.le_refl _ | (simp; done) | (dsimp only; omega) | (simp only [World.size_alloc, World.size_setCell]; omega)) _ | refine Ext.trans ?_ (by assumption)))).mono ?_
      rintro e w1 ⟨rfl, hb1⟩
      have hz1 := Ext.size hb1
      try simp only [World.size_alloc, World.size_setCell] at hz1
      obtain ⟨hc1, hf1⟩ := Ext.cells hb1
      try have hk1_0_0 := fun o => hc1 (w.heap.size) o (by (try simp only [World.size_alloc, World.size_setCell]); omega)
      try have hj1_0_0 := fun o => hf1 (w.heap.size) o (by (try simp only [World.size_alloc, World.size_setCell]); omega)
      try have hy1_0_0 : w.heap.size < w1.heap.size := by omega
      try have hk1_0_1 := fun o => hc1 (w.heap.size + 1) o (by (try simp only [World.size_alloc, World.size_setCell]); omega)
      try have hj1_0_1 := fun o => hf1 (w.heap.size + 1) o (by (try simp only [World.size_alloc, World.size_setCell]); omega)
      try have hy1_0_1 : w.heap.size + 1 < w1.heap.size := by omega
      try have hk1_0_2 := fun o => hc1 (w.heap.size + 1 + 1) o (by (try simp only [World.size_alloc, World.size_setCell]); omega)
      try have hj1_0_2 := fun o => hf1 (w.heap.size + 1 + 1) o (by (try simp only [World.size_alloc, World.size_setCell]); omega)
      try have hy1_0_2 : w.heap.size + 1 + 1 < w1.heap.size := by omega
      clear hc1 hf1
      clear D0
      go_wp2_with (fail)
      refine (fgTime_any t _).mono ?_
      rw [H1.out]
      rintro e' w' ⟨rfl, rfl⟩
      go_wp2_with (fail)
      go_ret2
      exact ⟨rfl, (by repeat (first | exact Ext.refl _ | assumption | refine Ext.alloc ?_ _ | refine Ext.drew ?_ | refine Ext.drewN ?_ _ | refine Ext.setCell ?_ (by first | exact Nat.le_refl _ | (simp; done) | (dsimp only; omega) | (simp only [World.size_alloc, World.size_setCell]; omega)) _ | refine Ext.trans ?_ (by assumption)))⟩
    | true =>
      have H1 := hid h1
      clear h1
      cases h2 : inR e 0 10000 with
      | false =>
        have H2 := hid h2
        have HC := hid (show lcC nT zT nL zL zF nF link t e = false by unfold lcC askH; simp [H0.out, H1.out, H2.out])
        clear h2
        rw [show lcV nT zT nL zL zF nF link t e = 0 by unfold lcV; rw [HC.out]; rfl, show lcO nT zT nL zL zF nF link t e = false by unfold lcO; rw [HC.out]; rfl]
        go_enter Try.func18, Try.ntmps18
        have D0 := fun (W : World) (hW : Ext w W) => fgHas_any _ nT zT nL zL _ nF zF link W (hN0.ext hW) (hF0.ext hW)
        rw [H0.out] at D0
        go_wp2_with (fail)
        refine (D0 _ (by repeat (first | exact Ext.refl _ | assumption | refine Ext.alloc ?_ _ | refine Ext.drew ?_ | refine Ext.drewN ?_ _ | refine Ext.setCell ?_ (by first | exact Nat.le_refl _ | (simp; done) | (dsimp only; omega) | (simp only [World.size_alloc, World.size_setCell]; omega)) _ | refine Ext.trans ?_ (by assumption)))).mono ?_
        rintro e w1 ⟨rfl, hb1⟩
        have hz1 := Ext.size hb1
        try simp only [World.size_alloc, World.size_setCell] at hz1
        obtain ⟨hc1, hf1⟩ := Ext.cells hb1
        try have hk1_0_0 := fun o => hc1 (w.heap.size) o (by (try simp only [World.size_alloc, World.size_setCell]); omega)
        try have hj1_0_0 := fun o => hf1 (w.heap.size) o (by (try simp only [World.size_alloc, World.size_setCell]); omega)
        try have hy1_0_0 : w.heap.size < w1.heap.size := by omega
        try have hk1_0_1 := fun o => hc1 (w.heap.size + 1) o (by (try simp only [World.size_alloc, World.size_setCell]); omega)
        try have hj1_0_1 := fun o => hf1 (w.heap.size + 1) o (by (try simp only [World.size_alloc, World.size_setCell]); omega)
        try have hy1_0_1 : w.heap.size + 1 < w1.heap.size := by omega
        try have hk1_0_2 := fun o => hc1 (w.heap.size + 1 + 1) o (by (try simp only [World.size_alloc, World.size_setCell]); omega)
        try have hj1_0_2 := fun o => hf1 (w.heap.size + 1 + 1) o (by (try simp only [World.size_alloc, World.size_setCell]); omega)
        try have hy1_0_2 : w.heap.size + 1 + 1 < w1.heap.size := by omega
        clear hc1 hf1
        clear D0
        go_wp2_with (fail)
        refine (fgTime_any t _).mono ?_
        rw [H1.out]
        rintro e' w' ⟨rfl, rfl⟩
        go_wp2_with (fail)
        refine (fgTime_any e _).mono ?_
        rw [H2.out]
        rintro e' w' ⟨rfl, rfl⟩
        go_wp2_with (fail)
        go_ret2
        exact ⟨rfl, (by repeat (first | exact Ext.refl _ | assumption | refine Ext.alloc ?_ _ | refine Ext.drew ?_ | refine Ext.drewN ?_ _ | refine Ext.setCell ?_ (by first | exact Nat.le_refl _ | (simp; done) | (dsimp only; omega) | (simp only [World.size_alloc, World.size_setCell]; omega)) _ | refine Ext.trans ?_ (by assumption)))⟩
      | true =>
        have H2 := hid h2
        clear h2
        have HC := hid (show lcC nT zT nL zL zF nF link t e = true by unfold lcC askH; simp [H0.out, H1.out, H2.out])
        rw [show lcV nT zT nL zL zF nF link t e = (lcN zL zF nF link t e : Int) by unfold lcV; rw [HC.out]; rfl, show lcO nT zT nL zL zF nF link t e = decide (0 < lcN zL zF nF link t e) by unfold lcO; rw [HC.out]; rfl]
        obtain ⟨hNET, hOK, ⟨hl0, hl1⟩, ⟨ht0, ht1⟩, he0, he1⟩ := lcC_iff HC.out
        obtain ⟨D, hD⟩ : ∃ D, D = f3c zL link.toNat := ⟨_, rfl⟩
        have hdb := (okNet_iff hNET).2.2 link.toNat (by omega)
        rw [← hD] at hdb
        obtain ⟨_, _, _, hd1, hd2⟩ := hdb
        have HD := hid hD
        have HOK := hid hOK
        obtain ⟨Pp, hP⟩ : ∃ P, P = lcP zF nF link D t e := ⟨_, rfl⟩
        have HLN := hid (show lcN zL zF nF link t e = lcF Pp 80 by unfold lcN; rw [← hD, ← hP])
        have HPP := hid (fun c => show Pp c = decide (stF zF link ((c : Int) * 10) nF t + ((c : Int) * 10 + D) ≤ e) by rw [hP]; rfl)
        rw [HLN.out]
        have HLE := lcF_le Pp 80
        obtain ⟨NN, hNN⟩ : ∃ n, n = lcF Pp 80 := ⟨_, rfl⟩
        rw [← hNN] at HLE ⊢
        have HNN := hid hNN
        clear hNET hOK hD hP hNN
        go_enter Try.func18, Try.ntmps18
        have D0 := fun (W : World) (hW : Ext w W) => fgHas_any _ nT zT nL zL _ nF zF link W (hN0.ext hW) (hF0.ext hW)
        rw [H0.out] at D0
        go_wp2_with (fail)
        refine (D0 _ (by repeat (first | exact Ext.refl _ | assumption | refine Ext.alloc ?_ _ | refine Ext.drew ?_ | refine Ext.drewN ?_ _ | refine Ext.setCell ?_ (by first | exact Nat.le_refl _ | (simp; done) | (dsimp only; omega) | (simp only [World.size_alloc, World.size_setCell]; omega)) _ | refine Ext.trans ?_ (by assumption)))).mono ?_
        rintro e w1 ⟨rfl, hb1⟩
        have hz1 := Ext.size hb1
        try simp only [World.size_alloc, World.size_setCell] at hz1
        obtain ⟨hc1, hf1⟩ := Ext.cells hb1
        try have hk1_0_0 := fun o => hc1 (w.heap.size) o (by (try simp only [World.size_alloc, World.size_setCell]); omega)
        try have hj1_0_0 := fun o => hf1 (w.heap.size) o (by (try simp only [World.size_alloc, World.size_setCell]); omega)
        try have hy1_0_0 : w.heap.size < w1.heap.size := by omega
        try have hk1_0_1 := fun o => hc1 (w.heap.size + 1) o (by (try simp only [World.size_alloc, World.size_setCell]); omega)
        try have hj1_0_1 := fun o => hf1 (w.heap.size + 1) o (by (try simp only [World.size_alloc, World.size_setCell]); omega)
        try have hy1_0_1 : w.heap.size + 1 < w1.heap.size := by omega
        try have hk1_0_2 := fun o => hc1 (w.heap.size + 1 + 1) o (by (try simp only [World.size_alloc, World.size_setCell]); omega)
        try have hj1_0_2 := fun o => hf1 (w.heap.size + 1 + 1) o (by (try simp only [World.size_alloc, World.size_setCell]); omega)
        try have hy1_0_2 : w.heap.size + 1 + 1 < w1.heap.size := by omega
        clear hc1 hf1
        clear D0
        go_wp2_with (fail)
        refine (fgTime_any t _).mono ?_
        rw [H1.out]
        rintro e' w' ⟨rfl, rfl⟩
        go_wp2_with (fail)
        refine (fgTime_any e _).mono ?_
        rw [H2.out]
        rintro e' w' ⟨rfl, rfl⟩
        have hbg : w.heap.size < w1.heap.size := by omega
        have E0 : Ext (w.alloc (.cells #[.slice aT nT cT, .slice aL nL cL] 27)) w1 := (by repeat (first | exact Ext.refl _ | assumption | refine Ext.alloc ?_ _ | refine Ext.drew ?_ | refine Ext.drewN ?_ _ | refine Ext.setCell ?_ (by first | exact Nat.le_refl _ | (simp; done) | (dsimp only; omega) | (simp only [World.size_alloc, World.size_setCell]; omega)) _ | refine Ext.trans ?_ (by assumption)))
        have NB0 := hid (show w1.cell? ⟨w.heap.size, 0, none⟩ = some (.slice aT nT cT) by rw [(Ext.cells E0).1 _ _ (by simp)]; simp [go_sem])
        have NB := hid (show w1.cell? ⟨w.heap.size, 1, none⟩ = some (.slice aL nL cL) by rw [(Ext.cells E0).1 _ _ (by simp)]; simp [go_sem])
        have EW : Ext w w1 := (by repeat (first | exact Ext.refl _ | assumption | refine Ext.alloc ?_ _ | refine Ext.drew ?_ | refine Ext.drewN ?_ _ | refine Ext.setCell ?_ (by first | exact Nat.le_refl _ | (simp; done) | (dsimp only; omega) | (simp only [World.size_alloc, World.size_setCell]; omega)) _ | refine Ext.trans ?_ (by assumption)))
        have hFb := hF0.ext EW
        have hLb := hLI.ext EW
        have hNb := hN0.ext EW
        go_wp2_with (fail)
        obtain ⟨bg, hbe⟩ : ∃ g, g = w.heap.size := ⟨_, rfl⟩
        obtain ⟨wb, hwb⟩ : ∃ W, W = w1 := ⟨_, rfl⟩
        rw [← hbe, ← hwb] at NB NB0 hbg
        rw [← hwb] at hFb hLb hNb EW
        rw [← hbe, ← hwb]
        clear E0 hb1 hz1 hbe hwb
        obtain ⟨hlL, _, _, aL', cL', he', _, _, hcellL⟩ := hLb
        cases he'
        obtain ⟨bL, oL, rfl, hbL, hcL⟩ := hcellL.resolve_left (by omega)
        have hdl : wb.cell? ⟨bL, oL + link.toNat * 3 + 2, none⟩ = some (.int .i64 D) := by
          rw [show oL + link.toNat * 3 + 2 = oL + (link.toNat * 3 + 2) by omega, hcL _ (by omega), HD.out]
          rfl
        have HDL := hid hdl
        clear hcL hcellL hdl
        go_loopw [12, 13] (fun q1 q wr => ∃ (c : Nat), c ≤ 80 ∧ q = .int .i64 ((c : Int) + 1) ∧ q1 = .int .i64 (lcF Pp c : Nat) ∧ Ext wb wr)
          (fun _ q _ => 81 - (intOf q).toNat)
        case atStart => exact ⟨0, Nat.zero_le _, rfl, rfl, Ext.refl _⟩
        case round =>
          obtain ⟨c, hc80, rfl, rfl, hE⟩ := hrel
          have hle := lcF_le Pp c
          obtain ⟨B, hB⟩ : ∃ B, B = lcF Pp c := ⟨_, rfl⟩
          rw [← hB] at hle ⊢
          have HB := hid hB
          clear hB
          have n0 : wr.cell? ⟨bg, 0, none⟩ = some (.slice aT nT cT) := by rw [(Ext.cells hE).1 _ _ hbg]; exact NB0.out
          have n1 : wr.cell? ⟨bg, 1, none⟩ = some (.slice (some ⟨bL, oL, none⟩) nL cL) := by rw [(Ext.cells hE).1 _ _ hbg]; exact NB.out
          by_cases hlt : c < 80
          · have hHQ := hid (show true = hoC nT zT nL zL zF nF link [t, (c : Int) + 1] 1 by
              unfold hoC askH
              obtain ⟨h1, h2, ⟨h3, h4⟩, _⟩ := lcC_iff HC.out
              rw [h1, h2, inR_iff.2 ⟨h3, by omega⟩, job_okHs (by omega) (by omega) (by omega) (by omega)]
              rfl)
            obtain ⟨A, hA⟩ : ∃ A, A = stF zF link (((c + 1 : Nat) : Int) * 10) nF t := ⟨_, rfl⟩
            have hAA := hid (show haL zF nF link [t, (c : Int) + 1] (f3c zL link.toNat) 1 = [A + (((c : Int) + 1) * 10 + D)] by
              have h1 : haAt zF nF link [t, (c : Int) + 1] (f3c zL link.toNat) 0 = A + (((c : Int) + 1) * 10 + D) := by
                unfold haAt hsAt hsOf
                rw [show hRd [t, (c : Int) + 1] 0 = t from rfl, show hCt [t, (c : Int) + 1] 0 = (c : Int) + 1 from rfl, show hsEnd zF nF link [t, (c : Int) + 1] 0 = 0 from rfl, show mxI t 0 = t by unfold mxI; split <;> omega, ← HD.out, hA]
                rfl
              show [haAt zF nF link [t, (c : Int) + 1] (f3c zL link.toNat) 0] = _
              rw [h1])
            have HPC := hid (show Pp (c + 1) = decide (A + (((c : Int) + 1) * 10 + D) ≤ e) by rw [HPP.out, hA]; rfl)
            clear hA
            go_wp2_with (fail)
            refine (hoArrivals_any _ nT zT nL zL _ nF zF link _ 1 [t, (c : Int) + 1] _ (hNb.ext (by repeat (first | exact Ext.refl _ | assumption | refine Ext.alloc ?_ _ | refine Ext.drew ?_ | refine Ext.drewN ?_ _ | refine Ext.setCell ?_ (by first | exact Nat.le_refl _ | (simp; done) | (dsimp only; omega) | (simp only [World.size_alloc, World.size_setCell]; omega)) _ | refine Ext.trans ?_ (by assumption)))) (hFb.ext (by repeat (first | exact Ext.refl _ | assumption | refine Ext.alloc ?_ _ | refine Ext.drew ?_ | refine Ext.drewN ?_ _ | refine Ext.setCell ?_ (by first | exact Nat.le_refl _ | (simp; done) | (dsimp only; omega) | (simp only [World.size_alloc, World.size_setCell]; omega)) _ | refine Ext.trans ?_ (by assumption)))) (lit_job wr t ((c : Int) + 1) _ (small_wf (by omega) (by omega)) (small_wf (by omega) (by omega))) hHQ).mono ?_
            rw [hAA.out]
            rintro e' w5 ⟨v5, rfl, hr5, hb5⟩
            obtain ⟨aS, cS, rfl, hnS, hcS, hgS⟩ := row_shape hr5
            obtain ⟨gS, rfl, hgS1, hgS2⟩ := hgS.resolve_left (by omega)
            have c5 := hr5.cellAt 0 (by omega)
            obtain ⟨X, hX⟩ : ∃ X, X = A + (((c : Int) + 1) * 10 + D) := ⟨_, rfl⟩
            rw [← hX] at c5 HPC
            replace c5 : w5.cell? ⟨gS, 0, none⟩ = some (.int .i64 X) := c5
            have hE5 : Ext wb w5 := (by repeat (first | exact Ext.refl _ | assumption | refine Ext.alloc ?_ _ | refine Ext.drew ?_ | refine Ext.drewN ?_ _ | refine Ext.setCell ?_ (by first | exact Nat.le_refl _ | (simp; done) | (dsimp only; omega) | (simp only [World.size_alloc, World.size_setCell]; omega)) _ | refine Ext.trans ?_ (by assumption)))
            clear hX hr5 hb5 hE
            by_cases hq : X ≤ e
            · have dq : decide (X ≤ e) = true := decide_eq_true hq
              have HV := hid (show lcF Pp (c + 1) = c + 1 by rw [lcF, HPC.out, if_pos dq])
              go_wp2_with (fail)
              go_roundw
              case rel => exact ⟨c + 1, by omega, by go_num, by rw [HV.out]; go_num, hE5⟩
              case measure => simp [intOf]; omega
            · have dq : decide (X ≤ e) = false := decide_eq_false hq
              have HV := hid (show lcF Pp (c + 1) = B by rw [lcF, HPC.out, if_neg (by rw [dq]; simp), HB.out])
              go_wp2_with (fail)
              go_roundw
              case rel => exact ⟨c + 1, by omega, by go_num, by rw [HV.out], hE5⟩
              case measure => simp [intOf]; omega
          · obtain rfl : c = 80 := by omega
            have HV := hid (show NN = B by rw [HNN.out, HB.out])
            by_cases hB0 : B = 0
            · have HB0 := hid hB0
              have db : ((B : Int) == 0) = true := by simp [hB0]
              clear hB0
              go_wp2_with (fail)
              go_ret2
              rw [HV.out, HB0.out]
              exact ⟨rfl, EW.trans hE⟩
            · have db : ((B : Int) == 0) = false := by simp [hB0]
              have hd := hid (show decide (0 < B) = true by simp; omega)
              go_wp2_with (fail)
              go_ret2
              rw [HV.out, hd.out]
              exact ⟨rfl, EW.trans hE⟩


end Go.Proofs.Ytjmbhlhkjjinbaa